/- Lines of patches, read by the program; patches read by the program. Nothing is assumed. -/
import Derived.Test.YtefdfdkkbbehiaaGreatDoorPpS6
namespace Go.Am.Pp
set_option linter.unusedVariables false
set_option linter.unusedSimpArgs false
set_option maxRecDepth 8000
theorem eqW {w : List UInt8} {t : ByteArray} {l : List UInt8} (h : t.toList = l) : bytesEq (bOf w) t = decide (w = l) := by
 rw [Bool.eq_iff_iff]
 simp only [bytesEq, bOf_list, h]
 simp
theorem lt3 : ({ data := #[115, 101, 116] } : ByteArray).toList = [115, 101, 116] := by rw [ByteArray.toList_eq]
theorem lt4 : ({ data := #[100, 114, 111, 112] } : ByteArray).toList = [100, 114, 111, 112] := by rw [ByteArray.toList_eq]
theorem lt5 : ({ data := #[110, 101, 101, 100] } : ByteArray).toList = [110, 101, 101, 100] := by rw [ByteArray.toList_eq]
theorem f57 (w : List UInt8) : Ev fs 57 [.d (.s 1 ([[.v (.string ({ data := #[115, 101, 116] } : ByteArray))], [.v (.string ({ data := #[100, 114, 111, 112] } : ByteArray))], [.v (.string ({ data := #[110, 101, 101, 100] } : ByteArray))]] : Rows)), .d (.v (.string (bOf w)))] (io (kindW w - 1)) := by
 refine Ev.of (af := a57) rfl rfl (Evt.congr (fun d n => a57q ..) ?_)
 have e3 := eqW (w := w) lt3
 have e4 := eqW (w := w) lt4
 have e5 := eqW (w := w) lt5
 have lp : Evt (fun d n => l57x0 (TabD fs d) d n [.fz 1 ([[.v (.string ({ data := #[115, 101, 116] } : ByteArray))], [.v (.string ({ data := #[100, 114, 111, 112] } : ByteArray))], [.v (.string ({ data := #[110, 101, 101, 100] } : ByteArray))]] : Rows), .v (.string (bOf w)), .v (.int .i64 ((([[.v (.string ({ data := #[115, 101, 116] } : ByteArray))], [.v (.string ({ data := #[100, 114, 111, 112] } : ByteArray))], [.v (.string ({ data := #[110, 101, 101, 100] } : ByteArray))]] : Rows).length : Nat) : Int)), .v (.int .i64 0)]) (if w = [115, 101, 116] then (.ret, [.v (.int .i64 0)]) else if w = [100, 114, 111, 112] then (.ret, [.v (.int .i64 1)]) else if w = [110, 101, 101, 100] then (.ret, [.v (.int .i64 2)]) else (.exit 0, [])) := by
  refine ev_succ ?_
  simp only [l57x0s]
  simp -implicitDefEqProofs only [rdl, Ex.same, Nat.beq, show decide ((0 : Int) < ((([[.v (.string ({ data := #[115, 101, 116] } : ByteArray))], [.v (.string ({ data := #[100, 114, 111, 112] } : ByteArray))], [.v (.string ({ data := #[110, 101, 101, 100] } : ByteArray))]] : Rows).length : Nat) : Int)) = true from rfl]
  try refine ev_tst (by decide) ?_
  simp -implicitDefEqProofs only [rdl, Ex.same, Nat.beq, show Int.toNat 0 = 0 from rfl, look_at (show ([[.v (.string ({ data := #[115, 101, 116] } : ByteArray))], [.v (.string ({ data := #[100, 114, 111, 112] } : ByteArray))], [.v (.string ({ data := #[110, 101, 101, 100] } : ByteArray))]] : Rows)[0]? = some [.v (.string ({ data := #[115, 101, 116] } : ByteArray))] from rfl), e3, show IntKind.i64.wrap ((0 : Int) + 1) = 1 from by decide]
  by_cases h1 : w = [115, 101, 116]
  ·rw [decide_eq_true h1, if_pos h1]
   exact Evt.ret
  ·rw [decide_eq_false h1, if_neg h1]
   simp -implicitDefEqProofs only [rdl, Ex.same, Nat.beq]
   refine ev_succ ?_
   simp only [l57x0s]
   simp -implicitDefEqProofs only [rdl, Ex.same, Nat.beq, show decide ((1 : Int) < ((([[.v (.string ({ data := #[115, 101, 116] } : ByteArray))], [.v (.string ({ data := #[100, 114, 111, 112] } : ByteArray))], [.v (.string ({ data := #[110, 101, 101, 100] } : ByteArray))]] : Rows).length : Nat) : Int)) = true from rfl]
   try refine ev_tst (by decide) ?_
   simp -implicitDefEqProofs only [rdl, Ex.same, Nat.beq, show Int.toNat 1 = 1 from rfl, look_at (show ([[.v (.string ({ data := #[115, 101, 116] } : ByteArray))], [.v (.string ({ data := #[100, 114, 111, 112] } : ByteArray))], [.v (.string ({ data := #[110, 101, 101, 100] } : ByteArray))]] : Rows)[1]? = some [.v (.string ({ data := #[100, 114, 111, 112] } : ByteArray))] from rfl), e4, show IntKind.i64.wrap ((1 : Int) + 1) = 2 from by decide]
   by_cases h2 : w = [100, 114, 111, 112]
   ·rw [decide_eq_true h2, if_pos h2]
    exact Evt.ret
   ·rw [decide_eq_false h2, if_neg h2]
    simp -implicitDefEqProofs only [rdl, Ex.same, Nat.beq]
    refine ev_succ ?_
    simp only [l57x0s]
    simp -implicitDefEqProofs only [rdl, Ex.same, Nat.beq, show decide ((2 : Int) < ((([[.v (.string ({ data := #[115, 101, 116] } : ByteArray))], [.v (.string ({ data := #[100, 114, 111, 112] } : ByteArray))], [.v (.string ({ data := #[110, 101, 101, 100] } : ByteArray))]] : Rows).length : Nat) : Int)) = true from rfl]
    try refine ev_tst (by decide) ?_
    simp -implicitDefEqProofs only [rdl, Ex.same, Nat.beq, show Int.toNat 2 = 2 from rfl, look_at (show ([[.v (.string ({ data := #[115, 101, 116] } : ByteArray))], [.v (.string ({ data := #[100, 114, 111, 112] } : ByteArray))], [.v (.string ({ data := #[110, 101, 101, 100] } : ByteArray))]] : Rows)[2]? = some [.v (.string ({ data := #[110, 101, 101, 100] } : ByteArray))] from rfl), e5, show IntKind.i64.wrap ((2 : Int) + 1) = 3 from by decide]
    by_cases h3 : w = [110, 101, 101, 100]
    ·rw [decide_eq_true h3, if_pos h3]
     exact Evt.ret
    ·rw [decide_eq_false h3, if_neg h3]
     simp -implicitDefEqProofs only [rdl, Ex.same, Nat.beq]
     refine ev_succ ?_
     simp only [l57x0s]
     simp -implicitDefEqProofs only [rdl, Ex.same, Nat.beq, show decide ((3 : Int) < ((([[.v (.string ({ data := #[115, 101, 116] } : ByteArray))], [.v (.string ({ data := #[100, 114, 111, 112] } : ByteArray))], [.v (.string ({ data := #[110, 101, 101, 100] } : ByteArray))]] : Rows).length : Nat) : Int)) = false from rfl]
     exact Evt.ret
 refine ev_aft (L := fun d n => l57x0 (TabD fs d) d n [.fz 1 ([[.v (.string ({ data := #[115, 101, 116] } : ByteArray))], [.v (.string ({ data := #[100, 114, 111, 112] } : ByteArray))], [.v (.string ({ data := #[110, 101, 101, 100] } : ByteArray))]] : Rows), .v (.string (bOf w)), .v (.int .i64 ((([[.v (.string ({ data := #[115, 101, 116] } : ByteArray))], [.v (.string ({ data := #[100, 114, 111, 112] } : ByteArray))], [.v (.string ({ data := #[110, 101, 101, 100] } : ByteArray))]] : Rows).length : Nat) : Int)), .v (.int .i64 0)]) lp ?_
 unfold kindW
 by_cases h1 : w = [115, 101, 116]
 ·rw [if_pos h1, if_pos h1]
  simp -implicitDefEqProofs only [rdl, Ex.same, Nat.beq]
  exact Evt.ret
 ·rw [if_neg h1, if_neg h1]
  by_cases h2 : w = [100, 114, 111, 112]
  ·rw [if_pos h2, if_pos h2]
   simp -implicitDefEqProofs only [rdl, Ex.same, Nat.beq]
   exact Evt.ret
  ·rw [if_neg h2, if_neg h2]
   by_cases h3 : w = [110, 101, 101, 100]
   ·rw [if_pos h3, if_pos h3]
    simp -implicitDefEqProofs only [rdl, Ex.same, Nat.beq]
    exact Evt.ret
   ·rw [if_neg h3, if_neg h3]
    simp -implicitDefEqProofs only [rdl, Ex.same, Nat.beq]
    exact Evt.ret
theorem kindW_rng (w : List UInt8) : 0 ≤ kindW w ∧ kindW w ≤ 3 := by
 unfold kindW
 split
 ·omega
 ·split
  ·omega
  ·split <;> omega
theorem g22 {l : List UInt8} (h : l.length ≤ 1048576) (c : UInt8) : Ev fs 22 [.d (.v (.string (bOf l))), .d (.v (.string ({ data := #[c] } : ByteArray)))] ⟨.d (.s 1 (strR ((spl c l).map bOf))), []⟩ := by
 have h := f22 (s := bOf l) (by rw [bOf_size]; exact h) c
 rw [bOf_list] at h
 exact h
theorem f24 {l : List UInt8} (hl : l.length ≤ 1048576) : Ev fs 24 [.d (.v (.string (bOf l)))] ⟨.t [.g (rowI l).1, .d (.v (.bool (rowI l).2))], []⟩ := by
 have s1 := cut_size 32 l
 have s2 := cut_size 32 (Lib.cut l [32]).2.1
 have c1 := g56 hl 32
 have c2 := g56 (l := (Lib.cut l [32]).2.1) (by omega) 32
 unfold rowI
 generalize Lib.cut (Lib.cut l [32]).2.1 [32] = q2 at *
 generalize Lib.cut l [32] = q1 at *
 obtain ⟨w, a2, a3⟩ := q1
 obtain ⟨p1, p2, p3⟩ := q2
 have c3 := f57 w
 have c4 := g22 (l := p1) (by simp only at s1 s2; omega) 47
 have e4 := eqW (w := w) lt4
 have hk := kindW_rng w
 have hw : IntKind.i64.wrap (kindW w - 1 + 1) = kindW w := by rw [wrap_i64 (by omega) (by omega)]; omega
 have hp := (pvR_both (s := bOf p2) (by rw [bOf_size]; simp only at s1 s2; omega)).2
 have hsv := pvR_sh (bOf p2)
 generalize pvR (bOf p2) = pp at *
 obtain ⟨pv, pb⟩ := pp
 generalize kindW w = kk at *
 dsimp only
 refine Ev.of (af := a24) rfl rfl (Evt.congr (fun d n => a24q ..) ?_)
 refine ev_call c1 ?_
 simp -implicitDefEqProofs only [rdl, Ex.same, Nat.beq]
 refine ev_call c2 ?_
 simp -implicitDefEqProofs only [rdl, Ex.same, Nat.beq]
 refine ev_call c3 ?_
 simp -implicitDefEqProofs only [rdl, Ex.same, Nat.beq]
 refine ev_call c4 ?_
 simp -implicitDefEqProofs only [rdl, Ex.same, Nat.beq, hw, e4]
 cases decide (w = [100, 114, 111, 112]) with
 | true =>
  simp -implicitDefEqProofs only [rdl, Ex.same, Nat.beq]
  exact Evt.ret
 | false =>
  simp -implicitDefEqProofs only [rdl, Ex.same, Nat.beq]
  dsimp only at hsv hp
  obtain ⟨na0, sa1, na2, la3, la4, rfl, pa0, pa1, pa2, pa3, pa4⟩ := I33 hsv
  refine ev_call hp ?_
  simp -implicitDefEqProofs only [rdl, Ex.same, Nat.beq]
  exact Evt.ret
theorem op_put {l : Rows} {a ps c s u ks vs : D} : setD (setD (setD (l ++ ([[a, hole, c, s, u, hole, hole]] : Rows)) (0 + l.length) 6 vs) (0 + l.length) 5 ks) (0 + l.length) 1 ps = l ++ [[a, ps, c, s, u, ks, vs]] := by
 rw [Nat.zero_add, setD_mid, setD_mid, setD_mid]
 rfl
theorem shr_of {t : TypeId} : ∀ {l : Rows}, (∀ x ∈ l, ShL E (E t) x) → ShR E (E t) l
 | [], _ => .nil
 | x :: l, h => .cons (h x (by simp)) (shr_of fun y hy => h y (by simp [hy]))
theorem keys_sl {L : List (List UInt8)} (hn : L.length ≤ 1048577) (h : ∀ x ∈ L, x.length ≤ 1048576) : SL E 9 (strR (L.map bOf)) := by
 refine ⟨by rw [strR_ln]; simp only [maxLen]; omega, shr_of fun x hx => ?_⟩
 simp only [strR, List.map_map, List.mem_map] at hx
 obtain ⟨y, hy, rfl⟩ := hx
 have := h y hy
 rw [E9]
 exact mk_s (by simp only [Function.comp, bOf_size, maxLen]; omega) .nil
theorem spl_keys {l : List UInt8} (c : UInt8) (h : l.length ≤ 1048576) : SL E 9 (strR ((spl c l).map bOf)) :=
 keys_sl (by have := spl_len c l; omega) fun x hx => by have := spl_size c l x hx; omega
theorem op_row {k : Int} {ps v : Row} {pp : Rows} (hk : Fits k) (hp : SL E 9 pp) (hv : ShL E (E 33) v) : ShL E (E 44) (.v (.int .i64 k) :: .s 1 pp :: v) := by
 rw [E33] at hv
 rw [E44]
 exact mk_i hk (mk_sl W9 hp hv)
theorem fit_k {k : Int} (h0 : 0 ≤ k) (h1 : k ≤ 3) : Fits k := by
 simp only [Fits, IntKind.min, IntKind.max, IntKind.signed, IntKind.bits]
 simp
 omega
theorem rowI_sh {l : List UInt8} (hl : l.length ≤ 1048576) : ShL E (E 44) (rowI l).1 := by
 have s1 := cut_size 32 l
 have s2 := cut_size 32 (Lib.cut l [32]).2.1
 have hk := kindW_rng (Lib.cut l [32]).1
 have hp := spl_keys (l := (Lib.cut (Lib.cut l [32]).2.1 [32]).1) 47 (by omega)
 unfold rowI
 cases decide ((Lib.cut l [32]).1 = [100, 114, 111, 112]) with
 | true => exact op_row (ps := []) (fit_k hk.1 hk.2) hp zero_row
 | false => exact op_row (ps := []) (fit_k hk.1 hk.2) hp (pvR_sh _)
theorem sl_more {t : TypeId} {l : Rows} {x : Row} (hl : SL E t l) (hx : ShL E (E t) x) (hn : l.length ≤ 2000000) : SL E t (l ++ [x]) := by
 refine ⟨by simp [maxLen]; omega, ?_⟩
 have key : ∀ {l : Rows}, ShR E (E t) l → ShR E (E t) (l ++ [x]) := by
  intro l
  induction l with
  | nil => intro _; exact .cons hx .nil
  | cons r l ih => intro h; cases h with | cons h h' => exact .cons h (ih h')
 exact key hl.2
theorem goI_sh : ∀ (t : List (List UInt8)) (ws r : Rows), (∀ x ∈ t, x.length ≤ 1048576) → goI t ws = some r → SL E 44 ws → ws.length + t.length ≤ 2000000 → SL E 44 r
 | [], ws, r, _, h, hw, _ => by
  simp only [goI, Option.some.injEq] at h
  subst h
  exact hw
 | l :: t, ws, r, hm, h, hw, hn => by
  rw [goI] at h
  simp only [List.length_cons] at hn
  cases hb : (rowI l).2 with
  | false => rw [hb] at h; cases h
  | true =>
   rw [hb, cond_true] at h
   exact goI_sh t _ r (fun x hx => hm x (by simp [hx])) h (sl_more hw (rowI_sh (hm l (by simp))) (by omega)) (by simp; omega)
theorem loopI {s : ByteArray} {L : List (List UInt8)} (hL : ∀ l ∈ L, l.length ≤ 1048576) (hn : L.length ≤ 1048577) :
  ∀ (t : List (List UInt8)) (i : Nat) (ws : Rows), L.drop i = t → i + t.length = L.length → ws.length ≤ i →
  Evt (fun d n => l6x0 (TabD fs d) d n [.v (.string s), .o 7 ws, .o 1 (strR (L.map bOf)), .v (.int .i64 (L.length : Int)), .v (.int .i64 (i : Int))])
   (match goI t ws with | some r => (.exit 0, [.v (.string s), .o 7 r]) | none => (.ret, [.o 7 [], .v (.bool false)])) := by
 intro t
 induction t with
 | nil =>
  intro i ws h hlen hw
  simp only [List.length_nil] at hlen
  refine ev_succ ?_
  simp only [l6x0s]
  simp -implicitDefEqProofs only [rdl, Ex.same, Nat.beq, show decide ((i : Int) < (L.length : Int)) = false from decide_eq_false (by omega)]
  exact Evt.ret
 | cons l t ih =>
  intro i ws h hlen hw
  simp only [List.length_cons] at hlen
  have hl : L[i]? = some l := by
   have := congrArg (fun x => x[0]?) h
   simpa using this
  have hd : L.drop (i + 1) = t := by
   have := congrArg List.tail h
   simpa using this
  have hm := hL l (List.mem_of_getElem? hl)
  have hwr : IntKind.i64.wrap ((i : Int) + 1) = ((i + 1 : Nat) : Int) := by rw [wrap_i64 (by omega) (by omega)]; omega
  have c := f24 hm
  have hsh := rowI_sh hm
  rw [goI]
  have nx := fun w => ih (i + 1) (ws ++ [w]) hd (by omega) (by simp; omega)
  generalize rowI l = pp at *
  obtain ⟨r, bb⟩ := pp
  dsimp only at hsh c ⊢
  obtain ⟨na0, la1, na2, sa3, na4, la5, la6, rfl, pa0, pa1, pa2, pa3, pa4, pa5, pa6⟩ := I44 hsh
  refine ev_succ ?_
  simp only [l6x0s]
  simp -implicitDefEqProofs only [rdl, Ex.same, Nat.beq, hwr, show decide ((i : Int) < (L.length : Int)) = true from decide_eq_true (by omega)]
  refine ev_tst (by rw [strR_ln]; simp; omega) ?_
  simp -implicitDefEqProofs only [rdl, Ex.same, Nat.beq, look_at (strR_at hl)]
  refine ev_call c ?_
  simp -implicitDefEqProofs only [rdl, Ex.same, Nat.beq]
  cases bb with
  | false => exact Evt.ret
  | true =>
   simp -implicitDefEqProofs only [rdl, Ex.same, Nat.beq, Bool.not_true]
   refine ev_tst (decide_eq_true (by simp only [List.length_cons, List.length_nil, maxBytes]; omega)) ?_
   rw [op_put]
   exact nx _
def ansE (s : ByteArray) (m : Option Rows) : Out := bif bytesEq s ({ data := #[] } : ByteArray) then ⟨.t [.d (.s 7 []), .d (.v (.bool true))], []⟩ else ans s m
theorem txt_ok {m : Rows} {s : ByteArray} (hs : bytesEq s ({ data := #[] } : ByteArray) = false) : (opsOk m && bytesEq (opsTxt m) s) = bytesEq (opsTxt m) s := by
 cases ho : opsOk m with
 | true => rfl
 | false =>
  cases hb : bytesEq (opsTxt m) s with
  | false => rfl
  | true =>
   have e := bytes_eq hb
   rw [opsTxt, ho] at e
   rw [← e] at hs
   have : bytesEq ByteArray.empty ({ data := #[] } : ByteArray) = true := beq_self _
   rw [show (bif false then opsT m ByteArray.empty else ByteArray.empty) = ByteArray.empty from rfl, this] at hs
   cases hs
theorem f6 {s : ByteArray} (hs : s.size ≤ 1048576) : Ev fs 6 [.d (.v (.string s))] (ansE s (parI s.toList)) := by
 refine Ev.of (af := a6) rfl rfl (Evt.congr (fun d n => a6q ..) ?_)
 unfold ansE
 cases he : bytesEq s ({ data := #[] } : ByteArray) with
 | true => exact Evt.ret
 | false =>
  simp -implicitDefEqProofs only [rdl, Ex.same, Nat.beq]
  refine ev_call (f23 hs 10) ?_
  simp -implicitDefEqProofs only [rdl, Ex.same, Nat.beq]
  have hsuf := suf_size 10 s.toList
  rw [toList_len] at hsuf
  have hq := g22 (l := Lib.trimSuffix s.toList [10]) (by omega) 10
  unfold parI
  generalize Lib.trimSuffix s.toList [10] = c at *
  refine ev_call hq ?_
  simp -implicitDefEqProofs only [rdl, Ex.same, Nat.beq, strR_ln]
  have hsz := spl_size 10 c
  have hln := spl_len 10 c
  have hL : ∀ l ∈ spl 10 c, l.length ≤ 1048576 := fun l hl => by have := hsz l hl; omega
  have lp := loopI (s := s) hL (by omega) (spl 10 c) 0 [] rfl (by simp) (by simp)
  have hsh := fun r h => goI_sh (spl 10 c) [] r hL h sl_nil (by simp; omega)
  refine ev_aft (L := fun d n => l6x0 (TabD fs d) d n [.v (.string s), .o 7 [], .o 1 (strR ((spl 10 c).map bOf)), .v (.int .i64 ((spl 10 c).length : Int)), .v (.int .i64 0)]) lp ?_
  cases hg : goI (spl 10 c) [] with
  | none =>
   simp -implicitDefEqProofs only [rdl, Ex.same, Nat.beq]
   exact Evt.ret
  | some r =>
   have q := f12 (hsh r hg)
   simp -implicitDefEqProofs only [rdl, Ex.same, Nat.beq]
   refine ev_call q ?_
   simp -implicitDefEqProofs only [rdl, Ex.same, Nat.beq]
   rw [ans, txt_ok he]
   cases bytesEq (opsTxt r) s with
   | true => exact Evt.ret
   | false => exact Evt.ret
end Go.Am.Pp
