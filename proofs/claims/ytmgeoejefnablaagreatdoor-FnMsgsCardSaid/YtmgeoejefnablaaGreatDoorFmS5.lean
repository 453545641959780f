/- The program's ParseMsg, exactly. Nothing is assumed. -/
import Derived.Test.YtmgeoejefnablaaGreatDoorFmS4
namespace Go.Am.Fm
variable {SK : Src}
set_option linter.unusedVariables false
set_option linter.unusedSimpArgs false
set_option maxRecDepth 8000
noncomputable def goI (k : Int) : List (List UInt8) → Rows → Rows → Rows × Rows
 | [], ws, rs => (ws, rs)
 | l :: t, ws, rs => bif k == 1 then goI k t ws (rs ++ [[.v (.int .i64 (numP (Lib.cut l [32]).1)), .v (.int .i64 (numP (Lib.cut (Lib.cut l [32]).2.1 [32]).1))]])
   else goI k t (ws ++ [.v (.int .i64 (numP (Lib.cut l [32]).1)) :: .v (.int .i64 (numP (Lib.cut (Lib.cut l [32]).2.1 [32]).1)) :: (pvR (bOf (Lib.cut (Lib.cut l [32]).2.1 [32]).2.1)).1]) rs
theorem goI_sh {k : Int} : ∀ (t : List (List UInt8)) (ws rs : Rows), SL E 48 ws → SL E 42 rs → ws.length + t.length ≤ 2000000 → rs.length + t.length ≤ 2000000 → SL E 48 (goI k t ws rs).1 ∧ SL E 42 (goI k t ws rs).2
 | [], ws, rs, h1, h2, _, _ => ⟨h1, h2⟩
 | l :: t, ws, rs, h1, h2, h3, h4 => by
  rw [goI]
  simp only [List.length_cons] at h3 h4
  cases hk : (k == 1) with
  | true => exact goI_sh t _ _ h1 (sl_more h2 (run_sh (numP_ok _) (numP_ok _)) (by omega)) (by omega) (by simp; omega)
  | false => exact goI_sh t _ _ (sl_more h1 (work_sh (numP_ok _) (numP_ok _) (pvR_sh _)) (by omega)) h2 (by simp; omega) (by omega)
theorem loopI {s : ByteArray} {L : List (List UInt8)} (hL : ∀ l ∈ L, l.length ≤ 1048576) (hn : L.length ≤ 1048577) {z0 z2 : Int} {z1 : ByteArray} {z3 z4 : Rows} {k r : Int} {nm : ByteArray} :
  ∀ (t : List (List UInt8)) (i : Nat) (ws rs : Rows), L.drop (1 + i) = t → 1 + i + t.length = L.length → ws.length ≤ i → rs.length ≤ i →
  Evt (fun d n => l10x0 (TabD (fs SK) d) d n [.v (.string s), .b [.v (.int .i64 z0), .v (.string z1), .v (.int .i64 z2), .o 7 z3, .o 2 z4], .o 1 (strR (L.map bOf)), .b [.v (.int .i64 k), .v (.string nm), .v (.int .i64 r), .o 7 ws, .o 2 rs], .w 2 1 L.length, .v (.int .i64 ((L.length - 1 : Nat) : Int)), .v (.int .i64 (i : Int))])
   (.exit 0, [.v (.string s), .b [.v (.int .i64 z0), .v (.string z1), .v (.int .i64 z2), .o 7 z3, .o 2 z4], .b [.v (.int .i64 k), .v (.string nm), .v (.int .i64 r), .o 7 (goI k t ws rs).1, .o 2 (goI k t ws rs).2]]) := by
 intro t
 induction t with
 | nil =>
  intro i ws rs h hlen hw hr
  simp only [List.length_nil] at hlen
  refine ev_succ ?_
  simp only [l10x0s]
  simp -implicitDefEqProofs only [rdl, Ex.same, Nat.beq, show decide ((i : Int) < ((L.length - 1 : Nat) : Int)) = false from decide_eq_false (by omega)]
  exact Evt.ret
 | cons l t ih =>
  intro i ws rs h hlen hw hr
  simp only [List.length_cons] at hlen
  have hl : L[1 + i]? = some l := by
   have := congrArg (fun x => x[0]?) h
   simpa using this
  have hd : L.drop (1 + (i + 1)) = t := by
   have := congrArg List.tail h
   simpa [Nat.add_assoc] using this
  have hm := hL l (List.mem_of_getElem? hl)
  have hwr : IntKind.i64.wrap ((i : Int) + 1) = ((i + 1 : Nat) : Int) := by rw [wrap_i64 (by omega) (by omega)]; omega
  have s1 := cut_size 32 l
  have s2 := cut_size 32 (Lib.cut l [32]).2.1
  refine ev_succ ?_
  simp only [l10x0s]
  simp -implicitDefEqProofs only [rdl, Ex.same, Nat.beq, hwr, show decide ((i : Int) < ((L.length - 1 : Nat) : Int)) = true from decide_eq_true (by omega)]
  refine ev_tst (by simp; omega) ?_
  simp -implicitDefEqProofs only [rdl, Ex.same, Nat.beq, look_at (strR_at hl)]
  rw [goI]
  have c1 := g30 (SK := SK) hm 32
  have c2 := g30 (SK := SK) (l := (Lib.cut l [32]).2.1) (by omega) 32
  have hp := pvR_both (SK := SK) (s := bOf (Lib.cut (Lib.cut l [32]).2.1 [32]).2.1) (by rw [bOf_size]; omega)
  have hsv := pvR_sh (bOf (Lib.cut (Lib.cut l [32]).2.1 [32]).2.1)
  generalize pvR (bOf (Lib.cut (Lib.cut l [32]).2.1 [32]).2.1) = pp at *
  generalize Lib.cut (Lib.cut l [32]).2.1 [32] = q2 at *
  generalize Lib.cut l [32] = q1 at *
  obtain ⟨a1, a2, a3⟩ := q1
  obtain ⟨d1, d2, d3⟩ := q2
  obtain ⟨pv, pb⟩ := pp
  obtain ⟨na0, sa1, na2, la3, la4, rfl, pa0, pa1, pa2, pa3, pa4⟩ := I46 hsv
  refine ev_call c1 ?_
  simp -implicitDefEqProofs only [rdl, Ex.same, Nat.beq]
  refine ev_call (g31 a1) ?_
  simp -implicitDefEqProofs only [rdl, Ex.same, Nat.beq]
  refine ev_call c2 ?_
  simp -implicitDefEqProofs only [rdl, Ex.same, Nat.beq]
  refine ev_call (g31 d1) ?_
  simp -implicitDefEqProofs only [rdl, Ex.same, Nat.beq]
  cases hk : (k == 1) with
  | true =>
   simp -implicitDefEqProofs only [rdl, Ex.same, Nat.beq]
   refine ev_tst (decide_eq_true (by simp only [List.length_cons, List.length_nil, maxBytes]; omega)) ?_
   exact ih (i + 1) ws _ hd (by omega) (by omega) (by simp; omega)
  | false =>
   simp -implicitDefEqProofs only [rdl, Ex.same, Nat.beq]
   refine ev_call hp ?_
   simp -implicitDefEqProofs only [rdl, Ex.same, Nat.beq]
   refine ev_tst (decide_eq_true (by simp only [List.length_cons, List.length_nil, maxBytes]; omega)) ?_
   rw [work_put]
   exact ih (i + 1) _ rs hd (by omega) (by simp; omega) (by omega)
theorem msg_ne {m : Row} (h : msgOk m = true) : bytesEq (msgTxt m) ({ data := #[] } : ByteArray) = false := by
 have e := msg_lines h
 have e2 : msgTxt m ≠ ({ data := #[] } : ByteArray) := fun c => by
  rw [c] at e
  rw [linesT_cons] at e
  have e := congrArg List.length e
  simp [ByteArray.toList_eq] at e
 exact beq_eq_false_iff_ne.2 fun c => e2 (bytes_eq (by rw [bytesEq, c]; simp))
noncomputable def parI (s : List UInt8) : Row := match spl 10 (Lib.trimSuffix s [10]) with
 | h :: t => [.v (.int .i64 (kindN (Lib.cut h [32]).1)), .v (.string (bOf (Lib.cut (Lib.cut h [32]).2.1 [32]).1)), .v (.int .i64 (numP (Lib.cut (Lib.cut h [32]).2.1 [32]).2.1)), .s 7 (goI (kindN (Lib.cut h [32]).1) t [] []).1, .s 2 (goI (kindN (Lib.cut h [32]).1) t [] []).2]
 | [] => ZM
theorem f10 {s : ByteArray} (hs : s.size ≤ 1048576) : Ev (fs SK) 10 [.d (.v (.string s))] (ans s (some (parI s.toList))) := by
 refine Ev.of (af := a10) rfl rfl (Evt.congr (fun d n => a10q ..) ?_)
 refine ev_call (f29 hs 10) ?_
 simp -implicitDefEqProofs only [rdl, Ex.same, Nat.beq]
 have hsuf := suf_size 10 s.toList
 rw [toList_len] at hsuf
 have hq := f28 (SK := SK) (s := bOf (Lib.trimSuffix s.toList [10])) (by rw [bOf_size]; omega) 10
 rw [bOf_list (Lib.trimSuffix s.toList [10])] at hq
 unfold parI
 generalize Lib.trimSuffix s.toList [10] = b at *
 refine ev_call hq ?_
 simp -implicitDefEqProofs only [rdl, Ex.same, Nat.beq, strR_ln]
 have hsz := spl_size 10 b
 have hln := spl_len 10 b
 obtain ⟨h, t, he⟩ := spl_ne 10 b
 rw [he] at hsz hln ⊢
 dsimp only
 have hh : h.length ≤ 1048576 := by have := hsz h (by simp); omega
 have hL : ∀ l ∈ h :: t, l.length ≤ 1048576 := fun l hl => by have := hsz l hl; omega
 have l0 : (strR ((h :: t).map bOf))[0]? = some [.v (.string (bOf h))] := rfl
 have s1 := cut_size 32 h
 have s2 := cut_size 32 (Lib.cut h [32]).2.1
 have c1 := g30 (SK := SK) hh 32
 have c2 := g30 (SK := SK) (l := (Lib.cut h [32]).2.1) (by omega) 32
 generalize Lib.cut (Lib.cut h [32]).2.1 [32] = q2 at *
 generalize Lib.cut h [32] = q1 at *
 obtain ⟨w, a2, a3⟩ := q1
 obtain ⟨nm, rv, d3⟩ := q2
 have hnm : (bOf nm).size ≤ maxLen := by rw [bOf_size]; simp only [maxLen]; simp only at s1 s2; omega
 have lp := fun k => loopI (SK := SK) (s := s) (L := h :: t) hL (by omega) (z0 := 0) (z1 := ByteArray.empty) (z2 := 0) (z3 := []) (z4 := []) (k := k) (r := numP rv) (nm := bOf nm) t 0 [] [] (by simp) (by simp; omega) (by simp) (by simp)
 have hsh := goI_sh (k := kindN w) t [] [] sl_nil sl_nil (by simp only [List.length_cons, List.length_nil] at *; omega) (by simp only [List.length_cons, List.length_nil] at *; omega)
 have ekl : (strR ((h :: t).map bOf)).length = (h :: t).length := strR_ln _
 refine ev_tst (by simp) ?_
 simp -implicitDefEqProofs only [rdl, Ex.same, Nat.beq, look_at l0]
 refine ev_call c1 ?_
 simp -implicitDefEqProofs only [rdl, Ex.same, Nat.beq]
 refine ev_call c2 ?_
 simp -implicitDefEqProofs only [rdl, Ex.same, Nat.beq]
 refine ev_call (g31 rv) ?_
 simp -implicitDefEqProofs only [rdl, Ex.same, Nat.beq]
 cases hk : bytesEq (bOf w) ({ data := #[108, 105, 115, 116] } : ByteArray) with
 | true =>
    have ek : kindN w = 2 := by rw [kindN, hk]; rfl
    simp -implicitDefEqProofs only [rdl, Ex.same, Nat.beq, hk, ekl]
    refine ev_tst (by simp [cutOk]; omega) ?_
    try simp -implicitDefEqProofs only [rdl, Ex.same, Nat.beq, strR_ln]
    refine ev_aft (L := fun d n => l10x0 (TabD (fs SK) d) d n [.v (.string s), .b [.v (.int .i64 0), .v (.string ByteArray.empty), .v (.int .i64 0), .o 7 [], .o 2 []], .o 1 (strR ((h :: t).map bOf)), .b [.v (.int .i64 2), .v (.string (bOf nm)), .v (.int .i64 (numP rv)), .o 7 [], .o 2 []], .w 2 1 (h :: t).length, .v (.int .i64 (((h :: t).length - 1 : Nat) : Int)), .v (.int .i64 0)]) (lp 2) ?_
    rw [ek] at hsh
    simp only [ek]
    generalize goI 2 t [] [] = p at *
    obtain ⟨ws, rs⟩ := p
    obtain ⟨q1, q2⟩ := hsh
    have hm := msg_sh (k := kindN w) (kindN_ok w) hnm (numP_ok rv) q1 q2
    rw [ek] at hm
    have c1 := f9 (SK := SK) hm
    have c2 := f7 (SK := SK) hm
    have c3 := msg_ne (m := [.v (.int .i64 2), .v (.string (bOf nm)), .v (.int .i64 (numP rv)), .s 7 ws, .s 2 rs])
    simp only [ans]
    generalize msgTxt [.v (.int .i64 2), .v (.string (bOf nm)), .v (.int .i64 (numP rv)), .s 7 ws, .s 2 rs] = tx at *
    generalize msgOk [.v (.int .i64 2), .v (.string (bOf nm)), .v (.int .i64 (numP rv)), .s 7 ws, .s 2 rs] = ok at *
    simp -implicitDefEqProofs only [rdl, Ex.same, Nat.beq]
    refine ev_if (fun h0 => ?_) (fun h0 => ?_)
    ·refine ev_call c1 ?_
     simp -implicitDefEqProofs only [rdl, Ex.same, Nat.beq]
     cases ok with
     | false => simp -implicitDefEqProofs only [rdl, Ex.same, Nat.beq, Bool.not_false, Bool.false_and]; exact Evt.ret
     | true =>
      simp -implicitDefEqProofs only [rdl, Ex.same, Nat.beq, Bool.not_true]
      refine ev_call c2 ?_
      simp -implicitDefEqProofs only [rdl, Ex.same, Nat.beq, Bool.true_and]
      cases bytesEq tx s with
      | true => simp -implicitDefEqProofs only [rdl, Ex.same, Nat.beq, Bool.not_true]; exact Evt.ret
      | false => simp -implicitDefEqProofs only [rdl, Ex.same, Nat.beq, Bool.not_false]; exact Evt.ret
    ·have h0 : bytesEq s ({ data := #[] } : ByteArray) = true := by simpa using h0
     have h0 : s = ({ data := #[] } : ByteArray) := bytes_eq h0
     have e : (ok && bytesEq tx s) = false := by
      cases ok with
      | false => rfl
      | true =>
       rw [h0]
       exact c3 rfl
     rw [e]
     exact Evt.ret
 | false =>
    have ek : kindN w = 1 := by rw [kindN, hk]; rfl
    simp -implicitDefEqProofs only [rdl, Ex.same, Nat.beq, hk, ekl]
    refine ev_tst (by simp [cutOk]; omega) ?_
    try simp -implicitDefEqProofs only [rdl, Ex.same, Nat.beq, strR_ln]
    refine ev_aft (L := fun d n => l10x0 (TabD (fs SK) d) d n [.v (.string s), .b [.v (.int .i64 0), .v (.string ByteArray.empty), .v (.int .i64 0), .o 7 [], .o 2 []], .o 1 (strR ((h :: t).map bOf)), .b [.v (.int .i64 1), .v (.string (bOf nm)), .v (.int .i64 (numP rv)), .o 7 [], .o 2 []], .w 2 1 (h :: t).length, .v (.int .i64 (((h :: t).length - 1 : Nat) : Int)), .v (.int .i64 0)]) (lp 1) ?_
    rw [ek] at hsh
    simp only [ek]
    generalize goI 1 t [] [] = p at *
    obtain ⟨ws, rs⟩ := p
    obtain ⟨q1, q2⟩ := hsh
    have hm := msg_sh (k := kindN w) (kindN_ok w) hnm (numP_ok rv) q1 q2
    rw [ek] at hm
    have c1 := f9 (SK := SK) hm
    have c2 := f7 (SK := SK) hm
    have c3 := msg_ne (m := [.v (.int .i64 1), .v (.string (bOf nm)), .v (.int .i64 (numP rv)), .s 7 ws, .s 2 rs])
    simp only [ans]
    generalize msgTxt [.v (.int .i64 1), .v (.string (bOf nm)), .v (.int .i64 (numP rv)), .s 7 ws, .s 2 rs] = tx at *
    generalize msgOk [.v (.int .i64 1), .v (.string (bOf nm)), .v (.int .i64 (numP rv)), .s 7 ws, .s 2 rs] = ok at *
    simp -implicitDefEqProofs only [rdl, Ex.same, Nat.beq]
    refine ev_if (fun h0 => ?_) (fun h0 => ?_)
    ·refine ev_call c1 ?_
     simp -implicitDefEqProofs only [rdl, Ex.same, Nat.beq]
     cases ok with
     | false => simp -implicitDefEqProofs only [rdl, Ex.same, Nat.beq, Bool.not_false, Bool.false_and]; exact Evt.ret
     | true =>
      simp -implicitDefEqProofs only [rdl, Ex.same, Nat.beq, Bool.not_true]
      refine ev_call c2 ?_
      simp -implicitDefEqProofs only [rdl, Ex.same, Nat.beq, Bool.true_and]
      cases bytesEq tx s with
      | true => simp -implicitDefEqProofs only [rdl, Ex.same, Nat.beq, Bool.not_true]; exact Evt.ret
      | false => simp -implicitDefEqProofs only [rdl, Ex.same, Nat.beq, Bool.not_false]; exact Evt.ret
    ·have h0 : bytesEq s ({ data := #[] } : ByteArray) = true := by simpa using h0
     have h0 : s = ({ data := #[] } : ByteArray) := bytes_eq h0
     have e : (ok && bytesEq tx s) = false := by
      cases ok with
      | false => rfl
      | true =>
       rw [h0]
       exact c3 rfl
     rw [e]
     exact Evt.ret
end Go.Am.Fm
