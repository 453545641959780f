/- Numbers, quotes and values as text. Nothing is assumed. -/
import Derived.Test.YtmgeoejefnablaaGreatDoorFmP
namespace Go.Am.Fm
variable {SK : Src}
set_option linter.unusedVariables false
set_option linter.unusedSimpArgs false
set_option maxRecDepth 8000
theorem dec_pos : ∀ (k n : Nat), n ≤ k → n < 2 ^ 63 → Ev (fs SK) 18 [.d (.v (.int .i64 (n : Int)))] ⟨.d (.v (.string (dg n))), []⟩ := by
 intro k
 induction k with
 | zero =>
  intro n hn h63
  have hn0 : n = 0 := by omega
  subst hn0
  refine Ev.of (af := a18) rfl rfl (Evt.congr (fun d n => a18q ..) ?_)
  simp -implicitDefEqProofs only [rdl, Ex.same, Nat.beq, beq_t, show decide (((0 : Nat) : Int) < 0) = false from rfl, show decide (((0 : Nat) : Int) < 10) = true from rfl, dig_i32 (m := 0) (by omega), enc_one (c := 48 + 0) (by omega)]
  rw [dg_small (by omega)]
  exact Evt.ret
 | succ k ih =>
  intro n hn h63
  refine Ev.of (af := a18) rfl rfl (Evt.congr (fun d n => a18q ..) ?_)
  have c0 : decide ((n : Int) < 0) = false := by simp
  rcases Nat.lt_or_ge n 10 with h | h
  ·simp -implicitDefEqProofs only [rdl, Ex.same, Nat.beq, beq_t, c0, show decide ((n : Int) < 10) = true from by simp; omega, dig_i32 h, enc_one (c := 48 + n) (by omega)]
   rw [dg_small h]
   exact Evt.ret
  ·have hm : n % 10 < 10 := Nat.mod_lt _ (by omega)
   have e1 : Int.tmod (n : Int) 10 = ((n % 10 : Nat) : Int) := by rw [Int.tmod_eq_emod_of_nonneg (by omega)]; omega
   have e2 : IntKind.i64.wrap (Int.tdiv (n : Int) 10) = ((n / 10 : Nat) : Int) := by
    rw [Int.tdiv_eq_ediv_of_nonneg (by omega)]
    rw [wrap_i64 (by omega) (by omega)]
    omega
   simp -implicitDefEqProofs only [rdl, Ex.same, Nat.beq, beq_t, c0, show decide ((n : Int) < 10) = false from by simp; omega, e1, e2, dig_i32 hm, enc_one (c := 48 + n % 10) (by omega), show decide ((10 : Nat) ≠ 0) = true from rfl]
   refine ev_call (ih (n / 10) (by omega) (by omega)) ?_
   simp -implicitDefEqProofs only [rdl, Ex.same, Nat.beq]
   refine ev_tst (sz_le (by have h1 := one_size (48 + n % 10); have h3 := dg_size 20 (n / 10) (by omega); have h2 : maxLen = 9223372036854775807 := rfl; omega)) ?_
   rw [dg_big h]
   exact Evt.ret
theorem dec_neg : ∀ (k n : Nat), n ≤ k → 0 < n → n ≤ 2 ^ 63 → Ev (fs SK) 18 [.d (.v (.int .i64 (-(n : Int))))] ⟨.d (.v (.string (one 45 ++ dg n))), []⟩ := by
 intro k
 induction k with
 | zero => intro n hn h0; omega
 | succ k ih =>
  intro n hn h0 h63
  refine Ev.of (af := a18) rfl rfl (Evt.congr (fun d n => a18q ..) ?_)
  have c0 : decide (-(n : Int) < 0) = true := by simp; omega
  have hz : (⟨#[45]⟩ : ByteArray) = one 45 := rfl
  rcases Nat.lt_or_ge n 10 with h | h
  ·have e1 : IntKind.i64.wrap (0 - -(n : Int)) = (n : Int) := by rw [wrap_i64 (by omega) (by omega)]; omega
   simp -implicitDefEqProofs only [rdl, Ex.same, Nat.beq, beq_t, c0, show decide (-(n : Int) > (-10)) = true from by simp; omega, e1, hz]
   refine ev_call (dec_pos n n (by omega) (by omega)) ?_
   simp -implicitDefEqProofs only [rdl, Ex.same, Nat.beq]
   refine ev_tst (sz_le (by rw [one_size]; have := dg_size 20 n (by omega); simp only [maxLen]; omega)) ?_
   exact Evt.ret
  ·have hm : n % 10 < 10 := Nat.mod_lt _ (by omega)
   have e1 : IntKind.i64.wrap (0 - Int.tmod (-(n : Int)) 10) = ((n % 10 : Nat) : Int) := by
    rw [Int.neg_tmod, Int.tmod_eq_emod_of_nonneg (by omega), wrap_i64 (by omega) (by omega)]
    omega
   have e2 : IntKind.i64.wrap (Int.tdiv (-(n : Int)) 10) = -((n / 10 : Nat) : Int) := by
    rw [Int.neg_tdiv, Int.tdiv_eq_ediv_of_nonneg (by omega)]
    rw [wrap_i64 (by omega) (by omega)]
    omega
   simp -implicitDefEqProofs only [rdl, Ex.same, Nat.beq, beq_t, c0, show decide (-(n : Int) > (-10)) = false from by simp; omega, e1, e2, show decide ((10 : Nat) ≠ 0) = true from rfl]
   refine ev_call (ih (n / 10) (by omega) (by omega) (by omega)) ?_
   simp -implicitDefEqProofs only [rdl, Ex.same, Nat.beq]
   refine ev_call (dec_pos (n % 10) (n % 10) (by omega) (by omega)) ?_
   simp -implicitDefEqProofs only [rdl, Ex.same, Nat.beq]
   have q1 := dg_size 20 (n / 10) (by omega)
   have q2 := dg_size 20 (n % 10) (by omega)
   refine ev_tst (sz_le (by rw [ByteArray.size_append, one_size]; simp only [maxLen]; omega)) ?_
   rw [dg_big h, dg_small hm, ByteArray.append_assoc]
   exact Evt.ret
theorem f18 {n : Int} (h : Fits n) : Ev (fs SK) 18 [.d (.v (.int .i64 n))] ⟨.d (.v (.string (decS n))), []⟩ := by
 have h' := h
 simp only [Fits, IntKind.min, IntKind.max, IntKind.signed, IntKind.bits] at h'
 simp at h'
 unfold decS
 by_cases hn : n < 0
 ·obtain ⟨m, rfl⟩ : ∃ m : Nat, n = -(m : Int) := ⟨n.natAbs, by omega⟩
  have e : (-(m : Int)).natAbs = m := by omega
  simp only [hn, if_true, e]
  exact dec_neg m m (by omega) (by omega) (by omega)
 ·obtain ⟨m, rfl⟩ : ∃ m : Nat, n = (m : Int) := ⟨n.natAbs, by omega⟩
  have e : (m : Int).natAbs = m := by omega
  simp only [hn, if_false, e]
  exact dec_pos m m (by omega) (by omega)
def rowsB (l : List UInt8) : Rows := l.map fun b => [.v (.int .u8 b.toNat)]
theorem rowsB_one (b : UInt8) : ([[(.v (.int .u8 (b.toNat : Int)))]] : Rows) = rowsB [b] := rfl
theorem rowsB_app (a b : List UInt8) : rowsB a ++ rowsB b = rowsB (a ++ b) := by simp [rowsB]
theorem rowsB_len (l : List UInt8) : (rowsB l).length = l.length := by simp [rowsB]
theorem byte_row (b : UInt8) : byteOfRow [.v (.int .u8 b.toNat)] = some b := by simp [byteOfRow]
theorem rowsB_all (l : List UInt8) : allBytes (rowsB l) = true := by simp [allBytes, rowsB, byte_row]
theorem rowsB_str (l : List UInt8) : bytesOfRows (rowsB l) = bOf l := by
 have : (rowsB l).filterMap byteOfRow = l := by
  induction l with
  | nil => rfl
  | cons b l ih => simp only [rowsB, List.map_cons, List.filterMap_cons, byte_row]; exact congrArg _ ih
 simp [bytesOfRows, this]
theorem f108 {s old new : ByteArray} (h : repOk s old new = true) : Ev (fs SK) 108 [.d (.v (.string s)), .d (.v (.string old)), .d (.v (.string new))] ⟨.d (.v (.string (repS s old new))), []⟩ :=
 Ev.nat rfl ⟨0, fun _ _ _ _ => by show ((((((((natF 108 fReplace 108 [.d (.v (.string s)), .d (.v (.string old)), .d (.v (.string new))]).or (natF 81 fJoin 108 [.d (.v (.string s)), .d (.v (.string old)), .d (.v (.string new))])).or (natF 121 fCut 108 [.d (.v (.string s)), .d (.v (.string old)), .d (.v (.string new))])).or (natF 124 fTrim 108 [.d (.v (.string s)), .d (.v (.string old)), .d (.v (.string new))])).or (natF 123 fAny 108 [.d (.v (.string s)), .d (.v (.string old)), .d (.v (.string new))])).or (natF 28 fSplit 108 [.d (.v (.string s)), .d (.v (.string old)), .d (.v (.string new))])).or (natF 30 fCut3 108 [.d (.v (.string s)), .d (.v (.string old)), .d (.v (.string new))])).or (natF 29 fSuf 108 [.d (.v (.string s)), .d (.v (.string old)), .d (.v (.string new))])).or (natCode SK 71 108 [.d (.v (.string s)), .d (.v (.string old)), .d (.v (.string new))]) = _; simp [natF, fReplace, h, show Nat.beq 108 81 = false from rfl, show Nat.beq 108 121 = false from rfl, show Nat.beq 108 124 = false from rfl, show Nat.beq 108 123 = false from rfl, show Nat.beq 108 28 = false from rfl, show Nat.beq 108 30 = false from rfl, show Nat.beq 108 29 = false from rfl]⟩
theorem f80 {s : ByteArray} (hs : s.size ≤ 100000) : Ev (fs SK) 80 [.d (.v (.string s))] ⟨.d (.v (.string (quoS s))), []⟩ := by
 refine Ev.of (af := a80) rfl rfl (Evt.congr (fun d n => a80q ..) ?_)
 have h1 := rep_size (s := s) (old := ⟨#[92]⟩) (new := ⟨#[92, 92]⟩) (c := 92) (l := [92, 92]) rfl rfl rfl
 have h2 := rep_size (s := repS s ⟨#[92]⟩ ⟨#[92, 92]⟩) (old := ⟨#[34]⟩) (new := ⟨#[92, 34]⟩) (c := 34) (l := [92, 34]) rfl rfl rfl
 refine ev_call (f108 (rep_ok rfl rfl (by omega))) ?_
 simp -implicitDefEqProofs only [rdl, Ex.same, Nat.beq]
 refine ev_call (f108 (rep_ok rfl rfl (by omega))) ?_
 simp -implicitDefEqProofs only [rdl, Ex.same, Nat.beq]
 have e1 : (⟨#[34]⟩ : ByteArray).size = 1 := rfl
 refine ev_tst (sz_le (by rw [e1]; simp only [maxLen]; omega)) ?_
 refine ev_tst (sz_le (by rw [ByteArray.size_append, e1]; simp only [maxLen]; omega)) ?_
 exact Evt.ret' (by rw [quo_two])
theorem num_ok : ∀ (d : Nat) {v : Row}, ShL E (E 46) v → numOk d v := by
 intro d
 induction d with
 | zero => intro v _; trivial
 | succ d ih =>
  intro v h
  obtain ⟨na0, sa1, na2, la3, la4, rfl, pa0, pa1, pa2, pa3, pa4⟩ := I46 h
  refine ⟨pa2, fun x hx => ?_⟩
  obtain ⟨i, hi⟩ := List.getElem?_of_mem hx
  exact ih (pa4.at hi)
theorem strs_row {x : Row} (h : ShL E (E 9) x) : ∃ u : ByteArray, x = [.v (.string u)] := by
 obtain ⟨sa0, rfl, pa0⟩ := I9 h
 exact ⟨_, rfl⟩
def rowsS (l : List ByteArray) : Rows := l.map fun s => [D.v (.string s)]
theorem rowsS_snoc (l : List ByteArray) (s : ByteArray) : rowsS l ++ ([[(.v (.string s))]] : Rows) = rowsS (l ++ [s]) := by simp [rowsS]
theorem rowsS_len (l : List ByteArray) : (rowsS l).length = l.length := by simp [rowsS]
theorem f81 {l : List ByteArray} (h1 : l.length ≤ 1000000) (h2 : (J l).size ≤ 1000000) : Ev (fs SK) 81 [.d (.s 1 (rowsS l)), .d (.v (.string ({ data := #[44] } : ByteArray)))] ⟨.d (.v (.string (J l))), []⟩ :=
 Ev.nat rfl ⟨0, fun _ _ _ _ => by
  have h3 : strsOf (rowsS l) = some l := strsOf_map l
  have h4 : (joinS l ({ data := #[44] } : ByteArray)).size ≤ 1000000 := h2
  have h5 : joinOk l ({ data := #[44] } : ByteArray) = true := by simp [joinOk]; omega
  show ((((((((natF 108 fReplace 81 [.d (.s 1 (rowsS l)), .d (.v (.string ({ data := #[44] } : ByteArray)))]).or (natF 81 fJoin 81 [.d (.s 1 (rowsS l)), .d (.v (.string ({ data := #[44] } : ByteArray)))])).or (natF 121 fCut 81 [.d (.s 1 (rowsS l)), .d (.v (.string ({ data := #[44] } : ByteArray)))])).or (natF 124 fTrim 81 [.d (.s 1 (rowsS l)), .d (.v (.string ({ data := #[44] } : ByteArray)))])).or (natF 123 fAny 81 [.d (.s 1 (rowsS l)), .d (.v (.string ({ data := #[44] } : ByteArray)))])).or (natF 28 fSplit 81 [.d (.s 1 (rowsS l)), .d (.v (.string ({ data := #[44] } : ByteArray)))])).or (natF 30 fCut3 81 [.d (.s 1 (rowsS l)), .d (.v (.string ({ data := #[44] } : ByteArray)))])).or (natF 29 fSuf 81 [.d (.s 1 (rowsS l)), .d (.v (.string ({ data := #[44] } : ByteArray)))])).or (natCode SK 71 81 [.d (.s 1 (rowsS l)), .d (.v (.string ({ data := #[44] } : ByteArray)))]) = _
  simp [natF, fJoin, h3, h5, J, comma, show Nat.beq 81 108 = false from rfl, show Nat.beq 81 121 = false from rfl, show Nat.beq 81 124 = false from rfl, show Nat.beq 81 123 = false from rfl, show Nat.beq 81 28 = false from rfl, show Nat.beq 81 30 = false from rfl, show Nat.beq 81 29 = false from rfl]⟩
theorem f52 : ∀ (d : Nat) {v : Row}, ShL E (E 46) v → 0 < valSz d v → Ev (fs SK) 52 [.g v] ⟨.d (.v (.string (vTxt d v))), []⟩ := by
 intro d
 induction d with
 | zero => intro v _ h; simp [valSz] at h
 | succ d ih =>
  intro v h hs
  have hn := num_ok (d + 1) h
  have hv := valAt hs
  have hk : ∀ x ∈ cR v 4, ((vTxt d x).size : Int) + 22 ≤ 272 * valSz d x := fun x hx => vTxt_size d x (hv.kids x hx) (hn.2 x hx)
  have hfit := fun i hi => kids_fit (i := i) hs hk hi
  have hrng := valSz_rng (d + 1) v
  have hshape := hv.shape
  have hkids := hv.kids
  obtain ⟨na0, sa1, na2, la3, la4, rfl, pa0, pa1, pa2, pa3, pa4⟩ := I46 h
  have hlen := pa4.le
  have ks : ∀ i, i < la4.length → ∃ x, la4[i]? = some x ∧ ShL E (E 46) x ∧ 0 < valSz d x ∧ row_ la4 i = x ∧ (vTxt d x).size ≤ 81600 := fun i hi => by
   have hx := List.getElem?_eq_getElem hi
   have hm : la4[i] ∈ cR ([.v (.int .i64 na0), .v (.string sa1), .v (.int .i64 na2), .s 1 la3, .s 5 la4] : Row) 4 := List.getElem_mem hi
   have q1 := hkids _ hm
   have q2 := hk _ hm
   have q3 := (valSz_rng d la4[i]).2
   exact ⟨_, hx, pa4.at hx, q1, row_at hi, by omega⟩
  have kk : na0 = 5 → ∀ i, i < la4.length → ∃ u : ByteArray, la3[i]? = some [.v (.string u)] ∧ cT (row_ la3 i) 0 = u ∧ u.size ≤ 20 := fun h5 i hi => by
   obtain ⟨q1, q2⟩ := shape_keys hshape (by simpa [cN] using h5)
   have hi3 : i < la3.length := by have q1 : la3.length = la4.length := q1; omega
   have hx := List.getElem?_eq_getElem hi3
   obtain ⟨u, hu⟩ := strs_row (pa3.at hx)
   have q3 := key_size q2 (i := i) hi3
   have e : row_ la3 i = [.v (.string u)] := by rw [row_at hi3, hu]
   refine ⟨u, by rw [hx, hu], by rw [e]; rfl, ?_⟩
   have q4 : (cT (row_ la3 i) 0).size ≤ 20 := q3
   rw [e] at q4
   exact q4
  have hJ : ∀ i, i ≤ la4.length → (J (kidsTxt (vTxt d) ([.v (.int .i64 na0), .v (.string sa1), .v (.int .i64 na2), .s 1 la3, .s 5 la4] : Row) i)).size ≤ 81600 := fun i hi => by have := hfit i hi; omega
  have c44 : comma = ({ data := #[44] } : ByteArray) := rfl
  have c58 : colon = ({ data := #[58] } : ByteArray) := rfl
  have z1 : ∀ b : UInt8, (⟨#[b]⟩ : ByteArray).size = 1 := fun _ => rfl
  have key : ∀ (k i : Nat), la4.length - i = k → i ≤ la4.length →
    Evt (fun d' n => l52x0 (TabD (fs SK) d') d' n [.b [.v (.int .i64 na0), .v (.string sa1), .v (.int .i64 na2), .fz 1 la3, .fz 5 la4], .o 1 (rowsS (kidsTxt (vTxt d) ([.v (.int .i64 na0), .v (.string sa1), .v (.int .i64 na2), .s 1 la3, .s 5 la4] : Row) i)), .fz 5 la4, .v (.int .i64 (la4.length : Int)), .v (.int .i64 (i : Int))]) (.exit 1, [.b [.v (.int .i64 na0), .v (.string sa1), .v (.int .i64 na2), .fz 1 la3, .fz 5 la4], .o 1 (rowsS (kidsTxt (vTxt d) ([.v (.int .i64 na0), .v (.string sa1), .v (.int .i64 na2), .s 1 la3, .s 5 la4] : Row) la4.length))]) := by
   intro k
   induction k with
   | zero =>
    intro i hk' hi
    have : i = la4.length := by omega
    subst this
    refine ev_succ ?_
    simp only [l52x0s]
    simp -implicitDefEqProofs only [rdl, Ex.same, Nat.beq, Int.lt_irrefl, decide_false]
    exact Evt.ret
   | succ k ihk =>
    intro i hk' hi
    have hlt : i < la4.length := by omega
    obtain ⟨x, hx, hx2, hx3, hx4, hx5⟩ := ks i hlt
    have call := ih hx2 hx3
    have nx := ihk (i + 1) (by omega) (by omega)
    rw [kidsTxt_succ, ← rowsS_snoc] at nx
    have hw := wrap_succ hlt hlen
    have hkt : kidTxt (vTxt d) ([.v (.int .i64 na0), .v (.string sa1), .v (.int .i64 na2), .s 1 la3, .s 5 la4] : Row) i = bif na0 == 5 then cT (row_ la3 i) 0 ++ colon ++ vTxt d x else vTxt d x := by
     show (bif na0 == 5 then _ else _) = _
     rw [← hx4]; rfl
    rw [hkt] at nx
    have hkl : (rowsS (kidsTxt (vTxt d) ([.v (.int .i64 na0), .v (.string sa1), .v (.int .i64 na2), .s 1 la3, .s 5 la4] : Row) i)).length = i := by simp [rowsS_len, kidsTxt]
    have hn3 := shape_few hs
    have hn3 : la4.length ≤ 300 := hn3
    have hap : ∀ y : ByteArray, decide (((rowsS (kidsTxt (vTxt d) ([.v (.int .i64 na0), .v (.string sa1), .v (.int .i64 na2), .s 1 la3, .s 5 la4] : Row) i)).length + ([[(.v (.string y))]] : Rows).length) * 16 ≤ maxBytes) = true := fun y => decide_eq_true (by rw [hkl]; simp only [List.length_cons, List.length_nil, maxBytes]; omega)
    generalize rowsS (kidsTxt (vTxt d) ([.v (.int .i64 na0), .v (.string sa1), .v (.int .i64 na2), .s 1 la3, .s 5 la4] : Row) i) = acc at nx hap
    generalize vTxt d x = tx at nx call hx5
    obtain ⟨nx0, sx1, nx2, lx3, lx4, rfl, px0, px1, px2, px3, px4⟩ := I46 hx2
    refine ev_succ ?_
    simp only [l52x0s]
    simp -implicitDefEqProofs only [rdl, Ex.same, Nat.beq, decide_eq_true (Int.ofNat_lt.2 hlt), dec_nn, look_at hx, hw]
    refine ev_call call ?_
    simp -implicitDefEqProofs only [rdl, Ex.same, Nat.beq]
    refine ev_if (fun c5 => ?_) (fun c5 => ?_)
    ·obtain ⟨u, hu, hu2, hu3⟩ := kk (by simpa using c5) i hlt
     rw [c5, hu2, c58] at nx
     simp only [cond_true] at nx
     simp -implicitDefEqProofs only [rdl, Ex.same, Nat.beq, look_at hu]
     refine ev_tst (sz_le (by simp only [ByteArray.size_append, z1, maxLen]; omega)) ?_
     refine ev_tst (sz_le (by simp only [ByteArray.size_append, z1, maxLen]; omega)) ?_
     refine ev_tst (hap ByteArray.empty) ?_
     exact nx
    ·rw [c5] at nx
     simp only [cond_false] at nx
     refine ev_tst (hap ByteArray.empty) ?_
     exact nx
  have hJl := hJ la4.length (Nat.le_refl _)
  have hn3 := shape_few hs
  have hn3 : la4.length ≤ 300 := hn3
  simp only [vTxt, cN, cT, cR, cE, List.getElem?_cons_zero, List.getElem?_cons_succ]
  refine Ev.of (af := a52) rfl rfl (Evt.congr (fun d n => a52q ..) ?_)
  refine ev_if (fun c1 => ?_) (fun c1 => ?_)
  ·have q := (shape_text hshape (by simpa [cN] using c1)).1
   have q : sa1.size ≤ 100 := q
   refine ev_call (f80 (by omega)) ?_
   simp -implicitDefEqProofs only [rdl, Ex.same, Nat.beq]
   exact Evt.ret' (by rw [c1]; rfl)
  ·rw [c1]
   refine ev_if (fun c2 => ?_) (fun c2 => ?_)
   ·refine ev_call (f18 pa2) ?_
    simp -implicitDefEqProofs only [rdl, Ex.same, Nat.beq]
    exact Evt.ret' (by rw [c2]; rfl)
   ·rw [c2]
    refine ev_if (fun c3 => ?_) (fun c3 => ?_)
    ·rw [c3]
     refine ev_if (fun c4 => ?_) (fun c4 => ?_)
     ·exact Evt.ret' (by rw [c4]; rfl)
     ·exact Evt.ret' (by rw [c4]; rfl)
    ·rw [c3]
     refine ev_aft (L := fun d' n => l52x0 (TabD (fs SK) d') d' n [.b [.v (.int .i64 na0), .v (.string sa1), .v (.int .i64 na2), .fz 1 la3, .fz 5 la4], .o 1 [], .fz 5 la4, .v (.int .i64 (la4.length : Int)), .v (.int .i64 0)]) (key _ 0 rfl (by omega)) ?_
     simp -implicitDefEqProofs only [rdl, Ex.same, Nat.beq]
     refine ev_call (f81 (by simp [kidsTxt]; omega) (by omega)) ?_
     simp -implicitDefEqProofs only [rdl, Ex.same, Nat.beq]
     refine ev_if (fun c5 => ?_) (fun c5 => ?_)
     ·refine ev_tst (sz_le (by simp only [ByteArray.size_append, z1, maxLen]; omega)) ?_
      refine ev_tst (sz_le (by simp only [ByteArray.size_append, z1, maxLen]; omega)) ?_
      exact Evt.ret' (by rw [c5]; rfl)
     ·refine ev_tst (sz_le (by simp only [ByteArray.size_append, z1, maxLen]; omega)) ?_
      refine ev_tst (sz_le (by simp only [ByteArray.size_append, z1, maxLen]; omega)) ?_
      exact Evt.ret' (by rw [c5]; rfl)
end Go.Am.Fm
