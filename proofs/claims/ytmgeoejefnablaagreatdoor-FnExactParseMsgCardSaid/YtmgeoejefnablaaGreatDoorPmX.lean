/- The program's reader gives back what was written. Nothing is assumed. -/
import Derived.Test.YtmgeoejefnablaaGreatDoorPmY
namespace Go.Am.Pm
set_option linter.unusedVariables false
set_option linter.unusedSimpArgs false
set_option maxRecDepth 8000
theorem C5e {c : UInt8} (h : A14 c = true) : 48 ≤ c.toNat ∧ c.toNat ≤ 57 := by
 simp only [A14, inB, Bool.and_eq_true, decide_eq_true_eq] at h
 omega
theorem D2x (s : ByteArray) {L : List UInt8} (hL : ∀ c ∈ L, A14 c = true) (h63 : A0m L 0 ≤ 9223372036854775808) (hl : L.length ≤ 19) : ∀ (k i : Nat), L.length - i ≤ k → i ≤ L.length →
  Evt (fun d m => A7t (TabD fs d) d m [.v (.string s), .v (.string (bOf L)), .v (.int .i64 (-(A0m (L.take i) 0 : Nat) : Int)), .v (.int .i64 ((bOf L).size : Int)), .v (.int .i64 (i : Int))]) (.exit 0, [.v (.string s), .v (.string (bOf L)), .v (.int .i64 (-(A0m L 0 : Nat) : Int))]) := by
 have fin : ∀ i, i = L.length → Evt (fun d m => A7t (TabD fs d) d m [.v (.string s), .v (.string (bOf L)), .v (.int .i64 (-(A0m (L.take i) 0 : Nat) : Int)), .v (.int .i64 ((bOf L).size : Int)), .v (.int .i64 (i : Int))]) (.exit 0, [.v (.string s), .v (.string (bOf L)), .v (.int .i64 (-(A0m L 0 : Nat) : Int))]) := fun i hi => by
  subst hi
  rw [J8, List.take_length]
  refine F7 ?_
  simp only [B4p]
  simp -implicitDefEqProofs only [rdl, Ex.same, Nat.beq, Int.lt_irrefl, decide_false]
  exact Evt.ret
 intro k
 induction k with
 | zero => intro i hk hi; exact fin i (by omega)
 | succ k ih =>
  intro i hk hi
  by_cases hlt : i < L.length
  ·have hc : (bOf L).toList[i]? = some L[i] := by rw [R6]; exact List.getElem?_eq_getElem hlt
   obtain ⟨r1, r2⟩ := C5e (hL L[i] (List.getElem_mem hlt))
   have hz : (bOf L).size = L.length := J8 L
   have e1 : A0m (L.take (i + 1)) 0 = A0m (L.take i) 0 * 10 + (L[i].toNat - 48) := by
    rw [List.take_succ_eq_append_getElem hlt, B7l]
    rfl
   have e2 : A0m (L.take (i + 1)) 0 ≤ A0m L 0 := by
    have := C0e (L.drop (i + 1)) (A0m (L.take (i + 1)) 0)
    rw [← B7l, List.take_append_drop] at this
    exact this
   have hw : IntKind.i64.wrap ((i : Int) + 1) = ((i + 1 : Nat) : Int) := G7 hlt (by simp only [maxLen]; omega)
   generalize L[i] = c at hc r1 r2 e1
   have hn : IntKind.i64.wrap (IntKind.i64.wrap (10 * (-(A0m (L.take i) 0 : Nat) : Int)) - IntKind.i64.wrap (IntKind.u8.wrap ((c.toNat : Int) - 48))) = (-(A0m (L.take (i + 1)) 0 : Nat) : Int) := by
    rw [wrap_u8 (by omega) (by omega), wrap_i64 (n := (c.toNat : Int) - 48) (by omega) (by omega), wrap_i64 (n := 10 * (-(A0m (L.take i) 0 : Nat) : Int)) (by omega) (by omega), wrap_i64 (by omega) (by omega)]
    omega
   have nx := ih (i + 1) (by omega) hlt
   refine F7 ?_
   simp only [B4p]
   simp -implicitDefEqProofs only [rdl, Ex.same, Nat.beq, hz, decide_eq_true (Int.ofNat_lt.2 hlt), F3, I1 hc, hw, hn, show decide ((c.toNat : Int) < 48) = false from decide_eq_false (by omega), show decide ((c.toNat : Int) > 57) = false from decide_eq_false (by omega), Bool.not_false, show (false == false) = true from rfl]
   rw [hz] at nx
   exact nx
  ·exact fin i (by omega)
theorem c92 {n : Int} (hn : Fits n) : Ev fs 92 [.d (.v (.string (J3 n)))] ⟨.t [.d (.v (.int .i64 n)), .d (.v (.bool true))], []⟩ := by
 obtain ⟨h1, h2, h3⟩ := A6l n.natAbs
 have h4 := B8t 18 n.natAbs (B6l hn)
 have hr := B17 hn
 have key := D2x (J3 n) h1 (by rw [h2]; omega) h4 _ 0 (Nat.le_refl _) (by omega)
 rw [h2] at key
 obtain ⟨c, l, hd, d1, d2⟩ := B4j n.natAbs
 have hne : D9 (bOf (dl n.natAbs)) ({ data := #[] } : ByteArray) = false := (B4u (b := c) (l := l) (by rw [R6, hd])).2.2.2.2
 have ht : A1f (J3 n) ({ data := #[45] } : ByteArray) = bOf (dl n.natAbs) := by
  by_cases hneg : n < 0
  ·have e : J3 n = bOf (45 :: dl n.natAbs) := A6k (by rw [U3, if_pos hneg])
   rw [e]
   simp [A1f, Lib.trimPrefix, Lib.hasPrefix]
  ·have e : J3 n = bOf (dl n.natAbs) := A6k (by rw [U3, if_neg hneg])
   rw [e]
   exact (C5d (c := 45) (l := []) rfl (fun r e => by rw [hd] at e; cases e; simp at d1)).2
 have q := f124 (J3 n) ({ data := #[45] } : ByteArray)
 rw [ht] at q
 have hz : (bOf (dl n.natAbs)).size = (dl n.natAbs).length := J8 _
 refine Ev.of (af := a92) rfl rfl (Evt.congr (fun d n => D2a ..) ?_)
 refine A7 q ?_
 simp -implicitDefEqProofs only [rdl, Ex.same, Nat.beq, hne, show decide (((bOf (dl n.natAbs)).size : Int) > 19) = false from decide_eq_false (by rw [hz]; omega), Bool.not_false, show (false == false) = true from rfl]
 refine I4 (L := fun d m => A7t (TabD fs d) d m [.v (.string (J3 n)), .v (.string (bOf (dl n.natAbs))), .v (.int .i64 0), .v (.int .i64 ((bOf (dl n.natAbs)).size : Int)), .v (.int .i64 0)]) key ?_
 by_cases hneg : n < 0
 ·have e : (J3 n).size = (dl n.natAbs).length + 1 := by rw [A9l (l := 45 :: dl n.natAbs) (by rw [U3, if_pos hneg])]; rfl
  have e2 : (-(n.natAbs : Int)) = n := by omega
  simp -implicitDefEqProofs only [rdl, Ex.same, Nat.beq, e2, show (((bOf (dl n.natAbs)).size : Int) == ((J3 n).size : Int)) = false from by rw [hz, e]; simp; omega]
  refine A7 (f18 hn) ?_
  simp -implicitDefEqProofs only [rdl, Ex.same, Nat.beq, A1i]
  exact Evt.ret
 ·have e : (J3 n).size = (dl n.natAbs).length := by rw [A9l (l := dl n.natAbs) (by rw [U3, if_neg hneg])]
  have e2 : IntKind.i64.wrap (0 - (-(n.natAbs : Int))) = n := by rw [wrap_i64 (by omega) (by omega)]; omega
  simp -implicitDefEqProofs only [rdl, Ex.same, Nat.beq, e2, show (((bOf (dl n.natAbs)).size : Int) == ((J3 n).size : Int)) = true from by rw [hz, e]; simp]
  refine A7 (f18 hn) ?_
  simp -implicitDefEqProofs only [rdl, Ex.same, Nat.beq, A1i]
  exact Evt.ret
theorem D0x {d : Nat} (hd : d + 1 ≤ 6) {v : Row} (hv : 0 < G9 (d + 1) v) (pks : SL E 9 (cR v 3)) (pvs : SL E 46 (cR v 4)) (h45 : cN v 0 = 4 ∨ cN v 0 = 5)
  (hkl : cN v 0 = 5 → (cR v 3).length = (cR v 4).length) (hk0 : cN v 0 = 4 → cR v 3 = [])
  (rdr : ∀ m, m < (cR v 4).length → ∀ r, Stop r → ((I6 d (J4 (cR v 4) m)).toList ++ r).length ≤ 1048576 → Ev fs 59 [.p (QS (bOf ((I6 d (J4 (cR v 4) m)).toList ++ r)) true), .d (.v (.int .i64 (d : Int)))] ⟨.g (J4 (cR v 4) m), [.p (QS (bOf r) true)]⟩)
  {e : UInt8} (t : ByteArray) (he : e = 93 ∨ e = 125) (r : List UInt8) : ∀ (n m : Nat), m + (n + 1) = (cR v 4).length → (M9 d v m ++ (jt (M9 d v) n (m + 1) ++ e :: r)).length ≤ 1048576 →
  Evt (fun d' mm => A96 (TabD fs d') d' mm [.b (QB (bOf (M9 d v m ++ (jt (M9 d v) n (m + 1) ++ e :: r))) true), .v (.int .i64 (cN v 0)), .v (.string t), .v (.int .i64 ((d + 1 : Nat) : Int)), .b ZB, .b (KB (cN v 0) ((cR v 3).take m) ((cR v 4).take m))])
   (.exit 0, [.b (QB (bOf (e :: r)) true), .v (.string t), .b ZB, .b (KB (cN v 0) (cR v 3) (cR v 4))]) := by
 have hwd : IntKind.i64.wrap (((d + 1 : Nat) : Int) - 1) = (d : Int) := by rw [wrap_i64 (by omega) (by omega)]; omega
 have hfw := A5t hv
 have tk4 : ∀ {m : Nat}, cN v 0 = 4 → (cR v 3).take m = (cR v 3).take (m + 1) := fun h => by rw [hk0 h]; simp
 intro n
 induction n with
 | zero =>
  intro m hmn hs
  have hm : m < (cR v 4).length := by omega
  have hfl : decide ((((List.take m (cR v 4)).length : Nat) : Int) ≤ 300) = true := decide_eq_true (by rw [List.length_take]; omega)
  refine F7 ?_
  simp only [B8y]
  simp -implicitDefEqProofs only [rdl, Ex.same, Nat.beq, show (true == true) = true from rfl, hfl]
  have h45' := h45
  rcases h45' with hk4 | hk5
  ·
   have hA : M9 d v m = (I6 d (J4 (cR v 4) m)).toList := A93 hk4
   simp -implicitDefEqProofs only [rdl, Ex.same, Nat.beq, hwd, show (cN v 0 == 5) = false from by rw [hk4]; rfl]
   have q := rdr m hm (jt (M9 d v) 0 (m + 1) ++ e :: r) (A33 he) (by rw [hA] at hs; simp only [List.length_append, List.length_cons] at hs ⊢; omega)
   rw [← hA] at q
   obtain ⟨na0, sa1, na2, la3, la4, hx, pa0, pa1, pa2, pa3, pa4⟩ := I46 (V5 pvs (m := m) hm)
   have tv := V6 (m := m) hm
   rw [hx] at q tv
   try rw [hx]
   refine A7 q ?_
   simp -implicitDefEqProofs only [rdl, Ex.same, Nat.beq]
   refine D8 (decide_eq_true (by simp only [List.length_cons, List.length_nil, List.length_take, D7]; omega)) ?_
   refine A7 (A6r (c := 44) (l := []) rfl (fun r' e' => by rcases he with rfl | rfl <;> cases e') true) ?_
   simp -implicitDefEqProofs only [rdl, Ex.same, Nat.beq, Bool.not_false]
   simp only [J7, List.set_cons_zero, List.set_cons_succ]
   rw [tv, tk4 (m := m) hk4]
   have ek : (cR v 3).take (m + 1) = cR v 3 := by
    rcases h45 with h4 | h5
    ·rw [hk0 h4]; simp
    ·exact List.take_of_length_le (by have := hkl h5; omega)
   have ev : (cR v 4).take (m + 1) = cR v 4 := List.take_of_length_le (by omega)
   rw [ek, ev]
   exact Evt.ret
  ·
   obtain ⟨wk, hw⟩ := A7x pks (m := m) (by have := hkl hk5; omega)
   have hn := (B7f hv hm).key hk5
   rw [hw] at hn
   have hn : O3 wk = true := hn
   have hkt : M9 d v m = wk.toList ++ 58 :: (I6 d (J4 (cR v 4) m)).toList := by rw [B2x hk5, hw]; rfl
   rw [hkt, List.append_assoc, List.cons_append] at hs
   rw [hkt, List.append_assoc, List.cons_append]
   simp -implicitDefEqProofs only [rdl, Ex.same, Nat.beq, show (cN v 0 == 5) = true from by rw [hk5]; rfl]
   refine A7 (c91 (by rw [J8]; exact hs) true (.inl rfl) (B1l rfl (fun c hc => (A0d ((A32 hn).1 c hc)).1))) ?_
   simp -implicitDefEqProofs only [rdl, Ex.same, Nat.beq]
   refine A7 (D0w (l := [58]) rfl) ?_
   simp -implicitDefEqProofs only [rdl, Ex.same, Nat.beq, hwd, M7]
   refine D8 (decide_eq_true (by simp only [List.length_cons, List.length_nil, List.length_take, D7]; omega)) ?_
   have q := rdr m hm (jt (M9 d v) 0 (m + 1) ++ e :: r) (A33 he) (by simp only [List.length_append, List.length_cons] at hs ⊢; omega)
   obtain ⟨na0, sa1, na2, la3, la4, hx, pa0, pa1, pa2, pa3, pa4⟩ := I46 (V5 pvs (m := m) hm)
   have tv := V6 (m := m) hm
   have tk := V6 (l := cR v 3) (m := m) (by have := hkl hk5; omega)
   rw [hw] at tk
   rw [hx] at q tv
   try rw [hx]
   refine A7 q ?_
   simp -implicitDefEqProofs only [rdl, Ex.same, Nat.beq]
   refine D8 (decide_eq_true (by simp only [List.length_cons, List.length_nil, List.length_take, D7]; omega)) ?_
   refine A7 (A6r (c := 44) (l := []) rfl (fun r' e' => by rcases he with rfl | rfl <;> cases e') true) ?_
   simp -implicitDefEqProofs only [rdl, Ex.same, Nat.beq, Bool.not_false]
   simp only [J7, List.set_cons_zero, List.set_cons_succ]
   rw [tv, tk]
   have ek : (cR v 3).take (m + 1) = cR v 3 := by
    rcases h45 with h4 | h5
    ·rw [hk0 h4]; simp
    ·exact List.take_of_length_le (by have := hkl h5; omega)
   have ev : (cR v 4).take (m + 1) = cR v 4 := List.take_of_length_le (by omega)
   rw [ek, ev]
   exact Evt.ret
 | succ n ih =>
  intro m hmn hs
  have hm : m < (cR v 4).length := by omega
  have hfl : decide ((((List.take m (cR v 4)).length : Nat) : Int) ≤ 300) = true := decide_eq_true (by rw [List.length_take]; omega)
  refine F7 ?_
  simp only [B8y]
  simp -implicitDefEqProofs only [rdl, Ex.same, Nat.beq, show (true == true) = true from rfl, hfl]
  have h45' := h45
  rcases h45' with hk4 | hk5
  ·
   have hA : M9 d v m = (I6 d (J4 (cR v 4) m)).toList := A93 hk4
   simp -implicitDefEqProofs only [rdl, Ex.same, Nat.beq, hwd, show (cN v 0 == 5) = false from by rw [hk4]; rfl]
   have q := rdr m hm (jt (M9 d v) (n + 1) (m + 1) ++ e :: r) (A33 he) (by rw [hA] at hs; simp only [List.length_append, List.length_cons] at hs ⊢; omega)
   rw [← hA] at q
   obtain ⟨na0, sa1, na2, la3, la4, hx, pa0, pa1, pa2, pa3, pa4⟩ := I46 (V5 pvs (m := m) hm)
   have tv := V6 (m := m) hm
   rw [hx] at q tv
   try rw [hx]
   refine A7 q ?_
   simp -implicitDefEqProofs only [rdl, Ex.same, Nat.beq]
   refine D8 (decide_eq_true (by simp only [List.length_cons, List.length_nil, List.length_take, D7]; omega)) ?_
   have ej : jt (M9 d v) (n + 1) (m + 1) ++ e :: r = [44] ++ (M9 d v (m + 1) ++ (jt (M9 d v) n (m + 1 + 1) ++ e :: r)) := by rw [jt]; simp
   rw [ej]
   refine A7 (C23 (l := [44]) rfl true) ?_
   simp -implicitDefEqProofs only [rdl, Ex.same, Nat.beq, Bool.not_true]
   simp only [J7, List.set_cons_zero, List.set_cons_succ]
   rw [tv, tk4 (m := m) hk4]
   refine ih (m + 1) (by omega) ?_
   rw [ej] at hs
   simp only [List.length_append, List.length_cons, List.length_nil] at hs ⊢
   omega
  ·
   obtain ⟨wk, hw⟩ := A7x pks (m := m) (by have := hkl hk5; omega)
   have hn := (B7f hv hm).key hk5
   rw [hw] at hn
   have hn : O3 wk = true := hn
   have hkt : M9 d v m = wk.toList ++ 58 :: (I6 d (J4 (cR v 4) m)).toList := by rw [B2x hk5, hw]; rfl
   rw [hkt, List.append_assoc, List.cons_append] at hs
   rw [hkt, List.append_assoc, List.cons_append]
   simp -implicitDefEqProofs only [rdl, Ex.same, Nat.beq, show (cN v 0 == 5) = true from by rw [hk5]; rfl]
   refine A7 (c91 (by rw [J8]; exact hs) true (.inl rfl) (B1l rfl (fun c hc => (A0d ((A32 hn).1 c hc)).1))) ?_
   simp -implicitDefEqProofs only [rdl, Ex.same, Nat.beq]
   refine A7 (D0w (l := [58]) rfl) ?_
   simp -implicitDefEqProofs only [rdl, Ex.same, Nat.beq, hwd, M7]
   refine D8 (decide_eq_true (by simp only [List.length_cons, List.length_nil, List.length_take, D7]; omega)) ?_
   have q := rdr m hm (jt (M9 d v) (n + 1) (m + 1) ++ e :: r) (A33 he) (by simp only [List.length_append, List.length_cons] at hs ⊢; omega)
   obtain ⟨na0, sa1, na2, la3, la4, hx, pa0, pa1, pa2, pa3, pa4⟩ := I46 (V5 pvs (m := m) hm)
   have tv := V6 (m := m) hm
   have tk := V6 (l := cR v 3) (m := m) (by have := hkl hk5; omega)
   rw [hw] at tk
   rw [hx] at q tv
   try rw [hx]
   refine A7 q ?_
   simp -implicitDefEqProofs only [rdl, Ex.same, Nat.beq]
   refine D8 (decide_eq_true (by simp only [List.length_cons, List.length_nil, List.length_take, D7]; omega)) ?_
   have ej : jt (M9 d v) (n + 1) (m + 1) ++ e :: r = [44] ++ (M9 d v (m + 1) ++ (jt (M9 d v) n (m + 1 + 1) ++ e :: r)) := by rw [jt]; simp
   rw [ej]
   refine A7 (C23 (l := [44]) rfl true) ?_
   simp -implicitDefEqProofs only [rdl, Ex.same, Nat.beq, Bool.not_true]
   simp only [J7, List.set_cons_zero, List.set_cons_succ]
   rw [tv, tk]
   refine ih (m + 1) (by omega) ?_
   rw [ej] at hs
   simp only [List.length_append, List.length_cons, List.length_nil] at hs ⊢
   omega
end Go.Am.Pm
