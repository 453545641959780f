/- The program's reader gives back what was written. Nothing is assumed. -/
import Derived.Test.YtefdfdkkbbehiaaGreatDoorPpY
namespace Go.Am.Pp
set_option linter.unusedVariables false
set_option linter.unusedSimpArgs false
set_option maxRecDepth 8000
theorem dg_rng {c : UInt8} (h : isDg c = true) : 48 ≤ c.toNat ∧ c.toNat ≤ 57 := by
 simp only [isDg, inB, Bool.and_eq_true, decide_eq_true_eq] at h
 omega
theorem int_C (s : ByteArray) {L : List UInt8} (hL : ∀ c ∈ L, isDg c = true) (h63 : dval L 0 ≤ 9223372036854775808) (hl : L.length ≤ 19) : ∀ (k i : Nat), L.length - i ≤ k → i ≤ L.length →
  Evt (fun d m => l130x0 (TabD fs d) d m [.v (.string s), .v (.string (bOf L)), .v (.int .i64 (-(dval (L.take i) 0 : Nat) : Int)), .v (.int .i64 ((bOf L).size : Int)), .v (.int .i64 (i : Int))]) (.exit 0, [.v (.string s), .v (.string (bOf L)), .v (.int .i64 (-(dval L 0 : Nat) : Int))]) := by
 have fin : ∀ i, i = L.length → Evt (fun d m => l130x0 (TabD fs d) d m [.v (.string s), .v (.string (bOf L)), .v (.int .i64 (-(dval (L.take i) 0 : Nat) : Int)), .v (.int .i64 ((bOf L).size : Int)), .v (.int .i64 (i : Int))]) (.exit 0, [.v (.string s), .v (.string (bOf L)), .v (.int .i64 (-(dval L 0 : Nat) : Int))]) := fun i hi => by
  subst hi
  rw [bOf_size, List.take_length]
  refine ev_succ ?_
  simp only [l130x0s]
  simp -implicitDefEqProofs only [rdl, Ex.same, Nat.beq, Int.lt_irrefl, decide_false]
  exact Evt.ret
 intro k
 induction k with
 | zero => intro i hk hi; exact fin i (by omega)
 | succ k ih =>
  intro i hk hi
  by_cases hlt : i < L.length
  ·have hc : (bOf L).toList[i]? = some L[i] := by rw [bOf_list]; exact List.getElem?_eq_getElem hlt
   obtain ⟨r1, r2⟩ := dg_rng (hL L[i] (List.getElem_mem hlt))
   have hz : (bOf L).size = L.length := bOf_size L
   have e1 : dval (L.take (i + 1)) 0 = dval (L.take i) 0 * 10 + (L[i].toNat - 48) := by
    rw [List.take_succ_eq_append_getElem hlt, dval_app]
    rfl
   have e2 : dval (L.take (i + 1)) 0 ≤ dval L 0 := by
    have := dval_ge (L.drop (i + 1)) (dval (L.take (i + 1)) 0)
    rw [← dval_app, List.take_append_drop] at this
    exact this
   have hw : IntKind.i64.wrap ((i : Int) + 1) = ((i + 1 : Nat) : Int) := wrap_succ hlt (by simp only [maxLen]; omega)
   generalize L[i] = c at hc r1 r2 e1
   have hn : IntKind.i64.wrap (IntKind.i64.wrap (10 * (-(dval (L.take i) 0 : Nat) : Int)) - IntKind.i64.wrap (IntKind.u8.wrap ((c.toNat : Int) - 48))) = (-(dval (L.take (i + 1)) 0 : Nat) : Int) := by
    rw [wrap_u8 (by omega) (by omega), wrap_i64 (n := (c.toNat : Int) - 48) (by omega) (by omega), wrap_i64 (n := 10 * (-(dval (L.take i) 0 : Nat) : Int)) (by omega) (by omega), wrap_i64 (by omega) (by omega)]
    omega
   have nx := ih (i + 1) (by omega) hlt
   refine ev_succ ?_
   simp only [l130x0s]
   simp -implicitDefEqProofs only [rdl, Ex.same, Nat.beq, hz, decide_eq_true (Int.ofNat_lt.2 hlt), dec_nn, byteAt_at hc, hw, hn, show decide ((c.toNat : Int) < 48) = false from decide_eq_false (by omega), show decide ((c.toNat : Int) > 57) = false from decide_eq_false (by omega), Bool.not_false, show (false == false) = true from rfl]
   rw [hz] at nx
   exact nx
  ·exact fin i (by omega)
theorem c130 {n : Int} (hn : Fits n) : Ev fs 130 [.d (.v (.string (decS n)))] ⟨.t [.d (.v (.int .i64 n)), .d (.v (.bool true))], []⟩ := by
 obtain ⟨h1, h2, h3⟩ := dl_all n.natAbs
 have h4 := dl_len 18 n.natAbs (fits_abs hn)
 have hr := fits_i64 hn
 have key := int_C (decS n) h1 (by rw [h2]; omega) h4 _ 0 (Nat.le_refl _) (by omega)
 rw [h2] at key
 obtain ⟨c, l, hd, d1, d2⟩ := dl_head n.natAbs
 have hne : bytesEq (bOf (dl n.natAbs)) ({ data := #[] } : ByteArray) = false := (head_at (b := c) (l := l) (by rw [bOf_list, hd])).2.2.2.2
 have ht : trimP (decS n) ({ data := #[45] } : ByteArray) = bOf (dl n.natAbs) := by
  by_cases hneg : n < 0
  ·have e : decS n = bOf (45 :: dl n.natAbs) := bOf_of (by rw [decS_list, if_pos hneg])
   rw [e]
   simp [trimP, Lib.trimPrefix, Lib.hasPrefix]
  ·have e : decS n = bOf (dl n.natAbs) := bOf_of (by rw [decS_list, if_neg hneg])
   rw [e]
   exact (no_pre (c := 45) (l := []) rfl (fun r e => by rw [hd] at e; cases e; simp at d1)).2
 have q := f154 (decS n) ({ data := #[45] } : ByteArray)
 rw [ht] at q
 have hz : (bOf (dl n.natAbs)).size = (dl n.natAbs).length := bOf_size _
 refine Ev.of (af := a130) rfl rfl (Evt.congr (fun d n => a130q ..) ?_)
 refine ev_call q ?_
 simp -implicitDefEqProofs only [rdl, Ex.same, Nat.beq, hne, show decide (((bOf (dl n.natAbs)).size : Int) > 19) = false from decide_eq_false (by rw [hz]; omega), Bool.not_false, show (false == false) = true from rfl]
 refine ev_aft (L := fun d m => l130x0 (TabD fs d) d m [.v (.string (decS n)), .v (.string (bOf (dl n.natAbs))), .v (.int .i64 0), .v (.int .i64 ((bOf (dl n.natAbs)).size : Int)), .v (.int .i64 0)]) key ?_
 by_cases hneg : n < 0
 ·have e : (decS n).size = (dl n.natAbs).length + 1 := by rw [size_of (l := 45 :: dl n.natAbs) (by rw [decS_list, if_pos hneg])]; rfl
  have e2 : (-(n.natAbs : Int)) = n := by omega
  simp -implicitDefEqProofs only [rdl, Ex.same, Nat.beq, e2, show (((bOf (dl n.natAbs)).size : Int) == ((decS n).size : Int)) = false from by rw [hz, e]; simp; omega]
  refine ev_call (f106 hn) ?_
  simp -implicitDefEqProofs only [rdl, Ex.same, Nat.beq, beq_self]
  exact Evt.ret
 ·have e : (decS n).size = (dl n.natAbs).length := by rw [size_of (l := dl n.natAbs) (by rw [decS_list, if_neg hneg])]
  have e2 : IntKind.i64.wrap (0 - (-(n.natAbs : Int))) = n := by rw [wrap_i64 (by omega) (by omega)]; omega
  simp -implicitDefEqProofs only [rdl, Ex.same, Nat.beq, e2, show (((bOf (dl n.natAbs)).size : Int) == ((decS n).size : Int)) = true from by rw [hz, e]; simp]
  refine ev_call (f106 hn) ?_
  simp -implicitDefEqProofs only [rdl, Ex.same, Nat.beq, beq_self]
  exact Evt.ret
theorem pkidsC {d : Nat} (hd : d + 1 ≤ 6) {v : Row} (hv : 0 < valSz (d + 1) v) (pks : SL E 9 (cR v 3)) (pvs : SL E 33 (cR v 4)) (h45 : cN v 0 = 4 ∨ cN v 0 = 5)
  (hkl : cN v 0 = 5 → (cR v 3).length = (cR v 4).length) (hk0 : cN v 0 = 4 → cR v 3 = [])
  (rdr : ∀ m, m < (cR v 4).length → ∀ r, Stop r → ((vTxt d (row_ (cR v 4) m)).toList ++ r).length ≤ 1048576 → Ev fs 94 [.p (QS (bOf ((vTxt d (row_ (cR v 4) m)).toList ++ r)) true), .d (.v (.int .i64 (d : Int)))] ⟨.g (row_ (cR v 4) m), [.p (QS (bOf r) true)]⟩)
  {e : UInt8} (t : ByteArray) (he : e = 93 ∨ e = 125) (r : List UInt8) : ∀ (n m : Nat), m + (n + 1) = (cR v 4).length → (kidL d v m ++ (jt (kidL d v) n (m + 1) ++ e :: r)).length ≤ 1048576 →
  Evt (fun d' mm => l128x0 (TabD fs d') d' mm [.b (QB (bOf (kidL d v m ++ (jt (kidL d v) n (m + 1) ++ e :: r))) true), .v (.int .i64 (cN v 0)), .v (.string t), .v (.int .i64 ((d + 1 : Nat) : Int)), .b ZB, .b (KB (cN v 0) ((cR v 3).take m) ((cR v 4).take m))])
   (.exit 0, [.b (QB (bOf (e :: r)) true), .v (.string t), .b ZB, .b (KB (cN v 0) (cR v 3) (cR v 4))]) := by
 have hwd : IntKind.i64.wrap (((d + 1 : Nat) : Int) - 1) = (d : Int) := by rw [wrap_i64 (by omega) (by omega)]; omega
 have hfw := shape_few hv
 have tk4 : ∀ {m : Nat}, cN v 0 = 4 → (cR v 3).take m = (cR v 3).take (m + 1) := fun h => by rw [hk0 h]; simp
 intro n
 induction n with
 | zero =>
  intro m hmn hs
  have hm : m < (cR v 4).length := by omega
  have hfl : decide ((((List.take m (cR v 4)).length : Nat) : Int) ≤ 300) = true := decide_eq_true (by rw [List.length_take]; omega)
  refine ev_succ ?_
  simp only [l128x0s]
  simp -implicitDefEqProofs only [rdl, Ex.same, Nat.beq, show (true == true) = true from rfl, hfl]
  have h45' := h45
  rcases h45' with hk4 | hk5
  ·
   have hA : kidL d v m = (vTxt d (row_ (cR v 4) m)).toList := kidL4 hk4
   simp -implicitDefEqProofs only [rdl, Ex.same, Nat.beq, hwd, show (cN v 0 == 5) = false from by rw [hk4]; rfl]
   have q := rdr m hm (jt (kidL d v) 0 (m + 1) ++ e :: r) (jt_stop he) (by rw [hA] at hs; simp only [List.length_append, List.length_cons] at hs ⊢; omega)
   rw [← hA] at q
   obtain ⟨na0, sa1, na2, la3, la4, hx, pa0, pa1, pa2, pa3, pa4⟩ := I33 (val_rows pvs (m := m) hm)
   have tv := take_row (m := m) hm
   rw [hx] at q tv
   try rw [hx]
   refine ev_call q ?_
   simp -implicitDefEqProofs only [rdl, Ex.same, Nat.beq]
   refine ev_tst (decide_eq_true (by simp only [List.length_cons, List.length_nil, List.length_take, maxBytes]; omega)) ?_
   refine ev_call (c126N (c := 44) (l := []) rfl (fun r' e' => by rcases he with rfl | rfl <;> cases e') true) ?_
   simp -implicitDefEqProofs only [rdl, Ex.same, Nat.beq, Bool.not_false]
   simp only [setD_last, List.set_cons_zero, List.set_cons_succ]
   rw [tv, tk4 (m := m) hk4]
   have ek : (cR v 3).take (m + 1) = cR v 3 := by
    rcases h45 with h4 | h5
    ·rw [hk0 h4]; simp
    ·exact List.take_of_length_le (by have := hkl h5; omega)
   have ev : (cR v 4).take (m + 1) = cR v 4 := List.take_of_length_le (by omega)
   rw [ek, ev]
   exact Evt.ret
  ·
   obtain ⟨wk, hw⟩ := key_rows pks (m := m) (by have := hkl hk5; omega)
   have hn := (kidAt hv hm).key hk5
   rw [hw] at hn
   have hn : nameOk wk = true := hn
   have hkt : kidL d v m = wk.toList ++ 58 :: (vTxt d (row_ (cR v 4) m)).toList := by rw [kidL5 hk5, hw]; rfl
   rw [hkt, List.append_assoc, List.cons_append] at hs
   rw [hkt, List.append_assoc, List.cons_append]
   simp -implicitDefEqProofs only [rdl, Ex.same, Nat.beq, show (cN v 0 == 5) = true from by rw [hk5]; rfl]
   refine ev_call (c129 (by rw [bOf_size]; exact hs) true (.inl rfl) (till_colon rfl (fun c hc => (nameCh_ne ((name_ch hn).1 c hc)).1))) ?_
   simp -implicitDefEqProofs only [rdl, Ex.same, Nat.beq]
   refine ev_call (c152 (l := [58]) rfl) ?_
   simp -implicitDefEqProofs only [rdl, Ex.same, Nat.beq, hwd, bOf_toList]
   refine ev_tst (decide_eq_true (by simp only [List.length_cons, List.length_nil, List.length_take, maxBytes]; omega)) ?_
   have q := rdr m hm (jt (kidL d v) 0 (m + 1) ++ e :: r) (jt_stop he) (by simp only [List.length_append, List.length_cons] at hs ⊢; omega)
   obtain ⟨na0, sa1, na2, la3, la4, hx, pa0, pa1, pa2, pa3, pa4⟩ := I33 (val_rows pvs (m := m) hm)
   have tv := take_row (m := m) hm
   have tk := take_row (l := cR v 3) (m := m) (by have := hkl hk5; omega)
   rw [hw] at tk
   rw [hx] at q tv
   try rw [hx]
   refine ev_call q ?_
   simp -implicitDefEqProofs only [rdl, Ex.same, Nat.beq]
   refine ev_tst (decide_eq_true (by simp only [List.length_cons, List.length_nil, List.length_take, maxBytes]; omega)) ?_
   refine ev_call (c126N (c := 44) (l := []) rfl (fun r' e' => by rcases he with rfl | rfl <;> cases e') true) ?_
   simp -implicitDefEqProofs only [rdl, Ex.same, Nat.beq, Bool.not_false]
   simp only [setD_last, List.set_cons_zero, List.set_cons_succ]
   rw [tv, tk]
   have ek : (cR v 3).take (m + 1) = cR v 3 := by
    rcases h45 with h4 | h5
    ·rw [hk0 h4]; simp
    ·exact List.take_of_length_le (by have := hkl h5; omega)
   have ev : (cR v 4).take (m + 1) = cR v 4 := List.take_of_length_le (by omega)
   rw [ek, ev]
   exact Evt.ret
 | succ n ih =>
  intro m hmn hs
  have hm : m < (cR v 4).length := by omega
  have hfl : decide ((((List.take m (cR v 4)).length : Nat) : Int) ≤ 300) = true := decide_eq_true (by rw [List.length_take]; omega)
  refine ev_succ ?_
  simp only [l128x0s]
  simp -implicitDefEqProofs only [rdl, Ex.same, Nat.beq, show (true == true) = true from rfl, hfl]
  have h45' := h45
  rcases h45' with hk4 | hk5
  ·
   have hA : kidL d v m = (vTxt d (row_ (cR v 4) m)).toList := kidL4 hk4
   simp -implicitDefEqProofs only [rdl, Ex.same, Nat.beq, hwd, show (cN v 0 == 5) = false from by rw [hk4]; rfl]
   have q := rdr m hm (jt (kidL d v) (n + 1) (m + 1) ++ e :: r) (jt_stop he) (by rw [hA] at hs; simp only [List.length_append, List.length_cons] at hs ⊢; omega)
   rw [← hA] at q
   obtain ⟨na0, sa1, na2, la3, la4, hx, pa0, pa1, pa2, pa3, pa4⟩ := I33 (val_rows pvs (m := m) hm)
   have tv := take_row (m := m) hm
   rw [hx] at q tv
   try rw [hx]
   refine ev_call q ?_
   simp -implicitDefEqProofs only [rdl, Ex.same, Nat.beq]
   refine ev_tst (decide_eq_true (by simp only [List.length_cons, List.length_nil, List.length_take, maxBytes]; omega)) ?_
   have ej : jt (kidL d v) (n + 1) (m + 1) ++ e :: r = [44] ++ (kidL d v (m + 1) ++ (jt (kidL d v) n (m + 1 + 1) ++ e :: r)) := by rw [jt]; simp
   rw [ej]
   refine ev_call (c126Y (l := [44]) rfl true) ?_
   simp -implicitDefEqProofs only [rdl, Ex.same, Nat.beq, Bool.not_true]
   simp only [setD_last, List.set_cons_zero, List.set_cons_succ]
   rw [tv, tk4 (m := m) hk4]
   refine ih (m + 1) (by omega) ?_
   rw [ej] at hs
   simp only [List.length_append, List.length_cons, List.length_nil] at hs ⊢
   omega
  ·
   obtain ⟨wk, hw⟩ := key_rows pks (m := m) (by have := hkl hk5; omega)
   have hn := (kidAt hv hm).key hk5
   rw [hw] at hn
   have hn : nameOk wk = true := hn
   have hkt : kidL d v m = wk.toList ++ 58 :: (vTxt d (row_ (cR v 4) m)).toList := by rw [kidL5 hk5, hw]; rfl
   rw [hkt, List.append_assoc, List.cons_append] at hs
   rw [hkt, List.append_assoc, List.cons_append]
   simp -implicitDefEqProofs only [rdl, Ex.same, Nat.beq, show (cN v 0 == 5) = true from by rw [hk5]; rfl]
   refine ev_call (c129 (by rw [bOf_size]; exact hs) true (.inl rfl) (till_colon rfl (fun c hc => (nameCh_ne ((name_ch hn).1 c hc)).1))) ?_
   simp -implicitDefEqProofs only [rdl, Ex.same, Nat.beq]
   refine ev_call (c152 (l := [58]) rfl) ?_
   simp -implicitDefEqProofs only [rdl, Ex.same, Nat.beq, hwd, bOf_toList]
   refine ev_tst (decide_eq_true (by simp only [List.length_cons, List.length_nil, List.length_take, maxBytes]; omega)) ?_
   have q := rdr m hm (jt (kidL d v) (n + 1) (m + 1) ++ e :: r) (jt_stop he) (by simp only [List.length_append, List.length_cons] at hs ⊢; omega)
   obtain ⟨na0, sa1, na2, la3, la4, hx, pa0, pa1, pa2, pa3, pa4⟩ := I33 (val_rows pvs (m := m) hm)
   have tv := take_row (m := m) hm
   have tk := take_row (l := cR v 3) (m := m) (by have := hkl hk5; omega)
   rw [hw] at tk
   rw [hx] at q tv
   try rw [hx]
   refine ev_call q ?_
   simp -implicitDefEqProofs only [rdl, Ex.same, Nat.beq]
   refine ev_tst (decide_eq_true (by simp only [List.length_cons, List.length_nil, List.length_take, maxBytes]; omega)) ?_
   have ej : jt (kidL d v) (n + 1) (m + 1) ++ e :: r = [44] ++ (kidL d v (m + 1) ++ (jt (kidL d v) n (m + 1 + 1) ++ e :: r)) := by rw [jt]; simp
   rw [ej]
   refine ev_call (c126Y (l := [44]) rfl true) ?_
   simp -implicitDefEqProofs only [rdl, Ex.same, Nat.beq, Bool.not_true]
   simp only [setD_last, List.set_cons_zero, List.set_cons_succ]
   rw [tv, tk]
   refine ih (m + 1) (by omega) ?_
   rw [ej] at hs
   simp only [List.length_append, List.length_cons, List.length_nil] at hs ⊢
   omega
end Go.Am.Pp
