/- The reference's reader gives back what was written: kids and values. Nothing is assumed. -/
import Derived.Test.YtefdfdkkbbehiaaGreatDoorPpW
namespace Go.Am.Pp
set_option linter.unusedVariables false
set_option linter.unusedSimpArgs false
set_option maxRecDepth 8000
theorem kidsC {s : ByteArray} (hs : s.size ≤ 1048576) {d : Nat} (hd : d + 1 ≤ 6) {v : Row} (hv : 0 < valSz (d + 1) v) (pks : SL E 9 (cR v 3)) (pvs : SL E 33 (cR v 4)) (h45 : cN v 0 = 4 ∨ cN v 0 = 5)
  (hkl : cN v 0 = 5 → (cR v 3).length = (cR v 4).length) (hk0 : cN v 0 = 4 → cR v 3 = [])
  (rdr : ∀ m, m < (cR v 4).length → ∀ i r, At s i ((vTxt d (row_ (cR v 4) m)).toList ++ r) → Stop r → Ev fs 86 [.p (PS s i false), .d (.v (.int .i64 (d : Int)))] ⟨.g (row_ (cR v 4) m), [.p (PS s (i + (vTxt d (row_ (cR v 4) m)).toList.length) false)]⟩)
  {e : UInt8} {t : ByteArray} (ht : t.toList = [e]) (he : e = 93 ∨ e = 125) (r : List UInt8) : ∀ (n m i : Nat), m + n = (cR v 4).length → At s i (jt (kidL d v) n m ++ e :: r) →
  Evt (fun d' mm => l120x0 (TabD fs d') d' mm [.b (PB s i false), .v (.int .i64 (cN v 0)), .v (.string t), .v (.int .i64 ((d + 1 : Nat) : Int)), .b ZB, .b (KB (cN v 0) ((cR v 3).take m) ((cR v 4).take m))])
   (.exit 0, [.b (PB s (i + (jt (kidL d v) n m).length + 1) false), .b ZB, .b (KB (cN v 0) (cR v 3) (cR v 4))]) := by
 have hwd : IntKind.i64.wrap (((d + 1 : Nat) : Int) - 1) = (d : Int) := by rw [wrap_i64 (by omega) (by omega)]; omega
 have hfw := shape_few hv
 have hts : t.size ≤ 100 := by rw [size_of ht]; simp
 have tk4 : ∀ {m : Nat}, cN v 0 = 4 → (cR v 3).take m = (cR v 3).take (m + 1) := fun h => by rw [hk0 h]; simp
 intro n
 induction n with
 | zero =>
  intro m i hmn h
  have e1 : (cR v 3).take m = cR v 3 := by
   rcases h45 with h4 | h5
   ·rw [hk0 h4]; simp
   ·exact List.take_of_length_le (by have := hkl h5; omega)
  have e2 : (cR v 4).take m = cR v 4 := List.take_of_length_le (by omega)
  rw [e1, e2]
  refine ev_succ ?_
  simp only [l120x0s]
  simp -implicitDefEqProofs only [rdl, Ex.same, Nat.beq, Bool.not_false, show (true == true) = true from rfl]
  refine ev_call (c118Y hs (l := [e]) ht h hts) ?_
  simp -implicitDefEqProofs only [rdl, Ex.same, Nat.beq, Bool.not_true]
  exact Evt.ret
 | succ n ih =>
  intro m i hmn h
  have hm : m < (cR v 4).length := by omega
  obtain ⟨hc, hl, g1, g2, g3⟩ := jt_ne (n := n) hv h45 hm
  have few : ∀ x : Row, decide ((((((cR v 4).take m) ++ [x]).length : Nat) : Int) > 300) = false := fun x => decide_eq_false (by rw [List.length_append, List.length_take]; simp only [List.length_cons, List.length_nil]; omega)
  have hne : hc ≠ e := by rcases he with rfl | rfl <;> assumption
  have fin : ∀ j, j + (jt (kidL d v) n (m + 1)).length + 1 = i + (jt (kidL d v) (n + 1) m).length + 1 →
    Evt (fun d' mm => l120x0 (TabD fs d') d' mm [.b (PB s j false), .v (.int .i64 (cN v 0)), .v (.string t), .v (.int .i64 ((d + 1 : Nat) : Int)), .b ZB, .b (KB (cN v 0) ((cR v 3).take (m + 1)) ((cR v 4).take (m + 1)))])
     (.exit 0, [.b (PB s (i + (jt (kidL d v) (n + 1) m).length + 1) false), .b ZB, .b (KB (cN v 0) (cR v 3) (cR v 4))]) := fun j hj => by
   have hz := h.size
   have ha : At s j (jt (kidL d v) n (m + 1) ++ e :: r) := by
    have e1 : jt (kidL d v) (n + 1) m = ((bif m == 0 then [] else [44]) ++ kidL d v m) ++ jt (kidL d v) n (m + 1) := by rw [jt]
    have h2 := h
    rw [e1, List.append_assoc] at h2
    have h3 := h2.next
    have e2 : i + ((bif m == 0 then [] else [44]) ++ kidL d v m).length = j := by
     rw [e1] at hj
     simp only [List.length_append] at hj ⊢
     omega
    rw [e2] at h3
    exact h3
   have := ih (m + 1) j (by omega) ha
   rw [hj] at this
   exact this
  refine ev_succ ?_
  simp only [l120x0s]
  simp -implicitDefEqProofs only [rdl, Ex.same, Nat.beq, Bool.not_false, show (true == true) = true from rfl]
  refine ev_call (c118N hs (l := []) ht (h.to (by rw [g1]; rfl)) hne hts) ?_
  have hjl : (jt (kidL d v) (n + 1) m).length = (bif m == 0 then 0 else 1) + (kidL d v m).length + (jt (kidL d v) n (m + 1)).length := by
   rw [jt]
   cases m == 0 <;> simp only [cond_true, cond_false, List.length_append, List.length_cons, List.length_nil]
  cases m with
  | zero =>
   have hA : At s i (kidL d v 0 ++ (jt (kidL d v) n (0 + 1) ++ e :: r)) := h.to (by rw [jt]; simp)
   have hjl : (jt (kidL d v) (n + 1) 0).length = 0 + (kidL d v 0).length + (jt (kidL d v) n (0 + 1)).length := hjl
   simp -implicitDefEqProofs only [rdl, Ex.same, Nat.beq, Bool.not_false, show decide ((((List.take 0 (cR v 4)).length : Nat) : Int) > 0) = false from rfl, show (false == true) = false from rfl]
   rcases h45 with hk4 | hk5
   ·simp -implicitDefEqProofs only [rdl, Ex.same, Nat.beq, hwd, show (cN v 0 == 5) = false from by rw [hk4]; rfl]
    obtain ⟨na0, sa1, na2, la3, la4, hx, pa0, pa1, pa2, pa3, pa4⟩ := I33 (val_rows pvs (m := 0) hm)
    have q := rdr 0 hm _ _ (hA.to (by rw [kidL4 hk4])) (jt_stop he)
    have tv := take_row (m := 0) hm
    rw [hx] at q tv
    refine ev_call q ?_
    simp -implicitDefEqProofs only [rdl, Ex.same, Nat.beq, hwd, beq_t, beq_f]
    refine ev_tst (decide_eq_true (by simp only [List.length_cons, List.length_nil, List.length_take, maxBytes]; omega)) ?_
    simp -implicitDefEqProofs only [rdl, Ex.same, Nat.beq, Bool.not_false, show (false == false) = true from rfl, few]
    simp only [setD_last, List.set_cons_zero, List.set_cons_succ]
    rw [tv, tk4 (m := 0) hk4]
    exact fin _ (by rw [hjl, kidL4 hk4, hx]; omega)
   ·simp -implicitDefEqProofs only [rdl, Ex.same, Nat.beq, show (cN v 0 == 5) = true from by rw [hk5]; rfl]
    obtain ⟨wk, hw⟩ := key_rows pks (m := 0) (by have := hkl hk5; omega)
    have hn := (kidAt hv hm).key hk5
    rw [hw] at hn
    have hn : nameOk wk = true := hn
    have hkt : kidL d v 0 = wk.toList ++ 58 :: (vTxt d (row_ (cR v 4) 0)).toList := by rw [kidL5 hk5, hw]; rfl
    have a1 := hA
    rw [hkt, List.append_assoc, List.cons_append] at a1
    refine ev_call (c145 hs (fun c hc => have h := nameCh_ne ((name_ch hn).1 c hc); ⟨h.1, h.2.1⟩) a1) ?_
    simp -implicitDefEqProofs only [rdl, Ex.same, Nat.beq]
    refine ev_tst (decide_eq_true (by simp only [List.length_cons, List.length_nil, List.length_take, maxBytes]; omega)) ?_
    try simp -implicitDefEqProofs only [rdl, Ex.same, Nat.beq, Bool.not_false, show (false == false) = true from rfl]
    have a2 := a1.next
    refine ev_call (c118Y hs (l := [58]) (lit_list 58) a2 (by decide)) ?_
    simp -implicitDefEqProofs only [rdl, Ex.same, Nat.beq, Bool.not_true, hwd]
    have a3 : At s _ ((vTxt d (row_ (cR v 4) 0)).toList ++ _) := At.next (a := [58]) a2
    obtain ⟨na0, sa1, na2, la3, la4, hx, pa0, pa1, pa2, pa3, pa4⟩ := I33 (val_rows pvs (m := 0) hm)
    have q := rdr 0 hm _ _ a3 (jt_stop he)
    have tv := take_row (m := 0) hm
    have tk := take_row (l := cR v 3) (m := 0) (by have := hkl hk5; omega)
    rw [hx] at q tv
    rw [hw] at tk
    refine ev_call q ?_
    simp -implicitDefEqProofs only [rdl, Ex.same, Nat.beq, hwd, beq_t, beq_f]
    refine ev_tst (decide_eq_true (by simp only [List.length_cons, List.length_nil, List.length_take, maxBytes]; omega)) ?_
    simp -implicitDefEqProofs only [rdl, Ex.same, Nat.beq, Bool.not_false, show (false == false) = true from rfl, few]
    simp only [setD_last, List.set_cons_zero, List.set_cons_succ]
    rw [tv, tk]
    exact fin _ (by rw [hjl, hkt, hx]; simp only [List.length_append, List.length_cons, List.length_nil]; omega)
  | succ m' =>
   have hB : At s i ([44] ++ (kidL d v (m' + 1) ++ (jt (kidL d v) n (m' + 1 + 1) ++ e :: r))) := h.to (by rw [jt]; simp)
   have hA : At s (i + 1) (kidL d v (m' + 1) ++ (jt (kidL d v) n (m' + 1 + 1) ++ e :: r)) := hB.next
   have hjl : (jt (kidL d v) (n + 1) (m' + 1)).length = 1 + (kidL d v (m' + 1)).length + (jt (kidL d v) n (m' + 1 + 1)).length := hjl
   have hp : decide ((((List.take (m' + 1) (cR v 4)).length : Nat) : Int) > 0) = true := decide_eq_true (by rw [List.length_take]; omega)
   simp -implicitDefEqProofs only [rdl, Ex.same, Nat.beq, Bool.not_false, hp, show (true == true) = true from rfl]
   refine ev_call (c118Y hs (l := [44]) (lit_list 44) hB (by decide)) ?_
   simp -implicitDefEqProofs only [rdl, Ex.same, Nat.beq, Bool.not_true]
   rcases h45 with hk4 | hk5
   ·simp -implicitDefEqProofs only [rdl, Ex.same, Nat.beq, hwd, show (cN v 0 == 5) = false from by rw [hk4]; rfl]
    obtain ⟨na0, sa1, na2, la3, la4, hx, pa0, pa1, pa2, pa3, pa4⟩ := I33 (val_rows pvs (m := m' + 1) hm)
    have q := rdr (m' + 1) hm _ _ (hA.to (by rw [kidL4 hk4])) (jt_stop he)
    have tv := take_row (m := m' + 1) hm
    rw [hx] at q tv
    refine ev_call q ?_
    simp -implicitDefEqProofs only [rdl, Ex.same, Nat.beq, hwd, beq_t, beq_f]
    refine ev_tst (decide_eq_true (by simp only [List.length_cons, List.length_nil, List.length_take, maxBytes]; omega)) ?_
    simp -implicitDefEqProofs only [rdl, Ex.same, Nat.beq, Bool.not_false, show (false == false) = true from rfl, few]
    simp only [setD_last, List.set_cons_zero, List.set_cons_succ]
    rw [tv, tk4 (m := m' + 1) hk4]
    exact fin _ (by rw [hjl, kidL4 hk4, hx]; omega)
   ·simp -implicitDefEqProofs only [rdl, Ex.same, Nat.beq, show (cN v 0 == 5) = true from by rw [hk5]; rfl]
    obtain ⟨wk, hw⟩ := key_rows pks (m := m' + 1) (by have := hkl hk5; omega)
    have hn := (kidAt hv hm).key hk5
    rw [hw] at hn
    have hn : nameOk wk = true := hn
    have hkt : kidL d v (m' + 1) = wk.toList ++ 58 :: (vTxt d (row_ (cR v 4) (m' + 1))).toList := by rw [kidL5 hk5, hw]; rfl
    have a1 := hA
    rw [hkt, List.append_assoc, List.cons_append] at a1
    refine ev_call (c145 hs (fun c hc => have h := nameCh_ne ((name_ch hn).1 c hc); ⟨h.1, h.2.1⟩) a1) ?_
    simp -implicitDefEqProofs only [rdl, Ex.same, Nat.beq]
    refine ev_tst (decide_eq_true (by simp only [List.length_cons, List.length_nil, List.length_take, maxBytes]; omega)) ?_
    try simp -implicitDefEqProofs only [rdl, Ex.same, Nat.beq, Bool.not_false, show (false == false) = true from rfl]
    have a2 := a1.next
    refine ev_call (c118Y hs (l := [58]) (lit_list 58) a2 (by decide)) ?_
    simp -implicitDefEqProofs only [rdl, Ex.same, Nat.beq, Bool.not_true, hwd]
    have a3 : At s _ ((vTxt d (row_ (cR v 4) (m' + 1))).toList ++ _) := At.next (a := [58]) a2
    obtain ⟨na0, sa1, na2, la3, la4, hx, pa0, pa1, pa2, pa3, pa4⟩ := I33 (val_rows pvs (m := m' + 1) hm)
    have q := rdr (m' + 1) hm _ _ a3 (jt_stop he)
    have tv := take_row (m := m' + 1) hm
    have tk := take_row (l := cR v 3) (m := m' + 1) (by have := hkl hk5; omega)
    rw [hx] at q tv
    rw [hw] at tk
    refine ev_call q ?_
    simp -implicitDefEqProofs only [rdl, Ex.same, Nat.beq, hwd, beq_t, beq_f]
    refine ev_tst (decide_eq_true (by simp only [List.length_cons, List.length_nil, List.length_take, maxBytes]; omega)) ?_
    simp -implicitDefEqProofs only [rdl, Ex.same, Nat.beq, Bool.not_false, show (false == false) = true from rfl, few]
    simp only [setD_last, List.set_cons_zero, List.set_cons_succ]
    rw [tv, tk]
    exact fin _ (by rw [hjl, hkt, hx]; simp only [List.length_append, List.length_cons, List.length_nil]; omega)
end Go.Am.Pp
