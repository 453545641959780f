/- Lines of patches, read by the reference; patches read by the reference. Nothing is assumed. -/
import Derived.Test.YtefdfdkkbbehiaaGreatDoorPpS7
namespace Go.Am.Pp
set_option linter.unusedVariables false
set_option linter.unusedSimpArgs false
set_option maxRecDepth 8000
theorem strip_loop {l : List UInt8} (hl : l.length ≤ 1048576) : Evt (fun d n => l20x0 (TabD fs d) d n [.v (.string (bOf l)), .b [.v (.int .i64 0), .o 1 [], .v (.int .i64 0), .v (.string ByteArray.empty), .v (.int .i64 0), .o 1 [], .o 5 []], .b [.v (.int .i64 0), .o 1 [], .v (.int .i64 0), .v (.string ByteArray.empty), .v (.int .i64 0), .o 1 [], .o 5 []], .o 1 ([[.v (.string ({ data := #[115, 101, 116, 32] } : ByteArray))], [.v (.string ({ data := #[100, 114, 111, 112, 32] } : ByteArray))], [.v (.string ({ data := #[110, 101, 101, 100, 32] } : ByteArray))]] : Rows), .v (.int .i64 0)]) (.exit 0, [.v (.string (bOf (stripW l).2)), .b [.v (.int .i64 0), .o 1 [], .v (.int .i64 0), .v (.string ByteArray.empty), .v (.int .i64 0), .o 1 [], .o 5 []], .b [.v (.int .i64 (stripW l).1), .o 1 [], .v (.int .i64 0), .v (.string ByteArray.empty), .v (.int .i64 0), .o 1 [], .o 5 []]]) := by
 have z0 : ({ data := #[115, 101, 116, 32] } : ByteArray).size = 4 := rfl
 have z1 : ({ data := #[100, 114, 111, 112, 32] } : ByteArray).size = 5 := rfl
 have z2 : ({ data := #[110, 101, 101, 100, 32] } : ByteArray).size = 5 := rfl
 have hz : (bOf l).size = l.length := bOf_size l
 have s3 : ¬ (4 < l.length ∧ l.take 4 = [115, 101, 116, 32]) → ¬ (5 < l.length ∧ l.take 5 = [100, 114, 111, 112, 32]) → ¬ (5 < l.length ∧ l.take 5 = [110, 101, 101, 100, 32]) → Evt (fun d n => l20x0 (TabD fs d) d n [.v (.string (bOf l)), .b [.v (.int .i64 0), .o 1 [], .v (.int .i64 0), .v (.string ByteArray.empty), .v (.int .i64 0), .o 1 [], .o 5 []], .b [.v (.int .i64 0), .o 1 [], .v (.int .i64 0), .v (.string ByteArray.empty), .v (.int .i64 0), .o 1 [], .o 5 []], .o 1 ([[.v (.string ({ data := #[115, 101, 116, 32] } : ByteArray))], [.v (.string ({ data := #[100, 114, 111, 112, 32] } : ByteArray))], [.v (.string ({ data := #[110, 101, 101, 100, 32] } : ByteArray))]] : Rows), .v (.int .i64 3)]) (.exit 0, [.v (.string (bOf (stripW l).2)), .b [.v (.int .i64 0), .o 1 [], .v (.int .i64 0), .v (.string ByteArray.empty), .v (.int .i64 0), .o 1 [], .o 5 []], .b [.v (.int .i64 (stripW l).1), .o 1 [], .v (.int .i64 0), .v (.string ByteArray.empty), .v (.int .i64 0), .o 1 [], .o 5 []]]) := fun n0 n1 n2 => by
  refine ev_succ ?_
  simp only [l20x0s]
  simp -implicitDefEqProofs only [rdl, Ex.same, Nat.beq, show decide ((3 : Int) < 3) = false from rfl]
  have es : stripW l = (0, l) := by
   unfold stripW
   rw [if_neg n0, if_neg n1, if_neg n2]
  rw [es]
  exact Evt.ret
 have s2 : ¬ (4 < l.length ∧ l.take 4 = [115, 101, 116, 32]) → ¬ (5 < l.length ∧ l.take 5 = [100, 114, 111, 112, 32]) → Evt (fun d n => l20x0 (TabD fs d) d n [.v (.string (bOf l)), .b [.v (.int .i64 0), .o 1 [], .v (.int .i64 0), .v (.string ByteArray.empty), .v (.int .i64 0), .o 1 [], .o 5 []], .b [.v (.int .i64 0), .o 1 [], .v (.int .i64 0), .v (.string ByteArray.empty), .v (.int .i64 0), .o 1 [], .o 5 []], .o 1 ([[.v (.string ({ data := #[115, 101, 116, 32] } : ByteArray))], [.v (.string ({ data := #[100, 114, 111, 112, 32] } : ByteArray))], [.v (.string ({ data := #[110, 101, 101, 100, 32] } : ByteArray))]] : Rows), .v (.int .i64 2)]) (.exit 0, [.v (.string (bOf (stripW l).2)), .b [.v (.int .i64 0), .o 1 [], .v (.int .i64 0), .v (.string ByteArray.empty), .v (.int .i64 0), .o 1 [], .o 5 []], .b [.v (.int .i64 (stripW l).1), .o 1 [], .v (.int .i64 0), .v (.string ByteArray.empty), .v (.int .i64 0), .o 1 [], .o 5 []]]) := fun n0 n1 => by
  have k2 := s3 n0 n1
  refine ev_succ ?_
  simp only [l20x0s]
  simp -implicitDefEqProofs only [rdl, Ex.same, Nat.beq, show decide ((2 : Int) < 3) = true from rfl]
  try refine ev_tst (by decide) ?_
  simp -implicitDefEqProofs only [rdl, Ex.same, Nat.beq, show Int.toNat 2 = 2 from rfl, look_at (show ([[.v (.string ({ data := #[115, 101, 116, 32] } : ByteArray))], [.v (.string ({ data := #[100, 114, 111, 112, 32] } : ByteArray))], [.v (.string ({ data := #[110, 101, 101, 100, 32] } : ByteArray))]] : Rows)[2]? = some [.v (.string ({ data := #[110, 101, 101, 100, 32] } : ByteArray))] from rfl), z2, hz, show IntKind.i64.wrap ((2 : Int) + 1) = 3 from by decide]
  by_cases g2 : 5 < l.length
  ·simp -implicitDefEqProofs only [rdl, Ex.same, Nat.beq, show decide ((l.length : Int) > ((5 : Nat) : Int)) = true from decide_eq_true (by omega)]
   refine ev_tst (by simp [cutOk]; omega) ?_
   try simp -implicitDefEqProofs only [rdl, Ex.same, Nat.beq, show Int.toNat 0 = 0 from rfl, Int.toNat_natCast]
   have ex : bytesEq ((bOf l).extract 0 5) ({ data := #[110, 101, 101, 100, 32] } : ByteArray) = decide (l.take 5 = [110, 101, 101, 100, 32]) := by
    rw [ext_bOf, bOf_list]
    exact eqW (by rw [ByteArray.toList_eq])
   rw [ex]
   by_cases e2 : l.take 5 = [110, 101, 101, 100, 32]
   ·have es : stripW l = (3, l.drop 5) := by
     unfold stripW
     rw [if_neg n0]; rw [if_neg n1]; rw [if_pos ⟨g2, e2⟩]
    rw [decide_eq_true e2, es]
    simp -implicitDefEqProofs only [rdl, Ex.same, Nat.beq]
    refine ev_tst (by simp [cutOk]; omega) ?_
    have ex2 : (bOf l).extract 5 l.length = bOf (l.drop 5) := by
     rw [ext_bOf, bOf_list, List.take_of_length_le (by rw [List.length_drop]; exact Nat.le_refl _)]
    try simp -implicitDefEqProofs only [rdl, Ex.same, Nat.beq, Int.toNat_natCast]
    rw [ex2]
    exact Evt.ret
   ·rw [decide_eq_false e2]
    simp -implicitDefEqProofs only [rdl, Ex.same, Nat.beq]
    exact k2 (fun h => e2 h.2)
  ·simp -implicitDefEqProofs only [rdl, Ex.same, Nat.beq, show decide ((l.length : Int) > ((5 : Nat) : Int)) = false from decide_eq_false (by omega)]
   exact k2 (fun h => g2 h.1)
 have s1 : ¬ (4 < l.length ∧ l.take 4 = [115, 101, 116, 32]) → Evt (fun d n => l20x0 (TabD fs d) d n [.v (.string (bOf l)), .b [.v (.int .i64 0), .o 1 [], .v (.int .i64 0), .v (.string ByteArray.empty), .v (.int .i64 0), .o 1 [], .o 5 []], .b [.v (.int .i64 0), .o 1 [], .v (.int .i64 0), .v (.string ByteArray.empty), .v (.int .i64 0), .o 1 [], .o 5 []], .o 1 ([[.v (.string ({ data := #[115, 101, 116, 32] } : ByteArray))], [.v (.string ({ data := #[100, 114, 111, 112, 32] } : ByteArray))], [.v (.string ({ data := #[110, 101, 101, 100, 32] } : ByteArray))]] : Rows), .v (.int .i64 1)]) (.exit 0, [.v (.string (bOf (stripW l).2)), .b [.v (.int .i64 0), .o 1 [], .v (.int .i64 0), .v (.string ByteArray.empty), .v (.int .i64 0), .o 1 [], .o 5 []], .b [.v (.int .i64 (stripW l).1), .o 1 [], .v (.int .i64 0), .v (.string ByteArray.empty), .v (.int .i64 0), .o 1 [], .o 5 []]]) := fun n0 => by
  have k1 := s2 n0
  refine ev_succ ?_
  simp only [l20x0s]
  simp -implicitDefEqProofs only [rdl, Ex.same, Nat.beq, show decide ((1 : Int) < 3) = true from rfl]
  try refine ev_tst (by decide) ?_
  simp -implicitDefEqProofs only [rdl, Ex.same, Nat.beq, show Int.toNat 1 = 1 from rfl, look_at (show ([[.v (.string ({ data := #[115, 101, 116, 32] } : ByteArray))], [.v (.string ({ data := #[100, 114, 111, 112, 32] } : ByteArray))], [.v (.string ({ data := #[110, 101, 101, 100, 32] } : ByteArray))]] : Rows)[1]? = some [.v (.string ({ data := #[100, 114, 111, 112, 32] } : ByteArray))] from rfl), z1, hz, show IntKind.i64.wrap ((1 : Int) + 1) = 2 from by decide]
  by_cases g1 : 5 < l.length
  ·simp -implicitDefEqProofs only [rdl, Ex.same, Nat.beq, show decide ((l.length : Int) > ((5 : Nat) : Int)) = true from decide_eq_true (by omega)]
   refine ev_tst (by simp [cutOk]; omega) ?_
   try simp -implicitDefEqProofs only [rdl, Ex.same, Nat.beq, show Int.toNat 0 = 0 from rfl, Int.toNat_natCast]
   have ex : bytesEq ((bOf l).extract 0 5) ({ data := #[100, 114, 111, 112, 32] } : ByteArray) = decide (l.take 5 = [100, 114, 111, 112, 32]) := by
    rw [ext_bOf, bOf_list]
    exact eqW (by rw [ByteArray.toList_eq])
   rw [ex]
   by_cases e1 : l.take 5 = [100, 114, 111, 112, 32]
   ·have es : stripW l = (2, l.drop 5) := by
     unfold stripW
     rw [if_neg n0]; rw [if_pos ⟨g1, e1⟩]
    rw [decide_eq_true e1, es]
    simp -implicitDefEqProofs only [rdl, Ex.same, Nat.beq]
    refine ev_tst (by simp [cutOk]; omega) ?_
    have ex2 : (bOf l).extract 5 l.length = bOf (l.drop 5) := by
     rw [ext_bOf, bOf_list, List.take_of_length_le (by rw [List.length_drop]; exact Nat.le_refl _)]
    try simp -implicitDefEqProofs only [rdl, Ex.same, Nat.beq, Int.toNat_natCast]
    rw [ex2]
    exact Evt.ret
   ·rw [decide_eq_false e1]
    simp -implicitDefEqProofs only [rdl, Ex.same, Nat.beq]
    exact k1 (fun h => e1 h.2)
  ·simp -implicitDefEqProofs only [rdl, Ex.same, Nat.beq, show decide ((l.length : Int) > ((5 : Nat) : Int)) = false from decide_eq_false (by omega)]
   exact k1 (fun h => g1 h.1)
 have k0 := s1
 refine ev_succ ?_
 simp only [l20x0s]
 simp -implicitDefEqProofs only [rdl, Ex.same, Nat.beq, show decide ((0 : Int) < 3) = true from rfl]
 try refine ev_tst (by decide) ?_
 simp -implicitDefEqProofs only [rdl, Ex.same, Nat.beq, show Int.toNat 0 = 0 from rfl, look_at (show ([[.v (.string ({ data := #[115, 101, 116, 32] } : ByteArray))], [.v (.string ({ data := #[100, 114, 111, 112, 32] } : ByteArray))], [.v (.string ({ data := #[110, 101, 101, 100, 32] } : ByteArray))]] : Rows)[0]? = some [.v (.string ({ data := #[115, 101, 116, 32] } : ByteArray))] from rfl), z0, hz, show IntKind.i64.wrap ((0 : Int) + 1) = 1 from by decide]
 by_cases g0 : 4 < l.length
 ·simp -implicitDefEqProofs only [rdl, Ex.same, Nat.beq, show decide ((l.length : Int) > ((4 : Nat) : Int)) = true from decide_eq_true (by omega)]
  refine ev_tst (by simp [cutOk]; omega) ?_
  try simp -implicitDefEqProofs only [rdl, Ex.same, Nat.beq, show Int.toNat 0 = 0 from rfl, Int.toNat_natCast]
  have ex : bytesEq ((bOf l).extract 0 4) ({ data := #[115, 101, 116, 32] } : ByteArray) = decide (l.take 4 = [115, 101, 116, 32]) := by
   rw [ext_bOf, bOf_list]
   exact eqW (by rw [ByteArray.toList_eq])
  rw [ex]
  by_cases e0 : l.take 4 = [115, 101, 116, 32]
  ·have es : stripW l = (1, l.drop 4) := by
    unfold stripW
    rw [if_pos ⟨g0, e0⟩]
   rw [decide_eq_true e0, es]
   simp -implicitDefEqProofs only [rdl, Ex.same, Nat.beq]
   refine ev_tst (by simp [cutOk]; omega) ?_
   have ex2 : (bOf l).extract 4 l.length = bOf (l.drop 4) := by
    rw [ext_bOf, bOf_list, List.take_of_length_le (by rw [List.length_drop]; exact Nat.le_refl _)]
   try simp -implicitDefEqProofs only [rdl, Ex.same, Nat.beq, Int.toNat_natCast]
   rw [ex2]
   exact Evt.ret
  ·rw [decide_eq_false e0]
   simp -implicitDefEqProofs only [rdl, Ex.same, Nat.beq]
   exact k0 (fun h => e0 h.2)
 ·simp -implicitDefEqProofs only [rdl, Ex.same, Nat.beq, show decide ((l.length : Int) > ((4 : Nat) : Int)) = false from decide_eq_false (by omega)]
  exact k0 (fun h => g0 h.1)
theorem at_loop {t : List UInt8} (hl : t.length ≤ 1048576) {k : Int} {n : Nat} (hn : n ≤ t.length) (h1 : ∀ j, j < n → t[j]? ≠ some 32) (h2 : n = t.length ∨ t[n]? = some 32) :
  ∀ (m i : Nat), i + m = n → Evt (fun d q => l20x1 (TabD fs d) d q [.v (.string (bOf t)), .b [.v (.int .i64 0), .o 1 [], .v (.int .i64 0), .v (.string ByteArray.empty), .v (.int .i64 0), .o 1 [], .o 5 []], .b [.v (.int .i64 k), .o 1 [], .v (.int .i64 0), .v (.string ByteArray.empty), .v (.int .i64 0), .o 1 [], .o 5 []], .v (.int .i64 (i : Int))]) (.exit 2, [.v (.string (bOf t)), .b [.v (.int .i64 0), .o 1 [], .v (.int .i64 0), .v (.string ByteArray.empty), .v (.int .i64 0), .o 1 [], .o 5 []], .b [.v (.int .i64 k), .o 1 [], .v (.int .i64 0), .v (.string ByteArray.empty), .v (.int .i64 0), .o 1 [], .o 5 []], .v (.int .i64 (n : Int))]) := by
 have hz : (bOf t).size = t.length := bOf_size t
 intro m
 induction m with
 | zero =>
  intro i hi
  have e : i = n := by omega
  subst e
  refine ev_succ ?_
  simp only [l20x1s]
  rcases h2 with h2 | h2
  ·simp -implicitDefEqProofs only [rdl, Ex.same, Nat.beq, hz, show decide ((i : Int) < (t.length : Int)) = false from decide_eq_false (by omega), beq_f, show (false == true) = false from rfl]
   exact Evt.ret
  ·have hlt := (List.getElem?_eq_some_iff.1 h2).1
   have hx : (bOf t).toList[i]? = some 32 := by rw [bOf_list]; exact h2
   simp -implicitDefEqProofs only [rdl, Ex.same, Nat.beq, hz, show decide ((i : Int) < (t.length : Int)) = true from decide_eq_true (by omega), show (true == true) = true from rfl, dec_nn, byteAt_at hx, show ((((32 : UInt8).toNat : Nat) : Int) != 32) = false from rfl]
   exact Evt.ret
 | succ m ih =>
  intro i hi
  have hlt : i < t.length := by omega
  obtain ⟨x, hx⟩ : ∃ x, t[i]? = some x := ⟨_, List.getElem?_eq_getElem hlt⟩
  have hne : x ≠ 32 := fun e => h1 i (by omega) (by rw [hx, e])
  have hx' : (bOf t).toList[i]? = some x := by rw [bOf_list]; exact hx
  have hb : (((x.toNat : Nat) : Int) != 32) = true := by
   have : x.toNat ≠ 32 := u8_ne (by omega) hne
   simp; omega
  have hwr : IntKind.i64.wrap ((i : Int) + 1) = ((i + 1 : Nat) : Int) := by rw [wrap_i64 (by omega) (by omega)]; omega
  refine ev_succ ?_
  simp only [l20x1s]
  simp -implicitDefEqProofs only [rdl, Ex.same, Nat.beq, hz, show decide ((i : Int) < (t.length : Int)) = true from decide_eq_true (by omega), show (true == true) = true from rfl, dec_nn, byteAt_at hx', hb, hwr]
  exact ih (i + 1) (by omega)
theorem stripW_size (l : List UInt8) : (stripW l).2.length ≤ l.length ∧ 0 ≤ (stripW l).1 ∧ (stripW l).1 ≤ 3 := by
 unfold stripW
 split
 ·simp
 ·split
  ·simp
  ·split <;> simp
theorem f20 {l : List UInt8} (hl : l.length ≤ 1048576) : Ev fs 20 [.d (.v (.string (bOf l)))] ⟨.g (rowS l), []⟩ := by
 have p1 := strip_loop hl
 have hst := stripW_size l
 unfold rowS
 generalize stripW l = st at *
 obtain ⟨k, t⟩ := st
 dsimp only at p1 hst ⊢
 have ht : t.length ≤ 1048576 := by omega
 have hz : (bOf t).size = t.length := bOf_size t
 refine Ev.of (af := a20) rfl rfl (Evt.congr (fun d n => a20q ..) ?_)
 refine ev_aft (L := fun d n => l20x0 (TabD fs d) d n [.v (.string (bOf l)), .b [.v (.int .i64 0), .o 1 [], .v (.int .i64 0), .v (.string ByteArray.empty), .v (.int .i64 0), .o 1 [], .o 5 []], .b [.v (.int .i64 0), .o 1 [], .v (.int .i64 0), .v (.string ByteArray.empty), .v (.int .i64 0), .o 1 [], .o 5 []], .o 1 ([[.v (.string ({ data := #[115, 101, 116, 32] } : ByteArray))], [.v (.string ({ data := #[100, 114, 111, 112, 32] } : ByteArray))], [.v (.string ({ data := #[110, 101, 101, 100, 32] } : ByteArray))]] : Rows), .v (.int .i64 0)]) p1 ?_
 simp -implicitDefEqProofs only [rdl, Ex.same, Nat.beq]
 rcases cases_at 32 t with hno | ⟨a, r, hno, rfl⟩
 ·rw [cut_none hno]
  have p2 := at_loop (k := k) ht (n := t.length) (Nat.le_refl _) (fun j hj e => hno (List.mem_of_getElem? e)) (.inl rfl) t.length 0 (by omega)
  refine ev_aft (L := fun d q => l20x1 (TabD fs d) d q [.v (.string (bOf t)), .b [.v (.int .i64 0), .o 1 [], .v (.int .i64 0), .v (.string ByteArray.empty), .v (.int .i64 0), .o 1 [], .o 5 []], .b [.v (.int .i64 k), .o 1 [], .v (.int .i64 0), .v (.string ByteArray.empty), .v (.int .i64 0), .o 1 [], .o 5 []], .v (.int .i64 0)]) p2 ?_
  simp -implicitDefEqProofs only [rdl, Ex.same, Nat.beq, hz]
  refine ev_tst (by simp [cutOk]) ?_
  try simp -implicitDefEqProofs only [rdl, Ex.same, Nat.beq, show Int.toNat 0 = 0 from rfl, Int.toNat_natCast]
  have ex : (bOf t).extract 0 t.length = bOf t := by
   rw [ext_bOf, bOf_list, List.take_of_length_le (by rw [List.length_drop]; exact Nat.le_refl _)]
   rfl
  rw [ex]
  refine ev_call (g19 ht 47) ?_
  simp -implicitDefEqProofs only [rdl, Ex.same, Nat.beq, show decide ((t.length : Int) < (t.length : Int)) = false from decide_eq_false (by omega)]
  exact Evt.ret
 ·rw [cut_mid hno]
  have hr : (a ++ 32 :: r).length = a.length + r.length + 1 := by simp; omega
  have p2 := at_loop (k := k) ht (n := a.length) (by omega) (fun j hj e => hno (by rw [List.getElem?_append_left hj] at e; exact List.mem_of_getElem? e)) (.inr (by simp)) a.length 0 (by omega)
  have ex : (bOf (a ++ 32 :: r)).extract 0 a.length = bOf a := by
   rw [ext_bOf, bOf_list]
   simp
  have ex2 : (bOf (a ++ 32 :: r)).extract (a.length + 1) (a ++ 32 :: r).length = bOf r := by
   rw [ext_bOf, bOf_list, List.take_of_length_le (by rw [List.length_drop]; exact Nat.le_refl _)]
   congr 1
   rw [show a ++ 32 :: r = (a ++ [32]) ++ r from by simp, List.drop_left' (by simp)]
  have hwr : IntKind.i64.wrap ((a.length : Int) + 1) = ((a.length + 1 : Nat) : Int) := by rw [wrap_i64 (by omega) (by omega)]; omega
  have hp := (pvR_both (s := bOf r) (by rw [bOf_size]; omega)).1
  have hsv := pvR_sh (bOf r)
  generalize pvR (bOf r) = pp at *
  obtain ⟨pv, pb⟩ := pp
  dsimp only at hsv hp ⊢
  obtain ⟨na0, sa1, na2, la3, la4, rfl, pa0, pa1, pa2, pa3, pa4⟩ := I33 hsv
  refine ev_aft (L := fun d q => l20x1 (TabD fs d) d q [.v (.string (bOf (a ++ 32 :: r))), .b [.v (.int .i64 0), .o 1 [], .v (.int .i64 0), .v (.string ByteArray.empty), .v (.int .i64 0), .o 1 [], .o 5 []], .b [.v (.int .i64 k), .o 1 [], .v (.int .i64 0), .v (.string ByteArray.empty), .v (.int .i64 0), .o 1 [], .o 5 []], .v (.int .i64 0)]) p2 ?_
  simp -implicitDefEqProofs only [rdl, Ex.same, Nat.beq, hz]
  refine ev_tst (by simp [cutOk]; omega) ?_
  try simp -implicitDefEqProofs only [rdl, Ex.same, Nat.beq, show Int.toNat 0 = 0 from rfl, Int.toNat_natCast]
  rw [ex]
  refine ev_call (g19 (by omega) 47) ?_
  simp -implicitDefEqProofs only [rdl, Ex.same, Nat.beq, show decide ((a.length : Int) < ((a ++ 32 :: r).length : Int)) = true from decide_eq_true (by omega), hwr]
  refine ev_tst (by simp [cutOk]; omega) ?_
  try simp -implicitDefEqProofs only [rdl, Ex.same, Nat.beq, Int.toNat_natCast]
  rw [ex2]
  refine ev_call hp ?_
  simp -implicitDefEqProofs only [rdl, Ex.same, Nat.beq]
  exact Evt.ret
theorem rowS_sh {l : List UInt8} (hl : l.length ≤ 1048576) : ShL E (E 44) (rowS l) := by
 have hst := stripW_size l
 have s1 := cut_size 32 (stripW l).2
 have hp := spl_keys (l := (Lib.cut (stripW l).2 [32]).1) 47 (by omega)
 unfold rowS
 cases (Lib.cut (stripW l).2 [32]).2.2 with
 | true => exact op_row (ps := []) (fit_k hst.2.1 hst.2.2) hp (pvR_sh _)
 | false => exact op_row (ps := []) (fit_k hst.2.1 hst.2.2) hp zero_row
theorem loopS {s : ByteArray} {L : List (List UInt8)} (hL : ∀ l ∈ L, l.length ≤ 1048576) (hn : L.length ≤ 1048577) :
  ∀ (m i : Nat) (ws : Rows), i + m = (L.dropLast.take 21).length → ws.length ≤ i →
  Evt (fun d n => l5x0 (TabD fs d) d n [.v (.string s), .o 7 ws, .o 1 (strR (L.map bOf)), .v (.int .i64 (i : Int))])
   (.exit 0, [.v (.string s), .o 7 (ws ++ ((L.dropLast.take 21).drop i).map rowS)]) := by
 have hT : (L.dropLast.take 21).length = min 21 (L.length - 1) := by simp
 intro m
 induction m with
 | zero =>
  intro i ws hm hw
  have e : (L.dropLast.take 21).drop i = [] := List.drop_of_length_le (by omega)
  have hwr : IntKind.i64.wrap ((i : Int) + 1) = ((i + 1 : Nat) : Int) := by rw [wrap_i64 (by omega) (by omega)]; omega
  rw [e]
  refine ev_succ ?_
  simp only [l5x0s]
  simp -implicitDefEqProofs only [rdl, Ex.same, Nat.beq, hwr, strR_ln]
  by_cases h1 : i + 1 < L.length
  ·have h2 : 21 ≤ i := by omega
   simp -implicitDefEqProofs only [rdl, Ex.same, Nat.beq, show decide (((i + 1 : Nat) : Int) < (L.length : Int)) = true from decide_eq_true (by omega), show (true == true) = true from rfl, show decide ((i : Int) ≤ 20) = false from decide_eq_false (by omega)]
   exact Evt.ret' (by simp)
  ·simp -implicitDefEqProofs only [rdl, Ex.same, Nat.beq, show decide (((i + 1 : Nat) : Int) < (L.length : Int)) = false from decide_eq_false (by omega), beq_f, show (false == true) = false from rfl]
   exact Evt.ret' (by simp)
 | succ m ih =>
  intro i ws hm hw
  have h1 : i + 1 < L.length := by omega
  have h2 : i ≤ 20 := by omega
  obtain ⟨l, hl⟩ : ∃ l, L[i]? = some l := ⟨_, List.getElem?_eq_getElem (by omega)⟩
  have hTl : (L.dropLast.take 21)[i]? = some l := by
   rw [List.getElem?_take_of_lt (by omega), List.getElem?_dropLast, if_pos (by omega)]
   exact hl
  have hd : (L.dropLast.take 21).drop i = l :: (L.dropLast.take 21).drop (i + 1) := by
   obtain ⟨q1, q2⟩ := List.getElem?_eq_some_iff.1 hTl
   rw [List.drop_eq_getElem_cons q1, q2]
  have hm' := hL l (List.mem_of_getElem? hl)
  have hwr : IntKind.i64.wrap ((i : Int) + 1) = ((i + 1 : Nat) : Int) := by rw [wrap_i64 (by omega) (by omega)]; omega
  have c := f20 hm'
  have hsh := rowS_sh hm'
  have nx := ih (i + 1) (ws ++ [rowS l]) (by omega) (by simp; omega)
  rw [hd, List.map_cons, show ws ++ rowS l :: ((L.dropLast.take 21).drop (i + 1)).map rowS = ws ++ [rowS l] ++ ((L.dropLast.take 21).drop (i + 1)).map rowS from by simp]
  generalize ((L.dropLast.take 21).drop (i + 1)).map rowS = R at *
  generalize rowS l = r at *
  obtain ⟨na0, la1, na2, sa3, na4, la5, la6, rfl, pa0, pa1, pa2, pa3, pa4, pa5, pa6⟩ := I44 hsh
  refine ev_succ ?_
  simp only [l5x0s]
  simp -implicitDefEqProofs only [rdl, Ex.same, Nat.beq, hwr, strR_ln, show decide (((i + 1 : Nat) : Int) < (L.length : Int)) = true from decide_eq_true (by omega), show (true == true) = true from rfl, show decide ((i : Int) ≤ 20) = true from decide_eq_true (by omega)]
  refine ev_tst (by first | (rw [strR_ln]; simp; omega) | (simp; omega)) ?_
  simp -implicitDefEqProofs only [rdl, Ex.same, Nat.beq, look_at (strR_at hl)]
  refine ev_call c ?_
  simp -implicitDefEqProofs only [rdl, Ex.same, Nat.beq]
  refine ev_tst (decide_eq_true (by simp only [List.length_cons, List.length_nil, maxBytes]; omega)) ?_
  rw [op_put]
  exact nx
theorem rows_sh : ∀ {t : List (List UInt8)}, (∀ x ∈ t, x.length ≤ 1048576) → t.length ≤ 1000 → SL E 44 (t.map rowS) := fun {t} h hn =>
 ⟨by simp [maxLen]; omega, shr_of fun x hx => by
  obtain ⟨y, hy, rfl⟩ := List.mem_map.1 hx
  exact rowS_sh (h y hy)⟩
theorem parS_sh {s : ByteArray} (hs : s.size ≤ 1048576) : SL E 44 (parS s.toList) := by
 have hsz := spl_size 10 s.toList
 rw [toList_len] at hsz
 refine rows_sh (fun x hx => ?_) (by simp; omega)
 have := hsz x ((List.dropLast_sublist _).subset (List.mem_of_mem_take hx))
 omega
theorem f5 {s : ByteArray} (hs : s.size ≤ 1048576) : Ev fs 5 [.d (.v (.string s))] (ansE s (some (parS s.toList))) := by
 have hsh := parS_sh hs
 have q1 := f17 hsh
 have q2 := f21 hsh
 refine Ev.of (af := a5) rfl rfl (Evt.congr (fun d n => a5q ..) ?_)
 unfold ansE
 cases he : bytesEq s ({ data := #[] } : ByteArray) with
 | true => exact Evt.ret
 | false =>
  simp -implicitDefEqProofs only [rdl, Ex.same, Nat.beq]
  refine ev_call (f19 hs 10) ?_
  simp -implicitDefEqProofs only [rdl, Ex.same, Nat.beq]
  have hsz := spl_size 10 s.toList
  have hln := spl_len 10 s.toList
  rw [toList_len] at hsz hln
  have hL : ∀ l ∈ spl 10 s.toList, l.length ≤ 1048576 := fun l hl => by have := hsz l hl; omega
  have lp := loopS (s := s) hL (by omega) ((spl 10 s.toList).dropLast.take 21).length 0 [] (by omega) (by simp)
  rw [List.drop_zero, List.nil_append] at lp
  refine ev_aft (L := fun d n => l5x0 (TabD fs d) d n [.v (.string s), .o 7 [], .o 1 (strR ((spl 10 s.toList).map bOf)), .v (.int .i64 0)]) lp ?_
  rw [show ((spl 10 s.toList).dropLast.take 21).map rowS = parS s.toList from rfl]
  generalize parS s.toList = m at *
  simp -implicitDefEqProofs only [rdl, Ex.same, Nat.beq, ans]
  refine ev_call q1 ?_
  simp -implicitDefEqProofs only [rdl, Ex.same, Nat.beq]
  cases ho : opsOk m with
  | false => exact Evt.ret
  | true =>
   simp -implicitDefEqProofs only [rdl, Ex.same, Nat.beq, Bool.not_true, Bool.true_and]
   refine ev_call q2 ?_
   simp -implicitDefEqProofs only [rdl, Ex.same, Nat.beq]
   cases bytesEq (opsTxt m) s with
   | true => exact Evt.ret
   | false => exact Evt.ret
end Go.Am.Pp
