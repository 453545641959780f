/- Texts that are split at a byte; numbers that are read. Nothing is assumed. -/
import Derived.Test.YtefdfdkkbbehiaaGreatDoorPpE
namespace Go.Am.Pp
set_option linter.unusedVariables false
set_option linter.unusedSimpArgs false
set_option maxRecDepth 8000
theorem ext_bOf (s : ByteArray) (i j : Nat) : s.extract i j = bOf ((s.toList.drop i).take (j - i)) := bOf_of (ext_list s i j)
theorem strR_snoc (l : List ByteArray) (s : ByteArray) : strR l ++ ([[(.v (.string s))]] : Rows) = strR (l ++ [s]) := by simp [strR]
theorem strR_len (l : List ByteArray) : (strR l).length = l.length := by simp [strR]
theorem mem_take_step {l : List UInt8} {c : UInt8} {f i : Nat} (hf : f ≤ i) (hi : i < l.length) (h : c ∉ (l.drop f).take (i - f)) (hc : l[i]? ≠ some c) : c ∉ (l.drop f).take (i + 1 - f) := by
 rw [show i + 1 - f = (i - f) + 1 from by omega, List.take_add_one, List.mem_append, not_or]
 refine ⟨h, fun hm => hc ?_⟩
 rw [List.getElem?_drop, show f + (i - f) = i from by omega] at hm
 obtain ⟨x, hx⟩ : ∃ x, l[i]? = some x := ⟨_, List.getElem?_eq_getElem hi⟩
 rw [hx] at hm ⊢
 simp at hm
 rw [hm]
theorem drop_cut {l : List UInt8} {c : UInt8} {f i : Nat} (hf : f ≤ i) (h : l[i]? = some c) : l.drop f = (l.drop f).take (i - f) ++ c :: l.drop (i + 1) := by
 obtain ⟨h1, h2⟩ := List.getElem?_eq_some_iff.1 h
 have e : (l.drop f).drop (i - f) = c :: l.drop (i + 1) := by
  rw [List.drop_drop, show f + (i - f) = i from by omega, List.drop_eq_getElem_cons h1, h2]
 rw [← e, List.take_append_drop]
theorem split_loop {s : ByteArray} (hs : s.size ≤ 1048576) (c : UInt8) : ∀ (m i f : Nat) (out : List ByteArray), s.size - i = m → f ≤ i → i ≤ s.size → c ∉ (s.toList.drop f).take (i - f) → out.length ≤ f →
  Evt (fun d n => l19x0 (TabD fs d) d n [.v (.string s), .v (.int .u8 (c.toNat : Int)), .o 1 (strR out), .v (.int .i64 (f : Int)), .v (.int .i64 (i : Int))]) (.exit 0, [.o 1 (strR (out ++ (spl c (s.toList.drop f)).map bOf))]) := by
 have hlen : s.toList.length = s.size := toList_length
 intro m
 induction m with
 | zero =>
  intro i f out hm hf hi hc ho
  have e : i = s.size := by omega
  subst e
  have hw : IntKind.i64.wrap ((s.size : Int) + 1) = ((s.size + 1 : Nat) : Int) := by rw [wrap_i64 (by omega) (by omega)]; omega
  refine ev_succ ?_
  simp only [l19x0s]
  simp -implicitDefEqProofs only [rdl, Ex.same, Nat.beq, show decide ((s.size : Int) ≤ (s.size : Int)) = true from decide_eq_true (Int.le_refl _), show ((s.size : Int) == (s.size : Int)) = true from beq_self_eq_true _, hw]
  refine ev_tst (by simp [cutOk]; omega) ?_
  refine ev_tst (decide_eq_true (by simp only [List.length_cons, List.length_nil, strR_len, maxBytes]; omega)) ?_
  refine ev_succ ?_
  simp only [l19x0s]
  simp -implicitDefEqProofs only [rdl, Ex.same, Nat.beq, show decide (((s.size + 1 : Nat) : Int) ≤ (s.size : Int)) = false from decide_eq_false (by omega)]
  refine Evt.ret' ?_
  have e2 : (s.toList.drop f).take (s.size - f) = s.toList.drop f := List.take_of_length_le (by rw [List.length_drop, hlen]; exact Nat.le_refl _)
  rw [e2] at hc
  rw [strR_snoc, spl_end hc, ext_bOf, e2]
  rfl
 | succ m ih =>
  intro i f out hm hf hi hc ho
  have hlt : i < s.size := by omega
  obtain ⟨x, hx⟩ := byte_get hlt
  have hw : IntKind.i64.wrap ((i : Int) + 1) = ((i + 1 : Nat) : Int) := by rw [wrap_i64 (by omega) (by omega)]; omega
  refine ev_succ ?_
  simp only [l19x0s]
  simp -implicitDefEqProofs only [rdl, Ex.same, Nat.beq, show decide ((i : Int) ≤ (s.size : Int)) = true from decide_eq_true (by omega), show ((i : Int) == (s.size : Int)) = false from beq_eq_false_iff_ne.2 (by omega), hw, dec_nn, byteAt_at hx]
  by_cases hxc : x = c
  ·subst hxc
   simp -implicitDefEqProofs only [rdl, Ex.same, Nat.beq, show ((x.toNat : Int) == (x.toNat : Int)) = true from beq_self_eq_true _]
   refine ev_tst (by simp [cutOk]; omega) ?_
   refine ev_tst (decide_eq_true (by simp only [List.length_cons, List.length_nil, strR_len, maxBytes]; omega)) ?_
   have nx := ih (i + 1) (i + 1) (out ++ [s.extract f i]) (by omega) (Nat.le_refl _) (by omega) (by simp) (by simp; omega)
   rw [← strR_snoc] at nx
   rw [drop_cut hf hx, spl_mid hc]
   rw [show out ++ ((s.toList.drop f).take (i - f) :: spl x (s.toList.drop (i + 1))).map bOf = out ++ [s.extract f i] ++ (spl x (s.toList.drop (i + 1))).map bOf from by rw [ext_bOf]; simp]
   exact nx
  ·simp -implicitDefEqProofs only [rdl, Ex.same, Nat.beq, show ((x.toNat : Int) == (c.toNat : Int)) = false from beq_eq_false_iff_ne.2 fun e => hxc (UInt8.toNat_inj.1 (by omega))]
   exact ih (i + 1) f out (by omega) (by omega) (by omega) (mem_take_step hf (by omega) hc (by rw [hx]; simpa using hxc)) ho
theorem f19 {s : ByteArray} (hs : s.size ≤ 1048576) (c : UInt8) : Ev fs 19 [.d (.v (.string s)), .d (.v (.int .u8 (c.toNat : Int)))] ⟨.d (.s 1 (strR ((spl c s.toList).map bOf))), []⟩ := by
 refine Ev.of (af := a19) rfl rfl (Evt.congr (fun d n => a19q ..) ?_)
 have h := split_loop hs c s.size 0 0 [] (by omega) (Nat.le_refl _) (by omega) (by simp) (by simp)
 refine ev_aft (L := fun d n => l19x0 (TabD fs d) d n [.v (.string s), .v (.int .u8 (c.toNat : Int)), .o 1 [], .v (.int .i64 0), .v (.int .i64 0)]) h ?_
 simp -implicitDefEqProofs only [rdl, Ex.same, Nat.beq]
 exact Evt.ret' (by simp)
theorem dig_wrap {x : UInt8} (h : isDg x = true) {v : Nat} (hv : v < 100000000) : IntKind.i64.wrap (IntKind.i64.wrap ((v : Int) * 10) + IntKind.i64.wrap (IntKind.u8.wrap ((x.toNat : Int) - 48))) = ((v * 10 + (x.toNat - 48) : Nat) : Int) := by
 simp only [isDg, inB, Bool.and_eq_true, decide_eq_true_eq] at h
 rw [wrap_u8 (by omega) (by omega), wrap_i64 (n := (v : Int) * 10) (by omega) (by omega), wrap_i64 (n := (x.toNat : Int) - 48) (by omega) (by omega), wrap_i64 (by omega) (by omega)]
 omega
theorem dval_step {v i : Nat} {x : UInt8} (h : isDg x = true) (hv : v < 10 ^ i) : v * 10 + (x.toNat - 48) < 10 ^ (i + 1) := by
 simp only [isDg, inB, Bool.and_eq_true, decide_eq_true_eq] at h
 rw [Nat.pow_succ]
 omega
theorem num_loop {s : ByteArray} (hs : s.size ≤ 9) : ∀ (m i v : Nat), s.size - i = m → i ≤ s.size → v < 10 ^ i →
  Evt (fun d n => l79x0 (TabD fs d) d n [.v (.string s), .v (.int .i64 (v : Int)), .v (.int .i64 (i : Int))]) (match digV (s.toList.drop i) v with | some x => (.exit 0, [.v (.int .i64 (x : Int))]) | none => (.ret, [.v (.int .i64 (-1))])) := by
 have hlen : s.toList.length = s.size := toList_length
 intro m
 induction m with
 | zero =>
  intro i v hm hi hv
  refine ev_succ ?_
  simp only [l79x0s]
  simp -implicitDefEqProofs only [rdl, Ex.same, Nat.beq, show decide ((i : Int) < (s.size : Int)) = false from decide_eq_false (by omega), show s.toList.drop i = [] from List.drop_eq_nil_of_le (by omega)]
  exact Evt.ret
 | succ m ih =>
  intro i v hm hi hv
  have hlt : i < s.size := by omega
  obtain ⟨x, hx, hd⟩ := drop_at hlt
  have hw : IntKind.i64.wrap ((i : Int) + 1) = ((i + 1 : Nat) : Int) := by rw [wrap_i64 (by omega) (by omega)]; omega
  have hwx : IntKind.i64.wrap (x.toNat : Int) = (x.toNat : Int) := by have := x.toNat_lt; rw [wrap_i64 (by omega) (by omega)]
  refine ev_succ ?_
  simp only [l79x0s]
  simp -implicitDefEqProofs only [rdl, Ex.same, Nat.beq, show decide ((i : Int) < (s.size : Int)) = true from decide_eq_true (by omega), hw, hwx, dec_nn, byteAt_at hx]
  refine ev_call (f46 _ _ _) ?_
  simp -implicitDefEqProofs only [rdl, Ex.same, Nat.beq]
  rw [hd, digV, show inB (x.toNat : Int) 48 57 = isDg x from rfl]
  cases hg : isDg x with
  | false => exact Evt.ret
  | true =>
   have hv8 : v < 100000000 := Nat.lt_of_lt_of_le hv (show 10 ^ i ≤ 10 ^ 8 from Nat.pow_le_pow_right (by decide) (by omega))
   simp -implicitDefEqProofs only [rdl, Ex.same, Nat.beq, Bool.not_true, dec_nn, byteAt_at hx, dig_wrap hg hv8]
   exact ih (i + 1) _ (by omega) (by omega) (dval_step hg hv)
theorem f79 (s : ByteArray) : Ev fs 79 [.d (.v (.string s))] ⟨.d (.v (.int .i64 (match numL s.toList with | some x => (x : Int) | none => -1))), []⟩ := by
 have hlen : s.toList.length = s.size := toList_length
 refine Ev.of (af := a79) rfl rfl (Evt.congr (fun d n => a79q ..) ?_)
 refine ev_call (f46 _ _ _) ?_
 simp -implicitDefEqProofs only [rdl, Ex.same, Nat.beq]
 have hL : s.size ≤ 9 → Evt (fun d n => l79x0 (TabD fs d) d n [.v (.string s), .v (.int .i64 0), .v (.int .i64 0)]) (match digV s.toList 0 with | some x => (.exit 0, [.v (.int .i64 (x : Int))]) | none => (.ret, [.v (.int .i64 (-1))])) := fun h => num_loop h s.size 0 0 (by omega) (by omega) (by decide)
 by_cases h1 : 1 ≤ s.size ∧ s.size ≤ 9
 ·have g1 : inB (s.size : Int) 1 9 = true := by simp [inB]; omega
  have hL := hL h1.2
  have tail : numG s.toList = true → Evt (fun d n => aft (l79x0 (TabD fs d) d d [.v (.string s), .v (.int .i64 0), .v (.int .i64 0)]) fun e ys => bif e.same .ret then (aV ys 0 fun x => aI .i64 x fun n => some (⟨(.d (.v (.int .i64 n))), []⟩ : Out)) else (bif e.same (.exit 0) then (aV ys 0 fun x => aI .i64 x fun n => some ⟨(.d (.v (.int .i64 n))), []⟩) else none)) ⟨.d (.v (.int .i64 (match numL s.toList with | some x => (x : Int) | none => -1))), []⟩ := fun hg => by
   rw [numL, hg, cond_true]
   refine ev_aft (L := fun d n => l79x0 (TabD fs d) d n [.v (.string s), .v (.int .i64 0), .v (.int .i64 0)]) hL ?_
   cases digV s.toList 0 with
   | some x => simp -implicitDefEqProofs only [rdl, Ex.same, Nat.beq]; exact Evt.ret
   | none => simp -implicitDefEqProofs only [rdl, Ex.same, Nat.beq]; exact Evt.ret
  simp -implicitDefEqProofs only [rdl, Ex.same, Nat.beq, g1, Bool.not_true]
  refine ev_if (fun h2 => ?_) (fun h2 => ?_)
  ·have h2 : 1 < s.size := by have := of_decide_eq_true (show decide ((s.size : Int) > 1) = true from by simpa using h2); omega
   obtain ⟨x, hx⟩ := byte_get (show 0 < s.size by omega)
   refine ev_tst (by decide) ?_
   simp -implicitDefEqProofs only [rdl, Ex.same, Nat.beq, show Int.toNat 0 = 0 from rfl, byteAt_at hx]
   refine ev_if (fun h3 => ?_) (fun h3 => ?_)
   ·have h3 : x = 48 := UInt8.toNat_inj.1 (by have := eq_of_beq h3; simp; omega)
    have hg : numG s.toList = false := by simp [numG, hx, h3, hlen, h2]
    rw [numL, hg]
    exact Evt.ret
   ·have h3 : x ≠ 48 := fun e => by subst e; simp at h3
    exact tail (by simp [numG, hx, h3, hlen]; omega)
  ·have h2 : s.size ≤ 1 := by have := of_decide_eq_false (show decide ((s.size : Int) > 1) = false from by simpa using h2); omega
   exact tail (by simp [numG, hlen]; omega)
 ·have g1 : inB (s.size : Int) 1 9 = false := by simp [inB]; omega
  have hg : numG s.toList = false := by simp [numG, hlen]; omega
  rw [numL, hg]
  simp -implicitDefEqProofs only [rdl, Ex.same, Nat.beq, g1, Bool.not_false]
  exact Evt.ret
end Go.Am.Pp
