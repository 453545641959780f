/- What the functions say that look whether names and values are right. Nothing is assumed. -/
import Derived.Test.YtefdfdkkbbehiaaGreatDoorPpH
namespace Go.Am.Pp
set_option linter.unusedVariables false
set_option linter.unusedSimpArgs false
set_option maxRecDepth 8000
theorem f46 (n lo hi : Int) : Ev fs 46 [.d (.v (.int .i64 n)), .d (.v (.int .i64 lo)), .d (.v (.int .i64 hi))] (bo (inB n lo hi)) := by
 refine Ev.of (af := a46) rfl rfl (Evt.congr (fun d n => a46q ..) ?_)
 refine ev_if (fun c1 => ?_) (fun c1 => ?_)
 ·exact Evt.ret' (by first | (simp_all [inB]; done) | (simp_all [inB]; omega) | (simp_all [inB]; congr))
 ·exact Evt.ret' (by first | (simp_all [inB]; done) | (simp_all [inB]; omega) | (simp_all [inB]; congr))
theorem f81 (n lo hi : Int) : Ev fs 81 [.d (.v (.int .i64 n)), .d (.v (.int .i64 lo)), .d (.v (.int .i64 hi))] (bo (inB n lo hi)) := by
 refine Ev.of (af := a81) rfl rfl (Evt.congr (fun d n => a81q ..) ?_)
 refine ev_if (fun c1 => ?_) (fun c1 => ?_)
 ·exact Evt.ret' (by first | (simp_all [inB]; done) | (simp_all [inB]; omega) | (simp_all [inB]; congr))
 ·exact Evt.ret' (by first | (simp_all [inB]; done) | (simp_all [inB]; omega) | (simp_all [inB]; congr))
theorem f78 {s : ByteArray} (hs : s.size ≤ maxLen) : Ev fs 78 [.d (.v (.string s))] (bo (nameOk s)) := by
 refine Ev.of (af := a78) rfl rfl (Evt.congr (fun d n => a78q ..) ?_)
 refine ev_aft (L := fun d n => l78x0 (TabD fs d) d n [(.v (.string s)), (.v (.int .i64 0))]) (all_loop (L := fun d n i => l78x0 (TabD fs d) d n [(.v (.string s)), (.v (.int .i64 i))]) (n := s.size) (p := fun i => nameCh (s.toList[i]?.getD 0)) (y := (.exit 0, [.v (.string s)])) (z := (.ret, [.v (.bool false)])) (fun d m => ?_) (fun i hi => ?_)) ?_
 ·rw [l78x0s]
  simp -implicitDefEqProofs only [rdl, Ex.same, Nat.beq, Int.lt_irrefl, decide_false]
 ·obtain ⟨b, hb⟩ := byte_get hi
  have hw := wrap_succ hi hs
  simp only [l78x0s, hb, Option.getD_some]
  simp -implicitDefEqProofs only [rdl, Ex.same, Nat.beq, decide_eq_true (Int.ofNat_lt.2 hi), dec_nn, byteAt_at hb, hw, byte_wrap]
  intro res k k'
  refine ev_call (f46 _ _ _) ?_
  simp -implicitDefEqProofs only [rdl, Ex.same, Nat.beq, dec_nn, byteAt_at hb, byte_wrap, Bool.not_false, Bool.not_true, cond_true, cond_false]
  refine ev_if (fun c1 => ?_) (fun c1 => ?_)
  ·refine ev_call (f46 _ _ _) ?_
   simp -implicitDefEqProofs only [rdl, Ex.same, Nat.beq, dec_nn, byteAt_at hb, byte_wrap, Bool.not_false, Bool.not_true, cond_true, cond_false]
   refine ev_if (fun c2 => ?_) (fun c2 => ?_)
   ·refine ev_if (fun c3 => ?_) (fun c3 => ?_)
    ·exact Evt.ret' (k' (by first | (simp_all [nameCh, inB]; done) | (simp_all [nameCh, inB]; omega) | (simp_all [nameCh, inB]; congr)))
    ·exact k (by first | (simp_all [nameCh, inB]; done) | (simp_all [nameCh, inB]; omega) | (simp_all [nameCh, inB]; congr))
   ·exact k (by first | (simp_all [nameCh, inB]; done) | (simp_all [nameCh, inB]; omega) | (simp_all [nameCh, inB]; congr))
  ·exact k (by first | (simp_all [nameCh, inB]; done) | (simp_all [nameCh, inB]; omega) | (simp_all [nameCh, inB]; congr))
 ·cases hq : allN s.size (fun i => nameCh (s.toList[i]?.getD 0)) with
  | false =>
   simp -implicitDefEqProofs only [rdl, Ex.same, Nat.beq]
   exact Evt.ret' (by simp [nameOk, hq])
  | true =>
   simp -implicitDefEqProofs only [rdl, Ex.same, Nat.beq]
   refine ev_call (f46 _ _ _) ?_
   simp -implicitDefEqProofs only [rdl, Ex.same, Nat.beq]
   refine ev_if (fun c1 => ?_) (fun c1 => ?_)
   ·have c1' : inB (s.size : Int) 1 20 = true := by simpa using c1
    have hs0 : 0 < s.size := by simp [inB] at c1'; omega
    obtain ⟨b0, hb0⟩ := byte_get hs0
    obtain ⟨b1, hb1⟩ := byte_get (s := s) (i := s.size - 1) (by omega)
    have hp : IntKind.i64.wrap ((s.size : Int) - 1) = ((s.size - 1 : Nat) : Int) := by
     rw [wrap_i64 (by omega) (by simp only [maxLen] at hs; omega)]
     omega
    simp -implicitDefEqProofs only [rdl, Ex.same, Nat.beq, show decide ((0 : Nat) ≤ 0) = true from rfl, show decide ((0 : Int) ≤ 0) = true from rfl, show Int.toNat 0 = 0 from rfl, byteAt_at hb0, hp, dec_nn, byteAt_at hb1]
    refine ev_if (fun c2 => ?_) (fun c2 => ?_)
    ·exact Evt.ret' (by simp_all [nameOk, byteOf])
    ·exact Evt.ret' (by simp_all [nameOk, byteOf])
   ·exact Evt.ret' (by simp_all [nameOk])
theorem f84 {s : ByteArray} (hs : s.size ≤ maxLen) : Ev fs 84 [.d (.v (.string s))] (bo (nameOk s)) := by
 refine Ev.of (af := a84) rfl rfl (Evt.congr (fun d n => a84q ..) ?_)
 refine ev_aft (L := fun d n => l84x0 (TabD fs d) d n [(.v (.string s)), (.v (.int .i64 (s.size : Int))), (.v (.int .i64 0))]) (all_loop (L := fun d n i => l84x0 (TabD fs d) d n [(.v (.string s)), (.v (.int .i64 (s.size : Int))), (.v (.int .i64 i))]) (n := s.size) (p := fun i => nameCh (s.toList[i]?.getD 0)) (y := (.exit 0, [.v (.string s)])) (z := (.ret, [.v (.bool false)])) (fun d m => ?_) (fun i hi => ?_)) ?_
 ·rw [l84x0s]
  simp -implicitDefEqProofs only [rdl, Ex.same, Nat.beq, Int.lt_irrefl, decide_false]
 ·obtain ⟨b, hb⟩ := byte_get hi
  have hw := wrap_succ hi hs
  simp only [l84x0s, hb, Option.getD_some]
  simp -implicitDefEqProofs only [rdl, Ex.same, Nat.beq, decide_eq_true (Int.ofNat_lt.2 hi), dec_nn, byteAt_at hb, hw, byte_wrap]
  intro res k k'
  refine ev_if (fun c1 => ?_) (fun c1 => ?_)
  ·refine ev_if (fun c2 => ?_) (fun c2 => ?_)
   ·refine ev_if (fun c3 => ?_) (fun c3 => ?_)
    ·refine ev_if (fun c4 => ?_) (fun c4 => ?_)
     ·refine ev_if (fun c5 => ?_) (fun c5 => ?_)
      ·exact Evt.ret' (k' (by first | (simp_all [nameCh, inB]; done) | (simp_all [nameCh, inB]; omega) | (simp_all [nameCh, inB]; congr)))
      ·exact k (by first | (simp_all [nameCh, inB]; done) | (simp_all [nameCh, inB]; omega) | (simp_all [nameCh, inB]; congr))
     ·exact k (by first | (simp_all [nameCh, inB]; done) | (simp_all [nameCh, inB]; omega) | (simp_all [nameCh, inB]; congr))
    ·refine ev_if (fun c6 => ?_) (fun c6 => ?_)
     ·exact Evt.ret' (k' (by first | (simp_all [nameCh, inB]; done) | (simp_all [nameCh, inB]; omega) | (simp_all [nameCh, inB]; congr)))
     ·exact k (by first | (simp_all [nameCh, inB]; done) | (simp_all [nameCh, inB]; omega) | (simp_all [nameCh, inB]; congr))
   ·exact k (by first | (simp_all [nameCh, inB]; done) | (simp_all [nameCh, inB]; omega) | (simp_all [nameCh, inB]; congr))
  ·refine ev_if (fun c7 => ?_) (fun c7 => ?_)
   ·refine ev_if (fun c8 => ?_) (fun c8 => ?_)
    ·refine ev_if (fun c9 => ?_) (fun c9 => ?_)
     ·exact Evt.ret' (k' (by first | (simp_all [nameCh, inB]; done) | (simp_all [nameCh, inB]; omega) | (simp_all [nameCh, inB]; congr)))
     ·exact k (by first | (simp_all [nameCh, inB]; done) | (simp_all [nameCh, inB]; omega) | (simp_all [nameCh, inB]; congr))
    ·exact k (by first | (simp_all [nameCh, inB]; done) | (simp_all [nameCh, inB]; omega) | (simp_all [nameCh, inB]; congr))
   ·refine ev_if (fun c10 => ?_) (fun c10 => ?_)
    ·exact Evt.ret' (k' (by first | (simp_all [nameCh, inB]; done) | (simp_all [nameCh, inB]; omega) | (simp_all [nameCh, inB]; congr)))
    ·exact k (by first | (simp_all [nameCh, inB]; done) | (simp_all [nameCh, inB]; omega) | (simp_all [nameCh, inB]; congr))
 ·cases hq : allN s.size (fun i => nameCh (s.toList[i]?.getD 0)) with
  | false =>
   simp -implicitDefEqProofs only [rdl, Ex.same, Nat.beq]
   exact Evt.ret' (by simp [nameOk, hq])
  | true =>
   simp -implicitDefEqProofs only [rdl, Ex.same, Nat.beq]
   refine ev_call (f81 _ _ _) ?_
   simp -implicitDefEqProofs only [rdl, Ex.same, Nat.beq]
   refine ev_if (fun c1 => ?_) (fun c1 => ?_)
   ·have c1' : inB (s.size : Int) 1 20 = true := by simpa using c1
    have hs0 : 0 < s.size := by simp [inB] at c1'; omega
    obtain ⟨b0, hb0⟩ := byte_get hs0
    obtain ⟨b1, hb1⟩ := byte_get (s := s) (i := s.size - 1) (by omega)
    have hp : IntKind.i64.wrap ((s.size : Int) - 1) = ((s.size - 1 : Nat) : Int) := by
     rw [wrap_i64 (by omega) (by simp only [maxLen] at hs; omega)]
     omega
    simp -implicitDefEqProofs only [rdl, Ex.same, Nat.beq, show decide ((0 : Nat) ≤ 0) = true from rfl, show decide ((0 : Int) ≤ 0) = true from rfl, show Int.toNat 0 = 0 from rfl, byteAt_at hb0, hp, dec_nn, byteAt_at hb1]
    refine ev_if (fun c2 => ?_) (fun c2 => ?_)
    ·exact Evt.ret' (by simp_all [nameOk, byteOf])
    ·exact Evt.ret' (by simp_all [nameOk, byteOf])
   ·exact Evt.ret' (by simp_all [nameOk])
theorem f115 {l : Rows} (hl : SL E 9 l) (u : Int) : Ev fs 115 [.d (.s 1 l), .d (.v (.int .i64 u))] (bo (namesOk l u)) := by
 refine Ev.of (af := a115) rfl rfl (Evt.congr (fun d n => a115q ..) ?_)
 refine ev_aft (L := fun d n => l115x0 (TabD fs d) d n [(.fz 1 l), (.v (.int .i64 u)), (.fz 1 l), (.v (.int .i64 (l.length : Int))), (.v (.int .i64 0))]) (all_loop (L := fun d n i => l115x0 (TabD fs d) d n [(.fz 1 l), (.v (.int .i64 u)), (.fz 1 l), (.v (.int .i64 (l.length : Int))), (.v (.int .i64 i))]) (n := l.length) (p := fun i => nameOk (cT (row_ l i) 0) && chain (upT 0) l i) (y := (.exit 0, [(.fz 1 l), (.v (.int .i64 u))])) (z := (.ret, [.v (.bool false)])) (fun d m => ?_) (fun i hi => ?_)) ?_
 ·rw [l115x0s]
  simp -implicitDefEqProofs only [rdl, Ex.same, Nat.beq, Int.lt_irrefl, decide_false]
 ·have hx := List.getElem?_eq_getElem hi
  generalize l[i] = x at hx
  have h := hl.at hx
  have hw := wrap_succ hi hl.le
  obtain ⟨sx0, rfl, px0⟩ := I9 h
  simp only [l115x0s, row_, hx, Option.getD_some, cN, cT, cR, cE, List.getElem?_cons_zero, List.getElem?_cons_succ, List.drop_succ_cons, List.drop_zero]
  cases i with
  | zero =>
   simp -implicitDefEqProofs only [rdl, Ex.same, Nat.beq, decide_eq_true (Int.ofNat_lt.2 hi), dec_nn, look_at hx, hw, pos_zero]
   simp only [chain]
   intro res k k'
   refine ev_call (f84 (by assumption)) ?_
   simp -implicitDefEqProofs only [rdl, Ex.same, Nat.beq, dec_nn, look_at hx, pos_zero, Bool.not_false, Bool.not_true, cond_true, cond_false]
   refine ev_if (fun c1 => ?_) (fun c1 => ?_)
   ·exact k (by first | (simp_all [inB, upT, upN, cN, cT, cR]; done) | (simp_all [inB, upT, upN, cN, cT, cR]; omega) | (simp_all [inB, upT, upN, cN, cT, cR]; congr))
   ·exact Evt.ret' (k' (by first | (simp_all [inB, upT, upN, cN, cT, cR]; done) | (simp_all [inB, upT, upN, cN, cT, cR]; omega) | (simp_all [inB, upT, upN, cN, cT, cR]; congr)))
  | succ j =>
   have hy := List.getElem?_eq_getElem (show j < l.length by omega)
   generalize l[j] = y at hy
   have hj := hl.at hy
   have hp := wrap_pred (j := j) (by have := hl.le; omega)
   obtain ⟨sy0, rfl, py0⟩ := I9 hj
   simp only [chain, row_, hx, hy, Option.getD_some, cN, cT, cR, cE, List.getElem?_cons_zero, List.getElem?_cons_succ]
   simp -implicitDefEqProofs only [rdl, Ex.same, Nat.beq, decide_eq_true (Int.ofNat_lt.2 hi), dec_nn, look_at hx, look_at hy, hw, hp, pos_succ]
   intro res k k'
   refine ev_call (f84 (by assumption)) ?_
   simp -implicitDefEqProofs only [rdl, Ex.same, Nat.beq, dec_nn, look_at hx, look_at hy, hp, pos_succ, Bool.not_false, Bool.not_true, cond_true, cond_false]
   refine ev_if (fun c1 => ?_) (fun c1 => ?_)
   ·refine ev_if (fun c2 => ?_) (fun c2 => ?_)
    ·exact Evt.ret' (k' (by first | (simp_all [inB, upT, upN, cN, cT, cR]; done) | (simp_all [inB, upT, upN, cN, cT, cR]; omega) | (simp_all [inB, upT, upN, cN, cT, cR]; congr)))
    ·exact k (by first | (simp_all [inB, upT, upN, cN, cT, cR]; done) | (simp_all [inB, upT, upN, cN, cT, cR]; omega) | (simp_all [inB, upT, upN, cN, cT, cR]; congr))
   ·exact Evt.ret' (k' (by first | (simp_all [inB, upT, upN, cN, cT, cR]; done) | (simp_all [inB, upT, upN, cN, cT, cR]; omega) | (simp_all [inB, upT, upN, cN, cT, cR]; congr)))
 ·cases hq : allN l.length (fun i => nameOk (cT (row_ l i) 0) && chain (upT 0) l i) with
  | false =>
   simp -implicitDefEqProofs only [rdl, Ex.same, Nat.beq]
   exact Evt.ret' (by simp [namesOk, keysB, hq])
  | true =>
   simp -implicitDefEqProofs only [rdl, Ex.same, Nat.beq]
   exact Evt.ret' (by simp [namesOk, keysB, hq])
theorem f110 {s : ByteArray} (hs : s.size ≤ maxLen) : Ev fs 110 [.d (.v (.string s))] (bo (textOk s)) := by
 refine Ev.of (af := a110) rfl rfl (Evt.congr (fun d n => a110q ..) ?_)
 refine ev_aft (L := fun d n => l110x0 (TabD fs d) d n [(.v (.string s)), (.v (.int .i64 0))]) (all_loop (L := fun d n i => l110x0 (TabD fs d) d n [(.v (.string s)), (.v (.int .i64 i))]) (n := s.size) (p := fun i => inB (byteOf s i) 32 126) (y := (.exit 0, [.v (.string s)])) (z := (.ret, [.v (.bool false)])) (fun d m => ?_) (fun i hi => ?_)) ?_
 ·rw [l110x0s]
  simp -implicitDefEqProofs only [rdl, Ex.same, Nat.beq, Int.lt_irrefl, decide_false]
 ·obtain ⟨b, hb⟩ := byte_get hi
  have hw := wrap_succ hi hs
  simp only [l110x0s, byteOf, hb, Option.getD_some]
  simp -implicitDefEqProofs only [rdl, Ex.same, Nat.beq, decide_eq_true (Int.ofNat_lt.2 hi), dec_nn, byteAt_at hb, hw, byte_wrap]
  intro res k k'
  refine ev_call (f46 _ _ _) ?_
  simp -implicitDefEqProofs only [rdl, Ex.same, Nat.beq, dec_nn, byteAt_at hb, byte_wrap, Bool.not_false, Bool.not_true, cond_true, cond_false]
  refine ev_if (fun c1 => ?_) (fun c1 => ?_)
  ·exact Evt.ret' (k' (by first | (simp_all [inB]; done) | (simp_all [inB]; omega) | (simp_all [inB]; congr)))
  ·exact k (by first | (simp_all [inB]; done) | (simp_all [inB]; omega) | (simp_all [inB]; congr))
 ·cases hq : allN s.size (fun i => inB (byteOf s i) 32 126) with
  | false =>
   simp -implicitDefEqProofs only [rdl, Ex.same, Nat.beq]
   exact Evt.ret' (by simp [textOk, hq])
  | true =>
   simp -implicitDefEqProofs only [rdl, Ex.same, Nat.beq]
   exact Evt.ret' (by simp [textOk, hq])
theorem f111 {v : Row} (h : ShL E (E 33) v) : Ev fs 111 [.g v] (bo (keysB (cR v 3) && (((cR v 3).length : Int) == ((cR v 4).length : Int)))) := by
 obtain ⟨na0, sa1, na2, la3, la4, rfl, pa0, pa1, pa2, pa3, pa4⟩ := I33 h
 simp only [cN, cT, cR, cE, List.getElem?_cons_zero, List.getElem?_cons_succ]
 refine Ev.of (af := a111) rfl rfl (Evt.congr (fun d n => a111q ..) ?_)
 refine ev_aft (L := fun d n => l111x0 (TabD fs d) d n [(.b [(.v (.int .i64 na0)), (.v (.string sa1)), (.v (.int .i64 na2)), (.fz 1 la3), (.fz 5 la4)]), (.v (.int .i64 0))]) (all_loop (L := fun d n i => l111x0 (TabD fs d) d n [(.b [(.v (.int .i64 na0)), (.v (.string sa1)), (.v (.int .i64 na2)), (.fz 1 la3), (.fz 5 la4)]), (.v (.int .i64 i))]) (n := la3.length) (p := fun i => nameOk (cT (row_ la3 i) 0) && chain (upT 0) la3 i) (y := (.exit 0, [(.b [(.v (.int .i64 na0)), (.v (.string sa1)), (.v (.int .i64 na2)), (.fz 1 la3), (.fz 5 la4)])])) (z := (.ret, [.v (.bool false)])) (fun d m => ?_) (fun i hi => ?_)) ?_
 ·rw [l111x0s]
  simp -implicitDefEqProofs only [rdl, Ex.same, Nat.beq, Int.lt_irrefl, decide_false]
 ·have hx := List.getElem?_eq_getElem hi
  generalize la3[i] = x at hx
  have h := pa3.at hx
  have hw := wrap_succ hi pa3.le
  obtain ⟨sx0, rfl, px0⟩ := I9 h
  simp only [l111x0s, row_, hx, Option.getD_some, cN, cT, cR, cE, List.getElem?_cons_zero, List.getElem?_cons_succ, List.drop_succ_cons, List.drop_zero]
  cases i with
  | zero =>
   simp -implicitDefEqProofs only [rdl, Ex.same, Nat.beq, decide_eq_true (Int.ofNat_lt.2 hi), dec_nn, look_at hx, hw, pos_zero]
   simp only [chain]
   intro res k k'
   refine ev_call (f78 (by assumption)) ?_
   simp -implicitDefEqProofs only [rdl, Ex.same, Nat.beq, dec_nn, look_at hx, pos_zero, Bool.not_false, Bool.not_true, cond_true, cond_false]
   refine ev_if (fun c1 => ?_) (fun c1 => ?_)
   ·exact k (by first | (simp_all [inB, upT, upN, cN, cT, cR]; done) | (simp_all [inB, upT, upN, cN, cT, cR]; omega) | (simp_all [inB, upT, upN, cN, cT, cR]; congr))
   ·exact Evt.ret' (k' (by first | (simp_all [inB, upT, upN, cN, cT, cR]; done) | (simp_all [inB, upT, upN, cN, cT, cR]; omega) | (simp_all [inB, upT, upN, cN, cT, cR]; congr)))
  | succ j =>
   have hy := List.getElem?_eq_getElem (show j < la3.length by omega)
   generalize la3[j] = y at hy
   have hj := pa3.at hy
   have hp := wrap_pred (j := j) (by have := pa3.le; omega)
   obtain ⟨sy0, rfl, py0⟩ := I9 hj
   simp only [chain, row_, hx, hy, Option.getD_some, cN, cT, cR, cE, List.getElem?_cons_zero, List.getElem?_cons_succ]
   simp -implicitDefEqProofs only [rdl, Ex.same, Nat.beq, decide_eq_true (Int.ofNat_lt.2 hi), dec_nn, look_at hx, look_at hy, hw, hp, pos_succ]
   intro res k k'
   refine ev_call (f78 (by assumption)) ?_
   simp -implicitDefEqProofs only [rdl, Ex.same, Nat.beq, dec_nn, look_at hx, look_at hy, hp, pos_succ, Bool.not_false, Bool.not_true, cond_true, cond_false]
   refine ev_if (fun c1 => ?_) (fun c1 => ?_)
   ·refine ev_if (fun c2 => ?_) (fun c2 => ?_)
    ·exact Evt.ret' (k' (by first | (simp_all [inB, upT, upN, cN, cT, cR]; done) | (simp_all [inB, upT, upN, cN, cT, cR]; omega) | (simp_all [inB, upT, upN, cN, cT, cR]; congr)))
    ·exact k (by first | (simp_all [inB, upT, upN, cN, cT, cR]; done) | (simp_all [inB, upT, upN, cN, cT, cR]; omega) | (simp_all [inB, upT, upN, cN, cT, cR]; congr))
   ·exact Evt.ret' (k' (by first | (simp_all [inB, upT, upN, cN, cT, cR]; done) | (simp_all [inB, upT, upN, cN, cT, cR]; omega) | (simp_all [inB, upT, upN, cN, cT, cR]; congr)))
 ·cases hq : allN la3.length (fun i => nameOk (cT (row_ la3 i) 0) && chain (upT 0) la3 i) with
  | false =>
   simp -implicitDefEqProofs only [rdl, Ex.same, Nat.beq]
   exact Evt.ret' (by simp [keysB, hq])
  | true =>
   simp -implicitDefEqProofs only [rdl, Ex.same, Nat.beq]
   exact Evt.ret' (by simp [keysB, hq])
theorem f77 {v : Row} (h : ShL E (E 33) v) : Ev fs 77 [.g v] (bo (shapeB (cN v 0) (cT v 1) (cN v 2) (cR v 3) (cR v 4))) := by
 obtain ⟨na0, sa1, na2, la3, la4, rfl, pa0, pa1, pa2, pa3, pa4⟩ := I33 h
 simp only [cN, cT, cR, cE, List.getElem?_cons_zero, List.getElem?_cons_succ]
 refine Ev.of (af := a77) rfl rfl (Evt.congr (fun d n => a77q ..) ?_)
 have hT : Evt (fun d n => l77x0 (TabD fs d) d n [(.b [(.v (.int .i64 na0)), (.v (.string sa1)), (.v (.int .i64 na2)), (.fz 1 la3), (.fz 5 la4)]), (.v (.bool (na2 == 0))), (.v (.bool ((la3.length : Int) == 0))), (.v (.bool ((la4.length : Int) == 0))), (.v (.int .i64 (sa1.size : Int))), (.v (.int .i64 0))]) (bif allN sa1.size (fun i => inB (byteOf sa1 i) 32 126) then (.exit 1, [(.b [.v (.int .i64 na0), .v (.string sa1), .v (.int .i64 na2), .fz 1 la3, .fz 5 la4]), .v (.bool (na2 == 0)), .v (.bool ((la3.length : Int) == 0)), .v (.bool ((la4.length : Int) == 0))]) else (.ret, [.v (.bool false)])) := by
  refine all_loop (L := fun d n i => l77x0 (TabD fs d) d n [(.b [(.v (.int .i64 na0)), (.v (.string sa1)), (.v (.int .i64 na2)), (.fz 1 la3), (.fz 5 la4)]), (.v (.bool (na2 == 0))), (.v (.bool ((la3.length : Int) == 0))), (.v (.bool ((la4.length : Int) == 0))), (.v (.int .i64 (sa1.size : Int))), (.v (.int .i64 i))]) (fun d m => ?_) (fun i hi => ?_)
  ·rw [l77x0s]
   simp -implicitDefEqProofs only [rdl, Ex.same, Nat.beq, Int.lt_irrefl, decide_false]
  ·obtain ⟨b, hb⟩ := byte_get hi
   have hw := wrap_succ hi pa1
   simp only [l77x0s, byteOf, hb, Option.getD_some]
   simp -implicitDefEqProofs only [rdl, Ex.same, Nat.beq, decide_eq_true (Int.ofNat_lt.2 hi), dec_nn, byteAt_at hb, hw, byte_wrap]
   intro res k k'
   refine ev_call (f81 _ _ _) ?_
   simp -implicitDefEqProofs only [rdl, Ex.same, Nat.beq, dec_nn, byteAt_at hb, byte_wrap, Bool.not_false, Bool.not_true, cond_true, cond_false]
   refine ev_if (fun c1 => ?_) (fun c1 => ?_)
   ·exact Evt.ret' (k' (by first | (simp_all [inB]; done) | (simp_all [inB]; omega) | (simp_all [inB]; congr)))
   ·exact k (by first | (simp_all [inB]; done) | (simp_all [inB]; omega) | (simp_all [inB]; congr))
 refine ev_if (fun c1 => ?_) (fun c1 => ?_)
 ·refine ev_aft (L := fun d n => l77x0 (TabD fs d) d n [(.b [(.v (.int .i64 na0)), (.v (.string sa1)), (.v (.int .i64 na2)), (.fz 1 la3), (.fz 5 la4)]), (.v (.bool (na2 == 0))), (.v (.bool ((la3.length : Int) == 0))), (.v (.bool ((la4.length : Int) == 0))), (.v (.int .i64 (sa1.size : Int))), (.v (.int .i64 0))]) hT ?_
  cases hq : allN sa1.size (fun i => inB (byteOf sa1 i) 32 126) with
  | false =>
   simp -implicitDefEqProofs only [rdl, Ex.same, Nat.beq]
   exact Evt.ret' (by simp_all [shapeB, textOk, bare])
  | true =>
   simp -implicitDefEqProofs only [rdl, Ex.same, Nat.beq]
   refine ev_if (fun c2 => ?_) (fun c2 => ?_)
   ·refine ev_if (fun c3 => ?_) (fun c3 => ?_)
    ·refine ev_if (fun c4 => ?_) (fun c4 => ?_)
     ·exact Evt.ret' (by first | (simp_all [shapeB, textOk, bare]; done) | (simp_all [shapeB, textOk, bare]; omega) | (simp_all [shapeB, textOk, bare]; congr))
     ·exact Evt.ret' (by first | (simp_all [shapeB, textOk, bare]; done) | (simp_all [shapeB, textOk, bare]; omega) | (simp_all [shapeB, textOk, bare]; congr))
    ·exact Evt.ret' (by first | (simp_all [shapeB, textOk, bare]; done) | (simp_all [shapeB, textOk, bare]; omega) | (simp_all [shapeB, textOk, bare]; congr))
   ·exact Evt.ret' (by first | (simp_all [shapeB, textOk, bare]; done) | (simp_all [shapeB, textOk, bare]; omega) | (simp_all [shapeB, textOk, bare]; congr))
 ·refine ev_if (fun c5 => ?_) (fun c5 => ?_)
  ·refine ev_if (fun c6 => ?_) (fun c6 => ?_)
   ·refine ev_if (fun c7 => ?_) (fun c7 => ?_)
    ·exact Evt.ret' (by first | (simp_all [shapeB, textOk, bare]; done) | (simp_all [shapeB, textOk, bare]; omega) | (simp_all [shapeB, textOk, bare]; congr))
    ·exact Evt.ret' (by first | (simp_all [shapeB, textOk, bare]; done) | (simp_all [shapeB, textOk, bare]; omega) | (simp_all [shapeB, textOk, bare]; congr))
   ·exact Evt.ret' (by first | (simp_all [shapeB, textOk, bare]; done) | (simp_all [shapeB, textOk, bare]; omega) | (simp_all [shapeB, textOk, bare]; congr))
  ·refine ev_if (fun c8 => ?_) (fun c8 => ?_)
   ·refine ev_call (f81 _ _ _) ?_
    simp -implicitDefEqProofs only [rdl, Ex.same, Nat.beq, Bool.not_false, Bool.not_true, cond_true, cond_false]
    refine ev_if (fun c9 => ?_) (fun c9 => ?_)
    ·refine ev_if (fun c10 => ?_) (fun c10 => ?_)
     ·refine ev_if (fun c11 => ?_) (fun c11 => ?_)
      ·exact Evt.ret' (by first | (simp_all [shapeB, textOk, bare]; done) | (simp_all [shapeB, textOk, bare]; omega) | (simp_all [shapeB, textOk, bare]; congr))
      ·exact Evt.ret' (by first | (simp_all [shapeB, textOk, bare]; done) | (simp_all [shapeB, textOk, bare]; omega) | (simp_all [shapeB, textOk, bare]; congr))
     ·exact Evt.ret' (by first | (simp_all [shapeB, textOk, bare]; done) | (simp_all [shapeB, textOk, bare]; omega) | (simp_all [shapeB, textOk, bare]; congr))
    ·exact Evt.ret' (by first | (simp_all [shapeB, textOk, bare]; done) | (simp_all [shapeB, textOk, bare]; omega) | (simp_all [shapeB, textOk, bare]; congr))
   ·refine ev_if (fun c12 => ?_) (fun c12 => ?_)
    ·refine ev_if (fun c13 => ?_) (fun c13 => ?_)
     ·refine ev_if (fun c14 => ?_) (fun c14 => ?_)
      ·refine ev_if (fun c15 => ?_) (fun c15 => ?_)
       ·exact Evt.ret' (by first | (simp_all [shapeB, textOk, bare]; done) | (simp_all [shapeB, textOk, bare]; omega) | (simp_all [shapeB, textOk, bare]; congr))
       ·exact Evt.ret' (by first | (simp_all [shapeB, textOk, bare]; done) | (simp_all [shapeB, textOk, bare]; omega) | (simp_all [shapeB, textOk, bare]; congr))
      ·exact Evt.ret' (by first | (simp_all [shapeB, textOk, bare]; done) | (simp_all [shapeB, textOk, bare]; omega) | (simp_all [shapeB, textOk, bare]; congr))
     ·exact Evt.ret' (by first | (simp_all [shapeB, textOk, bare]; done) | (simp_all [shapeB, textOk, bare]; omega) | (simp_all [shapeB, textOk, bare]; congr))
    ·refine ev_if (fun c16 => ?_) (fun c16 => ?_)
     ·refine ev_call (f115 (by assumption) _) ?_
      simp -implicitDefEqProofs only [rdl, Ex.same, Nat.beq, Bool.not_false, Bool.not_true, cond_true, cond_false]
      refine ev_if (fun c17 => ?_) (fun c17 => ?_)
      ·refine ev_if (fun c18 => ?_) (fun c18 => ?_)
       ·refine ev_if (fun c19 => ?_) (fun c19 => ?_)
        ·refine ev_if (fun c20 => ?_) (fun c20 => ?_)
         ·exact Evt.ret' (by first | (simp_all [shapeB, textOk, bare]; done) | (simp_all [shapeB, textOk, bare]; omega) | (simp_all [shapeB, textOk, bare]; congr))
         ·exact Evt.ret' (by first | (simp_all [shapeB, textOk, bare]; done) | (simp_all [shapeB, textOk, bare]; omega) | (simp_all [shapeB, textOk, bare]; congr))
        ·exact Evt.ret' (by first | (simp_all [shapeB, textOk, bare]; done) | (simp_all [shapeB, textOk, bare]; omega) | (simp_all [shapeB, textOk, bare]; congr))
       ·exact Evt.ret' (by first | (simp_all [shapeB, textOk, bare]; done) | (simp_all [shapeB, textOk, bare]; omega) | (simp_all [shapeB, textOk, bare]; congr))
      ·refine ev_if (fun c21 => ?_) (fun c21 => ?_)
       ·refine ev_if (fun c22 => ?_) (fun c22 => ?_)
        ·exact Evt.ret' (by first | (simp_all [shapeB, textOk, bare]; done) | (simp_all [shapeB, textOk, bare]; omega) | (simp_all [shapeB, textOk, bare]; congr))
        ·exact Evt.ret' (by first | (simp_all [shapeB, textOk, bare]; done) | (simp_all [shapeB, textOk, bare]; omega) | (simp_all [shapeB, textOk, bare]; congr))
       ·exact Evt.ret' (by first | (simp_all [shapeB, textOk, bare]; done) | (simp_all [shapeB, textOk, bare]; omega) | (simp_all [shapeB, textOk, bare]; congr))
     ·exact Evt.ret' (by first | (simp_all [shapeB, textOk, bare]; done) | (simp_all [shapeB, textOk, bare]; omega) | (simp_all [shapeB, textOk, bare]; congr))
def msz (d : Nat) (v : Row) : Int := if valSz d v = 0 then 301 else valSz d v
theorem f45 (d : Nat) (hd : d ≤ 6) : ∀ {v : Row}, ShL E (E 33) v → Ev fs 45 [.g v, .d (.v (.int .i64 (d : Int)))] (io (msz d v)) := by
 induction d with
 | zero =>
  intro v h
  obtain ⟨na0, sa1, na2, la3, la4, rfl, pa0, pa1, pa2, pa3, pa4⟩ := I33 h
  refine Ev.of (af := a45) rfl rfl (Evt.congr (fun d n => a45q ..) ?_)
  simp -implicitDefEqProofs only [rdl, Ex.same, Nat.beq, show (((0 : Nat) : Int) == 0) = true from rfl, beq_f, Bool.not_true]
  exact Evt.ret
 | succ d ih =>
  intro v h
  have kk := h
  obtain ⟨na0, sa1, na2, la3, la4, rfl, pa0, pa1, pa2, pa3, pa4⟩ := I33 h
  refine Ev.of (af := a45) rfl rfl (Evt.congr (fun d n => a45q ..) ?_)
  have hne : (((d + 1 : Nat) : Int) == 0) = false := by simp; omega
  simp -implicitDefEqProofs only [rdl, Ex.same, Nat.beq, hne, beq_f, Bool.not_false]
  refine ev_call (f77 kk) ?_
  simp -implicitDefEqProofs only [rdl, Ex.same, Nat.beq]
  simp only [cN, cT, cR, cE, List.getElem?_cons_zero, List.getElem?_cons_succ]
  simp only [msz, valSz, cN, cT, cR, cE, List.getElem?_cons_zero, List.getElem?_cons_succ]
  have hw : IntKind.i64.wrap (((d + 1 : Nat) : Int) - 1) = (d : Int) := by rw [wrap_i64 (by omega) (by omega)]; omega
  refine ev_if (fun hc => ?_) (fun hc => ?_)
  ·have hc : shapeB na0 sa1 na2 la3 la4 = false := by simpa using hc
   exact Evt.ret' (by simp [hc])
  ·have hc : shapeB na0 sa1 na2 la3 la4 = true := by simpa using hc
   simp only [hc, if_true]
   have key : ∀ (k i : Nat), la4.length - i = k → i ≤ la4.length → ∀ acc : Int, 1 ≤ acc → acc ≤ 300 → Evt (fun d' n => l45x0 (TabD fs d') d' n [.v (.int .i64 ((d + 1 : Nat) : Int)), .v (.int .i64 acc), .fz 5 la4, .v (.int .i64 (la4.length : Int)), .v (.int .i64 (i : Int))]) (if kidSum (valSz d) (la4.drop i) acc = 0 then (.ret, [.v (.int .i64 301)]) else (.exit 0, [.v (.int .i64 (kidSum (valSz d) (la4.drop i) acc))])) := by
    intro k
    induction k with
    | zero =>
     intro i hk hi acc h1 h2
     have : i = la4.length := by omega
     subst this
     rw [List.drop_length]
     have hne : ¬ acc = 0 := by omega
     simp only [kidSum, hne, if_false]
     refine ev_succ ⟨0, fun d' n _ _ => ?_⟩
     simp only [l45x0s]
     simp -implicitDefEqProofs only [rdl, Ex.same, Nat.beq, Int.lt_irrefl, decide_false]
    | succ k ihk =>
     intro i hk hi acc h1 h2
     have hlt : i < la4.length := by omega
     have hx := List.getElem?_eq_getElem hlt
     rw [List.drop_eq_getElem_cons hlt]
     generalize la4[i] = x at hx
     have g := pa4.at hx
     have g' := g
     obtain ⟨nx0, sx1, nx2, lx3, lx4, rfl, px0, px1, px2, px3, px4⟩ := I33 g
     refine ev_succ ?_
     simp only [l45x0s]
     simp -implicitDefEqProofs only [rdl, Ex.same, Nat.beq, decide_eq_true (Int.ofNat_lt.2 hlt), dec_nn, look_at hx, wrap_succ hlt pa4.le, hw]
     refine ev_call (ih (by omega) (by assumption)) ?_
     simp -implicitDefEqProofs only [rdl, Ex.same, Nat.beq]
     have hr := valSz_rng d [.v (.int .i64 nx0), .v (.string sx1), .v (.int .i64 nx2), .s 1 lx3, .s 5 lx4]
     generalize hX : ([.v (.int .i64 nx0), .v (.string sx1), .v (.int .i64 nx2), .s 1 lx3, .s 5 lx4] : Row) = X at *
     simp only [kidSum, msz]
     by_cases h0 : valSz d X = 0
     ·simp only [h0, if_true, true_or]
      have : IntKind.i64.wrap (acc + 301) > 300 := by rw [wrap_i64 (by omega) (by omega)]; omega
      simp -implicitDefEqProofs only [rdl, Ex.same, Nat.beq, decide_eq_true this]
      exact Evt.ret
     ·simp only [h0, if_false, false_or]
      have hwr : IntKind.i64.wrap (acc + valSz d X) = acc + valSz d X := wrap_i64 (by omega) (by omega)
      by_cases h3 : acc + valSz d X > 300
      ·simp only [h3, if_true]
       simp -implicitDefEqProofs only [rdl, Ex.same, Nat.beq, hwr, decide_eq_true h3]
       exact Evt.ret
      ·simp only [h3, if_false]
       simp -implicitDefEqProofs only [rdl, Ex.same, Nat.beq, hwr, decide_eq_false h3]
       exact ihk (i + 1) (by omega) (by omega) _ (by omega) (by omega)
   have h0 := key la4.length 0 (by omega) (by omega) 1 (by omega) (by omega)
   rw [List.drop_zero] at h0
   refine ev_aft (L := fun d' n => l45x0 (TabD fs d') d' n [.v (.int .i64 ((d + 1 : Nat) : Int)), .v (.int .i64 1), .fz 5 la4, .v (.int .i64 (la4.length : Int)), .v (.int .i64 0)]) h0 ?_
   by_cases hz : kidSum (valSz d) la4 1 = 0
   ·simp only [hz, if_true]
    simp -implicitDefEqProofs only [rdl, Ex.same, Nat.beq]
    exact Evt.ret
   ·simp only [hz, if_false]
    simp -implicitDefEqProofs only [rdl, Ex.same, Nat.beq]
    exact Evt.ret
theorem f16 {v : Row} (h : ShL E (E 33) v) : Ev fs 16 [.g v] (bo (valueOk v)) := by
 have kk := h
 obtain ⟨na0, sa1, na2, la3, la4, rfl, pa0, pa1, pa2, pa3, pa4⟩ := I33 h
 refine Ev.of (af := a16) rfl rfl (Evt.congr (fun d n => a16q ..) ?_)
 refine ev_call (f45 6 (by omega) kk) ?_
 simp -implicitDefEqProofs only [rdl, Ex.same, Nat.beq]
 have e : ∀ X : Row, decide (msz 6 X ≤ 300) = valueOk X := fun X => by
  have hr := valSz_rng 6 X
  by_cases h : valSz 6 X = 0
  ·simp [valueOk, msz, h]
  ·simp [valueOk, msz, h]
   omega
 rw [e]
 exact Evt.ret
theorem keys_len {f : Row → Int} (hf : ∀ x, 0 ≤ f x ∧ f x ≤ 300) {l : Rows} (h : ¬ kidSum f l 1 = 0) : (l.length : Int) ≤ 300 := by
 have := kidSum_rng hf l 1 (by omega) (by omega)
 have := this.2.2 h
 omega
theorem f73 (d : Nat) (hd : d ≤ 6) : ∀ {v : Row}, ShL E (E 33) v → Ev fs 73 [.g v, .d (.v (.int .i64 (d : Int)))] (io (valSz d v)) := by
 induction d with
 | zero =>
  intro v h
  obtain ⟨na0, sa1, na2, la3, la4, rfl, pa0, pa1, pa2, pa3, pa4⟩ := I33 h
  refine Ev.of (af := a73) rfl rfl (Evt.congr (fun d n => a73q ..) ?_)
  simp -implicitDefEqProofs only [rdl, Ex.same, Nat.beq, show (((0 : Nat) : Int) == 0) = true from rfl]
  exact Evt.ret
 | succ d ih =>
  intro v h
  have kk := h
  obtain ⟨na0, sa1, na2, la3, la4, rfl, pa0, pa1, pa2, pa3, pa4⟩ := I33 h
  refine Ev.of (af := a73) rfl rfl (Evt.congr (fun d n => a73q ..) ?_)
  have hne : (((d + 1 : Nat) : Int) == 0) = false := by simp; omega
  simp -implicitDefEqProofs only [rdl, Ex.same, Nat.beq, hne]
  have hw : IntKind.i64.wrap (((d + 1 : Nat) : Int) - 1) = (d : Int) := by rw [wrap_i64 (by omega) (by omega)]; omega
  have key : ∀ (k i : Nat), la4.length - i = k → i ≤ la4.length → ∀ acc : Int, 1 ≤ acc → acc ≤ 300 → Evt (fun d' n => l73x0 (TabD fs d') d' n [.v (.int .i64 ((d + 1 : Nat) : Int)), (.b [.v (.int .i64 na0), .v (.string sa1), .v (.int .i64 na2), .fz 1 la3, .fz 5 la4]), .v (.int .i64 acc), .v (.int .i64 (i : Int))]) (if kidSum (valSz d) (la4.drop i) acc = 0 then (.ret, [.v (.int .i64 0)]) else (.exit 0, [(.b [.v (.int .i64 na0), .v (.string sa1), .v (.int .i64 na2), .fz 1 la3, .fz 5 la4]), .v (.int .i64 (kidSum (valSz d) (la4.drop i) acc))])) := by
   intro k
   induction k with
   | zero =>
    intro i hk hi acc h1 h2
    have : i = la4.length := by omega
    subst this
    rw [List.drop_length]
    have hne : ¬ acc = 0 := by omega
    simp only [kidSum, hne, if_false]
    refine ev_succ ⟨0, fun d' n _ _ => ?_⟩
    simp only [l73x0s]
    simp -implicitDefEqProofs only [rdl, Ex.same, Nat.beq, Int.lt_irrefl, decide_false]
   | succ k ihk =>
    intro i hk hi acc h1 h2
    have hlt : i < la4.length := by omega
    have hx := List.getElem?_eq_getElem hlt
    rw [List.drop_eq_getElem_cons hlt]
    generalize la4[i] = x at hx
    have g := pa4.at hx
    have g' := g
    obtain ⟨nx0, sx1, nx2, lx3, lx4, rfl, px0, px1, px2, px3, px4⟩ := I33 g
    refine ev_succ ?_
    simp only [l73x0s]
    simp -implicitDefEqProofs only [rdl, Ex.same, Nat.beq, decide_eq_true (Int.ofNat_lt.2 hlt), dec_nn, look_at hx, wrap_succ hlt pa4.le, hw]
    refine ev_call (ih (by omega) (by assumption)) ?_
    simp -implicitDefEqProofs only [rdl, Ex.same, Nat.beq]
    have hr := valSz_rng d [.v (.int .i64 nx0), .v (.string sx1), .v (.int .i64 nx2), .s 1 lx3, .s 5 lx4]
    generalize hX : ([.v (.int .i64 nx0), .v (.string sx1), .v (.int .i64 nx2), .s 1 lx3, .s 5 lx4] : Row) = X at *
    simp only [kidSum]
    by_cases h0 : valSz d X = 0
    ·simp only [h0, true_or, if_true]
     simp -implicitDefEqProofs only [rdl, Ex.same, Nat.beq, show ((0 : Int) == 0) = true from rfl, beq_f, Bool.not_true]
     exact Evt.ret
    ·simp only [h0, false_or]
     have hwr : IntKind.i64.wrap (acc + valSz d X) = acc + valSz d X := wrap_i64 (by omega) (by omega)
     have hb : (valSz d X == 0) = false := by simp [h0]
     by_cases h3 : acc + valSz d X > 300
     ·simp only [h3, if_true]
      simp -implicitDefEqProofs only [rdl, Ex.same, Nat.beq, hb, beq_f, Bool.not_false, hwr, decide_eq_true h3]
      exact Evt.ret
     ·simp only [h3, if_false]
      simp -implicitDefEqProofs only [rdl, Ex.same, Nat.beq, hb, beq_f, Bool.not_false, hwr, decide_eq_false h3]
      exact ihk (i + 1) (by omega) (by omega) _ (by omega) (by omega)
  have h0 := key la4.length 0 (by omega) (by omega) 1 (by omega) (by omega)
  rw [List.drop_zero] at h0
  refine ev_aft (L := fun d' n => l73x0 (TabD fs d') d' n [.v (.int .i64 ((d + 1 : Nat) : Int)), (.b [.v (.int .i64 na0), .v (.string sa1), .v (.int .i64 na2), .fz 1 la3, .fz 5 la4]), .v (.int .i64 1), .v (.int .i64 0)]) h0 ?_
  simp only [valSz, cN, cT, cR, cE, List.getElem?_cons_zero, List.getElem?_cons_succ]
  by_cases hz : kidSum (valSz d) la4 1 = 0
  ·simp only [hz, if_true, ite_self]
   simp -implicitDefEqProofs only [rdl, Ex.same, Nat.beq]
   exact Evt.ret
  ·have hlen := keys_len (valSz_rng d) hz
   have hkr := kidSum_rng (valSz_rng d) la4 1 (by omega) (by omega)
   simp only [hz, if_false]
   simp -implicitDefEqProofs only [rdl, Ex.same, Nat.beq]
   generalize kidSum (valSz d) la4 1 = K at *
   refine ev_if (fun c1 => ?_) (fun c1 => ?_)
   ·refine ev_if (fun c2 => ?_) (fun c2 => ?_)
    ·refine ev_if (fun c3 => ?_) (fun c3 => ?_)
     ·refine ev_if (fun c4 => ?_) (fun c4 => ?_)
      ·refine ev_call (f110 (by assumption)) ?_
       simp -implicitDefEqProofs only [rdl, Ex.same, Nat.beq, cN, cT, cR, cE, List.getElem?_cons_zero, List.getElem?_cons_succ, Bool.not_false, Bool.not_true, cond_true, cond_false]
       refine ev_if (fun c5 => ?_) (fun c5 => ?_)
       ·exact Evt.ret' (by first | (simp_all [shapeB, bare, namesOk]; done) | (simp_all [shapeB, bare, namesOk]; omega) | (simp_all [shapeB, bare, namesOk]; congr))
       ·exact Evt.ret' (by first | (simp_all [shapeB, bare, namesOk]; done) | (simp_all [shapeB, bare, namesOk]; omega) | (simp_all [shapeB, bare, namesOk]; congr))
      ·exact Evt.ret' (by first | (simp_all [shapeB, bare, namesOk]; done) | (simp_all [shapeB, bare, namesOk]; omega) | (simp_all [shapeB, bare, namesOk]; congr))
     ·exact Evt.ret' (by first | (simp_all [shapeB, bare, namesOk]; done) | (simp_all [shapeB, bare, namesOk]; omega) | (simp_all [shapeB, bare, namesOk]; congr))
    ·refine ev_if (fun c6 => ?_) (fun c6 => ?_)
     ·refine ev_if (fun c7 => ?_) (fun c7 => ?_)
      ·refine ev_if (fun c8 => ?_) (fun c8 => ?_)
       ·exact Evt.ret' (by first | (simp_all [shapeB, bare, namesOk]; done) | (simp_all [shapeB, bare, namesOk]; omega) | (simp_all [shapeB, bare, namesOk]; congr))
       ·exact Evt.ret' (by first | (simp_all [shapeB, bare, namesOk]; done) | (simp_all [shapeB, bare, namesOk]; omega) | (simp_all [shapeB, bare, namesOk]; congr))
      ·exact Evt.ret' (by first | (simp_all [shapeB, bare, namesOk]; done) | (simp_all [shapeB, bare, namesOk]; omega) | (simp_all [shapeB, bare, namesOk]; congr))
     ·refine ev_if (fun c9 => ?_) (fun c9 => ?_)
      ·refine ev_if (fun c10 => ?_) (fun c10 => ?_)
       ·refine ev_if (fun c11 => ?_) (fun c11 => ?_)
        ·refine ev_call (f46 _ _ _) ?_
         simp -implicitDefEqProofs only [rdl, Ex.same, Nat.beq, cN, cT, cR, cE, List.getElem?_cons_zero, List.getElem?_cons_succ, Bool.not_false, Bool.not_true, cond_true, cond_false]
         refine ev_if (fun c12 => ?_) (fun c12 => ?_)
         ·exact Evt.ret' (by first | (simp_all [shapeB, bare, namesOk]; done) | (simp_all [shapeB, bare, namesOk]; omega) | (simp_all [shapeB, bare, namesOk]; congr))
         ·exact Evt.ret' (by first | (simp_all [shapeB, bare, namesOk]; done) | (simp_all [shapeB, bare, namesOk]; omega) | (simp_all [shapeB, bare, namesOk]; congr))
        ·exact Evt.ret' (by first | (simp_all [shapeB, bare, namesOk]; done) | (simp_all [shapeB, bare, namesOk]; omega) | (simp_all [shapeB, bare, namesOk]; congr))
       ·exact Evt.ret' (by first | (simp_all [shapeB, bare, namesOk]; done) | (simp_all [shapeB, bare, namesOk]; omega) | (simp_all [shapeB, bare, namesOk]; congr))
      ·refine ev_if (fun c13 => ?_) (fun c13 => ?_)
       ·refine ev_if (fun c14 => ?_) (fun c14 => ?_)
        ·refine ev_if (fun c15 => ?_) (fun c15 => ?_)
         ·refine ev_if (fun c16 => ?_) (fun c16 => ?_)
          ·exact Evt.ret' (by first | (simp_all [shapeB, bare, namesOk]; done) | (simp_all [shapeB, bare, namesOk]; omega) | (simp_all [shapeB, bare, namesOk]; congr))
          ·exact Evt.ret' (by first | (simp_all [shapeB, bare, namesOk]; done) | (simp_all [shapeB, bare, namesOk]; omega) | (simp_all [shapeB, bare, namesOk]; congr))
         ·exact Evt.ret' (by first | (simp_all [shapeB, bare, namesOk]; done) | (simp_all [shapeB, bare, namesOk]; omega) | (simp_all [shapeB, bare, namesOk]; congr))
        ·exact Evt.ret' (by first | (simp_all [shapeB, bare, namesOk]; done) | (simp_all [shapeB, bare, namesOk]; omega) | (simp_all [shapeB, bare, namesOk]; congr))
       ·refine ev_if (fun c17 => ?_) (fun c17 => ?_)
        ·refine ev_call (f111 kk) ?_
         simp -implicitDefEqProofs only [rdl, Ex.same, Nat.beq, cN, cT, cR, cE, List.getElem?_cons_zero, List.getElem?_cons_succ, Bool.not_false, Bool.not_true, cond_true, cond_false]
         refine ev_if (fun c18 => ?_) (fun c18 => ?_)
         ·refine ev_if (fun c19 => ?_) (fun c19 => ?_)
          ·refine ev_if (fun c20 => ?_) (fun c20 => ?_)
           ·exact Evt.ret' (by first | (simp_all [shapeB, bare, namesOk]; done) | (simp_all [shapeB, bare, namesOk]; omega) | (simp_all [shapeB, bare, namesOk]; congr))
           ·exact Evt.ret' (by first | (simp_all [shapeB, bare, namesOk]; done) | (simp_all [shapeB, bare, namesOk]; omega) | (simp_all [shapeB, bare, namesOk]; congr))
          ·exact Evt.ret' (by first | (simp_all [shapeB, bare, namesOk]; done) | (simp_all [shapeB, bare, namesOk]; omega) | (simp_all [shapeB, bare, namesOk]; congr))
         ·exact Evt.ret' (by first | (simp_all [shapeB, bare, namesOk]; done) | (simp_all [shapeB, bare, namesOk]; omega) | (simp_all [shapeB, bare, namesOk]; congr))
        ·exact Evt.ret' (by first | (simp_all [shapeB, bare, namesOk]; done) | (simp_all [shapeB, bare, namesOk]; omega) | (simp_all [shapeB, bare, namesOk]; congr))
   ·refine ev_if (fun c21 => ?_) (fun c21 => ?_)
    ·exact Evt.ret' (by first | (simp_all [shapeB, bare, namesOk]; done) | (simp_all [shapeB, bare, namesOk]; omega) | (simp_all [shapeB, bare, namesOk]; congr))
    ·refine ev_if (fun c22 => ?_) (fun c22 => ?_)
     ·exact Evt.ret' (by first | (simp_all [shapeB, bare, namesOk]; done) | (simp_all [shapeB, bare, namesOk]; omega) | (simp_all [shapeB, bare, namesOk]; congr))
     ·refine ev_if (fun c23 => ?_) (fun c23 => ?_)
      ·exact Evt.ret' (by first | (simp_all [shapeB, bare, namesOk]; done) | (simp_all [shapeB, bare, namesOk]; omega) | (simp_all [shapeB, bare, namesOk]; congr))
      ·refine ev_if (fun c24 => ?_) (fun c24 => ?_)
       ·refine ev_if (fun c25 => ?_) (fun c25 => ?_)
        ·refine ev_if (fun c26 => ?_) (fun c26 => ?_)
         ·refine ev_if (fun c27 => ?_) (fun c27 => ?_)
          ·exact Evt.ret' (by first | (simp_all [shapeB, bare, namesOk]; done) | (simp_all [shapeB, bare, namesOk]; omega) | (simp_all [shapeB, bare, namesOk]; congr))
          ·exact Evt.ret' (by first | (simp_all [shapeB, bare, namesOk]; done) | (simp_all [shapeB, bare, namesOk]; omega) | (simp_all [shapeB, bare, namesOk]; congr))
         ·exact Evt.ret' (by first | (simp_all [shapeB, bare, namesOk]; done) | (simp_all [shapeB, bare, namesOk]; omega) | (simp_all [shapeB, bare, namesOk]; congr))
        ·exact Evt.ret' (by first | (simp_all [shapeB, bare, namesOk]; done) | (simp_all [shapeB, bare, namesOk]; omega) | (simp_all [shapeB, bare, namesOk]; congr))
       ·refine ev_if (fun c28 => ?_) (fun c28 => ?_)
        ·refine ev_call (f111 kk) ?_
         simp -implicitDefEqProofs only [rdl, Ex.same, Nat.beq, cN, cT, cR, cE, List.getElem?_cons_zero, List.getElem?_cons_succ, Bool.not_false, Bool.not_true, cond_true, cond_false]
         refine ev_if (fun c29 => ?_) (fun c29 => ?_)
         ·refine ev_if (fun c30 => ?_) (fun c30 => ?_)
          ·refine ev_if (fun c31 => ?_) (fun c31 => ?_)
           ·exact Evt.ret' (by first | (simp_all [shapeB, bare, namesOk]; done) | (simp_all [shapeB, bare, namesOk]; omega) | (simp_all [shapeB, bare, namesOk]; congr))
           ·exact Evt.ret' (by first | (simp_all [shapeB, bare, namesOk]; done) | (simp_all [shapeB, bare, namesOk]; omega) | (simp_all [shapeB, bare, namesOk]; congr))
          ·exact Evt.ret' (by first | (simp_all [shapeB, bare, namesOk]; done) | (simp_all [shapeB, bare, namesOk]; omega) | (simp_all [shapeB, bare, namesOk]; congr))
         ·exact Evt.ret' (by first | (simp_all [shapeB, bare, namesOk]; done) | (simp_all [shapeB, bare, namesOk]; omega) | (simp_all [shapeB, bare, namesOk]; congr))
        ·exact Evt.ret' (by first | (simp_all [shapeB, bare, namesOk]; done) | (simp_all [shapeB, bare, namesOk]; omega) | (simp_all [shapeB, bare, namesOk]; congr))
theorem f40 {v : Row} (h : ShL E (E 33) v) : Ev fs 40 [.g v] (bo (valueOk v)) := by
 have kk := h
 obtain ⟨na0, sa1, na2, la3, la4, rfl, pa0, pa1, pa2, pa3, pa4⟩ := I33 h
 refine Ev.of (af := a40) rfl rfl (Evt.congr (fun d n => a40q ..) ?_)
 refine ev_call (f73 6 (by omega) kk) ?_
 simp -implicitDefEqProofs only [rdl, Ex.same, Nat.beq]
 exact Evt.ret
end Go.Am.Pp
