/- What the functions say that look whether names and values are right. Nothing is assumed. -/
import Derived.Test.YtmgeoejefnablaaGreatDoorPmH
namespace Go.Am.Pm
set_option linter.unusedVariables false
set_option linter.unusedSimpArgs false
set_option maxRecDepth 8000
theorem f21 (n lo hi : Int) : Ev fs 21 [.d (.v (.int .i64 n)), .d (.v (.int .i64 lo)), .d (.v (.int .i64 hi))] (bo (inB n lo hi)) := by
 refine Ev.of (af := a21) rfl rfl (Evt.congr (fun d n => D3p ..) ?_)
 refine D6 (fun c1 => ?_) (fun c1 => ?_)
 ·exact Evt.ret' (by first | (simp_all [inB]; done) | (simp_all [inB]; omega) | (simp_all [inB]; congr))
 ·exact Evt.ret' (by first | (simp_all [inB]; done) | (simp_all [inB]; omega) | (simp_all [inB]; congr))
theorem f25 (n lo hi : Int) : Ev fs 25 [.d (.v (.int .i64 n)), .d (.v (.int .i64 lo)), .d (.v (.int .i64 hi))] (bo (inB n lo hi)) := by
 refine Ev.of (af := a25) rfl rfl (Evt.congr (fun d n => D3b ..) ?_)
 refine D6 (fun c1 => ?_) (fun c1 => ?_)
 ·exact Evt.ret' (by first | (simp_all [inB]; done) | (simp_all [inB]; omega) | (simp_all [inB]; congr))
 ·exact Evt.ret' (by first | (simp_all [inB]; done) | (simp_all [inB]; omega) | (simp_all [inB]; congr))
theorem f54 (n : Int) : Ev fs 54 [.d (.v (.int .i64 n))] (bo (inB n 0 10000)) := by
 refine Ev.of (af := a54) rfl rfl (Evt.congr (fun d n => D3d ..) ?_)
 refine A7 (f25 _ _ _) ?_
 simp -implicitDefEqProofs only [rdl, Ex.same, Nat.beq]
 exact Evt.ret
theorem f20 {s : ByteArray} (hs : s.size ≤ maxLen) : Ev fs 20 [.d (.v (.string s))] (bo (O3 s)) := by
 refine Ev.of (af := a20) rfl rfl (Evt.congr (fun d n => D3q ..) ?_)
 refine I4 (L := fun d n => B1e (TabD fs d) d n [(.v (.string s)), (.v (.int .i64 0))]) (A03 (L := fun d n i => B1e (TabD fs d) d n [(.v (.string s)), (.v (.int .i64 i))]) (n := s.size) (p := fun i => I5 (s.toList[i]?.getD 0)) (y := (.exit 0, [.v (.string s)])) (z := (.ret, [.v (.bool false)])) (fun d m => ?_) (fun i hi => ?_)) ?_
 ·rw [C4d]
  simp -implicitDefEqProofs only [rdl, Ex.same, Nat.beq, Int.lt_irrefl, decide_false]
 ·obtain ⟨b, hb⟩ := Q7 hi
  have hw := G7 hi hs
  simp only [C4d, hb, Option.getD_some]
  simp -implicitDefEqProofs only [rdl, Ex.same, Nat.beq, decide_eq_true (Int.ofNat_lt.2 hi), F3, I1 hb, hw, A0c]
  intro res k k'
  refine A7 (f21 _ _ _) ?_
  simp -implicitDefEqProofs only [rdl, Ex.same, Nat.beq, F3, I1 hb, A0c, Bool.not_false, Bool.not_true, cond_true, cond_false]
  refine D6 (fun c1 => ?_) (fun c1 => ?_)
  ·refine A7 (f21 _ _ _) ?_
   simp -implicitDefEqProofs only [rdl, Ex.same, Nat.beq, F3, I1 hb, A0c, Bool.not_false, Bool.not_true, cond_true, cond_false]
   refine D6 (fun c2 => ?_) (fun c2 => ?_)
   ·refine D6 (fun c3 => ?_) (fun c3 => ?_)
    ·exact Evt.ret' (k' (by first | (simp_all [I5, inB]; done) | (simp_all [I5, inB]; omega) | (simp_all [I5, inB]; congr)))
    ·exact k (by first | (simp_all [I5, inB]; done) | (simp_all [I5, inB]; omega) | (simp_all [I5, inB]; congr))
   ·exact k (by first | (simp_all [I5, inB]; done) | (simp_all [I5, inB]; omega) | (simp_all [I5, inB]; congr))
  ·exact k (by first | (simp_all [I5, inB]; done) | (simp_all [I5, inB]; omega) | (simp_all [I5, inB]; congr))
 ·cases hq : A1t s.size (fun i => I5 (s.toList[i]?.getD 0)) with
  | false =>
   simp -implicitDefEqProofs only [rdl, Ex.same, Nat.beq]
   exact Evt.ret' (by simp [O3, hq])
  | true =>
   simp -implicitDefEqProofs only [rdl, Ex.same, Nat.beq]
   refine A7 (f21 _ _ _) ?_
   simp -implicitDefEqProofs only [rdl, Ex.same, Nat.beq]
   refine D6 (fun c1 => ?_) (fun c1 => ?_)
   ·have c1' : inB (s.size : Int) 1 20 = true := by simpa using c1
    have hs0 : 0 < s.size := by simp [inB] at c1'; omega
    obtain ⟨b0, hb0⟩ := Q7 hs0
    obtain ⟨b1, hb1⟩ := Q7 (s := s) (i := s.size - 1) (by omega)
    have hp : IntKind.i64.wrap ((s.size : Int) - 1) = ((s.size - 1 : Nat) : Int) := by
     rw [wrap_i64 (by omega) (by simp only [maxLen] at hs; omega)]
     omega
    simp -implicitDefEqProofs only [rdl, Ex.same, Nat.beq, show decide ((0 : Nat) ≤ 0) = true from rfl, show decide ((0 : Int) ≤ 0) = true from rfl, show Int.toNat 0 = 0 from rfl, I1 hb0, hp, F3, I1 hb1]
    refine D6 (fun c2 => ?_) (fun c2 => ?_)
    ·exact Evt.ret' (by simp_all [O3, byteOf])
    ·exact Evt.ret' (by simp_all [O3, byteOf])
   ·exact Evt.ret' (by simp_all [O3])
theorem f24 {s : ByteArray} (hs : s.size ≤ maxLen) : Ev fs 24 [.d (.v (.string s))] (bo (O3 s)) := by
 refine Ev.of (af := a24) rfl rfl (Evt.congr (fun d n => D3c ..) ?_)
 refine I4 (L := fun d n => A5a (TabD fs d) d n [(.v (.string s)), (.v (.int .i64 (s.size : Int))), (.v (.int .i64 0))]) (A03 (L := fun d n i => A5a (TabD fs d) d n [(.v (.string s)), (.v (.int .i64 (s.size : Int))), (.v (.int .i64 i))]) (n := s.size) (p := fun i => I5 (s.toList[i]?.getD 0)) (y := (.exit 0, [.v (.string s)])) (z := (.ret, [.v (.bool false)])) (fun d m => ?_) (fun i hi => ?_)) ?_
 ·rw [C42]
  simp -implicitDefEqProofs only [rdl, Ex.same, Nat.beq, Int.lt_irrefl, decide_false]
 ·obtain ⟨b, hb⟩ := Q7 hi
  have hw := G7 hi hs
  simp only [C42, hb, Option.getD_some]
  simp -implicitDefEqProofs only [rdl, Ex.same, Nat.beq, decide_eq_true (Int.ofNat_lt.2 hi), F3, I1 hb, hw, A0c]
  intro res k k'
  refine D6 (fun c1 => ?_) (fun c1 => ?_)
  ·refine D6 (fun c2 => ?_) (fun c2 => ?_)
   ·refine D6 (fun c3 => ?_) (fun c3 => ?_)
    ·refine D6 (fun c4 => ?_) (fun c4 => ?_)
     ·refine D6 (fun c5 => ?_) (fun c5 => ?_)
      ·exact Evt.ret' (k' (by first | (simp_all [I5, inB]; done) | (simp_all [I5, inB]; omega) | (simp_all [I5, inB]; congr)))
      ·exact k (by first | (simp_all [I5, inB]; done) | (simp_all [I5, inB]; omega) | (simp_all [I5, inB]; congr))
     ·exact k (by first | (simp_all [I5, inB]; done) | (simp_all [I5, inB]; omega) | (simp_all [I5, inB]; congr))
    ·refine D6 (fun c6 => ?_) (fun c6 => ?_)
     ·exact Evt.ret' (k' (by first | (simp_all [I5, inB]; done) | (simp_all [I5, inB]; omega) | (simp_all [I5, inB]; congr)))
     ·exact k (by first | (simp_all [I5, inB]; done) | (simp_all [I5, inB]; omega) | (simp_all [I5, inB]; congr))
   ·exact k (by first | (simp_all [I5, inB]; done) | (simp_all [I5, inB]; omega) | (simp_all [I5, inB]; congr))
  ·refine D6 (fun c7 => ?_) (fun c7 => ?_)
   ·refine D6 (fun c8 => ?_) (fun c8 => ?_)
    ·refine D6 (fun c9 => ?_) (fun c9 => ?_)
     ·exact Evt.ret' (k' (by first | (simp_all [I5, inB]; done) | (simp_all [I5, inB]; omega) | (simp_all [I5, inB]; congr)))
     ·exact k (by first | (simp_all [I5, inB]; done) | (simp_all [I5, inB]; omega) | (simp_all [I5, inB]; congr))
    ·exact k (by first | (simp_all [I5, inB]; done) | (simp_all [I5, inB]; omega) | (simp_all [I5, inB]; congr))
   ·refine D6 (fun c10 => ?_) (fun c10 => ?_)
    ·exact Evt.ret' (k' (by first | (simp_all [I5, inB]; done) | (simp_all [I5, inB]; omega) | (simp_all [I5, inB]; congr)))
    ·exact k (by first | (simp_all [I5, inB]; done) | (simp_all [I5, inB]; omega) | (simp_all [I5, inB]; congr))
 ·cases hq : A1t s.size (fun i => I5 (s.toList[i]?.getD 0)) with
  | false =>
   simp -implicitDefEqProofs only [rdl, Ex.same, Nat.beq]
   exact Evt.ret' (by simp [O3, hq])
  | true =>
   simp -implicitDefEqProofs only [rdl, Ex.same, Nat.beq]
   refine A7 (f25 _ _ _) ?_
   simp -implicitDefEqProofs only [rdl, Ex.same, Nat.beq]
   refine D6 (fun c1 => ?_) (fun c1 => ?_)
   ·have c1' : inB (s.size : Int) 1 20 = true := by simpa using c1
    have hs0 : 0 < s.size := by simp [inB] at c1'; omega
    obtain ⟨b0, hb0⟩ := Q7 hs0
    obtain ⟨b1, hb1⟩ := Q7 (s := s) (i := s.size - 1) (by omega)
    have hp : IntKind.i64.wrap ((s.size : Int) - 1) = ((s.size - 1 : Nat) : Int) := by
     rw [wrap_i64 (by omega) (by simp only [maxLen] at hs; omega)]
     omega
    simp -implicitDefEqProofs only [rdl, Ex.same, Nat.beq, show decide ((0 : Nat) ≤ 0) = true from rfl, show decide ((0 : Int) ≤ 0) = true from rfl, show Int.toNat 0 = 0 from rfl, I1 hb0, hp, F3, I1 hb1]
    refine D6 (fun c2 => ?_) (fun c2 => ?_)
    ·exact Evt.ret' (by simp_all [O3, byteOf])
    ·exact Evt.ret' (by simp_all [O3, byteOf])
   ·exact Evt.ret' (by simp_all [O3])
theorem f132 {l : Rows} (hl : SL E 9 l) (u : Int) : Ev fs 132 [.d (.s 1 l), .d (.v (.int .i64 u))] (bo (D5 l u)) := by
 refine Ev.of (af := D0k) rfl rfl (Evt.congr (fun d n => D21 ..) ?_)
 refine I4 (L := fun d n => A8j (TabD fs d) d n [(.fz 1 l), (.v (.int .i64 u)), (.fz 1 l), (.v (.int .i64 (l.length : Int))), (.v (.int .i64 0))]) (A03 (L := fun d n i => A8j (TabD fs d) d n [(.fz 1 l), (.v (.int .i64 u)), (.fz 1 l), (.v (.int .i64 (l.length : Int))), (.v (.int .i64 i))]) (n := l.length) (p := fun i => O3 (cT (J4 l i) 0) && chain (upT 0) l i) (y := (.exit 0, [(.fz 1 l), (.v (.int .i64 u))])) (z := (.ret, [.v (.bool false)])) (fun d m => ?_) (fun i hi => ?_)) ?_
 ·rw [C05]
  simp -implicitDefEqProofs only [rdl, Ex.same, Nat.beq, Int.lt_irrefl, decide_false]
 ·have hx := List.getElem?_eq_getElem hi
  generalize l[i] = x at hx
  have h := hl.at hx
  have hw := G7 hi hl.le
  obtain ⟨sx0, rfl, px0⟩ := I9 h
  simp only [C05, J4, hx, Option.getD_some, cN, cT, cR, cE, List.getElem?_cons_zero, List.getElem?_cons_succ, List.drop_succ_cons, List.drop_zero]
  cases i with
  | zero =>
   simp -implicitDefEqProofs only [rdl, Ex.same, Nat.beq, decide_eq_true (Int.ofNat_lt.2 hi), F3, C9 hx, hw, O5]
   simp only [chain]
   intro res k k'
   refine A7 (f24 (by assumption)) ?_
   simp -implicitDefEqProofs only [rdl, Ex.same, Nat.beq, F3, C9 hx, O5, Bool.not_false, Bool.not_true, cond_true, cond_false]
   refine D6 (fun c1 => ?_) (fun c1 => ?_)
   ·exact k (by first | (simp_all [inB, upT, upN, cN, cT, cR]; done) | (simp_all [inB, upT, upN, cN, cT, cR]; omega) | (simp_all [inB, upT, upN, cN, cT, cR]; congr))
   ·exact Evt.ret' (k' (by first | (simp_all [inB, upT, upN, cN, cT, cR]; done) | (simp_all [inB, upT, upN, cN, cT, cR]; omega) | (simp_all [inB, upT, upN, cN, cT, cR]; congr)))
  | succ j =>
   have hy := List.getElem?_eq_getElem (show j < l.length by omega)
   generalize l[j] = y at hy
   have hj := hl.at hy
   have hp := A1y (j := j) (by have := hl.le; omega)
   obtain ⟨sy0, rfl, py0⟩ := I9 hj
   simp only [chain, J4, hx, hy, Option.getD_some, cN, cT, cR, cE, List.getElem?_cons_zero, List.getElem?_cons_succ]
   simp -implicitDefEqProofs only [rdl, Ex.same, Nat.beq, decide_eq_true (Int.ofNat_lt.2 hi), F3, C9 hx, C9 hy, hw, hp, O4]
   intro res k k'
   refine A7 (f24 (by assumption)) ?_
   simp -implicitDefEqProofs only [rdl, Ex.same, Nat.beq, F3, C9 hx, C9 hy, hp, O4, Bool.not_false, Bool.not_true, cond_true, cond_false]
   refine D6 (fun c1 => ?_) (fun c1 => ?_)
   ·refine D6 (fun c2 => ?_) (fun c2 => ?_)
    ·exact Evt.ret' (k' (by first | (simp_all [inB, upT, upN, cN, cT, cR]; done) | (simp_all [inB, upT, upN, cN, cT, cR]; omega) | (simp_all [inB, upT, upN, cN, cT, cR]; congr)))
    ·exact k (by first | (simp_all [inB, upT, upN, cN, cT, cR]; done) | (simp_all [inB, upT, upN, cN, cT, cR]; omega) | (simp_all [inB, upT, upN, cN, cT, cR]; congr))
   ·exact Evt.ret' (k' (by first | (simp_all [inB, upT, upN, cN, cT, cR]; done) | (simp_all [inB, upT, upN, cN, cT, cR]; omega) | (simp_all [inB, upT, upN, cN, cT, cR]; congr)))
 ·cases hq : A1t l.length (fun i => O3 (cT (J4 l i) 0) && chain (upT 0) l i) with
  | false =>
   simp -implicitDefEqProofs only [rdl, Ex.same, Nat.beq]
   exact Evt.ret' (by simp [D5, A7n, hq])
  | true =>
   simp -implicitDefEqProofs only [rdl, Ex.same, Nat.beq]
   exact Evt.ret' (by simp [D5, A7n, hq])
theorem f22 {l : Rows} (hl : SL E 42 l) (lo : Int) : Ev fs 22 [.d (.s 2 l), .d (.v (.int .i64 lo))] (bo (Z7 lo l)) := by
 refine Ev.of (af := a22) rfl rfl (Evt.congr (fun d n => D3r ..) ?_)
 refine I4 (L := fun d n => B33 (TabD fs d) d n [(.fz 2 l), (.v (.int .i64 lo)), (.v (.int .i64 0))]) (A03 (L := fun d n i => B33 (TabD fs d) d n [(.fz 2 l), (.v (.int .i64 lo)), (.v (.int .i64 i))]) (n := l.length) (p := fun i => inB (cN (J4 l i) 0) 1 1000000 && (inB (cN (J4 l i) 1) lo 10000 && chain (upN 0) l i)) (y := (.exit 0, [(.fz 2 l)])) (z := (.ret, [.v (.bool false)])) (fun d m => ?_) (fun i hi => ?_)) ?_
 ·rw [C4e]
  simp -implicitDefEqProofs only [rdl, Ex.same, Nat.beq, Int.lt_irrefl, decide_false]
 ·have hx := List.getElem?_eq_getElem hi
  generalize l[i] = x at hx
  have h := hl.at hx
  have hw := G7 hi hl.le
  obtain ⟨nx0, nx1, rfl, px0, px1⟩ := I42 h
  simp only [C4e, J4, hx, Option.getD_some, cN, cT, cR, cE, List.getElem?_cons_zero, List.getElem?_cons_succ, List.drop_succ_cons, List.drop_zero]
  cases i with
  | zero =>
   simp -implicitDefEqProofs only [rdl, Ex.same, Nat.beq, decide_eq_true (Int.ofNat_lt.2 hi), F3, C9 hx, hw, O5]
   simp only [chain]
   intro res k k'
   refine A7 (f21 _ _ _) ?_
   simp -implicitDefEqProofs only [rdl, Ex.same, Nat.beq, F3, C9 hx, O5, Bool.not_false, Bool.not_true, cond_true, cond_false]
   refine D6 (fun c1 => ?_) (fun c1 => ?_)
   ·refine A7 (f21 _ _ _) ?_
    simp -implicitDefEqProofs only [rdl, Ex.same, Nat.beq, F3, C9 hx, O5, Bool.not_false, Bool.not_true, cond_true, cond_false]
    refine D6 (fun c2 => ?_) (fun c2 => ?_)
    ·exact k (by first | (simp_all [inB, upT, upN, cN, cT, cR]; done) | (simp_all [inB, upT, upN, cN, cT, cR]; omega) | (simp_all [inB, upT, upN, cN, cT, cR]; congr))
    ·exact Evt.ret' (k' (by first | (simp_all [inB, upT, upN, cN, cT, cR]; done) | (simp_all [inB, upT, upN, cN, cT, cR]; omega) | (simp_all [inB, upT, upN, cN, cT, cR]; congr)))
   ·exact Evt.ret' (k' (by first | (simp_all [inB, upT, upN, cN, cT, cR]; done) | (simp_all [inB, upT, upN, cN, cT, cR]; omega) | (simp_all [inB, upT, upN, cN, cT, cR]; congr)))
  | succ j =>
   have hy := List.getElem?_eq_getElem (show j < l.length by omega)
   generalize l[j] = y at hy
   have hj := hl.at hy
   have hp := A1y (j := j) (by have := hl.le; omega)
   obtain ⟨ny0, ny1, rfl, py0, py1⟩ := I42 hj
   simp only [chain, J4, hx, hy, Option.getD_some, cN, cT, cR, cE, List.getElem?_cons_zero, List.getElem?_cons_succ]
   simp -implicitDefEqProofs only [rdl, Ex.same, Nat.beq, decide_eq_true (Int.ofNat_lt.2 hi), F3, C9 hx, C9 hy, hw, hp, O4]
   intro res k k'
   refine A7 (f21 _ _ _) ?_
   simp -implicitDefEqProofs only [rdl, Ex.same, Nat.beq, F3, C9 hx, C9 hy, hp, O4, Bool.not_false, Bool.not_true, cond_true, cond_false]
   refine D6 (fun c1 => ?_) (fun c1 => ?_)
   ·refine A7 (f21 _ _ _) ?_
    simp -implicitDefEqProofs only [rdl, Ex.same, Nat.beq, F3, C9 hx, C9 hy, hp, O4, Bool.not_false, Bool.not_true, cond_true, cond_false]
    refine D6 (fun c2 => ?_) (fun c2 => ?_)
    ·refine D6 (fun c3 => ?_) (fun c3 => ?_)
     ·exact Evt.ret' (k' (by first | (simp_all [inB, upT, upN, cN, cT, cR]; done) | (simp_all [inB, upT, upN, cN, cT, cR]; omega) | (simp_all [inB, upT, upN, cN, cT, cR]; congr)))
     ·exact k (by first | (simp_all [inB, upT, upN, cN, cT, cR]; done) | (simp_all [inB, upT, upN, cN, cT, cR]; omega) | (simp_all [inB, upT, upN, cN, cT, cR]; congr))
    ·exact Evt.ret' (k' (by first | (simp_all [inB, upT, upN, cN, cT, cR]; done) | (simp_all [inB, upT, upN, cN, cT, cR]; omega) | (simp_all [inB, upT, upN, cN, cT, cR]; congr)))
   ·exact Evt.ret' (k' (by first | (simp_all [inB, upT, upN, cN, cT, cR]; done) | (simp_all [inB, upT, upN, cN, cT, cR]; omega) | (simp_all [inB, upT, upN, cN, cT, cR]; congr)))
 ·cases hq : A1t l.length (fun i => inB (cN (J4 l i) 0) 1 1000000 && (inB (cN (J4 l i) 1) lo 10000 && chain (upN 0) l i)) with
  | false =>
   simp -implicitDefEqProofs only [rdl, Ex.same, Nat.beq]
   exact Evt.ret' (by simp [Z7, hq])
  | true =>
   simp -implicitDefEqProofs only [rdl, Ex.same, Nat.beq]
   exact Evt.ret' (by simp [Z7, hq])
theorem f26 {l : Rows} (hl : SL E 42 l) : Ev fs 26 [.d (.s 2 l)] (bo (Z7 0 l)) := by
 refine Ev.of (af := a26) rfl rfl (Evt.congr (fun d n => D3e ..) ?_)
 refine I4 (L := fun d n => B30 (TabD fs d) d n [(.fz 2 l), (.fz 2 l), (.v (.int .i64 (l.length : Int))), (.v (.int .i64 0))]) (A03 (L := fun d n i => B30 (TabD fs d) d n [(.fz 2 l), (.fz 2 l), (.v (.int .i64 (l.length : Int))), (.v (.int .i64 i))]) (n := l.length) (p := fun i => inB (cN (J4 l i) 0) 1 1000000 && (inB (cN (J4 l i) 1) 0 10000 && chain (upN 0) l i)) (y := (.exit 0, [(.fz 2 l)])) (z := (.ret, [.v (.bool false)])) (fun d m => ?_) (fun i hi => ?_)) ?_
 ·rw [C43]
  simp -implicitDefEqProofs only [rdl, Ex.same, Nat.beq, Int.lt_irrefl, decide_false]
 ·have hx := List.getElem?_eq_getElem hi
  generalize l[i] = x at hx
  have h := hl.at hx
  have hw := G7 hi hl.le
  obtain ⟨nx0, nx1, rfl, px0, px1⟩ := I42 h
  simp only [C43, J4, hx, Option.getD_some, cN, cT, cR, cE, List.getElem?_cons_zero, List.getElem?_cons_succ, List.drop_succ_cons, List.drop_zero]
  cases i with
  | zero =>
   simp -implicitDefEqProofs only [rdl, Ex.same, Nat.beq, decide_eq_true (Int.ofNat_lt.2 hi), F3, C9 hx, hw, O5]
   simp only [chain]
   intro res k k'
   refine A7 (f25 _ _ _) ?_
   simp -implicitDefEqProofs only [rdl, Ex.same, Nat.beq, F3, C9 hx, O5, Bool.not_false, Bool.not_true, cond_true, cond_false]
   refine D6 (fun c1 => ?_) (fun c1 => ?_)
   ·refine A7 (f54 _) ?_
    simp -implicitDefEqProofs only [rdl, Ex.same, Nat.beq, F3, C9 hx, O5, Bool.not_false, Bool.not_true, cond_true, cond_false]
    refine D6 (fun c2 => ?_) (fun c2 => ?_)
    ·exact k (by first | (simp_all [inB, upT, upN, cN, cT, cR]; done) | (simp_all [inB, upT, upN, cN, cT, cR]; omega) | (simp_all [inB, upT, upN, cN, cT, cR]; congr))
    ·exact Evt.ret' (k' (by first | (simp_all [inB, upT, upN, cN, cT, cR]; done) | (simp_all [inB, upT, upN, cN, cT, cR]; omega) | (simp_all [inB, upT, upN, cN, cT, cR]; congr)))
   ·exact Evt.ret' (k' (by first | (simp_all [inB, upT, upN, cN, cT, cR]; done) | (simp_all [inB, upT, upN, cN, cT, cR]; omega) | (simp_all [inB, upT, upN, cN, cT, cR]; congr)))
  | succ j =>
   have hy := List.getElem?_eq_getElem (show j < l.length by omega)
   generalize l[j] = y at hy
   have hj := hl.at hy
   have hp := A1y (j := j) (by have := hl.le; omega)
   obtain ⟨ny0, ny1, rfl, py0, py1⟩ := I42 hj
   simp only [chain, J4, hx, hy, Option.getD_some, cN, cT, cR, cE, List.getElem?_cons_zero, List.getElem?_cons_succ]
   simp -implicitDefEqProofs only [rdl, Ex.same, Nat.beq, decide_eq_true (Int.ofNat_lt.2 hi), F3, C9 hx, C9 hy, hw, hp, O4]
   intro res k k'
   refine A7 (f25 _ _ _) ?_
   simp -implicitDefEqProofs only [rdl, Ex.same, Nat.beq, F3, C9 hx, C9 hy, hp, O4, Bool.not_false, Bool.not_true, cond_true, cond_false]
   refine D6 (fun c1 => ?_) (fun c1 => ?_)
   ·refine A7 (f54 _) ?_
    simp -implicitDefEqProofs only [rdl, Ex.same, Nat.beq, F3, C9 hx, C9 hy, hp, O4, Bool.not_false, Bool.not_true, cond_true, cond_false]
    refine D6 (fun c2 => ?_) (fun c2 => ?_)
    ·refine D6 (fun c3 => ?_) (fun c3 => ?_)
     ·exact Evt.ret' (k' (by first | (simp_all [inB, upT, upN, cN, cT, cR]; done) | (simp_all [inB, upT, upN, cN, cT, cR]; omega) | (simp_all [inB, upT, upN, cN, cT, cR]; congr)))
     ·exact k (by first | (simp_all [inB, upT, upN, cN, cT, cR]; done) | (simp_all [inB, upT, upN, cN, cT, cR]; omega) | (simp_all [inB, upT, upN, cN, cT, cR]; congr))
    ·exact Evt.ret' (k' (by first | (simp_all [inB, upT, upN, cN, cT, cR]; done) | (simp_all [inB, upT, upN, cN, cT, cR]; omega) | (simp_all [inB, upT, upN, cN, cT, cR]; congr)))
   ·exact Evt.ret' (k' (by first | (simp_all [inB, upT, upN, cN, cT, cR]; done) | (simp_all [inB, upT, upN, cN, cT, cR]; omega) | (simp_all [inB, upT, upN, cN, cT, cR]; congr)))
 ·cases hq : A1t l.length (fun i => inB (cN (J4 l i) 0) 1 1000000 && (inB (cN (J4 l i) 1) 0 10000 && chain (upN 0) l i)) with
  | false =>
   simp -implicitDefEqProofs only [rdl, Ex.same, Nat.beq]
   exact Evt.ret' (by simp [Z7, hq])
  | true =>
   simp -implicitDefEqProofs only [rdl, Ex.same, Nat.beq]
   exact Evt.ret' (by simp [Z7, hq])
theorem f112 {s : ByteArray} (hs : s.size ≤ maxLen) : Ev fs 112 [.d (.v (.string s))] (bo (F5 s)) := by
 refine Ev.of (af := D0o) rfl rfl (Evt.congr (fun d n => D2d ..) ?_)
 refine I4 (L := fun d n => B1f (TabD fs d) d n [(.v (.string s)), (.v (.int .i64 0))]) (A03 (L := fun d n i => B1f (TabD fs d) d n [(.v (.string s)), (.v (.int .i64 i))]) (n := s.size) (p := fun i => inB (byteOf s i) 32 126) (y := (.exit 0, [.v (.string s)])) (z := (.ret, [.v (.bool false)])) (fun d m => ?_) (fun i hi => ?_)) ?_
 ·rw [C07]
  simp -implicitDefEqProofs only [rdl, Ex.same, Nat.beq, Int.lt_irrefl, decide_false]
 ·obtain ⟨b, hb⟩ := Q7 hi
  have hw := G7 hi hs
  simp only [C07, byteOf, hb, Option.getD_some]
  simp -implicitDefEqProofs only [rdl, Ex.same, Nat.beq, decide_eq_true (Int.ofNat_lt.2 hi), F3, I1 hb, hw, A0c]
  intro res k k'
  refine A7 (f21 _ _ _) ?_
  simp -implicitDefEqProofs only [rdl, Ex.same, Nat.beq, F3, I1 hb, A0c, Bool.not_false, Bool.not_true, cond_true, cond_false]
  refine D6 (fun c1 => ?_) (fun c1 => ?_)
  ·exact Evt.ret' (k' (by first | (simp_all [inB]; done) | (simp_all [inB]; omega) | (simp_all [inB]; congr)))
  ·exact k (by first | (simp_all [inB]; done) | (simp_all [inB]; omega) | (simp_all [inB]; congr))
 ·cases hq : A1t s.size (fun i => inB (byteOf s i) 32 126) with
  | false =>
   simp -implicitDefEqProofs only [rdl, Ex.same, Nat.beq]
   exact Evt.ret' (by simp [F5, hq])
  | true =>
   simp -implicitDefEqProofs only [rdl, Ex.same, Nat.beq]
   exact Evt.ret' (by simp [F5, hq])
theorem f113 {v : Row} (h : ShL E (E 46) v) : Ev fs 113 [.g v] (bo (A7n (cR v 3) && (((cR v 3).length : Int) == ((cR v 4).length : Int)))) := by
 obtain ⟨na0, sa1, na2, la3, la4, rfl, pa0, pa1, pa2, pa3, pa4⟩ := I46 h
 simp only [cN, cT, cR, cE, List.getElem?_cons_zero, List.getElem?_cons_succ]
 refine Ev.of (af := D0p) rfl rfl (Evt.congr (fun d n => D2e ..) ?_)
 refine I4 (L := fun d n => A8m (TabD fs d) d n [(.b [(.v (.int .i64 na0)), (.v (.string sa1)), (.v (.int .i64 na2)), (.fz 1 la3), (.fz 5 la4)]), (.v (.int .i64 0))]) (A03 (L := fun d n i => A8m (TabD fs d) d n [(.b [(.v (.int .i64 na0)), (.v (.string sa1)), (.v (.int .i64 na2)), (.fz 1 la3), (.fz 5 la4)]), (.v (.int .i64 i))]) (n := la3.length) (p := fun i => O3 (cT (J4 la3 i) 0) && chain (upT 0) la3 i) (y := (.exit 0, [(.b [(.v (.int .i64 na0)), (.v (.string sa1)), (.v (.int .i64 na2)), (.fz 1 la3), (.fz 5 la4)])])) (z := (.ret, [.v (.bool false)])) (fun d m => ?_) (fun i hi => ?_)) ?_
 ·rw [C08]
  simp -implicitDefEqProofs only [rdl, Ex.same, Nat.beq, Int.lt_irrefl, decide_false]
 ·have hx := List.getElem?_eq_getElem hi
  generalize la3[i] = x at hx
  have h := pa3.at hx
  have hw := G7 hi pa3.le
  obtain ⟨sx0, rfl, px0⟩ := I9 h
  simp only [C08, J4, hx, Option.getD_some, cN, cT, cR, cE, List.getElem?_cons_zero, List.getElem?_cons_succ, List.drop_succ_cons, List.drop_zero]
  cases i with
  | zero =>
   simp -implicitDefEqProofs only [rdl, Ex.same, Nat.beq, decide_eq_true (Int.ofNat_lt.2 hi), F3, C9 hx, hw, O5]
   simp only [chain]
   intro res k k'
   refine A7 (f20 (by assumption)) ?_
   simp -implicitDefEqProofs only [rdl, Ex.same, Nat.beq, F3, C9 hx, O5, Bool.not_false, Bool.not_true, cond_true, cond_false]
   refine D6 (fun c1 => ?_) (fun c1 => ?_)
   ·exact k (by first | (simp_all [inB, upT, upN, cN, cT, cR]; done) | (simp_all [inB, upT, upN, cN, cT, cR]; omega) | (simp_all [inB, upT, upN, cN, cT, cR]; congr))
   ·exact Evt.ret' (k' (by first | (simp_all [inB, upT, upN, cN, cT, cR]; done) | (simp_all [inB, upT, upN, cN, cT, cR]; omega) | (simp_all [inB, upT, upN, cN, cT, cR]; congr)))
  | succ j =>
   have hy := List.getElem?_eq_getElem (show j < la3.length by omega)
   generalize la3[j] = y at hy
   have hj := pa3.at hy
   have hp := A1y (j := j) (by have := pa3.le; omega)
   obtain ⟨sy0, rfl, py0⟩ := I9 hj
   simp only [chain, J4, hx, hy, Option.getD_some, cN, cT, cR, cE, List.getElem?_cons_zero, List.getElem?_cons_succ]
   simp -implicitDefEqProofs only [rdl, Ex.same, Nat.beq, decide_eq_true (Int.ofNat_lt.2 hi), F3, C9 hx, C9 hy, hw, hp, O4]
   intro res k k'
   refine A7 (f20 (by assumption)) ?_
   simp -implicitDefEqProofs only [rdl, Ex.same, Nat.beq, F3, C9 hx, C9 hy, hp, O4, Bool.not_false, Bool.not_true, cond_true, cond_false]
   refine D6 (fun c1 => ?_) (fun c1 => ?_)
   ·refine D6 (fun c2 => ?_) (fun c2 => ?_)
    ·exact Evt.ret' (k' (by first | (simp_all [inB, upT, upN, cN, cT, cR]; done) | (simp_all [inB, upT, upN, cN, cT, cR]; omega) | (simp_all [inB, upT, upN, cN, cT, cR]; congr)))
    ·exact k (by first | (simp_all [inB, upT, upN, cN, cT, cR]; done) | (simp_all [inB, upT, upN, cN, cT, cR]; omega) | (simp_all [inB, upT, upN, cN, cT, cR]; congr))
   ·exact Evt.ret' (k' (by first | (simp_all [inB, upT, upN, cN, cT, cR]; done) | (simp_all [inB, upT, upN, cN, cT, cR]; omega) | (simp_all [inB, upT, upN, cN, cT, cR]; congr)))
 ·cases hq : A1t la3.length (fun i => O3 (cT (J4 la3 i) 0) && chain (upT 0) la3 i) with
  | false =>
   simp -implicitDefEqProofs only [rdl, Ex.same, Nat.beq]
   exact Evt.ret' (by simp [A7n, hq])
  | true =>
   simp -implicitDefEqProofs only [rdl, Ex.same, Nat.beq]
   exact Evt.ret' (by simp [A7n, hq])
theorem f107 {v : Row} (h : ShL E (E 46) v) : Ev fs 107 [.g v] (bo (A9 (cN v 0) (cT v 1) (cN v 2) (cR v 3) (cR v 4))) := by
 obtain ⟨na0, sa1, na2, la3, la4, rfl, pa0, pa1, pa2, pa3, pa4⟩ := I46 h
 simp only [cN, cT, cR, cE, List.getElem?_cons_zero, List.getElem?_cons_succ]
 refine Ev.of (af := a107) rfl rfl (Evt.congr (fun d n => D22 ..) ?_)
 have hT : Evt (fun d n => A8k (TabD fs d) d n [(.b [(.v (.int .i64 na0)), (.v (.string sa1)), (.v (.int .i64 na2)), (.fz 1 la3), (.fz 5 la4)]), (.v (.bool (na2 == 0))), (.v (.bool ((la3.length : Int) == 0))), (.v (.bool ((la4.length : Int) == 0))), (.v (.int .i64 (sa1.size : Int))), (.v (.int .i64 0))]) (bif A1t sa1.size (fun i => inB (byteOf sa1 i) 32 126) then (.exit 1, [(.b [.v (.int .i64 na0), .v (.string sa1), .v (.int .i64 na2), .fz 1 la3, .fz 5 la4]), .v (.bool (na2 == 0)), .v (.bool ((la3.length : Int) == 0)), .v (.bool ((la4.length : Int) == 0))]) else (.ret, [.v (.bool false)])) := by
  refine A03 (L := fun d n i => A8k (TabD fs d) d n [(.b [(.v (.int .i64 na0)), (.v (.string sa1)), (.v (.int .i64 na2)), (.fz 1 la3), (.fz 5 la4)]), (.v (.bool (na2 == 0))), (.v (.bool ((la3.length : Int) == 0))), (.v (.bool ((la4.length : Int) == 0))), (.v (.int .i64 (sa1.size : Int))), (.v (.int .i64 i))]) (fun d m => ?_) (fun i hi => ?_)
  ·rw [C06]
   simp -implicitDefEqProofs only [rdl, Ex.same, Nat.beq, Int.lt_irrefl, decide_false]
  ·obtain ⟨b, hb⟩ := Q7 hi
   have hw := G7 hi pa1
   simp only [C06, byteOf, hb, Option.getD_some]
   simp -implicitDefEqProofs only [rdl, Ex.same, Nat.beq, decide_eq_true (Int.ofNat_lt.2 hi), F3, I1 hb, hw, A0c]
   intro res k k'
   refine A7 (f25 _ _ _) ?_
   simp -implicitDefEqProofs only [rdl, Ex.same, Nat.beq, F3, I1 hb, A0c, Bool.not_false, Bool.not_true, cond_true, cond_false]
   refine D6 (fun c1 => ?_) (fun c1 => ?_)
   ·exact Evt.ret' (k' (by first | (simp_all [inB]; done) | (simp_all [inB]; omega) | (simp_all [inB]; congr)))
   ·exact k (by first | (simp_all [inB]; done) | (simp_all [inB]; omega) | (simp_all [inB]; congr))
 refine D6 (fun c1 => ?_) (fun c1 => ?_)
 ·refine I4 (L := fun d n => A8k (TabD fs d) d n [(.b [(.v (.int .i64 na0)), (.v (.string sa1)), (.v (.int .i64 na2)), (.fz 1 la3), (.fz 5 la4)]), (.v (.bool (na2 == 0))), (.v (.bool ((la3.length : Int) == 0))), (.v (.bool ((la4.length : Int) == 0))), (.v (.int .i64 (sa1.size : Int))), (.v (.int .i64 0))]) hT ?_
  cases hq : A1t sa1.size (fun i => inB (byteOf sa1 i) 32 126) with
  | false =>
   simp -implicitDefEqProofs only [rdl, Ex.same, Nat.beq]
   exact Evt.ret' (by simp_all [A9, F5, bare])
  | true =>
   simp -implicitDefEqProofs only [rdl, Ex.same, Nat.beq]
   refine D6 (fun c2 => ?_) (fun c2 => ?_)
   ·refine D6 (fun c3 => ?_) (fun c3 => ?_)
    ·refine D6 (fun c4 => ?_) (fun c4 => ?_)
     ·exact Evt.ret' (by first | (simp_all [A9, F5, bare]; done) | (simp_all [A9, F5, bare]; omega) | (simp_all [A9, F5, bare]; congr))
     ·exact Evt.ret' (by first | (simp_all [A9, F5, bare]; done) | (simp_all [A9, F5, bare]; omega) | (simp_all [A9, F5, bare]; congr))
    ·exact Evt.ret' (by first | (simp_all [A9, F5, bare]; done) | (simp_all [A9, F5, bare]; omega) | (simp_all [A9, F5, bare]; congr))
   ·exact Evt.ret' (by first | (simp_all [A9, F5, bare]; done) | (simp_all [A9, F5, bare]; omega) | (simp_all [A9, F5, bare]; congr))
 ·refine D6 (fun c5 => ?_) (fun c5 => ?_)
  ·refine D6 (fun c6 => ?_) (fun c6 => ?_)
   ·refine D6 (fun c7 => ?_) (fun c7 => ?_)
    ·exact Evt.ret' (by first | (simp_all [A9, F5, bare]; done) | (simp_all [A9, F5, bare]; omega) | (simp_all [A9, F5, bare]; congr))
    ·exact Evt.ret' (by first | (simp_all [A9, F5, bare]; done) | (simp_all [A9, F5, bare]; omega) | (simp_all [A9, F5, bare]; congr))
   ·exact Evt.ret' (by first | (simp_all [A9, F5, bare]; done) | (simp_all [A9, F5, bare]; omega) | (simp_all [A9, F5, bare]; congr))
  ·refine D6 (fun c8 => ?_) (fun c8 => ?_)
   ·refine A7 (f25 _ _ _) ?_
    simp -implicitDefEqProofs only [rdl, Ex.same, Nat.beq, Bool.not_false, Bool.not_true, cond_true, cond_false]
    refine D6 (fun c9 => ?_) (fun c9 => ?_)
    ·refine D6 (fun c10 => ?_) (fun c10 => ?_)
     ·refine D6 (fun c11 => ?_) (fun c11 => ?_)
      ·exact Evt.ret' (by first | (simp_all [A9, F5, bare]; done) | (simp_all [A9, F5, bare]; omega) | (simp_all [A9, F5, bare]; congr))
      ·exact Evt.ret' (by first | (simp_all [A9, F5, bare]; done) | (simp_all [A9, F5, bare]; omega) | (simp_all [A9, F5, bare]; congr))
     ·exact Evt.ret' (by first | (simp_all [A9, F5, bare]; done) | (simp_all [A9, F5, bare]; omega) | (simp_all [A9, F5, bare]; congr))
    ·exact Evt.ret' (by first | (simp_all [A9, F5, bare]; done) | (simp_all [A9, F5, bare]; omega) | (simp_all [A9, F5, bare]; congr))
   ·refine D6 (fun c12 => ?_) (fun c12 => ?_)
    ·refine D6 (fun c13 => ?_) (fun c13 => ?_)
     ·refine D6 (fun c14 => ?_) (fun c14 => ?_)
      ·refine D6 (fun c15 => ?_) (fun c15 => ?_)
       ·exact Evt.ret' (by first | (simp_all [A9, F5, bare]; done) | (simp_all [A9, F5, bare]; omega) | (simp_all [A9, F5, bare]; congr))
       ·exact Evt.ret' (by first | (simp_all [A9, F5, bare]; done) | (simp_all [A9, F5, bare]; omega) | (simp_all [A9, F5, bare]; congr))
      ·exact Evt.ret' (by first | (simp_all [A9, F5, bare]; done) | (simp_all [A9, F5, bare]; omega) | (simp_all [A9, F5, bare]; congr))
     ·exact Evt.ret' (by first | (simp_all [A9, F5, bare]; done) | (simp_all [A9, F5, bare]; omega) | (simp_all [A9, F5, bare]; congr))
    ·refine D6 (fun c16 => ?_) (fun c16 => ?_)
     ·refine A7 (f132 (by assumption) _) ?_
      simp -implicitDefEqProofs only [rdl, Ex.same, Nat.beq, Bool.not_false, Bool.not_true, cond_true, cond_false]
      refine D6 (fun c17 => ?_) (fun c17 => ?_)
      ·refine D6 (fun c18 => ?_) (fun c18 => ?_)
       ·refine D6 (fun c19 => ?_) (fun c19 => ?_)
        ·refine D6 (fun c20 => ?_) (fun c20 => ?_)
         ·exact Evt.ret' (by first | (simp_all [A9, F5, bare]; done) | (simp_all [A9, F5, bare]; omega) | (simp_all [A9, F5, bare]; congr))
         ·exact Evt.ret' (by first | (simp_all [A9, F5, bare]; done) | (simp_all [A9, F5, bare]; omega) | (simp_all [A9, F5, bare]; congr))
        ·exact Evt.ret' (by first | (simp_all [A9, F5, bare]; done) | (simp_all [A9, F5, bare]; omega) | (simp_all [A9, F5, bare]; congr))
       ·exact Evt.ret' (by first | (simp_all [A9, F5, bare]; done) | (simp_all [A9, F5, bare]; omega) | (simp_all [A9, F5, bare]; congr))
      ·refine D6 (fun c21 => ?_) (fun c21 => ?_)
       ·refine D6 (fun c22 => ?_) (fun c22 => ?_)
        ·exact Evt.ret' (by first | (simp_all [A9, F5, bare]; done) | (simp_all [A9, F5, bare]; omega) | (simp_all [A9, F5, bare]; congr))
        ·exact Evt.ret' (by first | (simp_all [A9, F5, bare]; done) | (simp_all [A9, F5, bare]; omega) | (simp_all [A9, F5, bare]; congr))
       ·exact Evt.ret' (by first | (simp_all [A9, F5, bare]; done) | (simp_all [A9, F5, bare]; omega) | (simp_all [A9, F5, bare]; congr))
     ·exact Evt.ret' (by first | (simp_all [A9, F5, bare]; done) | (simp_all [A9, F5, bare]; omega) | (simp_all [A9, F5, bare]; congr))
def msz (d : Nat) (v : Row) : Int := if G9 d v = 0 then 301 else G9 d v
theorem f79 (d : Nat) (hd : d ≤ 6) : ∀ {v : Row}, ShL E (E 46) v → Ev fs 79 [.g v, .d (.v (.int .i64 (d : Int)))] (io (msz d v)) := by
 induction d with
 | zero =>
  intro v h
  obtain ⟨na0, sa1, na2, la3, la4, rfl, pa0, pa1, pa2, pa3, pa4⟩ := I46 h
  refine Ev.of (af := a79) rfl rfl (Evt.congr (fun d n => D23 ..) ?_)
  simp -implicitDefEqProofs only [rdl, Ex.same, Nat.beq, show (((0 : Nat) : Int) == 0) = true from rfl, P6, Bool.not_true]
  exact Evt.ret
 | succ d ih =>
  intro v h
  have kk := h
  obtain ⟨na0, sa1, na2, la3, la4, rfl, pa0, pa1, pa2, pa3, pa4⟩ := I46 h
  refine Ev.of (af := a79) rfl rfl (Evt.congr (fun d n => D23 ..) ?_)
  have hne : (((d + 1 : Nat) : Int) == 0) = false := by simp; omega
  simp -implicitDefEqProofs only [rdl, Ex.same, Nat.beq, hne, P6, Bool.not_false]
  refine A7 (f107 kk) ?_
  simp -implicitDefEqProofs only [rdl, Ex.same, Nat.beq]
  simp only [cN, cT, cR, cE, List.getElem?_cons_zero, List.getElem?_cons_succ]
  simp only [msz, G9, cN, cT, cR, cE, List.getElem?_cons_zero, List.getElem?_cons_succ]
  have hw : IntKind.i64.wrap (((d + 1 : Nat) : Int) - 1) = (d : Int) := by rw [wrap_i64 (by omega) (by omega)]; omega
  refine D6 (fun hc => ?_) (fun hc => ?_)
  ·have hc : A9 na0 sa1 na2 la3 la4 = false := by simpa using hc
   exact Evt.ret' (by simp [hc])
  ·have hc : A9 na0 sa1 na2 la3 la4 = true := by simpa using hc
   simp only [hc, if_true]
   have key : ∀ (k i : Nat), la4.length - i = k → i ≤ la4.length → ∀ acc : Int, 1 ≤ acc → acc ≤ 300 → Evt (fun d' n => B6v (TabD fs d') d' n [.v (.int .i64 ((d + 1 : Nat) : Int)), .v (.int .i64 acc), .fz 5 la4, .v (.int .i64 (la4.length : Int)), .v (.int .i64 (i : Int))]) (if Q0 (G9 d) (la4.drop i) acc = 0 then (.ret, [.v (.int .i64 301)]) else (.exit 0, [.v (.int .i64 (Q0 (G9 d) (la4.drop i) acc))])) := by
    intro k
    induction k with
    | zero =>
     intro i hk hi acc h1 h2
     have : i = la4.length := by omega
     subst this
     rw [List.drop_length]
     have hne : ¬ acc = 0 := by omega
     simp only [Q0, hne, if_false]
     refine F7 ⟨0, fun d' n _ _ => ?_⟩
     simp only [C48]
     simp -implicitDefEqProofs only [rdl, Ex.same, Nat.beq, Int.lt_irrefl, decide_false]
    | succ k ihk =>
     intro i hk hi acc h1 h2
     have hlt : i < la4.length := by omega
     have hx := List.getElem?_eq_getElem hlt
     rw [List.drop_eq_getElem_cons hlt]
     generalize la4[i] = x at hx
     have g := pa4.at hx
     have g' := g
     obtain ⟨nx0, sx1, nx2, lx3, lx4, rfl, px0, px1, px2, px3, px4⟩ := I46 g
     refine F7 ?_
     simp only [C48]
     simp -implicitDefEqProofs only [rdl, Ex.same, Nat.beq, decide_eq_true (Int.ofNat_lt.2 hlt), F3, C9 hx, G7 hlt pa4.le, hw]
     refine A7 (ih (by omega) (by assumption)) ?_
     simp -implicitDefEqProofs only [rdl, Ex.same, Nat.beq]
     have hr := N8 d [.v (.int .i64 nx0), .v (.string sx1), .v (.int .i64 nx2), .s 1 lx3, .s 5 lx4]
     generalize hX : ([.v (.int .i64 nx0), .v (.string sx1), .v (.int .i64 nx2), .s 1 lx3, .s 5 lx4] : Row) = X at *
     simp only [Q0, msz]
     by_cases h0 : G9 d X = 0
     ·simp only [h0, if_true, true_or]
      have : IntKind.i64.wrap (acc + 301) > 300 := by rw [wrap_i64 (by omega) (by omega)]; omega
      simp -implicitDefEqProofs only [rdl, Ex.same, Nat.beq, decide_eq_true this]
      exact Evt.ret
     ·simp only [h0, if_false, false_or]
      have hwr : IntKind.i64.wrap (acc + G9 d X) = acc + G9 d X := wrap_i64 (by omega) (by omega)
      by_cases h3 : acc + G9 d X > 300
      ·simp only [h3, if_true]
       simp -implicitDefEqProofs only [rdl, Ex.same, Nat.beq, hwr, decide_eq_true h3]
       exact Evt.ret
      ·simp only [h3, if_false]
       simp -implicitDefEqProofs only [rdl, Ex.same, Nat.beq, hwr, decide_eq_false h3]
       exact ihk (i + 1) (by omega) (by omega) _ (by omega) (by omega)
   have h0 := key la4.length 0 (by omega) (by omega) 1 (by omega) (by omega)
   rw [List.drop_zero] at h0
   refine I4 (L := fun d' n => B6v (TabD fs d') d' n [.v (.int .i64 ((d + 1 : Nat) : Int)), .v (.int .i64 1), .fz 5 la4, .v (.int .i64 (la4.length : Int)), .v (.int .i64 0)]) h0 ?_
   by_cases hz : Q0 (G9 d) la4 1 = 0
   ·simp only [hz, if_true]
    simp -implicitDefEqProofs only [rdl, Ex.same, Nat.beq]
    exact Evt.ret
   ·simp only [hz, if_false]
    simp -implicitDefEqProofs only [rdl, Ex.same, Nat.beq]
    exact Evt.ret
theorem f51 {v : Row} (h : ShL E (E 46) v) : Ev fs 51 [.g v] (bo (O9 v)) := by
 have kk := h
 obtain ⟨na0, sa1, na2, la3, la4, rfl, pa0, pa1, pa2, pa3, pa4⟩ := I46 h
 refine Ev.of (af := a51) rfl rfl (Evt.congr (fun d n => D3f ..) ?_)
 refine A7 (f79 6 (by omega) kk) ?_
 simp -implicitDefEqProofs only [rdl, Ex.same, Nat.beq]
 have e : ∀ X : Row, decide (msz 6 X ≤ 300) = O9 X := fun X => by
  have hr := N8 6 X
  by_cases h : G9 6 X = 0
  ·simp [O9, msz, h]
  ·simp [O9, msz, h]
   omega
 rw [e]
 exact Evt.ret
theorem C59 {f : Row → Int} (hf : ∀ x, 0 ≤ f x ∧ f x ≤ 300) {l : Rows} (h : ¬ Q0 f l 1 = 0) : (l.length : Int) ≤ 300 := by
 have := A6j hf l 1 (by omega) (by omega)
 have := this.2.2 h
 omega
theorem f82 (d : Nat) (hd : d ≤ 6) : ∀ {v : Row}, ShL E (E 46) v → Ev fs 82 [.g v, .d (.v (.int .i64 (d : Int)))] (io (G9 d v)) := by
 induction d with
 | zero =>
  intro v h
  obtain ⟨na0, sa1, na2, la3, la4, rfl, pa0, pa1, pa2, pa3, pa4⟩ := I46 h
  refine Ev.of (af := a82) rfl rfl (Evt.congr (fun d n => D2f ..) ?_)
  simp -implicitDefEqProofs only [rdl, Ex.same, Nat.beq, show (((0 : Nat) : Int) == 0) = true from rfl]
  exact Evt.ret
 | succ d ih =>
  intro v h
  have kk := h
  obtain ⟨na0, sa1, na2, la3, la4, rfl, pa0, pa1, pa2, pa3, pa4⟩ := I46 h
  refine Ev.of (af := a82) rfl rfl (Evt.congr (fun d n => D2f ..) ?_)
  have hne : (((d + 1 : Nat) : Int) == 0) = false := by simp; omega
  simp -implicitDefEqProofs only [rdl, Ex.same, Nat.beq, hne]
  have hw : IntKind.i64.wrap (((d + 1 : Nat) : Int) - 1) = (d : Int) := by rw [wrap_i64 (by omega) (by omega)]; omega
  have key : ∀ (k i : Nat), la4.length - i = k → i ≤ la4.length → ∀ acc : Int, 1 ≤ acc → acc ≤ 300 → Evt (fun d' n => B6x (TabD fs d') d' n [.v (.int .i64 ((d + 1 : Nat) : Int)), (.b [.v (.int .i64 na0), .v (.string sa1), .v (.int .i64 na2), .fz 1 la3, .fz 5 la4]), .v (.int .i64 acc), .v (.int .i64 (i : Int))]) (if Q0 (G9 d) (la4.drop i) acc = 0 then (.ret, [.v (.int .i64 0)]) else (.exit 0, [(.b [.v (.int .i64 na0), .v (.string sa1), .v (.int .i64 na2), .fz 1 la3, .fz 5 la4]), .v (.int .i64 (Q0 (G9 d) (la4.drop i) acc))])) := by
   intro k
   induction k with
   | zero =>
    intro i hk hi acc h1 h2
    have : i = la4.length := by omega
    subst this
    rw [List.drop_length]
    have hne : ¬ acc = 0 := by omega
    simp only [Q0, hne, if_false]
    refine F7 ⟨0, fun d' n _ _ => ?_⟩
    simp only [C4j]
    simp -implicitDefEqProofs only [rdl, Ex.same, Nat.beq, Int.lt_irrefl, decide_false]
   | succ k ihk =>
    intro i hk hi acc h1 h2
    have hlt : i < la4.length := by omega
    have hx := List.getElem?_eq_getElem hlt
    rw [List.drop_eq_getElem_cons hlt]
    generalize la4[i] = x at hx
    have g := pa4.at hx
    have g' := g
    obtain ⟨nx0, sx1, nx2, lx3, lx4, rfl, px0, px1, px2, px3, px4⟩ := I46 g
    refine F7 ?_
    simp only [C4j]
    simp -implicitDefEqProofs only [rdl, Ex.same, Nat.beq, decide_eq_true (Int.ofNat_lt.2 hlt), F3, C9 hx, G7 hlt pa4.le, hw]
    refine A7 (ih (by omega) (by assumption)) ?_
    simp -implicitDefEqProofs only [rdl, Ex.same, Nat.beq]
    have hr := N8 d [.v (.int .i64 nx0), .v (.string sx1), .v (.int .i64 nx2), .s 1 lx3, .s 5 lx4]
    generalize hX : ([.v (.int .i64 nx0), .v (.string sx1), .v (.int .i64 nx2), .s 1 lx3, .s 5 lx4] : Row) = X at *
    simp only [Q0]
    by_cases h0 : G9 d X = 0
    ·simp only [h0, true_or, if_true]
     simp -implicitDefEqProofs only [rdl, Ex.same, Nat.beq, show ((0 : Int) == 0) = true from rfl, P6, Bool.not_true]
     exact Evt.ret
    ·simp only [h0, false_or]
     have hwr : IntKind.i64.wrap (acc + G9 d X) = acc + G9 d X := wrap_i64 (by omega) (by omega)
     have hb : (G9 d X == 0) = false := by simp [h0]
     by_cases h3 : acc + G9 d X > 300
     ·simp only [h3, if_true]
      simp -implicitDefEqProofs only [rdl, Ex.same, Nat.beq, hb, P6, Bool.not_false, hwr, decide_eq_true h3]
      exact Evt.ret
     ·simp only [h3, if_false]
      simp -implicitDefEqProofs only [rdl, Ex.same, Nat.beq, hb, P6, Bool.not_false, hwr, decide_eq_false h3]
      exact ihk (i + 1) (by omega) (by omega) _ (by omega) (by omega)
  have h0 := key la4.length 0 (by omega) (by omega) 1 (by omega) (by omega)
  rw [List.drop_zero] at h0
  refine I4 (L := fun d' n => B6x (TabD fs d') d' n [.v (.int .i64 ((d + 1 : Nat) : Int)), (.b [.v (.int .i64 na0), .v (.string sa1), .v (.int .i64 na2), .fz 1 la3, .fz 5 la4]), .v (.int .i64 1), .v (.int .i64 0)]) h0 ?_
  simp only [G9, cN, cT, cR, cE, List.getElem?_cons_zero, List.getElem?_cons_succ]
  by_cases hz : Q0 (G9 d) la4 1 = 0
  ·simp only [hz, if_true, ite_self]
   simp -implicitDefEqProofs only [rdl, Ex.same, Nat.beq]
   exact Evt.ret
  ·have hlen := C59 (N8 d) hz
   have hkr := A6j (N8 d) la4 1 (by omega) (by omega)
   simp only [hz, if_false]
   simp -implicitDefEqProofs only [rdl, Ex.same, Nat.beq]
   generalize Q0 (G9 d) la4 1 = K at *
   refine D6 (fun c1 => ?_) (fun c1 => ?_)
   ·refine D6 (fun c2 => ?_) (fun c2 => ?_)
    ·refine D6 (fun c3 => ?_) (fun c3 => ?_)
     ·refine D6 (fun c4 => ?_) (fun c4 => ?_)
      ·refine A7 (f112 (by assumption)) ?_
       simp -implicitDefEqProofs only [rdl, Ex.same, Nat.beq, cN, cT, cR, cE, List.getElem?_cons_zero, List.getElem?_cons_succ, Bool.not_false, Bool.not_true, cond_true, cond_false]
       refine D6 (fun c5 => ?_) (fun c5 => ?_)
       ·exact Evt.ret' (by first | (simp_all [A9, bare, D5]; done) | (simp_all [A9, bare, D5]; omega) | (simp_all [A9, bare, D5]; congr))
       ·exact Evt.ret' (by first | (simp_all [A9, bare, D5]; done) | (simp_all [A9, bare, D5]; omega) | (simp_all [A9, bare, D5]; congr))
      ·exact Evt.ret' (by first | (simp_all [A9, bare, D5]; done) | (simp_all [A9, bare, D5]; omega) | (simp_all [A9, bare, D5]; congr))
     ·exact Evt.ret' (by first | (simp_all [A9, bare, D5]; done) | (simp_all [A9, bare, D5]; omega) | (simp_all [A9, bare, D5]; congr))
    ·refine D6 (fun c6 => ?_) (fun c6 => ?_)
     ·refine D6 (fun c7 => ?_) (fun c7 => ?_)
      ·refine D6 (fun c8 => ?_) (fun c8 => ?_)
       ·exact Evt.ret' (by first | (simp_all [A9, bare, D5]; done) | (simp_all [A9, bare, D5]; omega) | (simp_all [A9, bare, D5]; congr))
       ·exact Evt.ret' (by first | (simp_all [A9, bare, D5]; done) | (simp_all [A9, bare, D5]; omega) | (simp_all [A9, bare, D5]; congr))
      ·exact Evt.ret' (by first | (simp_all [A9, bare, D5]; done) | (simp_all [A9, bare, D5]; omega) | (simp_all [A9, bare, D5]; congr))
     ·refine D6 (fun c9 => ?_) (fun c9 => ?_)
      ·refine D6 (fun c10 => ?_) (fun c10 => ?_)
       ·refine D6 (fun c11 => ?_) (fun c11 => ?_)
        ·refine A7 (f21 _ _ _) ?_
         simp -implicitDefEqProofs only [rdl, Ex.same, Nat.beq, cN, cT, cR, cE, List.getElem?_cons_zero, List.getElem?_cons_succ, Bool.not_false, Bool.not_true, cond_true, cond_false]
         refine D6 (fun c12 => ?_) (fun c12 => ?_)
         ·exact Evt.ret' (by first | (simp_all [A9, bare, D5]; done) | (simp_all [A9, bare, D5]; omega) | (simp_all [A9, bare, D5]; congr))
         ·exact Evt.ret' (by first | (simp_all [A9, bare, D5]; done) | (simp_all [A9, bare, D5]; omega) | (simp_all [A9, bare, D5]; congr))
        ·exact Evt.ret' (by first | (simp_all [A9, bare, D5]; done) | (simp_all [A9, bare, D5]; omega) | (simp_all [A9, bare, D5]; congr))
       ·exact Evt.ret' (by first | (simp_all [A9, bare, D5]; done) | (simp_all [A9, bare, D5]; omega) | (simp_all [A9, bare, D5]; congr))
      ·refine D6 (fun c13 => ?_) (fun c13 => ?_)
       ·refine D6 (fun c14 => ?_) (fun c14 => ?_)
        ·refine D6 (fun c15 => ?_) (fun c15 => ?_)
         ·refine D6 (fun c16 => ?_) (fun c16 => ?_)
          ·exact Evt.ret' (by first | (simp_all [A9, bare, D5]; done) | (simp_all [A9, bare, D5]; omega) | (simp_all [A9, bare, D5]; congr))
          ·exact Evt.ret' (by first | (simp_all [A9, bare, D5]; done) | (simp_all [A9, bare, D5]; omega) | (simp_all [A9, bare, D5]; congr))
         ·exact Evt.ret' (by first | (simp_all [A9, bare, D5]; done) | (simp_all [A9, bare, D5]; omega) | (simp_all [A9, bare, D5]; congr))
        ·exact Evt.ret' (by first | (simp_all [A9, bare, D5]; done) | (simp_all [A9, bare, D5]; omega) | (simp_all [A9, bare, D5]; congr))
       ·refine D6 (fun c17 => ?_) (fun c17 => ?_)
        ·refine A7 (f113 kk) ?_
         simp -implicitDefEqProofs only [rdl, Ex.same, Nat.beq, cN, cT, cR, cE, List.getElem?_cons_zero, List.getElem?_cons_succ, Bool.not_false, Bool.not_true, cond_true, cond_false]
         refine D6 (fun c18 => ?_) (fun c18 => ?_)
         ·refine D6 (fun c19 => ?_) (fun c19 => ?_)
          ·refine D6 (fun c20 => ?_) (fun c20 => ?_)
           ·exact Evt.ret' (by first | (simp_all [A9, bare, D5]; done) | (simp_all [A9, bare, D5]; omega) | (simp_all [A9, bare, D5]; congr))
           ·exact Evt.ret' (by first | (simp_all [A9, bare, D5]; done) | (simp_all [A9, bare, D5]; omega) | (simp_all [A9, bare, D5]; congr))
          ·exact Evt.ret' (by first | (simp_all [A9, bare, D5]; done) | (simp_all [A9, bare, D5]; omega) | (simp_all [A9, bare, D5]; congr))
         ·exact Evt.ret' (by first | (simp_all [A9, bare, D5]; done) | (simp_all [A9, bare, D5]; omega) | (simp_all [A9, bare, D5]; congr))
        ·exact Evt.ret' (by first | (simp_all [A9, bare, D5]; done) | (simp_all [A9, bare, D5]; omega) | (simp_all [A9, bare, D5]; congr))
   ·refine D6 (fun c21 => ?_) (fun c21 => ?_)
    ·exact Evt.ret' (by first | (simp_all [A9, bare, D5]; done) | (simp_all [A9, bare, D5]; omega) | (simp_all [A9, bare, D5]; congr))
    ·refine D6 (fun c22 => ?_) (fun c22 => ?_)
     ·exact Evt.ret' (by first | (simp_all [A9, bare, D5]; done) | (simp_all [A9, bare, D5]; omega) | (simp_all [A9, bare, D5]; congr))
     ·refine D6 (fun c23 => ?_) (fun c23 => ?_)
      ·exact Evt.ret' (by first | (simp_all [A9, bare, D5]; done) | (simp_all [A9, bare, D5]; omega) | (simp_all [A9, bare, D5]; congr))
      ·refine D6 (fun c24 => ?_) (fun c24 => ?_)
       ·refine D6 (fun c25 => ?_) (fun c25 => ?_)
        ·refine D6 (fun c26 => ?_) (fun c26 => ?_)
         ·refine D6 (fun c27 => ?_) (fun c27 => ?_)
          ·exact Evt.ret' (by first | (simp_all [A9, bare, D5]; done) | (simp_all [A9, bare, D5]; omega) | (simp_all [A9, bare, D5]; congr))
          ·exact Evt.ret' (by first | (simp_all [A9, bare, D5]; done) | (simp_all [A9, bare, D5]; omega) | (simp_all [A9, bare, D5]; congr))
         ·exact Evt.ret' (by first | (simp_all [A9, bare, D5]; done) | (simp_all [A9, bare, D5]; omega) | (simp_all [A9, bare, D5]; congr))
        ·exact Evt.ret' (by first | (simp_all [A9, bare, D5]; done) | (simp_all [A9, bare, D5]; omega) | (simp_all [A9, bare, D5]; congr))
       ·refine D6 (fun c28 => ?_) (fun c28 => ?_)
        ·refine A7 (f113 kk) ?_
         simp -implicitDefEqProofs only [rdl, Ex.same, Nat.beq, cN, cT, cR, cE, List.getElem?_cons_zero, List.getElem?_cons_succ, Bool.not_false, Bool.not_true, cond_true, cond_false]
         refine D6 (fun c29 => ?_) (fun c29 => ?_)
         ·refine D6 (fun c30 => ?_) (fun c30 => ?_)
          ·refine D6 (fun c31 => ?_) (fun c31 => ?_)
           ·exact Evt.ret' (by first | (simp_all [A9, bare, D5]; done) | (simp_all [A9, bare, D5]; omega) | (simp_all [A9, bare, D5]; congr))
           ·exact Evt.ret' (by first | (simp_all [A9, bare, D5]; done) | (simp_all [A9, bare, D5]; omega) | (simp_all [A9, bare, D5]; congr))
          ·exact Evt.ret' (by first | (simp_all [A9, bare, D5]; done) | (simp_all [A9, bare, D5]; omega) | (simp_all [A9, bare, D5]; congr))
         ·exact Evt.ret' (by first | (simp_all [A9, bare, D5]; done) | (simp_all [A9, bare, D5]; omega) | (simp_all [A9, bare, D5]; congr))
        ·exact Evt.ret' (by first | (simp_all [A9, bare, D5]; done) | (simp_all [A9, bare, D5]; omega) | (simp_all [A9, bare, D5]; congr))
theorem f53 {v : Row} (h : ShL E (E 46) v) : Ev fs 53 [.g v] (bo (O9 v)) := by
 have kk := h
 obtain ⟨na0, sa1, na2, la3, la4, rfl, pa0, pa1, pa2, pa3, pa4⟩ := I46 h
 refine Ev.of (af := a53) rfl rfl (Evt.congr (fun d n => D3s ..) ?_)
 refine A7 (f82 6 (by omega) kk) ?_
 simp -implicitDefEqProofs only [rdl, Ex.same, Nat.beq]
 exact Evt.ret
end Go.Am.Pm
