/- The text of a message. Nothing is assumed. -/
import Derived.Test.YtmgeoejefnablaaGreatDoorPmE
namespace Go.Am.Pm
set_option linter.unusedVariables false
set_option linter.unusedSimpArgs false
set_option maxRecDepth 8000
theorem f23 {l : Rows} (hl : SL E 48 l) : Ev fs 23 [.d (.s 7 l)] (bo (U0 l)) := by
 refine Ev.of (af := a23) rfl rfl (Evt.congr (fun d n => D3t ..) ?_)
 refine I4 (L := fun d n => B34 (TabD fs d) d n [(.fz 7 l), (.v (.int .i64 0))]) (A03 (L := fun d n i => B34 (TabD fs d) d n [(.fz 7 l), (.v (.int .i64 i))]) (n := l.length) (p := fun i => inB (cN (J4 l i) 0) 1 1000000 && (inB (cN (J4 l i) 1) 1 10000 && (O9 ((J4 l i).drop 2) && chain (upN 0) l i))) (y := (.exit 0, [(.fz 7 l)])) (z := (.ret, [.v (.bool false)])) (fun d m => ?_) (fun i hi => ?_)) ?_
 ·rw [C4k]
  simp -implicitDefEqProofs only [rdl, Ex.same, Nat.beq, Int.lt_irrefl, decide_false]
 ·have hx := List.getElem?_eq_getElem hi
  generalize l[i] = x at hx
  have h := hl.at hx
  have hw := G7 hi hl.le
  obtain ⟨nx0, nx1, nx2, sx3, nx4, lx5, lx6, rfl, px0, px1, px2, px3, px4, px5, px6⟩ := I48 h
  simp only [C4k, J4, hx, Option.getD_some, cN, cT, cR, cE, List.getElem?_cons_zero, List.getElem?_cons_succ, List.drop_succ_cons, List.drop_zero]
  cases i with
  | zero =>
   simp -implicitDefEqProofs only [rdl, Ex.same, Nat.beq, decide_eq_true (Int.ofNat_lt.2 hi), F3, C9 hx, hw, O5]
   simp only [chain]
   intro res k k'
   refine A7 (f21 _ _ _) ?_
   simp -implicitDefEqProofs only [rdl, Ex.same, Nat.beq, F3, C9 hx, O5, Bool.not_false, Bool.not_true, cond_true, cond_false]
   refine D6 (fun c1 => ?_) (fun c1 => ?_)
   ·refine A7 (f21 _ _ _) ?_
    simp -implicitDefEqProofs only [rdl, Ex.same, Nat.beq, F3, C9 hx, O5, Bool.not_false, Bool.not_true, cond_true, cond_false]
    refine D6 (fun c2 => ?_) (fun c2 => ?_)
    ·refine A7 (f53 (by rw [E46]; exact A02 (by assumption) (A5x (by assumption) (A02 (by assumption) (R9 W9 (by assumption) (R9 W46 (by assumption) (ShL.nil))))))) ?_
     simp -implicitDefEqProofs only [rdl, Ex.same, Nat.beq, F3, C9 hx, O5, Bool.not_false, Bool.not_true, cond_true, cond_false]
     refine D6 (fun c3 => ?_) (fun c3 => ?_)
     ·exact k (by first | (simp_all [inB, upT, upN, cN, cT, cR]; done) | (simp_all [inB, upT, upN, cN, cT, cR]; omega) | (simp_all [inB, upT, upN, cN, cT, cR]; congr))
     ·exact Evt.ret' (k' (by first | (simp_all [inB, upT, upN, cN, cT, cR]; done) | (simp_all [inB, upT, upN, cN, cT, cR]; omega) | (simp_all [inB, upT, upN, cN, cT, cR]; congr)))
    ·exact Evt.ret' (k' (by first | (simp_all [inB, upT, upN, cN, cT, cR]; done) | (simp_all [inB, upT, upN, cN, cT, cR]; omega) | (simp_all [inB, upT, upN, cN, cT, cR]; congr)))
   ·exact Evt.ret' (k' (by first | (simp_all [inB, upT, upN, cN, cT, cR]; done) | (simp_all [inB, upT, upN, cN, cT, cR]; omega) | (simp_all [inB, upT, upN, cN, cT, cR]; congr)))
  | succ j =>
   have hy := List.getElem?_eq_getElem (show j < l.length by omega)
   generalize l[j] = y at hy
   have hj := hl.at hy
   have hp := A1y (j := j) (by have := hl.le; omega)
   obtain ⟨ny0, ny1, ny2, sy3, ny4, ly5, ly6, rfl, py0, py1, py2, py3, py4, py5, py6⟩ := I48 hj
   simp only [chain, J4, hx, hy, Option.getD_some, cN, cT, cR, cE, List.getElem?_cons_zero, List.getElem?_cons_succ]
   simp -implicitDefEqProofs only [rdl, Ex.same, Nat.beq, decide_eq_true (Int.ofNat_lt.2 hi), F3, C9 hx, C9 hy, hw, hp, O4]
   intro res k k'
   refine A7 (f21 _ _ _) ?_
   simp -implicitDefEqProofs only [rdl, Ex.same, Nat.beq, F3, C9 hx, C9 hy, hp, O4, Bool.not_false, Bool.not_true, cond_true, cond_false]
   refine D6 (fun c1 => ?_) (fun c1 => ?_)
   ·refine A7 (f21 _ _ _) ?_
    simp -implicitDefEqProofs only [rdl, Ex.same, Nat.beq, F3, C9 hx, C9 hy, hp, O4, Bool.not_false, Bool.not_true, cond_true, cond_false]
    refine D6 (fun c2 => ?_) (fun c2 => ?_)
    ·refine A7 (f53 (by rw [E46]; exact A02 (by assumption) (A5x (by assumption) (A02 (by assumption) (R9 W9 (by assumption) (R9 W46 (by assumption) (ShL.nil))))))) ?_
     simp -implicitDefEqProofs only [rdl, Ex.same, Nat.beq, F3, C9 hx, C9 hy, hp, O4, Bool.not_false, Bool.not_true, cond_true, cond_false]
     refine D6 (fun c3 => ?_) (fun c3 => ?_)
     ·refine D6 (fun c4 => ?_) (fun c4 => ?_)
      ·exact Evt.ret' (k' (by first | (simp_all [inB, upT, upN, cN, cT, cR]; done) | (simp_all [inB, upT, upN, cN, cT, cR]; omega) | (simp_all [inB, upT, upN, cN, cT, cR]; congr)))
      ·exact k (by first | (simp_all [inB, upT, upN, cN, cT, cR]; done) | (simp_all [inB, upT, upN, cN, cT, cR]; omega) | (simp_all [inB, upT, upN, cN, cT, cR]; congr))
     ·exact Evt.ret' (k' (by first | (simp_all [inB, upT, upN, cN, cT, cR]; done) | (simp_all [inB, upT, upN, cN, cT, cR]; omega) | (simp_all [inB, upT, upN, cN, cT, cR]; congr)))
    ·exact Evt.ret' (k' (by first | (simp_all [inB, upT, upN, cN, cT, cR]; done) | (simp_all [inB, upT, upN, cN, cT, cR]; omega) | (simp_all [inB, upT, upN, cN, cT, cR]; congr)))
   ·exact Evt.ret' (k' (by first | (simp_all [inB, upT, upN, cN, cT, cR]; done) | (simp_all [inB, upT, upN, cN, cT, cR]; omega) | (simp_all [inB, upT, upN, cN, cT, cR]; congr)))
 ·cases hq : A1t l.length (fun i => inB (cN (J4 l i) 0) 1 1000000 && (inB (cN (J4 l i) 1) 1 10000 && (O9 ((J4 l i).drop 2) && chain (upN 0) l i))) with
  | false =>
   simp -implicitDefEqProofs only [rdl, Ex.same, Nat.beq]
   exact Evt.ret' (by simp [U0, hq])
  | true =>
   simp -implicitDefEqProofs only [rdl, Ex.same, Nat.beq]
   exact Evt.ret' (by simp [U0, hq])
theorem f27 {l : Rows} (hl : SL E 48 l) : Ev fs 27 [.d (.s 7 l)] (bo (U0 l)) := by
 refine Ev.of (af := a27) rfl rfl (Evt.congr (fun d n => D3g ..) ?_)
 refine I4 (L := fun d n => B31 (TabD fs d) d n [(.fz 7 l), (.fz 7 l), (.v (.int .i64 (l.length : Int))), (.v (.int .i64 0))]) (A03 (L := fun d n i => B31 (TabD fs d) d n [(.fz 7 l), (.fz 7 l), (.v (.int .i64 (l.length : Int))), (.v (.int .i64 i))]) (n := l.length) (p := fun i => inB (cN (J4 l i) 0) 1 1000000 && (inB (cN (J4 l i) 1) 1 10000 && (O9 ((J4 l i).drop 2) && chain (upN 0) l i))) (y := (.exit 0, [(.fz 7 l)])) (z := (.ret, [.v (.bool false)])) (fun d m => ?_) (fun i hi => ?_)) ?_
 ·rw [C49]
  simp -implicitDefEqProofs only [rdl, Ex.same, Nat.beq, Int.lt_irrefl, decide_false]
 ·have hx := List.getElem?_eq_getElem hi
  generalize l[i] = x at hx
  have h := hl.at hx
  have hw := G7 hi hl.le
  obtain ⟨nx0, nx1, nx2, sx3, nx4, lx5, lx6, rfl, px0, px1, px2, px3, px4, px5, px6⟩ := I48 h
  simp only [C49, J4, hx, Option.getD_some, cN, cT, cR, cE, List.getElem?_cons_zero, List.getElem?_cons_succ, List.drop_succ_cons, List.drop_zero]
  cases i with
  | zero =>
   simp -implicitDefEqProofs only [rdl, Ex.same, Nat.beq, decide_eq_true (Int.ofNat_lt.2 hi), F3, C9 hx, hw, O5]
   simp only [chain]
   intro res k k'
   refine A7 (f25 _ _ _) ?_
   simp -implicitDefEqProofs only [rdl, Ex.same, Nat.beq, F3, C9 hx, O5, Bool.not_false, Bool.not_true, cond_true, cond_false]
   refine D6 (fun c1 => ?_) (fun c1 => ?_)
   ·refine A7 (f25 _ _ _) ?_
    simp -implicitDefEqProofs only [rdl, Ex.same, Nat.beq, F3, C9 hx, O5, Bool.not_false, Bool.not_true, cond_true, cond_false]
    refine D6 (fun c2 => ?_) (fun c2 => ?_)
    ·refine A7 (f51 (by rw [E46]; exact A02 (by assumption) (A5x (by assumption) (A02 (by assumption) (R9 W9 (by assumption) (R9 W46 (by assumption) (ShL.nil))))))) ?_
     simp -implicitDefEqProofs only [rdl, Ex.same, Nat.beq, F3, C9 hx, O5, Bool.not_false, Bool.not_true, cond_true, cond_false]
     refine D6 (fun c3 => ?_) (fun c3 => ?_)
     ·exact k (by first | (simp_all [inB, upT, upN, cN, cT, cR]; done) | (simp_all [inB, upT, upN, cN, cT, cR]; omega) | (simp_all [inB, upT, upN, cN, cT, cR]; congr))
     ·exact Evt.ret' (k' (by first | (simp_all [inB, upT, upN, cN, cT, cR]; done) | (simp_all [inB, upT, upN, cN, cT, cR]; omega) | (simp_all [inB, upT, upN, cN, cT, cR]; congr)))
    ·exact Evt.ret' (k' (by first | (simp_all [inB, upT, upN, cN, cT, cR]; done) | (simp_all [inB, upT, upN, cN, cT, cR]; omega) | (simp_all [inB, upT, upN, cN, cT, cR]; congr)))
   ·exact Evt.ret' (k' (by first | (simp_all [inB, upT, upN, cN, cT, cR]; done) | (simp_all [inB, upT, upN, cN, cT, cR]; omega) | (simp_all [inB, upT, upN, cN, cT, cR]; congr)))
  | succ j =>
   have hy := List.getElem?_eq_getElem (show j < l.length by omega)
   generalize l[j] = y at hy
   have hj := hl.at hy
   have hp := A1y (j := j) (by have := hl.le; omega)
   obtain ⟨ny0, ny1, ny2, sy3, ny4, ly5, ly6, rfl, py0, py1, py2, py3, py4, py5, py6⟩ := I48 hj
   simp only [chain, J4, hx, hy, Option.getD_some, cN, cT, cR, cE, List.getElem?_cons_zero, List.getElem?_cons_succ]
   simp -implicitDefEqProofs only [rdl, Ex.same, Nat.beq, decide_eq_true (Int.ofNat_lt.2 hi), F3, C9 hx, C9 hy, hw, hp, O4]
   intro res k k'
   refine A7 (f25 _ _ _) ?_
   simp -implicitDefEqProofs only [rdl, Ex.same, Nat.beq, F3, C9 hx, C9 hy, hp, O4, Bool.not_false, Bool.not_true, cond_true, cond_false]
   refine D6 (fun c1 => ?_) (fun c1 => ?_)
   ·refine A7 (f25 _ _ _) ?_
    simp -implicitDefEqProofs only [rdl, Ex.same, Nat.beq, F3, C9 hx, C9 hy, hp, O4, Bool.not_false, Bool.not_true, cond_true, cond_false]
    refine D6 (fun c2 => ?_) (fun c2 => ?_)
    ·refine A7 (f51 (by rw [E46]; exact A02 (by assumption) (A5x (by assumption) (A02 (by assumption) (R9 W9 (by assumption) (R9 W46 (by assumption) (ShL.nil))))))) ?_
     simp -implicitDefEqProofs only [rdl, Ex.same, Nat.beq, F3, C9 hx, C9 hy, hp, O4, Bool.not_false, Bool.not_true, cond_true, cond_false]
     refine D6 (fun c3 => ?_) (fun c3 => ?_)
     ·refine D6 (fun c4 => ?_) (fun c4 => ?_)
      ·exact Evt.ret' (k' (by first | (simp_all [inB, upT, upN, cN, cT, cR]; done) | (simp_all [inB, upT, upN, cN, cT, cR]; omega) | (simp_all [inB, upT, upN, cN, cT, cR]; congr)))
      ·exact k (by first | (simp_all [inB, upT, upN, cN, cT, cR]; done) | (simp_all [inB, upT, upN, cN, cT, cR]; omega) | (simp_all [inB, upT, upN, cN, cT, cR]; congr))
     ·exact Evt.ret' (k' (by first | (simp_all [inB, upT, upN, cN, cT, cR]; done) | (simp_all [inB, upT, upN, cN, cT, cR]; omega) | (simp_all [inB, upT, upN, cN, cT, cR]; congr)))
    ·exact Evt.ret' (k' (by first | (simp_all [inB, upT, upN, cN, cT, cR]; done) | (simp_all [inB, upT, upN, cN, cT, cR]; omega) | (simp_all [inB, upT, upN, cN, cT, cR]; congr)))
   ·exact Evt.ret' (k' (by first | (simp_all [inB, upT, upN, cN, cT, cR]; done) | (simp_all [inB, upT, upN, cN, cT, cR]; omega) | (simp_all [inB, upT, upN, cN, cT, cR]; congr)))
 ·cases hq : A1t l.length (fun i => inB (cN (J4 l i) 0) 1 1000000 && (inB (cN (J4 l i) 1) 1 10000 && (O9 ((J4 l i).drop 2) && chain (upN 0) l i))) with
  | false =>
   simp -implicitDefEqProofs only [rdl, Ex.same, Nat.beq]
   exact Evt.ret' (by simp [U0, hq])
  | true =>
   simp -implicitDefEqProofs only [rdl, Ex.same, Nat.beq]
   exact Evt.ret' (by simp [U0, hq])
theorem f8 {row : Row} (h : ShL E (E 27) row) : Ev fs 8 [.g row] (bo (X6 row)) := by
 have kk := h
 obtain ⟨na0, sa1, na2, la3, la4, rfl, pa0, pa1, pa2, pa3, pa4⟩ := I27 h
 simp only [X6, cN, cT, cR, cE, List.getElem?_cons_zero, List.getElem?_cons_succ]
 refine Ev.of (af := a8) rfl rfl (Evt.congr (fun d n => a8q ..) ?_)
 refine A7 (f20 (by assumption)) ?_
 simp -implicitDefEqProofs only [rdl, Ex.same, Nat.beq, cN, cT, cR, cE, List.getElem?_cons_zero, List.getElem?_cons_succ, Bool.not_false, Bool.not_true, cond_true, cond_false]
 refine D6 (fun c1 => ?_) (fun c1 => ?_)
 ·exact Evt.ret' (by first | (simp_all []; done) | (simp_all []; omega) | (simp_all []; congr))
 ·refine D6 (fun c2 => ?_) (fun c2 => ?_)
  ·refine A7 (f21 _ _ _) ?_
   simp -implicitDefEqProofs only [rdl, Ex.same, Nat.beq, cN, cT, cR, cE, List.getElem?_cons_zero, List.getElem?_cons_succ, Bool.not_false, Bool.not_true, cond_true, cond_false]
   refine D6 (fun c3 => ?_) (fun c3 => ?_)
   ·refine A7 (f22 (by assumption) _) ?_
    simp -implicitDefEqProofs only [rdl, Ex.same, Nat.beq, cN, cT, cR, cE, List.getElem?_cons_zero, List.getElem?_cons_succ, Bool.not_false, Bool.not_true, cond_true, cond_false]
    refine D6 (fun c4 => ?_) (fun c4 => ?_)
    ·exact Evt.ret' (by first | (simp_all []; done) | (simp_all []; omega) | (simp_all []; congr))
    ·exact Evt.ret' (by first | (simp_all []; done) | (simp_all []; omega) | (simp_all []; congr))
   ·exact Evt.ret' (by first | (simp_all []; done) | (simp_all []; omega) | (simp_all []; congr))
  ·refine D6 (fun c5 => ?_) (fun c5 => ?_)
   ·refine A7 (f21 _ _ _) ?_
    simp -implicitDefEqProofs only [rdl, Ex.same, Nat.beq, cN, cT, cR, cE, List.getElem?_cons_zero, List.getElem?_cons_succ, Bool.not_false, Bool.not_true, cond_true, cond_false]
    refine D6 (fun c6 => ?_) (fun c6 => ?_)
    ·refine A7 (f23 (by assumption)) ?_
     simp -implicitDefEqProofs only [rdl, Ex.same, Nat.beq, cN, cT, cR, cE, List.getElem?_cons_zero, List.getElem?_cons_succ, Bool.not_false, Bool.not_true, cond_true, cond_false]
     refine D6 (fun c7 => ?_) (fun c7 => ?_)
     ·exact Evt.ret' (by first | (simp_all []; done) | (simp_all []; omega) | (simp_all []; congr))
     ·exact Evt.ret' (by first | (simp_all []; done) | (simp_all []; omega) | (simp_all []; congr))
    ·exact Evt.ret' (by first | (simp_all []; done) | (simp_all []; omega) | (simp_all []; congr))
   ·exact Evt.ret' (by first | (simp_all []; done) | (simp_all []; omega) | (simp_all []; congr))
theorem f9 {row : Row} (h : ShL E (E 27) row) : Ev fs 9 [.g row] (bo (X6 row)) := by
 have kk := h
 obtain ⟨na0, sa1, na2, la3, la4, rfl, pa0, pa1, pa2, pa3, pa4⟩ := I27 h
 simp only [X6, cN, cT, cR, cE, List.getElem?_cons_zero, List.getElem?_cons_succ]
 refine Ev.of (af := a9) rfl rfl (Evt.congr (fun d n => a9q ..) ?_)
 refine D6 (fun c1 => ?_) (fun c1 => ?_)
 ·refine A7 (f24 (by assumption)) ?_
  simp -implicitDefEqProofs only [rdl, Ex.same, Nat.beq, cN, cT, cR, cE, List.getElem?_cons_zero, List.getElem?_cons_succ, Bool.not_false, Bool.not_true, cond_true, cond_false]
  refine D6 (fun c2 => ?_) (fun c2 => ?_)
  ·refine A7 (f25 _ _ _) ?_
   simp -implicitDefEqProofs only [rdl, Ex.same, Nat.beq, cN, cT, cR, cE, List.getElem?_cons_zero, List.getElem?_cons_succ, Bool.not_false, Bool.not_true, cond_true, cond_false]
   refine D6 (fun c3 => ?_) (fun c3 => ?_)
   ·refine A7 (f26 (by assumption)) ?_
    simp -implicitDefEqProofs only [rdl, Ex.same, Nat.beq, cN, cT, cR, cE, List.getElem?_cons_zero, List.getElem?_cons_succ, Bool.not_false, Bool.not_true, cond_true, cond_false]
    refine D6 (fun c4 => ?_) (fun c4 => ?_)
    ·exact Evt.ret' (by first | (simp_all []; done) | (simp_all []; omega) | (simp_all []; congr))
    ·exact Evt.ret' (by first | (simp_all []; done) | (simp_all []; omega) | (simp_all []; congr))
   ·exact Evt.ret' (by first | (simp_all []; done) | (simp_all []; omega) | (simp_all []; congr))
  ·exact Evt.ret' (by first | (simp_all []; done) | (simp_all []; omega) | (simp_all []; congr))
 ·refine D6 (fun c5 => ?_) (fun c5 => ?_)
  ·refine A7 (f24 (by assumption)) ?_
   simp -implicitDefEqProofs only [rdl, Ex.same, Nat.beq, cN, cT, cR, cE, List.getElem?_cons_zero, List.getElem?_cons_succ, Bool.not_false, Bool.not_true, cond_true, cond_false]
   refine D6 (fun c6 => ?_) (fun c6 => ?_)
   ·refine A7 (f25 _ _ _) ?_
    simp -implicitDefEqProofs only [rdl, Ex.same, Nat.beq, cN, cT, cR, cE, List.getElem?_cons_zero, List.getElem?_cons_succ, Bool.not_false, Bool.not_true, cond_true, cond_false]
    refine D6 (fun c7 => ?_) (fun c7 => ?_)
    ·refine A7 (f27 (by assumption)) ?_
     simp -implicitDefEqProofs only [rdl, Ex.same, Nat.beq, cN, cT, cR, cE, List.getElem?_cons_zero, List.getElem?_cons_succ, Bool.not_false, Bool.not_true, cond_true, cond_false]
     refine D6 (fun c8 => ?_) (fun c8 => ?_)
     ·exact Evt.ret' (by first | (simp_all []; done) | (simp_all []; omega) | (simp_all []; congr))
     ·exact Evt.ret' (by first | (simp_all []; done) | (simp_all []; omega) | (simp_all []; congr))
    ·exact Evt.ret' (by first | (simp_all []; done) | (simp_all []; omega) | (simp_all []; congr))
   ·exact Evt.ret' (by first | (simp_all []; done) | (simp_all []; omega) | (simp_all []; congr))
  ·exact Evt.ret' (by first | (simp_all []; done) | (simp_all []; omega) | (simp_all []; congr))
theorem A81 {lo : Int} {l : Rows} (h : Z7 lo l = true) {i : Nat} {x : Row} (hx : l[i]? = some x) : 1 ≤ cN x 0 ∧ cN x 0 ≤ 1000000 ∧ lo ≤ cN x 1 ∧ cN x 1 ≤ 10000 := by
 have hi := (List.getElem?_eq_some_iff.1 hx).1
 simp only [Z7, Bool.and_eq_true, A1t, List.all_eq_true, List.mem_range] at h
 have := h.1 i hi
 have e : J4 l i = x := by simp [J4, hx]
 simp only [e, Bool.and_eq_true, inB, decide_eq_true_eq] at this
 omega
theorem A3t {l : Rows} (h : U0 l = true) {i : Nat} {x : Row} (hx : l[i]? = some x) : 1 ≤ cN x 0 ∧ cN x 0 ≤ 1000000 ∧ 1 ≤ cN x 1 ∧ cN x 1 ≤ 10000 ∧ 0 < G9 6 (x.drop 2) := by
 have hi := (List.getElem?_eq_some_iff.1 hx).1
 simp only [U0, Bool.and_eq_true, A1t, List.all_eq_true, List.mem_range] at h
 have := h.1 i hi
 have e : J4 l i = x := by simp [J4, hx]
 simp only [e, Bool.and_eq_true, inB, O9, decide_eq_true_eq] at this
 omega
theorem A5v {l : Rows} (h : U0 l = true) : l.length ≤ 40 := by
 simp only [U0, Bool.and_eq_true, decide_eq_true_eq] at h
 omega
theorem A3u {lo : Int} {l : Rows} (h : Z7 lo l = true) : l.length ≤ 80 := by
 simp only [Z7, Bool.and_eq_true, decide_eq_true_eq] at h
 omega
theorem small {n : Int} (h0 : 0 ≤ n) (h1 : n ≤ 1000000) : Fits n := by
 simp only [Fits, IntKind.min, IntKind.max, IntKind.signed, IntKind.bits]
 simp
 omega
theorem K8 {n : Int} (h0 : 0 ≤ n) (h1 : n ≤ 1000000) : (J3 n).size ≤ 30 := B2u (small h0 h1).1 (small h0 h1).2
theorem f19 {v : Row} (h : ShL E (E 46) v) (hs : 0 < G9 6 v) : Ev fs 19 [.g v] ⟨.d (.v (.string (I6 6 v))), []⟩ := by
 have hok : O9 v = true := by simpa [O9] using hs
 have q1 := f51 h
 have q2 := f52 6 h hs
 obtain ⟨na0, sa1, na2, la3, la4, rfl, pa0, pa1, pa2, pa3, pa4⟩ := I46 h
 refine Ev.of (af := a19) rfl rfl (Evt.congr (fun d n => D3j ..) ?_)
 refine A7 q1 ?_
 simp -implicitDefEqProofs only [rdl, Ex.same, Nat.beq, hok, Bool.not_true]
 refine A7 q2 ?_
 simp -implicitDefEqProofs only [rdl, Ex.same, Nat.beq]
 exact Evt.ret
theorem C5f {na0 : Int} {sa1 : ByteArray} {na2 : Int} {la3 la4 : Rows} {lo : Int} (h0 : 0 ≤ lo) (hl : SL E 42 la4) (hr : Z7 lo la4 = true) {a : ByteArray} (ha : a.size ≤ 1000) :
  Evt (fun d n => A99 (TabD fs d) d n [.b [.v (.int .i64 na0), .v (.string sa1), .v (.int .i64 na2), .fz 7 la3, .fz 2 la4], .v (.string a), .v (.int .i64 0)]) (.exit 0, [.b [.v (.int .i64 na0), .v (.string sa1), .v (.int .i64 na2), .fz 7 la3, .fz 2 la4], .v (.string (A1h la4 a))]) ∧ (A1h la4 a).size ≤ 1000 + la4.length * 100 := by
 have z32 : ({ data := #[32] } : ByteArray).size = 1 := rfl
 have z10 : ({ data := #[10] } : ByteArray).size = 1 := rfl
 have hfew := A3u hr
 refine A5q (L := fun d n acc i => A99 (TabD fs d) d n [.b [.v (.int .i64 na0), .v (.string sa1), .v (.int .i64 na2), .fz 7 la3, .fz 2 la4], .v (.string acc), .v (.int .i64 i)]) (a := la4) (f := fun a x => a ++ A0l x) (acc := a) (Y := fun acc => (.exit 0, [.b [.v (.int .i64 na0), .v (.string sa1), .v (.int .i64 na2), .fz 7 la3, .fz 2 la4], .v (.string acc)])) (fun i acc => acc.size ≤ 1000 + i * 100) (fun d n acc => ?_) (fun i x acc res hi hx hI k => ?_) (fun i x acc hi hx hI => ?_) (by omega)
 ·rw [C4r]
  simp -implicitDefEqProofs only [rdl, Ex.same, Nat.beq, Int.lt_irrefl, decide_false]
 ·have w := hl.at hx
  have hb := A81 hr hx
  obtain ⟨nx0, nx1, rfl, px0, px1⟩ := I42 w
  simp only [cN, cT, cR, cE, List.getElem?_cons_zero, List.getElem?_cons_succ] at hb
  have s0 := K8 (n := nx0) (by omega) (by omega)
  have s1 := K8 (n := nx1) (by omega) (by omega)
  simp only [A0l, sp, nl, cN, cT, cR, cE, List.getElem?_cons_zero, List.getElem?_cons_succ, ← ByteArray.append_assoc] at k
  simp only [C4r]
  simp -implicitDefEqProofs only [rdl, Ex.same, Nat.beq, decide_eq_true (Int.ofNat_lt.2 hi), F3, C9 hx, G7 hi hl.le]
  refine A7 (f62 (by omega) (by omega)) ?_
  simp -implicitDefEqProofs only [rdl, Ex.same, Nat.beq]
  refine D8 (I7 (by simp only [ByteArray.size_append, z32, z10, maxLen] at *; omega)) ?_
  refine D8 (I7 (by simp only [ByteArray.size_append, z32, z10, maxLen] at *; omega)) ?_
  refine A7 (f62 (by omega) (by omega)) ?_
  simp -implicitDefEqProofs only [rdl, Ex.same, Nat.beq]
  refine D8 (I7 (by simp only [ByteArray.size_append, z32, z10, maxLen] at *; omega)) ?_
  refine D8 (I7 (by simp only [ByteArray.size_append, z32, z10, maxLen] at *; omega)) ?_
  exact k
 ·have hb := A81 hr hx
  have s0 := K8 (n := cN x 0) (by omega) (by omega)
  have s1 := K8 (n := cN x 1) (by omega) (by omega)
  simp only [A0l, sp, nl, ByteArray.size_append, z32, z10] at *
  omega
theorem C0f {na0 : Int} {sa1 : ByteArray} {na2 : Int} {la3 la4 : Rows} (hl : SL E 48 la3) (hr : U0 la3 = true) {a : ByteArray} (ha : a.size ≤ 10000) :
  Evt (fun d n => A7v (TabD fs d) d n [.b [.v (.int .i64 na0), .v (.string sa1), .v (.int .i64 na2), .fz 7 la3, .fz 2 la4], .v (.string a), .v (.int .i64 0)]) (.exit 2, [.v (.string (A6m la3 a))]) := by
 have z32 : ({ data := #[32] } : ByteArray).size = 1 := rfl
 have z10 : ({ data := #[10] } : ByteArray).size = 1 := rfl
 have hfew := A5v hr
 refine (A5q (L := fun d n acc i => A7v (TabD fs d) d n [.b [.v (.int .i64 na0), .v (.string sa1), .v (.int .i64 na2), .fz 7 la3, .fz 2 la4], .v (.string acc), .v (.int .i64 i)]) (a := la3) (f := fun a x => a ++ Y6 x) (acc := a) (Y := fun acc => (.exit 2, [.v (.string acc)])) (fun i acc => acc.size ≤ 10000 + i * 100000) (fun d n acc => ?_) (fun i x acc res hi hx hI k => ?_) (fun i x acc hi hx hI => ?_) (by omega)).1
 ·rw [C4s]
  simp -implicitDefEqProofs only [rdl, Ex.same, Nat.beq, Int.lt_irrefl, decide_false]
 ·have w := hl.at hx
  have hb := A3t hr hx
  obtain ⟨nx0, nx1, nx2, sx3, nx4, lx5, lx6, rfl, px0, px1, px2, px3, px4, px5, px6⟩ := I48 w
  have hv : 0 < G9 6 [.v (.int .i64 nx2), .v (.string sx3), .v (.int .i64 nx4), .s 1 lx5, .s 5 lx6] := hb.2.2.2.2
  have hvs := A13 6 _ hv (A6q 6 (by rw [E46]; exact A02 (by assumption) (A5x (by assumption) (A02 (by assumption) (R9 W9 (by assumption) (R9 W46 (by assumption) (ShL.nil)))))))
  have hvr := (N8 6 [.v (.int .i64 nx2), .v (.string sx3), .v (.int .i64 nx4), .s 1 lx5, .s 5 lx6]).2
  simp only [cN, cT, cR, cE, List.getElem?_cons_zero, List.getElem?_cons_succ] at hb
  have s0 := K8 (n := nx0) (by omega) (by omega)
  have s1 := K8 (n := nx1) (by omega) (by omega)
  have k : Evt (fun d n => A7v (TabD fs d) d n [.b [.v (.int .i64 na0), .v (.string sa1), .v (.int .i64 na2), .fz 7 la3, .fz 2 la4], .v (.string (acc ++ J3 nx0 ++ ({ data := #[32] } : ByteArray) ++ J3 nx1 ++ ({ data := #[32] } : ByteArray) ++ I6 6 [.v (.int .i64 nx2), .v (.string sx3), .v (.int .i64 nx4), .s 1 lx5, .s 5 lx6] ++ ({ data := #[10] } : ByteArray))), .v (.int .i64 ((i + 1 : Nat) : Int))]) res := by
   simp only [Y6, sp, nl, cN, cT, cR, cE, List.getElem?_cons_zero, List.getElem?_cons_succ, List.drop_succ_cons, List.drop_zero, ← ByteArray.append_assoc] at k
   exact k
  have hvz : (I6 6 [.v (.int .i64 nx2), .v (.string sx3), .v (.int .i64 nx4), .s 1 lx5, .s 5 lx6]).size ≤ 81600 := by omega
  have call := f61 6 (by rw [E46]; exact A02 (by assumption) (A5x (by assumption) (A02 (by assumption) (R9 W9 (by assumption) (R9 W46 (by assumption) (ShL.nil)))))) hv
  generalize I6 6 [.v (.int .i64 nx2), .v (.string sx3), .v (.int .i64 nx4), .s 1 lx5, .s 5 lx6] = tx at k call hvz
  clear hvs
  simp only [C4s]
  simp -implicitDefEqProofs only [rdl, Ex.same, Nat.beq, decide_eq_true (Int.ofNat_lt.2 hi), F3, C9 hx, G7 hi hl.le]
  refine A7 (f62 (by omega) (by omega)) ?_
  simp -implicitDefEqProofs only [rdl, Ex.same, Nat.beq]
  refine D8 (I7 (by simp only [ByteArray.size_append, z32, z10, maxLen] at *; omega)) ?_
  refine D8 (I7 (by simp only [ByteArray.size_append, z32, z10, maxLen] at *; omega)) ?_
  refine A7 (f62 (by omega) (by omega)) ?_
  simp -implicitDefEqProofs only [rdl, Ex.same, Nat.beq]
  refine D8 (I7 (by simp only [ByteArray.size_append, z32, z10, maxLen] at *; omega)) ?_
  refine D8 (I7 (by simp only [ByteArray.size_append, z32, z10, maxLen] at *; omega)) ?_
  refine A7 call ?_
  simp -implicitDefEqProofs only [rdl, Ex.same, Nat.beq]
  refine D8 (I7 (by simp only [ByteArray.size_append, z32, z10, maxLen] at *; omega)) ?_
  refine D8 (I7 (by simp only [ByteArray.size_append, z32, z10, maxLen] at *; omega)) ?_
  exact k
 ·have hb := A3t hr hx
  have w := hl.at hx
  have hvs : ((I6 6 (x.drop 2)).size : Int) + 22 ≤ 272 * G9 6 (x.drop 2) := by
   have hv := hb.2.2.2.2
   obtain ⟨nx0, nx1, nx2, sx3, nx4, lx5, lx6, rfl, px0, px1, px2, px3, px4, px5, px6⟩ := I48 w
   exact A13 6 _ hv (A6q 6 (by rw [E46]; exact A02 (by assumption) (A5x (by assumption) (A02 (by assumption) (R9 W9 (by assumption) (R9 W46 (by assumption) (ShL.nil)))))))
  have hvr := (N8 6 (x.drop 2)).2
  have s0 := K8 (n := cN x 0) (by omega) (by omega)
  have s1 := K8 (n := cN x 1) (by omega) (by omega)
  simp only [Y6, sp, nl, ByteArray.size_append, z32, z10] at *
  omega
theorem C9o {na0 : Int} {sa1 : ByteArray} {na2 : Int} {la3 la4 : Rows} {lo : Int} (h0 : 0 ≤ lo) (hl : SL E 42 la4) (hr : Z7 lo la4 = true) {a : ByteArray} (ha : a.size ≤ 1000) :
  Evt (fun d n => B6w (TabD fs d) d n [.b [.v (.int .i64 na0), .v (.string sa1), .v (.int .i64 na2), .fz 7 la3, .fz 2 la4], .v (.string a), .fz 2 la4, .v (.int .i64 (la4.length : Int)), .v (.int .i64 0)]) (.exit 0, [.b [.v (.int .i64 na0), .v (.string sa1), .v (.int .i64 na2), .fz 7 la3, .fz 2 la4], .v (.string (A1h la4 a))]) ∧ (A1h la4 a).size ≤ 1000 + la4.length * 100 := by
 have z32 : ({ data := #[32] } : ByteArray).size = 1 := rfl
 have z10 : ({ data := #[10] } : ByteArray).size = 1 := rfl
 have hfew := A3u hr
 refine A5q (L := fun d n acc i => B6w (TabD fs d) d n [.b [.v (.int .i64 na0), .v (.string sa1), .v (.int .i64 na2), .fz 7 la3, .fz 2 la4], .v (.string acc), .fz 2 la4, .v (.int .i64 (la4.length : Int)), .v (.int .i64 i)]) (a := la4) (f := fun a x => a ++ A0l x) (acc := a) (Y := fun acc => (.exit 0, [.b [.v (.int .i64 na0), .v (.string sa1), .v (.int .i64 na2), .fz 7 la3, .fz 2 la4], .v (.string acc)])) (fun i acc => acc.size ≤ 1000 + i * 100) (fun d n acc => ?_) (fun i x acc res hi hx hI k => ?_) (fun i x acc hi hx hI => ?_) (by omega)
 ·rw [C7u]
  simp -implicitDefEqProofs only [rdl, Ex.same, Nat.beq, Int.lt_irrefl, decide_false]
 ·have w := hl.at hx
  have hb := A81 hr hx
  obtain ⟨nx0, nx1, rfl, px0, px1⟩ := I42 w
  simp only [cN, cT, cR, cE, List.getElem?_cons_zero, List.getElem?_cons_succ] at hb
  have s0 := K8 (n := nx0) (by omega) (by omega)
  have s1 := K8 (n := nx1) (by omega) (by omega)
  simp only [A0l, sp, nl, cN, cT, cR, cE, List.getElem?_cons_zero, List.getElem?_cons_succ] at k
  simp only [C7u]
  simp -implicitDefEqProofs only [rdl, Ex.same, Nat.beq, decide_eq_true (Int.ofNat_lt.2 hi), F3, C9 hx, G7 hi hl.le]
  refine A7 (f18 (small (by omega) (by omega))) ?_
  simp -implicitDefEqProofs only [rdl, Ex.same, Nat.beq]
  refine D8 (I7 (by simp only [ByteArray.size_append, z32, z10, maxLen] at *; omega)) ?_
  refine A7 (f18 (small (by omega) (by omega))) ?_
  simp -implicitDefEqProofs only [rdl, Ex.same, Nat.beq]
  refine D8 (I7 (by simp only [ByteArray.size_append, z32, z10, maxLen] at *; omega)) ?_
  refine D8 (I7 (by simp only [ByteArray.size_append, z32, z10, maxLen] at *; omega)) ?_
  refine D8 (I7 (by simp only [ByteArray.size_append, z32, z10, maxLen] at *; omega)) ?_
  exact k
 ·have hb := A81 hr hx
  have s0 := K8 (n := cN x 0) (by omega) (by omega)
  have s1 := K8 (n := cN x 1) (by omega) (by omega)
  simp only [A0l, sp, nl, ByteArray.size_append, z32, z10] at *
  omega
theorem C5g {na0 : Int} {sa1 : ByteArray} {na2 : Int} {la3 la4 : Rows} (hl : SL E 48 la3) (hr : U0 la3 = true) {a : ByteArray} (ha : a.size ≤ 10000) :
  Evt (fun d n => B4o (TabD fs d) d n [.v (.string a), .fz 7 la3, .v (.int .i64 (la3.length : Int)), .v (.int .i64 0)]) (.exit 2, [.v (.string (A6m la3 a))]) := by
 have z32 : ({ data := #[32] } : ByteArray).size = 1 := rfl
 have z10 : ({ data := #[10] } : ByteArray).size = 1 := rfl
 have hfew := A5v hr
 refine (A5q (L := fun d n acc i => B4o (TabD fs d) d n [.v (.string acc), .fz 7 la3, .v (.int .i64 (la3.length : Int)), .v (.int .i64 i)]) (a := la3) (f := fun a x => a ++ Y6 x) (acc := a) (Y := fun acc => (.exit 2, [.v (.string acc)])) (fun i acc => acc.size ≤ 10000 + i * 100000) (fun d n acc => ?_) (fun i x acc res hi hx hI k => ?_) (fun i x acc hi hx hI => ?_) (by omega)).1
 ·rw [C7v]
  simp -implicitDefEqProofs only [rdl, Ex.same, Nat.beq, Int.lt_irrefl, decide_false]
 ·have w := hl.at hx
  have hb := A3t hr hx
  obtain ⟨nx0, nx1, nx2, sx3, nx4, lx5, lx6, rfl, px0, px1, px2, px3, px4, px5, px6⟩ := I48 w
  have hv : 0 < G9 6 [.v (.int .i64 nx2), .v (.string sx3), .v (.int .i64 nx4), .s 1 lx5, .s 5 lx6] := hb.2.2.2.2
  have hvs := A13 6 _ hv (A6q 6 (by rw [E46]; exact A02 (by assumption) (A5x (by assumption) (A02 (by assumption) (R9 W9 (by assumption) (R9 W46 (by assumption) (ShL.nil)))))))
  have hvr := (N8 6 [.v (.int .i64 nx2), .v (.string sx3), .v (.int .i64 nx4), .s 1 lx5, .s 5 lx6]).2
  simp only [cN, cT, cR, cE, List.getElem?_cons_zero, List.getElem?_cons_succ] at hb
  have s0 := K8 (n := nx0) (by omega) (by omega)
  have s1 := K8 (n := nx1) (by omega) (by omega)
  have k : Evt (fun d n => B4o (TabD fs d) d n [.v (.string (acc ++ (J3 nx0 ++ ({ data := #[32] } : ByteArray) ++ J3 nx1 ++ ({ data := #[32] } : ByteArray) ++ I6 6 [.v (.int .i64 nx2), .v (.string sx3), .v (.int .i64 nx4), .s 1 lx5, .s 5 lx6] ++ ({ data := #[10] } : ByteArray)))), .fz 7 la3, .v (.int .i64 (la3.length : Int)), .v (.int .i64 ((i + 1 : Nat) : Int))]) res := by
   simp only [Y6, sp, nl, cN, cT, cR, cE, List.getElem?_cons_zero, List.getElem?_cons_succ, List.drop_succ_cons, List.drop_zero] at k
   exact k
  have hvz : (I6 6 [.v (.int .i64 nx2), .v (.string sx3), .v (.int .i64 nx4), .s 1 lx5, .s 5 lx6]).size ≤ 81600 := by omega
  have call := f19 (by rw [E46]; exact A02 (by assumption) (A5x (by assumption) (A02 (by assumption) (R9 W9 (by assumption) (R9 W46 (by assumption) (ShL.nil)))))) hv
  generalize I6 6 [.v (.int .i64 nx2), .v (.string sx3), .v (.int .i64 nx4), .s 1 lx5, .s 5 lx6] = tx at k call hvz
  clear hvs
  simp only [C7v]
  simp -implicitDefEqProofs only [rdl, Ex.same, Nat.beq, decide_eq_true (Int.ofNat_lt.2 hi), F3, C9 hx, G7 hi hl.le]
  refine A7 (f18 (small (by omega) (by omega))) ?_
  simp -implicitDefEqProofs only [rdl, Ex.same, Nat.beq]
  refine D8 (I7 (by simp only [ByteArray.size_append, z32, z10, maxLen] at *; omega)) ?_
  refine A7 (f18 (small (by omega) (by omega))) ?_
  simp -implicitDefEqProofs only [rdl, Ex.same, Nat.beq]
  refine D8 (I7 (by simp only [ByteArray.size_append, z32, z10, maxLen] at *; omega)) ?_
  refine D8 (I7 (by simp only [ByteArray.size_append, z32, z10, maxLen] at *; omega)) ?_
  refine A7 call ?_
  simp -implicitDefEqProofs only [rdl, Ex.same, Nat.beq]
  refine D8 (I7 (by simp only [ByteArray.size_append, z32, z10, maxLen] at *; omega)) ?_
  refine D8 (I7 (by simp only [ByteArray.size_append, z32, z10, maxLen] at *; omega)) ?_
  refine D8 (I7 (by simp only [ByteArray.size_append, z32, z10, maxLen] at *; omega)) ?_
  exact k
 ·have hb := A3t hr hx
  have w := hl.at hx
  have hvs : ((I6 6 (x.drop 2)).size : Int) + 22 ≤ 272 * G9 6 (x.drop 2) := by
   have hv := hb.2.2.2.2
   obtain ⟨nx0, nx1, nx2, sx3, nx4, lx5, lx6, rfl, px0, px1, px2, px3, px4, px5, px6⟩ := I48 w
   exact A13 6 _ hv (A6q 6 (by rw [E46]; exact A02 (by assumption) (A5x (by assumption) (A02 (by assumption) (R9 W9 (by assumption) (R9 W46 (by assumption) (ShL.nil)))))))
  have hvr := (N8 6 (x.drop 2)).2
  have s0 := K8 (n := cN x 0) (by omega) (by omega)
  have s1 := K8 (n := cN x 1) (by omega) (by omega)
  simp only [Y6, sp, nl, ByteArray.size_append, z32, z10] at *
  omega
theorem A5w {n : Int} {u : ByteArray} {r : Int} {ws rs : Rows} (h : X6 [.v (.int .i64 n), .v (.string u), .v (.int .i64 r), .s 7 ws, .s 2 rs] = true) : u.size ≤ 20 ∧ 0 ≤ r ∧ r ≤ 1000000 ∧ U0 ws = true ∧ Z7 0 rs = true := by
 have h : (O3 u && (if n = 1 then inB r 0 1000000 && (Z7 0 rs && ((ws.length : Int) == 0)) else if n = 2 then inB r 1 1000000 && (U0 ws && ((rs.length : Int) == 0)) else false)) = true := h
 simp only [Bool.and_eq_true] at h
 obtain ⟨h1, h2⟩ := h
 simp only [O3, Bool.and_eq_true, inB, decide_eq_true_eq] at h1
 refine ⟨by omega, ?_⟩
 by_cases hn : n = 1
 ·rw [if_pos hn] at h2
  simp only [Bool.and_eq_true, inB, decide_eq_true_eq, beq_iff_eq] at h2
  have : ws = [] := List.length_eq_zero_iff.1 (by omega)
  subst this
  exact ⟨by omega, by omega, by decide, h2.2.1⟩
 ·rw [if_neg hn] at h2
  by_cases hm : n = 2
  ·rw [if_pos hm] at h2
   simp only [Bool.and_eq_true, inB, decide_eq_true_eq, beq_iff_eq] at h2
   have : rs = [] := List.length_eq_zero_iff.1 (by omega)
   subst this
   exact ⟨by omega, by omega, h2.2.1, by decide⟩
  ·rw [if_neg hm] at h2
   simp at h2
theorem f36 {m : Row} (h : ShL E (E 27) m) : Ev fs 36 [.g m] ⟨.d (.v (.string (R8 m))), []⟩ := by
 have q1 := f8 h
 obtain ⟨na0, sa1, na2, la3, la4, rfl, pa0, pa1, pa2, pa3, pa4⟩ := I27 h
 have z32 : ({ data := #[32] } : ByteArray).size = 1 := rfl
 have z10 : ({ data := #[10] } : ByteArray).size = 1 := rfl
 refine Ev.of (af := a36) rfl rfl (Evt.congr (fun d n => D41 ..) ?_)
 refine A7 q1 ?_
 simp -implicitDefEqProofs only [rdl, Ex.same, Nat.beq]
 simp only [R8, cN, cT, cR, cE, List.getElem?_cons_zero, List.getElem?_cons_succ, A7r, sp, nl]
 refine D6 (fun c1 => ?_) (fun c1 => ?_)
 ·have c1 : X6 [.v (.int .i64 na0), .v (.string sa1), .v (.int .i64 na2), .s 7 la3, .s 2 la4] = false := by simpa using c1
  exact Evt.ret' (by rw [c1]; rfl)
 ·have c1 : X6 [.v (.int .i64 na0), .v (.string sa1), .v (.int .i64 na2), .s 7 la3, .s 2 la4] = true := by simpa using c1
  obtain ⟨h1, h2, h3, hw, hr⟩ := A5w c1
  rw [c1]
  have hd := K8 h2 h3
  have hf := A3u hr
  simp only [cond_true]
  refine D6 (fun c2 => ?_) (fun c2 => ?_)
  ·have zz : ({ data := #[108, 105, 115, 116, 32] } : ByteArray).size = 5 := rfl
   have hA : ((((({ data := #[108, 105, 115, 116, 32] } : ByteArray) ++ sa1) ++ ({ data := #[32] } : ByteArray)) ++ J3 na2 ++ ({ data := #[10] } : ByteArray))).size ≤ 1000 := by simp only [ByteArray.size_append, z32, z10, zz]; omega
   obtain ⟨r1, r2⟩ := C5f (sa1 := sa1) (na0 := na0) (na2 := na2) (la3 := la3) (Int.le_refl 0) pa4 hr hA
   have r3 := C0f (sa1 := sa1) (na0 := na0) (na2 := na2) (la4 := la4) pa3 hw (a := A1h la4 ((((({ data := #[108, 105, 115, 116, 32] } : ByteArray) ++ sa1) ++ ({ data := #[32] } : ByteArray)) ++ J3 na2 ++ ({ data := #[10] } : ByteArray)))) (by omega)
   refine D8 (I7 (by simp only [ByteArray.size_append, z32, z10, zz, maxLen]; omega)) ?_
   refine D8 (I7 (by simp only [ByteArray.size_append, z32, z10, zz, maxLen]; omega)) ?_
   refine A7 (f62 (by omega) (by omega)) ?_
   simp -implicitDefEqProofs only [rdl, Ex.same, Nat.beq]
   refine D8 (I7 (by simp only [ByteArray.size_append, z32, z10, zz, maxLen]; omega)) ?_
   refine D8 (I7 (by simp only [ByteArray.size_append, z32, z10, zz, maxLen]; omega)) ?_
   refine I4 (L := fun d n => A99 (TabD fs d) d n [.b [.v (.int .i64 na0), .v (.string sa1), .v (.int .i64 na2), .fz 7 la3, .fz 2 la4], .v (.string (((({ data := #[108, 105, 115, 116, 32] } : ByteArray) ++ sa1) ++ ({ data := #[32] } : ByteArray)) ++ J3 na2 ++ ({ data := #[10] } : ByteArray))), .v (.int .i64 0)]) r1 ?_
   simp -implicitDefEqProofs only [rdl, Ex.same, Nat.beq]
   refine I4 (L := fun d n => A7v (TabD fs d) d n [.b [.v (.int .i64 na0), .v (.string sa1), .v (.int .i64 na2), .fz 7 la3, .fz 2 la4], .v (.string (A1h la4 (((({ data := #[108, 105, 115, 116, 32] } : ByteArray) ++ sa1) ++ ({ data := #[32] } : ByteArray)) ++ J3 na2 ++ ({ data := #[10] } : ByteArray)))), .v (.int .i64 0)]) r3 ?_
   simp -implicitDefEqProofs only [rdl, Ex.same, Nat.beq]
   exact Evt.ret' (by rw [c2]; rfl)
  ·have zz : ({ data := #[116, 101, 108, 108, 32] } : ByteArray).size = 5 := rfl
   have hA : ((((({ data := #[116, 101, 108, 108, 32] } : ByteArray) ++ sa1) ++ ({ data := #[32] } : ByteArray)) ++ J3 na2 ++ ({ data := #[10] } : ByteArray))).size ≤ 1000 := by simp only [ByteArray.size_append, z32, z10, zz]; omega
   obtain ⟨r1, r2⟩ := C5f (sa1 := sa1) (na0 := na0) (na2 := na2) (la3 := la3) (Int.le_refl 0) pa4 hr hA
   have r3 := C0f (sa1 := sa1) (na0 := na0) (na2 := na2) (la4 := la4) pa3 hw (a := A1h la4 ((((({ data := #[116, 101, 108, 108, 32] } : ByteArray) ++ sa1) ++ ({ data := #[32] } : ByteArray)) ++ J3 na2 ++ ({ data := #[10] } : ByteArray)))) (by omega)
   refine D8 (I7 (by simp only [ByteArray.size_append, z32, z10, zz, maxLen]; omega)) ?_
   refine D8 (I7 (by simp only [ByteArray.size_append, z32, z10, zz, maxLen]; omega)) ?_
   refine A7 (f62 (by omega) (by omega)) ?_
   simp -implicitDefEqProofs only [rdl, Ex.same, Nat.beq]
   refine D8 (I7 (by simp only [ByteArray.size_append, z32, z10, zz, maxLen]; omega)) ?_
   refine D8 (I7 (by simp only [ByteArray.size_append, z32, z10, zz, maxLen]; omega)) ?_
   refine I4 (L := fun d n => A99 (TabD fs d) d n [.b [.v (.int .i64 na0), .v (.string sa1), .v (.int .i64 na2), .fz 7 la3, .fz 2 la4], .v (.string (((({ data := #[116, 101, 108, 108, 32] } : ByteArray) ++ sa1) ++ ({ data := #[32] } : ByteArray)) ++ J3 na2 ++ ({ data := #[10] } : ByteArray))), .v (.int .i64 0)]) r1 ?_
   simp -implicitDefEqProofs only [rdl, Ex.same, Nat.beq]
   refine I4 (L := fun d n => A7v (TabD fs d) d n [.b [.v (.int .i64 na0), .v (.string sa1), .v (.int .i64 na2), .fz 7 la3, .fz 2 la4], .v (.string (A1h la4 (((({ data := #[116, 101, 108, 108, 32] } : ByteArray) ++ sa1) ++ ({ data := #[32] } : ByteArray)) ++ J3 na2 ++ ({ data := #[10] } : ByteArray)))), .v (.int .i64 0)]) r3 ?_
   simp -implicitDefEqProofs only [rdl, Ex.same, Nat.beq]
   exact Evt.ret' (by rw [c2]; rfl)
theorem f7 {m : Row} (h : ShL E (E 27) m) : Ev fs 7 [.g m] ⟨.d (.v (.string (R8 m))), []⟩ := by
 have q1 := f9 h
 obtain ⟨na0, sa1, na2, la3, la4, rfl, pa0, pa1, pa2, pa3, pa4⟩ := I27 h
 have z32 : ({ data := #[32] } : ByteArray).size = 1 := rfl
 have z10 : ({ data := #[10] } : ByteArray).size = 1 := rfl
 refine Ev.of (af := a7) rfl rfl (Evt.congr (fun d n => a7q ..) ?_)
 refine A7 q1 ?_
 simp -implicitDefEqProofs only [rdl, Ex.same, Nat.beq]
 simp only [R8, cN, cT, cR, cE, List.getElem?_cons_zero, List.getElem?_cons_succ, A7r, sp, nl]
 refine D6 (fun c1 => ?_) (fun c1 => ?_)
 ·have c1 : X6 [.v (.int .i64 na0), .v (.string sa1), .v (.int .i64 na2), .s 7 la3, .s 2 la4] = false := by simpa using c1
  exact Evt.ret' (by rw [c1]; rfl)
 ·have c1 : X6 [.v (.int .i64 na0), .v (.string sa1), .v (.int .i64 na2), .s 7 la3, .s 2 la4] = true := by simpa using c1
  obtain ⟨h1, h2, h3, hw, hr⟩ := A5w c1
  rw [c1]
  have hd := K8 h2 h3
  have hf := A3u hr
  simp only [cond_true]
  refine D6 (fun c2 => ?_) (fun c2 => ?_)
  ·have zz : ({ data := #[108, 105, 115, 116, 32] } : ByteArray).size = 5 := rfl
   have hA : ((((({ data := #[108, 105, 115, 116, 32] } : ByteArray) ++ sa1) ++ ({ data := #[32] } : ByteArray)) ++ J3 na2 ++ ({ data := #[10] } : ByteArray))).size ≤ 1000 := by simp only [ByteArray.size_append, z32, z10, zz]; omega
   obtain ⟨r1, r2⟩ := C9o (sa1 := sa1) (na0 := na0) (na2 := na2) (la3 := la3) (Int.le_refl 0) pa4 hr hA
   have r3 := C5g (sa1 := sa1) (na0 := na0) (na2 := na2) (la4 := la4) pa3 hw (a := A1h la4 ((((({ data := #[108, 105, 115, 116, 32] } : ByteArray) ++ sa1) ++ ({ data := #[32] } : ByteArray)) ++ J3 na2 ++ ({ data := #[10] } : ByteArray)))) (by omega)
   refine D8 (I7 (by simp only [ByteArray.size_append, z32, z10, zz, maxLen]; omega)) ?_
   refine D8 (I7 (by simp only [ByteArray.size_append, z32, z10, zz, maxLen]; omega)) ?_
   refine A7 (f18 (small (by omega) (by omega))) ?_
   simp -implicitDefEqProofs only [rdl, Ex.same, Nat.beq]
   refine D8 (I7 (by simp only [ByteArray.size_append, z32, z10, zz, maxLen]; omega)) ?_
   refine D8 (I7 (by simp only [ByteArray.size_append, z32, z10, zz, maxLen]; omega)) ?_
   refine I4 (L := fun d n => B6w (TabD fs d) d n [.b [.v (.int .i64 na0), .v (.string sa1), .v (.int .i64 na2), .fz 7 la3, .fz 2 la4], .v (.string (((({ data := #[108, 105, 115, 116, 32] } : ByteArray) ++ sa1) ++ ({ data := #[32] } : ByteArray)) ++ J3 na2 ++ ({ data := #[10] } : ByteArray))), .fz 2 la4, .v (.int .i64 (la4.length : Int)), .v (.int .i64 0)]) r1 ?_
   simp -implicitDefEqProofs only [rdl, Ex.same, Nat.beq]
   refine I4 (L := fun d n => B4o (TabD fs d) d n [.v (.string (A1h la4 (((({ data := #[108, 105, 115, 116, 32] } : ByteArray) ++ sa1) ++ ({ data := #[32] } : ByteArray)) ++ J3 na2 ++ ({ data := #[10] } : ByteArray)))), .fz 7 la3, .v (.int .i64 (la3.length : Int)), .v (.int .i64 0)]) r3 ?_
   simp -implicitDefEqProofs only [rdl, Ex.same, Nat.beq]
   exact Evt.ret' (by rw [c2]; rfl)
  ·have zz : ({ data := #[116, 101, 108, 108, 32] } : ByteArray).size = 5 := rfl
   have hA : ((((({ data := #[116, 101, 108, 108, 32] } : ByteArray) ++ sa1) ++ ({ data := #[32] } : ByteArray)) ++ J3 na2 ++ ({ data := #[10] } : ByteArray))).size ≤ 1000 := by simp only [ByteArray.size_append, z32, z10, zz]; omega
   obtain ⟨r1, r2⟩ := C9o (sa1 := sa1) (na0 := na0) (na2 := na2) (la3 := la3) (Int.le_refl 0) pa4 hr hA
   have r3 := C5g (sa1 := sa1) (na0 := na0) (na2 := na2) (la4 := la4) pa3 hw (a := A1h la4 ((((({ data := #[116, 101, 108, 108, 32] } : ByteArray) ++ sa1) ++ ({ data := #[32] } : ByteArray)) ++ J3 na2 ++ ({ data := #[10] } : ByteArray)))) (by omega)
   refine D8 (I7 (by simp only [ByteArray.size_append, z32, z10, zz, maxLen]; omega)) ?_
   refine D8 (I7 (by simp only [ByteArray.size_append, z32, z10, zz, maxLen]; omega)) ?_
   refine A7 (f18 (small (by omega) (by omega))) ?_
   simp -implicitDefEqProofs only [rdl, Ex.same, Nat.beq]
   refine D8 (I7 (by simp only [ByteArray.size_append, z32, z10, zz, maxLen]; omega)) ?_
   refine D8 (I7 (by simp only [ByteArray.size_append, z32, z10, zz, maxLen]; omega)) ?_
   refine I4 (L := fun d n => B6w (TabD fs d) d n [.b [.v (.int .i64 na0), .v (.string sa1), .v (.int .i64 na2), .fz 7 la3, .fz 2 la4], .v (.string (((({ data := #[116, 101, 108, 108, 32] } : ByteArray) ++ sa1) ++ ({ data := #[32] } : ByteArray)) ++ J3 na2 ++ ({ data := #[10] } : ByteArray))), .fz 2 la4, .v (.int .i64 (la4.length : Int)), .v (.int .i64 0)]) r1 ?_
   simp -implicitDefEqProofs only [rdl, Ex.same, Nat.beq]
   refine I4 (L := fun d n => B4o (TabD fs d) d n [.v (.string (A1h la4 (((({ data := #[116, 101, 108, 108, 32] } : ByteArray) ++ sa1) ++ ({ data := #[32] } : ByteArray)) ++ J3 na2 ++ ({ data := #[10] } : ByteArray)))), .fz 7 la3, .v (.int .i64 (la3.length : Int)), .v (.int .i64 0)]) r3 ?_
   simp -implicitDefEqProofs only [rdl, Ex.same, Nat.beq]
   exact Evt.ret' (by rw [c2]; rfl)
end Go.Am.Pm
