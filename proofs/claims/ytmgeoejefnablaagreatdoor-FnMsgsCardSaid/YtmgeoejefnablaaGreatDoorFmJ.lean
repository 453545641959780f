/- The text of a message. Nothing is assumed. -/
import Derived.Test.YtmgeoejefnablaaGreatDoorFmE
namespace Go.Am.Fm
variable {SK : Src}
set_option linter.unusedVariables false
set_option linter.unusedSimpArgs false
set_option maxRecDepth 8000
theorem f23 {l : Rows} (hl : SL E 48 l) : Ev (fs SK) 23 [.d (.s 7 l)] (bo (worksOk l)) := by
 refine Ev.of (af := a23) rfl rfl (Evt.congr (fun d n => a23q ..) ?_)
 refine ev_aft (L := fun d n => l23x0 (TabD (fs SK) d) d n [(.fz 7 l), (.v (.int .i64 0))]) (all_loop (L := fun d n i => l23x0 (TabD (fs SK) d) d n [(.fz 7 l), (.v (.int .i64 i))]) (n := l.length) (p := fun i => inB (cN (row_ l i) 0) 1 1000000 && (inB (cN (row_ l i) 1) 1 10000 && (valueOk ((row_ l i).drop 2) && chain (upN 0) l i))) (y := (.exit 0, [(.fz 7 l)])) (z := (.ret, [.v (.bool false)])) (fun d m => ?_) (fun i hi => ?_)) ?_
 ·rw [l23x0s]
  simp -implicitDefEqProofs only [rdl, Ex.same, Nat.beq, Int.lt_irrefl, decide_false]
 ·have hx := List.getElem?_eq_getElem hi
  generalize l[i] = x at hx
  have h := hl.at hx
  have hw := wrap_succ hi hl.le
  obtain ⟨nx0, nx1, nx2, sx3, nx4, lx5, lx6, rfl, px0, px1, px2, px3, px4, px5, px6⟩ := I48 h
  simp only [l23x0s, row_, hx, Option.getD_some, cN, cT, cR, cE, List.getElem?_cons_zero, List.getElem?_cons_succ, List.drop_succ_cons, List.drop_zero]
  cases i with
  | zero =>
   simp -implicitDefEqProofs only [rdl, Ex.same, Nat.beq, decide_eq_true (Int.ofNat_lt.2 hi), dec_nn, look_at hx, hw, pos_zero]
   simp only [chain]
   intro res k k'
   refine ev_call (f21 _ _ _) ?_
   simp -implicitDefEqProofs only [rdl, Ex.same, Nat.beq, dec_nn, look_at hx, pos_zero, Bool.not_false, Bool.not_true, cond_true, cond_false]
   refine ev_if (fun c1 => ?_) (fun c1 => ?_)
   ·refine ev_call (f21 _ _ _) ?_
    simp -implicitDefEqProofs only [rdl, Ex.same, Nat.beq, dec_nn, look_at hx, pos_zero, Bool.not_false, Bool.not_true, cond_true, cond_false]
    refine ev_if (fun c2 => ?_) (fun c2 => ?_)
    ·refine ev_call (f53 (by rw [E46]; exact mk_i (by assumption) (mk_s (by assumption) (mk_i (by assumption) (mk_sl W9 (by assumption) (mk_sl W46 (by assumption) (ShL.nil))))))) ?_
     simp -implicitDefEqProofs only [rdl, Ex.same, Nat.beq, dec_nn, look_at hx, pos_zero, Bool.not_false, Bool.not_true, cond_true, cond_false]
     refine ev_if (fun c3 => ?_) (fun c3 => ?_)
     ·exact k (by first | (simp_all [inB, upT, upN, cN, cT, cR]; done) | (simp_all [inB, upT, upN, cN, cT, cR]; omega) | (simp_all [inB, upT, upN, cN, cT, cR]; congr))
     ·exact Evt.ret' (k' (by first | (simp_all [inB, upT, upN, cN, cT, cR]; done) | (simp_all [inB, upT, upN, cN, cT, cR]; omega) | (simp_all [inB, upT, upN, cN, cT, cR]; congr)))
    ·exact Evt.ret' (k' (by first | (simp_all [inB, upT, upN, cN, cT, cR]; done) | (simp_all [inB, upT, upN, cN, cT, cR]; omega) | (simp_all [inB, upT, upN, cN, cT, cR]; congr)))
   ·exact Evt.ret' (k' (by first | (simp_all [inB, upT, upN, cN, cT, cR]; done) | (simp_all [inB, upT, upN, cN, cT, cR]; omega) | (simp_all [inB, upT, upN, cN, cT, cR]; congr)))
  | succ j =>
   have hy := List.getElem?_eq_getElem (show j < l.length by omega)
   generalize l[j] = y at hy
   have hj := hl.at hy
   have hp := wrap_pred (j := j) (by have := hl.le; omega)
   obtain ⟨ny0, ny1, ny2, sy3, ny4, ly5, ly6, rfl, py0, py1, py2, py3, py4, py5, py6⟩ := I48 hj
   simp only [chain, row_, hx, hy, Option.getD_some, cN, cT, cR, cE, List.getElem?_cons_zero, List.getElem?_cons_succ]
   simp -implicitDefEqProofs only [rdl, Ex.same, Nat.beq, decide_eq_true (Int.ofNat_lt.2 hi), dec_nn, look_at hx, look_at hy, hw, hp, pos_succ]
   intro res k k'
   refine ev_call (f21 _ _ _) ?_
   simp -implicitDefEqProofs only [rdl, Ex.same, Nat.beq, dec_nn, look_at hx, look_at hy, hp, pos_succ, Bool.not_false, Bool.not_true, cond_true, cond_false]
   refine ev_if (fun c1 => ?_) (fun c1 => ?_)
   ·refine ev_call (f21 _ _ _) ?_
    simp -implicitDefEqProofs only [rdl, Ex.same, Nat.beq, dec_nn, look_at hx, look_at hy, hp, pos_succ, Bool.not_false, Bool.not_true, cond_true, cond_false]
    refine ev_if (fun c2 => ?_) (fun c2 => ?_)
    ·refine ev_call (f53 (by rw [E46]; exact mk_i (by assumption) (mk_s (by assumption) (mk_i (by assumption) (mk_sl W9 (by assumption) (mk_sl W46 (by assumption) (ShL.nil))))))) ?_
     simp -implicitDefEqProofs only [rdl, Ex.same, Nat.beq, dec_nn, look_at hx, look_at hy, hp, pos_succ, Bool.not_false, Bool.not_true, cond_true, cond_false]
     refine ev_if (fun c3 => ?_) (fun c3 => ?_)
     ·refine ev_if (fun c4 => ?_) (fun c4 => ?_)
      ·exact Evt.ret' (k' (by first | (simp_all [inB, upT, upN, cN, cT, cR]; done) | (simp_all [inB, upT, upN, cN, cT, cR]; omega) | (simp_all [inB, upT, upN, cN, cT, cR]; congr)))
      ·exact k (by first | (simp_all [inB, upT, upN, cN, cT, cR]; done) | (simp_all [inB, upT, upN, cN, cT, cR]; omega) | (simp_all [inB, upT, upN, cN, cT, cR]; congr))
     ·exact Evt.ret' (k' (by first | (simp_all [inB, upT, upN, cN, cT, cR]; done) | (simp_all [inB, upT, upN, cN, cT, cR]; omega) | (simp_all [inB, upT, upN, cN, cT, cR]; congr)))
    ·exact Evt.ret' (k' (by first | (simp_all [inB, upT, upN, cN, cT, cR]; done) | (simp_all [inB, upT, upN, cN, cT, cR]; omega) | (simp_all [inB, upT, upN, cN, cT, cR]; congr)))
   ·exact Evt.ret' (k' (by first | (simp_all [inB, upT, upN, cN, cT, cR]; done) | (simp_all [inB, upT, upN, cN, cT, cR]; omega) | (simp_all [inB, upT, upN, cN, cT, cR]; congr)))
 ·cases hq : allN l.length (fun i => inB (cN (row_ l i) 0) 1 1000000 && (inB (cN (row_ l i) 1) 1 10000 && (valueOk ((row_ l i).drop 2) && chain (upN 0) l i))) with
  | false =>
   simp -implicitDefEqProofs only [rdl, Ex.same, Nat.beq]
   exact Evt.ret' (by simp [worksOk, hq])
  | true =>
   simp -implicitDefEqProofs only [rdl, Ex.same, Nat.beq]
   exact Evt.ret' (by simp [worksOk, hq])
theorem f27 {l : Rows} (hl : SL E 48 l) : Ev (fs SK) 27 [.d (.s 7 l)] (bo (worksOk l)) := by
 refine Ev.of (af := a27) rfl rfl (Evt.congr (fun d n => a27q ..) ?_)
 refine ev_aft (L := fun d n => l27x0 (TabD (fs SK) d) d n [(.fz 7 l), (.fz 7 l), (.v (.int .i64 (l.length : Int))), (.v (.int .i64 0))]) (all_loop (L := fun d n i => l27x0 (TabD (fs SK) d) d n [(.fz 7 l), (.fz 7 l), (.v (.int .i64 (l.length : Int))), (.v (.int .i64 i))]) (n := l.length) (p := fun i => inB (cN (row_ l i) 0) 1 1000000 && (inB (cN (row_ l i) 1) 1 10000 && (valueOk ((row_ l i).drop 2) && chain (upN 0) l i))) (y := (.exit 0, [(.fz 7 l)])) (z := (.ret, [.v (.bool false)])) (fun d m => ?_) (fun i hi => ?_)) ?_
 ·rw [l27x0s]
  simp -implicitDefEqProofs only [rdl, Ex.same, Nat.beq, Int.lt_irrefl, decide_false]
 ·have hx := List.getElem?_eq_getElem hi
  generalize l[i] = x at hx
  have h := hl.at hx
  have hw := wrap_succ hi hl.le
  obtain ⟨nx0, nx1, nx2, sx3, nx4, lx5, lx6, rfl, px0, px1, px2, px3, px4, px5, px6⟩ := I48 h
  simp only [l27x0s, row_, hx, Option.getD_some, cN, cT, cR, cE, List.getElem?_cons_zero, List.getElem?_cons_succ, List.drop_succ_cons, List.drop_zero]
  cases i with
  | zero =>
   simp -implicitDefEqProofs only [rdl, Ex.same, Nat.beq, decide_eq_true (Int.ofNat_lt.2 hi), dec_nn, look_at hx, hw, pos_zero]
   simp only [chain]
   intro res k k'
   refine ev_call (f25 _ _ _) ?_
   simp -implicitDefEqProofs only [rdl, Ex.same, Nat.beq, dec_nn, look_at hx, pos_zero, Bool.not_false, Bool.not_true, cond_true, cond_false]
   refine ev_if (fun c1 => ?_) (fun c1 => ?_)
   ·refine ev_call (f25 _ _ _) ?_
    simp -implicitDefEqProofs only [rdl, Ex.same, Nat.beq, dec_nn, look_at hx, pos_zero, Bool.not_false, Bool.not_true, cond_true, cond_false]
    refine ev_if (fun c2 => ?_) (fun c2 => ?_)
    ·refine ev_call (f51 (by rw [E46]; exact mk_i (by assumption) (mk_s (by assumption) (mk_i (by assumption) (mk_sl W9 (by assumption) (mk_sl W46 (by assumption) (ShL.nil))))))) ?_
     simp -implicitDefEqProofs only [rdl, Ex.same, Nat.beq, dec_nn, look_at hx, pos_zero, Bool.not_false, Bool.not_true, cond_true, cond_false]
     refine ev_if (fun c3 => ?_) (fun c3 => ?_)
     ·exact k (by first | (simp_all [inB, upT, upN, cN, cT, cR]; done) | (simp_all [inB, upT, upN, cN, cT, cR]; omega) | (simp_all [inB, upT, upN, cN, cT, cR]; congr))
     ·exact Evt.ret' (k' (by first | (simp_all [inB, upT, upN, cN, cT, cR]; done) | (simp_all [inB, upT, upN, cN, cT, cR]; omega) | (simp_all [inB, upT, upN, cN, cT, cR]; congr)))
    ·exact Evt.ret' (k' (by first | (simp_all [inB, upT, upN, cN, cT, cR]; done) | (simp_all [inB, upT, upN, cN, cT, cR]; omega) | (simp_all [inB, upT, upN, cN, cT, cR]; congr)))
   ·exact Evt.ret' (k' (by first | (simp_all [inB, upT, upN, cN, cT, cR]; done) | (simp_all [inB, upT, upN, cN, cT, cR]; omega) | (simp_all [inB, upT, upN, cN, cT, cR]; congr)))
  | succ j =>
   have hy := List.getElem?_eq_getElem (show j < l.length by omega)
   generalize l[j] = y at hy
   have hj := hl.at hy
   have hp := wrap_pred (j := j) (by have := hl.le; omega)
   obtain ⟨ny0, ny1, ny2, sy3, ny4, ly5, ly6, rfl, py0, py1, py2, py3, py4, py5, py6⟩ := I48 hj
   simp only [chain, row_, hx, hy, Option.getD_some, cN, cT, cR, cE, List.getElem?_cons_zero, List.getElem?_cons_succ]
   simp -implicitDefEqProofs only [rdl, Ex.same, Nat.beq, decide_eq_true (Int.ofNat_lt.2 hi), dec_nn, look_at hx, look_at hy, hw, hp, pos_succ]
   intro res k k'
   refine ev_call (f25 _ _ _) ?_
   simp -implicitDefEqProofs only [rdl, Ex.same, Nat.beq, dec_nn, look_at hx, look_at hy, hp, pos_succ, Bool.not_false, Bool.not_true, cond_true, cond_false]
   refine ev_if (fun c1 => ?_) (fun c1 => ?_)
   ·refine ev_call (f25 _ _ _) ?_
    simp -implicitDefEqProofs only [rdl, Ex.same, Nat.beq, dec_nn, look_at hx, look_at hy, hp, pos_succ, Bool.not_false, Bool.not_true, cond_true, cond_false]
    refine ev_if (fun c2 => ?_) (fun c2 => ?_)
    ·refine ev_call (f51 (by rw [E46]; exact mk_i (by assumption) (mk_s (by assumption) (mk_i (by assumption) (mk_sl W9 (by assumption) (mk_sl W46 (by assumption) (ShL.nil))))))) ?_
     simp -implicitDefEqProofs only [rdl, Ex.same, Nat.beq, dec_nn, look_at hx, look_at hy, hp, pos_succ, Bool.not_false, Bool.not_true, cond_true, cond_false]
     refine ev_if (fun c3 => ?_) (fun c3 => ?_)
     ·refine ev_if (fun c4 => ?_) (fun c4 => ?_)
      ·exact Evt.ret' (k' (by first | (simp_all [inB, upT, upN, cN, cT, cR]; done) | (simp_all [inB, upT, upN, cN, cT, cR]; omega) | (simp_all [inB, upT, upN, cN, cT, cR]; congr)))
      ·exact k (by first | (simp_all [inB, upT, upN, cN, cT, cR]; done) | (simp_all [inB, upT, upN, cN, cT, cR]; omega) | (simp_all [inB, upT, upN, cN, cT, cR]; congr))
     ·exact Evt.ret' (k' (by first | (simp_all [inB, upT, upN, cN, cT, cR]; done) | (simp_all [inB, upT, upN, cN, cT, cR]; omega) | (simp_all [inB, upT, upN, cN, cT, cR]; congr)))
    ·exact Evt.ret' (k' (by first | (simp_all [inB, upT, upN, cN, cT, cR]; done) | (simp_all [inB, upT, upN, cN, cT, cR]; omega) | (simp_all [inB, upT, upN, cN, cT, cR]; congr)))
   ·exact Evt.ret' (k' (by first | (simp_all [inB, upT, upN, cN, cT, cR]; done) | (simp_all [inB, upT, upN, cN, cT, cR]; omega) | (simp_all [inB, upT, upN, cN, cT, cR]; congr)))
 ·cases hq : allN l.length (fun i => inB (cN (row_ l i) 0) 1 1000000 && (inB (cN (row_ l i) 1) 1 10000 && (valueOk ((row_ l i).drop 2) && chain (upN 0) l i))) with
  | false =>
   simp -implicitDefEqProofs only [rdl, Ex.same, Nat.beq]
   exact Evt.ret' (by simp [worksOk, hq])
  | true =>
   simp -implicitDefEqProofs only [rdl, Ex.same, Nat.beq]
   exact Evt.ret' (by simp [worksOk, hq])
theorem f101 {l : Rows} (hl : SL E 42 l) : Ev (fs SK) 101 [.d (.s 2 l)] (io (sumN 1 (l))) := by
 refine Ev.of (af := a101) rfl rfl (Evt.congr (fun d n => a101q ..) ?_)
 refine ev_aft (L := fun d n => l101x0 (TabD (fs SK) d) d n [(.fz 2 l), (.v (.int .i64 0)), (.v (.int .i64 0))]) (fold_loop (L := fun d n acc i => l101x0 (TabD (fs SK) d) d n [(.fz 2 l), (.v (.int .i64 acc)), (.v (.int .i64 i))]) (a := l) (f := fun acc x => IntKind.i64.wrap (acc + cN x 1)) (acc := 0) (Y := fun acc => (.exit 0, [.v (.int .i64 acc)])) (fun _ _ => True) (fun d n acc => ?_) (fun i x acc res hi hx _ k => ?_) (fun _ _ _ _ _ _ => trivial) trivial).1 ?_
 ·rw [l101x0s]
  simp -implicitDefEqProofs only [rdl, Ex.same, Nat.beq, Int.lt_irrefl, decide_false]
 ·have w := hl.at hx
  obtain ⟨nx0, nx1, rfl, px0, px1⟩ := I42 w
  simp only [l101x0s]
  simp -implicitDefEqProofs only [rdl, Ex.same, Nat.beq, decide_eq_true (Int.ofNat_lt.2 hi), dec_nn, look_at hx, wrap_succ hi hl.le]
  simp only [cN, cT, cR, cE, List.getElem?_cons_zero, List.getElem?_cons_succ] at k
  exact k
 ·simp -implicitDefEqProofs only [rdl, Ex.same, Nat.beq]
  exact Evt.ret
theorem f73 {row : Row} (h : ShL E (E 75) row) : Ev (fs SK) 73 [.g row] (bo (isleOk row)) := by
 have kk := h
 obtain ⟨sa0, na1, na2, la3, la4, rfl, pa0, pa1, pa2, pa3, pa4⟩ := I75 h
 simp only [isleOk, cN, cT, cR, cE, List.getElem?_cons_zero, List.getElem?_cons_succ]
 refine Ev.of (af := a73) rfl rfl (Evt.congr (fun d n => a73q ..) ?_)
 refine ev_call (f20 (by assumption)) ?_
 simp -implicitDefEqProofs only [rdl, Ex.same, Nat.beq, cN, cT, cR, cE, List.getElem?_cons_zero, List.getElem?_cons_succ, Bool.not_false, Bool.not_true, cond_true, cond_false]
 refine ev_if (fun c1 => ?_) (fun c1 => ?_)
 ·refine ev_call (f21 _ _ _) ?_
  simp -implicitDefEqProofs only [rdl, Ex.same, Nat.beq, cN, cT, cR, cE, List.getElem?_cons_zero, List.getElem?_cons_succ, Bool.not_false, Bool.not_true, cond_true, cond_false]
  refine ev_if (fun c2 => ?_) (fun c2 => ?_)
  ·refine ev_call (f21 _ _ _) ?_
   simp -implicitDefEqProofs only [rdl, Ex.same, Nat.beq, cN, cT, cR, cE, List.getElem?_cons_zero, List.getElem?_cons_succ, Bool.not_false, Bool.not_true, cond_true, cond_false]
   refine ev_if (fun c3 => ?_) (fun c3 => ?_)
   ·refine ev_call (f23 (by assumption)) ?_
    simp -implicitDefEqProofs only [rdl, Ex.same, Nat.beq, cN, cT, cR, cE, List.getElem?_cons_zero, List.getElem?_cons_succ, Bool.not_false, Bool.not_true, cond_true, cond_false]
    refine ev_if (fun c4 => ?_) (fun c4 => ?_)
    ·refine ev_call (f22 (by assumption) _) ?_
     simp -implicitDefEqProofs only [rdl, Ex.same, Nat.beq, cN, cT, cR, cE, List.getElem?_cons_zero, List.getElem?_cons_succ, Bool.not_false, Bool.not_true, cond_true, cond_false]
     refine ev_if (fun c5 => ?_) (fun c5 => ?_)
     ·refine ev_call (f101 (by assumption)) ?_
      simp -implicitDefEqProofs only [rdl, Ex.same, Nat.beq, cN, cT, cR, cE, List.getElem?_cons_zero, List.getElem?_cons_succ, Bool.not_false, Bool.not_true, cond_true, cond_false]
      exact Evt.ret' (by first | (simp_all []; done) | (simp_all []; omega) | (simp_all []; congr))
     ·exact Evt.ret' (by first | (simp_all []; done) | (simp_all []; omega) | (simp_all []; congr))
    ·exact Evt.ret' (by first | (simp_all []; done) | (simp_all []; omega) | (simp_all []; congr))
   ·exact Evt.ret' (by first | (simp_all []; done) | (simp_all []; omega) | (simp_all []; congr))
  ·exact Evt.ret' (by first | (simp_all []; done) | (simp_all []; omega) | (simp_all []; congr))
 ·exact Evt.ret' (by first | (simp_all []; done) | (simp_all []; omega) | (simp_all []; congr))
theorem f8 {row : Row} (h : ShL E (E 27) row) : Ev (fs SK) 8 [.g row] (bo (msgOk row)) := by
 have kk := h
 obtain ⟨na0, sa1, na2, la3, la4, rfl, pa0, pa1, pa2, pa3, pa4⟩ := I27 h
 simp only [msgOk, cN, cT, cR, cE, List.getElem?_cons_zero, List.getElem?_cons_succ]
 refine Ev.of (af := a8) rfl rfl (Evt.congr (fun d n => a8q ..) ?_)
 refine ev_call (f20 (by assumption)) ?_
 simp -implicitDefEqProofs only [rdl, Ex.same, Nat.beq, cN, cT, cR, cE, List.getElem?_cons_zero, List.getElem?_cons_succ, Bool.not_false, Bool.not_true, cond_true, cond_false]
 refine ev_if (fun c1 => ?_) (fun c1 => ?_)
 ·exact Evt.ret' (by first | (simp_all []; done) | (simp_all []; omega) | (simp_all []; congr))
 ·refine ev_if (fun c2 => ?_) (fun c2 => ?_)
  ·refine ev_call (f21 _ _ _) ?_
   simp -implicitDefEqProofs only [rdl, Ex.same, Nat.beq, cN, cT, cR, cE, List.getElem?_cons_zero, List.getElem?_cons_succ, Bool.not_false, Bool.not_true, cond_true, cond_false]
   refine ev_if (fun c3 => ?_) (fun c3 => ?_)
   ·refine ev_call (f22 (by assumption) _) ?_
    simp -implicitDefEqProofs only [rdl, Ex.same, Nat.beq, cN, cT, cR, cE, List.getElem?_cons_zero, List.getElem?_cons_succ, Bool.not_false, Bool.not_true, cond_true, cond_false]
    refine ev_if (fun c4 => ?_) (fun c4 => ?_)
    ·exact Evt.ret' (by first | (simp_all []; done) | (simp_all []; omega) | (simp_all []; congr))
    ·exact Evt.ret' (by first | (simp_all []; done) | (simp_all []; omega) | (simp_all []; congr))
   ·exact Evt.ret' (by first | (simp_all []; done) | (simp_all []; omega) | (simp_all []; congr))
  ·refine ev_if (fun c5 => ?_) (fun c5 => ?_)
   ·refine ev_call (f21 _ _ _) ?_
    simp -implicitDefEqProofs only [rdl, Ex.same, Nat.beq, cN, cT, cR, cE, List.getElem?_cons_zero, List.getElem?_cons_succ, Bool.not_false, Bool.not_true, cond_true, cond_false]
    refine ev_if (fun c6 => ?_) (fun c6 => ?_)
    ·refine ev_call (f23 (by assumption)) ?_
     simp -implicitDefEqProofs only [rdl, Ex.same, Nat.beq, cN, cT, cR, cE, List.getElem?_cons_zero, List.getElem?_cons_succ, Bool.not_false, Bool.not_true, cond_true, cond_false]
     refine ev_if (fun c7 => ?_) (fun c7 => ?_)
     ·exact Evt.ret' (by first | (simp_all []; done) | (simp_all []; omega) | (simp_all []; congr))
     ·exact Evt.ret' (by first | (simp_all []; done) | (simp_all []; omega) | (simp_all []; congr))
    ·exact Evt.ret' (by first | (simp_all []; done) | (simp_all []; omega) | (simp_all []; congr))
   ·exact Evt.ret' (by first | (simp_all []; done) | (simp_all []; omega) | (simp_all []; congr))
theorem f9 {row : Row} (h : ShL E (E 27) row) : Ev (fs SK) 9 [.g row] (bo (msgOk row)) := by
 have kk := h
 obtain ⟨na0, sa1, na2, la3, la4, rfl, pa0, pa1, pa2, pa3, pa4⟩ := I27 h
 simp only [msgOk, cN, cT, cR, cE, List.getElem?_cons_zero, List.getElem?_cons_succ]
 refine Ev.of (af := a9) rfl rfl (Evt.congr (fun d n => a9q ..) ?_)
 refine ev_if (fun c1 => ?_) (fun c1 => ?_)
 ·refine ev_call (f24 (by assumption)) ?_
  simp -implicitDefEqProofs only [rdl, Ex.same, Nat.beq, cN, cT, cR, cE, List.getElem?_cons_zero, List.getElem?_cons_succ, Bool.not_false, Bool.not_true, cond_true, cond_false]
  refine ev_if (fun c2 => ?_) (fun c2 => ?_)
  ·refine ev_call (f25 _ _ _) ?_
   simp -implicitDefEqProofs only [rdl, Ex.same, Nat.beq, cN, cT, cR, cE, List.getElem?_cons_zero, List.getElem?_cons_succ, Bool.not_false, Bool.not_true, cond_true, cond_false]
   refine ev_if (fun c3 => ?_) (fun c3 => ?_)
   ·refine ev_call (f26 (by assumption)) ?_
    simp -implicitDefEqProofs only [rdl, Ex.same, Nat.beq, cN, cT, cR, cE, List.getElem?_cons_zero, List.getElem?_cons_succ, Bool.not_false, Bool.not_true, cond_true, cond_false]
    refine ev_if (fun c4 => ?_) (fun c4 => ?_)
    ·exact Evt.ret' (by first | (simp_all []; done) | (simp_all []; omega) | (simp_all []; congr))
    ·exact Evt.ret' (by first | (simp_all []; done) | (simp_all []; omega) | (simp_all []; congr))
   ·exact Evt.ret' (by first | (simp_all []; done) | (simp_all []; omega) | (simp_all []; congr))
  ·exact Evt.ret' (by first | (simp_all []; done) | (simp_all []; omega) | (simp_all []; congr))
 ·refine ev_if (fun c5 => ?_) (fun c5 => ?_)
  ·refine ev_call (f24 (by assumption)) ?_
   simp -implicitDefEqProofs only [rdl, Ex.same, Nat.beq, cN, cT, cR, cE, List.getElem?_cons_zero, List.getElem?_cons_succ, Bool.not_false, Bool.not_true, cond_true, cond_false]
   refine ev_if (fun c6 => ?_) (fun c6 => ?_)
   ·refine ev_call (f25 _ _ _) ?_
    simp -implicitDefEqProofs only [rdl, Ex.same, Nat.beq, cN, cT, cR, cE, List.getElem?_cons_zero, List.getElem?_cons_succ, Bool.not_false, Bool.not_true, cond_true, cond_false]
    refine ev_if (fun c7 => ?_) (fun c7 => ?_)
    ·refine ev_call (f27 (by assumption)) ?_
     simp -implicitDefEqProofs only [rdl, Ex.same, Nat.beq, cN, cT, cR, cE, List.getElem?_cons_zero, List.getElem?_cons_succ, Bool.not_false, Bool.not_true, cond_true, cond_false]
     refine ev_if (fun c8 => ?_) (fun c8 => ?_)
     ·exact Evt.ret' (by first | (simp_all []; done) | (simp_all []; omega) | (simp_all []; congr))
     ·exact Evt.ret' (by first | (simp_all []; done) | (simp_all []; omega) | (simp_all []; congr))
    ·exact Evt.ret' (by first | (simp_all []; done) | (simp_all []; omega) | (simp_all []; congr))
   ·exact Evt.ret' (by first | (simp_all []; done) | (simp_all []; omega) | (simp_all []; congr))
  ·exact Evt.ret' (by first | (simp_all []; done) | (simp_all []; omega) | (simp_all []; congr))
theorem runs_at {lo : Int} {l : Rows} (h : runsOk lo l = true) {i : Nat} {x : Row} (hx : l[i]? = some x) : 1 ≤ cN x 0 ∧ cN x 0 ≤ 1000000 ∧ lo ≤ cN x 1 ∧ cN x 1 ≤ 10000 := by
 have hi := (List.getElem?_eq_some_iff.1 hx).1
 simp only [runsOk, Bool.and_eq_true, allN, List.all_eq_true, List.mem_range] at h
 have := h.1 i hi
 have e : row_ l i = x := by simp [row_, hx]
 simp only [e, Bool.and_eq_true, inB, decide_eq_true_eq] at this
 omega
theorem works_at {l : Rows} (h : worksOk l = true) {i : Nat} {x : Row} (hx : l[i]? = some x) : 1 ≤ cN x 0 ∧ cN x 0 ≤ 1000000 ∧ 1 ≤ cN x 1 ∧ cN x 1 ≤ 10000 ∧ 0 < valSz 6 (x.drop 2) := by
 have hi := (List.getElem?_eq_some_iff.1 hx).1
 simp only [worksOk, Bool.and_eq_true, allN, List.all_eq_true, List.mem_range] at h
 have := h.1 i hi
 have e : row_ l i = x := by simp [row_, hx]
 simp only [e, Bool.and_eq_true, inB, valueOk, decide_eq_true_eq] at this
 omega
theorem works_few {l : Rows} (h : worksOk l = true) : l.length ≤ 40 := by
 simp only [worksOk, Bool.and_eq_true, decide_eq_true_eq] at h
 omega
theorem runs_few {lo : Int} {l : Rows} (h : runsOk lo l = true) : l.length ≤ 80 := by
 simp only [runsOk, Bool.and_eq_true, decide_eq_true_eq] at h
 omega
theorem small {n : Int} (h0 : 0 ≤ n) (h1 : n ≤ 1000000) : Fits n := by
 simp only [Fits, IntKind.min, IntKind.max, IntKind.signed, IntKind.bits]
 simp
 omega
theorem small_size {n : Int} (h0 : 0 ≤ n) (h1 : n ≤ 1000000) : (decS n).size ≤ 30 := decS_size (small h0 h1).1 (small h0 h1).2
theorem f19 {v : Row} (h : ShL E (E 46) v) (hs : 0 < valSz 6 v) : Ev (fs SK) 19 [.g v] ⟨.d (.v (.string (vTxt 6 v))), []⟩ := by
 have hok : valueOk v = true := by simpa [valueOk] using hs
 have q1 := f51 (SK := SK) h
 have q2 := f52 (SK := SK) 6 h hs
 obtain ⟨na0, sa1, na2, la3, la4, rfl, pa0, pa1, pa2, pa3, pa4⟩ := I46 h
 refine Ev.of (af := a19) rfl rfl (Evt.congr (fun d n => a19q ..) ?_)
 refine ev_call q1 ?_
 simp -implicitDefEqProofs only [rdl, Ex.same, Nat.beq, hok, Bool.not_true]
 refine ev_call q2 ?_
 simp -implicitDefEqProofs only [rdl, Ex.same, Nat.beq]
 exact Evt.ret
theorem runs7 {na0 : Int} {sa1 : ByteArray} {na2 : Int} {la3 la4 : Rows} {lo : Int} (h0 : 0 ≤ lo) (hl : SL E 42 la4) (hr : runsOk lo la4 = true) {a : ByteArray} (ha : a.size ≤ 1000) :
  Evt (fun d n => l7x0 (TabD (fs SK) d) d n [.b [.v (.int .i64 na0), .v (.string sa1), .v (.int .i64 na2), .fz 7 la3, .fz 2 la4], .v (.string a), .fz 2 la4, .v (.int .i64 (la4.length : Int)), .v (.int .i64 0)]) (.exit 0, [.b [.v (.int .i64 na0), .v (.string sa1), .v (.int .i64 na2), .fz 7 la3, .fz 2 la4], .v (.string (runsT la4 a))]) ∧ (runsT la4 a).size ≤ 1000 + la4.length * 100 := by
 have z32 : ({ data := #[32] } : ByteArray).size = 1 := rfl
 have z10 : ({ data := #[10] } : ByteArray).size = 1 := rfl
 have hfew := runs_few hr
 refine fold_loop (L := fun d n acc i => l7x0 (TabD (fs SK) d) d n [.b [.v (.int .i64 na0), .v (.string sa1), .v (.int .i64 na2), .fz 7 la3, .fz 2 la4], .v (.string acc), .fz 2 la4, .v (.int .i64 (la4.length : Int)), .v (.int .i64 i)]) (a := la4) (f := fun a x => a ++ runLine x) (acc := a) (Y := fun acc => (.exit 0, [.b [.v (.int .i64 na0), .v (.string sa1), .v (.int .i64 na2), .fz 7 la3, .fz 2 la4], .v (.string acc)])) (fun i acc => acc.size ≤ 1000 + i * 100) (fun d n acc => ?_) (fun i x acc res hi hx hI k => ?_) (fun i x acc hi hx hI => ?_) (by omega)
 ·rw [l7x0s]
  simp -implicitDefEqProofs only [rdl, Ex.same, Nat.beq, Int.lt_irrefl, decide_false]
 ·have w := hl.at hx
  have hb := runs_at hr hx
  obtain ⟨nx0, nx1, rfl, px0, px1⟩ := I42 w
  simp only [cN, cT, cR, cE, List.getElem?_cons_zero, List.getElem?_cons_succ] at hb
  have s0 := small_size (n := nx0) (by omega) (by omega)
  have s1 := small_size (n := nx1) (by omega) (by omega)
  simp only [runLine, sp, nl, cN, cT, cR, cE, List.getElem?_cons_zero, List.getElem?_cons_succ] at k
  simp only [l7x0s]
  simp -implicitDefEqProofs only [rdl, Ex.same, Nat.beq, decide_eq_true (Int.ofNat_lt.2 hi), dec_nn, look_at hx, wrap_succ hi hl.le]
  refine ev_call (f18 (small (by omega) (by omega))) ?_
  simp -implicitDefEqProofs only [rdl, Ex.same, Nat.beq]
  refine ev_tst (sz_le (by simp only [ByteArray.size_append, z32, z10, maxLen] at *; omega)) ?_
  refine ev_call (f18 (small (by omega) (by omega))) ?_
  simp -implicitDefEqProofs only [rdl, Ex.same, Nat.beq]
  refine ev_tst (sz_le (by simp only [ByteArray.size_append, z32, z10, maxLen] at *; omega)) ?_
  refine ev_tst (sz_le (by simp only [ByteArray.size_append, z32, z10, maxLen] at *; omega)) ?_
  refine ev_tst (sz_le (by simp only [ByteArray.size_append, z32, z10, maxLen] at *; omega)) ?_
  exact k
 ·have hb := runs_at hr hx
  have s0 := small_size (n := cN x 0) (by omega) (by omega)
  have s1 := small_size (n := cN x 1) (by omega) (by omega)
  simp only [runLine, sp, nl, ByteArray.size_append, z32, z10] at *
  omega
theorem works7 {na0 : Int} {sa1 : ByteArray} {na2 : Int} {la3 la4 : Rows} (hl : SL E 48 la3) (hr : worksOk la3 = true) {a : ByteArray} (ha : a.size ≤ 10000) :
  Evt (fun d n => l7x1 (TabD (fs SK) d) d n [.v (.string a), .fz 7 la3, .v (.int .i64 (la3.length : Int)), .v (.int .i64 0)]) (.exit 2, [.v (.string (worksT la3 a))]) := by
 have z32 : ({ data := #[32] } : ByteArray).size = 1 := rfl
 have z10 : ({ data := #[10] } : ByteArray).size = 1 := rfl
 have hfew := works_few hr
 refine (fold_loop (L := fun d n acc i => l7x1 (TabD (fs SK) d) d n [.v (.string acc), .fz 7 la3, .v (.int .i64 (la3.length : Int)), .v (.int .i64 i)]) (a := la3) (f := fun a x => a ++ workLine x) (acc := a) (Y := fun acc => (.exit 2, [.v (.string acc)])) (fun i acc => acc.size ≤ 10000 + i * 100000) (fun d n acc => ?_) (fun i x acc res hi hx hI k => ?_) (fun i x acc hi hx hI => ?_) (by omega)).1
 ·rw [l7x1s]
  simp -implicitDefEqProofs only [rdl, Ex.same, Nat.beq, Int.lt_irrefl, decide_false]
 ·have w := hl.at hx
  have hb := works_at hr hx
  obtain ⟨nx0, nx1, nx2, sx3, nx4, lx5, lx6, rfl, px0, px1, px2, px3, px4, px5, px6⟩ := I48 w
  have hv : 0 < valSz 6 [.v (.int .i64 nx2), .v (.string sx3), .v (.int .i64 nx4), .s 1 lx5, .s 5 lx6] := hb.2.2.2.2
  have hvs := vTxt_size 6 _ hv (num_ok 6 (by rw [E46]; exact mk_i (by assumption) (mk_s (by assumption) (mk_i (by assumption) (mk_sl W9 (by assumption) (mk_sl W46 (by assumption) (ShL.nil)))))))
  have hvr := (valSz_rng 6 [.v (.int .i64 nx2), .v (.string sx3), .v (.int .i64 nx4), .s 1 lx5, .s 5 lx6]).2
  simp only [cN, cT, cR, cE, List.getElem?_cons_zero, List.getElem?_cons_succ] at hb
  have s0 := small_size (n := nx0) (by omega) (by omega)
  have s1 := small_size (n := nx1) (by omega) (by omega)
  have k : Evt (fun d n => l7x1 (TabD (fs SK) d) d n [.v (.string (acc ++ (decS nx0 ++ ({ data := #[32] } : ByteArray) ++ decS nx1 ++ ({ data := #[32] } : ByteArray) ++ vTxt 6 [.v (.int .i64 nx2), .v (.string sx3), .v (.int .i64 nx4), .s 1 lx5, .s 5 lx6] ++ ({ data := #[10] } : ByteArray)))), .fz 7 la3, .v (.int .i64 (la3.length : Int)), .v (.int .i64 ((i + 1 : Nat) : Int))]) res := by
   simp only [workLine, sp, nl, cN, cT, cR, cE, List.getElem?_cons_zero, List.getElem?_cons_succ, List.drop_succ_cons, List.drop_zero] at k
   exact k
  have hvz : (vTxt 6 [.v (.int .i64 nx2), .v (.string sx3), .v (.int .i64 nx4), .s 1 lx5, .s 5 lx6]).size ≤ 81600 := by omega
  have call := f19 (SK := SK) (by rw [E46]; exact mk_i (by assumption) (mk_s (by assumption) (mk_i (by assumption) (mk_sl W9 (by assumption) (mk_sl W46 (by assumption) (ShL.nil)))))) hv
  generalize vTxt 6 [.v (.int .i64 nx2), .v (.string sx3), .v (.int .i64 nx4), .s 1 lx5, .s 5 lx6] = tx at k call hvz
  clear hvs
  simp only [l7x1s]
  simp -implicitDefEqProofs only [rdl, Ex.same, Nat.beq, decide_eq_true (Int.ofNat_lt.2 hi), dec_nn, look_at hx, wrap_succ hi hl.le]
  refine ev_call (f18 (small (by omega) (by omega))) ?_
  simp -implicitDefEqProofs only [rdl, Ex.same, Nat.beq]
  refine ev_tst (sz_le (by simp only [ByteArray.size_append, z32, z10, maxLen] at *; omega)) ?_
  refine ev_call (f18 (small (by omega) (by omega))) ?_
  simp -implicitDefEqProofs only [rdl, Ex.same, Nat.beq]
  refine ev_tst (sz_le (by simp only [ByteArray.size_append, z32, z10, maxLen] at *; omega)) ?_
  refine ev_tst (sz_le (by simp only [ByteArray.size_append, z32, z10, maxLen] at *; omega)) ?_
  refine ev_call call ?_
  simp -implicitDefEqProofs only [rdl, Ex.same, Nat.beq]
  refine ev_tst (sz_le (by simp only [ByteArray.size_append, z32, z10, maxLen] at *; omega)) ?_
  refine ev_tst (sz_le (by simp only [ByteArray.size_append, z32, z10, maxLen] at *; omega)) ?_
  refine ev_tst (sz_le (by simp only [ByteArray.size_append, z32, z10, maxLen] at *; omega)) ?_
  exact k
 ·have hb := works_at hr hx
  have w := hl.at hx
  have hvs : ((vTxt 6 (x.drop 2)).size : Int) + 22 ≤ 272 * valSz 6 (x.drop 2) := by
   have hv := hb.2.2.2.2
   obtain ⟨nx0, nx1, nx2, sx3, nx4, lx5, lx6, rfl, px0, px1, px2, px3, px4, px5, px6⟩ := I48 w
   exact vTxt_size 6 _ hv (num_ok 6 (by rw [E46]; exact mk_i (by assumption) (mk_s (by assumption) (mk_i (by assumption) (mk_sl W9 (by assumption) (mk_sl W46 (by assumption) (ShL.nil)))))))
  have hvr := (valSz_rng 6 (x.drop 2)).2
  have s0 := small_size (n := cN x 0) (by omega) (by omega)
  have s1 := small_size (n := cN x 1) (by omega) (by omega)
  simp only [workLine, sp, nl, ByteArray.size_append, z32, z10] at *
  omega
theorem msg_parts {n : Int} {u : ByteArray} {r : Int} {ws rs : Rows} (h : msgOk [.v (.int .i64 n), .v (.string u), .v (.int .i64 r), .s 7 ws, .s 2 rs] = true) : u.size ≤ 20 ∧ 0 ≤ r ∧ r ≤ 1000000 ∧ worksOk ws = true ∧ runsOk 0 rs = true := by
 have h : (nameOk u && (if n = 1 then inB r 0 1000000 && (runsOk 0 rs && ((ws.length : Int) == 0)) else if n = 2 then inB r 1 1000000 && (worksOk ws && ((rs.length : Int) == 0)) else false)) = true := h
 simp only [Bool.and_eq_true] at h
 obtain ⟨h1, h2⟩ := h
 simp only [nameOk, Bool.and_eq_true, inB, decide_eq_true_eq] at h1
 refine ⟨by omega, ?_⟩
 by_cases hn : n = 1
 ·rw [if_pos hn] at h2
  simp only [Bool.and_eq_true, inB, decide_eq_true_eq, beq_iff_eq] at h2
  have : ws = [] := List.length_eq_zero_iff.1 (by omega)
  subst this
  exact ⟨by omega, by omega, by decide, h2.2.1⟩
 ·rw [if_neg hn] at h2
  by_cases hm : n = 2
  ·rw [if_pos hm] at h2
   simp only [Bool.and_eq_true, inB, decide_eq_true_eq, beq_iff_eq] at h2
   have : rs = [] := List.length_eq_zero_iff.1 (by omega)
   subst this
   exact ⟨by omega, by omega, h2.2.1, by decide⟩
  ·rw [if_neg hm] at h2
   simp at h2
theorem f7 {m : Row} (h : ShL E (E 27) m) : Ev (fs SK) 7 [.g m] ⟨.d (.v (.string (msgTxt m))), []⟩ := by
 have q1 := f9 (SK := SK) h
 obtain ⟨na0, sa1, na2, la3, la4, rfl, pa0, pa1, pa2, pa3, pa4⟩ := I27 h
 have z32 : ({ data := #[32] } : ByteArray).size = 1 := rfl
 have z10 : ({ data := #[10] } : ByteArray).size = 1 := rfl
 refine Ev.of (af := a7) rfl rfl (Evt.congr (fun d n => a7q ..) ?_)
 refine ev_call q1 ?_
 simp -implicitDefEqProofs only [rdl, Ex.same, Nat.beq]
 simp only [msgTxt, cN, cT, cR, cE, List.getElem?_cons_zero, List.getElem?_cons_succ, msgHead, sp, nl]
 refine ev_if (fun c1 => ?_) (fun c1 => ?_)
 ·have c1 : msgOk [.v (.int .i64 na0), .v (.string sa1), .v (.int .i64 na2), .s 7 la3, .s 2 la4] = false := by simpa using c1
  exact Evt.ret' (by rw [c1]; rfl)
 ·have c1 : msgOk [.v (.int .i64 na0), .v (.string sa1), .v (.int .i64 na2), .s 7 la3, .s 2 la4] = true := by simpa using c1
  obtain ⟨h1, h2, h3, hw, hr⟩ := msg_parts c1
  rw [c1]
  have hd := small_size h2 h3
  have hf := runs_few hr
  simp only [cond_true]
  refine ev_if (fun c2 => ?_) (fun c2 => ?_)
  ·have zz : ({ data := #[108, 105, 115, 116, 32] } : ByteArray).size = 5 := rfl
   have hA : ((((({ data := #[108, 105, 115, 116, 32] } : ByteArray) ++ sa1) ++ ({ data := #[32] } : ByteArray)) ++ decS na2 ++ ({ data := #[10] } : ByteArray))).size ≤ 1000 := by simp only [ByteArray.size_append, z32, z10, zz]; omega
   obtain ⟨r1, r2⟩ := runs7 (SK := SK) (sa1 := sa1) (na0 := na0) (na2 := na2) (la3 := la3) (Int.le_refl 0) pa4 hr hA
   have r3 := works7 (SK := SK) (sa1 := sa1) (na0 := na0) (na2 := na2) (la4 := la4) pa3 hw (a := runsT la4 ((((({ data := #[108, 105, 115, 116, 32] } : ByteArray) ++ sa1) ++ ({ data := #[32] } : ByteArray)) ++ decS na2 ++ ({ data := #[10] } : ByteArray)))) (by omega)
   refine ev_tst (sz_le (by simp only [ByteArray.size_append, z32, z10, zz, maxLen]; omega)) ?_
   refine ev_tst (sz_le (by simp only [ByteArray.size_append, z32, z10, zz, maxLen]; omega)) ?_
   refine ev_call (f18 (small (by omega) (by omega))) ?_
   simp -implicitDefEqProofs only [rdl, Ex.same, Nat.beq]
   refine ev_tst (sz_le (by simp only [ByteArray.size_append, z32, z10, zz, maxLen]; omega)) ?_
   refine ev_tst (sz_le (by simp only [ByteArray.size_append, z32, z10, zz, maxLen]; omega)) ?_
   refine ev_aft (L := fun d n => l7x0 (TabD (fs SK) d) d n [.b [.v (.int .i64 na0), .v (.string sa1), .v (.int .i64 na2), .fz 7 la3, .fz 2 la4], .v (.string (((({ data := #[108, 105, 115, 116, 32] } : ByteArray) ++ sa1) ++ ({ data := #[32] } : ByteArray)) ++ decS na2 ++ ({ data := #[10] } : ByteArray))), .fz 2 la4, .v (.int .i64 (la4.length : Int)), .v (.int .i64 0)]) r1 ?_
   simp -implicitDefEqProofs only [rdl, Ex.same, Nat.beq]
   refine ev_aft (L := fun d n => l7x1 (TabD (fs SK) d) d n [.v (.string (runsT la4 (((({ data := #[108, 105, 115, 116, 32] } : ByteArray) ++ sa1) ++ ({ data := #[32] } : ByteArray)) ++ decS na2 ++ ({ data := #[10] } : ByteArray)))), .fz 7 la3, .v (.int .i64 (la3.length : Int)), .v (.int .i64 0)]) r3 ?_
   simp -implicitDefEqProofs only [rdl, Ex.same, Nat.beq]
   exact Evt.ret' (by rw [c2]; rfl)
  ·have zz : ({ data := #[116, 101, 108, 108, 32] } : ByteArray).size = 5 := rfl
   have hA : ((((({ data := #[116, 101, 108, 108, 32] } : ByteArray) ++ sa1) ++ ({ data := #[32] } : ByteArray)) ++ decS na2 ++ ({ data := #[10] } : ByteArray))).size ≤ 1000 := by simp only [ByteArray.size_append, z32, z10, zz]; omega
   obtain ⟨r1, r2⟩ := runs7 (SK := SK) (sa1 := sa1) (na0 := na0) (na2 := na2) (la3 := la3) (Int.le_refl 0) pa4 hr hA
   have r3 := works7 (SK := SK) (sa1 := sa1) (na0 := na0) (na2 := na2) (la4 := la4) pa3 hw (a := runsT la4 ((((({ data := #[116, 101, 108, 108, 32] } : ByteArray) ++ sa1) ++ ({ data := #[32] } : ByteArray)) ++ decS na2 ++ ({ data := #[10] } : ByteArray)))) (by omega)
   refine ev_tst (sz_le (by simp only [ByteArray.size_append, z32, z10, zz, maxLen]; omega)) ?_
   refine ev_tst (sz_le (by simp only [ByteArray.size_append, z32, z10, zz, maxLen]; omega)) ?_
   refine ev_call (f18 (small (by omega) (by omega))) ?_
   simp -implicitDefEqProofs only [rdl, Ex.same, Nat.beq]
   refine ev_tst (sz_le (by simp only [ByteArray.size_append, z32, z10, zz, maxLen]; omega)) ?_
   refine ev_tst (sz_le (by simp only [ByteArray.size_append, z32, z10, zz, maxLen]; omega)) ?_
   refine ev_aft (L := fun d n => l7x0 (TabD (fs SK) d) d n [.b [.v (.int .i64 na0), .v (.string sa1), .v (.int .i64 na2), .fz 7 la3, .fz 2 la4], .v (.string (((({ data := #[116, 101, 108, 108, 32] } : ByteArray) ++ sa1) ++ ({ data := #[32] } : ByteArray)) ++ decS na2 ++ ({ data := #[10] } : ByteArray))), .fz 2 la4, .v (.int .i64 (la4.length : Int)), .v (.int .i64 0)]) r1 ?_
   simp -implicitDefEqProofs only [rdl, Ex.same, Nat.beq]
   refine ev_aft (L := fun d n => l7x1 (TabD (fs SK) d) d n [.v (.string (runsT la4 (((({ data := #[116, 101, 108, 108, 32] } : ByteArray) ++ sa1) ++ ({ data := #[32] } : ByteArray)) ++ decS na2 ++ ({ data := #[10] } : ByteArray)))), .fz 7 la3, .v (.int .i64 (la3.length : Int)), .v (.int .i64 0)]) r3 ?_
   simp -implicitDefEqProofs only [rdl, Ex.same, Nat.beq]
   exact Evt.ret' (by rw [c2]; rfl)
end Go.Am.Fm
