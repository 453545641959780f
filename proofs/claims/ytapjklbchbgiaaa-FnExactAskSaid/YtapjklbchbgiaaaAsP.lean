/- What the functions say that look whether names, runs, values and works are right. Nothing is assumed. -/
import Derived.Test.YtapjklbchbgiaaaAsH
namespace Go.Am.As
set_option linter.unusedVariables false
set_option linter.unusedSimpArgs false
set_option maxRecDepth 8000
theorem f78 (n lo hi : Int) : Ev fs 78 [.d (.v (.int .i64 n)), .d (.v (.int .i64 lo)), .d (.v (.int .i64 hi))] (bo (inB n lo hi)) := by
  refine Ev.of (af := a78) rfl rfl (Evt.congr (fun d n => a78q ..) ?_)
  refine ev_if (fun c1 => ?_) (fun c1 => ?_)
  · exact Evt.ret' (by first | (simp_all [inB]; done) | (simp_all [inB]; omega) | (simp_all [inB]; congr))
  · exact Evt.ret' (by first | (simp_all [inB]; done) | (simp_all [inB]; omega) | (simp_all [inB]; congr))
theorem f85 (n lo hi : Int) : Ev fs 85 [.d (.v (.int .i64 n)), .d (.v (.int .i64 lo)), .d (.v (.int .i64 hi))] (bo (inB n lo hi)) := by
  refine Ev.of (af := a85) rfl rfl (Evt.congr (fun d n => a85q ..) ?_)
  refine ev_if (fun c1 => ?_) (fun c1 => ?_)
  · exact Evt.ret' (by first | (simp_all [inB]; done) | (simp_all [inB]; omega) | (simp_all [inB]; congr))
  · exact Evt.ret' (by first | (simp_all [inB]; done) | (simp_all [inB]; omega) | (simp_all [inB]; congr))
theorem f108 (n : Int) : Ev fs 108 [.d (.v (.int .i64 n))] (bo (inB n 0 10000)) := by
  refine Ev.of (af := a108) rfl rfl (Evt.congr (fun d n => a108q ..) ?_)
  refine ev_call (f85 _ _ _) ?_
  simp -implicitDefEqProofs only [cI, cB, cS, cL, oD_d, oG_g, oT_t, oP_p, dI_v, dB_v, dS_v, dL_s, cell_z, cell_s, nth_z, nth_s, aV_z, aV_s, aI_v, aB_v, aS_v, aL_f, aO_o, aX_b, tst_t, cond_true, cond_false, Ex.same, Nat.beq, List.length_cons, List.length_nil, Int.toNat_natCast, beqTT, beqTF, beqFT, beqFF]
  exact Evt.ret
theorem f77 {s : ByteArray} (hs : s.size ≤ maxLen) : Ev fs 77 [.d (.v (.string s))] (bo (nameOk s)) := by
  refine Ev.of (af := a77) rfl rfl (Evt.congr (fun d n => a77q ..) ?_)
  refine ev_aft (L := fun d n => l77x0 (TabD fs d) d n [(.v (.string s)), (.v (.int .i64 0))]) (all_loop (L := fun d n i => l77x0 (TabD fs d) d n [(.v (.string s)), (.v (.int .i64 i))]) (n := s.size) (p := fun i => nameCh (s.toList[i]?.getD 0)) (y := (.exit 0, [.v (.string s)])) (z := (.ret, [.v (.bool false)])) (fun d m => ?_) (fun i hi => ?_)) ?_
  · rw [l77x0s]
    simp -implicitDefEqProofs only [cI, cB, cS, cL, oD_d, oG_g, oT_t, oP_p, dI_v, dB_v, dS_v, dL_s, cell_z, cell_s, nth_z, nth_s, aV_z, aV_s, aI_v, aB_v, aS_v, aL_f, aO_o, aX_b, tst_t, cond_true, cond_false, Ex.same, Nat.beq, List.length_cons, List.length_nil, Int.toNat_natCast, beqTT, beqTF, beqFT, beqFF, Int.lt_irrefl, decide_false]
  · obtain ⟨b, hb⟩ := byte_get hi
    have hw := wrap_succ hi hs
    simp only [l77x0s, hb, Option.getD_some]
    simp -implicitDefEqProofs only [cI, cB, cS, cL, oD_d, oG_g, oT_t, oP_p, dI_v, dB_v, dS_v, dL_s, cell_z, cell_s, nth_z, nth_s, aV_z, aV_s, aI_v, aB_v, aS_v, aL_f, aO_o, aX_b, tst_t, cond_true, cond_false, Ex.same, Nat.beq, List.length_cons, List.length_nil, Int.toNat_natCast, beqTT, beqTF, beqFT, beqFF, decide_eq_true (Int.ofNat_lt.2 hi), dec_nn, byteAt_at hb, hw, byte_wrap]
    intro res k k'
    refine ev_call (f78 _ _ _) ?_
    simp -implicitDefEqProofs only [cI, cB, cS, cL, oD_d, oG_g, oT_t, oP_p, dI_v, dB_v, dS_v, dL_s, cell_z, cell_s, nth_z, nth_s, aV_z, aV_s, aI_v, aB_v, aS_v, aL_f, aO_o, aX_b, tst_t, cond_true, cond_false, Ex.same, Nat.beq, List.length_cons, List.length_nil, Int.toNat_natCast, beqTT, beqTF, beqFT, beqFF, dec_nn, byteAt_at hb, byte_wrap, Bool.not_false, Bool.not_true, cond_true, cond_false]
    refine ev_if (fun c1 => ?_) (fun c1 => ?_)
    · refine ev_call (f78 _ _ _) ?_
      simp -implicitDefEqProofs only [cI, cB, cS, cL, oD_d, oG_g, oT_t, oP_p, dI_v, dB_v, dS_v, dL_s, cell_z, cell_s, nth_z, nth_s, aV_z, aV_s, aI_v, aB_v, aS_v, aL_f, aO_o, aX_b, tst_t, cond_true, cond_false, Ex.same, Nat.beq, List.length_cons, List.length_nil, Int.toNat_natCast, beqTT, beqTF, beqFT, beqFF, dec_nn, byteAt_at hb, byte_wrap, Bool.not_false, Bool.not_true, cond_true, cond_false]
      refine ev_if (fun c2 => ?_) (fun c2 => ?_)
      · refine ev_if (fun c3 => ?_) (fun c3 => ?_)
        · exact Evt.ret' (k' (by first | (simp_all [nameCh, inB]; done) | (simp_all [nameCh, inB]; omega) | (simp_all [nameCh, inB]; congr)))
        · exact k (by first | (simp_all [nameCh, inB]; done) | (simp_all [nameCh, inB]; omega) | (simp_all [nameCh, inB]; congr))
      · exact k (by first | (simp_all [nameCh, inB]; done) | (simp_all [nameCh, inB]; omega) | (simp_all [nameCh, inB]; congr))
    · exact k (by first | (simp_all [nameCh, inB]; done) | (simp_all [nameCh, inB]; omega) | (simp_all [nameCh, inB]; congr))
  · cases hq : allN s.size (fun i => nameCh (s.toList[i]?.getD 0)) with
    | false =>
      simp -implicitDefEqProofs only [cI, cB, cS, cL, oD_d, oG_g, oT_t, oP_p, dI_v, dB_v, dS_v, dL_s, cell_z, cell_s, nth_z, nth_s, aV_z, aV_s, aI_v, aB_v, aS_v, aL_f, aO_o, aX_b, tst_t, cond_true, cond_false, Ex.same, Nat.beq, List.length_cons, List.length_nil, Int.toNat_natCast, beqTT, beqTF, beqFT, beqFF]
      exact Evt.ret' (by simp [nameOk, hq])
    | true =>
      simp -implicitDefEqProofs only [cI, cB, cS, cL, oD_d, oG_g, oT_t, oP_p, dI_v, dB_v, dS_v, dL_s, cell_z, cell_s, nth_z, nth_s, aV_z, aV_s, aI_v, aB_v, aS_v, aL_f, aO_o, aX_b, tst_t, cond_true, cond_false, Ex.same, Nat.beq, List.length_cons, List.length_nil, Int.toNat_natCast, beqTT, beqTF, beqFT, beqFF]
      refine ev_call (f78 _ _ _) ?_
      simp -implicitDefEqProofs only [cI, cB, cS, cL, oD_d, oG_g, oT_t, oP_p, dI_v, dB_v, dS_v, dL_s, cell_z, cell_s, nth_z, nth_s, aV_z, aV_s, aI_v, aB_v, aS_v, aL_f, aO_o, aX_b, tst_t, cond_true, cond_false, Ex.same, Nat.beq, List.length_cons, List.length_nil, Int.toNat_natCast, beqTT, beqTF, beqFT, beqFF]
      refine ev_if (fun c1 => ?_) (fun c1 => ?_)
      · have c1' : inB (s.size : Int) 1 20 = true := by simpa using c1
        have hs0 : 0 < s.size := by simp [inB] at c1'; omega
        obtain ⟨b0, hb0⟩ := byte_get hs0
        obtain ⟨b1, hb1⟩ := byte_get (s := s) (i := s.size - 1) (by omega)
        have hp : IntKind.i64.wrap ((s.size : Int) - 1) = ((s.size - 1 : Nat) : Int) := by
          rw [wrap_i64 (by omega) (by simp only [maxLen] at hs; omega)]
          omega
        simp -implicitDefEqProofs only [cI, cB, cS, cL, oD_d, oG_g, oT_t, oP_p, dI_v, dB_v, dS_v, dL_s, cell_z, cell_s, nth_z, nth_s, aV_z, aV_s, aI_v, aB_v, aS_v, aL_f, aO_o, aX_b, tst_t, cond_true, cond_false, Ex.same, Nat.beq, List.length_cons, List.length_nil, Int.toNat_natCast, beqTT, beqTF, beqFT, beqFF, show decide ((0 : Nat) ≤ 0) = true from rfl, show decide ((0 : Int) ≤ 0) = true from rfl, show Int.toNat 0 = 0 from rfl, byteAt_at hb0, hp, dec_nn, byteAt_at hb1]
        refine ev_if (fun c2 => ?_) (fun c2 => ?_)
        · exact Evt.ret' (by simp_all [nameOk, byteOf])
        · exact Evt.ret' (by simp_all [nameOk, byteOf])
      · exact Evt.ret' (by simp_all [nameOk])
theorem f84 {s : ByteArray} (hs : s.size ≤ maxLen) : Ev fs 84 [.d (.v (.string s))] (bo (nameOk s)) := by
  refine Ev.of (af := a84) rfl rfl (Evt.congr (fun d n => a84q ..) ?_)
  refine ev_aft (L := fun d n => l84x0 (TabD fs d) d n [(.v (.string s)), (.v (.int .i64 (s.size : Int))), (.v (.int .i64 0))]) (all_loop (L := fun d n i => l84x0 (TabD fs d) d n [(.v (.string s)), (.v (.int .i64 (s.size : Int))), (.v (.int .i64 i))]) (n := s.size) (p := fun i => nameCh (s.toList[i]?.getD 0)) (y := (.exit 0, [.v (.string s)])) (z := (.ret, [.v (.bool false)])) (fun d m => ?_) (fun i hi => ?_)) ?_
  · rw [l84x0s]
    simp -implicitDefEqProofs only [cI, cB, cS, cL, oD_d, oG_g, oT_t, oP_p, dI_v, dB_v, dS_v, dL_s, cell_z, cell_s, nth_z, nth_s, aV_z, aV_s, aI_v, aB_v, aS_v, aL_f, aO_o, aX_b, tst_t, cond_true, cond_false, Ex.same, Nat.beq, List.length_cons, List.length_nil, Int.toNat_natCast, beqTT, beqTF, beqFT, beqFF, Int.lt_irrefl, decide_false]
  · obtain ⟨b, hb⟩ := byte_get hi
    have hw := wrap_succ hi hs
    simp only [l84x0s, hb, Option.getD_some]
    simp -implicitDefEqProofs only [cI, cB, cS, cL, oD_d, oG_g, oT_t, oP_p, dI_v, dB_v, dS_v, dL_s, cell_z, cell_s, nth_z, nth_s, aV_z, aV_s, aI_v, aB_v, aS_v, aL_f, aO_o, aX_b, tst_t, cond_true, cond_false, Ex.same, Nat.beq, List.length_cons, List.length_nil, Int.toNat_natCast, beqTT, beqTF, beqFT, beqFF, decide_eq_true (Int.ofNat_lt.2 hi), dec_nn, byteAt_at hb, hw, byte_wrap]
    intro res k k'
    refine ev_if (fun c1 => ?_) (fun c1 => ?_)
    · refine ev_if (fun c2 => ?_) (fun c2 => ?_)
      · refine ev_if (fun c3 => ?_) (fun c3 => ?_)
        · refine ev_if (fun c4 => ?_) (fun c4 => ?_)
          · refine ev_if (fun c5 => ?_) (fun c5 => ?_)
            · exact Evt.ret' (k' (by first | (simp_all [nameCh, inB]; done) | (simp_all [nameCh, inB]; omega) | (simp_all [nameCh, inB]; congr)))
            · exact k (by first | (simp_all [nameCh, inB]; done) | (simp_all [nameCh, inB]; omega) | (simp_all [nameCh, inB]; congr))
          · exact k (by first | (simp_all [nameCh, inB]; done) | (simp_all [nameCh, inB]; omega) | (simp_all [nameCh, inB]; congr))
        · refine ev_if (fun c6 => ?_) (fun c6 => ?_)
          · exact Evt.ret' (k' (by first | (simp_all [nameCh, inB]; done) | (simp_all [nameCh, inB]; omega) | (simp_all [nameCh, inB]; congr)))
          · exact k (by first | (simp_all [nameCh, inB]; done) | (simp_all [nameCh, inB]; omega) | (simp_all [nameCh, inB]; congr))
      · exact k (by first | (simp_all [nameCh, inB]; done) | (simp_all [nameCh, inB]; omega) | (simp_all [nameCh, inB]; congr))
    · refine ev_if (fun c7 => ?_) (fun c7 => ?_)
      · refine ev_if (fun c8 => ?_) (fun c8 => ?_)
        · refine ev_if (fun c9 => ?_) (fun c9 => ?_)
          · exact Evt.ret' (k' (by first | (simp_all [nameCh, inB]; done) | (simp_all [nameCh, inB]; omega) | (simp_all [nameCh, inB]; congr)))
          · exact k (by first | (simp_all [nameCh, inB]; done) | (simp_all [nameCh, inB]; omega) | (simp_all [nameCh, inB]; congr))
        · exact k (by first | (simp_all [nameCh, inB]; done) | (simp_all [nameCh, inB]; omega) | (simp_all [nameCh, inB]; congr))
      · refine ev_if (fun c10 => ?_) (fun c10 => ?_)
        · exact Evt.ret' (k' (by first | (simp_all [nameCh, inB]; done) | (simp_all [nameCh, inB]; omega) | (simp_all [nameCh, inB]; congr)))
        · exact k (by first | (simp_all [nameCh, inB]; done) | (simp_all [nameCh, inB]; omega) | (simp_all [nameCh, inB]; congr))
  · cases hq : allN s.size (fun i => nameCh (s.toList[i]?.getD 0)) with
    | false =>
      simp -implicitDefEqProofs only [cI, cB, cS, cL, oD_d, oG_g, oT_t, oP_p, dI_v, dB_v, dS_v, dL_s, cell_z, cell_s, nth_z, nth_s, aV_z, aV_s, aI_v, aB_v, aS_v, aL_f, aO_o, aX_b, tst_t, cond_true, cond_false, Ex.same, Nat.beq, List.length_cons, List.length_nil, Int.toNat_natCast, beqTT, beqTF, beqFT, beqFF]
      exact Evt.ret' (by simp [nameOk, hq])
    | true =>
      simp -implicitDefEqProofs only [cI, cB, cS, cL, oD_d, oG_g, oT_t, oP_p, dI_v, dB_v, dS_v, dL_s, cell_z, cell_s, nth_z, nth_s, aV_z, aV_s, aI_v, aB_v, aS_v, aL_f, aO_o, aX_b, tst_t, cond_true, cond_false, Ex.same, Nat.beq, List.length_cons, List.length_nil, Int.toNat_natCast, beqTT, beqTF, beqFT, beqFF]
      refine ev_call (f85 _ _ _) ?_
      simp -implicitDefEqProofs only [cI, cB, cS, cL, oD_d, oG_g, oT_t, oP_p, dI_v, dB_v, dS_v, dL_s, cell_z, cell_s, nth_z, nth_s, aV_z, aV_s, aI_v, aB_v, aS_v, aL_f, aO_o, aX_b, tst_t, cond_true, cond_false, Ex.same, Nat.beq, List.length_cons, List.length_nil, Int.toNat_natCast, beqTT, beqTF, beqFT, beqFF]
      refine ev_if (fun c1 => ?_) (fun c1 => ?_)
      · have c1' : inB (s.size : Int) 1 20 = true := by simpa using c1
        have hs0 : 0 < s.size := by simp [inB] at c1'; omega
        obtain ⟨b0, hb0⟩ := byte_get hs0
        obtain ⟨b1, hb1⟩ := byte_get (s := s) (i := s.size - 1) (by omega)
        have hp : IntKind.i64.wrap ((s.size : Int) - 1) = ((s.size - 1 : Nat) : Int) := by
          rw [wrap_i64 (by omega) (by simp only [maxLen] at hs; omega)]
          omega
        simp -implicitDefEqProofs only [cI, cB, cS, cL, oD_d, oG_g, oT_t, oP_p, dI_v, dB_v, dS_v, dL_s, cell_z, cell_s, nth_z, nth_s, aV_z, aV_s, aI_v, aB_v, aS_v, aL_f, aO_o, aX_b, tst_t, cond_true, cond_false, Ex.same, Nat.beq, List.length_cons, List.length_nil, Int.toNat_natCast, beqTT, beqTF, beqFT, beqFF, show decide ((0 : Nat) ≤ 0) = true from rfl, show decide ((0 : Int) ≤ 0) = true from rfl, show Int.toNat 0 = 0 from rfl, byteAt_at hb0, hp, dec_nn, byteAt_at hb1]
        refine ev_if (fun c2 => ?_) (fun c2 => ?_)
        · exact Evt.ret' (by simp_all [nameOk, byteOf])
        · exact Evt.ret' (by simp_all [nameOk, byteOf])
      · exact Evt.ret' (by simp_all [nameOk])
theorem f183 {l : Rows} (hl : SL E 9 l) (u : Int) : Ev fs 183 [.d (.s 1 l), .d (.v (.int .i64 u))] (bo (namesOk l u)) := by
  refine Ev.of (af := a183) rfl rfl (Evt.congr (fun d n => a183q ..) ?_)
  refine ev_aft (L := fun d n => l183x0 (TabD fs d) d n [(.fz 1 l), (.v (.int .i64 u)), (.fz 1 l), (.v (.int .i64 (l.length : Int))), (.v (.int .i64 0))]) (all_loop (L := fun d n i => l183x0 (TabD fs d) d n [(.fz 1 l), (.v (.int .i64 u)), (.fz 1 l), (.v (.int .i64 (l.length : Int))), (.v (.int .i64 i))]) (n := l.length) (p := fun i => nameOk (cT (row_ l i) 0) && chain (upT 0) l i) (y := (.exit 0, [(.fz 1 l), (.v (.int .i64 u))])) (z := (.ret, [.v (.bool false)])) (fun d m => ?_) (fun i hi => ?_)) ?_
  · rw [l183x0s]
    simp -implicitDefEqProofs only [cI, cB, cS, cL, oD_d, oG_g, oT_t, oP_p, dI_v, dB_v, dS_v, dL_s, cell_z, cell_s, nth_z, nth_s, aV_z, aV_s, aI_v, aB_v, aS_v, aL_f, aO_o, aX_b, tst_t, cond_true, cond_false, Ex.same, Nat.beq, List.length_cons, List.length_nil, Int.toNat_natCast, beqTT, beqTF, beqFT, beqFF, Int.lt_irrefl, decide_false]
  · have hx := List.getElem?_eq_getElem hi
    generalize l[i] = x at hx
    have h := hl.at hx
    have hw := wrap_succ hi hl.le
    rw [E9] at h
    obtain ⟨sx0, rx0, rfl, px0, h_x0⟩ := inv_s h
    cases inv_nil h_x0
    simp only [l183x0s, row_, hx, Option.getD_some, cN, cT, cR, cE, List.getElem?_cons_zero, List.getElem?_cons_succ, List.drop_succ_cons, List.drop_zero]
    cases i with
    | zero =>
      simp -implicitDefEqProofs only [cI, cB, cS, cL, oD_d, oG_g, oT_t, oP_p, dI_v, dB_v, dS_v, dL_s, cell_z, cell_s, nth_z, nth_s, aV_z, aV_s, aI_v, aB_v, aS_v, aL_f, aO_o, aX_b, tst_t, cond_true, cond_false, Ex.same, Nat.beq, List.length_cons, List.length_nil, Int.toNat_natCast, beqTT, beqTF, beqFT, beqFF, decide_eq_true (Int.ofNat_lt.2 hi), dec_nn, look_at hx, hw, pos_zero]
      simp only [chain]
      intro res k k'
      refine ev_call (f84 (by assumption)) ?_
      simp -implicitDefEqProofs only [cI, cB, cS, cL, oD_d, oG_g, oT_t, oP_p, dI_v, dB_v, dS_v, dL_s, cell_z, cell_s, nth_z, nth_s, aV_z, aV_s, aI_v, aB_v, aS_v, aL_f, aO_o, aX_b, tst_t, cond_true, cond_false, Ex.same, Nat.beq, List.length_cons, List.length_nil, Int.toNat_natCast, beqTT, beqTF, beqFT, beqFF, dec_nn, look_at hx, pos_zero, Bool.not_false, Bool.not_true, cond_true, cond_false]
      refine ev_if (fun c1 => ?_) (fun c1 => ?_)
      · exact k (by first | (simp_all [inB, upT, upN, cN, cT, cR]; done) | (simp_all [inB, upT, upN, cN, cT, cR]; omega) | (simp_all [inB, upT, upN, cN, cT, cR]; congr))
      · exact Evt.ret' (k' (by first | (simp_all [inB, upT, upN, cN, cT, cR]; done) | (simp_all [inB, upT, upN, cN, cT, cR]; omega) | (simp_all [inB, upT, upN, cN, cT, cR]; congr)))
    | succ j =>
      have hy := List.getElem?_eq_getElem (show j < l.length by omega)
      generalize l[j] = y at hy
      have hj := hl.at hy
      have hp := wrap_pred (j := j) (by have := hl.le; omega)
      rw [E9] at hj
      obtain ⟨sy0, ry0, rfl, py0, hj_y0⟩ := inv_s hj
      cases inv_nil hj_y0
      simp only [chain, row_, hx, hy, Option.getD_some, cN, cT, cR, cE, List.getElem?_cons_zero, List.getElem?_cons_succ]
      simp -implicitDefEqProofs only [cI, cB, cS, cL, oD_d, oG_g, oT_t, oP_p, dI_v, dB_v, dS_v, dL_s, cell_z, cell_s, nth_z, nth_s, aV_z, aV_s, aI_v, aB_v, aS_v, aL_f, aO_o, aX_b, tst_t, cond_true, cond_false, Ex.same, Nat.beq, List.length_cons, List.length_nil, Int.toNat_natCast, beqTT, beqTF, beqFT, beqFF, decide_eq_true (Int.ofNat_lt.2 hi), dec_nn, look_at hx, look_at hy, hw, hp, pos_succ]
      intro res k k'
      refine ev_call (f84 (by assumption)) ?_
      simp -implicitDefEqProofs only [cI, cB, cS, cL, oD_d, oG_g, oT_t, oP_p, dI_v, dB_v, dS_v, dL_s, cell_z, cell_s, nth_z, nth_s, aV_z, aV_s, aI_v, aB_v, aS_v, aL_f, aO_o, aX_b, tst_t, cond_true, cond_false, Ex.same, Nat.beq, List.length_cons, List.length_nil, Int.toNat_natCast, beqTT, beqTF, beqFT, beqFF, dec_nn, look_at hx, look_at hy, hp, pos_succ, Bool.not_false, Bool.not_true, cond_true, cond_false]
      refine ev_if (fun c1 => ?_) (fun c1 => ?_)
      · refine ev_if (fun c2 => ?_) (fun c2 => ?_)
        · exact Evt.ret' (k' (by first | (simp_all [inB, upT, upN, cN, cT, cR]; done) | (simp_all [inB, upT, upN, cN, cT, cR]; omega) | (simp_all [inB, upT, upN, cN, cT, cR]; congr)))
        · exact k (by first | (simp_all [inB, upT, upN, cN, cT, cR]; done) | (simp_all [inB, upT, upN, cN, cT, cR]; omega) | (simp_all [inB, upT, upN, cN, cT, cR]; congr))
      · exact Evt.ret' (k' (by first | (simp_all [inB, upT, upN, cN, cT, cR]; done) | (simp_all [inB, upT, upN, cN, cT, cR]; omega) | (simp_all [inB, upT, upN, cN, cT, cR]; congr)))
  · cases hq : allN l.length (fun i => nameOk (cT (row_ l i) 0) && chain (upT 0) l i) with
    | false =>
      simp -implicitDefEqProofs only [cI, cB, cS, cL, oD_d, oG_g, oT_t, oP_p, dI_v, dB_v, dS_v, dL_s, cell_z, cell_s, nth_z, nth_s, aV_z, aV_s, aI_v, aB_v, aS_v, aL_f, aO_o, aX_b, tst_t, cond_true, cond_false, Ex.same, Nat.beq, List.length_cons, List.length_nil, Int.toNat_natCast, beqTT, beqTF, beqFT, beqFF]
      exact Evt.ret' (by simp [namesOk, keysB, hq])
    | true =>
      simp -implicitDefEqProofs only [cI, cB, cS, cL, oD_d, oG_g, oT_t, oP_p, dI_v, dB_v, dS_v, dL_s, cell_z, cell_s, nth_z, nth_s, aV_z, aV_s, aI_v, aB_v, aS_v, aL_f, aO_o, aX_b, tst_t, cond_true, cond_false, Ex.same, Nat.beq, List.length_cons, List.length_nil, Int.toNat_natCast, beqTT, beqTF, beqFT, beqFF]
      exact Evt.ret' (by simp [namesOk, keysB, hq])
theorem f79 {l : Rows} (hl : SL E 127 l) (lo : Int) : Ev fs 79 [.d (.s 2 l), .d (.v (.int .i64 lo))] (bo (runsOk lo l)) := by
  refine Ev.of (af := a79) rfl rfl (Evt.congr (fun d n => a79q ..) ?_)
  refine ev_aft (L := fun d n => l79x0 (TabD fs d) d n [(.fz 2 l), (.v (.int .i64 lo)), (.v (.int .i64 0))]) (all_loop (L := fun d n i => l79x0 (TabD fs d) d n [(.fz 2 l), (.v (.int .i64 lo)), (.v (.int .i64 i))]) (n := l.length) (p := fun i => inB (cN (row_ l i) 0) 1 1000000 && (inB (cN (row_ l i) 1) lo 10000 && chain (upN 0) l i)) (y := (.exit 0, [(.fz 2 l)])) (z := (.ret, [.v (.bool false)])) (fun d m => ?_) (fun i hi => ?_)) ?_
  · rw [l79x0s]
    simp -implicitDefEqProofs only [cI, cB, cS, cL, oD_d, oG_g, oT_t, oP_p, dI_v, dB_v, dS_v, dL_s, cell_z, cell_s, nth_z, nth_s, aV_z, aV_s, aI_v, aB_v, aS_v, aL_f, aO_o, aX_b, tst_t, cond_true, cond_false, Ex.same, Nat.beq, List.length_cons, List.length_nil, Int.toNat_natCast, beqTT, beqTF, beqFT, beqFF, Int.lt_irrefl, decide_false]
  · have hx := List.getElem?_eq_getElem hi
    generalize l[i] = x at hx
    have h := hl.at hx
    have hw := wrap_succ hi hl.le
    rw [E127] at h
    obtain ⟨nx0, rx0, rfl, px0, h_x0⟩ := inv_i h
    obtain ⟨nx1, rx1, rfl, px1, h_x1⟩ := inv_i h_x0
    cases inv_nil h_x1
    simp only [l79x0s, row_, hx, Option.getD_some, cN, cT, cR, cE, List.getElem?_cons_zero, List.getElem?_cons_succ, List.drop_succ_cons, List.drop_zero]
    cases i with
    | zero =>
      simp -implicitDefEqProofs only [cI, cB, cS, cL, oD_d, oG_g, oT_t, oP_p, dI_v, dB_v, dS_v, dL_s, cell_z, cell_s, nth_z, nth_s, aV_z, aV_s, aI_v, aB_v, aS_v, aL_f, aO_o, aX_b, tst_t, cond_true, cond_false, Ex.same, Nat.beq, List.length_cons, List.length_nil, Int.toNat_natCast, beqTT, beqTF, beqFT, beqFF, decide_eq_true (Int.ofNat_lt.2 hi), dec_nn, look_at hx, hw, pos_zero]
      simp only [chain]
      intro res k k'
      refine ev_call (f78 _ _ _) ?_
      simp -implicitDefEqProofs only [cI, cB, cS, cL, oD_d, oG_g, oT_t, oP_p, dI_v, dB_v, dS_v, dL_s, cell_z, cell_s, nth_z, nth_s, aV_z, aV_s, aI_v, aB_v, aS_v, aL_f, aO_o, aX_b, tst_t, cond_true, cond_false, Ex.same, Nat.beq, List.length_cons, List.length_nil, Int.toNat_natCast, beqTT, beqTF, beqFT, beqFF, dec_nn, look_at hx, pos_zero, Bool.not_false, Bool.not_true, cond_true, cond_false]
      refine ev_if (fun c1 => ?_) (fun c1 => ?_)
      · refine ev_call (f78 _ _ _) ?_
        simp -implicitDefEqProofs only [cI, cB, cS, cL, oD_d, oG_g, oT_t, oP_p, dI_v, dB_v, dS_v, dL_s, cell_z, cell_s, nth_z, nth_s, aV_z, aV_s, aI_v, aB_v, aS_v, aL_f, aO_o, aX_b, tst_t, cond_true, cond_false, Ex.same, Nat.beq, List.length_cons, List.length_nil, Int.toNat_natCast, beqTT, beqTF, beqFT, beqFF, dec_nn, look_at hx, pos_zero, Bool.not_false, Bool.not_true, cond_true, cond_false]
        refine ev_if (fun c2 => ?_) (fun c2 => ?_)
        · exact k (by first | (simp_all [inB, upT, upN, cN, cT, cR]; done) | (simp_all [inB, upT, upN, cN, cT, cR]; omega) | (simp_all [inB, upT, upN, cN, cT, cR]; congr))
        · exact Evt.ret' (k' (by first | (simp_all [inB, upT, upN, cN, cT, cR]; done) | (simp_all [inB, upT, upN, cN, cT, cR]; omega) | (simp_all [inB, upT, upN, cN, cT, cR]; congr)))
      · exact Evt.ret' (k' (by first | (simp_all [inB, upT, upN, cN, cT, cR]; done) | (simp_all [inB, upT, upN, cN, cT, cR]; omega) | (simp_all [inB, upT, upN, cN, cT, cR]; congr)))
    | succ j =>
      have hy := List.getElem?_eq_getElem (show j < l.length by omega)
      generalize l[j] = y at hy
      have hj := hl.at hy
      have hp := wrap_pred (j := j) (by have := hl.le; omega)
      rw [E127] at hj
      obtain ⟨ny0, ry0, rfl, py0, hj_y0⟩ := inv_i hj
      obtain ⟨ny1, ry1, rfl, py1, hj_y1⟩ := inv_i hj_y0
      cases inv_nil hj_y1
      simp only [chain, row_, hx, hy, Option.getD_some, cN, cT, cR, cE, List.getElem?_cons_zero, List.getElem?_cons_succ]
      simp -implicitDefEqProofs only [cI, cB, cS, cL, oD_d, oG_g, oT_t, oP_p, dI_v, dB_v, dS_v, dL_s, cell_z, cell_s, nth_z, nth_s, aV_z, aV_s, aI_v, aB_v, aS_v, aL_f, aO_o, aX_b, tst_t, cond_true, cond_false, Ex.same, Nat.beq, List.length_cons, List.length_nil, Int.toNat_natCast, beqTT, beqTF, beqFT, beqFF, decide_eq_true (Int.ofNat_lt.2 hi), dec_nn, look_at hx, look_at hy, hw, hp, pos_succ]
      intro res k k'
      refine ev_call (f78 _ _ _) ?_
      simp -implicitDefEqProofs only [cI, cB, cS, cL, oD_d, oG_g, oT_t, oP_p, dI_v, dB_v, dS_v, dL_s, cell_z, cell_s, nth_z, nth_s, aV_z, aV_s, aI_v, aB_v, aS_v, aL_f, aO_o, aX_b, tst_t, cond_true, cond_false, Ex.same, Nat.beq, List.length_cons, List.length_nil, Int.toNat_natCast, beqTT, beqTF, beqFT, beqFF, dec_nn, look_at hx, look_at hy, hp, pos_succ, Bool.not_false, Bool.not_true, cond_true, cond_false]
      refine ev_if (fun c1 => ?_) (fun c1 => ?_)
      · refine ev_call (f78 _ _ _) ?_
        simp -implicitDefEqProofs only [cI, cB, cS, cL, oD_d, oG_g, oT_t, oP_p, dI_v, dB_v, dS_v, dL_s, cell_z, cell_s, nth_z, nth_s, aV_z, aV_s, aI_v, aB_v, aS_v, aL_f, aO_o, aX_b, tst_t, cond_true, cond_false, Ex.same, Nat.beq, List.length_cons, List.length_nil, Int.toNat_natCast, beqTT, beqTF, beqFT, beqFF, dec_nn, look_at hx, look_at hy, hp, pos_succ, Bool.not_false, Bool.not_true, cond_true, cond_false]
        refine ev_if (fun c2 => ?_) (fun c2 => ?_)
        · refine ev_if (fun c3 => ?_) (fun c3 => ?_)
          · exact Evt.ret' (k' (by first | (simp_all [inB, upT, upN, cN, cT, cR]; done) | (simp_all [inB, upT, upN, cN, cT, cR]; omega) | (simp_all [inB, upT, upN, cN, cT, cR]; congr)))
          · exact k (by first | (simp_all [inB, upT, upN, cN, cT, cR]; done) | (simp_all [inB, upT, upN, cN, cT, cR]; omega) | (simp_all [inB, upT, upN, cN, cT, cR]; congr))
        · exact Evt.ret' (k' (by first | (simp_all [inB, upT, upN, cN, cT, cR]; done) | (simp_all [inB, upT, upN, cN, cT, cR]; omega) | (simp_all [inB, upT, upN, cN, cT, cR]; congr)))
      · exact Evt.ret' (k' (by first | (simp_all [inB, upT, upN, cN, cT, cR]; done) | (simp_all [inB, upT, upN, cN, cT, cR]; omega) | (simp_all [inB, upT, upN, cN, cT, cR]; congr)))
  · cases hq : allN l.length (fun i => inB (cN (row_ l i) 0) 1 1000000 && (inB (cN (row_ l i) 1) lo 10000 && chain (upN 0) l i)) with
    | false =>
      simp -implicitDefEqProofs only [cI, cB, cS, cL, oD_d, oG_g, oT_t, oP_p, dI_v, dB_v, dS_v, dL_s, cell_z, cell_s, nth_z, nth_s, aV_z, aV_s, aI_v, aB_v, aS_v, aL_f, aO_o, aX_b, tst_t, cond_true, cond_false, Ex.same, Nat.beq, List.length_cons, List.length_nil, Int.toNat_natCast, beqTT, beqTF, beqFT, beqFF]
      exact Evt.ret' (by simp [runsOk, hq])
    | true =>
      simp -implicitDefEqProofs only [cI, cB, cS, cL, oD_d, oG_g, oT_t, oP_p, dI_v, dB_v, dS_v, dL_s, cell_z, cell_s, nth_z, nth_s, aV_z, aV_s, aI_v, aB_v, aS_v, aL_f, aO_o, aX_b, tst_t, cond_true, cond_false, Ex.same, Nat.beq, List.length_cons, List.length_nil, Int.toNat_natCast, beqTT, beqTF, beqFT, beqFF]
      exact Evt.ret' (by simp [runsOk, hq])
theorem f86 {l : Rows} (hl : SL E 127 l) : Ev fs 86 [.d (.s 2 l)] (bo (runsOk 0 l)) := by
  refine Ev.of (af := a86) rfl rfl (Evt.congr (fun d n => a86q ..) ?_)
  refine ev_aft (L := fun d n => l86x0 (TabD fs d) d n [(.fz 2 l), (.fz 2 l), (.v (.int .i64 (l.length : Int))), (.v (.int .i64 0))]) (all_loop (L := fun d n i => l86x0 (TabD fs d) d n [(.fz 2 l), (.fz 2 l), (.v (.int .i64 (l.length : Int))), (.v (.int .i64 i))]) (n := l.length) (p := fun i => inB (cN (row_ l i) 0) 1 1000000 && (inB (cN (row_ l i) 1) 0 10000 && chain (upN 0) l i)) (y := (.exit 0, [(.fz 2 l)])) (z := (.ret, [.v (.bool false)])) (fun d m => ?_) (fun i hi => ?_)) ?_
  · rw [l86x0s]
    simp -implicitDefEqProofs only [cI, cB, cS, cL, oD_d, oG_g, oT_t, oP_p, dI_v, dB_v, dS_v, dL_s, cell_z, cell_s, nth_z, nth_s, aV_z, aV_s, aI_v, aB_v, aS_v, aL_f, aO_o, aX_b, tst_t, cond_true, cond_false, Ex.same, Nat.beq, List.length_cons, List.length_nil, Int.toNat_natCast, beqTT, beqTF, beqFT, beqFF, Int.lt_irrefl, decide_false]
  · have hx := List.getElem?_eq_getElem hi
    generalize l[i] = x at hx
    have h := hl.at hx
    have hw := wrap_succ hi hl.le
    rw [E127] at h
    obtain ⟨nx0, rx0, rfl, px0, h_x0⟩ := inv_i h
    obtain ⟨nx1, rx1, rfl, px1, h_x1⟩ := inv_i h_x0
    cases inv_nil h_x1
    simp only [l86x0s, row_, hx, Option.getD_some, cN, cT, cR, cE, List.getElem?_cons_zero, List.getElem?_cons_succ, List.drop_succ_cons, List.drop_zero]
    cases i with
    | zero =>
      simp -implicitDefEqProofs only [cI, cB, cS, cL, oD_d, oG_g, oT_t, oP_p, dI_v, dB_v, dS_v, dL_s, cell_z, cell_s, nth_z, nth_s, aV_z, aV_s, aI_v, aB_v, aS_v, aL_f, aO_o, aX_b, tst_t, cond_true, cond_false, Ex.same, Nat.beq, List.length_cons, List.length_nil, Int.toNat_natCast, beqTT, beqTF, beqFT, beqFF, decide_eq_true (Int.ofNat_lt.2 hi), dec_nn, look_at hx, hw, pos_zero]
      simp only [chain]
      intro res k k'
      refine ev_call (f85 _ _ _) ?_
      simp -implicitDefEqProofs only [cI, cB, cS, cL, oD_d, oG_g, oT_t, oP_p, dI_v, dB_v, dS_v, dL_s, cell_z, cell_s, nth_z, nth_s, aV_z, aV_s, aI_v, aB_v, aS_v, aL_f, aO_o, aX_b, tst_t, cond_true, cond_false, Ex.same, Nat.beq, List.length_cons, List.length_nil, Int.toNat_natCast, beqTT, beqTF, beqFT, beqFF, dec_nn, look_at hx, pos_zero, Bool.not_false, Bool.not_true, cond_true, cond_false]
      refine ev_if (fun c1 => ?_) (fun c1 => ?_)
      · refine ev_call (f108 _) ?_
        simp -implicitDefEqProofs only [cI, cB, cS, cL, oD_d, oG_g, oT_t, oP_p, dI_v, dB_v, dS_v, dL_s, cell_z, cell_s, nth_z, nth_s, aV_z, aV_s, aI_v, aB_v, aS_v, aL_f, aO_o, aX_b, tst_t, cond_true, cond_false, Ex.same, Nat.beq, List.length_cons, List.length_nil, Int.toNat_natCast, beqTT, beqTF, beqFT, beqFF, dec_nn, look_at hx, pos_zero, Bool.not_false, Bool.not_true, cond_true, cond_false]
        refine ev_if (fun c2 => ?_) (fun c2 => ?_)
        · exact k (by first | (simp_all [inB, upT, upN, cN, cT, cR]; done) | (simp_all [inB, upT, upN, cN, cT, cR]; omega) | (simp_all [inB, upT, upN, cN, cT, cR]; congr))
        · exact Evt.ret' (k' (by first | (simp_all [inB, upT, upN, cN, cT, cR]; done) | (simp_all [inB, upT, upN, cN, cT, cR]; omega) | (simp_all [inB, upT, upN, cN, cT, cR]; congr)))
      · exact Evt.ret' (k' (by first | (simp_all [inB, upT, upN, cN, cT, cR]; done) | (simp_all [inB, upT, upN, cN, cT, cR]; omega) | (simp_all [inB, upT, upN, cN, cT, cR]; congr)))
    | succ j =>
      have hy := List.getElem?_eq_getElem (show j < l.length by omega)
      generalize l[j] = y at hy
      have hj := hl.at hy
      have hp := wrap_pred (j := j) (by have := hl.le; omega)
      rw [E127] at hj
      obtain ⟨ny0, ry0, rfl, py0, hj_y0⟩ := inv_i hj
      obtain ⟨ny1, ry1, rfl, py1, hj_y1⟩ := inv_i hj_y0
      cases inv_nil hj_y1
      simp only [chain, row_, hx, hy, Option.getD_some, cN, cT, cR, cE, List.getElem?_cons_zero, List.getElem?_cons_succ]
      simp -implicitDefEqProofs only [cI, cB, cS, cL, oD_d, oG_g, oT_t, oP_p, dI_v, dB_v, dS_v, dL_s, cell_z, cell_s, nth_z, nth_s, aV_z, aV_s, aI_v, aB_v, aS_v, aL_f, aO_o, aX_b, tst_t, cond_true, cond_false, Ex.same, Nat.beq, List.length_cons, List.length_nil, Int.toNat_natCast, beqTT, beqTF, beqFT, beqFF, decide_eq_true (Int.ofNat_lt.2 hi), dec_nn, look_at hx, look_at hy, hw, hp, pos_succ]
      intro res k k'
      refine ev_call (f85 _ _ _) ?_
      simp -implicitDefEqProofs only [cI, cB, cS, cL, oD_d, oG_g, oT_t, oP_p, dI_v, dB_v, dS_v, dL_s, cell_z, cell_s, nth_z, nth_s, aV_z, aV_s, aI_v, aB_v, aS_v, aL_f, aO_o, aX_b, tst_t, cond_true, cond_false, Ex.same, Nat.beq, List.length_cons, List.length_nil, Int.toNat_natCast, beqTT, beqTF, beqFT, beqFF, dec_nn, look_at hx, look_at hy, hp, pos_succ, Bool.not_false, Bool.not_true, cond_true, cond_false]
      refine ev_if (fun c1 => ?_) (fun c1 => ?_)
      · refine ev_call (f108 _) ?_
        simp -implicitDefEqProofs only [cI, cB, cS, cL, oD_d, oG_g, oT_t, oP_p, dI_v, dB_v, dS_v, dL_s, cell_z, cell_s, nth_z, nth_s, aV_z, aV_s, aI_v, aB_v, aS_v, aL_f, aO_o, aX_b, tst_t, cond_true, cond_false, Ex.same, Nat.beq, List.length_cons, List.length_nil, Int.toNat_natCast, beqTT, beqTF, beqFT, beqFF, dec_nn, look_at hx, look_at hy, hp, pos_succ, Bool.not_false, Bool.not_true, cond_true, cond_false]
        refine ev_if (fun c2 => ?_) (fun c2 => ?_)
        · refine ev_if (fun c3 => ?_) (fun c3 => ?_)
          · exact Evt.ret' (k' (by first | (simp_all [inB, upT, upN, cN, cT, cR]; done) | (simp_all [inB, upT, upN, cN, cT, cR]; omega) | (simp_all [inB, upT, upN, cN, cT, cR]; congr)))
          · exact k (by first | (simp_all [inB, upT, upN, cN, cT, cR]; done) | (simp_all [inB, upT, upN, cN, cT, cR]; omega) | (simp_all [inB, upT, upN, cN, cT, cR]; congr))
        · exact Evt.ret' (k' (by first | (simp_all [inB, upT, upN, cN, cT, cR]; done) | (simp_all [inB, upT, upN, cN, cT, cR]; omega) | (simp_all [inB, upT, upN, cN, cT, cR]; congr)))
      · exact Evt.ret' (k' (by first | (simp_all [inB, upT, upN, cN, cT, cR]; done) | (simp_all [inB, upT, upN, cN, cT, cR]; omega) | (simp_all [inB, upT, upN, cN, cT, cR]; congr)))
  · cases hq : allN l.length (fun i => inB (cN (row_ l i) 0) 1 1000000 && (inB (cN (row_ l i) 1) 0 10000 && chain (upN 0) l i)) with
    | false =>
      simp -implicitDefEqProofs only [cI, cB, cS, cL, oD_d, oG_g, oT_t, oP_p, dI_v, dB_v, dS_v, dL_s, cell_z, cell_s, nth_z, nth_s, aV_z, aV_s, aI_v, aB_v, aS_v, aL_f, aO_o, aX_b, tst_t, cond_true, cond_false, Ex.same, Nat.beq, List.length_cons, List.length_nil, Int.toNat_natCast, beqTT, beqTF, beqFT, beqFF]
      exact Evt.ret' (by simp [runsOk, hq])
    | true =>
      simp -implicitDefEqProofs only [cI, cB, cS, cL, oD_d, oG_g, oT_t, oP_p, dI_v, dB_v, dS_v, dL_s, cell_z, cell_s, nth_z, nth_s, aV_z, aV_s, aI_v, aB_v, aS_v, aL_f, aO_o, aX_b, tst_t, cond_true, cond_false, Ex.same, Nat.beq, List.length_cons, List.length_nil, Int.toNat_natCast, beqTT, beqTF, beqFT, beqFF]
      exact Evt.ret' (by simp [runsOk, hq])
theorem f166 {s : ByteArray} (hs : s.size ≤ maxLen) : Ev fs 166 [.d (.v (.string s))] (bo (textOk s)) := by
  refine Ev.of (af := a166) rfl rfl (Evt.congr (fun d n => a166q ..) ?_)
  refine ev_aft (L := fun d n => l166x0 (TabD fs d) d n [(.v (.string s)), (.v (.int .i64 0))]) (all_loop (L := fun d n i => l166x0 (TabD fs d) d n [(.v (.string s)), (.v (.int .i64 i))]) (n := s.size) (p := fun i => inB (byteOf s i) 32 126) (y := (.exit 0, [.v (.string s)])) (z := (.ret, [.v (.bool false)])) (fun d m => ?_) (fun i hi => ?_)) ?_
  · rw [l166x0s]
    simp -implicitDefEqProofs only [cI, cB, cS, cL, oD_d, oG_g, oT_t, oP_p, dI_v, dB_v, dS_v, dL_s, cell_z, cell_s, nth_z, nth_s, aV_z, aV_s, aI_v, aB_v, aS_v, aL_f, aO_o, aX_b, tst_t, cond_true, cond_false, Ex.same, Nat.beq, List.length_cons, List.length_nil, Int.toNat_natCast, beqTT, beqTF, beqFT, beqFF, Int.lt_irrefl, decide_false]
  · obtain ⟨b, hb⟩ := byte_get hi
    have hw := wrap_succ hi hs
    simp only [l166x0s, byteOf, hb, Option.getD_some]
    simp -implicitDefEqProofs only [cI, cB, cS, cL, oD_d, oG_g, oT_t, oP_p, dI_v, dB_v, dS_v, dL_s, cell_z, cell_s, nth_z, nth_s, aV_z, aV_s, aI_v, aB_v, aS_v, aL_f, aO_o, aX_b, tst_t, cond_true, cond_false, Ex.same, Nat.beq, List.length_cons, List.length_nil, Int.toNat_natCast, beqTT, beqTF, beqFT, beqFF, decide_eq_true (Int.ofNat_lt.2 hi), dec_nn, byteAt_at hb, hw, byte_wrap]
    intro res k k'
    refine ev_call (f78 _ _ _) ?_
    simp -implicitDefEqProofs only [cI, cB, cS, cL, oD_d, oG_g, oT_t, oP_p, dI_v, dB_v, dS_v, dL_s, cell_z, cell_s, nth_z, nth_s, aV_z, aV_s, aI_v, aB_v, aS_v, aL_f, aO_o, aX_b, tst_t, cond_true, cond_false, Ex.same, Nat.beq, List.length_cons, List.length_nil, Int.toNat_natCast, beqTT, beqTF, beqFT, beqFF, dec_nn, byteAt_at hb, byte_wrap, Bool.not_false, Bool.not_true, cond_true, cond_false]
    refine ev_if (fun c1 => ?_) (fun c1 => ?_)
    · exact Evt.ret' (k' (by first | (simp_all [inB]; done) | (simp_all [inB]; omega) | (simp_all [inB]; congr)))
    · exact k (by first | (simp_all [inB]; done) | (simp_all [inB]; omega) | (simp_all [inB]; congr))
  · cases hq : allN s.size (fun i => inB (byteOf s i) 32 126) with
    | false =>
      simp -implicitDefEqProofs only [cI, cB, cS, cL, oD_d, oG_g, oT_t, oP_p, dI_v, dB_v, dS_v, dL_s, cell_z, cell_s, nth_z, nth_s, aV_z, aV_s, aI_v, aB_v, aS_v, aL_f, aO_o, aX_b, tst_t, cond_true, cond_false, Ex.same, Nat.beq, List.length_cons, List.length_nil, Int.toNat_natCast, beqTT, beqTF, beqFT, beqFF]
      exact Evt.ret' (by simp [textOk, hq])
    | true =>
      simp -implicitDefEqProofs only [cI, cB, cS, cL, oD_d, oG_g, oT_t, oP_p, dI_v, dB_v, dS_v, dL_s, cell_z, cell_s, nth_z, nth_s, aV_z, aV_s, aI_v, aB_v, aS_v, aL_f, aO_o, aX_b, tst_t, cond_true, cond_false, Ex.same, Nat.beq, List.length_cons, List.length_nil, Int.toNat_natCast, beqTT, beqTF, beqFT, beqFF]
      exact Evt.ret' (by simp [textOk, hq])
theorem f167 {v : Row} (h : ShL E (E 122) v) : Ev fs 167 [.g v] (bo (keysB (cR v 3) && (((cR v 3).length : Int) == ((cR v 4).length : Int)))) := by
  rw [E122] at h
  obtain ⟨na0, ra0, rfl, pa0, h_a0⟩ := inv_i h
  obtain ⟨sa1, ra1, rfl, pa1, h_a1⟩ := inv_s h_a0
  obtain ⟨na2, ra2, rfl, pa2, h_a2⟩ := inv_i h_a1
  obtain ⟨la3, ra3, rfl, pa3, h_a3⟩ := inv_sl W9 h_a2
  obtain ⟨la4, ra4, rfl, pa4, h_a4⟩ := inv_sl W122 h_a3
  cases inv_nil h_a4
  simp only [cN, cT, cR, cE, List.getElem?_cons_zero, List.getElem?_cons_succ]
  refine Ev.of (af := a167) rfl rfl (Evt.congr (fun d n => a167q ..) ?_)
  refine ev_aft (L := fun d n => l167x0 (TabD fs d) d n [(.b [(.v (.int .i64 na0)), (.v (.string sa1)), (.v (.int .i64 na2)), (.fz 1 la3), (.fz 5 la4)]), (.v (.int .i64 0))]) (all_loop (L := fun d n i => l167x0 (TabD fs d) d n [(.b [(.v (.int .i64 na0)), (.v (.string sa1)), (.v (.int .i64 na2)), (.fz 1 la3), (.fz 5 la4)]), (.v (.int .i64 i))]) (n := la3.length) (p := fun i => nameOk (cT (row_ la3 i) 0) && chain (upT 0) la3 i) (y := (.exit 0, [(.b [(.v (.int .i64 na0)), (.v (.string sa1)), (.v (.int .i64 na2)), (.fz 1 la3), (.fz 5 la4)])])) (z := (.ret, [.v (.bool false)])) (fun d m => ?_) (fun i hi => ?_)) ?_
  · rw [l167x0s]
    simp -implicitDefEqProofs only [cI, cB, cS, cL, oD_d, oG_g, oT_t, oP_p, dI_v, dB_v, dS_v, dL_s, cell_z, cell_s, nth_z, nth_s, aV_z, aV_s, aI_v, aB_v, aS_v, aL_f, aO_o, aX_b, tst_t, cond_true, cond_false, Ex.same, Nat.beq, List.length_cons, List.length_nil, Int.toNat_natCast, beqTT, beqTF, beqFT, beqFF, Int.lt_irrefl, decide_false]
  · have hx := List.getElem?_eq_getElem hi
    generalize la3[i] = x at hx
    have h := pa3.at hx
    have hw := wrap_succ hi pa3.le
    rw [E9] at h
    obtain ⟨sx0, rx0, rfl, px0, h_x0⟩ := inv_s h
    cases inv_nil h_x0
    simp only [l167x0s, row_, hx, Option.getD_some, cN, cT, cR, cE, List.getElem?_cons_zero, List.getElem?_cons_succ, List.drop_succ_cons, List.drop_zero]
    cases i with
    | zero =>
      simp -implicitDefEqProofs only [cI, cB, cS, cL, oD_d, oG_g, oT_t, oP_p, dI_v, dB_v, dS_v, dL_s, cell_z, cell_s, nth_z, nth_s, aV_z, aV_s, aI_v, aB_v, aS_v, aL_f, aO_o, aX_b, tst_t, cond_true, cond_false, Ex.same, Nat.beq, List.length_cons, List.length_nil, Int.toNat_natCast, beqTT, beqTF, beqFT, beqFF, decide_eq_true (Int.ofNat_lt.2 hi), dec_nn, look_at hx, hw, pos_zero]
      simp only [chain]
      intro res k k'
      refine ev_call (f77 (by assumption)) ?_
      simp -implicitDefEqProofs only [cI, cB, cS, cL, oD_d, oG_g, oT_t, oP_p, dI_v, dB_v, dS_v, dL_s, cell_z, cell_s, nth_z, nth_s, aV_z, aV_s, aI_v, aB_v, aS_v, aL_f, aO_o, aX_b, tst_t, cond_true, cond_false, Ex.same, Nat.beq, List.length_cons, List.length_nil, Int.toNat_natCast, beqTT, beqTF, beqFT, beqFF, dec_nn, look_at hx, pos_zero, Bool.not_false, Bool.not_true, cond_true, cond_false]
      refine ev_if (fun c1 => ?_) (fun c1 => ?_)
      · exact k (by first | (simp_all [inB, upT, upN, cN, cT, cR]; done) | (simp_all [inB, upT, upN, cN, cT, cR]; omega) | (simp_all [inB, upT, upN, cN, cT, cR]; congr))
      · exact Evt.ret' (k' (by first | (simp_all [inB, upT, upN, cN, cT, cR]; done) | (simp_all [inB, upT, upN, cN, cT, cR]; omega) | (simp_all [inB, upT, upN, cN, cT, cR]; congr)))
    | succ j =>
      have hy := List.getElem?_eq_getElem (show j < la3.length by omega)
      generalize la3[j] = y at hy
      have hj := pa3.at hy
      have hp := wrap_pred (j := j) (by have := pa3.le; omega)
      rw [E9] at hj
      obtain ⟨sy0, ry0, rfl, py0, hj_y0⟩ := inv_s hj
      cases inv_nil hj_y0
      simp only [chain, row_, hx, hy, Option.getD_some, cN, cT, cR, cE, List.getElem?_cons_zero, List.getElem?_cons_succ]
      simp -implicitDefEqProofs only [cI, cB, cS, cL, oD_d, oG_g, oT_t, oP_p, dI_v, dB_v, dS_v, dL_s, cell_z, cell_s, nth_z, nth_s, aV_z, aV_s, aI_v, aB_v, aS_v, aL_f, aO_o, aX_b, tst_t, cond_true, cond_false, Ex.same, Nat.beq, List.length_cons, List.length_nil, Int.toNat_natCast, beqTT, beqTF, beqFT, beqFF, decide_eq_true (Int.ofNat_lt.2 hi), dec_nn, look_at hx, look_at hy, hw, hp, pos_succ]
      intro res k k'
      refine ev_call (f77 (by assumption)) ?_
      simp -implicitDefEqProofs only [cI, cB, cS, cL, oD_d, oG_g, oT_t, oP_p, dI_v, dB_v, dS_v, dL_s, cell_z, cell_s, nth_z, nth_s, aV_z, aV_s, aI_v, aB_v, aS_v, aL_f, aO_o, aX_b, tst_t, cond_true, cond_false, Ex.same, Nat.beq, List.length_cons, List.length_nil, Int.toNat_natCast, beqTT, beqTF, beqFT, beqFF, dec_nn, look_at hx, look_at hy, hp, pos_succ, Bool.not_false, Bool.not_true, cond_true, cond_false]
      refine ev_if (fun c1 => ?_) (fun c1 => ?_)
      · refine ev_if (fun c2 => ?_) (fun c2 => ?_)
        · exact Evt.ret' (k' (by first | (simp_all [inB, upT, upN, cN, cT, cR]; done) | (simp_all [inB, upT, upN, cN, cT, cR]; omega) | (simp_all [inB, upT, upN, cN, cT, cR]; congr)))
        · exact k (by first | (simp_all [inB, upT, upN, cN, cT, cR]; done) | (simp_all [inB, upT, upN, cN, cT, cR]; omega) | (simp_all [inB, upT, upN, cN, cT, cR]; congr))
      · exact Evt.ret' (k' (by first | (simp_all [inB, upT, upN, cN, cT, cR]; done) | (simp_all [inB, upT, upN, cN, cT, cR]; omega) | (simp_all [inB, upT, upN, cN, cT, cR]; congr)))
  · cases hq : allN la3.length (fun i => nameOk (cT (row_ la3 i) 0) && chain (upT 0) la3 i) with
    | false =>
      simp -implicitDefEqProofs only [cI, cB, cS, cL, oD_d, oG_g, oT_t, oP_p, dI_v, dB_v, dS_v, dL_s, cell_z, cell_s, nth_z, nth_s, aV_z, aV_s, aI_v, aB_v, aS_v, aL_f, aO_o, aX_b, tst_t, cond_true, cond_false, Ex.same, Nat.beq, List.length_cons, List.length_nil, Int.toNat_natCast, beqTT, beqTF, beqFT, beqFF]
      exact Evt.ret' (by simp [keysB, hq])
    | true =>
      simp -implicitDefEqProofs only [cI, cB, cS, cL, oD_d, oG_g, oT_t, oP_p, dI_v, dB_v, dS_v, dL_s, cell_z, cell_s, nth_z, nth_s, aV_z, aV_s, aI_v, aB_v, aS_v, aL_f, aO_o, aX_b, tst_t, cond_true, cond_false, Ex.same, Nat.beq, List.length_cons, List.length_nil, Int.toNat_natCast, beqTT, beqTF, beqFT, beqFF]
      exact Evt.ret' (by simp [keysB, hq])
theorem f168 {v : Row} (h : ShL E (E 122) v) : Ev fs 168 [.g v] (bo (shapeB (cN v 0) (cT v 1) (cN v 2) (cR v 3) (cR v 4))) := by
  rw [E122] at h
  obtain ⟨na0, ra0, rfl, pa0, h_a0⟩ := inv_i h
  obtain ⟨sa1, ra1, rfl, pa1, h_a1⟩ := inv_s h_a0
  obtain ⟨na2, ra2, rfl, pa2, h_a2⟩ := inv_i h_a1
  obtain ⟨la3, ra3, rfl, pa3, h_a3⟩ := inv_sl W9 h_a2
  obtain ⟨la4, ra4, rfl, pa4, h_a4⟩ := inv_sl W122 h_a3
  cases inv_nil h_a4
  simp only [cN, cT, cR, cE, List.getElem?_cons_zero, List.getElem?_cons_succ]
  refine Ev.of (af := a168) rfl rfl (Evt.congr (fun d n => a168q ..) ?_)
  have hT : Evt (fun d n => l168x0 (TabD fs d) d n [(.b [(.v (.int .i64 na0)), (.v (.string sa1)), (.v (.int .i64 na2)), (.fz 1 la3), (.fz 5 la4)]), (.v (.bool (na2 == 0))), (.v (.bool ((la3.length : Int) == 0))), (.v (.bool ((la4.length : Int) == 0))), (.v (.int .i64 (sa1.size : Int))), (.v (.int .i64 0))]) (bif allN sa1.size (fun i => inB (byteOf sa1 i) 32 126) then (.exit 1, [(.b [.v (.int .i64 na0), .v (.string sa1), .v (.int .i64 na2), .fz 1 la3, .fz 5 la4]), .v (.bool (na2 == 0)), .v (.bool ((la3.length : Int) == 0)), .v (.bool ((la4.length : Int) == 0))]) else (.ret, [.v (.bool false)])) := by
    refine all_loop (L := fun d n i => l168x0 (TabD fs d) d n [(.b [(.v (.int .i64 na0)), (.v (.string sa1)), (.v (.int .i64 na2)), (.fz 1 la3), (.fz 5 la4)]), (.v (.bool (na2 == 0))), (.v (.bool ((la3.length : Int) == 0))), (.v (.bool ((la4.length : Int) == 0))), (.v (.int .i64 (sa1.size : Int))), (.v (.int .i64 i))]) (fun d m => ?_) (fun i hi => ?_)
    · rw [l168x0s]
      simp -implicitDefEqProofs only [cI, cB, cS, cL, oD_d, oG_g, oT_t, oP_p, dI_v, dB_v, dS_v, dL_s, cell_z, cell_s, nth_z, nth_s, aV_z, aV_s, aI_v, aB_v, aS_v, aL_f, aO_o, aX_b, tst_t, cond_true, cond_false, Ex.same, Nat.beq, List.length_cons, List.length_nil, Int.toNat_natCast, beqTT, beqTF, beqFT, beqFF, Int.lt_irrefl, decide_false]
    · obtain ⟨b, hb⟩ := byte_get hi
      have hw := wrap_succ hi pa1
      simp only [l168x0s, byteOf, hb, Option.getD_some]
      simp -implicitDefEqProofs only [cI, cB, cS, cL, oD_d, oG_g, oT_t, oP_p, dI_v, dB_v, dS_v, dL_s, cell_z, cell_s, nth_z, nth_s, aV_z, aV_s, aI_v, aB_v, aS_v, aL_f, aO_o, aX_b, tst_t, cond_true, cond_false, Ex.same, Nat.beq, List.length_cons, List.length_nil, Int.toNat_natCast, beqTT, beqTF, beqFT, beqFF, decide_eq_true (Int.ofNat_lt.2 hi), dec_nn, byteAt_at hb, hw, byte_wrap]
      intro res k k'
      refine ev_call (f85 _ _ _) ?_
      simp -implicitDefEqProofs only [cI, cB, cS, cL, oD_d, oG_g, oT_t, oP_p, dI_v, dB_v, dS_v, dL_s, cell_z, cell_s, nth_z, nth_s, aV_z, aV_s, aI_v, aB_v, aS_v, aL_f, aO_o, aX_b, tst_t, cond_true, cond_false, Ex.same, Nat.beq, List.length_cons, List.length_nil, Int.toNat_natCast, beqTT, beqTF, beqFT, beqFF, dec_nn, byteAt_at hb, byte_wrap, Bool.not_false, Bool.not_true, cond_true, cond_false]
      refine ev_if (fun c1 => ?_) (fun c1 => ?_)
      · exact Evt.ret' (k' (by first | (simp_all [inB]; done) | (simp_all [inB]; omega) | (simp_all [inB]; congr)))
      · exact k (by first | (simp_all [inB]; done) | (simp_all [inB]; omega) | (simp_all [inB]; congr))
  refine ev_if (fun c1 => ?_) (fun c1 => ?_)
  · refine ev_aft (L := fun d n => l168x0 (TabD fs d) d n [(.b [(.v (.int .i64 na0)), (.v (.string sa1)), (.v (.int .i64 na2)), (.fz 1 la3), (.fz 5 la4)]), (.v (.bool (na2 == 0))), (.v (.bool ((la3.length : Int) == 0))), (.v (.bool ((la4.length : Int) == 0))), (.v (.int .i64 (sa1.size : Int))), (.v (.int .i64 0))]) hT ?_
    cases hq : allN sa1.size (fun i => inB (byteOf sa1 i) 32 126) with
    | false =>
      simp -implicitDefEqProofs only [cI, cB, cS, cL, oD_d, oG_g, oT_t, oP_p, dI_v, dB_v, dS_v, dL_s, cell_z, cell_s, nth_z, nth_s, aV_z, aV_s, aI_v, aB_v, aS_v, aL_f, aO_o, aX_b, tst_t, cond_true, cond_false, Ex.same, Nat.beq, List.length_cons, List.length_nil, Int.toNat_natCast, beqTT, beqTF, beqFT, beqFF]
      exact Evt.ret' (by simp_all [shapeB, textOk, bare])
    | true =>
      simp -implicitDefEqProofs only [cI, cB, cS, cL, oD_d, oG_g, oT_t, oP_p, dI_v, dB_v, dS_v, dL_s, cell_z, cell_s, nth_z, nth_s, aV_z, aV_s, aI_v, aB_v, aS_v, aL_f, aO_o, aX_b, tst_t, cond_true, cond_false, Ex.same, Nat.beq, List.length_cons, List.length_nil, Int.toNat_natCast, beqTT, beqTF, beqFT, beqFF]
      refine ev_if (fun c2 => ?_) (fun c2 => ?_)
      · refine ev_if (fun c3 => ?_) (fun c3 => ?_)
        · refine ev_if (fun c4 => ?_) (fun c4 => ?_)
          · exact Evt.ret' (by first | (simp_all [shapeB, textOk, bare]; done) | (simp_all [shapeB, textOk, bare]; omega) | (simp_all [shapeB, textOk, bare]; congr))
          · exact Evt.ret' (by first | (simp_all [shapeB, textOk, bare]; done) | (simp_all [shapeB, textOk, bare]; omega) | (simp_all [shapeB, textOk, bare]; congr))
        · exact Evt.ret' (by first | (simp_all [shapeB, textOk, bare]; done) | (simp_all [shapeB, textOk, bare]; omega) | (simp_all [shapeB, textOk, bare]; congr))
      · exact Evt.ret' (by first | (simp_all [shapeB, textOk, bare]; done) | (simp_all [shapeB, textOk, bare]; omega) | (simp_all [shapeB, textOk, bare]; congr))
  · refine ev_if (fun c5 => ?_) (fun c5 => ?_)
    · refine ev_if (fun c6 => ?_) (fun c6 => ?_)
      · refine ev_if (fun c7 => ?_) (fun c7 => ?_)
        · exact Evt.ret' (by first | (simp_all [shapeB, textOk, bare]; done) | (simp_all [shapeB, textOk, bare]; omega) | (simp_all [shapeB, textOk, bare]; congr))
        · exact Evt.ret' (by first | (simp_all [shapeB, textOk, bare]; done) | (simp_all [shapeB, textOk, bare]; omega) | (simp_all [shapeB, textOk, bare]; congr))
      · exact Evt.ret' (by first | (simp_all [shapeB, textOk, bare]; done) | (simp_all [shapeB, textOk, bare]; omega) | (simp_all [shapeB, textOk, bare]; congr))
    · refine ev_if (fun c8 => ?_) (fun c8 => ?_)
      · refine ev_call (f85 _ _ _) ?_
        simp -implicitDefEqProofs only [cI, cB, cS, cL, oD_d, oG_g, oT_t, oP_p, dI_v, dB_v, dS_v, dL_s, cell_z, cell_s, nth_z, nth_s, aV_z, aV_s, aI_v, aB_v, aS_v, aL_f, aO_o, aX_b, tst_t, cond_true, cond_false, Ex.same, Nat.beq, List.length_cons, List.length_nil, Int.toNat_natCast, beqTT, beqTF, beqFT, beqFF, Bool.not_false, Bool.not_true, cond_true, cond_false]
        refine ev_if (fun c9 => ?_) (fun c9 => ?_)
        · refine ev_if (fun c10 => ?_) (fun c10 => ?_)
          · refine ev_if (fun c11 => ?_) (fun c11 => ?_)
            · exact Evt.ret' (by first | (simp_all [shapeB, textOk, bare]; done) | (simp_all [shapeB, textOk, bare]; omega) | (simp_all [shapeB, textOk, bare]; congr))
            · exact Evt.ret' (by first | (simp_all [shapeB, textOk, bare]; done) | (simp_all [shapeB, textOk, bare]; omega) | (simp_all [shapeB, textOk, bare]; congr))
          · exact Evt.ret' (by first | (simp_all [shapeB, textOk, bare]; done) | (simp_all [shapeB, textOk, bare]; omega) | (simp_all [shapeB, textOk, bare]; congr))
        · exact Evt.ret' (by first | (simp_all [shapeB, textOk, bare]; done) | (simp_all [shapeB, textOk, bare]; omega) | (simp_all [shapeB, textOk, bare]; congr))
      · refine ev_if (fun c12 => ?_) (fun c12 => ?_)
        · refine ev_if (fun c13 => ?_) (fun c13 => ?_)
          · refine ev_if (fun c14 => ?_) (fun c14 => ?_)
            · refine ev_if (fun c15 => ?_) (fun c15 => ?_)
              · exact Evt.ret' (by first | (simp_all [shapeB, textOk, bare]; done) | (simp_all [shapeB, textOk, bare]; omega) | (simp_all [shapeB, textOk, bare]; congr))
              · exact Evt.ret' (by first | (simp_all [shapeB, textOk, bare]; done) | (simp_all [shapeB, textOk, bare]; omega) | (simp_all [shapeB, textOk, bare]; congr))
            · exact Evt.ret' (by first | (simp_all [shapeB, textOk, bare]; done) | (simp_all [shapeB, textOk, bare]; omega) | (simp_all [shapeB, textOk, bare]; congr))
          · exact Evt.ret' (by first | (simp_all [shapeB, textOk, bare]; done) | (simp_all [shapeB, textOk, bare]; omega) | (simp_all [shapeB, textOk, bare]; congr))
        · refine ev_if (fun c16 => ?_) (fun c16 => ?_)
          · refine ev_call (f183 (by assumption) _) ?_
            simp -implicitDefEqProofs only [cI, cB, cS, cL, oD_d, oG_g, oT_t, oP_p, dI_v, dB_v, dS_v, dL_s, cell_z, cell_s, nth_z, nth_s, aV_z, aV_s, aI_v, aB_v, aS_v, aL_f, aO_o, aX_b, tst_t, cond_true, cond_false, Ex.same, Nat.beq, List.length_cons, List.length_nil, Int.toNat_natCast, beqTT, beqTF, beqFT, beqFF, Bool.not_false, Bool.not_true, cond_true, cond_false]
            refine ev_if (fun c17 => ?_) (fun c17 => ?_)
            · refine ev_if (fun c18 => ?_) (fun c18 => ?_)
              · refine ev_if (fun c19 => ?_) (fun c19 => ?_)
                · refine ev_if (fun c20 => ?_) (fun c20 => ?_)
                  · exact Evt.ret' (by first | (simp_all [shapeB, textOk, bare]; done) | (simp_all [shapeB, textOk, bare]; omega) | (simp_all [shapeB, textOk, bare]; congr))
                  · exact Evt.ret' (by first | (simp_all [shapeB, textOk, bare]; done) | (simp_all [shapeB, textOk, bare]; omega) | (simp_all [shapeB, textOk, bare]; congr))
                · exact Evt.ret' (by first | (simp_all [shapeB, textOk, bare]; done) | (simp_all [shapeB, textOk, bare]; omega) | (simp_all [shapeB, textOk, bare]; congr))
              · exact Evt.ret' (by first | (simp_all [shapeB, textOk, bare]; done) | (simp_all [shapeB, textOk, bare]; omega) | (simp_all [shapeB, textOk, bare]; congr))
            · refine ev_if (fun c21 => ?_) (fun c21 => ?_)
              · refine ev_if (fun c22 => ?_) (fun c22 => ?_)
                · exact Evt.ret' (by first | (simp_all [shapeB, textOk, bare]; done) | (simp_all [shapeB, textOk, bare]; omega) | (simp_all [shapeB, textOk, bare]; congr))
                · exact Evt.ret' (by first | (simp_all [shapeB, textOk, bare]; done) | (simp_all [shapeB, textOk, bare]; omega) | (simp_all [shapeB, textOk, bare]; congr))
              · exact Evt.ret' (by first | (simp_all [shapeB, textOk, bare]; done) | (simp_all [shapeB, textOk, bare]; omega) | (simp_all [shapeB, textOk, bare]; congr))
          · exact Evt.ret' (by first | (simp_all [shapeB, textOk, bare]; done) | (simp_all [shapeB, textOk, bare]; omega) | (simp_all [shapeB, textOk, bare]; congr))
/-- What is measured: the size, and more than is allowed where there is none. -/
def msz (d : Nat) (v : Row) : Int := if valSz d v = 0 then 301 else valSz d v
theorem f147 (d : Nat) (hd : d ≤ 6) : ∀ {v : Row}, ShL E (E 122) v → Ev fs 147 [.g v, .d (.v (.int .i64 (d : Int)))] (io (msz d v)) := by
  induction d with
  | zero =>
    intro v h
    rw [E122] at h
    obtain ⟨na0, ra0, rfl, pa0, h_a0⟩ := inv_i h
    obtain ⟨sa1, ra1, rfl, pa1, h_a1⟩ := inv_s h_a0
    obtain ⟨na2, ra2, rfl, pa2, h_a2⟩ := inv_i h_a1
    obtain ⟨la3, ra3, rfl, pa3, h_a3⟩ := inv_sl W9 h_a2
    obtain ⟨la4, ra4, rfl, pa4, h_a4⟩ := inv_sl W122 h_a3
    cases inv_nil h_a4
    refine Ev.of (af := a147) rfl rfl (Evt.congr (fun d n => a147q ..) ?_)
    simp -implicitDefEqProofs only [cI, cB, cS, cL, oD_d, oG_g, oT_t, oP_p, dI_v, dB_v, dS_v, dL_s, cell_z, cell_s, nth_z, nth_s, aV_z, aV_s, aI_v, aB_v, aS_v, aL_f, aO_o, aX_b, tst_t, cond_true, cond_false, Ex.same, Nat.beq, List.length_cons, List.length_nil, Int.toNat_natCast, beqTT, beqTF, beqFT, beqFF, show (((0 : Nat) : Int) == 0) = true from rfl, beq_f, Bool.not_true]
    exact Evt.ret
  | succ d ih =>
    intro v h
    have kk := h
    rw [E122] at h
    obtain ⟨na0, ra0, rfl, pa0, h_a0⟩ := inv_i h
    obtain ⟨sa1, ra1, rfl, pa1, h_a1⟩ := inv_s h_a0
    obtain ⟨na2, ra2, rfl, pa2, h_a2⟩ := inv_i h_a1
    obtain ⟨la3, ra3, rfl, pa3, h_a3⟩ := inv_sl W9 h_a2
    obtain ⟨la4, ra4, rfl, pa4, h_a4⟩ := inv_sl W122 h_a3
    cases inv_nil h_a4
    refine Ev.of (af := a147) rfl rfl (Evt.congr (fun d n => a147q ..) ?_)
    have hne : (((d + 1 : Nat) : Int) == 0) = false := by simp; omega
    simp -implicitDefEqProofs only [cI, cB, cS, cL, oD_d, oG_g, oT_t, oP_p, dI_v, dB_v, dS_v, dL_s, cell_z, cell_s, nth_z, nth_s, aV_z, aV_s, aI_v, aB_v, aS_v, aL_f, aO_o, aX_b, tst_t, cond_true, cond_false, Ex.same, Nat.beq, List.length_cons, List.length_nil, Int.toNat_natCast, beqTT, beqTF, beqFT, beqFF, hne, beq_f, Bool.not_false]
    refine ev_call (f168 kk) ?_
    simp -implicitDefEqProofs only [cI, cB, cS, cL, oD_d, oG_g, oT_t, oP_p, dI_v, dB_v, dS_v, dL_s, cell_z, cell_s, nth_z, nth_s, aV_z, aV_s, aI_v, aB_v, aS_v, aL_f, aO_o, aX_b, tst_t, cond_true, cond_false, Ex.same, Nat.beq, List.length_cons, List.length_nil, Int.toNat_natCast, beqTT, beqTF, beqFT, beqFF]
    simp only [cN, cT, cR, cE, List.getElem?_cons_zero, List.getElem?_cons_succ]
    simp only [msz, valSz, cN, cT, cR, cE, List.getElem?_cons_zero, List.getElem?_cons_succ]
    have hw : IntKind.i64.wrap (((d + 1 : Nat) : Int) - 1) = (d : Int) := by rw [wrap_i64 (by omega) (by omega)]; omega
    refine ev_if (fun hc => ?_) (fun hc => ?_)
    · have hc : shapeB na0 sa1 na2 la3 la4 = false := by simpa using hc
      exact Evt.ret' (by simp [hc])
    · have hc : shapeB na0 sa1 na2 la3 la4 = true := by simpa using hc
      simp only [hc, if_true]
      have key : ∀ (k i : Nat), la4.length - i = k → i ≤ la4.length → ∀ acc : Int, 1 ≤ acc → acc ≤ 300 → Evt (fun d' n => l147x0 (TabD fs d') d' n [.v (.int .i64 ((d + 1 : Nat) : Int)), .v (.int .i64 acc), .fz 5 la4, .v (.int .i64 (la4.length : Int)), .v (.int .i64 (i : Int))]) (if kidSum (valSz d) (la4.drop i) acc = 0 then (.ret, [.v (.int .i64 301)]) else (.exit 0, [.v (.int .i64 (kidSum (valSz d) (la4.drop i) acc))])) := by
        intro k
        induction k with
        | zero =>
          intro i hk hi acc h1 h2
          have : i = la4.length := by omega
          subst this
          rw [List.drop_length]
          have hne : ¬ acc = 0 := by omega
          simp only [kidSum, hne, if_false]
          refine ev_succ ⟨0, fun d' n _ _ => ?_⟩
          simp only [l147x0s]
          simp -implicitDefEqProofs only [cI, cB, cS, cL, oD_d, oG_g, oT_t, oP_p, dI_v, dB_v, dS_v, dL_s, cell_z, cell_s, nth_z, nth_s, aV_z, aV_s, aI_v, aB_v, aS_v, aL_f, aO_o, aX_b, tst_t, cond_true, cond_false, Ex.same, Nat.beq, List.length_cons, List.length_nil, Int.toNat_natCast, beqTT, beqTF, beqFT, beqFF, Int.lt_irrefl, decide_false]
        | succ k ihk =>
          intro i hk hi acc h1 h2
          have hlt : i < la4.length := by omega
          have hx := List.getElem?_eq_getElem hlt
          rw [List.drop_eq_getElem_cons hlt]
          generalize la4[i] = x at hx
          have g := pa4.at hx
          have g' := g
          rw [E122] at g
          obtain ⟨nx0, rx0, rfl, px0, g_x0⟩ := inv_i g
          obtain ⟨sx1, rx1, rfl, px1, g_x1⟩ := inv_s g_x0
          obtain ⟨nx2, rx2, rfl, px2, g_x2⟩ := inv_i g_x1
          obtain ⟨lx3, rx3, rfl, px3, g_x3⟩ := inv_sl W9 g_x2
          obtain ⟨lx4, rx4, rfl, px4, g_x4⟩ := inv_sl W122 g_x3
          cases inv_nil g_x4
          refine ev_succ ?_
          simp only [l147x0s]
          simp -implicitDefEqProofs only [cI, cB, cS, cL, oD_d, oG_g, oT_t, oP_p, dI_v, dB_v, dS_v, dL_s, cell_z, cell_s, nth_z, nth_s, aV_z, aV_s, aI_v, aB_v, aS_v, aL_f, aO_o, aX_b, tst_t, cond_true, cond_false, Ex.same, Nat.beq, List.length_cons, List.length_nil, Int.toNat_natCast, beqTT, beqTF, beqFT, beqFF, decide_eq_true (Int.ofNat_lt.2 hlt), dec_nn, look_at hx, wrap_succ hlt pa4.le, hw]
          refine ev_call (ih (by omega) (by assumption)) ?_
          simp -implicitDefEqProofs only [cI, cB, cS, cL, oD_d, oG_g, oT_t, oP_p, dI_v, dB_v, dS_v, dL_s, cell_z, cell_s, nth_z, nth_s, aV_z, aV_s, aI_v, aB_v, aS_v, aL_f, aO_o, aX_b, tst_t, cond_true, cond_false, Ex.same, Nat.beq, List.length_cons, List.length_nil, Int.toNat_natCast, beqTT, beqTF, beqFT, beqFF]
          have hr := valSz_rng d [.v (.int .i64 nx0), .v (.string sx1), .v (.int .i64 nx2), .s 1 lx3, .s 5 lx4]
          generalize hX : ([.v (.int .i64 nx0), .v (.string sx1), .v (.int .i64 nx2), .s 1 lx3, .s 5 lx4] : Row) = X at *
          simp only [kidSum, msz]
          by_cases h0 : valSz d X = 0
          · simp only [h0, if_true, true_or]
            have : IntKind.i64.wrap (acc + 301) > 300 := by rw [wrap_i64 (by omega) (by omega)]; omega
            simp -implicitDefEqProofs only [cI, cB, cS, cL, oD_d, oG_g, oT_t, oP_p, dI_v, dB_v, dS_v, dL_s, cell_z, cell_s, nth_z, nth_s, aV_z, aV_s, aI_v, aB_v, aS_v, aL_f, aO_o, aX_b, tst_t, cond_true, cond_false, Ex.same, Nat.beq, List.length_cons, List.length_nil, Int.toNat_natCast, beqTT, beqTF, beqFT, beqFF, decide_eq_true this]
            exact Evt.ret
          · simp only [h0, if_false, false_or]
            have hwr : IntKind.i64.wrap (acc + valSz d X) = acc + valSz d X := wrap_i64 (by omega) (by omega)
            by_cases h3 : acc + valSz d X > 300
            · simp only [h3, if_true]
              simp -implicitDefEqProofs only [cI, cB, cS, cL, oD_d, oG_g, oT_t, oP_p, dI_v, dB_v, dS_v, dL_s, cell_z, cell_s, nth_z, nth_s, aV_z, aV_s, aI_v, aB_v, aS_v, aL_f, aO_o, aX_b, tst_t, cond_true, cond_false, Ex.same, Nat.beq, List.length_cons, List.length_nil, Int.toNat_natCast, beqTT, beqTF, beqFT, beqFF, hwr, decide_eq_true h3]
              exact Evt.ret
            · simp only [h3, if_false]
              simp -implicitDefEqProofs only [cI, cB, cS, cL, oD_d, oG_g, oT_t, oP_p, dI_v, dB_v, dS_v, dL_s, cell_z, cell_s, nth_z, nth_s, aV_z, aV_s, aI_v, aB_v, aS_v, aL_f, aO_o, aX_b, tst_t, cond_true, cond_false, Ex.same, Nat.beq, List.length_cons, List.length_nil, Int.toNat_natCast, beqTT, beqTF, beqFT, beqFF, hwr, decide_eq_false h3]
              exact ihk (i + 1) (by omega) (by omega) _ (by omega) (by omega)
      have h0 := key la4.length 0 (by omega) (by omega) 1 (by omega) (by omega)
      rw [List.drop_zero] at h0
      refine ev_aft (L := fun d' n => l147x0 (TabD fs d') d' n [.v (.int .i64 ((d + 1 : Nat) : Int)), .v (.int .i64 1), .fz 5 la4, .v (.int .i64 (la4.length : Int)), .v (.int .i64 0)]) h0 ?_
      by_cases hz : kidSum (valSz d) la4 1 = 0
      · simp only [hz, if_true]
        simp -implicitDefEqProofs only [cI, cB, cS, cL, oD_d, oG_g, oT_t, oP_p, dI_v, dB_v, dS_v, dL_s, cell_z, cell_s, nth_z, nth_s, aV_z, aV_s, aI_v, aB_v, aS_v, aL_f, aO_o, aX_b, tst_t, cond_true, cond_false, Ex.same, Nat.beq, List.length_cons, List.length_nil, Int.toNat_natCast, beqTT, beqTF, beqFT, beqFF]
        exact Evt.ret
      · simp only [hz, if_false]
        simp -implicitDefEqProofs only [cI, cB, cS, cL, oD_d, oG_g, oT_t, oP_p, dI_v, dB_v, dS_v, dL_s, cell_z, cell_s, nth_z, nth_s, aV_z, aV_s, aI_v, aB_v, aS_v, aL_f, aO_o, aX_b, tst_t, cond_true, cond_false, Ex.same, Nat.beq, List.length_cons, List.length_nil, Int.toNat_natCast, beqTT, beqTF, beqFT, beqFF]
        exact Evt.ret
theorem f125 {v : Row} (h : ShL E (E 122) v) : Ev fs 125 [.g v] (bo (valueOk v)) := by
  have kk := h
  rw [E122] at h
  obtain ⟨na0, ra0, rfl, pa0, h_a0⟩ := inv_i h
  obtain ⟨sa1, ra1, rfl, pa1, h_a1⟩ := inv_s h_a0
  obtain ⟨na2, ra2, rfl, pa2, h_a2⟩ := inv_i h_a1
  obtain ⟨la3, ra3, rfl, pa3, h_a3⟩ := inv_sl W9 h_a2
  obtain ⟨la4, ra4, rfl, pa4, h_a4⟩ := inv_sl W122 h_a3
  cases inv_nil h_a4
  refine Ev.of (af := a125) rfl rfl (Evt.congr (fun d n => a125q ..) ?_)
  refine ev_call (f147 6 (by omega) kk) ?_
  simp -implicitDefEqProofs only [cI, cB, cS, cL, oD_d, oG_g, oT_t, oP_p, dI_v, dB_v, dS_v, dL_s, cell_z, cell_s, nth_z, nth_s, aV_z, aV_s, aI_v, aB_v, aS_v, aL_f, aO_o, aX_b, tst_t, cond_true, cond_false, Ex.same, Nat.beq, List.length_cons, List.length_nil, Int.toNat_natCast, beqTT, beqTF, beqFT, beqFF]
  have e : ∀ X : Row, decide (msz 6 X ≤ 300) = valueOk X := fun X => by
    have hr := valSz_rng 6 X
    by_cases h : valSz 6 X = 0
    · simp [valueOk, msz, h]
    · simp [valueOk, msz, h]
      omega
  rw [e]
  exact Evt.ret
theorem keys_len {f : Row → Int} (hf : ∀ x, 0 ≤ f x ∧ f x ≤ 300) {l : Rows} (h : ¬ kidSum f l 1 = 0) : (l.length : Int) ≤ 300 := by
  have := kidSum_rng hf l 1 (by omega) (by omega)
  have := this.2.2 h
  omega
theorem f145 (d : Nat) (hd : d ≤ 6) : ∀ {v : Row}, ShL E (E 122) v → Ev fs 145 [.g v, .d (.v (.int .i64 (d : Int)))] (io (valSz d v)) := by
  induction d with
  | zero =>
    intro v h
    rw [E122] at h
    obtain ⟨na0, ra0, rfl, pa0, h_a0⟩ := inv_i h
    obtain ⟨sa1, ra1, rfl, pa1, h_a1⟩ := inv_s h_a0
    obtain ⟨na2, ra2, rfl, pa2, h_a2⟩ := inv_i h_a1
    obtain ⟨la3, ra3, rfl, pa3, h_a3⟩ := inv_sl W9 h_a2
    obtain ⟨la4, ra4, rfl, pa4, h_a4⟩ := inv_sl W122 h_a3
    cases inv_nil h_a4
    refine Ev.of (af := a145) rfl rfl (Evt.congr (fun d n => a145q ..) ?_)
    simp -implicitDefEqProofs only [cI, cB, cS, cL, oD_d, oG_g, oT_t, oP_p, dI_v, dB_v, dS_v, dL_s, cell_z, cell_s, nth_z, nth_s, aV_z, aV_s, aI_v, aB_v, aS_v, aL_f, aO_o, aX_b, tst_t, cond_true, cond_false, Ex.same, Nat.beq, List.length_cons, List.length_nil, Int.toNat_natCast, beqTT, beqTF, beqFT, beqFF, show (((0 : Nat) : Int) == 0) = true from rfl]
    exact Evt.ret
  | succ d ih =>
    intro v h
    have kk := h
    rw [E122] at h
    obtain ⟨na0, ra0, rfl, pa0, h_a0⟩ := inv_i h
    obtain ⟨sa1, ra1, rfl, pa1, h_a1⟩ := inv_s h_a0
    obtain ⟨na2, ra2, rfl, pa2, h_a2⟩ := inv_i h_a1
    obtain ⟨la3, ra3, rfl, pa3, h_a3⟩ := inv_sl W9 h_a2
    obtain ⟨la4, ra4, rfl, pa4, h_a4⟩ := inv_sl W122 h_a3
    cases inv_nil h_a4
    refine Ev.of (af := a145) rfl rfl (Evt.congr (fun d n => a145q ..) ?_)
    have hne : (((d + 1 : Nat) : Int) == 0) = false := by simp; omega
    simp -implicitDefEqProofs only [cI, cB, cS, cL, oD_d, oG_g, oT_t, oP_p, dI_v, dB_v, dS_v, dL_s, cell_z, cell_s, nth_z, nth_s, aV_z, aV_s, aI_v, aB_v, aS_v, aL_f, aO_o, aX_b, tst_t, cond_true, cond_false, Ex.same, Nat.beq, List.length_cons, List.length_nil, Int.toNat_natCast, beqTT, beqTF, beqFT, beqFF, hne]
    have hw : IntKind.i64.wrap (((d + 1 : Nat) : Int) - 1) = (d : Int) := by rw [wrap_i64 (by omega) (by omega)]; omega
    have key : ∀ (k i : Nat), la4.length - i = k → i ≤ la4.length → ∀ acc : Int, 1 ≤ acc → acc ≤ 300 → Evt (fun d' n => l145x0 (TabD fs d') d' n [.v (.int .i64 ((d + 1 : Nat) : Int)), (.b [.v (.int .i64 na0), .v (.string sa1), .v (.int .i64 na2), .fz 1 la3, .fz 5 la4]), .v (.int .i64 acc), .v (.int .i64 (i : Int))]) (if kidSum (valSz d) (la4.drop i) acc = 0 then (.ret, [.v (.int .i64 0)]) else (.exit 0, [(.b [.v (.int .i64 na0), .v (.string sa1), .v (.int .i64 na2), .fz 1 la3, .fz 5 la4]), .v (.int .i64 (kidSum (valSz d) (la4.drop i) acc))])) := by
      intro k
      induction k with
      | zero =>
        intro i hk hi acc h1 h2
        have : i = la4.length := by omega
        subst this
        rw [List.drop_length]
        have hne : ¬ acc = 0 := by omega
        simp only [kidSum, hne, if_false]
        refine ev_succ ⟨0, fun d' n _ _ => ?_⟩
        simp only [l145x0s]
        simp -implicitDefEqProofs only [cI, cB, cS, cL, oD_d, oG_g, oT_t, oP_p, dI_v, dB_v, dS_v, dL_s, cell_z, cell_s, nth_z, nth_s, aV_z, aV_s, aI_v, aB_v, aS_v, aL_f, aO_o, aX_b, tst_t, cond_true, cond_false, Ex.same, Nat.beq, List.length_cons, List.length_nil, Int.toNat_natCast, beqTT, beqTF, beqFT, beqFF, Int.lt_irrefl, decide_false]
      | succ k ihk =>
        intro i hk hi acc h1 h2
        have hlt : i < la4.length := by omega
        have hx := List.getElem?_eq_getElem hlt
        rw [List.drop_eq_getElem_cons hlt]
        generalize la4[i] = x at hx
        have g := pa4.at hx
        have g' := g
        rw [E122] at g
        obtain ⟨nx0, rx0, rfl, px0, g_x0⟩ := inv_i g
        obtain ⟨sx1, rx1, rfl, px1, g_x1⟩ := inv_s g_x0
        obtain ⟨nx2, rx2, rfl, px2, g_x2⟩ := inv_i g_x1
        obtain ⟨lx3, rx3, rfl, px3, g_x3⟩ := inv_sl W9 g_x2
        obtain ⟨lx4, rx4, rfl, px4, g_x4⟩ := inv_sl W122 g_x3
        cases inv_nil g_x4
        refine ev_succ ?_
        simp only [l145x0s]
        simp -implicitDefEqProofs only [cI, cB, cS, cL, oD_d, oG_g, oT_t, oP_p, dI_v, dB_v, dS_v, dL_s, cell_z, cell_s, nth_z, nth_s, aV_z, aV_s, aI_v, aB_v, aS_v, aL_f, aO_o, aX_b, tst_t, cond_true, cond_false, Ex.same, Nat.beq, List.length_cons, List.length_nil, Int.toNat_natCast, beqTT, beqTF, beqFT, beqFF, decide_eq_true (Int.ofNat_lt.2 hlt), dec_nn, look_at hx, wrap_succ hlt pa4.le, hw]
        refine ev_call (ih (by omega) (by assumption)) ?_
        simp -implicitDefEqProofs only [cI, cB, cS, cL, oD_d, oG_g, oT_t, oP_p, dI_v, dB_v, dS_v, dL_s, cell_z, cell_s, nth_z, nth_s, aV_z, aV_s, aI_v, aB_v, aS_v, aL_f, aO_o, aX_b, tst_t, cond_true, cond_false, Ex.same, Nat.beq, List.length_cons, List.length_nil, Int.toNat_natCast, beqTT, beqTF, beqFT, beqFF]
        have hr := valSz_rng d [.v (.int .i64 nx0), .v (.string sx1), .v (.int .i64 nx2), .s 1 lx3, .s 5 lx4]
        generalize hX : ([.v (.int .i64 nx0), .v (.string sx1), .v (.int .i64 nx2), .s 1 lx3, .s 5 lx4] : Row) = X at *
        simp only [kidSum]
        by_cases h0 : valSz d X = 0
        · simp only [h0, true_or, if_true]
          simp -implicitDefEqProofs only [cI, cB, cS, cL, oD_d, oG_g, oT_t, oP_p, dI_v, dB_v, dS_v, dL_s, cell_z, cell_s, nth_z, nth_s, aV_z, aV_s, aI_v, aB_v, aS_v, aL_f, aO_o, aX_b, tst_t, cond_true, cond_false, Ex.same, Nat.beq, List.length_cons, List.length_nil, Int.toNat_natCast, beqTT, beqTF, beqFT, beqFF, show ((0 : Int) == 0) = true from rfl, beq_f, Bool.not_true]
          exact Evt.ret
        · simp only [h0, false_or]
          have hwr : IntKind.i64.wrap (acc + valSz d X) = acc + valSz d X := wrap_i64 (by omega) (by omega)
          have hb : (valSz d X == 0) = false := by simp [h0]
          by_cases h3 : acc + valSz d X > 300
          · simp only [h3, if_true]
            simp -implicitDefEqProofs only [cI, cB, cS, cL, oD_d, oG_g, oT_t, oP_p, dI_v, dB_v, dS_v, dL_s, cell_z, cell_s, nth_z, nth_s, aV_z, aV_s, aI_v, aB_v, aS_v, aL_f, aO_o, aX_b, tst_t, cond_true, cond_false, Ex.same, Nat.beq, List.length_cons, List.length_nil, Int.toNat_natCast, beqTT, beqTF, beqFT, beqFF, hb, beq_f, Bool.not_false, hwr, decide_eq_true h3]
            exact Evt.ret
          · simp only [h3, if_false]
            simp -implicitDefEqProofs only [cI, cB, cS, cL, oD_d, oG_g, oT_t, oP_p, dI_v, dB_v, dS_v, dL_s, cell_z, cell_s, nth_z, nth_s, aV_z, aV_s, aI_v, aB_v, aS_v, aL_f, aO_o, aX_b, tst_t, cond_true, cond_false, Ex.same, Nat.beq, List.length_cons, List.length_nil, Int.toNat_natCast, beqTT, beqTF, beqFT, beqFF, hb, beq_f, Bool.not_false, hwr, decide_eq_false h3]
            exact ihk (i + 1) (by omega) (by omega) _ (by omega) (by omega)
    have h0 := key la4.length 0 (by omega) (by omega) 1 (by omega) (by omega)
    rw [List.drop_zero] at h0
    refine ev_aft (L := fun d' n => l145x0 (TabD fs d') d' n [.v (.int .i64 ((d + 1 : Nat) : Int)), (.b [.v (.int .i64 na0), .v (.string sa1), .v (.int .i64 na2), .fz 1 la3, .fz 5 la4]), .v (.int .i64 1), .v (.int .i64 0)]) h0 ?_
    simp only [valSz, cN, cT, cR, cE, List.getElem?_cons_zero, List.getElem?_cons_succ]
    by_cases hz : kidSum (valSz d) la4 1 = 0
    · simp only [hz, if_true, ite_self]
      simp -implicitDefEqProofs only [cI, cB, cS, cL, oD_d, oG_g, oT_t, oP_p, dI_v, dB_v, dS_v, dL_s, cell_z, cell_s, nth_z, nth_s, aV_z, aV_s, aI_v, aB_v, aS_v, aL_f, aO_o, aX_b, tst_t, cond_true, cond_false, Ex.same, Nat.beq, List.length_cons, List.length_nil, Int.toNat_natCast, beqTT, beqTF, beqFT, beqFF]
      exact Evt.ret
    · have hlen := keys_len (valSz_rng d) hz
      have hkr := kidSum_rng (valSz_rng d) la4 1 (by omega) (by omega)
      simp only [hz, if_false]
      simp -implicitDefEqProofs only [cI, cB, cS, cL, oD_d, oG_g, oT_t, oP_p, dI_v, dB_v, dS_v, dL_s, cell_z, cell_s, nth_z, nth_s, aV_z, aV_s, aI_v, aB_v, aS_v, aL_f, aO_o, aX_b, tst_t, cond_true, cond_false, Ex.same, Nat.beq, List.length_cons, List.length_nil, Int.toNat_natCast, beqTT, beqTF, beqFT, beqFF]
      generalize kidSum (valSz d) la4 1 = K at *
      refine ev_if (fun c1 => ?_) (fun c1 => ?_)
      · refine ev_if (fun c2 => ?_) (fun c2 => ?_)
        · refine ev_if (fun c3 => ?_) (fun c3 => ?_)
          · refine ev_if (fun c4 => ?_) (fun c4 => ?_)
            · refine ev_call (f166 (by assumption)) ?_
              simp -implicitDefEqProofs only [cI, cB, cS, cL, oD_d, oG_g, oT_t, oP_p, dI_v, dB_v, dS_v, dL_s, cell_z, cell_s, nth_z, nth_s, aV_z, aV_s, aI_v, aB_v, aS_v, aL_f, aO_o, aX_b, tst_t, cond_true, cond_false, Ex.same, Nat.beq, List.length_cons, List.length_nil, Int.toNat_natCast, beqTT, beqTF, beqFT, beqFF, cN, cT, cR, cE, List.getElem?_cons_zero, List.getElem?_cons_succ, Bool.not_false, Bool.not_true, cond_true, cond_false]
              refine ev_if (fun c5 => ?_) (fun c5 => ?_)
              · exact Evt.ret' (by first | (simp_all [shapeB, bare, namesOk]; done) | (simp_all [shapeB, bare, namesOk]; omega) | (simp_all [shapeB, bare, namesOk]; congr))
              · exact Evt.ret' (by first | (simp_all [shapeB, bare, namesOk]; done) | (simp_all [shapeB, bare, namesOk]; omega) | (simp_all [shapeB, bare, namesOk]; congr))
            · exact Evt.ret' (by first | (simp_all [shapeB, bare, namesOk]; done) | (simp_all [shapeB, bare, namesOk]; omega) | (simp_all [shapeB, bare, namesOk]; congr))
          · exact Evt.ret' (by first | (simp_all [shapeB, bare, namesOk]; done) | (simp_all [shapeB, bare, namesOk]; omega) | (simp_all [shapeB, bare, namesOk]; congr))
        · refine ev_if (fun c6 => ?_) (fun c6 => ?_)
          · refine ev_if (fun c7 => ?_) (fun c7 => ?_)
            · refine ev_if (fun c8 => ?_) (fun c8 => ?_)
              · exact Evt.ret' (by first | (simp_all [shapeB, bare, namesOk]; done) | (simp_all [shapeB, bare, namesOk]; omega) | (simp_all [shapeB, bare, namesOk]; congr))
              · exact Evt.ret' (by first | (simp_all [shapeB, bare, namesOk]; done) | (simp_all [shapeB, bare, namesOk]; omega) | (simp_all [shapeB, bare, namesOk]; congr))
            · exact Evt.ret' (by first | (simp_all [shapeB, bare, namesOk]; done) | (simp_all [shapeB, bare, namesOk]; omega) | (simp_all [shapeB, bare, namesOk]; congr))
          · refine ev_if (fun c9 => ?_) (fun c9 => ?_)
            · refine ev_if (fun c10 => ?_) (fun c10 => ?_)
              · refine ev_if (fun c11 => ?_) (fun c11 => ?_)
                · refine ev_call (f78 _ _ _) ?_
                  simp -implicitDefEqProofs only [cI, cB, cS, cL, oD_d, oG_g, oT_t, oP_p, dI_v, dB_v, dS_v, dL_s, cell_z, cell_s, nth_z, nth_s, aV_z, aV_s, aI_v, aB_v, aS_v, aL_f, aO_o, aX_b, tst_t, cond_true, cond_false, Ex.same, Nat.beq, List.length_cons, List.length_nil, Int.toNat_natCast, beqTT, beqTF, beqFT, beqFF, cN, cT, cR, cE, List.getElem?_cons_zero, List.getElem?_cons_succ, Bool.not_false, Bool.not_true, cond_true, cond_false]
                  refine ev_if (fun c12 => ?_) (fun c12 => ?_)
                  · exact Evt.ret' (by first | (simp_all [shapeB, bare, namesOk]; done) | (simp_all [shapeB, bare, namesOk]; omega) | (simp_all [shapeB, bare, namesOk]; congr))
                  · exact Evt.ret' (by first | (simp_all [shapeB, bare, namesOk]; done) | (simp_all [shapeB, bare, namesOk]; omega) | (simp_all [shapeB, bare, namesOk]; congr))
                · exact Evt.ret' (by first | (simp_all [shapeB, bare, namesOk]; done) | (simp_all [shapeB, bare, namesOk]; omega) | (simp_all [shapeB, bare, namesOk]; congr))
              · exact Evt.ret' (by first | (simp_all [shapeB, bare, namesOk]; done) | (simp_all [shapeB, bare, namesOk]; omega) | (simp_all [shapeB, bare, namesOk]; congr))
            · refine ev_if (fun c13 => ?_) (fun c13 => ?_)
              · refine ev_if (fun c14 => ?_) (fun c14 => ?_)
                · refine ev_if (fun c15 => ?_) (fun c15 => ?_)
                  · refine ev_if (fun c16 => ?_) (fun c16 => ?_)
                    · exact Evt.ret' (by first | (simp_all [shapeB, bare, namesOk]; done) | (simp_all [shapeB, bare, namesOk]; omega) | (simp_all [shapeB, bare, namesOk]; congr))
                    · exact Evt.ret' (by first | (simp_all [shapeB, bare, namesOk]; done) | (simp_all [shapeB, bare, namesOk]; omega) | (simp_all [shapeB, bare, namesOk]; congr))
                  · exact Evt.ret' (by first | (simp_all [shapeB, bare, namesOk]; done) | (simp_all [shapeB, bare, namesOk]; omega) | (simp_all [shapeB, bare, namesOk]; congr))
                · exact Evt.ret' (by first | (simp_all [shapeB, bare, namesOk]; done) | (simp_all [shapeB, bare, namesOk]; omega) | (simp_all [shapeB, bare, namesOk]; congr))
              · refine ev_if (fun c17 => ?_) (fun c17 => ?_)
                · refine ev_call (f167 kk) ?_
                  simp -implicitDefEqProofs only [cI, cB, cS, cL, oD_d, oG_g, oT_t, oP_p, dI_v, dB_v, dS_v, dL_s, cell_z, cell_s, nth_z, nth_s, aV_z, aV_s, aI_v, aB_v, aS_v, aL_f, aO_o, aX_b, tst_t, cond_true, cond_false, Ex.same, Nat.beq, List.length_cons, List.length_nil, Int.toNat_natCast, beqTT, beqTF, beqFT, beqFF, cN, cT, cR, cE, List.getElem?_cons_zero, List.getElem?_cons_succ, Bool.not_false, Bool.not_true, cond_true, cond_false]
                  refine ev_if (fun c18 => ?_) (fun c18 => ?_)
                  · refine ev_if (fun c19 => ?_) (fun c19 => ?_)
                    · refine ev_if (fun c20 => ?_) (fun c20 => ?_)
                      · exact Evt.ret' (by first | (simp_all [shapeB, bare, namesOk]; done) | (simp_all [shapeB, bare, namesOk]; omega) | (simp_all [shapeB, bare, namesOk]; congr))
                      · exact Evt.ret' (by first | (simp_all [shapeB, bare, namesOk]; done) | (simp_all [shapeB, bare, namesOk]; omega) | (simp_all [shapeB, bare, namesOk]; congr))
                    · exact Evt.ret' (by first | (simp_all [shapeB, bare, namesOk]; done) | (simp_all [shapeB, bare, namesOk]; omega) | (simp_all [shapeB, bare, namesOk]; congr))
                  · exact Evt.ret' (by first | (simp_all [shapeB, bare, namesOk]; done) | (simp_all [shapeB, bare, namesOk]; omega) | (simp_all [shapeB, bare, namesOk]; congr))
                · exact Evt.ret' (by first | (simp_all [shapeB, bare, namesOk]; done) | (simp_all [shapeB, bare, namesOk]; omega) | (simp_all [shapeB, bare, namesOk]; congr))
      · refine ev_if (fun c21 => ?_) (fun c21 => ?_)
        · exact Evt.ret' (by first | (simp_all [shapeB, bare, namesOk]; done) | (simp_all [shapeB, bare, namesOk]; omega) | (simp_all [shapeB, bare, namesOk]; congr))
        · refine ev_if (fun c22 => ?_) (fun c22 => ?_)
          · exact Evt.ret' (by first | (simp_all [shapeB, bare, namesOk]; done) | (simp_all [shapeB, bare, namesOk]; omega) | (simp_all [shapeB, bare, namesOk]; congr))
          · refine ev_if (fun c23 => ?_) (fun c23 => ?_)
            · exact Evt.ret' (by first | (simp_all [shapeB, bare, namesOk]; done) | (simp_all [shapeB, bare, namesOk]; omega) | (simp_all [shapeB, bare, namesOk]; congr))
            · refine ev_if (fun c24 => ?_) (fun c24 => ?_)
              · refine ev_if (fun c25 => ?_) (fun c25 => ?_)
                · refine ev_if (fun c26 => ?_) (fun c26 => ?_)
                  · refine ev_if (fun c27 => ?_) (fun c27 => ?_)
                    · exact Evt.ret' (by first | (simp_all [shapeB, bare, namesOk]; done) | (simp_all [shapeB, bare, namesOk]; omega) | (simp_all [shapeB, bare, namesOk]; congr))
                    · exact Evt.ret' (by first | (simp_all [shapeB, bare, namesOk]; done) | (simp_all [shapeB, bare, namesOk]; omega) | (simp_all [shapeB, bare, namesOk]; congr))
                  · exact Evt.ret' (by first | (simp_all [shapeB, bare, namesOk]; done) | (simp_all [shapeB, bare, namesOk]; omega) | (simp_all [shapeB, bare, namesOk]; congr))
                · exact Evt.ret' (by first | (simp_all [shapeB, bare, namesOk]; done) | (simp_all [shapeB, bare, namesOk]; omega) | (simp_all [shapeB, bare, namesOk]; congr))
              · refine ev_if (fun c28 => ?_) (fun c28 => ?_)
                · refine ev_call (f167 kk) ?_
                  simp -implicitDefEqProofs only [cI, cB, cS, cL, oD_d, oG_g, oT_t, oP_p, dI_v, dB_v, dS_v, dL_s, cell_z, cell_s, nth_z, nth_s, aV_z, aV_s, aI_v, aB_v, aS_v, aL_f, aO_o, aX_b, tst_t, cond_true, cond_false, Ex.same, Nat.beq, List.length_cons, List.length_nil, Int.toNat_natCast, beqTT, beqTF, beqFT, beqFF, cN, cT, cR, cE, List.getElem?_cons_zero, List.getElem?_cons_succ, Bool.not_false, Bool.not_true, cond_true, cond_false]
                  refine ev_if (fun c29 => ?_) (fun c29 => ?_)
                  · refine ev_if (fun c30 => ?_) (fun c30 => ?_)
                    · refine ev_if (fun c31 => ?_) (fun c31 => ?_)
                      · exact Evt.ret' (by first | (simp_all [shapeB, bare, namesOk]; done) | (simp_all [shapeB, bare, namesOk]; omega) | (simp_all [shapeB, bare, namesOk]; congr))
                      · exact Evt.ret' (by first | (simp_all [shapeB, bare, namesOk]; done) | (simp_all [shapeB, bare, namesOk]; omega) | (simp_all [shapeB, bare, namesOk]; congr))
                    · exact Evt.ret' (by first | (simp_all [shapeB, bare, namesOk]; done) | (simp_all [shapeB, bare, namesOk]; omega) | (simp_all [shapeB, bare, namesOk]; congr))
                  · exact Evt.ret' (by first | (simp_all [shapeB, bare, namesOk]; done) | (simp_all [shapeB, bare, namesOk]; omega) | (simp_all [shapeB, bare, namesOk]; congr))
                · exact Evt.ret' (by first | (simp_all [shapeB, bare, namesOk]; done) | (simp_all [shapeB, bare, namesOk]; omega) | (simp_all [shapeB, bare, namesOk]; congr))
theorem f122 {v : Row} (h : ShL E (E 122) v) : Ev fs 122 [.g v] (bo (valueOk v)) := by
  have kk := h
  rw [E122] at h
  obtain ⟨na0, ra0, rfl, pa0, h_a0⟩ := inv_i h
  obtain ⟨sa1, ra1, rfl, pa1, h_a1⟩ := inv_s h_a0
  obtain ⟨na2, ra2, rfl, pa2, h_a2⟩ := inv_i h_a1
  obtain ⟨la3, ra3, rfl, pa3, h_a3⟩ := inv_sl W9 h_a2
  obtain ⟨la4, ra4, rfl, pa4, h_a4⟩ := inv_sl W122 h_a3
  cases inv_nil h_a4
  refine Ev.of (af := a122) rfl rfl (Evt.congr (fun d n => a122q ..) ?_)
  refine ev_call (f145 6 (by omega) kk) ?_
  simp -implicitDefEqProofs only [cI, cB, cS, cL, oD_d, oG_g, oT_t, oP_p, dI_v, dB_v, dS_v, dL_s, cell_z, cell_s, nth_z, nth_s, aV_z, aV_s, aI_v, aB_v, aS_v, aL_f, aO_o, aX_b, tst_t, cond_true, cond_false, Ex.same, Nat.beq, List.length_cons, List.length_nil, Int.toNat_natCast, beqTT, beqTF, beqFT, beqFF]
  exact Evt.ret
theorem f89 {l : Rows} (hl : SL E 127 l) (hm : l.length ≤ 1073741824) : Ev fs 89 [.d (.s 2 l)] ⟨.d (.s 2 l), []⟩ := by
  refine Ev.of (af := a89) rfl rfl (Evt.congr (fun d n => a89q ..) ?_)
  have hf : flatRows l = true := List.all_eq_true.2 fun x hx => by
    have h := hl.2.mem x hx
    rw [E127] at h
    obtain ⟨na0, ra0, rfl, pa0, h_a0⟩ := inv_i h
    obtain ⟨na1, ra1, rfl, pa1, h_a1⟩ := inv_i h_a0
    cases inv_nil h_a1
    rfl
  have hb : decide ((0 + l.length) * 16 ≤ maxBytes) = true := decide_eq_true (by simp only [maxBytes]; omega)
  simp -implicitDefEqProofs only [cI, cB, cS, cL, oD_d, oG_g, oT_t, oP_p, dI_v, dB_v, dS_v, dL_s, cell_z, cell_s, nth_z, nth_s, aV_z, aV_s, aI_v, aB_v, aS_v, aL_f, aO_o, aX_b, tst_t, cond_true, cond_false, Ex.same, Nat.beq, List.length_cons, List.length_nil, Int.toNat_natCast, beqTT, beqTF, beqFT, beqFF, hf, hb, List.nil_append]
  refine ev_if (fun h => ?_) (fun h => ?_)
  · have : l = [] := by simpa using h
    subst this
    exact ev_agree Evt.ret Evt.ret
  · exact Evt.ret
theorem f80 {l : Rows} (hl : SL E 124 l) : Ev fs 80 [.d (.s 7 l)] (bo (worksOk l)) := by
  refine Ev.of (af := a80) rfl rfl (Evt.congr (fun d n => a80q ..) ?_)
  refine ev_aft (L := fun d n => l80x0 (TabD fs d) d n [(.fz 7 l), (.v (.int .i64 0))]) (all_loop (L := fun d n i => l80x0 (TabD fs d) d n [(.fz 7 l), (.v (.int .i64 i))]) (n := l.length) (p := fun i => inB (cN (row_ l i) 0) 1 1000000 && (inB (cN (row_ l i) 1) 1 10000 && (valueOk ((row_ l i).drop 2) && chain (upN 0) l i))) (y := (.exit 0, [(.fz 7 l)])) (z := (.ret, [.v (.bool false)])) (fun d m => ?_) (fun i hi => ?_)) ?_
  · rw [l80x0s]
    simp -implicitDefEqProofs only [cI, cB, cS, cL, oD_d, oG_g, oT_t, oP_p, dI_v, dB_v, dS_v, dL_s, cell_z, cell_s, nth_z, nth_s, aV_z, aV_s, aI_v, aB_v, aS_v, aL_f, aO_o, aX_b, tst_t, cond_true, cond_false, Ex.same, Nat.beq, List.length_cons, List.length_nil, Int.toNat_natCast, beqTT, beqTF, beqFT, beqFF, Int.lt_irrefl, decide_false]
  · have hx := List.getElem?_eq_getElem hi
    generalize l[i] = x at hx
    have h := hl.at hx
    have hw := wrap_succ hi hl.le
    rw [E124] at h
    obtain ⟨nx0, rx0, rfl, px0, h_x0⟩ := inv_i h
    obtain ⟨nx1, rx1, rfl, px1, h_x1⟩ := inv_i h_x0
    obtain ⟨nx2, rx2, rfl, px2, h_x2⟩ := inv_i h_x1
    obtain ⟨sx3, rx3, rfl, px3, h_x3⟩ := inv_s h_x2
    obtain ⟨nx4, rx4, rfl, px4, h_x4⟩ := inv_i h_x3
    obtain ⟨lx5, rx5, rfl, px5, h_x5⟩ := inv_sl W9 h_x4
    obtain ⟨lx6, rx6, rfl, px6, h_x6⟩ := inv_sl W122 h_x5
    cases inv_nil h_x6
    simp only [l80x0s, row_, hx, Option.getD_some, cN, cT, cR, cE, List.getElem?_cons_zero, List.getElem?_cons_succ, List.drop_succ_cons, List.drop_zero]
    cases i with
    | zero =>
      simp -implicitDefEqProofs only [cI, cB, cS, cL, oD_d, oG_g, oT_t, oP_p, dI_v, dB_v, dS_v, dL_s, cell_z, cell_s, nth_z, nth_s, aV_z, aV_s, aI_v, aB_v, aS_v, aL_f, aO_o, aX_b, tst_t, cond_true, cond_false, Ex.same, Nat.beq, List.length_cons, List.length_nil, Int.toNat_natCast, beqTT, beqTF, beqFT, beqFF, decide_eq_true (Int.ofNat_lt.2 hi), dec_nn, look_at hx, hw, pos_zero]
      simp only [chain]
      intro res k k'
      refine ev_call (f78 _ _ _) ?_
      simp -implicitDefEqProofs only [cI, cB, cS, cL, oD_d, oG_g, oT_t, oP_p, dI_v, dB_v, dS_v, dL_s, cell_z, cell_s, nth_z, nth_s, aV_z, aV_s, aI_v, aB_v, aS_v, aL_f, aO_o, aX_b, tst_t, cond_true, cond_false, Ex.same, Nat.beq, List.length_cons, List.length_nil, Int.toNat_natCast, beqTT, beqTF, beqFT, beqFF, dec_nn, look_at hx, pos_zero, Bool.not_false, Bool.not_true, cond_true, cond_false]
      refine ev_if (fun c1 => ?_) (fun c1 => ?_)
      · refine ev_call (f78 _ _ _) ?_
        simp -implicitDefEqProofs only [cI, cB, cS, cL, oD_d, oG_g, oT_t, oP_p, dI_v, dB_v, dS_v, dL_s, cell_z, cell_s, nth_z, nth_s, aV_z, aV_s, aI_v, aB_v, aS_v, aL_f, aO_o, aX_b, tst_t, cond_true, cond_false, Ex.same, Nat.beq, List.length_cons, List.length_nil, Int.toNat_natCast, beqTT, beqTF, beqFT, beqFF, dec_nn, look_at hx, pos_zero, Bool.not_false, Bool.not_true, cond_true, cond_false]
        refine ev_if (fun c2 => ?_) (fun c2 => ?_)
        · refine ev_call (f122 (by rw [E122]; exact mk_i (by assumption) (mk_s (by assumption) (mk_i (by assumption) (mk_sl W9 (by assumption) (mk_sl W122 (by assumption) (ShL.nil))))))) ?_
          simp -implicitDefEqProofs only [cI, cB, cS, cL, oD_d, oG_g, oT_t, oP_p, dI_v, dB_v, dS_v, dL_s, cell_z, cell_s, nth_z, nth_s, aV_z, aV_s, aI_v, aB_v, aS_v, aL_f, aO_o, aX_b, tst_t, cond_true, cond_false, Ex.same, Nat.beq, List.length_cons, List.length_nil, Int.toNat_natCast, beqTT, beqTF, beqFT, beqFF, dec_nn, look_at hx, pos_zero, Bool.not_false, Bool.not_true, cond_true, cond_false]
          refine ev_if (fun c3 => ?_) (fun c3 => ?_)
          · exact k (by first | (simp_all [inB, upT, upN, cN, cT, cR]; done) | (simp_all [inB, upT, upN, cN, cT, cR]; omega) | (simp_all [inB, upT, upN, cN, cT, cR]; congr))
          · exact Evt.ret' (k' (by first | (simp_all [inB, upT, upN, cN, cT, cR]; done) | (simp_all [inB, upT, upN, cN, cT, cR]; omega) | (simp_all [inB, upT, upN, cN, cT, cR]; congr)))
        · exact Evt.ret' (k' (by first | (simp_all [inB, upT, upN, cN, cT, cR]; done) | (simp_all [inB, upT, upN, cN, cT, cR]; omega) | (simp_all [inB, upT, upN, cN, cT, cR]; congr)))
      · exact Evt.ret' (k' (by first | (simp_all [inB, upT, upN, cN, cT, cR]; done) | (simp_all [inB, upT, upN, cN, cT, cR]; omega) | (simp_all [inB, upT, upN, cN, cT, cR]; congr)))
    | succ j =>
      have hy := List.getElem?_eq_getElem (show j < l.length by omega)
      generalize l[j] = y at hy
      have hj := hl.at hy
      have hp := wrap_pred (j := j) (by have := hl.le; omega)
      rw [E124] at hj
      obtain ⟨ny0, ry0, rfl, py0, hj_y0⟩ := inv_i hj
      obtain ⟨ny1, ry1, rfl, py1, hj_y1⟩ := inv_i hj_y0
      obtain ⟨ny2, ry2, rfl, py2, hj_y2⟩ := inv_i hj_y1
      obtain ⟨sy3, ry3, rfl, py3, hj_y3⟩ := inv_s hj_y2
      obtain ⟨ny4, ry4, rfl, py4, hj_y4⟩ := inv_i hj_y3
      obtain ⟨ly5, ry5, rfl, py5, hj_y5⟩ := inv_sl W9 hj_y4
      obtain ⟨ly6, ry6, rfl, py6, hj_y6⟩ := inv_sl W122 hj_y5
      cases inv_nil hj_y6
      simp only [chain, row_, hx, hy, Option.getD_some, cN, cT, cR, cE, List.getElem?_cons_zero, List.getElem?_cons_succ]
      simp -implicitDefEqProofs only [cI, cB, cS, cL, oD_d, oG_g, oT_t, oP_p, dI_v, dB_v, dS_v, dL_s, cell_z, cell_s, nth_z, nth_s, aV_z, aV_s, aI_v, aB_v, aS_v, aL_f, aO_o, aX_b, tst_t, cond_true, cond_false, Ex.same, Nat.beq, List.length_cons, List.length_nil, Int.toNat_natCast, beqTT, beqTF, beqFT, beqFF, decide_eq_true (Int.ofNat_lt.2 hi), dec_nn, look_at hx, look_at hy, hw, hp, pos_succ]
      intro res k k'
      refine ev_call (f78 _ _ _) ?_
      simp -implicitDefEqProofs only [cI, cB, cS, cL, oD_d, oG_g, oT_t, oP_p, dI_v, dB_v, dS_v, dL_s, cell_z, cell_s, nth_z, nth_s, aV_z, aV_s, aI_v, aB_v, aS_v, aL_f, aO_o, aX_b, tst_t, cond_true, cond_false, Ex.same, Nat.beq, List.length_cons, List.length_nil, Int.toNat_natCast, beqTT, beqTF, beqFT, beqFF, dec_nn, look_at hx, look_at hy, hp, pos_succ, Bool.not_false, Bool.not_true, cond_true, cond_false]
      refine ev_if (fun c1 => ?_) (fun c1 => ?_)
      · refine ev_call (f78 _ _ _) ?_
        simp -implicitDefEqProofs only [cI, cB, cS, cL, oD_d, oG_g, oT_t, oP_p, dI_v, dB_v, dS_v, dL_s, cell_z, cell_s, nth_z, nth_s, aV_z, aV_s, aI_v, aB_v, aS_v, aL_f, aO_o, aX_b, tst_t, cond_true, cond_false, Ex.same, Nat.beq, List.length_cons, List.length_nil, Int.toNat_natCast, beqTT, beqTF, beqFT, beqFF, dec_nn, look_at hx, look_at hy, hp, pos_succ, Bool.not_false, Bool.not_true, cond_true, cond_false]
        refine ev_if (fun c2 => ?_) (fun c2 => ?_)
        · refine ev_call (f122 (by rw [E122]; exact mk_i (by assumption) (mk_s (by assumption) (mk_i (by assumption) (mk_sl W9 (by assumption) (mk_sl W122 (by assumption) (ShL.nil))))))) ?_
          simp -implicitDefEqProofs only [cI, cB, cS, cL, oD_d, oG_g, oT_t, oP_p, dI_v, dB_v, dS_v, dL_s, cell_z, cell_s, nth_z, nth_s, aV_z, aV_s, aI_v, aB_v, aS_v, aL_f, aO_o, aX_b, tst_t, cond_true, cond_false, Ex.same, Nat.beq, List.length_cons, List.length_nil, Int.toNat_natCast, beqTT, beqTF, beqFT, beqFF, dec_nn, look_at hx, look_at hy, hp, pos_succ, Bool.not_false, Bool.not_true, cond_true, cond_false]
          refine ev_if (fun c3 => ?_) (fun c3 => ?_)
          · refine ev_if (fun c4 => ?_) (fun c4 => ?_)
            · exact Evt.ret' (k' (by first | (simp_all [inB, upT, upN, cN, cT, cR]; done) | (simp_all [inB, upT, upN, cN, cT, cR]; omega) | (simp_all [inB, upT, upN, cN, cT, cR]; congr)))
            · exact k (by first | (simp_all [inB, upT, upN, cN, cT, cR]; done) | (simp_all [inB, upT, upN, cN, cT, cR]; omega) | (simp_all [inB, upT, upN, cN, cT, cR]; congr))
          · exact Evt.ret' (k' (by first | (simp_all [inB, upT, upN, cN, cT, cR]; done) | (simp_all [inB, upT, upN, cN, cT, cR]; omega) | (simp_all [inB, upT, upN, cN, cT, cR]; congr)))
        · exact Evt.ret' (k' (by first | (simp_all [inB, upT, upN, cN, cT, cR]; done) | (simp_all [inB, upT, upN, cN, cT, cR]; omega) | (simp_all [inB, upT, upN, cN, cT, cR]; congr)))
      · exact Evt.ret' (k' (by first | (simp_all [inB, upT, upN, cN, cT, cR]; done) | (simp_all [inB, upT, upN, cN, cT, cR]; omega) | (simp_all [inB, upT, upN, cN, cT, cR]; congr)))
  · cases hq : allN l.length (fun i => inB (cN (row_ l i) 0) 1 1000000 && (inB (cN (row_ l i) 1) 1 10000 && (valueOk ((row_ l i).drop 2) && chain (upN 0) l i))) with
    | false =>
      simp -implicitDefEqProofs only [cI, cB, cS, cL, oD_d, oG_g, oT_t, oP_p, dI_v, dB_v, dS_v, dL_s, cell_z, cell_s, nth_z, nth_s, aV_z, aV_s, aI_v, aB_v, aS_v, aL_f, aO_o, aX_b, tst_t, cond_true, cond_false, Ex.same, Nat.beq, List.length_cons, List.length_nil, Int.toNat_natCast, beqTT, beqTF, beqFT, beqFF]
      exact Evt.ret' (by simp [worksOk, hq])
    | true =>
      simp -implicitDefEqProofs only [cI, cB, cS, cL, oD_d, oG_g, oT_t, oP_p, dI_v, dB_v, dS_v, dL_s, cell_z, cell_s, nth_z, nth_s, aV_z, aV_s, aI_v, aB_v, aS_v, aL_f, aO_o, aX_b, tst_t, cond_true, cond_false, Ex.same, Nat.beq, List.length_cons, List.length_nil, Int.toNat_natCast, beqTT, beqTF, beqFT, beqFF]
      exact Evt.ret' (by simp [worksOk, hq])
theorem f87 {l : Rows} (hl : SL E 124 l) : Ev fs 87 [.d (.s 7 l)] (bo (worksOk l)) := by
  refine Ev.of (af := a87) rfl rfl (Evt.congr (fun d n => a87q ..) ?_)
  refine ev_aft (L := fun d n => l87x0 (TabD fs d) d n [(.fz 7 l), (.fz 7 l), (.v (.int .i64 (l.length : Int))), (.v (.int .i64 0))]) (all_loop (L := fun d n i => l87x0 (TabD fs d) d n [(.fz 7 l), (.fz 7 l), (.v (.int .i64 (l.length : Int))), (.v (.int .i64 i))]) (n := l.length) (p := fun i => inB (cN (row_ l i) 0) 1 1000000 && (inB (cN (row_ l i) 1) 1 10000 && (valueOk ((row_ l i).drop 2) && chain (upN 0) l i))) (y := (.exit 0, [(.fz 7 l)])) (z := (.ret, [.v (.bool false)])) (fun d m => ?_) (fun i hi => ?_)) ?_
  · rw [l87x0s]
    simp -implicitDefEqProofs only [cI, cB, cS, cL, oD_d, oG_g, oT_t, oP_p, dI_v, dB_v, dS_v, dL_s, cell_z, cell_s, nth_z, nth_s, aV_z, aV_s, aI_v, aB_v, aS_v, aL_f, aO_o, aX_b, tst_t, cond_true, cond_false, Ex.same, Nat.beq, List.length_cons, List.length_nil, Int.toNat_natCast, beqTT, beqTF, beqFT, beqFF, Int.lt_irrefl, decide_false]
  · have hx := List.getElem?_eq_getElem hi
    generalize l[i] = x at hx
    have h := hl.at hx
    have hw := wrap_succ hi hl.le
    rw [E124] at h
    obtain ⟨nx0, rx0, rfl, px0, h_x0⟩ := inv_i h
    obtain ⟨nx1, rx1, rfl, px1, h_x1⟩ := inv_i h_x0
    obtain ⟨nx2, rx2, rfl, px2, h_x2⟩ := inv_i h_x1
    obtain ⟨sx3, rx3, rfl, px3, h_x3⟩ := inv_s h_x2
    obtain ⟨nx4, rx4, rfl, px4, h_x4⟩ := inv_i h_x3
    obtain ⟨lx5, rx5, rfl, px5, h_x5⟩ := inv_sl W9 h_x4
    obtain ⟨lx6, rx6, rfl, px6, h_x6⟩ := inv_sl W122 h_x5
    cases inv_nil h_x6
    simp only [l87x0s, row_, hx, Option.getD_some, cN, cT, cR, cE, List.getElem?_cons_zero, List.getElem?_cons_succ, List.drop_succ_cons, List.drop_zero]
    cases i with
    | zero =>
      simp -implicitDefEqProofs only [cI, cB, cS, cL, oD_d, oG_g, oT_t, oP_p, dI_v, dB_v, dS_v, dL_s, cell_z, cell_s, nth_z, nth_s, aV_z, aV_s, aI_v, aB_v, aS_v, aL_f, aO_o, aX_b, tst_t, cond_true, cond_false, Ex.same, Nat.beq, List.length_cons, List.length_nil, Int.toNat_natCast, beqTT, beqTF, beqFT, beqFF, decide_eq_true (Int.ofNat_lt.2 hi), dec_nn, look_at hx, hw, pos_zero]
      simp only [chain]
      intro res k k'
      refine ev_call (f85 _ _ _) ?_
      simp -implicitDefEqProofs only [cI, cB, cS, cL, oD_d, oG_g, oT_t, oP_p, dI_v, dB_v, dS_v, dL_s, cell_z, cell_s, nth_z, nth_s, aV_z, aV_s, aI_v, aB_v, aS_v, aL_f, aO_o, aX_b, tst_t, cond_true, cond_false, Ex.same, Nat.beq, List.length_cons, List.length_nil, Int.toNat_natCast, beqTT, beqTF, beqFT, beqFF, dec_nn, look_at hx, pos_zero, Bool.not_false, Bool.not_true, cond_true, cond_false]
      refine ev_if (fun c1 => ?_) (fun c1 => ?_)
      · refine ev_call (f85 _ _ _) ?_
        simp -implicitDefEqProofs only [cI, cB, cS, cL, oD_d, oG_g, oT_t, oP_p, dI_v, dB_v, dS_v, dL_s, cell_z, cell_s, nth_z, nth_s, aV_z, aV_s, aI_v, aB_v, aS_v, aL_f, aO_o, aX_b, tst_t, cond_true, cond_false, Ex.same, Nat.beq, List.length_cons, List.length_nil, Int.toNat_natCast, beqTT, beqTF, beqFT, beqFF, dec_nn, look_at hx, pos_zero, Bool.not_false, Bool.not_true, cond_true, cond_false]
        refine ev_if (fun c2 => ?_) (fun c2 => ?_)
        · refine ev_call (f125 (by rw [E122]; exact mk_i (by assumption) (mk_s (by assumption) (mk_i (by assumption) (mk_sl W9 (by assumption) (mk_sl W122 (by assumption) (ShL.nil))))))) ?_
          simp -implicitDefEqProofs only [cI, cB, cS, cL, oD_d, oG_g, oT_t, oP_p, dI_v, dB_v, dS_v, dL_s, cell_z, cell_s, nth_z, nth_s, aV_z, aV_s, aI_v, aB_v, aS_v, aL_f, aO_o, aX_b, tst_t, cond_true, cond_false, Ex.same, Nat.beq, List.length_cons, List.length_nil, Int.toNat_natCast, beqTT, beqTF, beqFT, beqFF, dec_nn, look_at hx, pos_zero, Bool.not_false, Bool.not_true, cond_true, cond_false]
          refine ev_if (fun c3 => ?_) (fun c3 => ?_)
          · exact k (by first | (simp_all [inB, upT, upN, cN, cT, cR]; done) | (simp_all [inB, upT, upN, cN, cT, cR]; omega) | (simp_all [inB, upT, upN, cN, cT, cR]; congr))
          · exact Evt.ret' (k' (by first | (simp_all [inB, upT, upN, cN, cT, cR]; done) | (simp_all [inB, upT, upN, cN, cT, cR]; omega) | (simp_all [inB, upT, upN, cN, cT, cR]; congr)))
        · exact Evt.ret' (k' (by first | (simp_all [inB, upT, upN, cN, cT, cR]; done) | (simp_all [inB, upT, upN, cN, cT, cR]; omega) | (simp_all [inB, upT, upN, cN, cT, cR]; congr)))
      · exact Evt.ret' (k' (by first | (simp_all [inB, upT, upN, cN, cT, cR]; done) | (simp_all [inB, upT, upN, cN, cT, cR]; omega) | (simp_all [inB, upT, upN, cN, cT, cR]; congr)))
    | succ j =>
      have hy := List.getElem?_eq_getElem (show j < l.length by omega)
      generalize l[j] = y at hy
      have hj := hl.at hy
      have hp := wrap_pred (j := j) (by have := hl.le; omega)
      rw [E124] at hj
      obtain ⟨ny0, ry0, rfl, py0, hj_y0⟩ := inv_i hj
      obtain ⟨ny1, ry1, rfl, py1, hj_y1⟩ := inv_i hj_y0
      obtain ⟨ny2, ry2, rfl, py2, hj_y2⟩ := inv_i hj_y1
      obtain ⟨sy3, ry3, rfl, py3, hj_y3⟩ := inv_s hj_y2
      obtain ⟨ny4, ry4, rfl, py4, hj_y4⟩ := inv_i hj_y3
      obtain ⟨ly5, ry5, rfl, py5, hj_y5⟩ := inv_sl W9 hj_y4
      obtain ⟨ly6, ry6, rfl, py6, hj_y6⟩ := inv_sl W122 hj_y5
      cases inv_nil hj_y6
      simp only [chain, row_, hx, hy, Option.getD_some, cN, cT, cR, cE, List.getElem?_cons_zero, List.getElem?_cons_succ]
      simp -implicitDefEqProofs only [cI, cB, cS, cL, oD_d, oG_g, oT_t, oP_p, dI_v, dB_v, dS_v, dL_s, cell_z, cell_s, nth_z, nth_s, aV_z, aV_s, aI_v, aB_v, aS_v, aL_f, aO_o, aX_b, tst_t, cond_true, cond_false, Ex.same, Nat.beq, List.length_cons, List.length_nil, Int.toNat_natCast, beqTT, beqTF, beqFT, beqFF, decide_eq_true (Int.ofNat_lt.2 hi), dec_nn, look_at hx, look_at hy, hw, hp, pos_succ]
      intro res k k'
      refine ev_call (f85 _ _ _) ?_
      simp -implicitDefEqProofs only [cI, cB, cS, cL, oD_d, oG_g, oT_t, oP_p, dI_v, dB_v, dS_v, dL_s, cell_z, cell_s, nth_z, nth_s, aV_z, aV_s, aI_v, aB_v, aS_v, aL_f, aO_o, aX_b, tst_t, cond_true, cond_false, Ex.same, Nat.beq, List.length_cons, List.length_nil, Int.toNat_natCast, beqTT, beqTF, beqFT, beqFF, dec_nn, look_at hx, look_at hy, hp, pos_succ, Bool.not_false, Bool.not_true, cond_true, cond_false]
      refine ev_if (fun c1 => ?_) (fun c1 => ?_)
      · refine ev_call (f85 _ _ _) ?_
        simp -implicitDefEqProofs only [cI, cB, cS, cL, oD_d, oG_g, oT_t, oP_p, dI_v, dB_v, dS_v, dL_s, cell_z, cell_s, nth_z, nth_s, aV_z, aV_s, aI_v, aB_v, aS_v, aL_f, aO_o, aX_b, tst_t, cond_true, cond_false, Ex.same, Nat.beq, List.length_cons, List.length_nil, Int.toNat_natCast, beqTT, beqTF, beqFT, beqFF, dec_nn, look_at hx, look_at hy, hp, pos_succ, Bool.not_false, Bool.not_true, cond_true, cond_false]
        refine ev_if (fun c2 => ?_) (fun c2 => ?_)
        · refine ev_call (f125 (by rw [E122]; exact mk_i (by assumption) (mk_s (by assumption) (mk_i (by assumption) (mk_sl W9 (by assumption) (mk_sl W122 (by assumption) (ShL.nil))))))) ?_
          simp -implicitDefEqProofs only [cI, cB, cS, cL, oD_d, oG_g, oT_t, oP_p, dI_v, dB_v, dS_v, dL_s, cell_z, cell_s, nth_z, nth_s, aV_z, aV_s, aI_v, aB_v, aS_v, aL_f, aO_o, aX_b, tst_t, cond_true, cond_false, Ex.same, Nat.beq, List.length_cons, List.length_nil, Int.toNat_natCast, beqTT, beqTF, beqFT, beqFF, dec_nn, look_at hx, look_at hy, hp, pos_succ, Bool.not_false, Bool.not_true, cond_true, cond_false]
          refine ev_if (fun c3 => ?_) (fun c3 => ?_)
          · refine ev_if (fun c4 => ?_) (fun c4 => ?_)
            · exact Evt.ret' (k' (by first | (simp_all [inB, upT, upN, cN, cT, cR]; done) | (simp_all [inB, upT, upN, cN, cT, cR]; omega) | (simp_all [inB, upT, upN, cN, cT, cR]; congr)))
            · exact k (by first | (simp_all [inB, upT, upN, cN, cT, cR]; done) | (simp_all [inB, upT, upN, cN, cT, cR]; omega) | (simp_all [inB, upT, upN, cN, cT, cR]; congr))
          · exact Evt.ret' (k' (by first | (simp_all [inB, upT, upN, cN, cT, cR]; done) | (simp_all [inB, upT, upN, cN, cT, cR]; omega) | (simp_all [inB, upT, upN, cN, cT, cR]; congr)))
        · exact Evt.ret' (k' (by first | (simp_all [inB, upT, upN, cN, cT, cR]; done) | (simp_all [inB, upT, upN, cN, cT, cR]; omega) | (simp_all [inB, upT, upN, cN, cT, cR]; congr)))
      · exact Evt.ret' (k' (by first | (simp_all [inB, upT, upN, cN, cT, cR]; done) | (simp_all [inB, upT, upN, cN, cT, cR]; omega) | (simp_all [inB, upT, upN, cN, cT, cR]; congr)))
  · cases hq : allN l.length (fun i => inB (cN (row_ l i) 0) 1 1000000 && (inB (cN (row_ l i) 1) 1 10000 && (valueOk ((row_ l i).drop 2) && chain (upN 0) l i))) with
    | false =>
      simp -implicitDefEqProofs only [cI, cB, cS, cL, oD_d, oG_g, oT_t, oP_p, dI_v, dB_v, dS_v, dL_s, cell_z, cell_s, nth_z, nth_s, aV_z, aV_s, aI_v, aB_v, aS_v, aL_f, aO_o, aX_b, tst_t, cond_true, cond_false, Ex.same, Nat.beq, List.length_cons, List.length_nil, Int.toNat_natCast, beqTT, beqTF, beqFT, beqFF]
      exact Evt.ret' (by simp [worksOk, hq])
    | true =>
      simp -implicitDefEqProofs only [cI, cB, cS, cL, oD_d, oG_g, oT_t, oP_p, dI_v, dB_v, dS_v, dL_s, cell_z, cell_s, nth_z, nth_s, aV_z, aV_s, aI_v, aB_v, aS_v, aL_f, aO_o, aX_b, tst_t, cond_true, cond_false, Ex.same, Nat.beq, List.length_cons, List.length_nil, Int.toNat_natCast, beqTT, beqTF, beqFT, beqFF]
      exact Evt.ret' (by simp [worksOk, hq])
theorem f106 {l : Rows} (hl : SL E 127 l) : Ev fs 106 [.d (.s 2 l)] (io (sumN 1 (l))) := by
  refine Ev.of (af := a106) rfl rfl (Evt.congr (fun d n => a106q ..) ?_)
  refine ev_aft (L := fun d n => l106x0 (TabD fs d) d n [(.fz 2 l), (.v (.int .i64 0)), (.v (.int .i64 0))]) (fold_loop (L := fun d n acc i => l106x0 (TabD fs d) d n [(.fz 2 l), (.v (.int .i64 acc)), (.v (.int .i64 i))]) (a := l) (f := fun acc x => IntKind.i64.wrap (acc + cN x 1)) (acc := 0) (Y := fun acc => (.exit 0, [.v (.int .i64 acc)])) (fun _ _ => True) (fun d n acc => ?_) (fun i x acc res hi hx _ k => ?_) (fun _ _ _ _ _ _ => trivial) trivial).1 ?_
  · rw [l106x0s]
    simp -implicitDefEqProofs only [cI, cB, cS, cL, oD_d, oG_g, oT_t, oP_p, dI_v, dB_v, dS_v, dL_s, cell_z, cell_s, nth_z, nth_s, aV_z, aV_s, aI_v, aB_v, aS_v, aL_f, aO_o, aX_b, tst_t, cond_true, cond_false, Ex.same, Nat.beq, List.length_cons, List.length_nil, Int.toNat_natCast, beqTT, beqTF, beqFT, beqFF, Int.lt_irrefl, decide_false]
  · have w := hl.at hx
    rw [E127] at w
    obtain ⟨nx0, rx0, rfl, px0, w_x0⟩ := inv_i w
    obtain ⟨nx1, rx1, rfl, px1, w_x1⟩ := inv_i w_x0
    cases inv_nil w_x1
    simp only [l106x0s]
    simp -implicitDefEqProofs only [cI, cB, cS, cL, oD_d, oG_g, oT_t, oP_p, dI_v, dB_v, dS_v, dL_s, cell_z, cell_s, nth_z, nth_s, aV_z, aV_s, aI_v, aB_v, aS_v, aL_f, aO_o, aX_b, tst_t, cond_true, cond_false, Ex.same, Nat.beq, List.length_cons, List.length_nil, Int.toNat_natCast, beqTT, beqTF, beqFT, beqFF, decide_eq_true (Int.ofNat_lt.2 hi), dec_nn, look_at hx, wrap_succ hi hl.le]
    simp only [cN, cT, cR, cE, List.getElem?_cons_zero, List.getElem?_cons_succ] at k
    exact k
  · simp -implicitDefEqProofs only [cI, cB, cS, cL, oD_d, oG_g, oT_t, oP_p, dI_v, dB_v, dS_v, dL_s, cell_z, cell_s, nth_z, nth_s, aV_z, aV_s, aI_v, aB_v, aS_v, aL_f, aO_o, aX_b, tst_t, cond_true, cond_false, Ex.same, Nat.beq, List.length_cons, List.length_nil, Int.toNat_natCast, beqTT, beqTF, beqFT, beqFF]
    exact Evt.ret
theorem f111 {row : Row} (h : ShL E (E 33) row) : Ev fs 111 [.g row] (io (sumN 1 (cR row 4))) := by
  rw [E33] at h
  obtain ⟨sa0, ra0, rfl, pa0, h_a0⟩ := inv_s h
  obtain ⟨na1, ra1, rfl, pa1, h_a1⟩ := inv_i h_a0
  obtain ⟨na2, ra2, rfl, pa2, h_a2⟩ := inv_i h_a1
  obtain ⟨la3, ra3, rfl, pa3, h_a3⟩ := inv_sl W124 h_a2
  obtain ⟨la4, ra4, rfl, pa4, h_a4⟩ := inv_sl W127 h_a3
  cases inv_nil h_a4
  simp only [cN, cT, cR, cE, List.getElem?_cons_zero, List.getElem?_cons_succ]
  refine Ev.of (af := a111) rfl rfl (Evt.congr (fun d n => a111q ..) ?_)
  refine ev_aft (L := fun d n => l111x0 (TabD fs d) d n [(.v (.int .i64 0)), (.fz 2 la4), (.v (.int .i64 (la4.length : Int))), (.v (.int .i64 0))]) (fold_loop (L := fun d n acc i => l111x0 (TabD fs d) d n [(.v (.int .i64 acc)), (.fz 2 la4), (.v (.int .i64 (la4.length : Int))), (.v (.int .i64 i))]) (a := la4) (f := fun acc x => IntKind.i64.wrap (acc + cN x 1)) (acc := 0) (Y := fun acc => (.exit 0, [.v (.int .i64 acc)])) (fun _ _ => True) (fun d n acc => ?_) (fun i x acc res hi hx _ k => ?_) (fun _ _ _ _ _ _ => trivial) trivial).1 ?_
  · rw [l111x0s]
    simp -implicitDefEqProofs only [cI, cB, cS, cL, oD_d, oG_g, oT_t, oP_p, dI_v, dB_v, dS_v, dL_s, cell_z, cell_s, nth_z, nth_s, aV_z, aV_s, aI_v, aB_v, aS_v, aL_f, aO_o, aX_b, tst_t, cond_true, cond_false, Ex.same, Nat.beq, List.length_cons, List.length_nil, Int.toNat_natCast, beqTT, beqTF, beqFT, beqFF, Int.lt_irrefl, decide_false]
  · have w := pa4.at hx
    rw [E127] at w
    obtain ⟨nx0, rx0, rfl, px0, w_x0⟩ := inv_i w
    obtain ⟨nx1, rx1, rfl, px1, w_x1⟩ := inv_i w_x0
    cases inv_nil w_x1
    simp only [l111x0s]
    simp -implicitDefEqProofs only [cI, cB, cS, cL, oD_d, oG_g, oT_t, oP_p, dI_v, dB_v, dS_v, dL_s, cell_z, cell_s, nth_z, nth_s, aV_z, aV_s, aI_v, aB_v, aS_v, aL_f, aO_o, aX_b, tst_t, cond_true, cond_false, Ex.same, Nat.beq, List.length_cons, List.length_nil, Int.toNat_natCast, beqTT, beqTF, beqFT, beqFF, decide_eq_true (Int.ofNat_lt.2 hi), dec_nn, look_at hx, wrap_succ hi pa4.le]
    simp only [cN, cT, cR, cE, List.getElem?_cons_zero, List.getElem?_cons_succ] at k
    exact k
  · simp -implicitDefEqProofs only [cI, cB, cS, cL, oD_d, oG_g, oT_t, oP_p, dI_v, dB_v, dS_v, dL_s, cell_z, cell_s, nth_z, nth_s, aV_z, aV_s, aI_v, aB_v, aS_v, aL_f, aO_o, aX_b, tst_t, cond_true, cond_false, Ex.same, Nat.beq, List.length_cons, List.length_nil, Int.toNat_natCast, beqTT, beqTF, beqFT, beqFF]
    exact Evt.ret
theorem f139 {l : Rows} (hl : SL E 127 l) {g : Nat} {cs : List I} {p : Row → Bool} (hg : ∀ (i : Nat) (x : Row), l[i]? = some x → Ev fs g ([.g x] ++ cs) (bo (p x))) : Ev fs 139 [.d (.s 2 l), .f g cs] (io (idxR p l)) := by
  refine Ev.of (af := a139) rfl rfl (Evt.congr (fun d n => a139q ..) ?_)
  refine idx_of (L := fun d n => l139x0 (TabD fs d) d n [.fz 2 l, .ff g cs, .v (.int .i64 (l.length : Int)), .v (.int .i64 0)]) (idx_loop (L := fun d n i => l139x0 (TabD fs d) d n [.fz 2 l, .ff g cs, .v (.int .i64 (l.length : Int)), .v (.int .i64 i)]) (fun d m => ?_) (fun i x hi hx => ?_))
  · rw [l139x0s]
    simp -implicitDefEqProofs only [cI, cB, cS, cL, oD_d, oG_g, oT_t, oP_p, dI_v, dB_v, dS_v, dL_s, cell_z, cell_s, nth_z, nth_s, aV_z, aV_s, aI_v, aB_v, aS_v, aL_f, aO_o, aX_b, tst_t, cond_true, cond_false, Ex.same, Nat.beq, List.length_cons, List.length_nil, Int.toNat_natCast, beqTT, beqTF, beqFT, beqFF, Int.lt_irrefl, decide_false]
  · have h := hl.at hx
    rw [E127] at h
    obtain ⟨na0, ra0, rfl, pa0, h_a0⟩ := inv_i h
    obtain ⟨na1, ra1, rfl, pa1, h_a1⟩ := inv_i h_a0
    cases inv_nil h_a1
    simp only [l139x0s]
    simp -implicitDefEqProofs only [cI, cB, cS, cL, oD_d, oG_g, oT_t, oP_p, dI_v, dB_v, dS_v, dL_s, cell_z, cell_s, nth_z, nth_s, aV_z, aV_s, aI_v, aB_v, aS_v, aL_f, aO_o, aX_b, tst_t, cond_true, cond_false, Ex.same, Nat.beq, List.length_cons, List.length_nil, Int.toNat_natCast, beqTT, beqTF, beqFT, beqFF, decide_eq_true (Int.ofNat_lt.2 hi), dec_nn, look_at hx, wrap_succ hi hl.1]
    apply Stp.conv
    · apply stp_call
      · exact hg i _ hx
      · apply stp_not
        intro _
        exact stp_end
    · simp
theorem f109 {l : Rows} (hl : SL E 127 l) {g : Nat} {cs : List I} {p : Row → Bool} (hg : ∀ (i : Nat) (x : Row), l[i]? = some x → Ev fs g ([.g x] ++ cs) (bo (p x))) : Ev fs 109 [.d (.s 2 l), .f g cs] (bo (l.any p)) := by
  refine Ev.of (af := a109) rfl rfl (Evt.congr (fun d n => a109q ..) ?_)
  refine ev_call (f139 hl hg) ?_
  simp -implicitDefEqProofs only [cI, cB, cS, cL, oD_d, oG_g, oT_t, oP_p, dI_v, dB_v, dS_v, dL_s, cell_z, cell_s, nth_z, nth_s, aV_z, aV_s, aI_v, aB_v, aS_v, aL_f, aO_o, aX_b, tst_t, cond_true, cond_false, Ex.same, Nat.beq, List.length_cons, List.length_nil, Int.toNat_natCast, beqTT, beqTF, beqFT, beqFF, idxR_any]
  exact Evt.ret
theorem f110 {x : Row} (h : ShL E (E 127) x) : Ev fs 110 [.g x] (bo (cN x 1 == 0)) := by
  rw [E127] at h
  obtain ⟨na0, ra0, rfl, pa0, h_a0⟩ := inv_i h
  obtain ⟨na1, ra1, rfl, pa1, h_a1⟩ := inv_i h_a0
  cases inv_nil h_a1
  refine Ev.of (af := a110) rfl rfl (Evt.congr (fun d n => a110q ..) ?_)
  exact Evt.ret
theorem z109 {l : Rows} (hl : SL E 127 l) : Ev fs 109 [.d (.s 2 l), .f 110 []] (bo (zeroRuns l)) := f109 hl (p := fun r => cN r 1 == 0) (fun i x hx => f110 (hl.at hx))
theorem f64 {row : Row} (h : ShL E (E 33) row) : Ev fs 64 [.g row] (bo (isleOk row)) := by
  have kk := h
  rw [E33] at h
  obtain ⟨sa0, ra0, rfl, pa0, h_a0⟩ := inv_s h
  obtain ⟨na1, ra1, rfl, pa1, h_a1⟩ := inv_i h_a0
  obtain ⟨na2, ra2, rfl, pa2, h_a2⟩ := inv_i h_a1
  obtain ⟨la3, ra3, rfl, pa3, h_a3⟩ := inv_sl W124 h_a2
  obtain ⟨la4, ra4, rfl, pa4, h_a4⟩ := inv_sl W127 h_a3
  cases inv_nil h_a4
  simp only [isleOk, cN, cT, cR, cE, List.getElem?_cons_zero, List.getElem?_cons_succ]
  refine Ev.of (af := a64) rfl rfl (Evt.congr (fun d n => a64q ..) ?_)
  refine ev_call (f77 (by assumption)) ?_
  simp -implicitDefEqProofs only [cI, cB, cS, cL, oD_d, oG_g, oT_t, oP_p, dI_v, dB_v, dS_v, dL_s, cell_z, cell_s, nth_z, nth_s, aV_z, aV_s, aI_v, aB_v, aS_v, aL_f, aO_o, aX_b, tst_t, cond_true, cond_false, Ex.same, Nat.beq, List.length_cons, List.length_nil, Int.toNat_natCast, beqTT, beqTF, beqFT, beqFF, cN, cT, cR, cE, List.getElem?_cons_zero, List.getElem?_cons_succ, Bool.not_false, Bool.not_true, cond_true, cond_false]
  refine ev_if (fun c1 => ?_) (fun c1 => ?_)
  · refine ev_call (f78 _ _ _) ?_
    simp -implicitDefEqProofs only [cI, cB, cS, cL, oD_d, oG_g, oT_t, oP_p, dI_v, dB_v, dS_v, dL_s, cell_z, cell_s, nth_z, nth_s, aV_z, aV_s, aI_v, aB_v, aS_v, aL_f, aO_o, aX_b, tst_t, cond_true, cond_false, Ex.same, Nat.beq, List.length_cons, List.length_nil, Int.toNat_natCast, beqTT, beqTF, beqFT, beqFF, cN, cT, cR, cE, List.getElem?_cons_zero, List.getElem?_cons_succ, Bool.not_false, Bool.not_true, cond_true, cond_false]
    refine ev_if (fun c2 => ?_) (fun c2 => ?_)
    · refine ev_call (f78 _ _ _) ?_
      simp -implicitDefEqProofs only [cI, cB, cS, cL, oD_d, oG_g, oT_t, oP_p, dI_v, dB_v, dS_v, dL_s, cell_z, cell_s, nth_z, nth_s, aV_z, aV_s, aI_v, aB_v, aS_v, aL_f, aO_o, aX_b, tst_t, cond_true, cond_false, Ex.same, Nat.beq, List.length_cons, List.length_nil, Int.toNat_natCast, beqTT, beqTF, beqFT, beqFF, cN, cT, cR, cE, List.getElem?_cons_zero, List.getElem?_cons_succ, Bool.not_false, Bool.not_true, cond_true, cond_false]
      refine ev_if (fun c3 => ?_) (fun c3 => ?_)
      · refine ev_call (f80 (by assumption)) ?_
        simp -implicitDefEqProofs only [cI, cB, cS, cL, oD_d, oG_g, oT_t, oP_p, dI_v, dB_v, dS_v, dL_s, cell_z, cell_s, nth_z, nth_s, aV_z, aV_s, aI_v, aB_v, aS_v, aL_f, aO_o, aX_b, tst_t, cond_true, cond_false, Ex.same, Nat.beq, List.length_cons, List.length_nil, Int.toNat_natCast, beqTT, beqTF, beqFT, beqFF, cN, cT, cR, cE, List.getElem?_cons_zero, List.getElem?_cons_succ, Bool.not_false, Bool.not_true, cond_true, cond_false]
        refine ev_if (fun c4 => ?_) (fun c4 => ?_)
        · refine ev_call (f79 (by assumption) _) ?_
          simp -implicitDefEqProofs only [cI, cB, cS, cL, oD_d, oG_g, oT_t, oP_p, dI_v, dB_v, dS_v, dL_s, cell_z, cell_s, nth_z, nth_s, aV_z, aV_s, aI_v, aB_v, aS_v, aL_f, aO_o, aX_b, tst_t, cond_true, cond_false, Ex.same, Nat.beq, List.length_cons, List.length_nil, Int.toNat_natCast, beqTT, beqTF, beqFT, beqFF, cN, cT, cR, cE, List.getElem?_cons_zero, List.getElem?_cons_succ, Bool.not_false, Bool.not_true, cond_true, cond_false]
          refine ev_if (fun c5 => ?_) (fun c5 => ?_)
          · refine ev_call (f106 (by assumption)) ?_
            simp -implicitDefEqProofs only [cI, cB, cS, cL, oD_d, oG_g, oT_t, oP_p, dI_v, dB_v, dS_v, dL_s, cell_z, cell_s, nth_z, nth_s, aV_z, aV_s, aI_v, aB_v, aS_v, aL_f, aO_o, aX_b, tst_t, cond_true, cond_false, Ex.same, Nat.beq, List.length_cons, List.length_nil, Int.toNat_natCast, beqTT, beqTF, beqFT, beqFF, cN, cT, cR, cE, List.getElem?_cons_zero, List.getElem?_cons_succ, Bool.not_false, Bool.not_true, cond_true, cond_false]
            exact Evt.ret' (by first | (simp_all []; done) | (simp_all []; omega) | (simp_all []; congr))
          · exact Evt.ret' (by first | (simp_all []; done) | (simp_all []; omega) | (simp_all []; congr))
        · exact Evt.ret' (by first | (simp_all []; done) | (simp_all []; omega) | (simp_all []; congr))
      · exact Evt.ret' (by first | (simp_all []; done) | (simp_all []; omega) | (simp_all []; congr))
    · exact Evt.ret' (by first | (simp_all []; done) | (simp_all []; omega) | (simp_all []; congr))
  · exact Evt.ret' (by first | (simp_all []; done) | (simp_all []; omega) | (simp_all []; congr))
theorem f66 {row : Row} (h : ShL E (E 33) row) : Ev fs 66 [.g row] (bo (isleOk row)) := by
  have kk := h
  rw [E33] at h
  obtain ⟨sa0, ra0, rfl, pa0, h_a0⟩ := inv_s h
  obtain ⟨na1, ra1, rfl, pa1, h_a1⟩ := inv_i h_a0
  obtain ⟨na2, ra2, rfl, pa2, h_a2⟩ := inv_i h_a1
  obtain ⟨la3, ra3, rfl, pa3, h_a3⟩ := inv_sl W124 h_a2
  obtain ⟨la4, ra4, rfl, pa4, h_a4⟩ := inv_sl W127 h_a3
  cases inv_nil h_a4
  simp only [isleOk, cN, cT, cR, cE, List.getElem?_cons_zero, List.getElem?_cons_succ]
  rw [← runs_pos (l := la4)]
  refine Ev.of (af := a66) rfl rfl (Evt.congr (fun d n => a66q ..) ?_)
  refine ev_call (f84 (by assumption)) ?_
  simp -implicitDefEqProofs only [cI, cB, cS, cL, oD_d, oG_g, oT_t, oP_p, dI_v, dB_v, dS_v, dL_s, cell_z, cell_s, nth_z, nth_s, aV_z, aV_s, aI_v, aB_v, aS_v, aL_f, aO_o, aX_b, tst_t, cond_true, cond_false, Ex.same, Nat.beq, List.length_cons, List.length_nil, Int.toNat_natCast, beqTT, beqTF, beqFT, beqFF, cN, cT, cR, cE, List.getElem?_cons_zero, List.getElem?_cons_succ, Bool.not_false, Bool.not_true, cond_true, cond_false]
  refine ev_if (fun c1 => ?_) (fun c1 => ?_)
  · refine ev_call (f108 _) ?_
    simp -implicitDefEqProofs only [cI, cB, cS, cL, oD_d, oG_g, oT_t, oP_p, dI_v, dB_v, dS_v, dL_s, cell_z, cell_s, nth_z, nth_s, aV_z, aV_s, aI_v, aB_v, aS_v, aL_f, aO_o, aX_b, tst_t, cond_true, cond_false, Ex.same, Nat.beq, List.length_cons, List.length_nil, Int.toNat_natCast, beqTT, beqTF, beqFT, beqFF, cN, cT, cR, cE, List.getElem?_cons_zero, List.getElem?_cons_succ, Bool.not_false, Bool.not_true, cond_true, cond_false]
    refine ev_if (fun c2 => ?_) (fun c2 => ?_)
    · refine ev_call (f85 _ _ _) ?_
      simp -implicitDefEqProofs only [cI, cB, cS, cL, oD_d, oG_g, oT_t, oP_p, dI_v, dB_v, dS_v, dL_s, cell_z, cell_s, nth_z, nth_s, aV_z, aV_s, aI_v, aB_v, aS_v, aL_f, aO_o, aX_b, tst_t, cond_true, cond_false, Ex.same, Nat.beq, List.length_cons, List.length_nil, Int.toNat_natCast, beqTT, beqTF, beqFT, beqFF, cN, cT, cR, cE, List.getElem?_cons_zero, List.getElem?_cons_succ, Bool.not_false, Bool.not_true, cond_true, cond_false]
      refine ev_if (fun c3 => ?_) (fun c3 => ?_)
      · refine ev_call (f87 (by assumption)) ?_
        simp -implicitDefEqProofs only [cI, cB, cS, cL, oD_d, oG_g, oT_t, oP_p, dI_v, dB_v, dS_v, dL_s, cell_z, cell_s, nth_z, nth_s, aV_z, aV_s, aI_v, aB_v, aS_v, aL_f, aO_o, aX_b, tst_t, cond_true, cond_false, Ex.same, Nat.beq, List.length_cons, List.length_nil, Int.toNat_natCast, beqTT, beqTF, beqFT, beqFF, cN, cT, cR, cE, List.getElem?_cons_zero, List.getElem?_cons_succ, Bool.not_false, Bool.not_true, cond_true, cond_false]
        refine ev_if (fun c4 => ?_) (fun c4 => ?_)
        · refine ev_call (f86 (by assumption)) ?_
          simp -implicitDefEqProofs only [cI, cB, cS, cL, oD_d, oG_g, oT_t, oP_p, dI_v, dB_v, dS_v, dL_s, cell_z, cell_s, nth_z, nth_s, aV_z, aV_s, aI_v, aB_v, aS_v, aL_f, aO_o, aX_b, tst_t, cond_true, cond_false, Ex.same, Nat.beq, List.length_cons, List.length_nil, Int.toNat_natCast, beqTT, beqTF, beqFT, beqFF, cN, cT, cR, cE, List.getElem?_cons_zero, List.getElem?_cons_succ, Bool.not_false, Bool.not_true, cond_true, cond_false]
          refine ev_if (fun c5 => ?_) (fun c5 => ?_)
          · refine ev_call (z109 (by assumption)) ?_
            simp -implicitDefEqProofs only [cI, cB, cS, cL, oD_d, oG_g, oT_t, oP_p, dI_v, dB_v, dS_v, dL_s, cell_z, cell_s, nth_z, nth_s, aV_z, aV_s, aI_v, aB_v, aS_v, aL_f, aO_o, aX_b, tst_t, cond_true, cond_false, Ex.same, Nat.beq, List.length_cons, List.length_nil, Int.toNat_natCast, beqTT, beqTF, beqFT, beqFF, cN, cT, cR, cE, List.getElem?_cons_zero, List.getElem?_cons_succ, Bool.not_false, Bool.not_true, cond_true, cond_false]
            refine ev_if (fun c6 => ?_) (fun c6 => ?_)
            · refine ev_call (f111 (by assumption)) ?_
              simp -implicitDefEqProofs only [cI, cB, cS, cL, oD_d, oG_g, oT_t, oP_p, dI_v, dB_v, dS_v, dL_s, cell_z, cell_s, nth_z, nth_s, aV_z, aV_s, aI_v, aB_v, aS_v, aL_f, aO_o, aX_b, tst_t, cond_true, cond_false, Ex.same, Nat.beq, List.length_cons, List.length_nil, Int.toNat_natCast, beqTT, beqTF, beqFT, beqFF, cN, cT, cR, cE, List.getElem?_cons_zero, List.getElem?_cons_succ, Bool.not_false, Bool.not_true, cond_true, cond_false]
              exact Evt.ret' (by first | (simp_all []; done) | (simp_all []; omega) | (simp_all []; congr))
            · exact Evt.ret' (by first | (simp_all []; done) | (simp_all []; omega) | (simp_all []; congr))
          · exact Evt.ret' (by first | (simp_all []; done) | (simp_all []; omega) | (simp_all []; congr))
        · exact Evt.ret' (by first | (simp_all []; done) | (simp_all []; omega) | (simp_all []; congr))
      · exact Evt.ret' (by first | (simp_all []; done) | (simp_all []; omega) | (simp_all []; congr))
    · exact Evt.ret' (by first | (simp_all []; done) | (simp_all []; omega) | (simp_all []; congr))
  · exact Evt.ret' (by first | (simp_all []; done) | (simp_all []; omega) | (simp_all []; congr))
end Go.Am.As
