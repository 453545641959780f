/- What the functions of one family say in the end. Nothing is assumed. -/
import Derived.Test.YtgnicnelpcndgaaSbH
namespace Go.Am.Sb
set_option linter.unusedVariables false
set_option linter.unusedSimpArgs false
set_option maxRecDepth 8000
/- loop.example/g00119/spec.l17SameTexts -/
theorem f88 {l l' : Rows} (hl : SL E 9 l) (hl' : SL E 9 l') : Ev fs 88 [.d (.s 1 l), .d (.s 1 l')] (bo ((l.length == l'.length) && eqRows l l')) := by
  refine Ev.bo (af := a88) rfl rfl (fun d n => a88q ..) ?_
  simp only [bne_not, beq_t, beq_f, Bool.not_not, Bool.cond_not, beq_nat, Bool.and_true]
  apply Stp.conv
  · apply stp_if; intro e1
    apply stp_loop (L := fun d n => l88x0 (TabD fs d) d n [(.fz 1 l), (.fz 1 l'), (.v (.int .i64 0))]) (c := eqRows l l') (y := ((.exit 0), []))
    · refine eq_loopE (L := fun d n i => l88x0 (TabD fs d) d n [(.fz 1 l), (.fz 1 l'), (.v (.int .i64 i))]) (len_of (by assumption)) (fun d n => ?_) (fun i x x' hi hi' hx hx' => ?_)
      rw [l88x0s]
      simp only [cI, cB, cS, cL, oD_d, oG_g, oT_t, oP_p, dI_v, dB_v, dS_v, dL_s, cell_z, cell_s, nth_z, nth_s, aV_z, aV_s, aI_v, aB_v, aS_v, aL_f, aO_o, aX_b, tst_t, cond_true, cond_false, Ex.same, Nat.beq, List.length_cons, List.length_nil, Int.toNat_natCast, Int.lt_irrefl, decide_false]
      have h := (SL.at (E := E) (t := 9) (by assumption) hx)
      have h' := (SL.at (E := E) (t := 9) (by assumption) hx')
      have k := h
      have k' := h'
      rw [E9] at h
      obtain ⟨sx0, rx0, rfl, px0, h_x0⟩ := inv_s h
      cases inv_nil h_x0
      rw [E9] at h'
      obtain ⟨sy0, ry0, rfl, py0, hq_y0⟩ := inv_s h'
      cases inv_nil hq_y0
      simp only [l88x0s]
      simp only [cI, cB, cS, cL, oD_d, oG_g, oT_t, oP_p, dI_v, dB_v, dS_v, dL_s, cell_z, cell_s, nth_z, nth_s, aV_z, aV_s, aI_v, aB_v, aS_v, aL_f, aO_o, aX_b, tst_t, cond_true, cond_false, Ex.same, Nat.beq, List.length_cons, List.length_nil, Int.toNat_natCast, decide_eq_true (Int.ofNat_lt.2 hi), dec_nn, look_at hx, look_at hx', wrap_succ hi (SL.le (E := E) (t := 9) (by assumption)), List.append_nil]
      simp only [bne_not, beq_t, beq_f, Bool.not_not, Bool.cond_not, beq_nat, Bool.and_true]
      apply Stp.conv
      · apply stp_if; intro g1
        exact stp_end
      · first | (simp only [eqRow, eqD, Bool.and_true, Bool.true_and, Bool.and_assoc]; done) | (simp only [eqRow, eqD, Bool.and_true, Bool.true_and, Bool.and_assoc]; ac_rfl) | (rw [Bool.eq_iff_iff]; simp only [eqRow, eqD, Bool.and_true, Bool.true_and, Bool.and_eq_true]; constructor <;> (intro hh; simp only [hh, and_self]))
    any_goals (intro d n; simp only [cI, cB, cS, cL, oD_d, oG_g, oT_t, oP_p, dI_v, dB_v, dS_v, dL_s, cell_z, cell_s, nth_z, nth_s, aV_z, aV_s, aI_v, aB_v, aS_v, aL_f, aO_o, aX_b, tst_t, cond_true, cond_false, Ex.same, Nat.beq, List.length_cons, List.length_nil, Int.toNat_natCast]; done)
    simp only [cI, cB, cS, cL, oD_d, oG_g, oT_t, oP_p, dI_v, dB_v, dS_v, dL_s, cell_z, cell_s, nth_z, nth_s, aV_z, aV_s, aI_v, aB_v, aS_v, aL_f, aO_o, aX_b, tst_t, cond_true, cond_false, Ex.same, Nat.beq, List.length_cons, List.length_nil, Int.toNat_natCast]
    first | exact stp_end | exact stp_ret
  · first | (simp only [eqRow, eqD, Bool.and_true, Bool.true_and, Bool.and_assoc]; done) | (simp only [eqRow, eqD, Bool.and_true, Bool.true_and, Bool.and_assoc]; ac_rfl) | (rw [Bool.eq_iff_iff]; simp only [eqRow, eqD, Bool.and_true, Bool.true_and, Bool.and_eq_true]; constructor <;> (intro hh; simp only [hh, and_self]))
/- loop.example/g00119/spec.l17SameTerms -/
theorem f193 {l l' : Rows} (hl : SL E 239 l) (hl' : SL E 239 l') : Ev fs 193 [.d (.s 3 l), .d (.s 3 l')] (bo ((l.length == l'.length) && eqRows l l')) := by
  refine Ev.bo (af := a193) rfl rfl (fun d n => a193q ..) ?_
  simp only [bne_not, beq_t, beq_f, Bool.not_not, Bool.cond_not, beq_nat, Bool.and_true]
  apply Stp.conv
  · apply stp_if; intro e1
    apply stp_loop (L := fun d n => l193x0 (TabD fs d) d n [(.fz 3 l), (.fz 3 l'), (.v (.int .i64 0))]) (c := eqRows l l') (y := ((.exit 0), []))
    · refine eq_loopE (L := fun d n i => l193x0 (TabD fs d) d n [(.fz 3 l), (.fz 3 l'), (.v (.int .i64 i))]) (len_of (by assumption)) (fun d n => ?_) (fun i x x' hi hi' hx hx' => ?_)
      rw [l193x0s]
      simp only [cI, cB, cS, cL, oD_d, oG_g, oT_t, oP_p, dI_v, dB_v, dS_v, dL_s, cell_z, cell_s, nth_z, nth_s, aV_z, aV_s, aI_v, aB_v, aS_v, aL_f, aO_o, aX_b, tst_t, cond_true, cond_false, Ex.same, Nat.beq, List.length_cons, List.length_nil, Int.toNat_natCast, Int.lt_irrefl, decide_false]
      have h := (SL.at (E := E) (t := 239) (by assumption) hx)
      have h' := (SL.at (E := E) (t := 239) (by assumption) hx')
      have k := h
      have k' := h'
      rw [E239] at h
      obtain ⟨nx0, rx0, rfl, px0, h_x0⟩ := inv_i h
      obtain ⟨sx1, rx1, rfl, px1, h_x1⟩ := inv_s h_x0
      obtain ⟨lx2, rx2, rfl, px2, h_x2⟩ := inv_sl W9 h_x1
      cases inv_nil h_x2
      rw [E239] at h'
      obtain ⟨ny0, ry0, rfl, py0, hq_y0⟩ := inv_i h'
      obtain ⟨sy1, ry1, rfl, py1, hq_y1⟩ := inv_s hq_y0
      obtain ⟨ly2, ry2, rfl, py2, hq_y2⟩ := inv_sl W9 hq_y1
      cases inv_nil hq_y2
      simp only [l193x0s]
      simp only [cI, cB, cS, cL, oD_d, oG_g, oT_t, oP_p, dI_v, dB_v, dS_v, dL_s, cell_z, cell_s, nth_z, nth_s, aV_z, aV_s, aI_v, aB_v, aS_v, aL_f, aO_o, aX_b, tst_t, cond_true, cond_false, Ex.same, Nat.beq, List.length_cons, List.length_nil, Int.toNat_natCast, decide_eq_true (Int.ofNat_lt.2 hi), dec_nn, look_at hx, look_at hx', wrap_succ hi (SL.le (E := E) (t := 239) (by assumption)), List.append_nil]
      simp only [bne_not, beq_t, beq_f, Bool.not_not, Bool.cond_not, beq_nat, Bool.and_true]
      apply Stp.conv
      · apply stp_if; intro g1
        apply stp_if; intro g2
        apply stp_call
        · exact f88 (by assumption) (by assumption)
        apply stp_if; intro g3
        exact stp_end
      · first | (simp only [eqRow, eqD, Bool.and_true, Bool.true_and, Bool.and_assoc]; done) | (simp only [eqRow, eqD, Bool.and_true, Bool.true_and, Bool.and_assoc]; ac_rfl) | (rw [Bool.eq_iff_iff]; simp only [eqRow, eqD, Bool.and_true, Bool.true_and, Bool.and_eq_true]; constructor <;> (intro hh; simp only [hh, and_self]))
    any_goals (intro d n; simp only [cI, cB, cS, cL, oD_d, oG_g, oT_t, oP_p, dI_v, dB_v, dS_v, dL_s, cell_z, cell_s, nth_z, nth_s, aV_z, aV_s, aI_v, aB_v, aS_v, aL_f, aO_o, aX_b, tst_t, cond_true, cond_false, Ex.same, Nat.beq, List.length_cons, List.length_nil, Int.toNat_natCast]; done)
    simp only [cI, cB, cS, cL, oD_d, oG_g, oT_t, oP_p, dI_v, dB_v, dS_v, dL_s, cell_z, cell_s, nth_z, nth_s, aV_z, aV_s, aI_v, aB_v, aS_v, aL_f, aO_o, aX_b, tst_t, cond_true, cond_false, Ex.same, Nat.beq, List.length_cons, List.length_nil, Int.toNat_natCast]
    first | exact stp_end | exact stp_ret
  · first | (simp only [eqRow, eqD, Bool.and_true, Bool.true_and, Bool.and_assoc]; done) | (simp only [eqRow, eqD, Bool.and_true, Bool.true_and, Bool.and_assoc]; ac_rfl) | (rw [Bool.eq_iff_iff]; simp only [eqRow, eqD, Bool.and_true, Bool.true_and, Bool.and_eq_true]; constructor <;> (intro hh; simp only [hh, and_self]))
/- loop.example/g00119/spec.l17SameWant -/
theorem f157 {row row' : Row} (h : ShL E (E 114) row) (h' : ShL E (E 114) row') : Ev fs 157 [.g row, .g row'] (bo (eqRow row row')) := by
  rw [E114] at h
  obtain ⟨na0, ra0, rfl, pa0, h_a0⟩ := inv_i h
  obtain ⟨la1, ra1, rfl, pa1, h_a1⟩ := inv_sl W239 h_a0
  obtain ⟨la2, ra2, rfl, pa2, h_a2⟩ := inv_sl W9 h_a1
  obtain ⟨la3, ra3, rfl, pa3, h_a3⟩ := inv_sl W234 h_a2
  cases inv_nil h_a3
  rw [E114] at h'
  obtain ⟨nc0, rc0, rfl, pc0, hq_c0⟩ := inv_i h'
  obtain ⟨lc1, rc1, rfl, pc1, hq_c1⟩ := inv_sl W239 hq_c0
  obtain ⟨lc2, rc2, rfl, pc2, hq_c2⟩ := inv_sl W9 hq_c1
  obtain ⟨lc3, rc3, rfl, pc3, hq_c3⟩ := inv_sl W234 hq_c2
  cases inv_nil hq_c3
  refine Ev.bo (af := a157) rfl rfl (fun d n => a157q ..) ?_
  simp only [bne_not, beq_t, beq_f, Bool.not_not, Bool.cond_not, beq_nat, Bool.and_true]
  apply Stp.conv
  · apply stp_if; intro e1
    apply stp_call
    · exact f193 (by assumption) (by assumption)
    apply stp_if; intro e2
    apply stp_call
    · exact f88 (by assumption) (by assumption)
    apply stp_if; intro e3
    apply stp_if; intro e4
    apply stp_loop (L := fun d n => l157x0 (TabD fs d) d n [(.b [(.v (.int .i64 na0)), (.fz 3 la1), (.fz 1 la2), (.fz 2 la3)]), (.b [(.v (.int .i64 nc0)), (.fz 3 lc1), (.fz 1 lc2), (.fz 2 lc3)]), (.v (.int .i64 0))]) (c := eqRows la3 lc3) (y := ((.exit 0), []))
    · refine eq_loopE (L := fun d n i => l157x0 (TabD fs d) d n [(.b [(.v (.int .i64 na0)), (.fz 3 la1), (.fz 1 la2), (.fz 2 la3)]), (.b [(.v (.int .i64 nc0)), (.fz 3 lc1), (.fz 1 lc2), (.fz 2 lc3)]), (.v (.int .i64 i))]) (len_of (by assumption)) (fun d n => ?_) (fun i x x' hi hi' hx hx' => ?_)
      rw [l157x0s]
      simp only [cI, cB, cS, cL, oD_d, oG_g, oT_t, oP_p, dI_v, dB_v, dS_v, dL_s, cell_z, cell_s, nth_z, nth_s, aV_z, aV_s, aI_v, aB_v, aS_v, aL_f, aO_o, aX_b, tst_t, cond_true, cond_false, Ex.same, Nat.beq, List.length_cons, List.length_nil, Int.toNat_natCast, Int.lt_irrefl, decide_false]
      have h := (SL.at (E := E) (t := 234) (by assumption) hx)
      have h' := (SL.at (E := E) (t := 234) (by assumption) hx')
      have k := h
      have k' := h'
      rw [E234] at h
      obtain ⟨sx0, rx0, rfl, px0, h_x0⟩ := inv_s h
      obtain ⟨nx1, rx1, rfl, px1, h_x1⟩ := inv_i h_x0
      cases inv_nil h_x1
      rw [E234] at h'
      obtain ⟨sy0, ry0, rfl, py0, hq_y0⟩ := inv_s h'
      obtain ⟨ny1, ry1, rfl, py1, hq_y1⟩ := inv_i hq_y0
      cases inv_nil hq_y1
      simp only [l157x0s]
      simp only [cI, cB, cS, cL, oD_d, oG_g, oT_t, oP_p, dI_v, dB_v, dS_v, dL_s, cell_z, cell_s, nth_z, nth_s, aV_z, aV_s, aI_v, aB_v, aS_v, aL_f, aO_o, aX_b, tst_t, cond_true, cond_false, Ex.same, Nat.beq, List.length_cons, List.length_nil, Int.toNat_natCast, decide_eq_true (Int.ofNat_lt.2 hi), dec_nn, look_at hx, look_at hx', wrap_succ hi (SL.le (E := E) (t := 234) (by assumption)), List.append_nil]
      simp only [bne_not, beq_t, beq_f, Bool.not_not, Bool.cond_not, beq_nat, Bool.and_true]
      apply Stp.conv
      · apply stp_if; intro g1
        exact stp_end
      · first | (simp only [eqRow, eqD, Bool.and_true, Bool.true_and, Bool.and_assoc]; done) | (simp only [eqRow, eqD, Bool.and_true, Bool.true_and, Bool.and_assoc]; ac_rfl) | (rw [Bool.eq_iff_iff]; simp only [eqRow, eqD, Bool.and_true, Bool.true_and, Bool.and_eq_true]; constructor <;> (intro hh; simp only [hh, and_self]))
    any_goals (intro d n; simp only [cI, cB, cS, cL, oD_d, oG_g, oT_t, oP_p, dI_v, dB_v, dS_v, dL_s, cell_z, cell_s, nth_z, nth_s, aV_z, aV_s, aI_v, aB_v, aS_v, aL_f, aO_o, aX_b, tst_t, cond_true, cond_false, Ex.same, Nat.beq, List.length_cons, List.length_nil, Int.toNat_natCast]; done)
    simp only [cI, cB, cS, cL, oD_d, oG_g, oT_t, oP_p, dI_v, dB_v, dS_v, dL_s, cell_z, cell_s, nth_z, nth_s, aV_z, aV_s, aI_v, aB_v, aS_v, aL_f, aO_o, aX_b, tst_t, cond_true, cond_false, Ex.same, Nat.beq, List.length_cons, List.length_nil, Int.toNat_natCast]
    first | exact stp_end | exact stp_ret
  · first | (simp only [eqRow, eqD, Bool.and_true, Bool.true_and, Bool.and_assoc]; done) | (simp only [eqRow, eqD, Bool.and_true, Bool.true_and, Bool.and_assoc]; ac_rfl) | (rw [Bool.eq_iff_iff]; simp only [eqRow, eqD, Bool.and_true, Bool.true_and, Bool.and_eq_true]; constructor <;> (intro hh; simp only [hh, and_self]))
/- loop.example/g00119/spec.SameValue -/
theorem fr158 {row row' : Row} (h : ShL E (E 117) row) (h' : ShL E (E 117) row') (W : Nat) (hW : 2 * wtRow row + 1 = W) : Ev fs 158 [.g row, .g row'] (bo (eqRow row row')) := by
  rw [E117] at h
  obtain ⟨na0, ra0, rfl, pa0, h_a0⟩ := inv_i h
  obtain ⟨sa1, ra1, rfl, pa1, h_a1⟩ := inv_s h_a0
  obtain ⟨na2, ra2, rfl, pa2, h_a2⟩ := inv_i h_a1
  obtain ⟨la3, ra3, rfl, pa3, h_a3⟩ := inv_sl W9 h_a2
  obtain ⟨la4, ra4, rfl, pa4, h_a4⟩ := inv_sl W117 h_a3
  cases inv_nil h_a4
  rw [E117] at h'
  obtain ⟨nc0, rc0, rfl, pc0, hq_c0⟩ := inv_i h'
  obtain ⟨sc1, rc1, rfl, pc1, hq_c1⟩ := inv_s hq_c0
  obtain ⟨nc2, rc2, rfl, pc2, hq_c2⟩ := inv_i hq_c1
  obtain ⟨lc3, rc3, rfl, pc3, hq_c3⟩ := inv_sl W9 hq_c2
  obtain ⟨lc4, rc4, rfl, pc4, hq_c4⟩ := inv_sl W117 hq_c3
  cases inv_nil hq_c4
  refine Ev.bo (af := a158) rfl rfl (fun d n => a158q ..) ?_
  simp only [bne_not, beq_t, beq_f, Bool.not_not, Bool.cond_not, beq_nat, Bool.and_true]
  apply Stp.conv
  · apply stp_if; intro e1
    apply stp_if; intro e2
    apply stp_if; intro e3
    apply stp_if; intro e4
    apply stp_if; intro e5
    apply stp_loop (L := fun d n => l158x0 (TabD fs d) d n [(.b [(.v (.int .i64 na0)), (.v (.string sa1)), (.v (.int .i64 na2)), (.fz 1 la3), (.fz 5 la4)]), (.b [(.v (.int .i64 nc0)), (.v (.string sc1)), (.v (.int .i64 nc2)), (.fz 1 lc3), (.fz 5 lc4)]), (.v (.int .i64 0))]) (c := eqRows la3 lc3) (y := ((.exit 0), [(.b [(.v (.int .i64 na0)), (.v (.string sa1)), (.v (.int .i64 na2)), (.fz 1 la3), (.fz 5 la4)]), (.b [(.v (.int .i64 nc0)), (.v (.string sc1)), (.v (.int .i64 nc2)), (.fz 1 lc3), (.fz 5 lc4)])]))
    · refine eq_loopE (L := fun d n i => l158x0 (TabD fs d) d n [(.b [(.v (.int .i64 na0)), (.v (.string sa1)), (.v (.int .i64 na2)), (.fz 1 la3), (.fz 5 la4)]), (.b [(.v (.int .i64 nc0)), (.v (.string sc1)), (.v (.int .i64 nc2)), (.fz 1 lc3), (.fz 5 lc4)]), (.v (.int .i64 i))]) (len_of (by assumption)) (fun d n => ?_) (fun i x x' hi hi' hx hx' => ?_)
      rw [l158x0s]
      simp only [cI, cB, cS, cL, oD_d, oG_g, oT_t, oP_p, dI_v, dB_v, dS_v, dL_s, cell_z, cell_s, nth_z, nth_s, aV_z, aV_s, aI_v, aB_v, aS_v, aL_f, aO_o, aX_b, tst_t, cond_true, cond_false, Ex.same, Nat.beq, List.length_cons, List.length_nil, Int.toNat_natCast, Int.lt_irrefl, decide_false]
      have h := (SL.at (E := E) (t := 9) (by assumption) hx)
      have h' := (SL.at (E := E) (t := 9) (by assumption) hx')
      have k := h
      have k' := h'
      rw [E9] at h
      obtain ⟨sx0, rx0, rfl, px0, h_x0⟩ := inv_s h
      cases inv_nil h_x0
      rw [E9] at h'
      obtain ⟨sy0, ry0, rfl, py0, hq_y0⟩ := inv_s h'
      cases inv_nil hq_y0
      simp only [l158x0s]
      simp only [cI, cB, cS, cL, oD_d, oG_g, oT_t, oP_p, dI_v, dB_v, dS_v, dL_s, cell_z, cell_s, nth_z, nth_s, aV_z, aV_s, aI_v, aB_v, aS_v, aL_f, aO_o, aX_b, tst_t, cond_true, cond_false, Ex.same, Nat.beq, List.length_cons, List.length_nil, Int.toNat_natCast, decide_eq_true (Int.ofNat_lt.2 hi), dec_nn, look_at hx, look_at hx', wrap_succ hi (SL.le (E := E) (t := 9) (by assumption)), List.append_nil]
      simp only [bne_not, beq_t, beq_f, Bool.not_not, Bool.cond_not, beq_nat, Bool.and_true]
      apply Stp.conv
      · apply stp_if; intro g1
        exact stp_end
      · first | (simp only [eqRow, eqD, Bool.and_true, Bool.true_and, Bool.and_assoc]; done) | (simp only [eqRow, eqD, Bool.and_true, Bool.true_and, Bool.and_assoc]; ac_rfl) | (rw [Bool.eq_iff_iff]; simp only [eqRow, eqD, Bool.and_true, Bool.true_and, Bool.and_eq_true]; constructor <;> (intro hh; simp only [hh, and_self]))
    any_goals (intro d n; simp only [cI, cB, cS, cL, oD_d, oG_g, oT_t, oP_p, dI_v, dB_v, dS_v, dL_s, cell_z, cell_s, nth_z, nth_s, aV_z, aV_s, aI_v, aB_v, aS_v, aL_f, aO_o, aX_b, tst_t, cond_true, cond_false, Ex.same, Nat.beq, List.length_cons, List.length_nil, Int.toNat_natCast]; done)
    simp only [cI, cB, cS, cL, oD_d, oG_g, oT_t, oP_p, dI_v, dB_v, dS_v, dL_s, cell_z, cell_s, nth_z, nth_s, aV_z, aV_s, aI_v, aB_v, aS_v, aL_f, aO_o, aX_b, tst_t, cond_true, cond_false, Ex.same, Nat.beq, List.length_cons, List.length_nil, Int.toNat_natCast]
    apply stp_loop (L := fun d n => l158x1 (TabD fs d) d n [(.b [(.v (.int .i64 na0)), (.v (.string sa1)), (.v (.int .i64 na2)), (.fz 1 la3), (.fz 5 la4)]), (.b [(.v (.int .i64 nc0)), (.v (.string sc1)), (.v (.int .i64 nc2)), (.fz 1 lc3), (.fz 5 lc4)]), (.v (.int .i64 0))]) (c := eqRows la4 lc4) (y := ((.exit 2), []))
    · refine eq_loopE (L := fun d n i => l158x1 (TabD fs d) d n [(.b [(.v (.int .i64 na0)), (.v (.string sa1)), (.v (.int .i64 na2)), (.fz 1 la3), (.fz 5 la4)]), (.b [(.v (.int .i64 nc0)), (.v (.string sc1)), (.v (.int .i64 nc2)), (.fz 1 lc3), (.fz 5 lc4)]), (.v (.int .i64 i))]) (len_of (by assumption)) (fun d n => ?_) (fun i x x' hi hi' hx hx' => ?_)
      rw [l158x1s]
      simp only [cI, cB, cS, cL, oD_d, oG_g, oT_t, oP_p, dI_v, dB_v, dS_v, dL_s, cell_z, cell_s, nth_z, nth_s, aV_z, aV_s, aI_v, aB_v, aS_v, aL_f, aO_o, aX_b, tst_t, cond_true, cond_false, Ex.same, Nat.beq, List.length_cons, List.length_nil, Int.toNat_natCast, Int.lt_irrefl, decide_false]
      have h := (SL.at (E := E) (t := 117) (by assumption) hx)
      have h' := (SL.at (E := E) (t := 117) (by assumption) hx')
      have k := h
      have k' := h'
      rw [E117] at h
      obtain ⟨nx0, rx0, rfl, px0, h_x0⟩ := inv_i h
      obtain ⟨sx1, rx1, rfl, px1, h_x1⟩ := inv_s h_x0
      obtain ⟨nx2, rx2, rfl, px2, h_x2⟩ := inv_i h_x1
      obtain ⟨lx3, rx3, rfl, px3, h_x3⟩ := inv_sl W9 h_x2
      obtain ⟨lx4, rx4, rfl, px4, h_x4⟩ := inv_sl W117 h_x3
      cases inv_nil h_x4
      rw [E117] at h'
      obtain ⟨ny0, ry0, rfl, py0, hq_y0⟩ := inv_i h'
      obtain ⟨sy1, ry1, rfl, py1, hq_y1⟩ := inv_s hq_y0
      obtain ⟨ny2, ry2, rfl, py2, hq_y2⟩ := inv_i hq_y1
      obtain ⟨ly3, ry3, rfl, py3, hq_y3⟩ := inv_sl W9 hq_y2
      obtain ⟨ly4, ry4, rfl, py4, hq_y4⟩ := inv_sl W117 hq_y3
      cases inv_nil hq_y4
      simp only [l158x1s]
      simp only [cI, cB, cS, cL, oD_d, oG_g, oT_t, oP_p, dI_v, dB_v, dS_v, dL_s, cell_z, cell_s, nth_z, nth_s, aV_z, aV_s, aI_v, aB_v, aS_v, aL_f, aO_o, aX_b, tst_t, cond_true, cond_false, Ex.same, Nat.beq, List.length_cons, List.length_nil, Int.toNat_natCast, decide_eq_true (Int.ofNat_lt.2 hi), dec_nn, look_at hx, look_at hx', wrap_succ hi (SL.le (E := E) (t := 117) (by assumption)), List.append_nil]
      simp only [bne_not, beq_t, beq_f, Bool.not_not, Bool.cond_not, beq_nat, Bool.and_true]
      apply Stp.conv
      · apply stp_call
        · exact fr158 (by assumption) (by assumption) _ rfl
        apply stp_if; intro g1
        exact stp_end
      · first | (simp only [eqRow, eqD, Bool.and_true, Bool.true_and, Bool.and_assoc]; done) | (simp only [eqRow, eqD, Bool.and_true, Bool.true_and, Bool.and_assoc]; ac_rfl) | (rw [Bool.eq_iff_iff]; simp only [eqRow, eqD, Bool.and_true, Bool.true_and, Bool.and_eq_true]; constructor <;> (intro hh; simp only [hh, and_self]))
    any_goals (intro d n; simp only [cI, cB, cS, cL, oD_d, oG_g, oT_t, oP_p, dI_v, dB_v, dS_v, dL_s, cell_z, cell_s, nth_z, nth_s, aV_z, aV_s, aI_v, aB_v, aS_v, aL_f, aO_o, aX_b, tst_t, cond_true, cond_false, Ex.same, Nat.beq, List.length_cons, List.length_nil, Int.toNat_natCast]; done)
    simp only [cI, cB, cS, cL, oD_d, oG_g, oT_t, oP_p, dI_v, dB_v, dS_v, dL_s, cell_z, cell_s, nth_z, nth_s, aV_z, aV_s, aI_v, aB_v, aS_v, aL_f, aO_o, aX_b, tst_t, cond_true, cond_false, Ex.same, Nat.beq, List.length_cons, List.length_nil, Int.toNat_natCast]
    first | exact stp_end | exact stp_ret
  · first | (simp only [eqRow, eqD, Bool.and_true, Bool.true_and, Bool.and_assoc]; done) | (simp only [eqRow, eqD, Bool.and_true, Bool.true_and, Bool.and_assoc]; ac_rfl) | (rw [Bool.eq_iff_iff]; simp only [eqRow, eqD, Bool.and_true, Bool.true_and, Bool.and_eq_true]; constructor <;> (intro hh; simp only [hh, and_self]))
termination_by W
decreasing_by all_goals (try have := wt_at hx); (try simp only [wtRow, wtD] at *); omega
theorem f158 {row row' : Row} (h : ShL E (E 117) row) (h' : ShL E (E 117) row') : Ev fs 158 [.g row, .g row'] (bo (eqRow row row')) := fr158 h h' _ rfl
/- loop.example/g00119/spec.l17SameOps -/
theorem f159 {l l' : Rows} (hl : SL E 236 l) (hl' : SL E 236 l') : Ev fs 159 [.d (.s 7 l), .d (.s 7 l')] (bo ((l.length == l'.length) && eqRows l l')) := by
  refine Ev.bo (af := a159) rfl rfl (fun d n => a159q ..) ?_
  simp only [bne_not, beq_t, beq_f, Bool.not_not, Bool.cond_not, beq_nat, Bool.and_true]
  apply Stp.conv
  · apply stp_if; intro e1
    apply stp_loop (L := fun d n => l159x0 (TabD fs d) d n [(.fz 7 l), (.fz 7 l'), (.v (.int .i64 0))]) (c := eqRows l l') (y := ((.exit 0), []))
    · refine eq_loopE (L := fun d n i => l159x0 (TabD fs d) d n [(.fz 7 l), (.fz 7 l'), (.v (.int .i64 i))]) (len_of (by assumption)) (fun d n => ?_) (fun i x x' hi hi' hx hx' => ?_)
      rw [l159x0s]
      simp only [cI, cB, cS, cL, oD_d, oG_g, oT_t, oP_p, dI_v, dB_v, dS_v, dL_s, cell_z, cell_s, nth_z, nth_s, aV_z, aV_s, aI_v, aB_v, aS_v, aL_f, aO_o, aX_b, tst_t, cond_true, cond_false, Ex.same, Nat.beq, List.length_cons, List.length_nil, Int.toNat_natCast, Int.lt_irrefl, decide_false]
      have h := (SL.at (E := E) (t := 236) (by assumption) hx)
      have h' := (SL.at (E := E) (t := 236) (by assumption) hx')
      have k := h
      have k' := h'
      rw [E236] at h
      obtain ⟨nx0, rx0, rfl, px0, h_x0⟩ := inv_i h
      obtain ⟨lx1, rx1, rfl, px1, h_x1⟩ := inv_sl W9 h_x0
      obtain ⟨nx2, rx2, rfl, px2, h_x2⟩ := inv_i h_x1
      obtain ⟨sx3, rx3, rfl, px3, h_x3⟩ := inv_s h_x2
      obtain ⟨nx4, rx4, rfl, px4, h_x4⟩ := inv_i h_x3
      obtain ⟨lx5, rx5, rfl, px5, h_x5⟩ := inv_sl W9 h_x4
      obtain ⟨lx6, rx6, rfl, px6, h_x6⟩ := inv_sl W117 h_x5
      cases inv_nil h_x6
      rw [E236] at h'
      obtain ⟨ny0, ry0, rfl, py0, hq_y0⟩ := inv_i h'
      obtain ⟨ly1, ry1, rfl, py1, hq_y1⟩ := inv_sl W9 hq_y0
      obtain ⟨ny2, ry2, rfl, py2, hq_y2⟩ := inv_i hq_y1
      obtain ⟨sy3, ry3, rfl, py3, hq_y3⟩ := inv_s hq_y2
      obtain ⟨ny4, ry4, rfl, py4, hq_y4⟩ := inv_i hq_y3
      obtain ⟨ly5, ry5, rfl, py5, hq_y5⟩ := inv_sl W9 hq_y4
      obtain ⟨ly6, ry6, rfl, py6, hq_y6⟩ := inv_sl W117 hq_y5
      cases inv_nil hq_y6
      simp only [l159x0s]
      simp only [cI, cB, cS, cL, oD_d, oG_g, oT_t, oP_p, dI_v, dB_v, dS_v, dL_s, cell_z, cell_s, nth_z, nth_s, aV_z, aV_s, aI_v, aB_v, aS_v, aL_f, aO_o, aX_b, tst_t, cond_true, cond_false, Ex.same, Nat.beq, List.length_cons, List.length_nil, Int.toNat_natCast, decide_eq_true (Int.ofNat_lt.2 hi), dec_nn, look_at hx, look_at hx', wrap_succ hi (SL.le (E := E) (t := 236) (by assumption)), List.append_nil]
      simp only [bne_not, beq_t, beq_f, Bool.not_not, Bool.cond_not, beq_nat, Bool.and_true]
      apply Stp.conv
      · apply stp_if; intro g1
        apply stp_call
        · exact f88 (by assumption) (by assumption)
        apply stp_if; intro g2
        apply stp_call
        · exact f158 (by rw [E117]; exact mk_i (by assumption) (mk_s (by assumption) (mk_i (by assumption) (mk_sl W9 (by assumption) (mk_sl W117 (by assumption) (ShL.nil)))))) (by rw [E117]; exact mk_i (by assumption) (mk_s (by assumption) (mk_i (by assumption) (mk_sl W9 (by assumption) (mk_sl W117 (by assumption) (ShL.nil))))))
        apply stp_if; intro g3
        exact stp_end
      · first | (simp only [eqRow, eqD, Bool.and_true, Bool.true_and, Bool.and_assoc]; done) | (simp only [eqRow, eqD, Bool.and_true, Bool.true_and, Bool.and_assoc]; ac_rfl) | (rw [Bool.eq_iff_iff]; simp only [eqRow, eqD, Bool.and_true, Bool.true_and, Bool.and_eq_true]; constructor <;> (intro hh; simp only [hh, and_self]))
    any_goals (intro d n; simp only [cI, cB, cS, cL, oD_d, oG_g, oT_t, oP_p, dI_v, dB_v, dS_v, dL_s, cell_z, cell_s, nth_z, nth_s, aV_z, aV_s, aI_v, aB_v, aS_v, aL_f, aO_o, aX_b, tst_t, cond_true, cond_false, Ex.same, Nat.beq, List.length_cons, List.length_nil, Int.toNat_natCast]; done)
    simp only [cI, cB, cS, cL, oD_d, oG_g, oT_t, oP_p, dI_v, dB_v, dS_v, dL_s, cell_z, cell_s, nth_z, nth_s, aV_z, aV_s, aI_v, aB_v, aS_v, aL_f, aO_o, aX_b, tst_t, cond_true, cond_false, Ex.same, Nat.beq, List.length_cons, List.length_nil, Int.toNat_natCast]
    first | exact stp_end | exact stp_ret
  · first | (simp only [eqRow, eqD, Bool.and_true, Bool.true_and, Bool.and_assoc]; done) | (simp only [eqRow, eqD, Bool.and_true, Bool.true_and, Bool.and_assoc]; ac_rfl) | (rw [Bool.eq_iff_iff]; simp only [eqRow, eqD, Bool.and_true, Bool.true_and, Bool.and_eq_true]; constructor <;> (intro hh; simp only [hh, and_self]))
/- loop.example/g00119/spec.l17SameJob -/
theorem f89 {row row' : Row} (h : ShL E (E 120) row) (h' : ShL E (E 120) row') : Ev fs 89 [.g row, .g row'] (bo (eqRow row row')) := by
  rw [E120] at h
  obtain ⟨na0, ra0, rfl, pa0, h_a0⟩ := inv_i h
  obtain ⟨sa1, ra1, rfl, pa1, h_a1⟩ := inv_s h_a0
  obtain ⟨na2, ra2, rfl, pa2, h_a2⟩ := inv_i h_a1
  obtain ⟨la3, ra3, rfl, pa3, h_a3⟩ := inv_sl W239 h_a2
  obtain ⟨la4, ra4, rfl, pa4, h_a4⟩ := inv_sl W9 h_a3
  obtain ⟨la5, ra5, rfl, pa5, h_a5⟩ := inv_sl W234 h_a4
  obtain ⟨na6, ra6, rfl, pa6, h_a6⟩ := inv_i h_a5
  obtain ⟨sa7, ra7, rfl, pa7, h_a7⟩ := inv_s h_a6
  obtain ⟨na8, ra8, rfl, pa8, h_a8⟩ := inv_i h_a7
  obtain ⟨la9, ra9, rfl, pa9, h_a9⟩ := inv_sl W9 h_a8
  obtain ⟨la10, ra10, rfl, pa10, h_a10⟩ := inv_sl W117 h_a9
  obtain ⟨la11, ra11, rfl, pa11, h_a11⟩ := inv_sl W207 h_a10
  obtain ⟨ba12, ra12, rfl, h_a12⟩ := inv_b h_a11
  cases inv_nil h_a12
  rw [E120] at h'
  obtain ⟨nc0, rc0, rfl, pc0, hq_c0⟩ := inv_i h'
  obtain ⟨sc1, rc1, rfl, pc1, hq_c1⟩ := inv_s hq_c0
  obtain ⟨nc2, rc2, rfl, pc2, hq_c2⟩ := inv_i hq_c1
  obtain ⟨lc3, rc3, rfl, pc3, hq_c3⟩ := inv_sl W239 hq_c2
  obtain ⟨lc4, rc4, rfl, pc4, hq_c4⟩ := inv_sl W9 hq_c3
  obtain ⟨lc5, rc5, rfl, pc5, hq_c5⟩ := inv_sl W234 hq_c4
  obtain ⟨nc6, rc6, rfl, pc6, hq_c6⟩ := inv_i hq_c5
  obtain ⟨sc7, rc7, rfl, pc7, hq_c7⟩ := inv_s hq_c6
  obtain ⟨nc8, rc8, rfl, pc8, hq_c8⟩ := inv_i hq_c7
  obtain ⟨lc9, rc9, rfl, pc9, hq_c9⟩ := inv_sl W9 hq_c8
  obtain ⟨lc10, rc10, rfl, pc10, hq_c10⟩ := inv_sl W117 hq_c9
  obtain ⟨lc11, rc11, rfl, pc11, hq_c11⟩ := inv_sl W207 hq_c10
  obtain ⟨bc12, rc12, rfl, hq_c12⟩ := inv_b hq_c11
  cases inv_nil hq_c12
  refine Ev.bo (af := a89) rfl rfl (fun d n => a89q ..) ?_
  simp only [bne_not, beq_t, beq_f, Bool.not_not, Bool.cond_not, beq_nat, Bool.and_true]
  apply Stp.conv
  · apply stp_if; intro e1
    apply stp_if; intro e2
    apply stp_if; intro e3
    apply stp_call
    · exact f157 (by rw [E114]; exact mk_i (by assumption) (mk_sl W239 (by assumption) (mk_sl W9 (by assumption) (mk_sl W234 (by assumption) (ShL.nil))))) (by rw [E114]; exact mk_i (by assumption) (mk_sl W239 (by assumption) (mk_sl W9 (by assumption) (mk_sl W234 (by assumption) (ShL.nil)))))
    apply stp_if; intro e4
    apply stp_call
    · exact f158 (by rw [E117]; exact mk_i (by assumption) (mk_s (by assumption) (mk_i (by assumption) (mk_sl W9 (by assumption) (mk_sl W117 (by assumption) (ShL.nil)))))) (by rw [E117]; exact mk_i (by assumption) (mk_s (by assumption) (mk_i (by assumption) (mk_sl W9 (by assumption) (mk_sl W117 (by assumption) (ShL.nil))))))
    apply stp_if; intro e5
    apply stp_if; intro e6
    apply stp_loop (L := fun d n => l89x0 (TabD fs d) d n [(.b [(.v (.int .i64 na0)), (.v (.string sa1)), (.v (.int .i64 na2)), (.fz 3 la3), (.fz 1 la4), (.fz 2 la5), (.v (.int .i64 na6)), (.v (.string sa7)), (.v (.int .i64 na8)), (.fz 1 la9), (.fz 5 la10), (.fz 2 la11), (.v (.bool ba12))]), (.b [(.v (.int .i64 nc0)), (.v (.string sc1)), (.v (.int .i64 nc2)), (.fz 3 lc3), (.fz 1 lc4), (.fz 2 lc5), (.v (.int .i64 nc6)), (.v (.string sc7)), (.v (.int .i64 nc8)), (.fz 1 lc9), (.fz 5 lc10), (.fz 2 lc11), (.v (.bool bc12))]), (.v (.int .i64 0))]) (c := eqRows la11 lc11) (y := ((.exit 0), []))
    · refine eq_loopE (L := fun d n i => l89x0 (TabD fs d) d n [(.b [(.v (.int .i64 na0)), (.v (.string sa1)), (.v (.int .i64 na2)), (.fz 3 la3), (.fz 1 la4), (.fz 2 la5), (.v (.int .i64 na6)), (.v (.string sa7)), (.v (.int .i64 na8)), (.fz 1 la9), (.fz 5 la10), (.fz 2 la11), (.v (.bool ba12))]), (.b [(.v (.int .i64 nc0)), (.v (.string sc1)), (.v (.int .i64 nc2)), (.fz 3 lc3), (.fz 1 lc4), (.fz 2 lc5), (.v (.int .i64 nc6)), (.v (.string sc7)), (.v (.int .i64 nc8)), (.fz 1 lc9), (.fz 5 lc10), (.fz 2 lc11), (.v (.bool bc12))]), (.v (.int .i64 i))]) (len_of (by assumption)) (fun d n => ?_) (fun i x x' hi hi' hx hx' => ?_)
      rw [l89x0s]
      simp only [cI, cB, cS, cL, oD_d, oG_g, oT_t, oP_p, dI_v, dB_v, dS_v, dL_s, cell_z, cell_s, nth_z, nth_s, aV_z, aV_s, aI_v, aB_v, aS_v, aL_f, aO_o, aX_b, tst_t, cond_true, cond_false, Ex.same, Nat.beq, List.length_cons, List.length_nil, Int.toNat_natCast, Int.lt_irrefl, decide_false]
      have h := (SL.at (E := E) (t := 207) (by assumption) hx)
      have h' := (SL.at (E := E) (t := 207) (by assumption) hx')
      have k := h
      have k' := h'
      rw [E207] at h
      obtain ⟨sx0, rx0, rfl, px0, h_x0⟩ := inv_s h
      obtain ⟨lx1, rx1, rfl, px1, h_x1⟩ := inv_sl W236 h_x0
      cases inv_nil h_x1
      rw [E207] at h'
      obtain ⟨sy0, ry0, rfl, py0, hq_y0⟩ := inv_s h'
      obtain ⟨ly1, ry1, rfl, py1, hq_y1⟩ := inv_sl W236 hq_y0
      cases inv_nil hq_y1
      simp only [l89x0s]
      simp only [cI, cB, cS, cL, oD_d, oG_g, oT_t, oP_p, dI_v, dB_v, dS_v, dL_s, cell_z, cell_s, nth_z, nth_s, aV_z, aV_s, aI_v, aB_v, aS_v, aL_f, aO_o, aX_b, tst_t, cond_true, cond_false, Ex.same, Nat.beq, List.length_cons, List.length_nil, Int.toNat_natCast, decide_eq_true (Int.ofNat_lt.2 hi), dec_nn, look_at hx, look_at hx', wrap_succ hi (SL.le (E := E) (t := 207) (by assumption)), List.append_nil]
      simp only [bne_not, beq_t, beq_f, Bool.not_not, Bool.cond_not, beq_nat, Bool.and_true]
      apply Stp.conv
      · apply stp_if; intro g1
        apply stp_call
        · exact f159 (by assumption) (by assumption)
        apply stp_if; intro g2
        exact stp_end
      · first | (simp only [eqRow, eqD, Bool.and_true, Bool.true_and, Bool.and_assoc]; done) | (simp only [eqRow, eqD, Bool.and_true, Bool.true_and, Bool.and_assoc]; ac_rfl) | (rw [Bool.eq_iff_iff]; simp only [eqRow, eqD, Bool.and_true, Bool.true_and, Bool.and_eq_true]; constructor <;> (intro hh; simp only [hh, and_self]))
    any_goals (intro d n; simp only [cI, cB, cS, cL, oD_d, oG_g, oT_t, oP_p, dI_v, dB_v, dS_v, dL_s, cell_z, cell_s, nth_z, nth_s, aV_z, aV_s, aI_v, aB_v, aS_v, aL_f, aO_o, aX_b, tst_t, cond_true, cond_false, Ex.same, Nat.beq, List.length_cons, List.length_nil, Int.toNat_natCast]; done)
    simp only [cI, cB, cS, cL, oD_d, oG_g, oT_t, oP_p, dI_v, dB_v, dS_v, dL_s, cell_z, cell_s, nth_z, nth_s, aV_z, aV_s, aI_v, aB_v, aS_v, aL_f, aO_o, aX_b, tst_t, cond_true, cond_false, Ex.same, Nat.beq, List.length_cons, List.length_nil, Int.toNat_natCast]
    first | exact stp_end | exact stp_ret
  · first | (simp only [eqRow, eqD, Bool.and_true, Bool.true_and, Bool.and_assoc]; done) | (simp only [eqRow, eqD, Bool.and_true, Bool.true_and, Bool.and_assoc]; ac_rfl) | (rw [Bool.eq_iff_iff]; simp only [eqRow, eqD, Bool.and_true, Bool.true_and, Bool.and_eq_true]; constructor <;> (intro hh; simp only [hh, and_self]))
/- loop.example/g00119/spec.l17SamePost -/
theorem f90 {row row' : Row} (h : ShL E (E 126) row) (h' : ShL E (E 126) row') : Ev fs 90 [.g row, .g row'] (bo (eqRow row row')) := by
  rw [E126] at h
  obtain ⟨sa0, ra0, rfl, pa0, h_a0⟩ := inv_s h
  obtain ⟨la1, ra1, rfl, pa1, h_a1⟩ := inv_sl W210 h_a0
  obtain ⟨la2, ra2, rfl, pa2, h_a2⟩ := inv_sl W9 h_a1
  obtain ⟨na3, ra3, rfl, pa3, h_a3⟩ := inv_i h_a2
  obtain ⟨na4, ra4, rfl, pa4, h_a4⟩ := inv_i h_a3
  obtain ⟨na5, ra5, rfl, pa5, h_a5⟩ := inv_i h_a4
  cases inv_nil h_a5
  rw [E126] at h'
  obtain ⟨sc0, rc0, rfl, pc0, hq_c0⟩ := inv_s h'
  obtain ⟨lc1, rc1, rfl, pc1, hq_c1⟩ := inv_sl W210 hq_c0
  obtain ⟨lc2, rc2, rfl, pc2, hq_c2⟩ := inv_sl W9 hq_c1
  obtain ⟨nc3, rc3, rfl, pc3, hq_c3⟩ := inv_i hq_c2
  obtain ⟨nc4, rc4, rfl, pc4, hq_c4⟩ := inv_i hq_c3
  obtain ⟨nc5, rc5, rfl, pc5, hq_c5⟩ := inv_i hq_c4
  cases inv_nil hq_c5
  refine Ev.bo (af := a90) rfl rfl (fun d n => a90q ..) ?_
  simp only [bne_not, beq_t, beq_f, Bool.not_not, Bool.cond_not, beq_nat, Bool.and_true]
  apply Stp.conv
  · apply stp_if; intro e1
    apply stp_if; intro e2
    apply stp_if; intro e3
    apply stp_if; intro e4
    apply stp_call
    · exact f88 (by assumption) (by assumption)
    apply stp_if; intro e5
    apply stp_if; intro e6
    apply stp_loop (L := fun d n => l90x0 (TabD fs d) d n [(.b [(.v (.string sa0)), (.fz 2 la1), (.fz 1 la2), (.v (.int .i64 na3)), (.v (.int .i64 na4)), (.v (.int .i64 na5))]), (.b [(.v (.string sc0)), (.fz 2 lc1), (.fz 1 lc2), (.v (.int .i64 nc3)), (.v (.int .i64 nc4)), (.v (.int .i64 nc5))]), (.v (.int .i64 0))]) (c := eqRows la1 lc1) (y := ((.exit 0), []))
    · refine eq_loopE (L := fun d n i => l90x0 (TabD fs d) d n [(.b [(.v (.string sa0)), (.fz 2 la1), (.fz 1 la2), (.v (.int .i64 na3)), (.v (.int .i64 na4)), (.v (.int .i64 na5))]), (.b [(.v (.string sc0)), (.fz 2 lc1), (.fz 1 lc2), (.v (.int .i64 nc3)), (.v (.int .i64 nc4)), (.v (.int .i64 nc5))]), (.v (.int .i64 i))]) (len_of (by assumption)) (fun d n => ?_) (fun i x x' hi hi' hx hx' => ?_)
      rw [l90x0s]
      simp only [cI, cB, cS, cL, oD_d, oG_g, oT_t, oP_p, dI_v, dB_v, dS_v, dL_s, cell_z, cell_s, nth_z, nth_s, aV_z, aV_s, aI_v, aB_v, aS_v, aL_f, aO_o, aX_b, tst_t, cond_true, cond_false, Ex.same, Nat.beq, List.length_cons, List.length_nil, Int.toNat_natCast, Int.lt_irrefl, decide_false]
      have h := (SL.at (E := E) (t := 210) (by assumption) hx)
      have h' := (SL.at (E := E) (t := 210) (by assumption) hx')
      have k := h
      have k' := h'
      rw [E210] at h
      obtain ⟨sx0, rx0, rfl, px0, h_x0⟩ := inv_s h
      obtain ⟨sx1, rx1, rfl, px1, h_x1⟩ := inv_s h_x0
      cases inv_nil h_x1
      rw [E210] at h'
      obtain ⟨sy0, ry0, rfl, py0, hq_y0⟩ := inv_s h'
      obtain ⟨sy1, ry1, rfl, py1, hq_y1⟩ := inv_s hq_y0
      cases inv_nil hq_y1
      simp only [l90x0s]
      simp only [cI, cB, cS, cL, oD_d, oG_g, oT_t, oP_p, dI_v, dB_v, dS_v, dL_s, cell_z, cell_s, nth_z, nth_s, aV_z, aV_s, aI_v, aB_v, aS_v, aL_f, aO_o, aX_b, tst_t, cond_true, cond_false, Ex.same, Nat.beq, List.length_cons, List.length_nil, Int.toNat_natCast, decide_eq_true (Int.ofNat_lt.2 hi), dec_nn, look_at hx, look_at hx', wrap_succ hi (SL.le (E := E) (t := 210) (by assumption)), List.append_nil]
      simp only [bne_not, beq_t, beq_f, Bool.not_not, Bool.cond_not, beq_nat, Bool.and_true]
      apply Stp.conv
      · apply stp_if; intro g1
        exact stp_end
      · first | (simp only [eqRow, eqD, Bool.and_true, Bool.true_and, Bool.and_assoc]; done) | (simp only [eqRow, eqD, Bool.and_true, Bool.true_and, Bool.and_assoc]; ac_rfl) | (rw [Bool.eq_iff_iff]; simp only [eqRow, eqD, Bool.and_true, Bool.true_and, Bool.and_eq_true]; constructor <;> (intro hh; simp only [hh, and_self]))
    any_goals (intro d n; simp only [cI, cB, cS, cL, oD_d, oG_g, oT_t, oP_p, dI_v, dB_v, dS_v, dL_s, cell_z, cell_s, nth_z, nth_s, aV_z, aV_s, aI_v, aB_v, aS_v, aL_f, aO_o, aX_b, tst_t, cond_true, cond_false, Ex.same, Nat.beq, List.length_cons, List.length_nil, Int.toNat_natCast]; done)
    simp only [cI, cB, cS, cL, oD_d, oG_g, oT_t, oP_p, dI_v, dB_v, dS_v, dL_s, cell_z, cell_s, nth_z, nth_s, aV_z, aV_s, aI_v, aB_v, aS_v, aL_f, aO_o, aX_b, tst_t, cond_true, cond_false, Ex.same, Nat.beq, List.length_cons, List.length_nil, Int.toNat_natCast]
    first | exact stp_end | exact stp_ret
  · first | (simp only [eqRow, eqD, Bool.and_true, Bool.true_and, Bool.and_assoc]; done) | (simp only [eqRow, eqD, Bool.and_true, Bool.true_and, Bool.and_assoc]; ac_rfl) | (rw [Bool.eq_iff_iff]; simp only [eqRow, eqD, Bool.and_true, Bool.true_and, Bool.and_eq_true]; constructor <;> (intro hh; simp only [hh, and_self]))
/- loop.example/g00119/spec.SameHub -/
theorem f31 {row row' : Row} (h : ShL E (E 57) row) (h' : ShL E (E 57) row') : Ev fs 31 [.g row, .g row'] (bo (eqRow row row')) := by
  rw [E57] at h
  obtain ⟨na0, ra0, rfl, pa0, h_a0⟩ := inv_i h
  obtain ⟨na1, ra1, rfl, pa1, h_a1⟩ := inv_i h_a0
  obtain ⟨na2, ra2, rfl, pa2, h_a2⟩ := inv_i h_a1
  obtain ⟨la3, ra3, rfl, pa3, h_a3⟩ := inv_sl W120 h_a2
  obtain ⟨la4, ra4, rfl, pa4, h_a4⟩ := inv_sl W126 h_a3
  obtain ⟨la5, ra5, rfl, pa5, h_a5⟩ := inv_sl W96 h_a4
  obtain ⟨la6, ra6, rfl, pa6, h_a6⟩ := inv_sl W9 h_a5
  cases inv_nil h_a6
  rw [E57] at h'
  obtain ⟨nc0, rc0, rfl, pc0, hq_c0⟩ := inv_i h'
  obtain ⟨nc1, rc1, rfl, pc1, hq_c1⟩ := inv_i hq_c0
  obtain ⟨nc2, rc2, rfl, pc2, hq_c2⟩ := inv_i hq_c1
  obtain ⟨lc3, rc3, rfl, pc3, hq_c3⟩ := inv_sl W120 hq_c2
  obtain ⟨lc4, rc4, rfl, pc4, hq_c4⟩ := inv_sl W126 hq_c3
  obtain ⟨lc5, rc5, rfl, pc5, hq_c5⟩ := inv_sl W96 hq_c4
  obtain ⟨lc6, rc6, rfl, pc6, hq_c6⟩ := inv_sl W9 hq_c5
  cases inv_nil hq_c6
  refine Ev.bo (af := a31) rfl rfl (fun d n => a31q ..) ?_
  simp only [bne_not, beq_t, beq_f, Bool.not_not, Bool.cond_not, beq_nat, Bool.and_true]
  apply Stp.conv
  · apply stp_if; intro e1
    apply stp_if; intro e2
    apply stp_if; intro e3
    apply stp_if; intro e4
    apply stp_if; intro e5
    apply stp_if; intro e6
    apply stp_call
    · exact f88 (by assumption) (by assumption)
    apply stp_if; intro e7
    apply stp_loop (L := fun d n => l31x0 (TabD fs d) d n [(.b [(.v (.int .i64 na0)), (.v (.int .i64 na1)), (.v (.int .i64 na2)), (.fz 13 la3), (.fz 6 la4), (.fz 5 la5), (.fz 1 la6)]), (.b [(.v (.int .i64 nc0)), (.v (.int .i64 nc1)), (.v (.int .i64 nc2)), (.fz 13 lc3), (.fz 6 lc4), (.fz 5 lc5), (.fz 1 lc6)]), (.v (.int .i64 0))]) (c := eqRows la3 lc3) (y := ((.exit 0), [(.b [(.v (.int .i64 na0)), (.v (.int .i64 na1)), (.v (.int .i64 na2)), (.fz 13 la3), (.fz 6 la4), (.fz 5 la5), (.fz 1 la6)]), (.b [(.v (.int .i64 nc0)), (.v (.int .i64 nc1)), (.v (.int .i64 nc2)), (.fz 13 lc3), (.fz 6 lc4), (.fz 5 lc5), (.fz 1 lc6)])]))
    · refine eq_loopE (L := fun d n i => l31x0 (TabD fs d) d n [(.b [(.v (.int .i64 na0)), (.v (.int .i64 na1)), (.v (.int .i64 na2)), (.fz 13 la3), (.fz 6 la4), (.fz 5 la5), (.fz 1 la6)]), (.b [(.v (.int .i64 nc0)), (.v (.int .i64 nc1)), (.v (.int .i64 nc2)), (.fz 13 lc3), (.fz 6 lc4), (.fz 5 lc5), (.fz 1 lc6)]), (.v (.int .i64 i))]) (len_of (by assumption)) (fun d n => ?_) (fun i x x' hi hi' hx hx' => ?_)
      rw [l31x0s]
      simp only [cI, cB, cS, cL, oD_d, oG_g, oT_t, oP_p, dI_v, dB_v, dS_v, dL_s, cell_z, cell_s, nth_z, nth_s, aV_z, aV_s, aI_v, aB_v, aS_v, aL_f, aO_o, aX_b, tst_t, cond_true, cond_false, Ex.same, Nat.beq, List.length_cons, List.length_nil, Int.toNat_natCast, Int.lt_irrefl, decide_false]
      have h := (SL.at (E := E) (t := 120) (by assumption) hx)
      have h' := (SL.at (E := E) (t := 120) (by assumption) hx')
      have k := h
      have k' := h'
      rw [E120] at h
      obtain ⟨nx0, rx0, rfl, px0, h_x0⟩ := inv_i h
      obtain ⟨sx1, rx1, rfl, px1, h_x1⟩ := inv_s h_x0
      obtain ⟨nx2, rx2, rfl, px2, h_x2⟩ := inv_i h_x1
      obtain ⟨lx3, rx3, rfl, px3, h_x3⟩ := inv_sl W239 h_x2
      obtain ⟨lx4, rx4, rfl, px4, h_x4⟩ := inv_sl W9 h_x3
      obtain ⟨lx5, rx5, rfl, px5, h_x5⟩ := inv_sl W234 h_x4
      obtain ⟨nx6, rx6, rfl, px6, h_x6⟩ := inv_i h_x5
      obtain ⟨sx7, rx7, rfl, px7, h_x7⟩ := inv_s h_x6
      obtain ⟨nx8, rx8, rfl, px8, h_x8⟩ := inv_i h_x7
      obtain ⟨lx9, rx9, rfl, px9, h_x9⟩ := inv_sl W9 h_x8
      obtain ⟨lx10, rx10, rfl, px10, h_x10⟩ := inv_sl W117 h_x9
      obtain ⟨lx11, rx11, rfl, px11, h_x11⟩ := inv_sl W207 h_x10
      obtain ⟨bx12, rx12, rfl, h_x12⟩ := inv_b h_x11
      cases inv_nil h_x12
      rw [E120] at h'
      obtain ⟨ny0, ry0, rfl, py0, hq_y0⟩ := inv_i h'
      obtain ⟨sy1, ry1, rfl, py1, hq_y1⟩ := inv_s hq_y0
      obtain ⟨ny2, ry2, rfl, py2, hq_y2⟩ := inv_i hq_y1
      obtain ⟨ly3, ry3, rfl, py3, hq_y3⟩ := inv_sl W239 hq_y2
      obtain ⟨ly4, ry4, rfl, py4, hq_y4⟩ := inv_sl W9 hq_y3
      obtain ⟨ly5, ry5, rfl, py5, hq_y5⟩ := inv_sl W234 hq_y4
      obtain ⟨ny6, ry6, rfl, py6, hq_y6⟩ := inv_i hq_y5
      obtain ⟨sy7, ry7, rfl, py7, hq_y7⟩ := inv_s hq_y6
      obtain ⟨ny8, ry8, rfl, py8, hq_y8⟩ := inv_i hq_y7
      obtain ⟨ly9, ry9, rfl, py9, hq_y9⟩ := inv_sl W9 hq_y8
      obtain ⟨ly10, ry10, rfl, py10, hq_y10⟩ := inv_sl W117 hq_y9
      obtain ⟨ly11, ry11, rfl, py11, hq_y11⟩ := inv_sl W207 hq_y10
      obtain ⟨by12, ry12, rfl, hq_y12⟩ := inv_b hq_y11
      cases inv_nil hq_y12
      simp only [l31x0s]
      simp only [cI, cB, cS, cL, oD_d, oG_g, oT_t, oP_p, dI_v, dB_v, dS_v, dL_s, cell_z, cell_s, nth_z, nth_s, aV_z, aV_s, aI_v, aB_v, aS_v, aL_f, aO_o, aX_b, tst_t, cond_true, cond_false, Ex.same, Nat.beq, List.length_cons, List.length_nil, Int.toNat_natCast, decide_eq_true (Int.ofNat_lt.2 hi), dec_nn, look_at hx, look_at hx', wrap_succ hi (SL.le (E := E) (t := 120) (by assumption)), List.append_nil]
      simp only [bne_not, beq_t, beq_f, Bool.not_not, Bool.cond_not, beq_nat, Bool.and_true]
      apply Stp.conv
      · apply stp_call
        · exact f89 (by assumption) (by assumption)
        apply stp_if; intro g1
        exact stp_end
      · first | (simp only [eqRow, eqD, Bool.and_true, Bool.true_and, Bool.and_assoc]; done) | (simp only [eqRow, eqD, Bool.and_true, Bool.true_and, Bool.and_assoc]; ac_rfl) | (rw [Bool.eq_iff_iff]; simp only [eqRow, eqD, Bool.and_true, Bool.true_and, Bool.and_eq_true]; constructor <;> (intro hh; simp only [hh, and_self]))
    any_goals (intro d n; simp only [cI, cB, cS, cL, oD_d, oG_g, oT_t, oP_p, dI_v, dB_v, dS_v, dL_s, cell_z, cell_s, nth_z, nth_s, aV_z, aV_s, aI_v, aB_v, aS_v, aL_f, aO_o, aX_b, tst_t, cond_true, cond_false, Ex.same, Nat.beq, List.length_cons, List.length_nil, Int.toNat_natCast]; done)
    simp only [cI, cB, cS, cL, oD_d, oG_g, oT_t, oP_p, dI_v, dB_v, dS_v, dL_s, cell_z, cell_s, nth_z, nth_s, aV_z, aV_s, aI_v, aB_v, aS_v, aL_f, aO_o, aX_b, tst_t, cond_true, cond_false, Ex.same, Nat.beq, List.length_cons, List.length_nil, Int.toNat_natCast]
    apply stp_loop (L := fun d n => l31x1 (TabD fs d) d n [(.b [(.v (.int .i64 na0)), (.v (.int .i64 na1)), (.v (.int .i64 na2)), (.fz 13 la3), (.fz 6 la4), (.fz 5 la5), (.fz 1 la6)]), (.b [(.v (.int .i64 nc0)), (.v (.int .i64 nc1)), (.v (.int .i64 nc2)), (.fz 13 lc3), (.fz 6 lc4), (.fz 5 lc5), (.fz 1 lc6)]), (.v (.int .i64 0))]) (c := eqRows la4 lc4) (y := ((.exit 2), [(.b [(.v (.int .i64 na0)), (.v (.int .i64 na1)), (.v (.int .i64 na2)), (.fz 13 la3), (.fz 6 la4), (.fz 5 la5), (.fz 1 la6)]), (.b [(.v (.int .i64 nc0)), (.v (.int .i64 nc1)), (.v (.int .i64 nc2)), (.fz 13 lc3), (.fz 6 lc4), (.fz 5 lc5), (.fz 1 lc6)])]))
    · refine eq_loopE (L := fun d n i => l31x1 (TabD fs d) d n [(.b [(.v (.int .i64 na0)), (.v (.int .i64 na1)), (.v (.int .i64 na2)), (.fz 13 la3), (.fz 6 la4), (.fz 5 la5), (.fz 1 la6)]), (.b [(.v (.int .i64 nc0)), (.v (.int .i64 nc1)), (.v (.int .i64 nc2)), (.fz 13 lc3), (.fz 6 lc4), (.fz 5 lc5), (.fz 1 lc6)]), (.v (.int .i64 i))]) (len_of (by assumption)) (fun d n => ?_) (fun i x x' hi hi' hx hx' => ?_)
      rw [l31x1s]
      simp only [cI, cB, cS, cL, oD_d, oG_g, oT_t, oP_p, dI_v, dB_v, dS_v, dL_s, cell_z, cell_s, nth_z, nth_s, aV_z, aV_s, aI_v, aB_v, aS_v, aL_f, aO_o, aX_b, tst_t, cond_true, cond_false, Ex.same, Nat.beq, List.length_cons, List.length_nil, Int.toNat_natCast, Int.lt_irrefl, decide_false]
      have h := (SL.at (E := E) (t := 126) (by assumption) hx)
      have h' := (SL.at (E := E) (t := 126) (by assumption) hx')
      have k := h
      have k' := h'
      rw [E126] at h
      obtain ⟨sx0, rx0, rfl, px0, h_x0⟩ := inv_s h
      obtain ⟨lx1, rx1, rfl, px1, h_x1⟩ := inv_sl W210 h_x0
      obtain ⟨lx2, rx2, rfl, px2, h_x2⟩ := inv_sl W9 h_x1
      obtain ⟨nx3, rx3, rfl, px3, h_x3⟩ := inv_i h_x2
      obtain ⟨nx4, rx4, rfl, px4, h_x4⟩ := inv_i h_x3
      obtain ⟨nx5, rx5, rfl, px5, h_x5⟩ := inv_i h_x4
      cases inv_nil h_x5
      rw [E126] at h'
      obtain ⟨sy0, ry0, rfl, py0, hq_y0⟩ := inv_s h'
      obtain ⟨ly1, ry1, rfl, py1, hq_y1⟩ := inv_sl W210 hq_y0
      obtain ⟨ly2, ry2, rfl, py2, hq_y2⟩ := inv_sl W9 hq_y1
      obtain ⟨ny3, ry3, rfl, py3, hq_y3⟩ := inv_i hq_y2
      obtain ⟨ny4, ry4, rfl, py4, hq_y4⟩ := inv_i hq_y3
      obtain ⟨ny5, ry5, rfl, py5, hq_y5⟩ := inv_i hq_y4
      cases inv_nil hq_y5
      simp only [l31x1s]
      simp only [cI, cB, cS, cL, oD_d, oG_g, oT_t, oP_p, dI_v, dB_v, dS_v, dL_s, cell_z, cell_s, nth_z, nth_s, aV_z, aV_s, aI_v, aB_v, aS_v, aL_f, aO_o, aX_b, tst_t, cond_true, cond_false, Ex.same, Nat.beq, List.length_cons, List.length_nil, Int.toNat_natCast, decide_eq_true (Int.ofNat_lt.2 hi), dec_nn, look_at hx, look_at hx', wrap_succ hi (SL.le (E := E) (t := 126) (by assumption)), List.append_nil]
      simp only [bne_not, beq_t, beq_f, Bool.not_not, Bool.cond_not, beq_nat, Bool.and_true]
      apply Stp.conv
      · apply stp_call
        · exact f90 (by assumption) (by assumption)
        apply stp_if; intro g1
        exact stp_end
      · first | (simp only [eqRow, eqD, Bool.and_true, Bool.true_and, Bool.and_assoc]; done) | (simp only [eqRow, eqD, Bool.and_true, Bool.true_and, Bool.and_assoc]; ac_rfl) | (rw [Bool.eq_iff_iff]; simp only [eqRow, eqD, Bool.and_true, Bool.true_and, Bool.and_eq_true]; constructor <;> (intro hh; simp only [hh, and_self]))
    any_goals (intro d n; simp only [cI, cB, cS, cL, oD_d, oG_g, oT_t, oP_p, dI_v, dB_v, dS_v, dL_s, cell_z, cell_s, nth_z, nth_s, aV_z, aV_s, aI_v, aB_v, aS_v, aL_f, aO_o, aX_b, tst_t, cond_true, cond_false, Ex.same, Nat.beq, List.length_cons, List.length_nil, Int.toNat_natCast]; done)
    simp only [cI, cB, cS, cL, oD_d, oG_g, oT_t, oP_p, dI_v, dB_v, dS_v, dL_s, cell_z, cell_s, nth_z, nth_s, aV_z, aV_s, aI_v, aB_v, aS_v, aL_f, aO_o, aX_b, tst_t, cond_true, cond_false, Ex.same, Nat.beq, List.length_cons, List.length_nil, Int.toNat_natCast]
    apply stp_loop (L := fun d n => l31x2 (TabD fs d) d n [(.b [(.v (.int .i64 na0)), (.v (.int .i64 na1)), (.v (.int .i64 na2)), (.fz 13 la3), (.fz 6 la4), (.fz 5 la5), (.fz 1 la6)]), (.b [(.v (.int .i64 nc0)), (.v (.int .i64 nc1)), (.v (.int .i64 nc2)), (.fz 13 lc3), (.fz 6 lc4), (.fz 5 lc5), (.fz 1 lc6)]), (.v (.int .i64 0))]) (c := eqRows la5 lc5) (y := ((.exit 4), []))
    · refine eq_loopE (L := fun d n i => l31x2 (TabD fs d) d n [(.b [(.v (.int .i64 na0)), (.v (.int .i64 na1)), (.v (.int .i64 na2)), (.fz 13 la3), (.fz 6 la4), (.fz 5 la5), (.fz 1 la6)]), (.b [(.v (.int .i64 nc0)), (.v (.int .i64 nc1)), (.v (.int .i64 nc2)), (.fz 13 lc3), (.fz 6 lc4), (.fz 5 lc5), (.fz 1 lc6)]), (.v (.int .i64 i))]) (len_of (by assumption)) (fun d n => ?_) (fun i x x' hi hi' hx hx' => ?_)
      rw [l31x2s]
      simp only [cI, cB, cS, cL, oD_d, oG_g, oT_t, oP_p, dI_v, dB_v, dS_v, dL_s, cell_z, cell_s, nth_z, nth_s, aV_z, aV_s, aI_v, aB_v, aS_v, aL_f, aO_o, aX_b, tst_t, cond_true, cond_false, Ex.same, Nat.beq, List.length_cons, List.length_nil, Int.toNat_natCast, Int.lt_irrefl, decide_false]
      have h := (SL.at (E := E) (t := 96) (by assumption) hx)
      have h' := (SL.at (E := E) (t := 96) (by assumption) hx')
      have k := h
      have k' := h'
      rw [E96] at h
      obtain ⟨nx0, rx0, rfl, px0, h_x0⟩ := inv_i h
      obtain ⟨sx1, rx1, rfl, px1, h_x1⟩ := inv_s h_x0
      obtain ⟨nx2, rx2, rfl, px2, h_x2⟩ := inv_i h_x1
      obtain ⟨nx3, rx3, rfl, px3, h_x3⟩ := inv_i h_x2
      obtain ⟨nx4, rx4, rfl, px4, h_x4⟩ := inv_i h_x3
      cases inv_nil h_x4
      rw [E96] at h'
      obtain ⟨ny0, ry0, rfl, py0, hq_y0⟩ := inv_i h'
      obtain ⟨sy1, ry1, rfl, py1, hq_y1⟩ := inv_s hq_y0
      obtain ⟨ny2, ry2, rfl, py2, hq_y2⟩ := inv_i hq_y1
      obtain ⟨ny3, ry3, rfl, py3, hq_y3⟩ := inv_i hq_y2
      obtain ⟨ny4, ry4, rfl, py4, hq_y4⟩ := inv_i hq_y3
      cases inv_nil hq_y4
      simp only [l31x2s]
      simp only [cI, cB, cS, cL, oD_d, oG_g, oT_t, oP_p, dI_v, dB_v, dS_v, dL_s, cell_z, cell_s, nth_z, nth_s, aV_z, aV_s, aI_v, aB_v, aS_v, aL_f, aO_o, aX_b, tst_t, cond_true, cond_false, Ex.same, Nat.beq, List.length_cons, List.length_nil, Int.toNat_natCast, decide_eq_true (Int.ofNat_lt.2 hi), dec_nn, look_at hx, look_at hx', wrap_succ hi (SL.le (E := E) (t := 96) (by assumption)), List.append_nil]
      simp only [bne_not, beq_t, beq_f, Bool.not_not, Bool.cond_not, beq_nat, Bool.and_true]
      apply Stp.conv
      · apply stp_if; intro g1
        exact stp_end
      · first | (simp only [eqRow, eqD, Bool.and_true, Bool.true_and, Bool.and_assoc]; done) | (simp only [eqRow, eqD, Bool.and_true, Bool.true_and, Bool.and_assoc]; ac_rfl) | (rw [Bool.eq_iff_iff]; simp only [eqRow, eqD, Bool.and_true, Bool.true_and, Bool.and_eq_true]; constructor <;> (intro hh; simp only [hh, and_self]))
    any_goals (intro d n; simp only [cI, cB, cS, cL, oD_d, oG_g, oT_t, oP_p, dI_v, dB_v, dS_v, dL_s, cell_z, cell_s, nth_z, nth_s, aV_z, aV_s, aI_v, aB_v, aS_v, aL_f, aO_o, aX_b, tst_t, cond_true, cond_false, Ex.same, Nat.beq, List.length_cons, List.length_nil, Int.toNat_natCast]; done)
    simp only [cI, cB, cS, cL, oD_d, oG_g, oT_t, oP_p, dI_v, dB_v, dS_v, dL_s, cell_z, cell_s, nth_z, nth_s, aV_z, aV_s, aI_v, aB_v, aS_v, aL_f, aO_o, aX_b, tst_t, cond_true, cond_false, Ex.same, Nat.beq, List.length_cons, List.length_nil, Int.toNat_natCast]
    first | exact stp_end | exact stp_ret
  · first | (simp only [eqRow, eqD, Bool.and_true, Bool.true_and, Bool.and_assoc]; done) | (simp only [eqRow, eqD, Bool.and_true, Bool.true_and, Bool.and_assoc]; ac_rfl) | (rw [Bool.eq_iff_iff]; simp only [eqRow, eqD, Bool.and_true, Bool.true_and, Bool.and_eq_true]; constructor <;> (intro hh; simp only [hh, and_self]))
end Go.Am.Sb
