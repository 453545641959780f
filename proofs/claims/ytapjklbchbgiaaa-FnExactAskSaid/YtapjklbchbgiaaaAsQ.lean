/- What the functions of one family say in the end. Nothing is assumed. -/
import Derived.Test.YtapjklbchbgiaaaAsH
namespace Go.Am.As
set_option linter.unusedVariables false
set_option linter.unusedSimpArgs false
set_option maxRecDepth 8000
/- loop.example/g00119/laws.eqStringS -/
theorem f63 {l l' : Rows} (hl : SL E 9 l) (hl' : SL E 9 l') : Ev fs 63 [.d (.s 1 l), .d (.s 1 l')] (bo ((l.length == l'.length) && eqRows l l')) := by
  refine Ev.bo (af := a63) rfl rfl (fun d n => a63q ..) ?_
  simp only [bne_not, beq_t, beq_f, Bool.not_not, Bool.cond_not, beq_nat, Bool.and_true]
  apply Stp.conv
  · apply stp_if; intro e1
    apply stp_loop (L := fun d n => l63x0 (TabD fs d) d n [(.fz 1 l), (.fz 1 l'), (.v (.int .i64 0))]) (c := eqRows l l') (y := ((.exit 0), []))
    · refine eq_loopE (L := fun d n i => l63x0 (TabD fs d) d n [(.fz 1 l), (.fz 1 l'), (.v (.int .i64 i))]) (len_of (by assumption)) (fun d n => ?_) (fun i x x' hi hi' hx hx' => ?_)
      rw [l63x0s]
      simp -implicitDefEqProofs only [cI, cB, cS, cL, oD_d, oG_g, oT_t, oP_p, dI_v, dB_v, dS_v, dL_s, cell_z, cell_s, nth_z, nth_s, aV_z, aV_s, aI_v, aB_v, aS_v, aL_f, aO_o, aX_b, tst_t, cond_true, cond_false, Ex.same, Nat.beq, List.length_cons, List.length_nil, Int.toNat_natCast, beqTT, beqTF, beqFT, beqFF, Int.lt_irrefl, decide_false]
      have h := (SL.at (E := E) (t := 9) (by assumption) hx)
      have h' := (SL.at (E := E) (t := 9) (by assumption) hx')
      have k := h
      have k' := h'
      rw [E9] at h
      obtain ⟨sx0, rx0, rfl, px0, h_x0⟩ := inv_s h
      cases inv_nil h_x0
      rw [E9] at h'
      obtain ⟨sy0, ry0, rfl, py0, hq_y0⟩ := inv_s h'
      cases inv_nil hq_y0
      simp only [l63x0s]
      simp -implicitDefEqProofs only [cI, cB, cS, cL, oD_d, oG_g, oT_t, oP_p, dI_v, dB_v, dS_v, dL_s, cell_z, cell_s, nth_z, nth_s, aV_z, aV_s, aI_v, aB_v, aS_v, aL_f, aO_o, aX_b, tst_t, cond_true, cond_false, Ex.same, Nat.beq, List.length_cons, List.length_nil, Int.toNat_natCast, beqTT, beqTF, beqFT, beqFF, decide_eq_true (Int.ofNat_lt.2 hi), dec_nn, look_at hx, look_at hx', wrap_succ hi (SL.le (E := E) (t := 9) (by assumption)), List.append_nil]
      simp only [bne_not, beq_t, beq_f, Bool.not_not, Bool.cond_not, beq_nat, Bool.and_true]
      apply Stp.conv
      · apply stp_if; intro g1
        exact stp_end
      · first | (simp only [eqRow, eqD, Bool.and_true, Bool.true_and, Bool.and_assoc]; done) | (simp only [eqRow, eqD, Bool.and_true, Bool.true_and, Bool.and_assoc]; ac_rfl) | (rw [Bool.eq_iff_iff]; simp only [eqRow, eqD, Bool.and_true, Bool.true_and, Bool.and_eq_true]; constructor <;> (intro hh; simp only [hh, and_self]))
    any_goals (intro d n; simp -implicitDefEqProofs only [cI, cB, cS, cL, oD_d, oG_g, oT_t, oP_p, dI_v, dB_v, dS_v, dL_s, cell_z, cell_s, nth_z, nth_s, aV_z, aV_s, aI_v, aB_v, aS_v, aL_f, aO_o, aX_b, tst_t, cond_true, cond_false, Ex.same, Nat.beq, List.length_cons, List.length_nil, Int.toNat_natCast, beqTT, beqTF, beqFT, beqFF]; done)
    simp -implicitDefEqProofs only [cI, cB, cS, cL, oD_d, oG_g, oT_t, oP_p, dI_v, dB_v, dS_v, dL_s, cell_z, cell_s, nth_z, nth_s, aV_z, aV_s, aI_v, aB_v, aS_v, aL_f, aO_o, aX_b, tst_t, cond_true, cond_false, Ex.same, Nat.beq, List.length_cons, List.length_nil, Int.toNat_natCast, beqTT, beqTF, beqFT, beqFF]
    first | exact stp_end | exact stp_ret
  · first | (simp only [eqRow, eqD, Bool.and_true, Bool.true_and, Bool.and_assoc]; done) | (simp only [eqRow, eqD, Bool.and_true, Bool.true_and, Bool.and_assoc]; ac_rfl) | (rw [Bool.eq_iff_iff]; simp only [eqRow, eqD, Bool.and_true, Bool.true_and, Bool.and_eq_true]; constructor <;> (intro hh; simp only [hh, and_self]))
/- loop.example/g00119/laws.eqValueS -/
mutual
theorem fr127 {row row' : Row} (h : ShL E (E 122) row) (h' : ShL E (E 122) row') (W : Nat) (hW : 2 * wtRow row + 1 = W) : Ev fs 127 [.g row, .g row'] (bo (eqRow row row')) := by
  rw [E122] at h
  obtain ⟨na0, ra0, rfl, pa0, h_a0⟩ := inv_i h
  obtain ⟨sa1, ra1, rfl, pa1, h_a1⟩ := inv_s h_a0
  obtain ⟨na2, ra2, rfl, pa2, h_a2⟩ := inv_i h_a1
  obtain ⟨la3, ra3, rfl, pa3, h_a3⟩ := inv_sl W9 h_a2
  obtain ⟨la4, ra4, rfl, pa4, h_a4⟩ := inv_sl W122 h_a3
  cases inv_nil h_a4
  rw [E122] at h'
  obtain ⟨nc0, rc0, rfl, pc0, hq_c0⟩ := inv_i h'
  obtain ⟨sc1, rc1, rfl, pc1, hq_c1⟩ := inv_s hq_c0
  obtain ⟨nc2, rc2, rfl, pc2, hq_c2⟩ := inv_i hq_c1
  obtain ⟨lc3, rc3, rfl, pc3, hq_c3⟩ := inv_sl W9 hq_c2
  obtain ⟨lc4, rc4, rfl, pc4, hq_c4⟩ := inv_sl W122 hq_c3
  cases inv_nil hq_c4
  refine Ev.bo (af := a127) rfl rfl (fun d n => a127q ..) ?_
  simp only [bne_not, beq_t, beq_f, Bool.not_not, Bool.cond_not, beq_nat, Bool.and_true]
  apply Stp.conv
  · apply stp_if; intro e1
    apply stp_if; intro e2
    apply stp_if; intro e3
    apply stp_call
    · exact f63 (by assumption) (by assumption)
    apply stp_if; intro e4
    apply stp_call
    · exact fr149 (by assumption) (by assumption) _ rfl
    apply stp_if; intro e5
    first | exact stp_end | exact stp_ret
  · first | (simp only [eqRow, eqD, Bool.and_true, Bool.true_and, Bool.and_assoc]; done) | (simp only [eqRow, eqD, Bool.and_true, Bool.true_and, Bool.and_assoc]; ac_rfl) | (rw [Bool.eq_iff_iff]; simp only [eqRow, eqD, Bool.and_true, Bool.true_and, Bool.and_eq_true]; constructor <;> (intro hh; simp only [hh, and_self]))
termination_by W
decreasing_by all_goals (try have := wt_at hx); (try simp only [wtRow, wtD] at *); omega
theorem fr149 {l l' : Rows} (hl : SL E 122 l) (hl' : SL E 122 l') (W : Nat) (hW : 2 * (l.length + wtRows l) = W) : Ev fs 149 [.d (.s 5 l), .d (.s 5 l')] (bo ((l.length == l'.length) && eqRows l l')) := by
  refine Ev.bo (af := a149) rfl rfl (fun d n => a149q ..) ?_
  simp only [bne_not, beq_t, beq_f, Bool.not_not, Bool.cond_not, beq_nat, Bool.and_true]
  apply Stp.conv
  · apply stp_if; intro e1
    apply stp_loop (L := fun d n => l149x0 (TabD fs d) d n [(.fz 5 l), (.fz 5 l'), (.v (.int .i64 0))]) (c := eqRows l l') (y := ((.exit 0), []))
    · refine eq_loopE (L := fun d n i => l149x0 (TabD fs d) d n [(.fz 5 l), (.fz 5 l'), (.v (.int .i64 i))]) (len_of (by assumption)) (fun d n => ?_) (fun i x x' hi hi' hx hx' => ?_)
      rw [l149x0s]
      simp -implicitDefEqProofs only [cI, cB, cS, cL, oD_d, oG_g, oT_t, oP_p, dI_v, dB_v, dS_v, dL_s, cell_z, cell_s, nth_z, nth_s, aV_z, aV_s, aI_v, aB_v, aS_v, aL_f, aO_o, aX_b, tst_t, cond_true, cond_false, Ex.same, Nat.beq, List.length_cons, List.length_nil, Int.toNat_natCast, beqTT, beqTF, beqFT, beqFF, Int.lt_irrefl, decide_false]
      have h := (SL.at (E := E) (t := 122) (by assumption) hx)
      have h' := (SL.at (E := E) (t := 122) (by assumption) hx')
      have k := h
      have k' := h'
      rw [E122] at h
      obtain ⟨nx0, rx0, rfl, px0, h_x0⟩ := inv_i h
      obtain ⟨sx1, rx1, rfl, px1, h_x1⟩ := inv_s h_x0
      obtain ⟨nx2, rx2, rfl, px2, h_x2⟩ := inv_i h_x1
      obtain ⟨lx3, rx3, rfl, px3, h_x3⟩ := inv_sl W9 h_x2
      obtain ⟨lx4, rx4, rfl, px4, h_x4⟩ := inv_sl W122 h_x3
      cases inv_nil h_x4
      rw [E122] at h'
      obtain ⟨ny0, ry0, rfl, py0, hq_y0⟩ := inv_i h'
      obtain ⟨sy1, ry1, rfl, py1, hq_y1⟩ := inv_s hq_y0
      obtain ⟨ny2, ry2, rfl, py2, hq_y2⟩ := inv_i hq_y1
      obtain ⟨ly3, ry3, rfl, py3, hq_y3⟩ := inv_sl W9 hq_y2
      obtain ⟨ly4, ry4, rfl, py4, hq_y4⟩ := inv_sl W122 hq_y3
      cases inv_nil hq_y4
      simp only [l149x0s]
      simp -implicitDefEqProofs only [cI, cB, cS, cL, oD_d, oG_g, oT_t, oP_p, dI_v, dB_v, dS_v, dL_s, cell_z, cell_s, nth_z, nth_s, aV_z, aV_s, aI_v, aB_v, aS_v, aL_f, aO_o, aX_b, tst_t, cond_true, cond_false, Ex.same, Nat.beq, List.length_cons, List.length_nil, Int.toNat_natCast, beqTT, beqTF, beqFT, beqFF, decide_eq_true (Int.ofNat_lt.2 hi), dec_nn, look_at hx, look_at hx', wrap_succ hi (SL.le (E := E) (t := 122) (by assumption)), List.append_nil]
      simp only [bne_not, beq_t, beq_f, Bool.not_not, Bool.cond_not, beq_nat, Bool.and_true]
      apply Stp.conv
      · apply stp_call
        · exact fr127 (by assumption) (by assumption) _ rfl
        apply stp_if; intro g1
        exact stp_end
      · first | (simp only [eqRow, eqD, Bool.and_true, Bool.true_and, Bool.and_assoc]; done) | (simp only [eqRow, eqD, Bool.and_true, Bool.true_and, Bool.and_assoc]; ac_rfl) | (rw [Bool.eq_iff_iff]; simp only [eqRow, eqD, Bool.and_true, Bool.true_and, Bool.and_eq_true]; constructor <;> (intro hh; simp only [hh, and_self]))
    any_goals (intro d n; simp -implicitDefEqProofs only [cI, cB, cS, cL, oD_d, oG_g, oT_t, oP_p, dI_v, dB_v, dS_v, dL_s, cell_z, cell_s, nth_z, nth_s, aV_z, aV_s, aI_v, aB_v, aS_v, aL_f, aO_o, aX_b, tst_t, cond_true, cond_false, Ex.same, Nat.beq, List.length_cons, List.length_nil, Int.toNat_natCast, beqTT, beqTF, beqFT, beqFF]; done)
    simp -implicitDefEqProofs only [cI, cB, cS, cL, oD_d, oG_g, oT_t, oP_p, dI_v, dB_v, dS_v, dL_s, cell_z, cell_s, nth_z, nth_s, aV_z, aV_s, aI_v, aB_v, aS_v, aL_f, aO_o, aX_b, tst_t, cond_true, cond_false, Ex.same, Nat.beq, List.length_cons, List.length_nil, Int.toNat_natCast, beqTT, beqTF, beqFT, beqFF]
    first | exact stp_end | exact stp_ret
  · first | (simp only [eqRow, eqD, Bool.and_true, Bool.true_and, Bool.and_assoc]; done) | (simp only [eqRow, eqD, Bool.and_true, Bool.true_and, Bool.and_assoc]; ac_rfl) | (rw [Bool.eq_iff_iff]; simp only [eqRow, eqD, Bool.and_true, Bool.true_and, Bool.and_eq_true]; constructor <;> (intro hh; simp only [hh, and_self]))
termination_by W
decreasing_by all_goals (try have := wt_at hx); (try simp only [wtRow, wtD] at *); omega
end
theorem f127 {row row' : Row} (h : ShL E (E 122) row) (h' : ShL E (E 122) row') : Ev fs 127 [.g row, .g row'] (bo (eqRow row row')) := fr127 h h' _ rfl
theorem f149 {l l' : Rows} (hl : SL E 122 l) (hl' : SL E 122 l') : Ev fs 149 [.d (.s 5 l), .d (.s 5 l')] (bo ((l.length == l'.length) && eqRows l l')) := fr149 hl hl' _ rfl
/- loop.example/g00119/laws.eqWork -/
theorem f90 {row row' : Row} (h : ShL E (E 124) row) (h' : ShL E (E 124) row') : Ev fs 90 [.g row, .g row'] (bo (eqRow row row')) := by
  rw [E124] at h
  obtain ⟨na0, ra0, rfl, pa0, h_a0⟩ := inv_i h
  obtain ⟨na1, ra1, rfl, pa1, h_a1⟩ := inv_i h_a0
  obtain ⟨na2, ra2, rfl, pa2, h_a2⟩ := inv_i h_a1
  obtain ⟨sa3, ra3, rfl, pa3, h_a3⟩ := inv_s h_a2
  obtain ⟨na4, ra4, rfl, pa4, h_a4⟩ := inv_i h_a3
  obtain ⟨la5, ra5, rfl, pa5, h_a5⟩ := inv_sl W9 h_a4
  obtain ⟨la6, ra6, rfl, pa6, h_a6⟩ := inv_sl W122 h_a5
  cases inv_nil h_a6
  rw [E124] at h'
  obtain ⟨nc0, rc0, rfl, pc0, hq_c0⟩ := inv_i h'
  obtain ⟨nc1, rc1, rfl, pc1, hq_c1⟩ := inv_i hq_c0
  obtain ⟨nc2, rc2, rfl, pc2, hq_c2⟩ := inv_i hq_c1
  obtain ⟨sc3, rc3, rfl, pc3, hq_c3⟩ := inv_s hq_c2
  obtain ⟨nc4, rc4, rfl, pc4, hq_c4⟩ := inv_i hq_c3
  obtain ⟨lc5, rc5, rfl, pc5, hq_c5⟩ := inv_sl W9 hq_c4
  obtain ⟨lc6, rc6, rfl, pc6, hq_c6⟩ := inv_sl W122 hq_c5
  cases inv_nil hq_c6
  refine Ev.bo (af := a90) rfl rfl (fun d n => a90q ..) ?_
  simp only [bne_not, beq_t, beq_f, Bool.not_not, Bool.cond_not, beq_nat, Bool.and_true]
  apply Stp.conv
  · apply stp_if; intro e1
    apply stp_if; intro e2
    apply stp_call
    · exact f127 (by rw [E122]; exact mk_i (by assumption) (mk_s (by assumption) (mk_i (by assumption) (mk_sl W9 (by assumption) (mk_sl W122 (by assumption) (ShL.nil)))))) (by rw [E122]; exact mk_i (by assumption) (mk_s (by assumption) (mk_i (by assumption) (mk_sl W9 (by assumption) (mk_sl W122 (by assumption) (ShL.nil))))))
    apply stp_if; intro e3
    first | exact stp_end | exact stp_ret
  · first | (simp only [eqRow, eqD, Bool.and_true, Bool.true_and, Bool.and_assoc]; done) | (simp only [eqRow, eqD, Bool.and_true, Bool.true_and, Bool.and_assoc]; ac_rfl) | (rw [Bool.eq_iff_iff]; simp only [eqRow, eqD, Bool.and_true, Bool.true_and, Bool.and_eq_true]; constructor <;> (intro hh; simp only [hh, and_self]))
/- loop.example/g00119/laws.eqWorkS -/
theorem f42 {l l' : Rows} (hl : SL E 124 l) (hl' : SL E 124 l') : Ev fs 42 [.d (.s 7 l), .d (.s 7 l')] (bo ((l.length == l'.length) && eqRows l l')) := by
  refine Ev.bo (af := a42) rfl rfl (fun d n => a42q ..) ?_
  simp only [bne_not, beq_t, beq_f, Bool.not_not, Bool.cond_not, beq_nat, Bool.and_true]
  apply Stp.conv
  · apply stp_if; intro e1
    apply stp_loop (L := fun d n => l42x0 (TabD fs d) d n [(.fz 7 l), (.fz 7 l'), (.v (.int .i64 0))]) (c := eqRows l l') (y := ((.exit 0), []))
    · refine eq_loopE (L := fun d n i => l42x0 (TabD fs d) d n [(.fz 7 l), (.fz 7 l'), (.v (.int .i64 i))]) (len_of (by assumption)) (fun d n => ?_) (fun i x x' hi hi' hx hx' => ?_)
      rw [l42x0s]
      simp -implicitDefEqProofs only [cI, cB, cS, cL, oD_d, oG_g, oT_t, oP_p, dI_v, dB_v, dS_v, dL_s, cell_z, cell_s, nth_z, nth_s, aV_z, aV_s, aI_v, aB_v, aS_v, aL_f, aO_o, aX_b, tst_t, cond_true, cond_false, Ex.same, Nat.beq, List.length_cons, List.length_nil, Int.toNat_natCast, beqTT, beqTF, beqFT, beqFF, Int.lt_irrefl, decide_false]
      have h := (SL.at (E := E) (t := 124) (by assumption) hx)
      have h' := (SL.at (E := E) (t := 124) (by assumption) hx')
      have k := h
      have k' := h'
      rw [E124] at h
      obtain ⟨nx0, rx0, rfl, px0, h_x0⟩ := inv_i h
      obtain ⟨nx1, rx1, rfl, px1, h_x1⟩ := inv_i h_x0
      obtain ⟨nx2, rx2, rfl, px2, h_x2⟩ := inv_i h_x1
      obtain ⟨sx3, rx3, rfl, px3, h_x3⟩ := inv_s h_x2
      obtain ⟨nx4, rx4, rfl, px4, h_x4⟩ := inv_i h_x3
      obtain ⟨lx5, rx5, rfl, px5, h_x5⟩ := inv_sl W9 h_x4
      obtain ⟨lx6, rx6, rfl, px6, h_x6⟩ := inv_sl W122 h_x5
      cases inv_nil h_x6
      rw [E124] at h'
      obtain ⟨ny0, ry0, rfl, py0, hq_y0⟩ := inv_i h'
      obtain ⟨ny1, ry1, rfl, py1, hq_y1⟩ := inv_i hq_y0
      obtain ⟨ny2, ry2, rfl, py2, hq_y2⟩ := inv_i hq_y1
      obtain ⟨sy3, ry3, rfl, py3, hq_y3⟩ := inv_s hq_y2
      obtain ⟨ny4, ry4, rfl, py4, hq_y4⟩ := inv_i hq_y3
      obtain ⟨ly5, ry5, rfl, py5, hq_y5⟩ := inv_sl W9 hq_y4
      obtain ⟨ly6, ry6, rfl, py6, hq_y6⟩ := inv_sl W122 hq_y5
      cases inv_nil hq_y6
      simp only [l42x0s]
      simp -implicitDefEqProofs only [cI, cB, cS, cL, oD_d, oG_g, oT_t, oP_p, dI_v, dB_v, dS_v, dL_s, cell_z, cell_s, nth_z, nth_s, aV_z, aV_s, aI_v, aB_v, aS_v, aL_f, aO_o, aX_b, tst_t, cond_true, cond_false, Ex.same, Nat.beq, List.length_cons, List.length_nil, Int.toNat_natCast, beqTT, beqTF, beqFT, beqFF, decide_eq_true (Int.ofNat_lt.2 hi), dec_nn, look_at hx, look_at hx', wrap_succ hi (SL.le (E := E) (t := 124) (by assumption)), List.append_nil]
      simp only [bne_not, beq_t, beq_f, Bool.not_not, Bool.cond_not, beq_nat, Bool.and_true]
      apply Stp.conv
      · apply stp_call
        · exact f90 (by assumption) (by assumption)
        apply stp_if; intro g1
        exact stp_end
      · first | (simp only [eqRow, eqD, Bool.and_true, Bool.true_and, Bool.and_assoc]; done) | (simp only [eqRow, eqD, Bool.and_true, Bool.true_and, Bool.and_assoc]; ac_rfl) | (rw [Bool.eq_iff_iff]; simp only [eqRow, eqD, Bool.and_true, Bool.true_and, Bool.and_eq_true]; constructor <;> (intro hh; simp only [hh, and_self]))
    any_goals (intro d n; simp -implicitDefEqProofs only [cI, cB, cS, cL, oD_d, oG_g, oT_t, oP_p, dI_v, dB_v, dS_v, dL_s, cell_z, cell_s, nth_z, nth_s, aV_z, aV_s, aI_v, aB_v, aS_v, aL_f, aO_o, aX_b, tst_t, cond_true, cond_false, Ex.same, Nat.beq, List.length_cons, List.length_nil, Int.toNat_natCast, beqTT, beqTF, beqFT, beqFF]; done)
    simp -implicitDefEqProofs only [cI, cB, cS, cL, oD_d, oG_g, oT_t, oP_p, dI_v, dB_v, dS_v, dL_s, cell_z, cell_s, nth_z, nth_s, aV_z, aV_s, aI_v, aB_v, aS_v, aL_f, aO_o, aX_b, tst_t, cond_true, cond_false, Ex.same, Nat.beq, List.length_cons, List.length_nil, Int.toNat_natCast, beqTT, beqTF, beqFT, beqFF]
    first | exact stp_end | exact stp_ret
  · first | (simp only [eqRow, eqD, Bool.and_true, Bool.true_and, Bool.and_assoc]; done) | (simp only [eqRow, eqD, Bool.and_true, Bool.true_and, Bool.and_assoc]; ac_rfl) | (rw [Bool.eq_iff_iff]; simp only [eqRow, eqD, Bool.and_true, Bool.true_and, Bool.and_eq_true]; constructor <;> (intro hh; simp only [hh, and_self]))
/- loop.example/g00119/laws.eqRun -/
theorem f91 {row row' : Row} (h : ShL E (E 127) row) (h' : ShL E (E 127) row') : Ev fs 91 [.g row, .g row'] (bo (eqRow row row')) := by
  rw [E127] at h
  obtain ⟨na0, ra0, rfl, pa0, h_a0⟩ := inv_i h
  obtain ⟨na1, ra1, rfl, pa1, h_a1⟩ := inv_i h_a0
  cases inv_nil h_a1
  rw [E127] at h'
  obtain ⟨nc0, rc0, rfl, pc0, hq_c0⟩ := inv_i h'
  obtain ⟨nc1, rc1, rfl, pc1, hq_c1⟩ := inv_i hq_c0
  cases inv_nil hq_c1
  refine Ev.bo (af := a91) rfl rfl (fun d n => a91q ..) ?_
  simp only [bne_not, beq_t, beq_f, Bool.not_not, Bool.cond_not, beq_nat, Bool.and_true]
  apply Stp.conv
  · apply stp_if; intro e1
    apply stp_if; intro e2
    first | exact stp_end | exact stp_ret
  · first | (simp only [eqRow, eqD, Bool.and_true, Bool.true_and, Bool.and_assoc]; done) | (simp only [eqRow, eqD, Bool.and_true, Bool.true_and, Bool.and_assoc]; ac_rfl) | (rw [Bool.eq_iff_iff]; simp only [eqRow, eqD, Bool.and_true, Bool.true_and, Bool.and_eq_true]; constructor <;> (intro hh; simp only [hh, and_self]))
/- loop.example/g00119/laws.eqRunS -/
theorem f43 {l l' : Rows} (hl : SL E 127 l) (hl' : SL E 127 l') : Ev fs 43 [.d (.s 2 l), .d (.s 2 l')] (bo ((l.length == l'.length) && eqRows l l')) := by
  refine Ev.bo (af := a43) rfl rfl (fun d n => a43q ..) ?_
  simp only [bne_not, beq_t, beq_f, Bool.not_not, Bool.cond_not, beq_nat, Bool.and_true]
  apply Stp.conv
  · apply stp_if; intro e1
    apply stp_loop (L := fun d n => l43x0 (TabD fs d) d n [(.fz 2 l), (.fz 2 l'), (.v (.int .i64 0))]) (c := eqRows l l') (y := ((.exit 0), []))
    · refine eq_loopE (L := fun d n i => l43x0 (TabD fs d) d n [(.fz 2 l), (.fz 2 l'), (.v (.int .i64 i))]) (len_of (by assumption)) (fun d n => ?_) (fun i x x' hi hi' hx hx' => ?_)
      rw [l43x0s]
      simp -implicitDefEqProofs only [cI, cB, cS, cL, oD_d, oG_g, oT_t, oP_p, dI_v, dB_v, dS_v, dL_s, cell_z, cell_s, nth_z, nth_s, aV_z, aV_s, aI_v, aB_v, aS_v, aL_f, aO_o, aX_b, tst_t, cond_true, cond_false, Ex.same, Nat.beq, List.length_cons, List.length_nil, Int.toNat_natCast, beqTT, beqTF, beqFT, beqFF, Int.lt_irrefl, decide_false]
      have h := (SL.at (E := E) (t := 127) (by assumption) hx)
      have h' := (SL.at (E := E) (t := 127) (by assumption) hx')
      have k := h
      have k' := h'
      rw [E127] at h
      obtain ⟨nx0, rx0, rfl, px0, h_x0⟩ := inv_i h
      obtain ⟨nx1, rx1, rfl, px1, h_x1⟩ := inv_i h_x0
      cases inv_nil h_x1
      rw [E127] at h'
      obtain ⟨ny0, ry0, rfl, py0, hq_y0⟩ := inv_i h'
      obtain ⟨ny1, ry1, rfl, py1, hq_y1⟩ := inv_i hq_y0
      cases inv_nil hq_y1
      simp only [l43x0s]
      simp -implicitDefEqProofs only [cI, cB, cS, cL, oD_d, oG_g, oT_t, oP_p, dI_v, dB_v, dS_v, dL_s, cell_z, cell_s, nth_z, nth_s, aV_z, aV_s, aI_v, aB_v, aS_v, aL_f, aO_o, aX_b, tst_t, cond_true, cond_false, Ex.same, Nat.beq, List.length_cons, List.length_nil, Int.toNat_natCast, beqTT, beqTF, beqFT, beqFF, decide_eq_true (Int.ofNat_lt.2 hi), dec_nn, look_at hx, look_at hx', wrap_succ hi (SL.le (E := E) (t := 127) (by assumption)), List.append_nil]
      simp only [bne_not, beq_t, beq_f, Bool.not_not, Bool.cond_not, beq_nat, Bool.and_true]
      apply Stp.conv
      · apply stp_call
        · exact f91 (by assumption) (by assumption)
        apply stp_if; intro g1
        exact stp_end
      · first | (simp only [eqRow, eqD, Bool.and_true, Bool.true_and, Bool.and_assoc]; done) | (simp only [eqRow, eqD, Bool.and_true, Bool.true_and, Bool.and_assoc]; ac_rfl) | (rw [Bool.eq_iff_iff]; simp only [eqRow, eqD, Bool.and_true, Bool.true_and, Bool.and_eq_true]; constructor <;> (intro hh; simp only [hh, and_self]))
    any_goals (intro d n; simp -implicitDefEqProofs only [cI, cB, cS, cL, oD_d, oG_g, oT_t, oP_p, dI_v, dB_v, dS_v, dL_s, cell_z, cell_s, nth_z, nth_s, aV_z, aV_s, aI_v, aB_v, aS_v, aL_f, aO_o, aX_b, tst_t, cond_true, cond_false, Ex.same, Nat.beq, List.length_cons, List.length_nil, Int.toNat_natCast, beqTT, beqTF, beqFT, beqFF]; done)
    simp -implicitDefEqProofs only [cI, cB, cS, cL, oD_d, oG_g, oT_t, oP_p, dI_v, dB_v, dS_v, dL_s, cell_z, cell_s, nth_z, nth_s, aV_z, aV_s, aI_v, aB_v, aS_v, aL_f, aO_o, aX_b, tst_t, cond_true, cond_false, Ex.same, Nat.beq, List.length_cons, List.length_nil, Int.toNat_natCast, beqTT, beqTF, beqFT, beqFF]
    first | exact stp_end | exact stp_ret
  · first | (simp only [eqRow, eqD, Bool.and_true, Bool.true_and, Bool.and_assoc]; done) | (simp only [eqRow, eqD, Bool.and_true, Bool.true_and, Bool.and_assoc]; ac_rfl) | (rw [Bool.eq_iff_iff]; simp only [eqRow, eqD, Bool.and_true, Bool.true_and, Bool.and_eq_true]; constructor <;> (intro hh; simp only [hh, and_self]))
/- loop.example/g00119/laws.eqIsle -/
theorem f13 {row row' : Row} (h : ShL E (E 33) row) (h' : ShL E (E 33) row') : Ev fs 13 [.g row, .g row'] (bo (eqRow row row')) := by
  rw [E33] at h
  obtain ⟨sa0, ra0, rfl, pa0, h_a0⟩ := inv_s h
  obtain ⟨na1, ra1, rfl, pa1, h_a1⟩ := inv_i h_a0
  obtain ⟨na2, ra2, rfl, pa2, h_a2⟩ := inv_i h_a1
  obtain ⟨la3, ra3, rfl, pa3, h_a3⟩ := inv_sl W124 h_a2
  obtain ⟨la4, ra4, rfl, pa4, h_a4⟩ := inv_sl W127 h_a3
  cases inv_nil h_a4
  rw [E33] at h'
  obtain ⟨sc0, rc0, rfl, pc0, hq_c0⟩ := inv_s h'
  obtain ⟨nc1, rc1, rfl, pc1, hq_c1⟩ := inv_i hq_c0
  obtain ⟨nc2, rc2, rfl, pc2, hq_c2⟩ := inv_i hq_c1
  obtain ⟨lc3, rc3, rfl, pc3, hq_c3⟩ := inv_sl W124 hq_c2
  obtain ⟨lc4, rc4, rfl, pc4, hq_c4⟩ := inv_sl W127 hq_c3
  cases inv_nil hq_c4
  refine Ev.bo (af := a13) rfl rfl (fun d n => a13q ..) ?_
  simp only [bne_not, beq_t, beq_f, Bool.not_not, Bool.cond_not, beq_nat, Bool.and_true]
  apply Stp.conv
  · apply stp_if; intro e1
    apply stp_if; intro e2
    apply stp_if; intro e3
    apply stp_call
    · exact f42 (by assumption) (by assumption)
    apply stp_if; intro e4
    apply stp_call
    · exact f43 (by assumption) (by assumption)
    apply stp_if; intro e5
    first | exact stp_end | exact stp_ret
  · first | (simp only [eqRow, eqD, Bool.and_true, Bool.true_and, Bool.and_assoc]; done) | (simp only [eqRow, eqD, Bool.and_true, Bool.true_and, Bool.and_assoc]; ac_rfl) | (rw [Bool.eq_iff_iff]; simp only [eqRow, eqD, Bool.and_true, Bool.true_and, Bool.and_eq_true]; constructor <;> (intro hh; simp only [hh, and_self]))
/- loop.example/g00119/laws.eqMsg -/
theorem f14 {row row' : Row} (h : ShL E (E 38) row) (h' : ShL E (E 38) row') : Ev fs 14 [.g row, .g row'] (bo (eqRow row row')) := by
  rw [E38] at h
  obtain ⟨na0, ra0, rfl, pa0, h_a0⟩ := inv_i h
  obtain ⟨sa1, ra1, rfl, pa1, h_a1⟩ := inv_s h_a0
  obtain ⟨na2, ra2, rfl, pa2, h_a2⟩ := inv_i h_a1
  obtain ⟨la3, ra3, rfl, pa3, h_a3⟩ := inv_sl W124 h_a2
  obtain ⟨la4, ra4, rfl, pa4, h_a4⟩ := inv_sl W127 h_a3
  cases inv_nil h_a4
  rw [E38] at h'
  obtain ⟨nc0, rc0, rfl, pc0, hq_c0⟩ := inv_i h'
  obtain ⟨sc1, rc1, rfl, pc1, hq_c1⟩ := inv_s hq_c0
  obtain ⟨nc2, rc2, rfl, pc2, hq_c2⟩ := inv_i hq_c1
  obtain ⟨lc3, rc3, rfl, pc3, hq_c3⟩ := inv_sl W124 hq_c2
  obtain ⟨lc4, rc4, rfl, pc4, hq_c4⟩ := inv_sl W127 hq_c3
  cases inv_nil hq_c4
  refine Ev.bo (af := a14) rfl rfl (fun d n => a14q ..) ?_
  simp only [bne_not, beq_t, beq_f, Bool.not_not, Bool.cond_not, beq_nat, Bool.and_true]
  apply Stp.conv
  · apply stp_if; intro e1
    apply stp_if; intro e2
    apply stp_if; intro e3
    apply stp_call
    · exact f42 (by assumption) (by assumption)
    apply stp_if; intro e4
    apply stp_call
    · exact f43 (by assumption) (by assumption)
    apply stp_if; intro e5
    first | exact stp_end | exact stp_ret
  · first | (simp only [eqRow, eqD, Bool.and_true, Bool.true_and, Bool.and_assoc]; done) | (simp only [eqRow, eqD, Bool.and_true, Bool.true_and, Bool.and_assoc]; ac_rfl) | (rw [Bool.eq_iff_iff]; simp only [eqRow, eqD, Bool.and_true, Bool.true_and, Bool.and_eq_true]; constructor <;> (intro hh; simp only [hh, and_self]))
end Go.Am.As
