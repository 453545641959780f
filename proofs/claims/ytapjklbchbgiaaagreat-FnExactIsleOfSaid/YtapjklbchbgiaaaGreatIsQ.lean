/- What the functions of one family say in the end. Nothing is assumed. -/
import Derived.Test.YtapjklbchbgiaaaGreatIsH
namespace Go.Am.Is
set_option linter.unusedVariables false
set_option linter.unusedSimpArgs false
set_option maxRecDepth 8000
/- loop.example/g00119/laws.eqRun -/
theorem f207 {row row' : Row} (h : ShL E (E 238) row) (h' : ShL E (E 238) row') : Ev fs 207 [.g row, .g row'] (bo (eqRow row row')) := by
  rw [E238] at h
  obtain ⟨na0, ra0, rfl, pa0, h_a0⟩ := inv_i h
  obtain ⟨na1, ra1, rfl, pa1, h_a1⟩ := inv_i h_a0
  cases inv_nil h_a1
  rw [E238] at h'
  obtain ⟨nc0, rc0, rfl, pc0, hq_c0⟩ := inv_i h'
  obtain ⟨nc1, rc1, rfl, pc1, hq_c1⟩ := inv_i hq_c0
  cases inv_nil hq_c1
  refine Ev.bo (af := a207) rfl rfl (fun d n => a207q ..) ?_
  simp only [bne_not, beq_t, beq_f, Bool.not_not, Bool.cond_not, beq_nat, Bool.and_true]
  apply Stp.conv
  · apply stp_if; intro e1
    apply stp_if; intro e2
    first | exact stp_end | exact stp_ret
  · first | (simp only [eqRow, eqD, Bool.and_true, Bool.true_and, Bool.and_assoc]; done) | (simp only [eqRow, eqD, Bool.and_true, Bool.true_and, Bool.and_assoc]; ac_rfl) | (rw [Bool.eq_iff_iff]; simp only [eqRow, eqD, Bool.and_true, Bool.true_and, Bool.and_eq_true]; constructor <;> (intro hh; simp only [hh, and_self]))
/- loop.example/g00119/laws.eqRunS -/
theorem f98 {l l' : Rows} (hl : SL E 238 l) (hl' : SL E 238 l') : Ev fs 98 [.d (.s 2 l), .d (.s 2 l')] (bo ((l.length == l'.length) && eqRows l l')) := by
  refine Ev.bo (af := a98) rfl rfl (fun d n => a98q ..) ?_
  simp only [bne_not, beq_t, beq_f, Bool.not_not, Bool.cond_not, beq_nat, Bool.and_true]
  apply Stp.conv
  · apply stp_if; intro e1
    apply stp_loop (L := fun d n => l98x0 (TabD fs d) d n [(.fz 2 l), (.fz 2 l'), (.v (.int .i64 0))]) (c := eqRows l l') (y := ((.exit 0), []))
    · refine eq_loopE (L := fun d n i => l98x0 (TabD fs d) d n [(.fz 2 l), (.fz 2 l'), (.v (.int .i64 i))]) (len_of (by assumption)) (fun d n => ?_) (fun i x x' hi hi' hx hx' => ?_)
      rw [l98x0s]
      simp -implicitDefEqProofs only [cI, cB, cS, cL, oD_d, oG_g, oT_t, oP_p, dI_v, dB_v, dS_v, dL_s, cell_z, cell_s, nth_z, nth_s, aV_z, aV_s, aI_v, aB_v, aS_v, aL_f, aO_o, aX_b, tst_t, cond_true, cond_false, Ex.same, Nat.beq, List.length_cons, List.length_nil, Int.toNat_natCast, beqTT, beqTF, beqFT, beqFF, Int.lt_irrefl, decide_false]
      have h := (SL.at (E := E) (t := 238) (by assumption) hx)
      have h' := (SL.at (E := E) (t := 238) (by assumption) hx')
      have k := h
      have k' := h'
      rw [E238] at h
      obtain ⟨nx0, rx0, rfl, px0, h_x0⟩ := inv_i h
      obtain ⟨nx1, rx1, rfl, px1, h_x1⟩ := inv_i h_x0
      cases inv_nil h_x1
      rw [E238] at h'
      obtain ⟨ny0, ry0, rfl, py0, hq_y0⟩ := inv_i h'
      obtain ⟨ny1, ry1, rfl, py1, hq_y1⟩ := inv_i hq_y0
      cases inv_nil hq_y1
      simp only [l98x0s]
      simp -implicitDefEqProofs only [cI, cB, cS, cL, oD_d, oG_g, oT_t, oP_p, dI_v, dB_v, dS_v, dL_s, cell_z, cell_s, nth_z, nth_s, aV_z, aV_s, aI_v, aB_v, aS_v, aL_f, aO_o, aX_b, tst_t, cond_true, cond_false, Ex.same, Nat.beq, List.length_cons, List.length_nil, Int.toNat_natCast, beqTT, beqTF, beqFT, beqFF, decide_eq_true (Int.ofNat_lt.2 hi), dec_nn, look_at hx, look_at hx', wrap_succ hi (SL.le (E := E) (t := 238) (by assumption)), List.append_nil]
      simp only [bne_not, beq_t, beq_f, Bool.not_not, Bool.cond_not, beq_nat, Bool.and_true]
      apply Stp.conv
      · apply stp_call
        · exact f207 (by assumption) (by assumption)
        apply stp_if; intro g1
        exact stp_end
      · first | (simp only [eqRow, eqD, Bool.and_true, Bool.true_and, Bool.and_assoc]; done) | (simp only [eqRow, eqD, Bool.and_true, Bool.true_and, Bool.and_assoc]; ac_rfl) | (rw [Bool.eq_iff_iff]; simp only [eqRow, eqD, Bool.and_true, Bool.true_and, Bool.and_eq_true]; constructor <;> (intro hh; simp only [hh, and_self]))
    any_goals (intro d n; simp -implicitDefEqProofs only [cI, cB, cS, cL, oD_d, oG_g, oT_t, oP_p, dI_v, dB_v, dS_v, dL_s, cell_z, cell_s, nth_z, nth_s, aV_z, aV_s, aI_v, aB_v, aS_v, aL_f, aO_o, aX_b, tst_t, cond_true, cond_false, Ex.same, Nat.beq, List.length_cons, List.length_nil, Int.toNat_natCast, beqTT, beqTF, beqFT, beqFF]; done)
    simp -implicitDefEqProofs only [cI, cB, cS, cL, oD_d, oG_g, oT_t, oP_p, dI_v, dB_v, dS_v, dL_s, cell_z, cell_s, nth_z, nth_s, aV_z, aV_s, aI_v, aB_v, aS_v, aL_f, aO_o, aX_b, tst_t, cond_true, cond_false, Ex.same, Nat.beq, List.length_cons, List.length_nil, Int.toNat_natCast, beqTT, beqTF, beqFT, beqFF]
    first | exact stp_end | exact stp_ret
  · first | (simp only [eqRow, eqD, Bool.and_true, Bool.true_and, Bool.and_assoc]; done) | (simp only [eqRow, eqD, Bool.and_true, Bool.true_and, Bool.and_assoc]; ac_rfl) | (rw [Bool.eq_iff_iff]; simp only [eqRow, eqD, Bool.and_true, Bool.true_and, Bool.and_eq_true]; constructor <;> (intro hh; simp only [hh, and_self]))
/- loop.example/g00119/laws.eqStringS -/
theorem f62 {l l' : Rows} (hl : SL E 9 l) (hl' : SL E 9 l') : Ev fs 62 [.d (.s 1 l), .d (.s 1 l')] (bo ((l.length == l'.length) && eqRows l l')) := by
  refine Ev.bo (af := a62) rfl rfl (fun d n => a62q ..) ?_
  simp only [bne_not, beq_t, beq_f, Bool.not_not, Bool.cond_not, beq_nat, Bool.and_true]
  apply Stp.conv
  · apply stp_if; intro e1
    apply stp_loop (L := fun d n => l62x0 (TabD fs d) d n [(.fz 1 l), (.fz 1 l'), (.v (.int .i64 0))]) (c := eqRows l l') (y := ((.exit 0), []))
    · refine eq_loopE (L := fun d n i => l62x0 (TabD fs d) d n [(.fz 1 l), (.fz 1 l'), (.v (.int .i64 i))]) (len_of (by assumption)) (fun d n => ?_) (fun i x x' hi hi' hx hx' => ?_)
      rw [l62x0s]
      simp -implicitDefEqProofs only [cI, cB, cS, cL, oD_d, oG_g, oT_t, oP_p, dI_v, dB_v, dS_v, dL_s, cell_z, cell_s, nth_z, nth_s, aV_z, aV_s, aI_v, aB_v, aS_v, aL_f, aO_o, aX_b, tst_t, cond_true, cond_false, Ex.same, Nat.beq, List.length_cons, List.length_nil, Int.toNat_natCast, beqTT, beqTF, beqFT, beqFF, Int.lt_irrefl, decide_false]
      have h := (SL.at (E := E) (t := 9) (by assumption) hx)
      have h' := (SL.at (E := E) (t := 9) (by assumption) hx')
      have k := h
      have k' := h'
      rw [E9] at h
      obtain ⟨sx0, rx0, rfl, px0, h_x0⟩ := inv_s h
      cases inv_nil h_x0
      rw [E9] at h'
      obtain ⟨sy0, ry0, rfl, py0, hq_y0⟩ := inv_s h'
      cases inv_nil hq_y0
      simp only [l62x0s]
      simp -implicitDefEqProofs only [cI, cB, cS, cL, oD_d, oG_g, oT_t, oP_p, dI_v, dB_v, dS_v, dL_s, cell_z, cell_s, nth_z, nth_s, aV_z, aV_s, aI_v, aB_v, aS_v, aL_f, aO_o, aX_b, tst_t, cond_true, cond_false, Ex.same, Nat.beq, List.length_cons, List.length_nil, Int.toNat_natCast, beqTT, beqTF, beqFT, beqFF, decide_eq_true (Int.ofNat_lt.2 hi), dec_nn, look_at hx, look_at hx', wrap_succ hi (SL.le (E := E) (t := 9) (by assumption)), List.append_nil]
      simp only [bne_not, beq_t, beq_f, Bool.not_not, Bool.cond_not, beq_nat, Bool.and_true]
      apply Stp.conv
      · apply stp_if; intro g1
        exact stp_end
      · first | (simp only [eqRow, eqD, Bool.and_true, Bool.true_and, Bool.and_assoc]; done) | (simp only [eqRow, eqD, Bool.and_true, Bool.true_and, Bool.and_assoc]; ac_rfl) | (rw [Bool.eq_iff_iff]; simp only [eqRow, eqD, Bool.and_true, Bool.true_and, Bool.and_eq_true]; constructor <;> (intro hh; simp only [hh, and_self]))
    any_goals (intro d n; simp -implicitDefEqProofs only [cI, cB, cS, cL, oD_d, oG_g, oT_t, oP_p, dI_v, dB_v, dS_v, dL_s, cell_z, cell_s, nth_z, nth_s, aV_z, aV_s, aI_v, aB_v, aS_v, aL_f, aO_o, aX_b, tst_t, cond_true, cond_false, Ex.same, Nat.beq, List.length_cons, List.length_nil, Int.toNat_natCast, beqTT, beqTF, beqFT, beqFF]; done)
    simp -implicitDefEqProofs only [cI, cB, cS, cL, oD_d, oG_g, oT_t, oP_p, dI_v, dB_v, dS_v, dL_s, cell_z, cell_s, nth_z, nth_s, aV_z, aV_s, aI_v, aB_v, aS_v, aL_f, aO_o, aX_b, tst_t, cond_true, cond_false, Ex.same, Nat.beq, List.length_cons, List.length_nil, Int.toNat_natCast, beqTT, beqTF, beqFT, beqFF]
    first | exact stp_end | exact stp_ret
  · first | (simp only [eqRow, eqD, Bool.and_true, Bool.true_and, Bool.and_assoc]; done) | (simp only [eqRow, eqD, Bool.and_true, Bool.true_and, Bool.and_assoc]; ac_rfl) | (rw [Bool.eq_iff_iff]; simp only [eqRow, eqD, Bool.and_true, Bool.true_and, Bool.and_eq_true]; constructor <;> (intro hh; simp only [hh, and_self]))
/- loop.example/g00119/laws.eqValueS -/
mutual
theorem fr95 {row row' : Row} (h : ShL E (E 64) row) (h' : ShL E (E 64) row') (W : Nat) (hW : 2 * wtRow row + 1 = W) : Ev fs 95 [.g row, .g row'] (bo (eqRow row row')) := by
  rw [E64] at h
  obtain ⟨na0, ra0, rfl, pa0, h_a0⟩ := inv_i h
  obtain ⟨sa1, ra1, rfl, pa1, h_a1⟩ := inv_s h_a0
  obtain ⟨na2, ra2, rfl, pa2, h_a2⟩ := inv_i h_a1
  obtain ⟨la3, ra3, rfl, pa3, h_a3⟩ := inv_sl W9 h_a2
  obtain ⟨la4, ra4, rfl, pa4, h_a4⟩ := inv_sl W64 h_a3
  cases inv_nil h_a4
  rw [E64] at h'
  obtain ⟨nc0, rc0, rfl, pc0, hq_c0⟩ := inv_i h'
  obtain ⟨sc1, rc1, rfl, pc1, hq_c1⟩ := inv_s hq_c0
  obtain ⟨nc2, rc2, rfl, pc2, hq_c2⟩ := inv_i hq_c1
  obtain ⟨lc3, rc3, rfl, pc3, hq_c3⟩ := inv_sl W9 hq_c2
  obtain ⟨lc4, rc4, rfl, pc4, hq_c4⟩ := inv_sl W64 hq_c3
  cases inv_nil hq_c4
  refine Ev.bo (af := a95) rfl rfl (fun d n => a95q ..) ?_
  simp only [bne_not, beq_t, beq_f, Bool.not_not, Bool.cond_not, beq_nat, Bool.and_true]
  apply Stp.conv
  · apply stp_if; intro e1
    apply stp_if; intro e2
    apply stp_if; intro e3
    apply stp_call
    · exact f62 (by assumption) (by assumption)
    apply stp_if; intro e4
    apply stp_call
    · exact fr204 (by assumption) (by assumption) _ rfl
    apply stp_if; intro e5
    first | exact stp_end | exact stp_ret
  · first | (simp only [eqRow, eqD, Bool.and_true, Bool.true_and, Bool.and_assoc]; done) | (simp only [eqRow, eqD, Bool.and_true, Bool.true_and, Bool.and_assoc]; ac_rfl) | (rw [Bool.eq_iff_iff]; simp only [eqRow, eqD, Bool.and_true, Bool.true_and, Bool.and_eq_true]; constructor <;> (intro hh; simp only [hh, and_self]))
termination_by W
decreasing_by all_goals (try have := wt_at hx); (try simp only [wtRow, wtD] at *); omega
theorem fr204 {l l' : Rows} (hl : SL E 64 l) (hl' : SL E 64 l') (W : Nat) (hW : 2 * (l.length + wtRows l) = W) : Ev fs 204 [.d (.s 5 l), .d (.s 5 l')] (bo ((l.length == l'.length) && eqRows l l')) := by
  refine Ev.bo (af := a204) rfl rfl (fun d n => a204q ..) ?_
  simp only [bne_not, beq_t, beq_f, Bool.not_not, Bool.cond_not, beq_nat, Bool.and_true]
  apply Stp.conv
  · apply stp_if; intro e1
    apply stp_loop (L := fun d n => l204x0 (TabD fs d) d n [(.fz 5 l), (.fz 5 l'), (.v (.int .i64 0))]) (c := eqRows l l') (y := ((.exit 0), []))
    · refine eq_loopE (L := fun d n i => l204x0 (TabD fs d) d n [(.fz 5 l), (.fz 5 l'), (.v (.int .i64 i))]) (len_of (by assumption)) (fun d n => ?_) (fun i x x' hi hi' hx hx' => ?_)
      rw [l204x0s]
      simp -implicitDefEqProofs only [cI, cB, cS, cL, oD_d, oG_g, oT_t, oP_p, dI_v, dB_v, dS_v, dL_s, cell_z, cell_s, nth_z, nth_s, aV_z, aV_s, aI_v, aB_v, aS_v, aL_f, aO_o, aX_b, tst_t, cond_true, cond_false, Ex.same, Nat.beq, List.length_cons, List.length_nil, Int.toNat_natCast, beqTT, beqTF, beqFT, beqFF, Int.lt_irrefl, decide_false]
      have h := (SL.at (E := E) (t := 64) (by assumption) hx)
      have h' := (SL.at (E := E) (t := 64) (by assumption) hx')
      have k := h
      have k' := h'
      rw [E64] at h
      obtain ⟨nx0, rx0, rfl, px0, h_x0⟩ := inv_i h
      obtain ⟨sx1, rx1, rfl, px1, h_x1⟩ := inv_s h_x0
      obtain ⟨nx2, rx2, rfl, px2, h_x2⟩ := inv_i h_x1
      obtain ⟨lx3, rx3, rfl, px3, h_x3⟩ := inv_sl W9 h_x2
      obtain ⟨lx4, rx4, rfl, px4, h_x4⟩ := inv_sl W64 h_x3
      cases inv_nil h_x4
      rw [E64] at h'
      obtain ⟨ny0, ry0, rfl, py0, hq_y0⟩ := inv_i h'
      obtain ⟨sy1, ry1, rfl, py1, hq_y1⟩ := inv_s hq_y0
      obtain ⟨ny2, ry2, rfl, py2, hq_y2⟩ := inv_i hq_y1
      obtain ⟨ly3, ry3, rfl, py3, hq_y3⟩ := inv_sl W9 hq_y2
      obtain ⟨ly4, ry4, rfl, py4, hq_y4⟩ := inv_sl W64 hq_y3
      cases inv_nil hq_y4
      simp only [l204x0s]
      simp -implicitDefEqProofs only [cI, cB, cS, cL, oD_d, oG_g, oT_t, oP_p, dI_v, dB_v, dS_v, dL_s, cell_z, cell_s, nth_z, nth_s, aV_z, aV_s, aI_v, aB_v, aS_v, aL_f, aO_o, aX_b, tst_t, cond_true, cond_false, Ex.same, Nat.beq, List.length_cons, List.length_nil, Int.toNat_natCast, beqTT, beqTF, beqFT, beqFF, decide_eq_true (Int.ofNat_lt.2 hi), dec_nn, look_at hx, look_at hx', wrap_succ hi (SL.le (E := E) (t := 64) (by assumption)), List.append_nil]
      simp only [bne_not, beq_t, beq_f, Bool.not_not, Bool.cond_not, beq_nat, Bool.and_true]
      apply Stp.conv
      · apply stp_call
        · exact fr95 (by assumption) (by assumption) _ rfl
        apply stp_if; intro g1
        exact stp_end
      · first | (simp only [eqRow, eqD, Bool.and_true, Bool.true_and, Bool.and_assoc]; done) | (simp only [eqRow, eqD, Bool.and_true, Bool.true_and, Bool.and_assoc]; ac_rfl) | (rw [Bool.eq_iff_iff]; simp only [eqRow, eqD, Bool.and_true, Bool.true_and, Bool.and_eq_true]; constructor <;> (intro hh; simp only [hh, and_self]))
    any_goals (intro d n; simp -implicitDefEqProofs only [cI, cB, cS, cL, oD_d, oG_g, oT_t, oP_p, dI_v, dB_v, dS_v, dL_s, cell_z, cell_s, nth_z, nth_s, aV_z, aV_s, aI_v, aB_v, aS_v, aL_f, aO_o, aX_b, tst_t, cond_true, cond_false, Ex.same, Nat.beq, List.length_cons, List.length_nil, Int.toNat_natCast, beqTT, beqTF, beqFT, beqFF]; done)
    simp -implicitDefEqProofs only [cI, cB, cS, cL, oD_d, oG_g, oT_t, oP_p, dI_v, dB_v, dS_v, dL_s, cell_z, cell_s, nth_z, nth_s, aV_z, aV_s, aI_v, aB_v, aS_v, aL_f, aO_o, aX_b, tst_t, cond_true, cond_false, Ex.same, Nat.beq, List.length_cons, List.length_nil, Int.toNat_natCast, beqTT, beqTF, beqFT, beqFF]
    first | exact stp_end | exact stp_ret
  · first | (simp only [eqRow, eqD, Bool.and_true, Bool.true_and, Bool.and_assoc]; done) | (simp only [eqRow, eqD, Bool.and_true, Bool.true_and, Bool.and_assoc]; ac_rfl) | (rw [Bool.eq_iff_iff]; simp only [eqRow, eqD, Bool.and_true, Bool.true_and, Bool.and_eq_true]; constructor <;> (intro hh; simp only [hh, and_self]))
termination_by W
decreasing_by all_goals (try have := wt_at hx); (try simp only [wtRow, wtD] at *); omega
end
theorem f95 {row row' : Row} (h : ShL E (E 64) row) (h' : ShL E (E 64) row') : Ev fs 95 [.g row, .g row'] (bo (eqRow row row')) := fr95 h h' _ rfl
theorem f204 {l l' : Rows} (hl : SL E 64 l) (hl' : SL E 64 l') : Ev fs 204 [.d (.s 5 l), .d (.s 5 l')] (bo ((l.length == l'.length) && eqRows l l')) := fr204 hl hl' _ rfl
/- loop.example/g00119/laws.eqWork -/
theorem f215 {row row' : Row} (h : ShL E (E 270) row) (h' : ShL E (E 270) row') : Ev fs 215 [.g row, .g row'] (bo (eqRow row row')) := by
  rw [E270] at h
  obtain ⟨na0, ra0, rfl, pa0, h_a0⟩ := inv_i h
  obtain ⟨na1, ra1, rfl, pa1, h_a1⟩ := inv_i h_a0
  obtain ⟨na2, ra2, rfl, pa2, h_a2⟩ := inv_i h_a1
  obtain ⟨sa3, ra3, rfl, pa3, h_a3⟩ := inv_s h_a2
  obtain ⟨na4, ra4, rfl, pa4, h_a4⟩ := inv_i h_a3
  obtain ⟨la5, ra5, rfl, pa5, h_a5⟩ := inv_sl W9 h_a4
  obtain ⟨la6, ra6, rfl, pa6, h_a6⟩ := inv_sl W64 h_a5
  cases inv_nil h_a6
  rw [E270] at h'
  obtain ⟨nc0, rc0, rfl, pc0, hq_c0⟩ := inv_i h'
  obtain ⟨nc1, rc1, rfl, pc1, hq_c1⟩ := inv_i hq_c0
  obtain ⟨nc2, rc2, rfl, pc2, hq_c2⟩ := inv_i hq_c1
  obtain ⟨sc3, rc3, rfl, pc3, hq_c3⟩ := inv_s hq_c2
  obtain ⟨nc4, rc4, rfl, pc4, hq_c4⟩ := inv_i hq_c3
  obtain ⟨lc5, rc5, rfl, pc5, hq_c5⟩ := inv_sl W9 hq_c4
  obtain ⟨lc6, rc6, rfl, pc6, hq_c6⟩ := inv_sl W64 hq_c5
  cases inv_nil hq_c6
  refine Ev.bo (af := a215) rfl rfl (fun d n => a215q ..) ?_
  simp only [bne_not, beq_t, beq_f, Bool.not_not, Bool.cond_not, beq_nat, Bool.and_true]
  apply Stp.conv
  · apply stp_if; intro e1
    apply stp_if; intro e2
    apply stp_call
    · exact f95 (by rw [E64]; exact mk_i (by assumption) (mk_s (by assumption) (mk_i (by assumption) (mk_sl W9 (by assumption) (mk_sl W64 (by assumption) (ShL.nil)))))) (by rw [E64]; exact mk_i (by assumption) (mk_s (by assumption) (mk_i (by assumption) (mk_sl W9 (by assumption) (mk_sl W64 (by assumption) (ShL.nil))))))
    apply stp_if; intro e3
    first | exact stp_end | exact stp_ret
  · first | (simp only [eqRow, eqD, Bool.and_true, Bool.true_and, Bool.and_assoc]; done) | (simp only [eqRow, eqD, Bool.and_true, Bool.true_and, Bool.and_assoc]; ac_rfl) | (rw [Bool.eq_iff_iff]; simp only [eqRow, eqD, Bool.and_true, Bool.true_and, Bool.and_eq_true]; constructor <;> (intro hh; simp only [hh, and_self]))
/- loop.example/g00119/laws.eqWorkS -/
theorem f108 {l l' : Rows} (hl : SL E 270 l) (hl' : SL E 270 l') : Ev fs 108 [.d (.s 7 l), .d (.s 7 l')] (bo ((l.length == l'.length) && eqRows l l')) := by
  refine Ev.bo (af := a108) rfl rfl (fun d n => a108q ..) ?_
  simp only [bne_not, beq_t, beq_f, Bool.not_not, Bool.cond_not, beq_nat, Bool.and_true]
  apply Stp.conv
  · apply stp_if; intro e1
    apply stp_loop (L := fun d n => l108x0 (TabD fs d) d n [(.fz 7 l), (.fz 7 l'), (.v (.int .i64 0))]) (c := eqRows l l') (y := ((.exit 0), []))
    · refine eq_loopE (L := fun d n i => l108x0 (TabD fs d) d n [(.fz 7 l), (.fz 7 l'), (.v (.int .i64 i))]) (len_of (by assumption)) (fun d n => ?_) (fun i x x' hi hi' hx hx' => ?_)
      rw [l108x0s]
      simp -implicitDefEqProofs only [cI, cB, cS, cL, oD_d, oG_g, oT_t, oP_p, dI_v, dB_v, dS_v, dL_s, cell_z, cell_s, nth_z, nth_s, aV_z, aV_s, aI_v, aB_v, aS_v, aL_f, aO_o, aX_b, tst_t, cond_true, cond_false, Ex.same, Nat.beq, List.length_cons, List.length_nil, Int.toNat_natCast, beqTT, beqTF, beqFT, beqFF, Int.lt_irrefl, decide_false]
      have h := (SL.at (E := E) (t := 270) (by assumption) hx)
      have h' := (SL.at (E := E) (t := 270) (by assumption) hx')
      have k := h
      have k' := h'
      rw [E270] at h
      obtain ⟨nx0, rx0, rfl, px0, h_x0⟩ := inv_i h
      obtain ⟨nx1, rx1, rfl, px1, h_x1⟩ := inv_i h_x0
      obtain ⟨nx2, rx2, rfl, px2, h_x2⟩ := inv_i h_x1
      obtain ⟨sx3, rx3, rfl, px3, h_x3⟩ := inv_s h_x2
      obtain ⟨nx4, rx4, rfl, px4, h_x4⟩ := inv_i h_x3
      obtain ⟨lx5, rx5, rfl, px5, h_x5⟩ := inv_sl W9 h_x4
      obtain ⟨lx6, rx6, rfl, px6, h_x6⟩ := inv_sl W64 h_x5
      cases inv_nil h_x6
      rw [E270] at h'
      obtain ⟨ny0, ry0, rfl, py0, hq_y0⟩ := inv_i h'
      obtain ⟨ny1, ry1, rfl, py1, hq_y1⟩ := inv_i hq_y0
      obtain ⟨ny2, ry2, rfl, py2, hq_y2⟩ := inv_i hq_y1
      obtain ⟨sy3, ry3, rfl, py3, hq_y3⟩ := inv_s hq_y2
      obtain ⟨ny4, ry4, rfl, py4, hq_y4⟩ := inv_i hq_y3
      obtain ⟨ly5, ry5, rfl, py5, hq_y5⟩ := inv_sl W9 hq_y4
      obtain ⟨ly6, ry6, rfl, py6, hq_y6⟩ := inv_sl W64 hq_y5
      cases inv_nil hq_y6
      simp only [l108x0s]
      simp -implicitDefEqProofs only [cI, cB, cS, cL, oD_d, oG_g, oT_t, oP_p, dI_v, dB_v, dS_v, dL_s, cell_z, cell_s, nth_z, nth_s, aV_z, aV_s, aI_v, aB_v, aS_v, aL_f, aO_o, aX_b, tst_t, cond_true, cond_false, Ex.same, Nat.beq, List.length_cons, List.length_nil, Int.toNat_natCast, beqTT, beqTF, beqFT, beqFF, decide_eq_true (Int.ofNat_lt.2 hi), dec_nn, look_at hx, look_at hx', wrap_succ hi (SL.le (E := E) (t := 270) (by assumption)), List.append_nil]
      simp only [bne_not, beq_t, beq_f, Bool.not_not, Bool.cond_not, beq_nat, Bool.and_true]
      apply Stp.conv
      · apply stp_call
        · exact f215 (by assumption) (by assumption)
        apply stp_if; intro g1
        exact stp_end
      · first | (simp only [eqRow, eqD, Bool.and_true, Bool.true_and, Bool.and_assoc]; done) | (simp only [eqRow, eqD, Bool.and_true, Bool.true_and, Bool.and_assoc]; ac_rfl) | (rw [Bool.eq_iff_iff]; simp only [eqRow, eqD, Bool.and_true, Bool.true_and, Bool.and_eq_true]; constructor <;> (intro hh; simp only [hh, and_self]))
    any_goals (intro d n; simp -implicitDefEqProofs only [cI, cB, cS, cL, oD_d, oG_g, oT_t, oP_p, dI_v, dB_v, dS_v, dL_s, cell_z, cell_s, nth_z, nth_s, aV_z, aV_s, aI_v, aB_v, aS_v, aL_f, aO_o, aX_b, tst_t, cond_true, cond_false, Ex.same, Nat.beq, List.length_cons, List.length_nil, Int.toNat_natCast, beqTT, beqTF, beqFT, beqFF]; done)
    simp -implicitDefEqProofs only [cI, cB, cS, cL, oD_d, oG_g, oT_t, oP_p, dI_v, dB_v, dS_v, dL_s, cell_z, cell_s, nth_z, nth_s, aV_z, aV_s, aI_v, aB_v, aS_v, aL_f, aO_o, aX_b, tst_t, cond_true, cond_false, Ex.same, Nat.beq, List.length_cons, List.length_nil, Int.toNat_natCast, beqTT, beqTF, beqFT, beqFF]
    first | exact stp_end | exact stp_ret
  · first | (simp only [eqRow, eqD, Bool.and_true, Bool.true_and, Bool.and_assoc]; done) | (simp only [eqRow, eqD, Bool.and_true, Bool.true_and, Bool.and_assoc]; ac_rfl) | (rw [Bool.eq_iff_iff]; simp only [eqRow, eqD, Bool.and_true, Bool.true_and, Bool.and_eq_true]; constructor <;> (intro hh; simp only [hh, and_self]))
/- loop.example/g00119/laws.eqIsle -/
theorem f27 {row row' : Row} (h : ShL E (E 83) row) (h' : ShL E (E 83) row') : Ev fs 27 [.g row, .g row'] (bo (eqRow row row')) := by
  rw [E83] at h
  obtain ⟨sa0, ra0, rfl, pa0, h_a0⟩ := inv_s h
  obtain ⟨na1, ra1, rfl, pa1, h_a1⟩ := inv_i h_a0
  obtain ⟨na2, ra2, rfl, pa2, h_a2⟩ := inv_i h_a1
  obtain ⟨la3, ra3, rfl, pa3, h_a3⟩ := inv_sl W270 h_a2
  obtain ⟨la4, ra4, rfl, pa4, h_a4⟩ := inv_sl W238 h_a3
  cases inv_nil h_a4
  rw [E83] at h'
  obtain ⟨sc0, rc0, rfl, pc0, hq_c0⟩ := inv_s h'
  obtain ⟨nc1, rc1, rfl, pc1, hq_c1⟩ := inv_i hq_c0
  obtain ⟨nc2, rc2, rfl, pc2, hq_c2⟩ := inv_i hq_c1
  obtain ⟨lc3, rc3, rfl, pc3, hq_c3⟩ := inv_sl W270 hq_c2
  obtain ⟨lc4, rc4, rfl, pc4, hq_c4⟩ := inv_sl W238 hq_c3
  cases inv_nil hq_c4
  refine Ev.bo (af := a27) rfl rfl (fun d n => a27q ..) ?_
  simp only [bne_not, beq_t, beq_f, Bool.not_not, Bool.cond_not, beq_nat, Bool.and_true]
  apply Stp.conv
  · apply stp_if; intro e1
    apply stp_if; intro e2
    apply stp_if; intro e3
    apply stp_call
    · exact f108 (by assumption) (by assumption)
    apply stp_if; intro e4
    apply stp_call
    · exact f98 (by assumption) (by assumption)
    apply stp_if; intro e5
    first | exact stp_end | exact stp_ret
  · first | (simp only [eqRow, eqD, Bool.and_true, Bool.true_and, Bool.and_assoc]; done) | (simp only [eqRow, eqD, Bool.and_true, Bool.true_and, Bool.and_assoc]; ac_rfl) | (rw [Bool.eq_iff_iff]; simp only [eqRow, eqD, Bool.and_true, Bool.true_and, Bool.and_eq_true]; constructor <;> (intro hh; simp only [hh, and_self]))
/- loop.example/g00119/laws.eqTerm -/
theorem f295 {row row' : Row} (h : ShL E (E 315) row) (h' : ShL E (E 315) row') : Ev fs 295 [.g row, .g row'] (bo (eqRow row row')) := by
  rw [E315] at h
  obtain ⟨na0, ra0, rfl, pa0, h_a0⟩ := inv_i h
  obtain ⟨sa1, ra1, rfl, pa1, h_a1⟩ := inv_s h_a0
  obtain ⟨la2, ra2, rfl, pa2, h_a2⟩ := inv_sl W9 h_a1
  cases inv_nil h_a2
  rw [E315] at h'
  obtain ⟨nc0, rc0, rfl, pc0, hq_c0⟩ := inv_i h'
  obtain ⟨sc1, rc1, rfl, pc1, hq_c1⟩ := inv_s hq_c0
  obtain ⟨lc2, rc2, rfl, pc2, hq_c2⟩ := inv_sl W9 hq_c1
  cases inv_nil hq_c2
  refine Ev.bo (af := a295) rfl rfl (fun d n => a295q ..) ?_
  simp only [bne_not, beq_t, beq_f, Bool.not_not, Bool.cond_not, beq_nat, Bool.and_true]
  apply Stp.conv
  · apply stp_if; intro e1
    apply stp_if; intro e2
    apply stp_call
    · exact f62 (by assumption) (by assumption)
    apply stp_if; intro e3
    first | exact stp_end | exact stp_ret
  · first | (simp only [eqRow, eqD, Bool.and_true, Bool.true_and, Bool.and_assoc]; done) | (simp only [eqRow, eqD, Bool.and_true, Bool.true_and, Bool.and_assoc]; ac_rfl) | (rw [Bool.eq_iff_iff]; simp only [eqRow, eqD, Bool.and_true, Bool.true_and, Bool.and_eq_true]; constructor <;> (intro hh; simp only [hh, and_self]))
/- loop.example/g00119/laws.eqTermS -/
theorem f202 {l l' : Rows} (hl : SL E 315 l) (hl' : SL E 315 l') : Ev fs 202 [.d (.s 3 l), .d (.s 3 l')] (bo ((l.length == l'.length) && eqRows l l')) := by
  refine Ev.bo (af := a202) rfl rfl (fun d n => a202q ..) ?_
  simp only [bne_not, beq_t, beq_f, Bool.not_not, Bool.cond_not, beq_nat, Bool.and_true]
  apply Stp.conv
  · apply stp_if; intro e1
    apply stp_loop (L := fun d n => l202x0 (TabD fs d) d n [(.fz 3 l), (.fz 3 l'), (.v (.int .i64 0))]) (c := eqRows l l') (y := ((.exit 0), []))
    · refine eq_loopE (L := fun d n i => l202x0 (TabD fs d) d n [(.fz 3 l), (.fz 3 l'), (.v (.int .i64 i))]) (len_of (by assumption)) (fun d n => ?_) (fun i x x' hi hi' hx hx' => ?_)
      rw [l202x0s]
      simp -implicitDefEqProofs only [cI, cB, cS, cL, oD_d, oG_g, oT_t, oP_p, dI_v, dB_v, dS_v, dL_s, cell_z, cell_s, nth_z, nth_s, aV_z, aV_s, aI_v, aB_v, aS_v, aL_f, aO_o, aX_b, tst_t, cond_true, cond_false, Ex.same, Nat.beq, List.length_cons, List.length_nil, Int.toNat_natCast, beqTT, beqTF, beqFT, beqFF, Int.lt_irrefl, decide_false]
      have h := (SL.at (E := E) (t := 315) (by assumption) hx)
      have h' := (SL.at (E := E) (t := 315) (by assumption) hx')
      have k := h
      have k' := h'
      rw [E315] at h
      obtain ⟨nx0, rx0, rfl, px0, h_x0⟩ := inv_i h
      obtain ⟨sx1, rx1, rfl, px1, h_x1⟩ := inv_s h_x0
      obtain ⟨lx2, rx2, rfl, px2, h_x2⟩ := inv_sl W9 h_x1
      cases inv_nil h_x2
      rw [E315] at h'
      obtain ⟨ny0, ry0, rfl, py0, hq_y0⟩ := inv_i h'
      obtain ⟨sy1, ry1, rfl, py1, hq_y1⟩ := inv_s hq_y0
      obtain ⟨ly2, ry2, rfl, py2, hq_y2⟩ := inv_sl W9 hq_y1
      cases inv_nil hq_y2
      simp only [l202x0s]
      simp -implicitDefEqProofs only [cI, cB, cS, cL, oD_d, oG_g, oT_t, oP_p, dI_v, dB_v, dS_v, dL_s, cell_z, cell_s, nth_z, nth_s, aV_z, aV_s, aI_v, aB_v, aS_v, aL_f, aO_o, aX_b, tst_t, cond_true, cond_false, Ex.same, Nat.beq, List.length_cons, List.length_nil, Int.toNat_natCast, beqTT, beqTF, beqFT, beqFF, decide_eq_true (Int.ofNat_lt.2 hi), dec_nn, look_at hx, look_at hx', wrap_succ hi (SL.le (E := E) (t := 315) (by assumption)), List.append_nil]
      simp only [bne_not, beq_t, beq_f, Bool.not_not, Bool.cond_not, beq_nat, Bool.and_true]
      apply Stp.conv
      · apply stp_call
        · exact f295 (by assumption) (by assumption)
        apply stp_if; intro g1
        exact stp_end
      · first | (simp only [eqRow, eqD, Bool.and_true, Bool.true_and, Bool.and_assoc]; done) | (simp only [eqRow, eqD, Bool.and_true, Bool.true_and, Bool.and_assoc]; ac_rfl) | (rw [Bool.eq_iff_iff]; simp only [eqRow, eqD, Bool.and_true, Bool.true_and, Bool.and_eq_true]; constructor <;> (intro hh; simp only [hh, and_self]))
    any_goals (intro d n; simp -implicitDefEqProofs only [cI, cB, cS, cL, oD_d, oG_g, oT_t, oP_p, dI_v, dB_v, dS_v, dL_s, cell_z, cell_s, nth_z, nth_s, aV_z, aV_s, aI_v, aB_v, aS_v, aL_f, aO_o, aX_b, tst_t, cond_true, cond_false, Ex.same, Nat.beq, List.length_cons, List.length_nil, Int.toNat_natCast, beqTT, beqTF, beqFT, beqFF]; done)
    simp -implicitDefEqProofs only [cI, cB, cS, cL, oD_d, oG_g, oT_t, oP_p, dI_v, dB_v, dS_v, dL_s, cell_z, cell_s, nth_z, nth_s, aV_z, aV_s, aI_v, aB_v, aS_v, aL_f, aO_o, aX_b, tst_t, cond_true, cond_false, Ex.same, Nat.beq, List.length_cons, List.length_nil, Int.toNat_natCast, beqTT, beqTF, beqFT, beqFF]
    first | exact stp_end | exact stp_ret
  · first | (simp only [eqRow, eqD, Bool.and_true, Bool.true_and, Bool.and_assoc]; done) | (simp only [eqRow, eqD, Bool.and_true, Bool.true_and, Bool.and_assoc]; ac_rfl) | (rw [Bool.eq_iff_iff]; simp only [eqRow, eqD, Bool.and_true, Bool.true_and, Bool.and_eq_true]; constructor <;> (intro hh; simp only [hh, and_self]))
/- loop.example/g00119/laws.eqWeigh -/
theorem f296 {row row' : Row} (h : ShL E (E 228) row) (h' : ShL E (E 228) row') : Ev fs 296 [.g row, .g row'] (bo (eqRow row row')) := by
  rw [E228] at h
  obtain ⟨sa0, ra0, rfl, pa0, h_a0⟩ := inv_s h
  obtain ⟨na1, ra1, rfl, pa1, h_a1⟩ := inv_i h_a0
  cases inv_nil h_a1
  rw [E228] at h'
  obtain ⟨sc0, rc0, rfl, pc0, hq_c0⟩ := inv_s h'
  obtain ⟨nc1, rc1, rfl, pc1, hq_c1⟩ := inv_i hq_c0
  cases inv_nil hq_c1
  refine Ev.bo (af := a296) rfl rfl (fun d n => a296q ..) ?_
  simp only [bne_not, beq_t, beq_f, Bool.not_not, Bool.cond_not, beq_nat, Bool.and_true]
  apply Stp.conv
  · apply stp_if; intro e1
    apply stp_if; intro e2
    first | exact stp_end | exact stp_ret
  · first | (simp only [eqRow, eqD, Bool.and_true, Bool.true_and, Bool.and_assoc]; done) | (simp only [eqRow, eqD, Bool.and_true, Bool.true_and, Bool.and_assoc]; ac_rfl) | (rw [Bool.eq_iff_iff]; simp only [eqRow, eqD, Bool.and_true, Bool.true_and, Bool.and_eq_true]; constructor <;> (intro hh; simp only [hh, and_self]))
/- loop.example/g00119/laws.eqWeighS -/
theorem f203 {l l' : Rows} (hl : SL E 228 l) (hl' : SL E 228 l') : Ev fs 203 [.d (.s 2 l), .d (.s 2 l')] (bo ((l.length == l'.length) && eqRows l l')) := by
  refine Ev.bo (af := a203) rfl rfl (fun d n => a203q ..) ?_
  simp only [bne_not, beq_t, beq_f, Bool.not_not, Bool.cond_not, beq_nat, Bool.and_true]
  apply Stp.conv
  · apply stp_if; intro e1
    apply stp_loop (L := fun d n => l203x0 (TabD fs d) d n [(.fz 2 l), (.fz 2 l'), (.v (.int .i64 0))]) (c := eqRows l l') (y := ((.exit 0), []))
    · refine eq_loopE (L := fun d n i => l203x0 (TabD fs d) d n [(.fz 2 l), (.fz 2 l'), (.v (.int .i64 i))]) (len_of (by assumption)) (fun d n => ?_) (fun i x x' hi hi' hx hx' => ?_)
      rw [l203x0s]
      simp -implicitDefEqProofs only [cI, cB, cS, cL, oD_d, oG_g, oT_t, oP_p, dI_v, dB_v, dS_v, dL_s, cell_z, cell_s, nth_z, nth_s, aV_z, aV_s, aI_v, aB_v, aS_v, aL_f, aO_o, aX_b, tst_t, cond_true, cond_false, Ex.same, Nat.beq, List.length_cons, List.length_nil, Int.toNat_natCast, beqTT, beqTF, beqFT, beqFF, Int.lt_irrefl, decide_false]
      have h := (SL.at (E := E) (t := 228) (by assumption) hx)
      have h' := (SL.at (E := E) (t := 228) (by assumption) hx')
      have k := h
      have k' := h'
      rw [E228] at h
      obtain ⟨sx0, rx0, rfl, px0, h_x0⟩ := inv_s h
      obtain ⟨nx1, rx1, rfl, px1, h_x1⟩ := inv_i h_x0
      cases inv_nil h_x1
      rw [E228] at h'
      obtain ⟨sy0, ry0, rfl, py0, hq_y0⟩ := inv_s h'
      obtain ⟨ny1, ry1, rfl, py1, hq_y1⟩ := inv_i hq_y0
      cases inv_nil hq_y1
      simp only [l203x0s]
      simp -implicitDefEqProofs only [cI, cB, cS, cL, oD_d, oG_g, oT_t, oP_p, dI_v, dB_v, dS_v, dL_s, cell_z, cell_s, nth_z, nth_s, aV_z, aV_s, aI_v, aB_v, aS_v, aL_f, aO_o, aX_b, tst_t, cond_true, cond_false, Ex.same, Nat.beq, List.length_cons, List.length_nil, Int.toNat_natCast, beqTT, beqTF, beqFT, beqFF, decide_eq_true (Int.ofNat_lt.2 hi), dec_nn, look_at hx, look_at hx', wrap_succ hi (SL.le (E := E) (t := 228) (by assumption)), List.append_nil]
      simp only [bne_not, beq_t, beq_f, Bool.not_not, Bool.cond_not, beq_nat, Bool.and_true]
      apply Stp.conv
      · apply stp_call
        · exact f296 (by assumption) (by assumption)
        apply stp_if; intro g1
        exact stp_end
      · first | (simp only [eqRow, eqD, Bool.and_true, Bool.true_and, Bool.and_assoc]; done) | (simp only [eqRow, eqD, Bool.and_true, Bool.true_and, Bool.and_assoc]; ac_rfl) | (rw [Bool.eq_iff_iff]; simp only [eqRow, eqD, Bool.and_true, Bool.true_and, Bool.and_eq_true]; constructor <;> (intro hh; simp only [hh, and_self]))
    any_goals (intro d n; simp -implicitDefEqProofs only [cI, cB, cS, cL, oD_d, oG_g, oT_t, oP_p, dI_v, dB_v, dS_v, dL_s, cell_z, cell_s, nth_z, nth_s, aV_z, aV_s, aI_v, aB_v, aS_v, aL_f, aO_o, aX_b, tst_t, cond_true, cond_false, Ex.same, Nat.beq, List.length_cons, List.length_nil, Int.toNat_natCast, beqTT, beqTF, beqFT, beqFF]; done)
    simp -implicitDefEqProofs only [cI, cB, cS, cL, oD_d, oG_g, oT_t, oP_p, dI_v, dB_v, dS_v, dL_s, cell_z, cell_s, nth_z, nth_s, aV_z, aV_s, aI_v, aB_v, aS_v, aL_f, aO_o, aX_b, tst_t, cond_true, cond_false, Ex.same, Nat.beq, List.length_cons, List.length_nil, Int.toNat_natCast, beqTT, beqTF, beqFT, beqFF]
    first | exact stp_end | exact stp_ret
  · first | (simp only [eqRow, eqD, Bool.and_true, Bool.true_and, Bool.and_assoc]; done) | (simp only [eqRow, eqD, Bool.and_true, Bool.true_and, Bool.and_assoc]; ac_rfl) | (rw [Bool.eq_iff_iff]; simp only [eqRow, eqD, Bool.and_true, Bool.true_and, Bool.and_eq_true]; constructor <;> (intro hh; simp only [hh, and_self]))
/- loop.example/g00119/laws.eqWant -/
theorem f94 {row row' : Row} (h : ShL E (E 61) row) (h' : ShL E (E 61) row') : Ev fs 94 [.g row, .g row'] (bo (eqRow row row')) := by
  rw [E61] at h
  obtain ⟨na0, ra0, rfl, pa0, h_a0⟩ := inv_i h
  obtain ⟨la1, ra1, rfl, pa1, h_a1⟩ := inv_sl W315 h_a0
  obtain ⟨la2, ra2, rfl, pa2, h_a2⟩ := inv_sl W9 h_a1
  obtain ⟨la3, ra3, rfl, pa3, h_a3⟩ := inv_sl W228 h_a2
  cases inv_nil h_a3
  rw [E61] at h'
  obtain ⟨nc0, rc0, rfl, pc0, hq_c0⟩ := inv_i h'
  obtain ⟨lc1, rc1, rfl, pc1, hq_c1⟩ := inv_sl W315 hq_c0
  obtain ⟨lc2, rc2, rfl, pc2, hq_c2⟩ := inv_sl W9 hq_c1
  obtain ⟨lc3, rc3, rfl, pc3, hq_c3⟩ := inv_sl W228 hq_c2
  cases inv_nil hq_c3
  refine Ev.bo (af := a94) rfl rfl (fun d n => a94q ..) ?_
  simp only [bne_not, beq_t, beq_f, Bool.not_not, Bool.cond_not, beq_nat, Bool.and_true]
  apply Stp.conv
  · apply stp_if; intro e1
    apply stp_call
    · exact f202 (by assumption) (by assumption)
    apply stp_if; intro e2
    apply stp_call
    · exact f62 (by assumption) (by assumption)
    apply stp_if; intro e3
    apply stp_call
    · exact f203 (by assumption) (by assumption)
    apply stp_if; intro e4
    first | exact stp_end | exact stp_ret
  · first | (simp only [eqRow, eqD, Bool.and_true, Bool.true_and, Bool.and_assoc]; done) | (simp only [eqRow, eqD, Bool.and_true, Bool.true_and, Bool.and_assoc]; ac_rfl) | (rw [Bool.eq_iff_iff]; simp only [eqRow, eqD, Bool.and_true, Bool.true_and, Bool.and_eq_true]; constructor <;> (intro hh; simp only [hh, and_self]))
/- loop.example/g00119/laws.eqOp -/
theorem f356 {row row' : Row} (h : ShL E (E 329) row) (h' : ShL E (E 329) row') : Ev fs 356 [.g row, .g row'] (bo (eqRow row row')) := by
  rw [E329] at h
  obtain ⟨na0, ra0, rfl, pa0, h_a0⟩ := inv_i h
  obtain ⟨la1, ra1, rfl, pa1, h_a1⟩ := inv_sl W9 h_a0
  obtain ⟨na2, ra2, rfl, pa2, h_a2⟩ := inv_i h_a1
  obtain ⟨sa3, ra3, rfl, pa3, h_a3⟩ := inv_s h_a2
  obtain ⟨na4, ra4, rfl, pa4, h_a4⟩ := inv_i h_a3
  obtain ⟨la5, ra5, rfl, pa5, h_a5⟩ := inv_sl W9 h_a4
  obtain ⟨la6, ra6, rfl, pa6, h_a6⟩ := inv_sl W64 h_a5
  cases inv_nil h_a6
  rw [E329] at h'
  obtain ⟨nc0, rc0, rfl, pc0, hq_c0⟩ := inv_i h'
  obtain ⟨lc1, rc1, rfl, pc1, hq_c1⟩ := inv_sl W9 hq_c0
  obtain ⟨nc2, rc2, rfl, pc2, hq_c2⟩ := inv_i hq_c1
  obtain ⟨sc3, rc3, rfl, pc3, hq_c3⟩ := inv_s hq_c2
  obtain ⟨nc4, rc4, rfl, pc4, hq_c4⟩ := inv_i hq_c3
  obtain ⟨lc5, rc5, rfl, pc5, hq_c5⟩ := inv_sl W9 hq_c4
  obtain ⟨lc6, rc6, rfl, pc6, hq_c6⟩ := inv_sl W64 hq_c5
  cases inv_nil hq_c6
  refine Ev.bo (af := a356) rfl rfl (fun d n => a356q ..) ?_
  simp only [bne_not, beq_t, beq_f, Bool.not_not, Bool.cond_not, beq_nat, Bool.and_true]
  apply Stp.conv
  · apply stp_if; intro e1
    apply stp_call
    · exact f62 (by assumption) (by assumption)
    apply stp_if; intro e2
    apply stp_call
    · exact f95 (by rw [E64]; exact mk_i (by assumption) (mk_s (by assumption) (mk_i (by assumption) (mk_sl W9 (by assumption) (mk_sl W64 (by assumption) (ShL.nil)))))) (by rw [E64]; exact mk_i (by assumption) (mk_s (by assumption) (mk_i (by assumption) (mk_sl W9 (by assumption) (mk_sl W64 (by assumption) (ShL.nil))))))
    apply stp_if; intro e3
    first | exact stp_end | exact stp_ret
  · first | (simp only [eqRow, eqD, Bool.and_true, Bool.true_and, Bool.and_assoc]; done) | (simp only [eqRow, eqD, Bool.and_true, Bool.true_and, Bool.and_assoc]; ac_rfl) | (rw [Bool.eq_iff_iff]; simp only [eqRow, eqD, Bool.and_true, Bool.true_and, Bool.and_eq_true]; constructor <;> (intro hh; simp only [hh, and_self]))
/- loop.example/g00119/laws.eqOpS -/
theorem f297 {l l' : Rows} (hl : SL E 329 l) (hl' : SL E 329 l') : Ev fs 297 [.d (.s 7 l), .d (.s 7 l')] (bo ((l.length == l'.length) && eqRows l l')) := by
  refine Ev.bo (af := a297) rfl rfl (fun d n => a297q ..) ?_
  simp only [bne_not, beq_t, beq_f, Bool.not_not, Bool.cond_not, beq_nat, Bool.and_true]
  apply Stp.conv
  · apply stp_if; intro e1
    apply stp_loop (L := fun d n => l297x0 (TabD fs d) d n [(.fz 7 l), (.fz 7 l'), (.v (.int .i64 0))]) (c := eqRows l l') (y := ((.exit 0), []))
    · refine eq_loopE (L := fun d n i => l297x0 (TabD fs d) d n [(.fz 7 l), (.fz 7 l'), (.v (.int .i64 i))]) (len_of (by assumption)) (fun d n => ?_) (fun i x x' hi hi' hx hx' => ?_)
      rw [l297x0s]
      simp -implicitDefEqProofs only [cI, cB, cS, cL, oD_d, oG_g, oT_t, oP_p, dI_v, dB_v, dS_v, dL_s, cell_z, cell_s, nth_z, nth_s, aV_z, aV_s, aI_v, aB_v, aS_v, aL_f, aO_o, aX_b, tst_t, cond_true, cond_false, Ex.same, Nat.beq, List.length_cons, List.length_nil, Int.toNat_natCast, beqTT, beqTF, beqFT, beqFF, Int.lt_irrefl, decide_false]
      have h := (SL.at (E := E) (t := 329) (by assumption) hx)
      have h' := (SL.at (E := E) (t := 329) (by assumption) hx')
      have k := h
      have k' := h'
      rw [E329] at h
      obtain ⟨nx0, rx0, rfl, px0, h_x0⟩ := inv_i h
      obtain ⟨lx1, rx1, rfl, px1, h_x1⟩ := inv_sl W9 h_x0
      obtain ⟨nx2, rx2, rfl, px2, h_x2⟩ := inv_i h_x1
      obtain ⟨sx3, rx3, rfl, px3, h_x3⟩ := inv_s h_x2
      obtain ⟨nx4, rx4, rfl, px4, h_x4⟩ := inv_i h_x3
      obtain ⟨lx5, rx5, rfl, px5, h_x5⟩ := inv_sl W9 h_x4
      obtain ⟨lx6, rx6, rfl, px6, h_x6⟩ := inv_sl W64 h_x5
      cases inv_nil h_x6
      rw [E329] at h'
      obtain ⟨ny0, ry0, rfl, py0, hq_y0⟩ := inv_i h'
      obtain ⟨ly1, ry1, rfl, py1, hq_y1⟩ := inv_sl W9 hq_y0
      obtain ⟨ny2, ry2, rfl, py2, hq_y2⟩ := inv_i hq_y1
      obtain ⟨sy3, ry3, rfl, py3, hq_y3⟩ := inv_s hq_y2
      obtain ⟨ny4, ry4, rfl, py4, hq_y4⟩ := inv_i hq_y3
      obtain ⟨ly5, ry5, rfl, py5, hq_y5⟩ := inv_sl W9 hq_y4
      obtain ⟨ly6, ry6, rfl, py6, hq_y6⟩ := inv_sl W64 hq_y5
      cases inv_nil hq_y6
      simp only [l297x0s]
      simp -implicitDefEqProofs only [cI, cB, cS, cL, oD_d, oG_g, oT_t, oP_p, dI_v, dB_v, dS_v, dL_s, cell_z, cell_s, nth_z, nth_s, aV_z, aV_s, aI_v, aB_v, aS_v, aL_f, aO_o, aX_b, tst_t, cond_true, cond_false, Ex.same, Nat.beq, List.length_cons, List.length_nil, Int.toNat_natCast, beqTT, beqTF, beqFT, beqFF, decide_eq_true (Int.ofNat_lt.2 hi), dec_nn, look_at hx, look_at hx', wrap_succ hi (SL.le (E := E) (t := 329) (by assumption)), List.append_nil]
      simp only [bne_not, beq_t, beq_f, Bool.not_not, Bool.cond_not, beq_nat, Bool.and_true]
      apply Stp.conv
      · apply stp_call
        · exact f356 (by assumption) (by assumption)
        apply stp_if; intro g1
        exact stp_end
      · first | (simp only [eqRow, eqD, Bool.and_true, Bool.true_and, Bool.and_assoc]; done) | (simp only [eqRow, eqD, Bool.and_true, Bool.true_and, Bool.and_assoc]; ac_rfl) | (rw [Bool.eq_iff_iff]; simp only [eqRow, eqD, Bool.and_true, Bool.true_and, Bool.and_eq_true]; constructor <;> (intro hh; simp only [hh, and_self]))
    any_goals (intro d n; simp -implicitDefEqProofs only [cI, cB, cS, cL, oD_d, oG_g, oT_t, oP_p, dI_v, dB_v, dS_v, dL_s, cell_z, cell_s, nth_z, nth_s, aV_z, aV_s, aI_v, aB_v, aS_v, aL_f, aO_o, aX_b, tst_t, cond_true, cond_false, Ex.same, Nat.beq, List.length_cons, List.length_nil, Int.toNat_natCast, beqTT, beqTF, beqFT, beqFF]; done)
    simp -implicitDefEqProofs only [cI, cB, cS, cL, oD_d, oG_g, oT_t, oP_p, dI_v, dB_v, dS_v, dL_s, cell_z, cell_s, nth_z, nth_s, aV_z, aV_s, aI_v, aB_v, aS_v, aL_f, aO_o, aX_b, tst_t, cond_true, cond_false, Ex.same, Nat.beq, List.length_cons, List.length_nil, Int.toNat_natCast, beqTT, beqTF, beqFT, beqFF]
    first | exact stp_end | exact stp_ret
  · first | (simp only [eqRow, eqD, Bool.and_true, Bool.true_and, Bool.and_assoc]; done) | (simp only [eqRow, eqD, Bool.and_true, Bool.true_and, Bool.and_assoc]; ac_rfl) | (rw [Bool.eq_iff_iff]; simp only [eqRow, eqD, Bool.and_true, Bool.true_and, Bool.and_eq_true]; constructor <;> (intro hh; simp only [hh, and_self]))
/- loop.example/g00119/laws.eqOver -/
theorem f205 {row row' : Row} (h : ShL E (E 235) row) (h' : ShL E (E 235) row') : Ev fs 205 [.g row, .g row'] (bo (eqRow row row')) := by
  rw [E235] at h
  obtain ⟨sa0, ra0, rfl, pa0, h_a0⟩ := inv_s h
  obtain ⟨la1, ra1, rfl, pa1, h_a1⟩ := inv_sl W329 h_a0
  cases inv_nil h_a1
  rw [E235] at h'
  obtain ⟨sc0, rc0, rfl, pc0, hq_c0⟩ := inv_s h'
  obtain ⟨lc1, rc1, rfl, pc1, hq_c1⟩ := inv_sl W329 hq_c0
  cases inv_nil hq_c1
  refine Ev.bo (af := a205) rfl rfl (fun d n => a205q ..) ?_
  simp only [bne_not, beq_t, beq_f, Bool.not_not, Bool.cond_not, beq_nat, Bool.and_true]
  apply Stp.conv
  · apply stp_if; intro e1
    apply stp_call
    · exact f297 (by assumption) (by assumption)
    apply stp_if; intro e2
    first | exact stp_end | exact stp_ret
  · first | (simp only [eqRow, eqD, Bool.and_true, Bool.true_and, Bool.and_assoc]; done) | (simp only [eqRow, eqD, Bool.and_true, Bool.true_and, Bool.and_assoc]; ac_rfl) | (rw [Bool.eq_iff_iff]; simp only [eqRow, eqD, Bool.and_true, Bool.true_and, Bool.and_eq_true]; constructor <;> (intro hh; simp only [hh, and_self]))
/- loop.example/g00119/laws.eqOverS -/
theorem f96 {l l' : Rows} (hl : SL E 235 l) (hl' : SL E 235 l') : Ev fs 96 [.d (.s 2 l), .d (.s 2 l')] (bo ((l.length == l'.length) && eqRows l l')) := by
  refine Ev.bo (af := a96) rfl rfl (fun d n => a96q ..) ?_
  simp only [bne_not, beq_t, beq_f, Bool.not_not, Bool.cond_not, beq_nat, Bool.and_true]
  apply Stp.conv
  · apply stp_if; intro e1
    apply stp_loop (L := fun d n => l96x0 (TabD fs d) d n [(.fz 2 l), (.fz 2 l'), (.v (.int .i64 0))]) (c := eqRows l l') (y := ((.exit 0), []))
    · refine eq_loopE (L := fun d n i => l96x0 (TabD fs d) d n [(.fz 2 l), (.fz 2 l'), (.v (.int .i64 i))]) (len_of (by assumption)) (fun d n => ?_) (fun i x x' hi hi' hx hx' => ?_)
      rw [l96x0s]
      simp -implicitDefEqProofs only [cI, cB, cS, cL, oD_d, oG_g, oT_t, oP_p, dI_v, dB_v, dS_v, dL_s, cell_z, cell_s, nth_z, nth_s, aV_z, aV_s, aI_v, aB_v, aS_v, aL_f, aO_o, aX_b, tst_t, cond_true, cond_false, Ex.same, Nat.beq, List.length_cons, List.length_nil, Int.toNat_natCast, beqTT, beqTF, beqFT, beqFF, Int.lt_irrefl, decide_false]
      have h := (SL.at (E := E) (t := 235) (by assumption) hx)
      have h' := (SL.at (E := E) (t := 235) (by assumption) hx')
      have k := h
      have k' := h'
      rw [E235] at h
      obtain ⟨sx0, rx0, rfl, px0, h_x0⟩ := inv_s h
      obtain ⟨lx1, rx1, rfl, px1, h_x1⟩ := inv_sl W329 h_x0
      cases inv_nil h_x1
      rw [E235] at h'
      obtain ⟨sy0, ry0, rfl, py0, hq_y0⟩ := inv_s h'
      obtain ⟨ly1, ry1, rfl, py1, hq_y1⟩ := inv_sl W329 hq_y0
      cases inv_nil hq_y1
      simp only [l96x0s]
      simp -implicitDefEqProofs only [cI, cB, cS, cL, oD_d, oG_g, oT_t, oP_p, dI_v, dB_v, dS_v, dL_s, cell_z, cell_s, nth_z, nth_s, aV_z, aV_s, aI_v, aB_v, aS_v, aL_f, aO_o, aX_b, tst_t, cond_true, cond_false, Ex.same, Nat.beq, List.length_cons, List.length_nil, Int.toNat_natCast, beqTT, beqTF, beqFT, beqFF, decide_eq_true (Int.ofNat_lt.2 hi), dec_nn, look_at hx, look_at hx', wrap_succ hi (SL.le (E := E) (t := 235) (by assumption)), List.append_nil]
      simp only [bne_not, beq_t, beq_f, Bool.not_not, Bool.cond_not, beq_nat, Bool.and_true]
      apply Stp.conv
      · apply stp_call
        · exact f205 (by assumption) (by assumption)
        apply stp_if; intro g1
        exact stp_end
      · first | (simp only [eqRow, eqD, Bool.and_true, Bool.true_and, Bool.and_assoc]; done) | (simp only [eqRow, eqD, Bool.and_true, Bool.true_and, Bool.and_assoc]; ac_rfl) | (rw [Bool.eq_iff_iff]; simp only [eqRow, eqD, Bool.and_true, Bool.true_and, Bool.and_eq_true]; constructor <;> (intro hh; simp only [hh, and_self]))
    any_goals (intro d n; simp -implicitDefEqProofs only [cI, cB, cS, cL, oD_d, oG_g, oT_t, oP_p, dI_v, dB_v, dS_v, dL_s, cell_z, cell_s, nth_z, nth_s, aV_z, aV_s, aI_v, aB_v, aS_v, aL_f, aO_o, aX_b, tst_t, cond_true, cond_false, Ex.same, Nat.beq, List.length_cons, List.length_nil, Int.toNat_natCast, beqTT, beqTF, beqFT, beqFF]; done)
    simp -implicitDefEqProofs only [cI, cB, cS, cL, oD_d, oG_g, oT_t, oP_p, dI_v, dB_v, dS_v, dL_s, cell_z, cell_s, nth_z, nth_s, aV_z, aV_s, aI_v, aB_v, aS_v, aL_f, aO_o, aX_b, tst_t, cond_true, cond_false, Ex.same, Nat.beq, List.length_cons, List.length_nil, Int.toNat_natCast, beqTT, beqTF, beqFT, beqFF]
    first | exact stp_end | exact stp_ret
  · first | (simp only [eqRow, eqD, Bool.and_true, Bool.true_and, Bool.and_assoc]; done) | (simp only [eqRow, eqD, Bool.and_true, Bool.true_and, Bool.and_assoc]; ac_rfl) | (rw [Bool.eq_iff_iff]; simp only [eqRow, eqD, Bool.and_true, Bool.true_and, Bool.and_eq_true]; constructor <;> (intro hh; simp only [hh, and_self]))
/- loop.example/g00119/laws.eqJob -/
theorem f164 {row row' : Row} (h : ShL E (E 101) row) (h' : ShL E (E 101) row') : Ev fs 164 [.g row, .g row'] (bo (eqRow row row')) := by
  rw [E101] at h
  obtain ⟨na0, ra0, rfl, pa0, h_a0⟩ := inv_i h
  obtain ⟨sa1, ra1, rfl, pa1, h_a1⟩ := inv_s h_a0
  obtain ⟨na2, ra2, rfl, pa2, h_a2⟩ := inv_i h_a1
  obtain ⟨la3, ra3, rfl, pa3, h_a3⟩ := inv_sl W315 h_a2
  obtain ⟨la4, ra4, rfl, pa4, h_a4⟩ := inv_sl W9 h_a3
  obtain ⟨la5, ra5, rfl, pa5, h_a5⟩ := inv_sl W228 h_a4
  obtain ⟨na6, ra6, rfl, pa6, h_a6⟩ := inv_i h_a5
  obtain ⟨sa7, ra7, rfl, pa7, h_a7⟩ := inv_s h_a6
  obtain ⟨na8, ra8, rfl, pa8, h_a8⟩ := inv_i h_a7
  obtain ⟨la9, ra9, rfl, pa9, h_a9⟩ := inv_sl W9 h_a8
  obtain ⟨la10, ra10, rfl, pa10, h_a10⟩ := inv_sl W64 h_a9
  obtain ⟨la11, ra11, rfl, pa11, h_a11⟩ := inv_sl W235 h_a10
  obtain ⟨ba12, ra12, rfl, h_a12⟩ := inv_b h_a11
  cases inv_nil h_a12
  rw [E101] at h'
  obtain ⟨nc0, rc0, rfl, pc0, hq_c0⟩ := inv_i h'
  obtain ⟨sc1, rc1, rfl, pc1, hq_c1⟩ := inv_s hq_c0
  obtain ⟨nc2, rc2, rfl, pc2, hq_c2⟩ := inv_i hq_c1
  obtain ⟨lc3, rc3, rfl, pc3, hq_c3⟩ := inv_sl W315 hq_c2
  obtain ⟨lc4, rc4, rfl, pc4, hq_c4⟩ := inv_sl W9 hq_c3
  obtain ⟨lc5, rc5, rfl, pc5, hq_c5⟩ := inv_sl W228 hq_c4
  obtain ⟨nc6, rc6, rfl, pc6, hq_c6⟩ := inv_i hq_c5
  obtain ⟨sc7, rc7, rfl, pc7, hq_c7⟩ := inv_s hq_c6
  obtain ⟨nc8, rc8, rfl, pc8, hq_c8⟩ := inv_i hq_c7
  obtain ⟨lc9, rc9, rfl, pc9, hq_c9⟩ := inv_sl W9 hq_c8
  obtain ⟨lc10, rc10, rfl, pc10, hq_c10⟩ := inv_sl W64 hq_c9
  obtain ⟨lc11, rc11, rfl, pc11, hq_c11⟩ := inv_sl W235 hq_c10
  obtain ⟨bc12, rc12, rfl, hq_c12⟩ := inv_b hq_c11
  cases inv_nil hq_c12
  refine Ev.bo (af := a164) rfl rfl (fun d n => a164q ..) ?_
  simp only [bne_not, beq_t, beq_f, Bool.not_not, Bool.cond_not, beq_nat, Bool.and_true]
  apply Stp.conv
  · apply stp_if; intro e1
    apply stp_if; intro e2
    apply stp_call
    · exact f94 (by rw [E61]; exact mk_i (by assumption) (mk_sl W315 (by assumption) (mk_sl W9 (by assumption) (mk_sl W228 (by assumption) (ShL.nil))))) (by rw [E61]; exact mk_i (by assumption) (mk_sl W315 (by assumption) (mk_sl W9 (by assumption) (mk_sl W228 (by assumption) (ShL.nil)))))
    apply stp_if; intro e3
    apply stp_call
    · exact f95 (by rw [E64]; exact mk_i (by assumption) (mk_s (by assumption) (mk_i (by assumption) (mk_sl W9 (by assumption) (mk_sl W64 (by assumption) (ShL.nil)))))) (by rw [E64]; exact mk_i (by assumption) (mk_s (by assumption) (mk_i (by assumption) (mk_sl W9 (by assumption) (mk_sl W64 (by assumption) (ShL.nil))))))
    apply stp_if; intro e4
    apply stp_call
    · exact f96 (by assumption) (by assumption)
    apply stp_if; intro e5
    apply stp_if; intro e6
    first | exact stp_end | exact stp_ret
  · first | (simp only [eqRow, eqD, Bool.and_true, Bool.true_and, Bool.and_assoc]; done) | (simp only [eqRow, eqD, Bool.and_true, Bool.true_and, Bool.and_assoc]; ac_rfl) | (rw [Bool.eq_iff_iff]; simp only [eqRow, eqD, Bool.and_true, Bool.true_and, Bool.and_eq_true]; constructor <;> (intro hh; simp only [hh, and_self]))
/- loop.example/g00119/laws.eqJobS -/
theorem f59 {l l' : Rows} (hl : SL E 101 l) (hl' : SL E 101 l') : Ev fs 59 [.d (.s 13 l), .d (.s 13 l')] (bo ((l.length == l'.length) && eqRows l l')) := by
  refine Ev.bo (af := a59) rfl rfl (fun d n => a59q ..) ?_
  simp only [bne_not, beq_t, beq_f, Bool.not_not, Bool.cond_not, beq_nat, Bool.and_true]
  apply Stp.conv
  · apply stp_if; intro e1
    apply stp_loop (L := fun d n => l59x0 (TabD fs d) d n [(.fz 13 l), (.fz 13 l'), (.v (.int .i64 0))]) (c := eqRows l l') (y := ((.exit 0), []))
    · refine eq_loopE (L := fun d n i => l59x0 (TabD fs d) d n [(.fz 13 l), (.fz 13 l'), (.v (.int .i64 i))]) (len_of (by assumption)) (fun d n => ?_) (fun i x x' hi hi' hx hx' => ?_)
      rw [l59x0s]
      simp -implicitDefEqProofs only [cI, cB, cS, cL, oD_d, oG_g, oT_t, oP_p, dI_v, dB_v, dS_v, dL_s, cell_z, cell_s, nth_z, nth_s, aV_z, aV_s, aI_v, aB_v, aS_v, aL_f, aO_o, aX_b, tst_t, cond_true, cond_false, Ex.same, Nat.beq, List.length_cons, List.length_nil, Int.toNat_natCast, beqTT, beqTF, beqFT, beqFF, Int.lt_irrefl, decide_false]
      have h := (SL.at (E := E) (t := 101) (by assumption) hx)
      have h' := (SL.at (E := E) (t := 101) (by assumption) hx')
      have k := h
      have k' := h'
      rw [E101] at h
      obtain ⟨nx0, rx0, rfl, px0, h_x0⟩ := inv_i h
      obtain ⟨sx1, rx1, rfl, px1, h_x1⟩ := inv_s h_x0
      obtain ⟨nx2, rx2, rfl, px2, h_x2⟩ := inv_i h_x1
      obtain ⟨lx3, rx3, rfl, px3, h_x3⟩ := inv_sl W315 h_x2
      obtain ⟨lx4, rx4, rfl, px4, h_x4⟩ := inv_sl W9 h_x3
      obtain ⟨lx5, rx5, rfl, px5, h_x5⟩ := inv_sl W228 h_x4
      obtain ⟨nx6, rx6, rfl, px6, h_x6⟩ := inv_i h_x5
      obtain ⟨sx7, rx7, rfl, px7, h_x7⟩ := inv_s h_x6
      obtain ⟨nx8, rx8, rfl, px8, h_x8⟩ := inv_i h_x7
      obtain ⟨lx9, rx9, rfl, px9, h_x9⟩ := inv_sl W9 h_x8
      obtain ⟨lx10, rx10, rfl, px10, h_x10⟩ := inv_sl W64 h_x9
      obtain ⟨lx11, rx11, rfl, px11, h_x11⟩ := inv_sl W235 h_x10
      obtain ⟨bx12, rx12, rfl, h_x12⟩ := inv_b h_x11
      cases inv_nil h_x12
      rw [E101] at h'
      obtain ⟨ny0, ry0, rfl, py0, hq_y0⟩ := inv_i h'
      obtain ⟨sy1, ry1, rfl, py1, hq_y1⟩ := inv_s hq_y0
      obtain ⟨ny2, ry2, rfl, py2, hq_y2⟩ := inv_i hq_y1
      obtain ⟨ly3, ry3, rfl, py3, hq_y3⟩ := inv_sl W315 hq_y2
      obtain ⟨ly4, ry4, rfl, py4, hq_y4⟩ := inv_sl W9 hq_y3
      obtain ⟨ly5, ry5, rfl, py5, hq_y5⟩ := inv_sl W228 hq_y4
      obtain ⟨ny6, ry6, rfl, py6, hq_y6⟩ := inv_i hq_y5
      obtain ⟨sy7, ry7, rfl, py7, hq_y7⟩ := inv_s hq_y6
      obtain ⟨ny8, ry8, rfl, py8, hq_y8⟩ := inv_i hq_y7
      obtain ⟨ly9, ry9, rfl, py9, hq_y9⟩ := inv_sl W9 hq_y8
      obtain ⟨ly10, ry10, rfl, py10, hq_y10⟩ := inv_sl W64 hq_y9
      obtain ⟨ly11, ry11, rfl, py11, hq_y11⟩ := inv_sl W235 hq_y10
      obtain ⟨by12, ry12, rfl, hq_y12⟩ := inv_b hq_y11
      cases inv_nil hq_y12
      simp only [l59x0s]
      simp -implicitDefEqProofs only [cI, cB, cS, cL, oD_d, oG_g, oT_t, oP_p, dI_v, dB_v, dS_v, dL_s, cell_z, cell_s, nth_z, nth_s, aV_z, aV_s, aI_v, aB_v, aS_v, aL_f, aO_o, aX_b, tst_t, cond_true, cond_false, Ex.same, Nat.beq, List.length_cons, List.length_nil, Int.toNat_natCast, beqTT, beqTF, beqFT, beqFF, decide_eq_true (Int.ofNat_lt.2 hi), dec_nn, look_at hx, look_at hx', wrap_succ hi (SL.le (E := E) (t := 101) (by assumption)), List.append_nil]
      simp only [bne_not, beq_t, beq_f, Bool.not_not, Bool.cond_not, beq_nat, Bool.and_true]
      apply Stp.conv
      · apply stp_call
        · exact f164 (by assumption) (by assumption)
        apply stp_if; intro g1
        exact stp_end
      · first | (simp only [eqRow, eqD, Bool.and_true, Bool.true_and, Bool.and_assoc]; done) | (simp only [eqRow, eqD, Bool.and_true, Bool.true_and, Bool.and_assoc]; ac_rfl) | (rw [Bool.eq_iff_iff]; simp only [eqRow, eqD, Bool.and_true, Bool.true_and, Bool.and_eq_true]; constructor <;> (intro hh; simp only [hh, and_self]))
    any_goals (intro d n; simp -implicitDefEqProofs only [cI, cB, cS, cL, oD_d, oG_g, oT_t, oP_p, dI_v, dB_v, dS_v, dL_s, cell_z, cell_s, nth_z, nth_s, aV_z, aV_s, aI_v, aB_v, aS_v, aL_f, aO_o, aX_b, tst_t, cond_true, cond_false, Ex.same, Nat.beq, List.length_cons, List.length_nil, Int.toNat_natCast, beqTT, beqTF, beqFT, beqFF]; done)
    simp -implicitDefEqProofs only [cI, cB, cS, cL, oD_d, oG_g, oT_t, oP_p, dI_v, dB_v, dS_v, dL_s, cell_z, cell_s, nth_z, nth_s, aV_z, aV_s, aI_v, aB_v, aS_v, aL_f, aO_o, aX_b, tst_t, cond_true, cond_false, Ex.same, Nat.beq, List.length_cons, List.length_nil, Int.toNat_natCast, beqTT, beqTF, beqFT, beqFF]
    first | exact stp_end | exact stp_ret
  · first | (simp only [eqRow, eqD, Bool.and_true, Bool.true_and, Bool.and_assoc]; done) | (simp only [eqRow, eqD, Bool.and_true, Bool.true_and, Bool.and_assoc]; ac_rfl) | (rw [Bool.eq_iff_iff]; simp only [eqRow, eqD, Bool.and_true, Bool.true_and, Bool.and_eq_true]; constructor <;> (intro hh; simp only [hh, and_self]))
/- loop.example/g00119/laws.eqLabel -/
theorem f298 {row row' : Row} (h : ShL E (E 299) row) (h' : ShL E (E 299) row') : Ev fs 298 [.g row, .g row'] (bo (eqRow row row')) := by
  rw [E299] at h
  obtain ⟨sa0, ra0, rfl, pa0, h_a0⟩ := inv_s h
  obtain ⟨sa1, ra1, rfl, pa1, h_a1⟩ := inv_s h_a0
  cases inv_nil h_a1
  rw [E299] at h'
  obtain ⟨sc0, rc0, rfl, pc0, hq_c0⟩ := inv_s h'
  obtain ⟨sc1, rc1, rfl, pc1, hq_c1⟩ := inv_s hq_c0
  cases inv_nil hq_c1
  refine Ev.bo (af := a298) rfl rfl (fun d n => a298q ..) ?_
  simp only [bne_not, beq_t, beq_f, Bool.not_not, Bool.cond_not, beq_nat, Bool.and_true]
  apply Stp.conv
  · apply stp_if; intro e1
    apply stp_if; intro e2
    first | exact stp_end | exact stp_ret
  · first | (simp only [eqRow, eqD, Bool.and_true, Bool.true_and, Bool.and_assoc]; done) | (simp only [eqRow, eqD, Bool.and_true, Bool.true_and, Bool.and_assoc]; ac_rfl) | (rw [Bool.eq_iff_iff]; simp only [eqRow, eqD, Bool.and_true, Bool.true_and, Bool.and_eq_true]; constructor <;> (intro hh; simp only [hh, and_self]))
/- loop.example/g00119/laws.eqLabelS -/
theorem f206 {l l' : Rows} (hl : SL E 299 l) (hl' : SL E 299 l') : Ev fs 206 [.d (.s 2 l), .d (.s 2 l')] (bo ((l.length == l'.length) && eqRows l l')) := by
  refine Ev.bo (af := a206) rfl rfl (fun d n => a206q ..) ?_
  simp only [bne_not, beq_t, beq_f, Bool.not_not, Bool.cond_not, beq_nat, Bool.and_true]
  apply Stp.conv
  · apply stp_if; intro e1
    apply stp_loop (L := fun d n => l206x0 (TabD fs d) d n [(.fz 2 l), (.fz 2 l'), (.v (.int .i64 0))]) (c := eqRows l l') (y := ((.exit 0), []))
    · refine eq_loopE (L := fun d n i => l206x0 (TabD fs d) d n [(.fz 2 l), (.fz 2 l'), (.v (.int .i64 i))]) (len_of (by assumption)) (fun d n => ?_) (fun i x x' hi hi' hx hx' => ?_)
      rw [l206x0s]
      simp -implicitDefEqProofs only [cI, cB, cS, cL, oD_d, oG_g, oT_t, oP_p, dI_v, dB_v, dS_v, dL_s, cell_z, cell_s, nth_z, nth_s, aV_z, aV_s, aI_v, aB_v, aS_v, aL_f, aO_o, aX_b, tst_t, cond_true, cond_false, Ex.same, Nat.beq, List.length_cons, List.length_nil, Int.toNat_natCast, beqTT, beqTF, beqFT, beqFF, Int.lt_irrefl, decide_false]
      have h := (SL.at (E := E) (t := 299) (by assumption) hx)
      have h' := (SL.at (E := E) (t := 299) (by assumption) hx')
      have k := h
      have k' := h'
      rw [E299] at h
      obtain ⟨sx0, rx0, rfl, px0, h_x0⟩ := inv_s h
      obtain ⟨sx1, rx1, rfl, px1, h_x1⟩ := inv_s h_x0
      cases inv_nil h_x1
      rw [E299] at h'
      obtain ⟨sy0, ry0, rfl, py0, hq_y0⟩ := inv_s h'
      obtain ⟨sy1, ry1, rfl, py1, hq_y1⟩ := inv_s hq_y0
      cases inv_nil hq_y1
      simp only [l206x0s]
      simp -implicitDefEqProofs only [cI, cB, cS, cL, oD_d, oG_g, oT_t, oP_p, dI_v, dB_v, dS_v, dL_s, cell_z, cell_s, nth_z, nth_s, aV_z, aV_s, aI_v, aB_v, aS_v, aL_f, aO_o, aX_b, tst_t, cond_true, cond_false, Ex.same, Nat.beq, List.length_cons, List.length_nil, Int.toNat_natCast, beqTT, beqTF, beqFT, beqFF, decide_eq_true (Int.ofNat_lt.2 hi), dec_nn, look_at hx, look_at hx', wrap_succ hi (SL.le (E := E) (t := 299) (by assumption)), List.append_nil]
      simp only [bne_not, beq_t, beq_f, Bool.not_not, Bool.cond_not, beq_nat, Bool.and_true]
      apply Stp.conv
      · apply stp_call
        · exact f298 (by assumption) (by assumption)
        apply stp_if; intro g1
        exact stp_end
      · first | (simp only [eqRow, eqD, Bool.and_true, Bool.true_and, Bool.and_assoc]; done) | (simp only [eqRow, eqD, Bool.and_true, Bool.true_and, Bool.and_assoc]; ac_rfl) | (rw [Bool.eq_iff_iff]; simp only [eqRow, eqD, Bool.and_true, Bool.true_and, Bool.and_eq_true]; constructor <;> (intro hh; simp only [hh, and_self]))
    any_goals (intro d n; simp -implicitDefEqProofs only [cI, cB, cS, cL, oD_d, oG_g, oT_t, oP_p, dI_v, dB_v, dS_v, dL_s, cell_z, cell_s, nth_z, nth_s, aV_z, aV_s, aI_v, aB_v, aS_v, aL_f, aO_o, aX_b, tst_t, cond_true, cond_false, Ex.same, Nat.beq, List.length_cons, List.length_nil, Int.toNat_natCast, beqTT, beqTF, beqFT, beqFF]; done)
    simp -implicitDefEqProofs only [cI, cB, cS, cL, oD_d, oG_g, oT_t, oP_p, dI_v, dB_v, dS_v, dL_s, cell_z, cell_s, nth_z, nth_s, aV_z, aV_s, aI_v, aB_v, aS_v, aL_f, aO_o, aX_b, tst_t, cond_true, cond_false, Ex.same, Nat.beq, List.length_cons, List.length_nil, Int.toNat_natCast, beqTT, beqTF, beqFT, beqFF]
    first | exact stp_end | exact stp_ret
  · first | (simp only [eqRow, eqD, Bool.and_true, Bool.true_and, Bool.and_assoc]; done) | (simp only [eqRow, eqD, Bool.and_true, Bool.true_and, Bool.and_assoc]; ac_rfl) | (rw [Bool.eq_iff_iff]; simp only [eqRow, eqD, Bool.and_true, Bool.true_and, Bool.and_eq_true]; constructor <;> (intro hh; simp only [hh, and_self]))
/- loop.example/g00119/laws.eqIsland -/
theorem f97 {row row' : Row} (h : ShL E (E 68) row) (h' : ShL E (E 68) row') : Ev fs 97 [.g row, .g row'] (bo (eqRow row row')) := by
  rw [E68] at h
  obtain ⟨sa0, ra0, rfl, pa0, h_a0⟩ := inv_s h
  obtain ⟨la1, ra1, rfl, pa1, h_a1⟩ := inv_sl W299 h_a0
  obtain ⟨la2, ra2, rfl, pa2, h_a2⟩ := inv_sl W9 h_a1
  obtain ⟨na3, ra3, rfl, pa3, h_a3⟩ := inv_i h_a2
  cases inv_nil h_a3
  rw [E68] at h'
  obtain ⟨sc0, rc0, rfl, pc0, hq_c0⟩ := inv_s h'
  obtain ⟨lc1, rc1, rfl, pc1, hq_c1⟩ := inv_sl W299 hq_c0
  obtain ⟨lc2, rc2, rfl, pc2, hq_c2⟩ := inv_sl W9 hq_c1
  obtain ⟨nc3, rc3, rfl, pc3, hq_c3⟩ := inv_i hq_c2
  cases inv_nil hq_c3
  refine Ev.bo (af := a97) rfl rfl (fun d n => a97q ..) ?_
  simp only [bne_not, beq_t, beq_f, Bool.not_not, Bool.cond_not, beq_nat, Bool.and_true]
  apply Stp.conv
  · apply stp_if; intro e1
    apply stp_call
    · exact f206 (by assumption) (by assumption)
    apply stp_if; intro e2
    apply stp_call
    · exact f62 (by assumption) (by assumption)
    apply stp_if; intro e3
    apply stp_if; intro e4
    first | exact stp_end | exact stp_ret
  · first | (simp only [eqRow, eqD, Bool.and_true, Bool.true_and, Bool.and_assoc]; done) | (simp only [eqRow, eqD, Bool.and_true, Bool.true_and, Bool.and_assoc]; ac_rfl) | (rw [Bool.eq_iff_iff]; simp only [eqRow, eqD, Bool.and_true, Bool.true_and, Bool.and_eq_true]; constructor <;> (intro hh; simp only [hh, and_self]))
/- loop.example/g00119/laws.eqPost -/
theorem f165 {row row' : Row} (h : ShL E (E 114) row) (h' : ShL E (E 114) row') : Ev fs 165 [.g row, .g row'] (bo (eqRow row row')) := by
  rw [E114] at h
  obtain ⟨sa0, ra0, rfl, pa0, h_a0⟩ := inv_s h
  obtain ⟨la1, ra1, rfl, pa1, h_a1⟩ := inv_sl W299 h_a0
  obtain ⟨la2, ra2, rfl, pa2, h_a2⟩ := inv_sl W9 h_a1
  obtain ⟨na3, ra3, rfl, pa3, h_a3⟩ := inv_i h_a2
  obtain ⟨na4, ra4, rfl, pa4, h_a4⟩ := inv_i h_a3
  obtain ⟨na5, ra5, rfl, pa5, h_a5⟩ := inv_i h_a4
  cases inv_nil h_a5
  rw [E114] at h'
  obtain ⟨sc0, rc0, rfl, pc0, hq_c0⟩ := inv_s h'
  obtain ⟨lc1, rc1, rfl, pc1, hq_c1⟩ := inv_sl W299 hq_c0
  obtain ⟨lc2, rc2, rfl, pc2, hq_c2⟩ := inv_sl W9 hq_c1
  obtain ⟨nc3, rc3, rfl, pc3, hq_c3⟩ := inv_i hq_c2
  obtain ⟨nc4, rc4, rfl, pc4, hq_c4⟩ := inv_i hq_c3
  obtain ⟨nc5, rc5, rfl, pc5, hq_c5⟩ := inv_i hq_c4
  cases inv_nil hq_c5
  refine Ev.bo (af := a165) rfl rfl (fun d n => a165q ..) ?_
  simp only [bne_not, beq_t, beq_f, Bool.not_not, Bool.cond_not, beq_nat, Bool.and_true]
  apply Stp.conv
  · apply stp_call
    · exact f97 (by rw [E68]; exact mk_s (by assumption) (mk_sl W299 (by assumption) (mk_sl W9 (by assumption) (mk_i (by assumption) (ShL.nil))))) (by rw [E68]; exact mk_s (by assumption) (mk_sl W299 (by assumption) (mk_sl W9 (by assumption) (mk_i (by assumption) (ShL.nil)))))
    apply stp_if; intro e1
    apply stp_if; intro e2
    apply stp_if; intro e3
    first | exact stp_end | exact stp_ret
  · first | (simp only [eqRow, eqD, Bool.and_true, Bool.true_and, Bool.and_assoc]; done) | (simp only [eqRow, eqD, Bool.and_true, Bool.true_and, Bool.and_assoc]; ac_rfl) | (rw [Bool.eq_iff_iff]; simp only [eqRow, eqD, Bool.and_true, Bool.true_and, Bool.and_eq_true]; constructor <;> (intro hh; simp only [hh, and_self]))
/- loop.example/g00119/laws.eqPostS -/
theorem f60 {l l' : Rows} (hl : SL E 114 l) (hl' : SL E 114 l') : Ev fs 60 [.d (.s 6 l), .d (.s 6 l')] (bo ((l.length == l'.length) && eqRows l l')) := by
  refine Ev.bo (af := a60) rfl rfl (fun d n => a60q ..) ?_
  simp only [bne_not, beq_t, beq_f, Bool.not_not, Bool.cond_not, beq_nat, Bool.and_true]
  apply Stp.conv
  · apply stp_if; intro e1
    apply stp_loop (L := fun d n => l60x0 (TabD fs d) d n [(.fz 6 l), (.fz 6 l'), (.v (.int .i64 0))]) (c := eqRows l l') (y := ((.exit 0), []))
    · refine eq_loopE (L := fun d n i => l60x0 (TabD fs d) d n [(.fz 6 l), (.fz 6 l'), (.v (.int .i64 i))]) (len_of (by assumption)) (fun d n => ?_) (fun i x x' hi hi' hx hx' => ?_)
      rw [l60x0s]
      simp -implicitDefEqProofs only [cI, cB, cS, cL, oD_d, oG_g, oT_t, oP_p, dI_v, dB_v, dS_v, dL_s, cell_z, cell_s, nth_z, nth_s, aV_z, aV_s, aI_v, aB_v, aS_v, aL_f, aO_o, aX_b, tst_t, cond_true, cond_false, Ex.same, Nat.beq, List.length_cons, List.length_nil, Int.toNat_natCast, beqTT, beqTF, beqFT, beqFF, Int.lt_irrefl, decide_false]
      have h := (SL.at (E := E) (t := 114) (by assumption) hx)
      have h' := (SL.at (E := E) (t := 114) (by assumption) hx')
      have k := h
      have k' := h'
      rw [E114] at h
      obtain ⟨sx0, rx0, rfl, px0, h_x0⟩ := inv_s h
      obtain ⟨lx1, rx1, rfl, px1, h_x1⟩ := inv_sl W299 h_x0
      obtain ⟨lx2, rx2, rfl, px2, h_x2⟩ := inv_sl W9 h_x1
      obtain ⟨nx3, rx3, rfl, px3, h_x3⟩ := inv_i h_x2
      obtain ⟨nx4, rx4, rfl, px4, h_x4⟩ := inv_i h_x3
      obtain ⟨nx5, rx5, rfl, px5, h_x5⟩ := inv_i h_x4
      cases inv_nil h_x5
      rw [E114] at h'
      obtain ⟨sy0, ry0, rfl, py0, hq_y0⟩ := inv_s h'
      obtain ⟨ly1, ry1, rfl, py1, hq_y1⟩ := inv_sl W299 hq_y0
      obtain ⟨ly2, ry2, rfl, py2, hq_y2⟩ := inv_sl W9 hq_y1
      obtain ⟨ny3, ry3, rfl, py3, hq_y3⟩ := inv_i hq_y2
      obtain ⟨ny4, ry4, rfl, py4, hq_y4⟩ := inv_i hq_y3
      obtain ⟨ny5, ry5, rfl, py5, hq_y5⟩ := inv_i hq_y4
      cases inv_nil hq_y5
      simp only [l60x0s]
      simp -implicitDefEqProofs only [cI, cB, cS, cL, oD_d, oG_g, oT_t, oP_p, dI_v, dB_v, dS_v, dL_s, cell_z, cell_s, nth_z, nth_s, aV_z, aV_s, aI_v, aB_v, aS_v, aL_f, aO_o, aX_b, tst_t, cond_true, cond_false, Ex.same, Nat.beq, List.length_cons, List.length_nil, Int.toNat_natCast, beqTT, beqTF, beqFT, beqFF, decide_eq_true (Int.ofNat_lt.2 hi), dec_nn, look_at hx, look_at hx', wrap_succ hi (SL.le (E := E) (t := 114) (by assumption)), List.append_nil]
      simp only [bne_not, beq_t, beq_f, Bool.not_not, Bool.cond_not, beq_nat, Bool.and_true]
      apply Stp.conv
      · apply stp_call
        · exact f165 (by assumption) (by assumption)
        apply stp_if; intro g1
        exact stp_end
      · first | (simp only [eqRow, eqD, Bool.and_true, Bool.true_and, Bool.and_assoc]; done) | (simp only [eqRow, eqD, Bool.and_true, Bool.true_and, Bool.and_assoc]; ac_rfl) | (rw [Bool.eq_iff_iff]; simp only [eqRow, eqD, Bool.and_true, Bool.true_and, Bool.and_eq_true]; constructor <;> (intro hh; simp only [hh, and_self]))
    any_goals (intro d n; simp -implicitDefEqProofs only [cI, cB, cS, cL, oD_d, oG_g, oT_t, oP_p, dI_v, dB_v, dS_v, dL_s, cell_z, cell_s, nth_z, nth_s, aV_z, aV_s, aI_v, aB_v, aS_v, aL_f, aO_o, aX_b, tst_t, cond_true, cond_false, Ex.same, Nat.beq, List.length_cons, List.length_nil, Int.toNat_natCast, beqTT, beqTF, beqFT, beqFF]; done)
    simp -implicitDefEqProofs only [cI, cB, cS, cL, oD_d, oG_g, oT_t, oP_p, dI_v, dB_v, dS_v, dL_s, cell_z, cell_s, nth_z, nth_s, aV_z, aV_s, aI_v, aB_v, aS_v, aL_f, aO_o, aX_b, tst_t, cond_true, cond_false, Ex.same, Nat.beq, List.length_cons, List.length_nil, Int.toNat_natCast, beqTT, beqTF, beqFT, beqFF]
    first | exact stp_end | exact stp_ret
  · first | (simp only [eqRow, eqD, Bool.and_true, Bool.true_and, Bool.and_assoc]; done) | (simp only [eqRow, eqD, Bool.and_true, Bool.true_and, Bool.and_assoc]; ac_rfl) | (rw [Bool.eq_iff_iff]; simp only [eqRow, eqD, Bool.and_true, Bool.true_and, Bool.and_eq_true]; constructor <;> (intro hh; simp only [hh, and_self]))
/- loop.example/g00119/laws.eqHold -/
theorem f166 {row row' : Row} (h : ShL E (E 111) row) (h' : ShL E (E 111) row') : Ev fs 166 [.g row, .g row'] (bo (eqRow row row')) := by
  rw [E111] at h
  obtain ⟨na0, ra0, rfl, pa0, h_a0⟩ := inv_i h
  obtain ⟨sa1, ra1, rfl, pa1, h_a1⟩ := inv_s h_a0
  obtain ⟨na2, ra2, rfl, pa2, h_a2⟩ := inv_i h_a1
  obtain ⟨na3, ra3, rfl, pa3, h_a3⟩ := inv_i h_a2
  obtain ⟨na4, ra4, rfl, pa4, h_a4⟩ := inv_i h_a3
  cases inv_nil h_a4
  rw [E111] at h'
  obtain ⟨nc0, rc0, rfl, pc0, hq_c0⟩ := inv_i h'
  obtain ⟨sc1, rc1, rfl, pc1, hq_c1⟩ := inv_s hq_c0
  obtain ⟨nc2, rc2, rfl, pc2, hq_c2⟩ := inv_i hq_c1
  obtain ⟨nc3, rc3, rfl, pc3, hq_c3⟩ := inv_i hq_c2
  obtain ⟨nc4, rc4, rfl, pc4, hq_c4⟩ := inv_i hq_c3
  cases inv_nil hq_c4
  refine Ev.bo (af := a166) rfl rfl (fun d n => a166q ..) ?_
  simp only [bne_not, beq_t, beq_f, Bool.not_not, Bool.cond_not, beq_nat, Bool.and_true]
  apply Stp.conv
  · apply stp_if; intro e1
    apply stp_if; intro e2
    apply stp_if; intro e3
    apply stp_if; intro e4
    apply stp_if; intro e5
    first | exact stp_end | exact stp_ret
  · first | (simp only [eqRow, eqD, Bool.and_true, Bool.true_and, Bool.and_assoc]; done) | (simp only [eqRow, eqD, Bool.and_true, Bool.true_and, Bool.and_assoc]; ac_rfl) | (rw [Bool.eq_iff_iff]; simp only [eqRow, eqD, Bool.and_true, Bool.true_and, Bool.and_eq_true]; constructor <;> (intro hh; simp only [hh, and_self]))
/- loop.example/g00119/laws.eqHoldS -/
theorem f61 {l l' : Rows} (hl : SL E 111 l) (hl' : SL E 111 l') : Ev fs 61 [.d (.s 5 l), .d (.s 5 l')] (bo ((l.length == l'.length) && eqRows l l')) := by
  refine Ev.bo (af := a61) rfl rfl (fun d n => a61q ..) ?_
  simp only [bne_not, beq_t, beq_f, Bool.not_not, Bool.cond_not, beq_nat, Bool.and_true]
  apply Stp.conv
  · apply stp_if; intro e1
    apply stp_loop (L := fun d n => l61x0 (TabD fs d) d n [(.fz 5 l), (.fz 5 l'), (.v (.int .i64 0))]) (c := eqRows l l') (y := ((.exit 0), []))
    · refine eq_loopE (L := fun d n i => l61x0 (TabD fs d) d n [(.fz 5 l), (.fz 5 l'), (.v (.int .i64 i))]) (len_of (by assumption)) (fun d n => ?_) (fun i x x' hi hi' hx hx' => ?_)
      rw [l61x0s]
      simp -implicitDefEqProofs only [cI, cB, cS, cL, oD_d, oG_g, oT_t, oP_p, dI_v, dB_v, dS_v, dL_s, cell_z, cell_s, nth_z, nth_s, aV_z, aV_s, aI_v, aB_v, aS_v, aL_f, aO_o, aX_b, tst_t, cond_true, cond_false, Ex.same, Nat.beq, List.length_cons, List.length_nil, Int.toNat_natCast, beqTT, beqTF, beqFT, beqFF, Int.lt_irrefl, decide_false]
      have h := (SL.at (E := E) (t := 111) (by assumption) hx)
      have h' := (SL.at (E := E) (t := 111) (by assumption) hx')
      have k := h
      have k' := h'
      rw [E111] at h
      obtain ⟨nx0, rx0, rfl, px0, h_x0⟩ := inv_i h
      obtain ⟨sx1, rx1, rfl, px1, h_x1⟩ := inv_s h_x0
      obtain ⟨nx2, rx2, rfl, px2, h_x2⟩ := inv_i h_x1
      obtain ⟨nx3, rx3, rfl, px3, h_x3⟩ := inv_i h_x2
      obtain ⟨nx4, rx4, rfl, px4, h_x4⟩ := inv_i h_x3
      cases inv_nil h_x4
      rw [E111] at h'
      obtain ⟨ny0, ry0, rfl, py0, hq_y0⟩ := inv_i h'
      obtain ⟨sy1, ry1, rfl, py1, hq_y1⟩ := inv_s hq_y0
      obtain ⟨ny2, ry2, rfl, py2, hq_y2⟩ := inv_i hq_y1
      obtain ⟨ny3, ry3, rfl, py3, hq_y3⟩ := inv_i hq_y2
      obtain ⟨ny4, ry4, rfl, py4, hq_y4⟩ := inv_i hq_y3
      cases inv_nil hq_y4
      simp only [l61x0s]
      simp -implicitDefEqProofs only [cI, cB, cS, cL, oD_d, oG_g, oT_t, oP_p, dI_v, dB_v, dS_v, dL_s, cell_z, cell_s, nth_z, nth_s, aV_z, aV_s, aI_v, aB_v, aS_v, aL_f, aO_o, aX_b, tst_t, cond_true, cond_false, Ex.same, Nat.beq, List.length_cons, List.length_nil, Int.toNat_natCast, beqTT, beqTF, beqFT, beqFF, decide_eq_true (Int.ofNat_lt.2 hi), dec_nn, look_at hx, look_at hx', wrap_succ hi (SL.le (E := E) (t := 111) (by assumption)), List.append_nil]
      simp only [bne_not, beq_t, beq_f, Bool.not_not, Bool.cond_not, beq_nat, Bool.and_true]
      apply Stp.conv
      · apply stp_call
        · exact f166 (by assumption) (by assumption)
        apply stp_if; intro g1
        exact stp_end
      · first | (simp only [eqRow, eqD, Bool.and_true, Bool.true_and, Bool.and_assoc]; done) | (simp only [eqRow, eqD, Bool.and_true, Bool.true_and, Bool.and_assoc]; ac_rfl) | (rw [Bool.eq_iff_iff]; simp only [eqRow, eqD, Bool.and_true, Bool.true_and, Bool.and_eq_true]; constructor <;> (intro hh; simp only [hh, and_self]))
    any_goals (intro d n; simp -implicitDefEqProofs only [cI, cB, cS, cL, oD_d, oG_g, oT_t, oP_p, dI_v, dB_v, dS_v, dL_s, cell_z, cell_s, nth_z, nth_s, aV_z, aV_s, aI_v, aB_v, aS_v, aL_f, aO_o, aX_b, tst_t, cond_true, cond_false, Ex.same, Nat.beq, List.length_cons, List.length_nil, Int.toNat_natCast, beqTT, beqTF, beqFT, beqFF]; done)
    simp -implicitDefEqProofs only [cI, cB, cS, cL, oD_d, oG_g, oT_t, oP_p, dI_v, dB_v, dS_v, dL_s, cell_z, cell_s, nth_z, nth_s, aV_z, aV_s, aI_v, aB_v, aS_v, aL_f, aO_o, aX_b, tst_t, cond_true, cond_false, Ex.same, Nat.beq, List.length_cons, List.length_nil, Int.toNat_natCast, beqTT, beqTF, beqFT, beqFF]
    first | exact stp_end | exact stp_ret
  · first | (simp only [eqRow, eqD, Bool.and_true, Bool.true_and, Bool.and_assoc]; done) | (simp only [eqRow, eqD, Bool.and_true, Bool.true_and, Bool.and_assoc]; ac_rfl) | (rw [Bool.eq_iff_iff]; simp only [eqRow, eqD, Bool.and_true, Bool.true_and, Bool.and_eq_true]; constructor <;> (intro hh; simp only [hh, and_self]))
/- loop.example/g00119/laws.eqHub -/
theorem f14 {row row' : Row} (h : ShL E (E 35) row) (h' : ShL E (E 35) row') : Ev fs 14 [.g row, .g row'] (bo (eqRow row row')) := by
  rw [E35] at h
  obtain ⟨na0, ra0, rfl, pa0, h_a0⟩ := inv_i h
  obtain ⟨na1, ra1, rfl, pa1, h_a1⟩ := inv_i h_a0
  obtain ⟨na2, ra2, rfl, pa2, h_a2⟩ := inv_i h_a1
  obtain ⟨la3, ra3, rfl, pa3, h_a3⟩ := inv_sl W101 h_a2
  obtain ⟨la4, ra4, rfl, pa4, h_a4⟩ := inv_sl W114 h_a3
  obtain ⟨la5, ra5, rfl, pa5, h_a5⟩ := inv_sl W111 h_a4
  obtain ⟨la6, ra6, rfl, pa6, h_a6⟩ := inv_sl W9 h_a5
  cases inv_nil h_a6
  rw [E35] at h'
  obtain ⟨nc0, rc0, rfl, pc0, hq_c0⟩ := inv_i h'
  obtain ⟨nc1, rc1, rfl, pc1, hq_c1⟩ := inv_i hq_c0
  obtain ⟨nc2, rc2, rfl, pc2, hq_c2⟩ := inv_i hq_c1
  obtain ⟨lc3, rc3, rfl, pc3, hq_c3⟩ := inv_sl W101 hq_c2
  obtain ⟨lc4, rc4, rfl, pc4, hq_c4⟩ := inv_sl W114 hq_c3
  obtain ⟨lc5, rc5, rfl, pc5, hq_c5⟩ := inv_sl W111 hq_c4
  obtain ⟨lc6, rc6, rfl, pc6, hq_c6⟩ := inv_sl W9 hq_c5
  cases inv_nil hq_c6
  refine Ev.bo (af := a14) rfl rfl (fun d n => a14q ..) ?_
  simp only [bne_not, beq_t, beq_f, Bool.not_not, Bool.cond_not, beq_nat, Bool.and_true]
  apply Stp.conv
  · apply stp_if; intro e1
    apply stp_if; intro e2
    apply stp_if; intro e3
    apply stp_call
    · exact f59 (by assumption) (by assumption)
    apply stp_if; intro e4
    apply stp_call
    · exact f60 (by assumption) (by assumption)
    apply stp_if; intro e5
    apply stp_call
    · exact f61 (by assumption) (by assumption)
    apply stp_if; intro e6
    apply stp_call
    · exact f62 (by assumption) (by assumption)
    apply stp_if; intro e7
    first | exact stp_end | exact stp_ret
  · first | (simp only [eqRow, eqD, Bool.and_true, Bool.true_and, Bool.and_assoc]; done) | (simp only [eqRow, eqD, Bool.and_true, Bool.true_and, Bool.and_assoc]; ac_rfl) | (rw [Bool.eq_iff_iff]; simp only [eqRow, eqD, Bool.and_true, Bool.true_and, Bool.and_eq_true]; constructor <;> (intro hh; simp only [hh, and_self]))
/- loop.example/g00119/laws.eqByteS -/
theorem f109 {l l' : Rows} (hl : SL E 5 l) (hl' : SL E 5 l') : Ev fs 109 [.d (.s 1 l), .d (.s 1 l')] (bo ((l.length == l'.length) && eqRows l l')) := by
  refine Ev.bo (af := a109) rfl rfl (fun d n => a109q ..) ?_
  simp only [bne_not, beq_t, beq_f, Bool.not_not, Bool.cond_not, beq_nat, Bool.and_true]
  apply Stp.conv
  · apply stp_if; intro e1
    apply stp_loop (L := fun d n => l109x0 (TabD fs d) d n [(.fz 1 l), (.fz 1 l'), (.v (.int .i64 0))]) (c := eqRows l l') (y := ((.exit 0), []))
    · refine eq_loopE (L := fun d n i => l109x0 (TabD fs d) d n [(.fz 1 l), (.fz 1 l'), (.v (.int .i64 i))]) (len_of (by assumption)) (fun d n => ?_) (fun i x x' hi hi' hx hx' => ?_)
      rw [l109x0s]
      simp -implicitDefEqProofs only [cI, cB, cS, cL, oD_d, oG_g, oT_t, oP_p, dI_v, dB_v, dS_v, dL_s, cell_z, cell_s, nth_z, nth_s, aV_z, aV_s, aI_v, aB_v, aS_v, aL_f, aO_o, aX_b, tst_t, cond_true, cond_false, Ex.same, Nat.beq, List.length_cons, List.length_nil, Int.toNat_natCast, beqTT, beqTF, beqFT, beqFF, Int.lt_irrefl, decide_false]
      have h := (SL.at (E := E) (t := 5) (by assumption) hx)
      have h' := (SL.at (E := E) (t := 5) (by assumption) hx')
      have k := h
      have k' := h'
      rw [E5] at h
      obtain ⟨nx0, rx0, rfl, px0, h_x0⟩ := inv_i h
      cases inv_nil h_x0
      rw [E5] at h'
      obtain ⟨ny0, ry0, rfl, py0, hq_y0⟩ := inv_i h'
      cases inv_nil hq_y0
      simp only [l109x0s]
      simp -implicitDefEqProofs only [cI, cB, cS, cL, oD_d, oG_g, oT_t, oP_p, dI_v, dB_v, dS_v, dL_s, cell_z, cell_s, nth_z, nth_s, aV_z, aV_s, aI_v, aB_v, aS_v, aL_f, aO_o, aX_b, tst_t, cond_true, cond_false, Ex.same, Nat.beq, List.length_cons, List.length_nil, Int.toNat_natCast, beqTT, beqTF, beqFT, beqFF, decide_eq_true (Int.ofNat_lt.2 hi), dec_nn, look_at hx, look_at hx', wrap_succ hi (SL.le (E := E) (t := 5) (by assumption)), List.append_nil]
      simp only [bne_not, beq_t, beq_f, Bool.not_not, Bool.cond_not, beq_nat, Bool.and_true]
      apply Stp.conv
      · apply stp_if; intro g1
        exact stp_end
      · first | (simp only [eqRow, eqD, Bool.and_true, Bool.true_and, Bool.and_assoc]; done) | (simp only [eqRow, eqD, Bool.and_true, Bool.true_and, Bool.and_assoc]; ac_rfl) | (rw [Bool.eq_iff_iff]; simp only [eqRow, eqD, Bool.and_true, Bool.true_and, Bool.and_eq_true]; constructor <;> (intro hh; simp only [hh, and_self]))
    any_goals (intro d n; simp -implicitDefEqProofs only [cI, cB, cS, cL, oD_d, oG_g, oT_t, oP_p, dI_v, dB_v, dS_v, dL_s, cell_z, cell_s, nth_z, nth_s, aV_z, aV_s, aI_v, aB_v, aS_v, aL_f, aO_o, aX_b, tst_t, cond_true, cond_false, Ex.same, Nat.beq, List.length_cons, List.length_nil, Int.toNat_natCast, beqTT, beqTF, beqFT, beqFF]; done)
    simp -implicitDefEqProofs only [cI, cB, cS, cL, oD_d, oG_g, oT_t, oP_p, dI_v, dB_v, dS_v, dL_s, cell_z, cell_s, nth_z, nth_s, aV_z, aV_s, aI_v, aB_v, aS_v, aL_f, aO_o, aX_b, tst_t, cond_true, cond_false, Ex.same, Nat.beq, List.length_cons, List.length_nil, Int.toNat_natCast, beqTT, beqTF, beqFT, beqFF]
    first | exact stp_end | exact stp_ret
  · first | (simp only [eqRow, eqD, Bool.and_true, Bool.true_and, Bool.and_assoc]; done) | (simp only [eqRow, eqD, Bool.and_true, Bool.true_and, Bool.and_assoc]; ac_rfl) | (rw [Bool.eq_iff_iff]; simp only [eqRow, eqD, Bool.and_true, Bool.true_and, Bool.and_eq_true]; constructor <;> (intro hh; simp only [hh, and_self]))
/- loop.example/g00119/laws.eqIsleS -/
theorem f110 {l l' : Rows} (hl : SL E 83 l) (hl' : SL E 83 l') : Ev fs 110 [.d (.s 5 l), .d (.s 5 l')] (bo ((l.length == l'.length) && eqRows l l')) := by
  refine Ev.bo (af := a110) rfl rfl (fun d n => a110q ..) ?_
  simp only [bne_not, beq_t, beq_f, Bool.not_not, Bool.cond_not, beq_nat, Bool.and_true]
  apply Stp.conv
  · apply stp_if; intro e1
    apply stp_loop (L := fun d n => l110x0 (TabD fs d) d n [(.fz 5 l), (.fz 5 l'), (.v (.int .i64 0))]) (c := eqRows l l') (y := ((.exit 0), []))
    · refine eq_loopE (L := fun d n i => l110x0 (TabD fs d) d n [(.fz 5 l), (.fz 5 l'), (.v (.int .i64 i))]) (len_of (by assumption)) (fun d n => ?_) (fun i x x' hi hi' hx hx' => ?_)
      rw [l110x0s]
      simp -implicitDefEqProofs only [cI, cB, cS, cL, oD_d, oG_g, oT_t, oP_p, dI_v, dB_v, dS_v, dL_s, cell_z, cell_s, nth_z, nth_s, aV_z, aV_s, aI_v, aB_v, aS_v, aL_f, aO_o, aX_b, tst_t, cond_true, cond_false, Ex.same, Nat.beq, List.length_cons, List.length_nil, Int.toNat_natCast, beqTT, beqTF, beqFT, beqFF, Int.lt_irrefl, decide_false]
      have h := (SL.at (E := E) (t := 83) (by assumption) hx)
      have h' := (SL.at (E := E) (t := 83) (by assumption) hx')
      have k := h
      have k' := h'
      rw [E83] at h
      obtain ⟨sx0, rx0, rfl, px0, h_x0⟩ := inv_s h
      obtain ⟨nx1, rx1, rfl, px1, h_x1⟩ := inv_i h_x0
      obtain ⟨nx2, rx2, rfl, px2, h_x2⟩ := inv_i h_x1
      obtain ⟨lx3, rx3, rfl, px3, h_x3⟩ := inv_sl W270 h_x2
      obtain ⟨lx4, rx4, rfl, px4, h_x4⟩ := inv_sl W238 h_x3
      cases inv_nil h_x4
      rw [E83] at h'
      obtain ⟨sy0, ry0, rfl, py0, hq_y0⟩ := inv_s h'
      obtain ⟨ny1, ry1, rfl, py1, hq_y1⟩ := inv_i hq_y0
      obtain ⟨ny2, ry2, rfl, py2, hq_y2⟩ := inv_i hq_y1
      obtain ⟨ly3, ry3, rfl, py3, hq_y3⟩ := inv_sl W270 hq_y2
      obtain ⟨ly4, ry4, rfl, py4, hq_y4⟩ := inv_sl W238 hq_y3
      cases inv_nil hq_y4
      simp only [l110x0s]
      simp -implicitDefEqProofs only [cI, cB, cS, cL, oD_d, oG_g, oT_t, oP_p, dI_v, dB_v, dS_v, dL_s, cell_z, cell_s, nth_z, nth_s, aV_z, aV_s, aI_v, aB_v, aS_v, aL_f, aO_o, aX_b, tst_t, cond_true, cond_false, Ex.same, Nat.beq, List.length_cons, List.length_nil, Int.toNat_natCast, beqTT, beqTF, beqFT, beqFF, decide_eq_true (Int.ofNat_lt.2 hi), dec_nn, look_at hx, look_at hx', wrap_succ hi (SL.le (E := E) (t := 83) (by assumption)), List.append_nil]
      simp only [bne_not, beq_t, beq_f, Bool.not_not, Bool.cond_not, beq_nat, Bool.and_true]
      apply Stp.conv
      · apply stp_call
        · exact f27 (by assumption) (by assumption)
        apply stp_if; intro g1
        exact stp_end
      · first | (simp only [eqRow, eqD, Bool.and_true, Bool.true_and, Bool.and_assoc]; done) | (simp only [eqRow, eqD, Bool.and_true, Bool.true_and, Bool.and_assoc]; ac_rfl) | (rw [Bool.eq_iff_iff]; simp only [eqRow, eqD, Bool.and_true, Bool.true_and, Bool.and_eq_true]; constructor <;> (intro hh; simp only [hh, and_self]))
    any_goals (intro d n; simp -implicitDefEqProofs only [cI, cB, cS, cL, oD_d, oG_g, oT_t, oP_p, dI_v, dB_v, dS_v, dL_s, cell_z, cell_s, nth_z, nth_s, aV_z, aV_s, aI_v, aB_v, aS_v, aL_f, aO_o, aX_b, tst_t, cond_true, cond_false, Ex.same, Nat.beq, List.length_cons, List.length_nil, Int.toNat_natCast, beqTT, beqTF, beqFT, beqFF]; done)
    simp -implicitDefEqProofs only [cI, cB, cS, cL, oD_d, oG_g, oT_t, oP_p, dI_v, dB_v, dS_v, dL_s, cell_z, cell_s, nth_z, nth_s, aV_z, aV_s, aI_v, aB_v, aS_v, aL_f, aO_o, aX_b, tst_t, cond_true, cond_false, Ex.same, Nat.beq, List.length_cons, List.length_nil, Int.toNat_natCast, beqTT, beqTF, beqFT, beqFF]
    first | exact stp_end | exact stp_ret
  · first | (simp only [eqRow, eqD, Bool.and_true, Bool.true_and, Bool.and_assoc]; done) | (simp only [eqRow, eqD, Bool.and_true, Bool.true_and, Bool.and_assoc]; ac_rfl) | (rw [Bool.eq_iff_iff]; simp only [eqRow, eqD, Bool.and_true, Bool.true_and, Bool.and_eq_true]; constructor <;> (intro hh; simp only [hh, and_self]))
/- loop.example/g00119/laws.eqMsg -/
theorem f216 {row row' : Row} (h : ShL E (E 193) row) (h' : ShL E (E 193) row') : Ev fs 216 [.g row, .g row'] (bo (eqRow row row')) := by
  rw [E193] at h
  obtain ⟨na0, ra0, rfl, pa0, h_a0⟩ := inv_i h
  obtain ⟨sa1, ra1, rfl, pa1, h_a1⟩ := inv_s h_a0
  obtain ⟨na2, ra2, rfl, pa2, h_a2⟩ := inv_i h_a1
  obtain ⟨la3, ra3, rfl, pa3, h_a3⟩ := inv_sl W270 h_a2
  obtain ⟨la4, ra4, rfl, pa4, h_a4⟩ := inv_sl W238 h_a3
  cases inv_nil h_a4
  rw [E193] at h'
  obtain ⟨nc0, rc0, rfl, pc0, hq_c0⟩ := inv_i h'
  obtain ⟨sc1, rc1, rfl, pc1, hq_c1⟩ := inv_s hq_c0
  obtain ⟨nc2, rc2, rfl, pc2, hq_c2⟩ := inv_i hq_c1
  obtain ⟨lc3, rc3, rfl, pc3, hq_c3⟩ := inv_sl W270 hq_c2
  obtain ⟨lc4, rc4, rfl, pc4, hq_c4⟩ := inv_sl W238 hq_c3
  cases inv_nil hq_c4
  refine Ev.bo (af := a216) rfl rfl (fun d n => a216q ..) ?_
  simp only [bne_not, beq_t, beq_f, Bool.not_not, Bool.cond_not, beq_nat, Bool.and_true]
  apply Stp.conv
  · apply stp_if; intro e1
    apply stp_if; intro e2
    apply stp_if; intro e3
    apply stp_call
    · exact f108 (by assumption) (by assumption)
    apply stp_if; intro e4
    apply stp_call
    · exact f98 (by assumption) (by assumption)
    apply stp_if; intro e5
    first | exact stp_end | exact stp_ret
  · first | (simp only [eqRow, eqD, Bool.and_true, Bool.true_and, Bool.and_assoc]; done) | (simp only [eqRow, eqD, Bool.and_true, Bool.true_and, Bool.and_assoc]; ac_rfl) | (rw [Bool.eq_iff_iff]; simp only [eqRow, eqD, Bool.and_true, Bool.true_and, Bool.and_eq_true]; constructor <;> (intro hh; simp only [hh, and_self]))
/- loop.example/g00119/laws.eqMsgS -/
theorem f111 {l l' : Rows} (hl : SL E 193 l) (hl' : SL E 193 l') : Ev fs 111 [.d (.s 5 l), .d (.s 5 l')] (bo ((l.length == l'.length) && eqRows l l')) := by
  refine Ev.bo (af := a111) rfl rfl (fun d n => a111q ..) ?_
  simp only [bne_not, beq_t, beq_f, Bool.not_not, Bool.cond_not, beq_nat, Bool.and_true]
  apply Stp.conv
  · apply stp_if; intro e1
    apply stp_loop (L := fun d n => l111x0 (TabD fs d) d n [(.fz 5 l), (.fz 5 l'), (.v (.int .i64 0))]) (c := eqRows l l') (y := ((.exit 0), []))
    · refine eq_loopE (L := fun d n i => l111x0 (TabD fs d) d n [(.fz 5 l), (.fz 5 l'), (.v (.int .i64 i))]) (len_of (by assumption)) (fun d n => ?_) (fun i x x' hi hi' hx hx' => ?_)
      rw [l111x0s]
      simp -implicitDefEqProofs only [cI, cB, cS, cL, oD_d, oG_g, oT_t, oP_p, dI_v, dB_v, dS_v, dL_s, cell_z, cell_s, nth_z, nth_s, aV_z, aV_s, aI_v, aB_v, aS_v, aL_f, aO_o, aX_b, tst_t, cond_true, cond_false, Ex.same, Nat.beq, List.length_cons, List.length_nil, Int.toNat_natCast, beqTT, beqTF, beqFT, beqFF, Int.lt_irrefl, decide_false]
      have h := (SL.at (E := E) (t := 193) (by assumption) hx)
      have h' := (SL.at (E := E) (t := 193) (by assumption) hx')
      have k := h
      have k' := h'
      rw [E193] at h
      obtain ⟨nx0, rx0, rfl, px0, h_x0⟩ := inv_i h
      obtain ⟨sx1, rx1, rfl, px1, h_x1⟩ := inv_s h_x0
      obtain ⟨nx2, rx2, rfl, px2, h_x2⟩ := inv_i h_x1
      obtain ⟨lx3, rx3, rfl, px3, h_x3⟩ := inv_sl W270 h_x2
      obtain ⟨lx4, rx4, rfl, px4, h_x4⟩ := inv_sl W238 h_x3
      cases inv_nil h_x4
      rw [E193] at h'
      obtain ⟨ny0, ry0, rfl, py0, hq_y0⟩ := inv_i h'
      obtain ⟨sy1, ry1, rfl, py1, hq_y1⟩ := inv_s hq_y0
      obtain ⟨ny2, ry2, rfl, py2, hq_y2⟩ := inv_i hq_y1
      obtain ⟨ly3, ry3, rfl, py3, hq_y3⟩ := inv_sl W270 hq_y2
      obtain ⟨ly4, ry4, rfl, py4, hq_y4⟩ := inv_sl W238 hq_y3
      cases inv_nil hq_y4
      simp only [l111x0s]
      simp -implicitDefEqProofs only [cI, cB, cS, cL, oD_d, oG_g, oT_t, oP_p, dI_v, dB_v, dS_v, dL_s, cell_z, cell_s, nth_z, nth_s, aV_z, aV_s, aI_v, aB_v, aS_v, aL_f, aO_o, aX_b, tst_t, cond_true, cond_false, Ex.same, Nat.beq, List.length_cons, List.length_nil, Int.toNat_natCast, beqTT, beqTF, beqFT, beqFF, decide_eq_true (Int.ofNat_lt.2 hi), dec_nn, look_at hx, look_at hx', wrap_succ hi (SL.le (E := E) (t := 193) (by assumption)), List.append_nil]
      simp only [bne_not, beq_t, beq_f, Bool.not_not, Bool.cond_not, beq_nat, Bool.and_true]
      apply Stp.conv
      · apply stp_call
        · exact f216 (by assumption) (by assumption)
        apply stp_if; intro g1
        exact stp_end
      · first | (simp only [eqRow, eqD, Bool.and_true, Bool.true_and, Bool.and_assoc]; done) | (simp only [eqRow, eqD, Bool.and_true, Bool.true_and, Bool.and_assoc]; ac_rfl) | (rw [Bool.eq_iff_iff]; simp only [eqRow, eqD, Bool.and_true, Bool.true_and, Bool.and_eq_true]; constructor <;> (intro hh; simp only [hh, and_self]))
    any_goals (intro d n; simp -implicitDefEqProofs only [cI, cB, cS, cL, oD_d, oG_g, oT_t, oP_p, dI_v, dB_v, dS_v, dL_s, cell_z, cell_s, nth_z, nth_s, aV_z, aV_s, aI_v, aB_v, aS_v, aL_f, aO_o, aX_b, tst_t, cond_true, cond_false, Ex.same, Nat.beq, List.length_cons, List.length_nil, Int.toNat_natCast, beqTT, beqTF, beqFT, beqFF]; done)
    simp -implicitDefEqProofs only [cI, cB, cS, cL, oD_d, oG_g, oT_t, oP_p, dI_v, dB_v, dS_v, dL_s, cell_z, cell_s, nth_z, nth_s, aV_z, aV_s, aI_v, aB_v, aS_v, aL_f, aO_o, aX_b, tst_t, cond_true, cond_false, Ex.same, Nat.beq, List.length_cons, List.length_nil, Int.toNat_natCast, beqTT, beqTF, beqFT, beqFF]
    first | exact stp_end | exact stp_ret
  · first | (simp only [eqRow, eqD, Bool.and_true, Bool.true_and, Bool.and_assoc]; done) | (simp only [eqRow, eqD, Bool.and_true, Bool.true_and, Bool.and_assoc]; ac_rfl) | (rw [Bool.eq_iff_iff]; simp only [eqRow, eqD, Bool.and_true, Bool.true_and, Bool.and_eq_true]; constructor <;> (intro hh; simp only [hh, and_self]))
/- loop.example/g00119/laws.eqFed -/
theorem f28 {row row' : Row} (h : ShL E (E 89) row) (h' : ShL E (E 89) row') : Ev fs 28 [.g row, .g row'] (bo (eqRow row row')) := by
  rw [E89] at h
  obtain ⟨na0, ra0, rfl, pa0, h_a0⟩ := inv_i h
  obtain ⟨na1, ra1, rfl, pa1, h_a1⟩ := inv_i h_a0
  obtain ⟨na2, ra2, rfl, pa2, h_a2⟩ := inv_i h_a1
  obtain ⟨la3, ra3, rfl, pa3, h_a3⟩ := inv_sl W101 h_a2
  obtain ⟨la4, ra4, rfl, pa4, h_a4⟩ := inv_sl W114 h_a3
  obtain ⟨la5, ra5, rfl, pa5, h_a5⟩ := inv_sl W111 h_a4
  obtain ⟨la6, ra6, rfl, pa6, h_a6⟩ := inv_sl W9 h_a5
  obtain ⟨ba7, ra7, rfl, h_a7⟩ := inv_b h_a6
  obtain ⟨la8, ra8, rfl, pa8, h_a8⟩ := inv_sl W5 h_a7
  obtain ⟨la9, ra9, rfl, pa9, h_a9⟩ := inv_sl W83 h_a8
  obtain ⟨la10, ra10, rfl, pa10, h_a10⟩ := inv_sl W193 h_a9
  obtain ⟨la11, ra11, rfl, pa11, h_a11⟩ := inv_sl W9 h_a10
  cases inv_nil h_a11
  rw [E89] at h'
  obtain ⟨nc0, rc0, rfl, pc0, hq_c0⟩ := inv_i h'
  obtain ⟨nc1, rc1, rfl, pc1, hq_c1⟩ := inv_i hq_c0
  obtain ⟨nc2, rc2, rfl, pc2, hq_c2⟩ := inv_i hq_c1
  obtain ⟨lc3, rc3, rfl, pc3, hq_c3⟩ := inv_sl W101 hq_c2
  obtain ⟨lc4, rc4, rfl, pc4, hq_c4⟩ := inv_sl W114 hq_c3
  obtain ⟨lc5, rc5, rfl, pc5, hq_c5⟩ := inv_sl W111 hq_c4
  obtain ⟨lc6, rc6, rfl, pc6, hq_c6⟩ := inv_sl W9 hq_c5
  obtain ⟨bc7, rc7, rfl, hq_c7⟩ := inv_b hq_c6
  obtain ⟨lc8, rc8, rfl, pc8, hq_c8⟩ := inv_sl W5 hq_c7
  obtain ⟨lc9, rc9, rfl, pc9, hq_c9⟩ := inv_sl W83 hq_c8
  obtain ⟨lc10, rc10, rfl, pc10, hq_c10⟩ := inv_sl W193 hq_c9
  obtain ⟨lc11, rc11, rfl, pc11, hq_c11⟩ := inv_sl W9 hq_c10
  cases inv_nil hq_c11
  refine Ev.bo (af := a28) rfl rfl (fun d n => a28q ..) ?_
  simp only [bne_not, beq_t, beq_f, Bool.not_not, Bool.cond_not, beq_nat, Bool.and_true]
  apply Stp.conv
  · apply stp_call
    · exact f14 (by rw [E35]; exact mk_i (by assumption) (mk_i (by assumption) (mk_i (by assumption) (mk_sl W101 (by assumption) (mk_sl W114 (by assumption) (mk_sl W111 (by assumption) (mk_sl W9 (by assumption) (ShL.nil)))))))) (by rw [E35]; exact mk_i (by assumption) (mk_i (by assumption) (mk_i (by assumption) (mk_sl W101 (by assumption) (mk_sl W114 (by assumption) (mk_sl W111 (by assumption) (mk_sl W9 (by assumption) (ShL.nil))))))))
    apply stp_if; intro e1
    apply stp_if; intro e2
    apply stp_call
    · exact f109 (by assumption) (by assumption)
    apply stp_if; intro e3
    apply stp_call
    · exact f110 (by assumption) (by assumption)
    apply stp_if; intro e4
    apply stp_call
    · exact f111 (by assumption) (by assumption)
    apply stp_if; intro e5
    apply stp_call
    · exact f62 (by assumption) (by assumption)
    apply stp_if; intro e6
    first | exact stp_end | exact stp_ret
  · first | (simp only [eqRow, eqD, Bool.and_true, Bool.true_and, Bool.and_assoc]; done) | (simp only [eqRow, eqD, Bool.and_true, Bool.true_and, Bool.and_assoc]; ac_rfl) | (rw [Bool.eq_iff_iff]; simp only [eqRow, eqD, Bool.and_true, Bool.true_and, Bool.and_eq_true]; constructor <;> (intro hh; simp only [hh, and_self]))
end Go.Am.Is
