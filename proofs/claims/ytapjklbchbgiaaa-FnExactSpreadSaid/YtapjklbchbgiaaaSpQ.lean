/- What the functions of one family say in the end. Nothing is assumed. -/
import Derived.Test.YtapjklbchbgiaaaSpH
namespace Go.Am.Sp
set_option linter.unusedVariables false
set_option linter.unusedSimpArgs false
set_option maxRecDepth 8000
/- loop.example/g00119/laws.eqStringS -/
theorem f63 {l l' : Rows} (hl : SL E 9 l) (hl' : SL E 9 l') : Ev fs 63 [.d (.s 1 l), .d (.s 1 l')] (bo ((l.length == l'.length) && eqRows l l')) := by
  refine Ev.bo (af := a63) rfl rfl (fun d n => a63q ..) ?_
  simp only [bne_not, beq_t, beq_f, Bool.not_not, Bool.cond_not, beq_nat, Bool.and_true]
  apply Stp.conv
  · apply stp_if; intro e1
    apply stp_loop (L := fun d n => l63x0 (TabD fs d) d n [(.fz 1 l), (.fz 1 l'), (.v (.int .i64 0))]) (c := eqRows l l') (y := ((.exit 0), []))
    · refine eq_loopE (L := fun d n i => l63x0 (TabD fs d) d n [(.fz 1 l), (.fz 1 l'), (.v (.int .i64 i))]) (len_of (by assumption)) (fun d n => ?_) (fun i x x' hi hi' hx hx' => ?_)
      rw [l63x0s]
      simp -implicitDefEqProofs only [cI, cB, cS, cL, oD_d, oG_g, oT_t, oP_p, dI_v, dB_v, dS_v, dL_s, cell_z, cell_s, nth_z, nth_s, aV_z, aV_s, aI_v, aB_v, aS_v, aL_f, aO_o, aX_b, tst_t, cond_true, cond_false, Ex.same, Nat.beq, List.length_cons, List.length_nil, Int.toNat_natCast, beqTT, beqTF, beqFT, beqFF, Int.lt_irrefl, decide_false]
      have h := (SL.at (E := E) (t := 9) (by assumption) hx)
      have h' := (SL.at (E := E) (t := 9) (by assumption) hx')
      have k := h
      have k' := h'
      rw [E9] at h
      obtain ⟨sx0, rx0, rfl, px0, h_x0⟩ := inv_s h
      cases inv_nil h_x0
      rw [E9] at h'
      obtain ⟨sy0, ry0, rfl, py0, hq_y0⟩ := inv_s h'
      cases inv_nil hq_y0
      simp only [l63x0s]
      simp -implicitDefEqProofs only [cI, cB, cS, cL, oD_d, oG_g, oT_t, oP_p, dI_v, dB_v, dS_v, dL_s, cell_z, cell_s, nth_z, nth_s, aV_z, aV_s, aI_v, aB_v, aS_v, aL_f, aO_o, aX_b, tst_t, cond_true, cond_false, Ex.same, Nat.beq, List.length_cons, List.length_nil, Int.toNat_natCast, beqTT, beqTF, beqFT, beqFF, decide_eq_true (Int.ofNat_lt.2 hi), dec_nn, look_at hx, look_at hx', wrap_succ hi (SL.le (E := E) (t := 9) (by assumption)), List.append_nil]
      simp only [bne_not, beq_t, beq_f, Bool.not_not, Bool.cond_not, beq_nat, Bool.and_true]
      apply Stp.conv
      · apply stp_if; intro g1
        exact stp_end
      · first | (simp only [eqRow, eqD, Bool.and_true, Bool.true_and, Bool.and_assoc]; done) | (simp only [eqRow, eqD, Bool.and_true, Bool.true_and, Bool.and_assoc]; ac_rfl) | (rw [Bool.eq_iff_iff]; simp only [eqRow, eqD, Bool.and_true, Bool.true_and, Bool.and_eq_true]; constructor <;> (intro hh; simp only [hh, and_self]))
    any_goals (intro d n; simp -implicitDefEqProofs only [cI, cB, cS, cL, oD_d, oG_g, oT_t, oP_p, dI_v, dB_v, dS_v, dL_s, cell_z, cell_s, nth_z, nth_s, aV_z, aV_s, aI_v, aB_v, aS_v, aL_f, aO_o, aX_b, tst_t, cond_true, cond_false, Ex.same, Nat.beq, List.length_cons, List.length_nil, Int.toNat_natCast, beqTT, beqTF, beqFT, beqFF]; done)
    simp -implicitDefEqProofs only [cI, cB, cS, cL, oD_d, oG_g, oT_t, oP_p, dI_v, dB_v, dS_v, dL_s, cell_z, cell_s, nth_z, nth_s, aV_z, aV_s, aI_v, aB_v, aS_v, aL_f, aO_o, aX_b, tst_t, cond_true, cond_false, Ex.same, Nat.beq, List.length_cons, List.length_nil, Int.toNat_natCast, beqTT, beqTF, beqFT, beqFF]
    first | exact stp_end | exact stp_ret
  · first | (simp only [eqRow, eqD, Bool.and_true, Bool.true_and, Bool.and_assoc]; done) | (simp only [eqRow, eqD, Bool.and_true, Bool.true_and, Bool.and_assoc]; ac_rfl) | (rw [Bool.eq_iff_iff]; simp only [eqRow, eqD, Bool.and_true, Bool.true_and, Bool.and_eq_true]; constructor <;> (intro hh; simp only [hh, and_self]))
/- loop.example/g00119/laws.eqValueS -/
mutual
theorem fr127 {row row' : Row} (h : ShL E (E 122) row) (h' : ShL E (E 122) row') (W : Nat) (hW : 2 * wtRow row + 1 = W) : Ev fs 127 [.g row, .g row'] (bo (eqRow row row')) := by
  rw [E122] at h
  obtain ⟨na0, ra0, rfl, pa0, h_a0⟩ := inv_i h
  obtain ⟨sa1, ra1, rfl, pa1, h_a1⟩ := inv_s h_a0
  obtain ⟨na2, ra2, rfl, pa2, h_a2⟩ := inv_i h_a1
  obtain ⟨la3, ra3, rfl, pa3, h_a3⟩ := inv_sl W9 h_a2
  obtain ⟨la4, ra4, rfl, pa4, h_a4⟩ := inv_sl W122 h_a3
  cases inv_nil h_a4
  rw [E122] at h'
  obtain ⟨nc0, rc0, rfl, pc0, hq_c0⟩ := inv_i h'
  obtain ⟨sc1, rc1, rfl, pc1, hq_c1⟩ := inv_s hq_c0
  obtain ⟨nc2, rc2, rfl, pc2, hq_c2⟩ := inv_i hq_c1
  obtain ⟨lc3, rc3, rfl, pc3, hq_c3⟩ := inv_sl W9 hq_c2
  obtain ⟨lc4, rc4, rfl, pc4, hq_c4⟩ := inv_sl W122 hq_c3
  cases inv_nil hq_c4
  refine Ev.bo (af := a127) rfl rfl (fun d n => a127q ..) ?_
  simp only [bne_not, beq_t, beq_f, Bool.not_not, Bool.cond_not, beq_nat, Bool.and_true]
  apply Stp.conv
  · apply stp_if; intro e1
    apply stp_if; intro e2
    apply stp_if; intro e3
    apply stp_call
    · exact f63 (by assumption) (by assumption)
    apply stp_if; intro e4
    apply stp_call
    · exact fr149 (by assumption) (by assumption) _ rfl
    apply stp_if; intro e5
    first | exact stp_end | exact stp_ret
  · first | (simp only [eqRow, eqD, Bool.and_true, Bool.true_and, Bool.and_assoc]; done) | (simp only [eqRow, eqD, Bool.and_true, Bool.true_and, Bool.and_assoc]; ac_rfl) | (rw [Bool.eq_iff_iff]; simp only [eqRow, eqD, Bool.and_true, Bool.true_and, Bool.and_eq_true]; constructor <;> (intro hh; simp only [hh, and_self]))
termination_by W
decreasing_by all_goals (try have := wt_at hx); (try simp only [wtRow, wtD] at *); omega
theorem fr149 {l l' : Rows} (hl : SL E 122 l) (hl' : SL E 122 l') (W : Nat) (hW : 2 * (l.length + wtRows l) = W) : Ev fs 149 [.d (.s 5 l), .d (.s 5 l')] (bo ((l.length == l'.length) && eqRows l l')) := by
  refine Ev.bo (af := a149) rfl rfl (fun d n => a149q ..) ?_
  simp only [bne_not, beq_t, beq_f, Bool.not_not, Bool.cond_not, beq_nat, Bool.and_true]
  apply Stp.conv
  · apply stp_if; intro e1
    apply stp_loop (L := fun d n => l149x0 (TabD fs d) d n [(.fz 5 l), (.fz 5 l'), (.v (.int .i64 0))]) (c := eqRows l l') (y := ((.exit 0), []))
    · refine eq_loopE (L := fun d n i => l149x0 (TabD fs d) d n [(.fz 5 l), (.fz 5 l'), (.v (.int .i64 i))]) (len_of (by assumption)) (fun d n => ?_) (fun i x x' hi hi' hx hx' => ?_)
      rw [l149x0s]
      simp -implicitDefEqProofs only [cI, cB, cS, cL, oD_d, oG_g, oT_t, oP_p, dI_v, dB_v, dS_v, dL_s, cell_z, cell_s, nth_z, nth_s, aV_z, aV_s, aI_v, aB_v, aS_v, aL_f, aO_o, aX_b, tst_t, cond_true, cond_false, Ex.same, Nat.beq, List.length_cons, List.length_nil, Int.toNat_natCast, beqTT, beqTF, beqFT, beqFF, Int.lt_irrefl, decide_false]
      have h := (SL.at (E := E) (t := 122) (by assumption) hx)
      have h' := (SL.at (E := E) (t := 122) (by assumption) hx')
      have k := h
      have k' := h'
      rw [E122] at h
      obtain ⟨nx0, rx0, rfl, px0, h_x0⟩ := inv_i h
      obtain ⟨sx1, rx1, rfl, px1, h_x1⟩ := inv_s h_x0
      obtain ⟨nx2, rx2, rfl, px2, h_x2⟩ := inv_i h_x1
      obtain ⟨lx3, rx3, rfl, px3, h_x3⟩ := inv_sl W9 h_x2
      obtain ⟨lx4, rx4, rfl, px4, h_x4⟩ := inv_sl W122 h_x3
      cases inv_nil h_x4
      rw [E122] at h'
      obtain ⟨ny0, ry0, rfl, py0, hq_y0⟩ := inv_i h'
      obtain ⟨sy1, ry1, rfl, py1, hq_y1⟩ := inv_s hq_y0
      obtain ⟨ny2, ry2, rfl, py2, hq_y2⟩ := inv_i hq_y1
      obtain ⟨ly3, ry3, rfl, py3, hq_y3⟩ := inv_sl W9 hq_y2
      obtain ⟨ly4, ry4, rfl, py4, hq_y4⟩ := inv_sl W122 hq_y3
      cases inv_nil hq_y4
      simp only [l149x0s]
      simp -implicitDefEqProofs only [cI, cB, cS, cL, oD_d, oG_g, oT_t, oP_p, dI_v, dB_v, dS_v, dL_s, cell_z, cell_s, nth_z, nth_s, aV_z, aV_s, aI_v, aB_v, aS_v, aL_f, aO_o, aX_b, tst_t, cond_true, cond_false, Ex.same, Nat.beq, List.length_cons, List.length_nil, Int.toNat_natCast, beqTT, beqTF, beqFT, beqFF, decide_eq_true (Int.ofNat_lt.2 hi), dec_nn, look_at hx, look_at hx', wrap_succ hi (SL.le (E := E) (t := 122) (by assumption)), List.append_nil]
      simp only [bne_not, beq_t, beq_f, Bool.not_not, Bool.cond_not, beq_nat, Bool.and_true]
      apply Stp.conv
      · apply stp_call
        · exact fr127 (by assumption) (by assumption) _ rfl
        apply stp_if; intro g1
        exact stp_end
      · first | (simp only [eqRow, eqD, Bool.and_true, Bool.true_and, Bool.and_assoc]; done) | (simp only [eqRow, eqD, Bool.and_true, Bool.true_and, Bool.and_assoc]; ac_rfl) | (rw [Bool.eq_iff_iff]; simp only [eqRow, eqD, Bool.and_true, Bool.true_and, Bool.and_eq_true]; constructor <;> (intro hh; simp only [hh, and_self]))
    any_goals (intro d n; simp -implicitDefEqProofs only [cI, cB, cS, cL, oD_d, oG_g, oT_t, oP_p, dI_v, dB_v, dS_v, dL_s, cell_z, cell_s, nth_z, nth_s, aV_z, aV_s, aI_v, aB_v, aS_v, aL_f, aO_o, aX_b, tst_t, cond_true, cond_false, Ex.same, Nat.beq, List.length_cons, List.length_nil, Int.toNat_natCast, beqTT, beqTF, beqFT, beqFF]; done)
    simp -implicitDefEqProofs only [cI, cB, cS, cL, oD_d, oG_g, oT_t, oP_p, dI_v, dB_v, dS_v, dL_s, cell_z, cell_s, nth_z, nth_s, aV_z, aV_s, aI_v, aB_v, aS_v, aL_f, aO_o, aX_b, tst_t, cond_true, cond_false, Ex.same, Nat.beq, List.length_cons, List.length_nil, Int.toNat_natCast, beqTT, beqTF, beqFT, beqFF]
    first | exact stp_end | exact stp_ret
  · first | (simp only [eqRow, eqD, Bool.and_true, Bool.true_and, Bool.and_assoc]; done) | (simp only [eqRow, eqD, Bool.and_true, Bool.true_and, Bool.and_assoc]; ac_rfl) | (rw [Bool.eq_iff_iff]; simp only [eqRow, eqD, Bool.and_true, Bool.true_and, Bool.and_eq_true]; constructor <;> (intro hh; simp only [hh, and_self]))
termination_by W
decreasing_by all_goals (try have := wt_at hx); (try simp only [wtRow, wtD] at *); omega
end
theorem f127 {row row' : Row} (h : ShL E (E 122) row) (h' : ShL E (E 122) row') : Ev fs 127 [.g row, .g row'] (bo (eqRow row row')) := fr127 h h' _ rfl
theorem f149 {l l' : Rows} (hl : SL E 122 l) (hl' : SL E 122 l') : Ev fs 149 [.d (.s 5 l), .d (.s 5 l')] (bo ((l.length == l'.length) && eqRows l l')) := fr149 hl hl' _ rfl
/- loop.example/g00119/laws.eqTerm -/
theorem f177 {row row' : Row} (h : ShL E (E 206) row) (h' : ShL E (E 206) row') : Ev fs 177 [.g row, .g row'] (bo (eqRow row row')) := by
  rw [E206] at h
  obtain ⟨na0, ra0, rfl, pa0, h_a0⟩ := inv_i h
  obtain ⟨sa1, ra1, rfl, pa1, h_a1⟩ := inv_s h_a0
  obtain ⟨la2, ra2, rfl, pa2, h_a2⟩ := inv_sl W9 h_a1
  cases inv_nil h_a2
  rw [E206] at h'
  obtain ⟨nc0, rc0, rfl, pc0, hq_c0⟩ := inv_i h'
  obtain ⟨sc1, rc1, rfl, pc1, hq_c1⟩ := inv_s hq_c0
  obtain ⟨lc2, rc2, rfl, pc2, hq_c2⟩ := inv_sl W9 hq_c1
  cases inv_nil hq_c2
  refine Ev.bo (af := a177) rfl rfl (fun d n => a177q ..) ?_
  simp only [bne_not, beq_t, beq_f, Bool.not_not, Bool.cond_not, beq_nat, Bool.and_true]
  apply Stp.conv
  · apply stp_if; intro e1
    apply stp_if; intro e2
    apply stp_call
    · exact f63 (by assumption) (by assumption)
    apply stp_if; intro e3
    first | exact stp_end | exact stp_ret
  · first | (simp only [eqRow, eqD, Bool.and_true, Bool.true_and, Bool.and_assoc]; done) | (simp only [eqRow, eqD, Bool.and_true, Bool.true_and, Bool.and_assoc]; ac_rfl) | (rw [Bool.eq_iff_iff]; simp only [eqRow, eqD, Bool.and_true, Bool.true_and, Bool.and_eq_true]; constructor <;> (intro hh; simp only [hh, and_self]))
/- loop.example/g00119/laws.eqTermS -/
theorem f159 {l l' : Rows} (hl : SL E 206 l) (hl' : SL E 206 l') : Ev fs 159 [.d (.s 3 l), .d (.s 3 l')] (bo ((l.length == l'.length) && eqRows l l')) := by
  refine Ev.bo (af := a159) rfl rfl (fun d n => a159q ..) ?_
  simp only [bne_not, beq_t, beq_f, Bool.not_not, Bool.cond_not, beq_nat, Bool.and_true]
  apply Stp.conv
  · apply stp_if; intro e1
    apply stp_loop (L := fun d n => l159x0 (TabD fs d) d n [(.fz 3 l), (.fz 3 l'), (.v (.int .i64 0))]) (c := eqRows l l') (y := ((.exit 0), []))
    · refine eq_loopE (L := fun d n i => l159x0 (TabD fs d) d n [(.fz 3 l), (.fz 3 l'), (.v (.int .i64 i))]) (len_of (by assumption)) (fun d n => ?_) (fun i x x' hi hi' hx hx' => ?_)
      rw [l159x0s]
      simp -implicitDefEqProofs only [cI, cB, cS, cL, oD_d, oG_g, oT_t, oP_p, dI_v, dB_v, dS_v, dL_s, cell_z, cell_s, nth_z, nth_s, aV_z, aV_s, aI_v, aB_v, aS_v, aL_f, aO_o, aX_b, tst_t, cond_true, cond_false, Ex.same, Nat.beq, List.length_cons, List.length_nil, Int.toNat_natCast, beqTT, beqTF, beqFT, beqFF, Int.lt_irrefl, decide_false]
      have h := (SL.at (E := E) (t := 206) (by assumption) hx)
      have h' := (SL.at (E := E) (t := 206) (by assumption) hx')
      have k := h
      have k' := h'
      rw [E206] at h
      obtain ⟨nx0, rx0, rfl, px0, h_x0⟩ := inv_i h
      obtain ⟨sx1, rx1, rfl, px1, h_x1⟩ := inv_s h_x0
      obtain ⟨lx2, rx2, rfl, px2, h_x2⟩ := inv_sl W9 h_x1
      cases inv_nil h_x2
      rw [E206] at h'
      obtain ⟨ny0, ry0, rfl, py0, hq_y0⟩ := inv_i h'
      obtain ⟨sy1, ry1, rfl, py1, hq_y1⟩ := inv_s hq_y0
      obtain ⟨ly2, ry2, rfl, py2, hq_y2⟩ := inv_sl W9 hq_y1
      cases inv_nil hq_y2
      simp only [l159x0s]
      simp -implicitDefEqProofs only [cI, cB, cS, cL, oD_d, oG_g, oT_t, oP_p, dI_v, dB_v, dS_v, dL_s, cell_z, cell_s, nth_z, nth_s, aV_z, aV_s, aI_v, aB_v, aS_v, aL_f, aO_o, aX_b, tst_t, cond_true, cond_false, Ex.same, Nat.beq, List.length_cons, List.length_nil, Int.toNat_natCast, beqTT, beqTF, beqFT, beqFF, decide_eq_true (Int.ofNat_lt.2 hi), dec_nn, look_at hx, look_at hx', wrap_succ hi (SL.le (E := E) (t := 206) (by assumption)), List.append_nil]
      simp only [bne_not, beq_t, beq_f, Bool.not_not, Bool.cond_not, beq_nat, Bool.and_true]
      apply Stp.conv
      · apply stp_call
        · exact f177 (by assumption) (by assumption)
        apply stp_if; intro g1
        exact stp_end
      · first | (simp only [eqRow, eqD, Bool.and_true, Bool.true_and, Bool.and_assoc]; done) | (simp only [eqRow, eqD, Bool.and_true, Bool.true_and, Bool.and_assoc]; ac_rfl) | (rw [Bool.eq_iff_iff]; simp only [eqRow, eqD, Bool.and_true, Bool.true_and, Bool.and_eq_true]; constructor <;> (intro hh; simp only [hh, and_self]))
    any_goals (intro d n; simp -implicitDefEqProofs only [cI, cB, cS, cL, oD_d, oG_g, oT_t, oP_p, dI_v, dB_v, dS_v, dL_s, cell_z, cell_s, nth_z, nth_s, aV_z, aV_s, aI_v, aB_v, aS_v, aL_f, aO_o, aX_b, tst_t, cond_true, cond_false, Ex.same, Nat.beq, List.length_cons, List.length_nil, Int.toNat_natCast, beqTT, beqTF, beqFT, beqFF]; done)
    simp -implicitDefEqProofs only [cI, cB, cS, cL, oD_d, oG_g, oT_t, oP_p, dI_v, dB_v, dS_v, dL_s, cell_z, cell_s, nth_z, nth_s, aV_z, aV_s, aI_v, aB_v, aS_v, aL_f, aO_o, aX_b, tst_t, cond_true, cond_false, Ex.same, Nat.beq, List.length_cons, List.length_nil, Int.toNat_natCast, beqTT, beqTF, beqFT, beqFF]
    first | exact stp_end | exact stp_ret
  · first | (simp only [eqRow, eqD, Bool.and_true, Bool.true_and, Bool.and_assoc]; done) | (simp only [eqRow, eqD, Bool.and_true, Bool.true_and, Bool.and_assoc]; ac_rfl) | (rw [Bool.eq_iff_iff]; simp only [eqRow, eqD, Bool.and_true, Bool.true_and, Bool.and_eq_true]; constructor <;> (intro hh; simp only [hh, and_self]))
/- loop.example/g00119/laws.eqWeigh -/
theorem f178 {row row' : Row} (h : ShL E (E 207) row) (h' : ShL E (E 207) row') : Ev fs 178 [.g row, .g row'] (bo (eqRow row row')) := by
  rw [E207] at h
  obtain ⟨sa0, ra0, rfl, pa0, h_a0⟩ := inv_s h
  obtain ⟨na1, ra1, rfl, pa1, h_a1⟩ := inv_i h_a0
  cases inv_nil h_a1
  rw [E207] at h'
  obtain ⟨sc0, rc0, rfl, pc0, hq_c0⟩ := inv_s h'
  obtain ⟨nc1, rc1, rfl, pc1, hq_c1⟩ := inv_i hq_c0
  cases inv_nil hq_c1
  refine Ev.bo (af := a178) rfl rfl (fun d n => a178q ..) ?_
  simp only [bne_not, beq_t, beq_f, Bool.not_not, Bool.cond_not, beq_nat, Bool.and_true]
  apply Stp.conv
  · apply stp_if; intro e1
    apply stp_if; intro e2
    first | exact stp_end | exact stp_ret
  · first | (simp only [eqRow, eqD, Bool.and_true, Bool.true_and, Bool.and_assoc]; done) | (simp only [eqRow, eqD, Bool.and_true, Bool.true_and, Bool.and_assoc]; ac_rfl) | (rw [Bool.eq_iff_iff]; simp only [eqRow, eqD, Bool.and_true, Bool.true_and, Bool.and_eq_true]; constructor <;> (intro hh; simp only [hh, and_self]))
/- loop.example/g00119/laws.eqWeighS -/
theorem f160 {l l' : Rows} (hl : SL E 207 l) (hl' : SL E 207 l') : Ev fs 160 [.d (.s 2 l), .d (.s 2 l')] (bo ((l.length == l'.length) && eqRows l l')) := by
  refine Ev.bo (af := a160) rfl rfl (fun d n => a160q ..) ?_
  simp only [bne_not, beq_t, beq_f, Bool.not_not, Bool.cond_not, beq_nat, Bool.and_true]
  apply Stp.conv
  · apply stp_if; intro e1
    apply stp_loop (L := fun d n => l160x0 (TabD fs d) d n [(.fz 2 l), (.fz 2 l'), (.v (.int .i64 0))]) (c := eqRows l l') (y := ((.exit 0), []))
    · refine eq_loopE (L := fun d n i => l160x0 (TabD fs d) d n [(.fz 2 l), (.fz 2 l'), (.v (.int .i64 i))]) (len_of (by assumption)) (fun d n => ?_) (fun i x x' hi hi' hx hx' => ?_)
      rw [l160x0s]
      simp -implicitDefEqProofs only [cI, cB, cS, cL, oD_d, oG_g, oT_t, oP_p, dI_v, dB_v, dS_v, dL_s, cell_z, cell_s, nth_z, nth_s, aV_z, aV_s, aI_v, aB_v, aS_v, aL_f, aO_o, aX_b, tst_t, cond_true, cond_false, Ex.same, Nat.beq, List.length_cons, List.length_nil, Int.toNat_natCast, beqTT, beqTF, beqFT, beqFF, Int.lt_irrefl, decide_false]
      have h := (SL.at (E := E) (t := 207) (by assumption) hx)
      have h' := (SL.at (E := E) (t := 207) (by assumption) hx')
      have k := h
      have k' := h'
      rw [E207] at h
      obtain ⟨sx0, rx0, rfl, px0, h_x0⟩ := inv_s h
      obtain ⟨nx1, rx1, rfl, px1, h_x1⟩ := inv_i h_x0
      cases inv_nil h_x1
      rw [E207] at h'
      obtain ⟨sy0, ry0, rfl, py0, hq_y0⟩ := inv_s h'
      obtain ⟨ny1, ry1, rfl, py1, hq_y1⟩ := inv_i hq_y0
      cases inv_nil hq_y1
      simp only [l160x0s]
      simp -implicitDefEqProofs only [cI, cB, cS, cL, oD_d, oG_g, oT_t, oP_p, dI_v, dB_v, dS_v, dL_s, cell_z, cell_s, nth_z, nth_s, aV_z, aV_s, aI_v, aB_v, aS_v, aL_f, aO_o, aX_b, tst_t, cond_true, cond_false, Ex.same, Nat.beq, List.length_cons, List.length_nil, Int.toNat_natCast, beqTT, beqTF, beqFT, beqFF, decide_eq_true (Int.ofNat_lt.2 hi), dec_nn, look_at hx, look_at hx', wrap_succ hi (SL.le (E := E) (t := 207) (by assumption)), List.append_nil]
      simp only [bne_not, beq_t, beq_f, Bool.not_not, Bool.cond_not, beq_nat, Bool.and_true]
      apply Stp.conv
      · apply stp_call
        · exact f178 (by assumption) (by assumption)
        apply stp_if; intro g1
        exact stp_end
      · first | (simp only [eqRow, eqD, Bool.and_true, Bool.true_and, Bool.and_assoc]; done) | (simp only [eqRow, eqD, Bool.and_true, Bool.true_and, Bool.and_assoc]; ac_rfl) | (rw [Bool.eq_iff_iff]; simp only [eqRow, eqD, Bool.and_true, Bool.true_and, Bool.and_eq_true]; constructor <;> (intro hh; simp only [hh, and_self]))
    any_goals (intro d n; simp -implicitDefEqProofs only [cI, cB, cS, cL, oD_d, oG_g, oT_t, oP_p, dI_v, dB_v, dS_v, dL_s, cell_z, cell_s, nth_z, nth_s, aV_z, aV_s, aI_v, aB_v, aS_v, aL_f, aO_o, aX_b, tst_t, cond_true, cond_false, Ex.same, Nat.beq, List.length_cons, List.length_nil, Int.toNat_natCast, beqTT, beqTF, beqFT, beqFF]; done)
    simp -implicitDefEqProofs only [cI, cB, cS, cL, oD_d, oG_g, oT_t, oP_p, dI_v, dB_v, dS_v, dL_s, cell_z, cell_s, nth_z, nth_s, aV_z, aV_s, aI_v, aB_v, aS_v, aL_f, aO_o, aX_b, tst_t, cond_true, cond_false, Ex.same, Nat.beq, List.length_cons, List.length_nil, Int.toNat_natCast, beqTT, beqTF, beqFT, beqFF]
    first | exact stp_end | exact stp_ret
  · first | (simp only [eqRow, eqD, Bool.and_true, Bool.true_and, Bool.and_assoc]; done) | (simp only [eqRow, eqD, Bool.and_true, Bool.true_and, Bool.and_assoc]; ac_rfl) | (rw [Bool.eq_iff_iff]; simp only [eqRow, eqD, Bool.and_true, Bool.true_and, Bool.and_eq_true]; constructor <;> (intro hh; simp only [hh, and_self]))
/- loop.example/g00119/laws.eqWant -/
theorem f136 {row row' : Row} (h : ShL E (E 154) row) (h' : ShL E (E 154) row') : Ev fs 136 [.g row, .g row'] (bo (eqRow row row')) := by
  rw [E154] at h
  obtain ⟨na0, ra0, rfl, pa0, h_a0⟩ := inv_i h
  obtain ⟨la1, ra1, rfl, pa1, h_a1⟩ := inv_sl W206 h_a0
  obtain ⟨la2, ra2, rfl, pa2, h_a2⟩ := inv_sl W9 h_a1
  obtain ⟨la3, ra3, rfl, pa3, h_a3⟩ := inv_sl W207 h_a2
  cases inv_nil h_a3
  rw [E154] at h'
  obtain ⟨nc0, rc0, rfl, pc0, hq_c0⟩ := inv_i h'
  obtain ⟨lc1, rc1, rfl, pc1, hq_c1⟩ := inv_sl W206 hq_c0
  obtain ⟨lc2, rc2, rfl, pc2, hq_c2⟩ := inv_sl W9 hq_c1
  obtain ⟨lc3, rc3, rfl, pc3, hq_c3⟩ := inv_sl W207 hq_c2
  cases inv_nil hq_c3
  refine Ev.bo (af := a136) rfl rfl (fun d n => a136q ..) ?_
  simp only [bne_not, beq_t, beq_f, Bool.not_not, Bool.cond_not, beq_nat, Bool.and_true]
  apply Stp.conv
  · apply stp_if; intro e1
    apply stp_call
    · exact f159 (by assumption) (by assumption)
    apply stp_if; intro e2
    apply stp_call
    · exact f63 (by assumption) (by assumption)
    apply stp_if; intro e3
    apply stp_call
    · exact f160 (by assumption) (by assumption)
    apply stp_if; intro e4
    first | exact stp_end | exact stp_ret
  · first | (simp only [eqRow, eqD, Bool.and_true, Bool.true_and, Bool.and_assoc]; done) | (simp only [eqRow, eqD, Bool.and_true, Bool.true_and, Bool.and_assoc]; ac_rfl) | (rw [Bool.eq_iff_iff]; simp only [eqRow, eqD, Bool.and_true, Bool.true_and, Bool.and_eq_true]; constructor <;> (intro hh; simp only [hh, and_self]))
/- loop.example/g00119/laws.eqOp -/
theorem f186 {row row' : Row} (h : ShL E (E 237) row) (h' : ShL E (E 237) row') : Ev fs 186 [.g row, .g row'] (bo (eqRow row row')) := by
  rw [E237] at h
  obtain ⟨na0, ra0, rfl, pa0, h_a0⟩ := inv_i h
  obtain ⟨la1, ra1, rfl, pa1, h_a1⟩ := inv_sl W9 h_a0
  obtain ⟨na2, ra2, rfl, pa2, h_a2⟩ := inv_i h_a1
  obtain ⟨sa3, ra3, rfl, pa3, h_a3⟩ := inv_s h_a2
  obtain ⟨na4, ra4, rfl, pa4, h_a4⟩ := inv_i h_a3
  obtain ⟨la5, ra5, rfl, pa5, h_a5⟩ := inv_sl W9 h_a4
  obtain ⟨la6, ra6, rfl, pa6, h_a6⟩ := inv_sl W122 h_a5
  cases inv_nil h_a6
  rw [E237] at h'
  obtain ⟨nc0, rc0, rfl, pc0, hq_c0⟩ := inv_i h'
  obtain ⟨lc1, rc1, rfl, pc1, hq_c1⟩ := inv_sl W9 hq_c0
  obtain ⟨nc2, rc2, rfl, pc2, hq_c2⟩ := inv_i hq_c1
  obtain ⟨sc3, rc3, rfl, pc3, hq_c3⟩ := inv_s hq_c2
  obtain ⟨nc4, rc4, rfl, pc4, hq_c4⟩ := inv_i hq_c3
  obtain ⟨lc5, rc5, rfl, pc5, hq_c5⟩ := inv_sl W9 hq_c4
  obtain ⟨lc6, rc6, rfl, pc6, hq_c6⟩ := inv_sl W122 hq_c5
  cases inv_nil hq_c6
  refine Ev.bo (af := a186) rfl rfl (fun d n => a186q ..) ?_
  simp only [bne_not, beq_t, beq_f, Bool.not_not, Bool.cond_not, beq_nat, Bool.and_true]
  apply Stp.conv
  · apply stp_if; intro e1
    apply stp_call
    · exact f63 (by assumption) (by assumption)
    apply stp_if; intro e2
    apply stp_call
    · exact f127 (by rw [E122]; exact mk_i (by assumption) (mk_s (by assumption) (mk_i (by assumption) (mk_sl W9 (by assumption) (mk_sl W122 (by assumption) (ShL.nil)))))) (by rw [E122]; exact mk_i (by assumption) (mk_s (by assumption) (mk_i (by assumption) (mk_sl W9 (by assumption) (mk_sl W122 (by assumption) (ShL.nil))))))
    apply stp_if; intro e3
    first | exact stp_end | exact stp_ret
  · first | (simp only [eqRow, eqD, Bool.and_true, Bool.true_and, Bool.and_assoc]; done) | (simp only [eqRow, eqD, Bool.and_true, Bool.true_and, Bool.and_assoc]; ac_rfl) | (rw [Bool.eq_iff_iff]; simp only [eqRow, eqD, Bool.and_true, Bool.true_and, Bool.and_eq_true]; constructor <;> (intro hh; simp only [hh, and_self]))
/- loop.example/g00119/laws.eqOpS -/
theorem f179 {l l' : Rows} (hl : SL E 237 l) (hl' : SL E 237 l') : Ev fs 179 [.d (.s 7 l), .d (.s 7 l')] (bo ((l.length == l'.length) && eqRows l l')) := by
  refine Ev.bo (af := a179) rfl rfl (fun d n => a179q ..) ?_
  simp only [bne_not, beq_t, beq_f, Bool.not_not, Bool.cond_not, beq_nat, Bool.and_true]
  apply Stp.conv
  · apply stp_if; intro e1
    apply stp_loop (L := fun d n => l179x0 (TabD fs d) d n [(.fz 7 l), (.fz 7 l'), (.v (.int .i64 0))]) (c := eqRows l l') (y := ((.exit 0), []))
    · refine eq_loopE (L := fun d n i => l179x0 (TabD fs d) d n [(.fz 7 l), (.fz 7 l'), (.v (.int .i64 i))]) (len_of (by assumption)) (fun d n => ?_) (fun i x x' hi hi' hx hx' => ?_)
      rw [l179x0s]
      simp -implicitDefEqProofs only [cI, cB, cS, cL, oD_d, oG_g, oT_t, oP_p, dI_v, dB_v, dS_v, dL_s, cell_z, cell_s, nth_z, nth_s, aV_z, aV_s, aI_v, aB_v, aS_v, aL_f, aO_o, aX_b, tst_t, cond_true, cond_false, Ex.same, Nat.beq, List.length_cons, List.length_nil, Int.toNat_natCast, beqTT, beqTF, beqFT, beqFF, Int.lt_irrefl, decide_false]
      have h := (SL.at (E := E) (t := 237) (by assumption) hx)
      have h' := (SL.at (E := E) (t := 237) (by assumption) hx')
      have k := h
      have k' := h'
      rw [E237] at h
      obtain ⟨nx0, rx0, rfl, px0, h_x0⟩ := inv_i h
      obtain ⟨lx1, rx1, rfl, px1, h_x1⟩ := inv_sl W9 h_x0
      obtain ⟨nx2, rx2, rfl, px2, h_x2⟩ := inv_i h_x1
      obtain ⟨sx3, rx3, rfl, px3, h_x3⟩ := inv_s h_x2
      obtain ⟨nx4, rx4, rfl, px4, h_x4⟩ := inv_i h_x3
      obtain ⟨lx5, rx5, rfl, px5, h_x5⟩ := inv_sl W9 h_x4
      obtain ⟨lx6, rx6, rfl, px6, h_x6⟩ := inv_sl W122 h_x5
      cases inv_nil h_x6
      rw [E237] at h'
      obtain ⟨ny0, ry0, rfl, py0, hq_y0⟩ := inv_i h'
      obtain ⟨ly1, ry1, rfl, py1, hq_y1⟩ := inv_sl W9 hq_y0
      obtain ⟨ny2, ry2, rfl, py2, hq_y2⟩ := inv_i hq_y1
      obtain ⟨sy3, ry3, rfl, py3, hq_y3⟩ := inv_s hq_y2
      obtain ⟨ny4, ry4, rfl, py4, hq_y4⟩ := inv_i hq_y3
      obtain ⟨ly5, ry5, rfl, py5, hq_y5⟩ := inv_sl W9 hq_y4
      obtain ⟨ly6, ry6, rfl, py6, hq_y6⟩ := inv_sl W122 hq_y5
      cases inv_nil hq_y6
      simp only [l179x0s]
      simp -implicitDefEqProofs only [cI, cB, cS, cL, oD_d, oG_g, oT_t, oP_p, dI_v, dB_v, dS_v, dL_s, cell_z, cell_s, nth_z, nth_s, aV_z, aV_s, aI_v, aB_v, aS_v, aL_f, aO_o, aX_b, tst_t, cond_true, cond_false, Ex.same, Nat.beq, List.length_cons, List.length_nil, Int.toNat_natCast, beqTT, beqTF, beqFT, beqFF, decide_eq_true (Int.ofNat_lt.2 hi), dec_nn, look_at hx, look_at hx', wrap_succ hi (SL.le (E := E) (t := 237) (by assumption)), List.append_nil]
      simp only [bne_not, beq_t, beq_f, Bool.not_not, Bool.cond_not, beq_nat, Bool.and_true]
      apply Stp.conv
      · apply stp_call
        · exact f186 (by assumption) (by assumption)
        apply stp_if; intro g1
        exact stp_end
      · first | (simp only [eqRow, eqD, Bool.and_true, Bool.true_and, Bool.and_assoc]; done) | (simp only [eqRow, eqD, Bool.and_true, Bool.true_and, Bool.and_assoc]; ac_rfl) | (rw [Bool.eq_iff_iff]; simp only [eqRow, eqD, Bool.and_true, Bool.true_and, Bool.and_eq_true]; constructor <;> (intro hh; simp only [hh, and_self]))
    any_goals (intro d n; simp -implicitDefEqProofs only [cI, cB, cS, cL, oD_d, oG_g, oT_t, oP_p, dI_v, dB_v, dS_v, dL_s, cell_z, cell_s, nth_z, nth_s, aV_z, aV_s, aI_v, aB_v, aS_v, aL_f, aO_o, aX_b, tst_t, cond_true, cond_false, Ex.same, Nat.beq, List.length_cons, List.length_nil, Int.toNat_natCast, beqTT, beqTF, beqFT, beqFF]; done)
    simp -implicitDefEqProofs only [cI, cB, cS, cL, oD_d, oG_g, oT_t, oP_p, dI_v, dB_v, dS_v, dL_s, cell_z, cell_s, nth_z, nth_s, aV_z, aV_s, aI_v, aB_v, aS_v, aL_f, aO_o, aX_b, tst_t, cond_true, cond_false, Ex.same, Nat.beq, List.length_cons, List.length_nil, Int.toNat_natCast, beqTT, beqTF, beqFT, beqFF]
    first | exact stp_end | exact stp_ret
  · first | (simp only [eqRow, eqD, Bool.and_true, Bool.true_and, Bool.and_assoc]; done) | (simp only [eqRow, eqD, Bool.and_true, Bool.true_and, Bool.and_assoc]; ac_rfl) | (rw [Bool.eq_iff_iff]; simp only [eqRow, eqD, Bool.and_true, Bool.true_and, Bool.and_eq_true]; constructor <;> (intro hh; simp only [hh, and_self]))
/- loop.example/g00119/laws.eqOver -/
theorem f161 {row row' : Row} (h : ShL E (E 210) row) (h' : ShL E (E 210) row') : Ev fs 161 [.g row, .g row'] (bo (eqRow row row')) := by
  rw [E210] at h
  obtain ⟨sa0, ra0, rfl, pa0, h_a0⟩ := inv_s h
  obtain ⟨la1, ra1, rfl, pa1, h_a1⟩ := inv_sl W237 h_a0
  cases inv_nil h_a1
  rw [E210] at h'
  obtain ⟨sc0, rc0, rfl, pc0, hq_c0⟩ := inv_s h'
  obtain ⟨lc1, rc1, rfl, pc1, hq_c1⟩ := inv_sl W237 hq_c0
  cases inv_nil hq_c1
  refine Ev.bo (af := a161) rfl rfl (fun d n => a161q ..) ?_
  simp only [bne_not, beq_t, beq_f, Bool.not_not, Bool.cond_not, beq_nat, Bool.and_true]
  apply Stp.conv
  · apply stp_if; intro e1
    apply stp_call
    · exact f179 (by assumption) (by assumption)
    apply stp_if; intro e2
    first | exact stp_end | exact stp_ret
  · first | (simp only [eqRow, eqD, Bool.and_true, Bool.true_and, Bool.and_assoc]; done) | (simp only [eqRow, eqD, Bool.and_true, Bool.true_and, Bool.and_assoc]; ac_rfl) | (rw [Bool.eq_iff_iff]; simp only [eqRow, eqD, Bool.and_true, Bool.true_and, Bool.and_eq_true]; constructor <;> (intro hh; simp only [hh, and_self]))
/- loop.example/g00119/laws.eqOverS -/
theorem f137 {l l' : Rows} (hl : SL E 210 l) (hl' : SL E 210 l') : Ev fs 137 [.d (.s 2 l), .d (.s 2 l')] (bo ((l.length == l'.length) && eqRows l l')) := by
  refine Ev.bo (af := a137) rfl rfl (fun d n => a137q ..) ?_
  simp only [bne_not, beq_t, beq_f, Bool.not_not, Bool.cond_not, beq_nat, Bool.and_true]
  apply Stp.conv
  · apply stp_if; intro e1
    apply stp_loop (L := fun d n => l137x0 (TabD fs d) d n [(.fz 2 l), (.fz 2 l'), (.v (.int .i64 0))]) (c := eqRows l l') (y := ((.exit 0), []))
    · refine eq_loopE (L := fun d n i => l137x0 (TabD fs d) d n [(.fz 2 l), (.fz 2 l'), (.v (.int .i64 i))]) (len_of (by assumption)) (fun d n => ?_) (fun i x x' hi hi' hx hx' => ?_)
      rw [l137x0s]
      simp -implicitDefEqProofs only [cI, cB, cS, cL, oD_d, oG_g, oT_t, oP_p, dI_v, dB_v, dS_v, dL_s, cell_z, cell_s, nth_z, nth_s, aV_z, aV_s, aI_v, aB_v, aS_v, aL_f, aO_o, aX_b, tst_t, cond_true, cond_false, Ex.same, Nat.beq, List.length_cons, List.length_nil, Int.toNat_natCast, beqTT, beqTF, beqFT, beqFF, Int.lt_irrefl, decide_false]
      have h := (SL.at (E := E) (t := 210) (by assumption) hx)
      have h' := (SL.at (E := E) (t := 210) (by assumption) hx')
      have k := h
      have k' := h'
      rw [E210] at h
      obtain ⟨sx0, rx0, rfl, px0, h_x0⟩ := inv_s h
      obtain ⟨lx1, rx1, rfl, px1, h_x1⟩ := inv_sl W237 h_x0
      cases inv_nil h_x1
      rw [E210] at h'
      obtain ⟨sy0, ry0, rfl, py0, hq_y0⟩ := inv_s h'
      obtain ⟨ly1, ry1, rfl, py1, hq_y1⟩ := inv_sl W237 hq_y0
      cases inv_nil hq_y1
      simp only [l137x0s]
      simp -implicitDefEqProofs only [cI, cB, cS, cL, oD_d, oG_g, oT_t, oP_p, dI_v, dB_v, dS_v, dL_s, cell_z, cell_s, nth_z, nth_s, aV_z, aV_s, aI_v, aB_v, aS_v, aL_f, aO_o, aX_b, tst_t, cond_true, cond_false, Ex.same, Nat.beq, List.length_cons, List.length_nil, Int.toNat_natCast, beqTT, beqTF, beqFT, beqFF, decide_eq_true (Int.ofNat_lt.2 hi), dec_nn, look_at hx, look_at hx', wrap_succ hi (SL.le (E := E) (t := 210) (by assumption)), List.append_nil]
      simp only [bne_not, beq_t, beq_f, Bool.not_not, Bool.cond_not, beq_nat, Bool.and_true]
      apply Stp.conv
      · apply stp_call
        · exact f161 (by assumption) (by assumption)
        apply stp_if; intro g1
        exact stp_end
      · first | (simp only [eqRow, eqD, Bool.and_true, Bool.true_and, Bool.and_assoc]; done) | (simp only [eqRow, eqD, Bool.and_true, Bool.true_and, Bool.and_assoc]; ac_rfl) | (rw [Bool.eq_iff_iff]; simp only [eqRow, eqD, Bool.and_true, Bool.true_and, Bool.and_eq_true]; constructor <;> (intro hh; simp only [hh, and_self]))
    any_goals (intro d n; simp -implicitDefEqProofs only [cI, cB, cS, cL, oD_d, oG_g, oT_t, oP_p, dI_v, dB_v, dS_v, dL_s, cell_z, cell_s, nth_z, nth_s, aV_z, aV_s, aI_v, aB_v, aS_v, aL_f, aO_o, aX_b, tst_t, cond_true, cond_false, Ex.same, Nat.beq, List.length_cons, List.length_nil, Int.toNat_natCast, beqTT, beqTF, beqFT, beqFF]; done)
    simp -implicitDefEqProofs only [cI, cB, cS, cL, oD_d, oG_g, oT_t, oP_p, dI_v, dB_v, dS_v, dL_s, cell_z, cell_s, nth_z, nth_s, aV_z, aV_s, aI_v, aB_v, aS_v, aL_f, aO_o, aX_b, tst_t, cond_true, cond_false, Ex.same, Nat.beq, List.length_cons, List.length_nil, Int.toNat_natCast, beqTT, beqTF, beqFT, beqFF]
    first | exact stp_end | exact stp_ret
  · first | (simp only [eqRow, eqD, Bool.and_true, Bool.true_and, Bool.and_assoc]; done) | (simp only [eqRow, eqD, Bool.and_true, Bool.true_and, Bool.and_assoc]; ac_rfl) | (rw [Bool.eq_iff_iff]; simp only [eqRow, eqD, Bool.and_true, Bool.true_and, Bool.and_eq_true]; constructor <;> (intro hh; simp only [hh, and_self]))
/- loop.example/g00119/laws.eqJob -/
theorem f103 {row row' : Row} (h : ShL E (E 157) row) (h' : ShL E (E 157) row') : Ev fs 103 [.g row, .g row'] (bo (eqRow row row')) := by
  rw [E157] at h
  obtain ⟨na0, ra0, rfl, pa0, h_a0⟩ := inv_i h
  obtain ⟨sa1, ra1, rfl, pa1, h_a1⟩ := inv_s h_a0
  obtain ⟨na2, ra2, rfl, pa2, h_a2⟩ := inv_i h_a1
  obtain ⟨la3, ra3, rfl, pa3, h_a3⟩ := inv_sl W206 h_a2
  obtain ⟨la4, ra4, rfl, pa4, h_a4⟩ := inv_sl W9 h_a3
  obtain ⟨la5, ra5, rfl, pa5, h_a5⟩ := inv_sl W207 h_a4
  obtain ⟨na6, ra6, rfl, pa6, h_a6⟩ := inv_i h_a5
  obtain ⟨sa7, ra7, rfl, pa7, h_a7⟩ := inv_s h_a6
  obtain ⟨na8, ra8, rfl, pa8, h_a8⟩ := inv_i h_a7
  obtain ⟨la9, ra9, rfl, pa9, h_a9⟩ := inv_sl W9 h_a8
  obtain ⟨la10, ra10, rfl, pa10, h_a10⟩ := inv_sl W122 h_a9
  obtain ⟨la11, ra11, rfl, pa11, h_a11⟩ := inv_sl W210 h_a10
  obtain ⟨ba12, ra12, rfl, h_a12⟩ := inv_b h_a11
  cases inv_nil h_a12
  rw [E157] at h'
  obtain ⟨nc0, rc0, rfl, pc0, hq_c0⟩ := inv_i h'
  obtain ⟨sc1, rc1, rfl, pc1, hq_c1⟩ := inv_s hq_c0
  obtain ⟨nc2, rc2, rfl, pc2, hq_c2⟩ := inv_i hq_c1
  obtain ⟨lc3, rc3, rfl, pc3, hq_c3⟩ := inv_sl W206 hq_c2
  obtain ⟨lc4, rc4, rfl, pc4, hq_c4⟩ := inv_sl W9 hq_c3
  obtain ⟨lc5, rc5, rfl, pc5, hq_c5⟩ := inv_sl W207 hq_c4
  obtain ⟨nc6, rc6, rfl, pc6, hq_c6⟩ := inv_i hq_c5
  obtain ⟨sc7, rc7, rfl, pc7, hq_c7⟩ := inv_s hq_c6
  obtain ⟨nc8, rc8, rfl, pc8, hq_c8⟩ := inv_i hq_c7
  obtain ⟨lc9, rc9, rfl, pc9, hq_c9⟩ := inv_sl W9 hq_c8
  obtain ⟨lc10, rc10, rfl, pc10, hq_c10⟩ := inv_sl W122 hq_c9
  obtain ⟨lc11, rc11, rfl, pc11, hq_c11⟩ := inv_sl W210 hq_c10
  obtain ⟨bc12, rc12, rfl, hq_c12⟩ := inv_b hq_c11
  cases inv_nil hq_c12
  refine Ev.bo (af := a103) rfl rfl (fun d n => a103q ..) ?_
  simp only [bne_not, beq_t, beq_f, Bool.not_not, Bool.cond_not, beq_nat, Bool.and_true]
  apply Stp.conv
  · apply stp_if; intro e1
    apply stp_if; intro e2
    apply stp_call
    · exact f136 (by rw [E154]; exact mk_i (by assumption) (mk_sl W206 (by assumption) (mk_sl W9 (by assumption) (mk_sl W207 (by assumption) (ShL.nil))))) (by rw [E154]; exact mk_i (by assumption) (mk_sl W206 (by assumption) (mk_sl W9 (by assumption) (mk_sl W207 (by assumption) (ShL.nil)))))
    apply stp_if; intro e3
    apply stp_call
    · exact f127 (by rw [E122]; exact mk_i (by assumption) (mk_s (by assumption) (mk_i (by assumption) (mk_sl W9 (by assumption) (mk_sl W122 (by assumption) (ShL.nil)))))) (by rw [E122]; exact mk_i (by assumption) (mk_s (by assumption) (mk_i (by assumption) (mk_sl W9 (by assumption) (mk_sl W122 (by assumption) (ShL.nil))))))
    apply stp_if; intro e4
    apply stp_call
    · exact f137 (by assumption) (by assumption)
    apply stp_if; intro e5
    apply stp_if; intro e6
    first | exact stp_end | exact stp_ret
  · first | (simp only [eqRow, eqD, Bool.and_true, Bool.true_and, Bool.and_assoc]; done) | (simp only [eqRow, eqD, Bool.and_true, Bool.true_and, Bool.and_assoc]; ac_rfl) | (rw [Bool.eq_iff_iff]; simp only [eqRow, eqD, Bool.and_true, Bool.true_and, Bool.and_eq_true]; constructor <;> (intro hh; simp only [hh, and_self]))
/- loop.example/g00119/laws.eqJobS -/
theorem f60 {l l' : Rows} (hl : SL E 157 l) (hl' : SL E 157 l') : Ev fs 60 [.d (.s 13 l), .d (.s 13 l')] (bo ((l.length == l'.length) && eqRows l l')) := by
  refine Ev.bo (af := a60) rfl rfl (fun d n => a60q ..) ?_
  simp only [bne_not, beq_t, beq_f, Bool.not_not, Bool.cond_not, beq_nat, Bool.and_true]
  apply Stp.conv
  · apply stp_if; intro e1
    apply stp_loop (L := fun d n => l60x0 (TabD fs d) d n [(.fz 13 l), (.fz 13 l'), (.v (.int .i64 0))]) (c := eqRows l l') (y := ((.exit 0), []))
    · refine eq_loopE (L := fun d n i => l60x0 (TabD fs d) d n [(.fz 13 l), (.fz 13 l'), (.v (.int .i64 i))]) (len_of (by assumption)) (fun d n => ?_) (fun i x x' hi hi' hx hx' => ?_)
      rw [l60x0s]
      simp -implicitDefEqProofs only [cI, cB, cS, cL, oD_d, oG_g, oT_t, oP_p, dI_v, dB_v, dS_v, dL_s, cell_z, cell_s, nth_z, nth_s, aV_z, aV_s, aI_v, aB_v, aS_v, aL_f, aO_o, aX_b, tst_t, cond_true, cond_false, Ex.same, Nat.beq, List.length_cons, List.length_nil, Int.toNat_natCast, beqTT, beqTF, beqFT, beqFF, Int.lt_irrefl, decide_false]
      have h := (SL.at (E := E) (t := 157) (by assumption) hx)
      have h' := (SL.at (E := E) (t := 157) (by assumption) hx')
      have k := h
      have k' := h'
      rw [E157] at h
      obtain ⟨nx0, rx0, rfl, px0, h_x0⟩ := inv_i h
      obtain ⟨sx1, rx1, rfl, px1, h_x1⟩ := inv_s h_x0
      obtain ⟨nx2, rx2, rfl, px2, h_x2⟩ := inv_i h_x1
      obtain ⟨lx3, rx3, rfl, px3, h_x3⟩ := inv_sl W206 h_x2
      obtain ⟨lx4, rx4, rfl, px4, h_x4⟩ := inv_sl W9 h_x3
      obtain ⟨lx5, rx5, rfl, px5, h_x5⟩ := inv_sl W207 h_x4
      obtain ⟨nx6, rx6, rfl, px6, h_x6⟩ := inv_i h_x5
      obtain ⟨sx7, rx7, rfl, px7, h_x7⟩ := inv_s h_x6
      obtain ⟨nx8, rx8, rfl, px8, h_x8⟩ := inv_i h_x7
      obtain ⟨lx9, rx9, rfl, px9, h_x9⟩ := inv_sl W9 h_x8
      obtain ⟨lx10, rx10, rfl, px10, h_x10⟩ := inv_sl W122 h_x9
      obtain ⟨lx11, rx11, rfl, px11, h_x11⟩ := inv_sl W210 h_x10
      obtain ⟨bx12, rx12, rfl, h_x12⟩ := inv_b h_x11
      cases inv_nil h_x12
      rw [E157] at h'
      obtain ⟨ny0, ry0, rfl, py0, hq_y0⟩ := inv_i h'
      obtain ⟨sy1, ry1, rfl, py1, hq_y1⟩ := inv_s hq_y0
      obtain ⟨ny2, ry2, rfl, py2, hq_y2⟩ := inv_i hq_y1
      obtain ⟨ly3, ry3, rfl, py3, hq_y3⟩ := inv_sl W206 hq_y2
      obtain ⟨ly4, ry4, rfl, py4, hq_y4⟩ := inv_sl W9 hq_y3
      obtain ⟨ly5, ry5, rfl, py5, hq_y5⟩ := inv_sl W207 hq_y4
      obtain ⟨ny6, ry6, rfl, py6, hq_y6⟩ := inv_i hq_y5
      obtain ⟨sy7, ry7, rfl, py7, hq_y7⟩ := inv_s hq_y6
      obtain ⟨ny8, ry8, rfl, py8, hq_y8⟩ := inv_i hq_y7
      obtain ⟨ly9, ry9, rfl, py9, hq_y9⟩ := inv_sl W9 hq_y8
      obtain ⟨ly10, ry10, rfl, py10, hq_y10⟩ := inv_sl W122 hq_y9
      obtain ⟨ly11, ry11, rfl, py11, hq_y11⟩ := inv_sl W210 hq_y10
      obtain ⟨by12, ry12, rfl, hq_y12⟩ := inv_b hq_y11
      cases inv_nil hq_y12
      simp only [l60x0s]
      simp -implicitDefEqProofs only [cI, cB, cS, cL, oD_d, oG_g, oT_t, oP_p, dI_v, dB_v, dS_v, dL_s, cell_z, cell_s, nth_z, nth_s, aV_z, aV_s, aI_v, aB_v, aS_v, aL_f, aO_o, aX_b, tst_t, cond_true, cond_false, Ex.same, Nat.beq, List.length_cons, List.length_nil, Int.toNat_natCast, beqTT, beqTF, beqFT, beqFF, decide_eq_true (Int.ofNat_lt.2 hi), dec_nn, look_at hx, look_at hx', wrap_succ hi (SL.le (E := E) (t := 157) (by assumption)), List.append_nil]
      simp only [bne_not, beq_t, beq_f, Bool.not_not, Bool.cond_not, beq_nat, Bool.and_true]
      apply Stp.conv
      · apply stp_call
        · exact f103 (by assumption) (by assumption)
        apply stp_if; intro g1
        exact stp_end
      · first | (simp only [eqRow, eqD, Bool.and_true, Bool.true_and, Bool.and_assoc]; done) | (simp only [eqRow, eqD, Bool.and_true, Bool.true_and, Bool.and_assoc]; ac_rfl) | (rw [Bool.eq_iff_iff]; simp only [eqRow, eqD, Bool.and_true, Bool.true_and, Bool.and_eq_true]; constructor <;> (intro hh; simp only [hh, and_self]))
    any_goals (intro d n; simp -implicitDefEqProofs only [cI, cB, cS, cL, oD_d, oG_g, oT_t, oP_p, dI_v, dB_v, dS_v, dL_s, cell_z, cell_s, nth_z, nth_s, aV_z, aV_s, aI_v, aB_v, aS_v, aL_f, aO_o, aX_b, tst_t, cond_true, cond_false, Ex.same, Nat.beq, List.length_cons, List.length_nil, Int.toNat_natCast, beqTT, beqTF, beqFT, beqFF]; done)
    simp -implicitDefEqProofs only [cI, cB, cS, cL, oD_d, oG_g, oT_t, oP_p, dI_v, dB_v, dS_v, dL_s, cell_z, cell_s, nth_z, nth_s, aV_z, aV_s, aI_v, aB_v, aS_v, aL_f, aO_o, aX_b, tst_t, cond_true, cond_false, Ex.same, Nat.beq, List.length_cons, List.length_nil, Int.toNat_natCast, beqTT, beqTF, beqFT, beqFF]
    first | exact stp_end | exact stp_ret
  · first | (simp only [eqRow, eqD, Bool.and_true, Bool.true_and, Bool.and_assoc]; done) | (simp only [eqRow, eqD, Bool.and_true, Bool.true_and, Bool.and_assoc]; ac_rfl) | (rw [Bool.eq_iff_iff]; simp only [eqRow, eqD, Bool.and_true, Bool.true_and, Bool.and_eq_true]; constructor <;> (intro hh; simp only [hh, and_self]))
/- loop.example/g00119/laws.eqLabel -/
theorem f180 {row row' : Row} (h : ShL E (E 213) row) (h' : ShL E (E 213) row') : Ev fs 180 [.g row, .g row'] (bo (eqRow row row')) := by
  rw [E213] at h
  obtain ⟨sa0, ra0, rfl, pa0, h_a0⟩ := inv_s h
  obtain ⟨sa1, ra1, rfl, pa1, h_a1⟩ := inv_s h_a0
  cases inv_nil h_a1
  rw [E213] at h'
  obtain ⟨sc0, rc0, rfl, pc0, hq_c0⟩ := inv_s h'
  obtain ⟨sc1, rc1, rfl, pc1, hq_c1⟩ := inv_s hq_c0
  cases inv_nil hq_c1
  refine Ev.bo (af := a180) rfl rfl (fun d n => a180q ..) ?_
  simp only [bne_not, beq_t, beq_f, Bool.not_not, Bool.cond_not, beq_nat, Bool.and_true]
  apply Stp.conv
  · apply stp_if; intro e1
    apply stp_if; intro e2
    first | exact stp_end | exact stp_ret
  · first | (simp only [eqRow, eqD, Bool.and_true, Bool.true_and, Bool.and_assoc]; done) | (simp only [eqRow, eqD, Bool.and_true, Bool.true_and, Bool.and_assoc]; ac_rfl) | (rw [Bool.eq_iff_iff]; simp only [eqRow, eqD, Bool.and_true, Bool.true_and, Bool.and_eq_true]; constructor <;> (intro hh; simp only [hh, and_self]))
/- loop.example/g00119/laws.eqLabelS -/
theorem f162 {l l' : Rows} (hl : SL E 213 l) (hl' : SL E 213 l') : Ev fs 162 [.d (.s 2 l), .d (.s 2 l')] (bo ((l.length == l'.length) && eqRows l l')) := by
  refine Ev.bo (af := a162) rfl rfl (fun d n => a162q ..) ?_
  simp only [bne_not, beq_t, beq_f, Bool.not_not, Bool.cond_not, beq_nat, Bool.and_true]
  apply Stp.conv
  · apply stp_if; intro e1
    apply stp_loop (L := fun d n => l162x0 (TabD fs d) d n [(.fz 2 l), (.fz 2 l'), (.v (.int .i64 0))]) (c := eqRows l l') (y := ((.exit 0), []))
    · refine eq_loopE (L := fun d n i => l162x0 (TabD fs d) d n [(.fz 2 l), (.fz 2 l'), (.v (.int .i64 i))]) (len_of (by assumption)) (fun d n => ?_) (fun i x x' hi hi' hx hx' => ?_)
      rw [l162x0s]
      simp -implicitDefEqProofs only [cI, cB, cS, cL, oD_d, oG_g, oT_t, oP_p, dI_v, dB_v, dS_v, dL_s, cell_z, cell_s, nth_z, nth_s, aV_z, aV_s, aI_v, aB_v, aS_v, aL_f, aO_o, aX_b, tst_t, cond_true, cond_false, Ex.same, Nat.beq, List.length_cons, List.length_nil, Int.toNat_natCast, beqTT, beqTF, beqFT, beqFF, Int.lt_irrefl, decide_false]
      have h := (SL.at (E := E) (t := 213) (by assumption) hx)
      have h' := (SL.at (E := E) (t := 213) (by assumption) hx')
      have k := h
      have k' := h'
      rw [E213] at h
      obtain ⟨sx0, rx0, rfl, px0, h_x0⟩ := inv_s h
      obtain ⟨sx1, rx1, rfl, px1, h_x1⟩ := inv_s h_x0
      cases inv_nil h_x1
      rw [E213] at h'
      obtain ⟨sy0, ry0, rfl, py0, hq_y0⟩ := inv_s h'
      obtain ⟨sy1, ry1, rfl, py1, hq_y1⟩ := inv_s hq_y0
      cases inv_nil hq_y1
      simp only [l162x0s]
      simp -implicitDefEqProofs only [cI, cB, cS, cL, oD_d, oG_g, oT_t, oP_p, dI_v, dB_v, dS_v, dL_s, cell_z, cell_s, nth_z, nth_s, aV_z, aV_s, aI_v, aB_v, aS_v, aL_f, aO_o, aX_b, tst_t, cond_true, cond_false, Ex.same, Nat.beq, List.length_cons, List.length_nil, Int.toNat_natCast, beqTT, beqTF, beqFT, beqFF, decide_eq_true (Int.ofNat_lt.2 hi), dec_nn, look_at hx, look_at hx', wrap_succ hi (SL.le (E := E) (t := 213) (by assumption)), List.append_nil]
      simp only [bne_not, beq_t, beq_f, Bool.not_not, Bool.cond_not, beq_nat, Bool.and_true]
      apply Stp.conv
      · apply stp_call
        · exact f180 (by assumption) (by assumption)
        apply stp_if; intro g1
        exact stp_end
      · first | (simp only [eqRow, eqD, Bool.and_true, Bool.true_and, Bool.and_assoc]; done) | (simp only [eqRow, eqD, Bool.and_true, Bool.true_and, Bool.and_assoc]; ac_rfl) | (rw [Bool.eq_iff_iff]; simp only [eqRow, eqD, Bool.and_true, Bool.true_and, Bool.and_eq_true]; constructor <;> (intro hh; simp only [hh, and_self]))
    any_goals (intro d n; simp -implicitDefEqProofs only [cI, cB, cS, cL, oD_d, oG_g, oT_t, oP_p, dI_v, dB_v, dS_v, dL_s, cell_z, cell_s, nth_z, nth_s, aV_z, aV_s, aI_v, aB_v, aS_v, aL_f, aO_o, aX_b, tst_t, cond_true, cond_false, Ex.same, Nat.beq, List.length_cons, List.length_nil, Int.toNat_natCast, beqTT, beqTF, beqFT, beqFF]; done)
    simp -implicitDefEqProofs only [cI, cB, cS, cL, oD_d, oG_g, oT_t, oP_p, dI_v, dB_v, dS_v, dL_s, cell_z, cell_s, nth_z, nth_s, aV_z, aV_s, aI_v, aB_v, aS_v, aL_f, aO_o, aX_b, tst_t, cond_true, cond_false, Ex.same, Nat.beq, List.length_cons, List.length_nil, Int.toNat_natCast, beqTT, beqTF, beqFT, beqFF]
    first | exact stp_end | exact stp_ret
  · first | (simp only [eqRow, eqD, Bool.and_true, Bool.true_and, Bool.and_assoc]; done) | (simp only [eqRow, eqD, Bool.and_true, Bool.true_and, Bool.and_assoc]; ac_rfl) | (rw [Bool.eq_iff_iff]; simp only [eqRow, eqD, Bool.and_true, Bool.true_and, Bool.and_eq_true]; constructor <;> (intro hh; simp only [hh, and_self]))
/- loop.example/g00119/laws.eqIsland -/
theorem f138 {row row' : Row} (h : ShL E (E 161) row) (h' : ShL E (E 161) row') : Ev fs 138 [.g row, .g row'] (bo (eqRow row row')) := by
  rw [E161] at h
  obtain ⟨sa0, ra0, rfl, pa0, h_a0⟩ := inv_s h
  obtain ⟨la1, ra1, rfl, pa1, h_a1⟩ := inv_sl W213 h_a0
  obtain ⟨la2, ra2, rfl, pa2, h_a2⟩ := inv_sl W9 h_a1
  obtain ⟨na3, ra3, rfl, pa3, h_a3⟩ := inv_i h_a2
  cases inv_nil h_a3
  rw [E161] at h'
  obtain ⟨sc0, rc0, rfl, pc0, hq_c0⟩ := inv_s h'
  obtain ⟨lc1, rc1, rfl, pc1, hq_c1⟩ := inv_sl W213 hq_c0
  obtain ⟨lc2, rc2, rfl, pc2, hq_c2⟩ := inv_sl W9 hq_c1
  obtain ⟨nc3, rc3, rfl, pc3, hq_c3⟩ := inv_i hq_c2
  cases inv_nil hq_c3
  refine Ev.bo (af := a138) rfl rfl (fun d n => a138q ..) ?_
  simp only [bne_not, beq_t, beq_f, Bool.not_not, Bool.cond_not, beq_nat, Bool.and_true]
  apply Stp.conv
  · apply stp_if; intro e1
    apply stp_call
    · exact f162 (by assumption) (by assumption)
    apply stp_if; intro e2
    apply stp_call
    · exact f63 (by assumption) (by assumption)
    apply stp_if; intro e3
    apply stp_if; intro e4
    first | exact stp_end | exact stp_ret
  · first | (simp only [eqRow, eqD, Bool.and_true, Bool.true_and, Bool.and_assoc]; done) | (simp only [eqRow, eqD, Bool.and_true, Bool.true_and, Bool.and_assoc]; ac_rfl) | (rw [Bool.eq_iff_iff]; simp only [eqRow, eqD, Bool.and_true, Bool.true_and, Bool.and_eq_true]; constructor <;> (intro hh; simp only [hh, and_self]))
/- loop.example/g00119/laws.eqPost -/
theorem f104 {row row' : Row} (h : ShL E (E 163) row) (h' : ShL E (E 163) row') : Ev fs 104 [.g row, .g row'] (bo (eqRow row row')) := by
  rw [E163] at h
  obtain ⟨sa0, ra0, rfl, pa0, h_a0⟩ := inv_s h
  obtain ⟨la1, ra1, rfl, pa1, h_a1⟩ := inv_sl W213 h_a0
  obtain ⟨la2, ra2, rfl, pa2, h_a2⟩ := inv_sl W9 h_a1
  obtain ⟨na3, ra3, rfl, pa3, h_a3⟩ := inv_i h_a2
  obtain ⟨na4, ra4, rfl, pa4, h_a4⟩ := inv_i h_a3
  obtain ⟨na5, ra5, rfl, pa5, h_a5⟩ := inv_i h_a4
  cases inv_nil h_a5
  rw [E163] at h'
  obtain ⟨sc0, rc0, rfl, pc0, hq_c0⟩ := inv_s h'
  obtain ⟨lc1, rc1, rfl, pc1, hq_c1⟩ := inv_sl W213 hq_c0
  obtain ⟨lc2, rc2, rfl, pc2, hq_c2⟩ := inv_sl W9 hq_c1
  obtain ⟨nc3, rc3, rfl, pc3, hq_c3⟩ := inv_i hq_c2
  obtain ⟨nc4, rc4, rfl, pc4, hq_c4⟩ := inv_i hq_c3
  obtain ⟨nc5, rc5, rfl, pc5, hq_c5⟩ := inv_i hq_c4
  cases inv_nil hq_c5
  refine Ev.bo (af := a104) rfl rfl (fun d n => a104q ..) ?_
  simp only [bne_not, beq_t, beq_f, Bool.not_not, Bool.cond_not, beq_nat, Bool.and_true]
  apply Stp.conv
  · apply stp_call
    · exact f138 (by rw [E161]; exact mk_s (by assumption) (mk_sl W213 (by assumption) (mk_sl W9 (by assumption) (mk_i (by assumption) (ShL.nil))))) (by rw [E161]; exact mk_s (by assumption) (mk_sl W213 (by assumption) (mk_sl W9 (by assumption) (mk_i (by assumption) (ShL.nil)))))
    apply stp_if; intro e1
    apply stp_if; intro e2
    apply stp_if; intro e3
    first | exact stp_end | exact stp_ret
  · first | (simp only [eqRow, eqD, Bool.and_true, Bool.true_and, Bool.and_assoc]; done) | (simp only [eqRow, eqD, Bool.and_true, Bool.true_and, Bool.and_assoc]; ac_rfl) | (rw [Bool.eq_iff_iff]; simp only [eqRow, eqD, Bool.and_true, Bool.true_and, Bool.and_eq_true]; constructor <;> (intro hh; simp only [hh, and_self]))
/- loop.example/g00119/laws.eqPostS -/
theorem f61 {l l' : Rows} (hl : SL E 163 l) (hl' : SL E 163 l') : Ev fs 61 [.d (.s 6 l), .d (.s 6 l')] (bo ((l.length == l'.length) && eqRows l l')) := by
  refine Ev.bo (af := a61) rfl rfl (fun d n => a61q ..) ?_
  simp only [bne_not, beq_t, beq_f, Bool.not_not, Bool.cond_not, beq_nat, Bool.and_true]
  apply Stp.conv
  · apply stp_if; intro e1
    apply stp_loop (L := fun d n => l61x0 (TabD fs d) d n [(.fz 6 l), (.fz 6 l'), (.v (.int .i64 0))]) (c := eqRows l l') (y := ((.exit 0), []))
    · refine eq_loopE (L := fun d n i => l61x0 (TabD fs d) d n [(.fz 6 l), (.fz 6 l'), (.v (.int .i64 i))]) (len_of (by assumption)) (fun d n => ?_) (fun i x x' hi hi' hx hx' => ?_)
      rw [l61x0s]
      simp -implicitDefEqProofs only [cI, cB, cS, cL, oD_d, oG_g, oT_t, oP_p, dI_v, dB_v, dS_v, dL_s, cell_z, cell_s, nth_z, nth_s, aV_z, aV_s, aI_v, aB_v, aS_v, aL_f, aO_o, aX_b, tst_t, cond_true, cond_false, Ex.same, Nat.beq, List.length_cons, List.length_nil, Int.toNat_natCast, beqTT, beqTF, beqFT, beqFF, Int.lt_irrefl, decide_false]
      have h := (SL.at (E := E) (t := 163) (by assumption) hx)
      have h' := (SL.at (E := E) (t := 163) (by assumption) hx')
      have k := h
      have k' := h'
      rw [E163] at h
      obtain ⟨sx0, rx0, rfl, px0, h_x0⟩ := inv_s h
      obtain ⟨lx1, rx1, rfl, px1, h_x1⟩ := inv_sl W213 h_x0
      obtain ⟨lx2, rx2, rfl, px2, h_x2⟩ := inv_sl W9 h_x1
      obtain ⟨nx3, rx3, rfl, px3, h_x3⟩ := inv_i h_x2
      obtain ⟨nx4, rx4, rfl, px4, h_x4⟩ := inv_i h_x3
      obtain ⟨nx5, rx5, rfl, px5, h_x5⟩ := inv_i h_x4
      cases inv_nil h_x5
      rw [E163] at h'
      obtain ⟨sy0, ry0, rfl, py0, hq_y0⟩ := inv_s h'
      obtain ⟨ly1, ry1, rfl, py1, hq_y1⟩ := inv_sl W213 hq_y0
      obtain ⟨ly2, ry2, rfl, py2, hq_y2⟩ := inv_sl W9 hq_y1
      obtain ⟨ny3, ry3, rfl, py3, hq_y3⟩ := inv_i hq_y2
      obtain ⟨ny4, ry4, rfl, py4, hq_y4⟩ := inv_i hq_y3
      obtain ⟨ny5, ry5, rfl, py5, hq_y5⟩ := inv_i hq_y4
      cases inv_nil hq_y5
      simp only [l61x0s]
      simp -implicitDefEqProofs only [cI, cB, cS, cL, oD_d, oG_g, oT_t, oP_p, dI_v, dB_v, dS_v, dL_s, cell_z, cell_s, nth_z, nth_s, aV_z, aV_s, aI_v, aB_v, aS_v, aL_f, aO_o, aX_b, tst_t, cond_true, cond_false, Ex.same, Nat.beq, List.length_cons, List.length_nil, Int.toNat_natCast, beqTT, beqTF, beqFT, beqFF, decide_eq_true (Int.ofNat_lt.2 hi), dec_nn, look_at hx, look_at hx', wrap_succ hi (SL.le (E := E) (t := 163) (by assumption)), List.append_nil]
      simp only [bne_not, beq_t, beq_f, Bool.not_not, Bool.cond_not, beq_nat, Bool.and_true]
      apply Stp.conv
      · apply stp_call
        · exact f104 (by assumption) (by assumption)
        apply stp_if; intro g1
        exact stp_end
      · first | (simp only [eqRow, eqD, Bool.and_true, Bool.true_and, Bool.and_assoc]; done) | (simp only [eqRow, eqD, Bool.and_true, Bool.true_and, Bool.and_assoc]; ac_rfl) | (rw [Bool.eq_iff_iff]; simp only [eqRow, eqD, Bool.and_true, Bool.true_and, Bool.and_eq_true]; constructor <;> (intro hh; simp only [hh, and_self]))
    any_goals (intro d n; simp -implicitDefEqProofs only [cI, cB, cS, cL, oD_d, oG_g, oT_t, oP_p, dI_v, dB_v, dS_v, dL_s, cell_z, cell_s, nth_z, nth_s, aV_z, aV_s, aI_v, aB_v, aS_v, aL_f, aO_o, aX_b, tst_t, cond_true, cond_false, Ex.same, Nat.beq, List.length_cons, List.length_nil, Int.toNat_natCast, beqTT, beqTF, beqFT, beqFF]; done)
    simp -implicitDefEqProofs only [cI, cB, cS, cL, oD_d, oG_g, oT_t, oP_p, dI_v, dB_v, dS_v, dL_s, cell_z, cell_s, nth_z, nth_s, aV_z, aV_s, aI_v, aB_v, aS_v, aL_f, aO_o, aX_b, tst_t, cond_true, cond_false, Ex.same, Nat.beq, List.length_cons, List.length_nil, Int.toNat_natCast, beqTT, beqTF, beqFT, beqFF]
    first | exact stp_end | exact stp_ret
  · first | (simp only [eqRow, eqD, Bool.and_true, Bool.true_and, Bool.and_assoc]; done) | (simp only [eqRow, eqD, Bool.and_true, Bool.true_and, Bool.and_assoc]; ac_rfl) | (rw [Bool.eq_iff_iff]; simp only [eqRow, eqD, Bool.and_true, Bool.true_and, Bool.and_eq_true]; constructor <;> (intro hh; simp only [hh, and_self]))
/- loop.example/g00119/laws.eqHold -/
theorem f105 {row row' : Row} (h : ShL E (E 85) row) (h' : ShL E (E 85) row') : Ev fs 105 [.g row, .g row'] (bo (eqRow row row')) := by
  rw [E85] at h
  obtain ⟨na0, ra0, rfl, pa0, h_a0⟩ := inv_i h
  obtain ⟨sa1, ra1, rfl, pa1, h_a1⟩ := inv_s h_a0
  obtain ⟨na2, ra2, rfl, pa2, h_a2⟩ := inv_i h_a1
  obtain ⟨na3, ra3, rfl, pa3, h_a3⟩ := inv_i h_a2
  obtain ⟨na4, ra4, rfl, pa4, h_a4⟩ := inv_i h_a3
  cases inv_nil h_a4
  rw [E85] at h'
  obtain ⟨nc0, rc0, rfl, pc0, hq_c0⟩ := inv_i h'
  obtain ⟨sc1, rc1, rfl, pc1, hq_c1⟩ := inv_s hq_c0
  obtain ⟨nc2, rc2, rfl, pc2, hq_c2⟩ := inv_i hq_c1
  obtain ⟨nc3, rc3, rfl, pc3, hq_c3⟩ := inv_i hq_c2
  obtain ⟨nc4, rc4, rfl, pc4, hq_c4⟩ := inv_i hq_c3
  cases inv_nil hq_c4
  refine Ev.bo (af := a105) rfl rfl (fun d n => a105q ..) ?_
  simp only [bne_not, beq_t, beq_f, Bool.not_not, Bool.cond_not, beq_nat, Bool.and_true]
  apply Stp.conv
  · apply stp_if; intro e1
    apply stp_if; intro e2
    apply stp_if; intro e3
    apply stp_if; intro e4
    apply stp_if; intro e5
    first | exact stp_end | exact stp_ret
  · first | (simp only [eqRow, eqD, Bool.and_true, Bool.true_and, Bool.and_assoc]; done) | (simp only [eqRow, eqD, Bool.and_true, Bool.true_and, Bool.and_assoc]; ac_rfl) | (rw [Bool.eq_iff_iff]; simp only [eqRow, eqD, Bool.and_true, Bool.true_and, Bool.and_eq_true]; constructor <;> (intro hh; simp only [hh, and_self]))
/- loop.example/g00119/laws.eqHoldS -/
theorem f62 {l l' : Rows} (hl : SL E 85 l) (hl' : SL E 85 l') : Ev fs 62 [.d (.s 5 l), .d (.s 5 l')] (bo ((l.length == l'.length) && eqRows l l')) := by
  refine Ev.bo (af := a62) rfl rfl (fun d n => a62q ..) ?_
  simp only [bne_not, beq_t, beq_f, Bool.not_not, Bool.cond_not, beq_nat, Bool.and_true]
  apply Stp.conv
  · apply stp_if; intro e1
    apply stp_loop (L := fun d n => l62x0 (TabD fs d) d n [(.fz 5 l), (.fz 5 l'), (.v (.int .i64 0))]) (c := eqRows l l') (y := ((.exit 0), []))
    · refine eq_loopE (L := fun d n i => l62x0 (TabD fs d) d n [(.fz 5 l), (.fz 5 l'), (.v (.int .i64 i))]) (len_of (by assumption)) (fun d n => ?_) (fun i x x' hi hi' hx hx' => ?_)
      rw [l62x0s]
      simp -implicitDefEqProofs only [cI, cB, cS, cL, oD_d, oG_g, oT_t, oP_p, dI_v, dB_v, dS_v, dL_s, cell_z, cell_s, nth_z, nth_s, aV_z, aV_s, aI_v, aB_v, aS_v, aL_f, aO_o, aX_b, tst_t, cond_true, cond_false, Ex.same, Nat.beq, List.length_cons, List.length_nil, Int.toNat_natCast, beqTT, beqTF, beqFT, beqFF, Int.lt_irrefl, decide_false]
      have h := (SL.at (E := E) (t := 85) (by assumption) hx)
      have h' := (SL.at (E := E) (t := 85) (by assumption) hx')
      have k := h
      have k' := h'
      rw [E85] at h
      obtain ⟨nx0, rx0, rfl, px0, h_x0⟩ := inv_i h
      obtain ⟨sx1, rx1, rfl, px1, h_x1⟩ := inv_s h_x0
      obtain ⟨nx2, rx2, rfl, px2, h_x2⟩ := inv_i h_x1
      obtain ⟨nx3, rx3, rfl, px3, h_x3⟩ := inv_i h_x2
      obtain ⟨nx4, rx4, rfl, px4, h_x4⟩ := inv_i h_x3
      cases inv_nil h_x4
      rw [E85] at h'
      obtain ⟨ny0, ry0, rfl, py0, hq_y0⟩ := inv_i h'
      obtain ⟨sy1, ry1, rfl, py1, hq_y1⟩ := inv_s hq_y0
      obtain ⟨ny2, ry2, rfl, py2, hq_y2⟩ := inv_i hq_y1
      obtain ⟨ny3, ry3, rfl, py3, hq_y3⟩ := inv_i hq_y2
      obtain ⟨ny4, ry4, rfl, py4, hq_y4⟩ := inv_i hq_y3
      cases inv_nil hq_y4
      simp only [l62x0s]
      simp -implicitDefEqProofs only [cI, cB, cS, cL, oD_d, oG_g, oT_t, oP_p, dI_v, dB_v, dS_v, dL_s, cell_z, cell_s, nth_z, nth_s, aV_z, aV_s, aI_v, aB_v, aS_v, aL_f, aO_o, aX_b, tst_t, cond_true, cond_false, Ex.same, Nat.beq, List.length_cons, List.length_nil, Int.toNat_natCast, beqTT, beqTF, beqFT, beqFF, decide_eq_true (Int.ofNat_lt.2 hi), dec_nn, look_at hx, look_at hx', wrap_succ hi (SL.le (E := E) (t := 85) (by assumption)), List.append_nil]
      simp only [bne_not, beq_t, beq_f, Bool.not_not, Bool.cond_not, beq_nat, Bool.and_true]
      apply Stp.conv
      · apply stp_call
        · exact f105 (by assumption) (by assumption)
        apply stp_if; intro g1
        exact stp_end
      · first | (simp only [eqRow, eqD, Bool.and_true, Bool.true_and, Bool.and_assoc]; done) | (simp only [eqRow, eqD, Bool.and_true, Bool.true_and, Bool.and_assoc]; ac_rfl) | (rw [Bool.eq_iff_iff]; simp only [eqRow, eqD, Bool.and_true, Bool.true_and, Bool.and_eq_true]; constructor <;> (intro hh; simp only [hh, and_self]))
    any_goals (intro d n; simp -implicitDefEqProofs only [cI, cB, cS, cL, oD_d, oG_g, oT_t, oP_p, dI_v, dB_v, dS_v, dL_s, cell_z, cell_s, nth_z, nth_s, aV_z, aV_s, aI_v, aB_v, aS_v, aL_f, aO_o, aX_b, tst_t, cond_true, cond_false, Ex.same, Nat.beq, List.length_cons, List.length_nil, Int.toNat_natCast, beqTT, beqTF, beqFT, beqFF]; done)
    simp -implicitDefEqProofs only [cI, cB, cS, cL, oD_d, oG_g, oT_t, oP_p, dI_v, dB_v, dS_v, dL_s, cell_z, cell_s, nth_z, nth_s, aV_z, aV_s, aI_v, aB_v, aS_v, aL_f, aO_o, aX_b, tst_t, cond_true, cond_false, Ex.same, Nat.beq, List.length_cons, List.length_nil, Int.toNat_natCast, beqTT, beqTF, beqFT, beqFF]
    first | exact stp_end | exact stp_ret
  · first | (simp only [eqRow, eqD, Bool.and_true, Bool.true_and, Bool.and_assoc]; done) | (simp only [eqRow, eqD, Bool.and_true, Bool.true_and, Bool.and_assoc]; ac_rfl) | (rw [Bool.eq_iff_iff]; simp only [eqRow, eqD, Bool.and_true, Bool.true_and, Bool.and_eq_true]; constructor <;> (intro hh; simp only [hh, and_self]))
/- loop.example/g00119/laws.eqHub -/
theorem f22 {row row' : Row} (h : ShL E (E 57) row) (h' : ShL E (E 57) row') : Ev fs 22 [.g row, .g row'] (bo (eqRow row row')) := by
  rw [E57] at h
  obtain ⟨na0, ra0, rfl, pa0, h_a0⟩ := inv_i h
  obtain ⟨na1, ra1, rfl, pa1, h_a1⟩ := inv_i h_a0
  obtain ⟨na2, ra2, rfl, pa2, h_a2⟩ := inv_i h_a1
  obtain ⟨la3, ra3, rfl, pa3, h_a3⟩ := inv_sl W157 h_a2
  obtain ⟨la4, ra4, rfl, pa4, h_a4⟩ := inv_sl W163 h_a3
  obtain ⟨la5, ra5, rfl, pa5, h_a5⟩ := inv_sl W85 h_a4
  obtain ⟨la6, ra6, rfl, pa6, h_a6⟩ := inv_sl W9 h_a5
  cases inv_nil h_a6
  rw [E57] at h'
  obtain ⟨nc0, rc0, rfl, pc0, hq_c0⟩ := inv_i h'
  obtain ⟨nc1, rc1, rfl, pc1, hq_c1⟩ := inv_i hq_c0
  obtain ⟨nc2, rc2, rfl, pc2, hq_c2⟩ := inv_i hq_c1
  obtain ⟨lc3, rc3, rfl, pc3, hq_c3⟩ := inv_sl W157 hq_c2
  obtain ⟨lc4, rc4, rfl, pc4, hq_c4⟩ := inv_sl W163 hq_c3
  obtain ⟨lc5, rc5, rfl, pc5, hq_c5⟩ := inv_sl W85 hq_c4
  obtain ⟨lc6, rc6, rfl, pc6, hq_c6⟩ := inv_sl W9 hq_c5
  cases inv_nil hq_c6
  refine Ev.bo (af := a22) rfl rfl (fun d n => a22q ..) ?_
  simp only [bne_not, beq_t, beq_f, Bool.not_not, Bool.cond_not, beq_nat, Bool.and_true]
  apply Stp.conv
  · apply stp_if; intro e1
    apply stp_if; intro e2
    apply stp_if; intro e3
    apply stp_call
    · exact f60 (by assumption) (by assumption)
    apply stp_if; intro e4
    apply stp_call
    · exact f61 (by assumption) (by assumption)
    apply stp_if; intro e5
    apply stp_call
    · exact f62 (by assumption) (by assumption)
    apply stp_if; intro e6
    apply stp_call
    · exact f63 (by assumption) (by assumption)
    apply stp_if; intro e7
    first | exact stp_end | exact stp_ret
  · first | (simp only [eqRow, eqD, Bool.and_true, Bool.true_and, Bool.and_assoc]; done) | (simp only [eqRow, eqD, Bool.and_true, Bool.true_and, Bool.and_assoc]; ac_rfl) | (rw [Bool.eq_iff_iff]; simp only [eqRow, eqD, Bool.and_true, Bool.true_and, Bool.and_eq_true]; constructor <;> (intro hh; simp only [hh, and_self]))
/- loop.example/g00119/laws.eqPart -/
theorem f70 {row row' : Row} (h : ShL E (E 101) row) (h' : ShL E (E 101) row') : Ev fs 70 [.g row, .g row'] (bo (eqRow row row')) := by
  rw [E101] at h
  obtain ⟨sa0, ra0, rfl, pa0, h_a0⟩ := inv_s h
  obtain ⟨na1, ra1, rfl, pa1, h_a1⟩ := inv_i h_a0
  cases inv_nil h_a1
  rw [E101] at h'
  obtain ⟨sc0, rc0, rfl, pc0, hq_c0⟩ := inv_s h'
  obtain ⟨nc1, rc1, rfl, pc1, hq_c1⟩ := inv_i hq_c0
  cases inv_nil hq_c1
  refine Ev.bo (af := a70) rfl rfl (fun d n => a70q ..) ?_
  simp only [bne_not, beq_t, beq_f, Bool.not_not, Bool.cond_not, beq_nat, Bool.and_true]
  apply Stp.conv
  · apply stp_if; intro e1
    apply stp_if; intro e2
    first | exact stp_end | exact stp_ret
  · first | (simp only [eqRow, eqD, Bool.and_true, Bool.true_and, Bool.and_assoc]; done) | (simp only [eqRow, eqD, Bool.and_true, Bool.true_and, Bool.and_assoc]; ac_rfl) | (rw [Bool.eq_iff_iff]; simp only [eqRow, eqD, Bool.and_true, Bool.true_and, Bool.and_eq_true]; constructor <;> (intro hh; simp only [hh, and_self]))
/- loop.example/g00119/laws.eqPartS -/
theorem f28 {l l' : Rows} (hl : SL E 101 l) (hl' : SL E 101 l') : Ev fs 28 [.d (.s 2 l), .d (.s 2 l')] (bo ((l.length == l'.length) && eqRows l l')) := by
  refine Ev.bo (af := a28) rfl rfl (fun d n => a28q ..) ?_
  simp only [bne_not, beq_t, beq_f, Bool.not_not, Bool.cond_not, beq_nat, Bool.and_true]
  apply Stp.conv
  · apply stp_if; intro e1
    apply stp_loop (L := fun d n => l28x0 (TabD fs d) d n [(.fz 2 l), (.fz 2 l'), (.v (.int .i64 0))]) (c := eqRows l l') (y := ((.exit 0), []))
    · refine eq_loopE (L := fun d n i => l28x0 (TabD fs d) d n [(.fz 2 l), (.fz 2 l'), (.v (.int .i64 i))]) (len_of (by assumption)) (fun d n => ?_) (fun i x x' hi hi' hx hx' => ?_)
      rw [l28x0s]
      simp -implicitDefEqProofs only [cI, cB, cS, cL, oD_d, oG_g, oT_t, oP_p, dI_v, dB_v, dS_v, dL_s, cell_z, cell_s, nth_z, nth_s, aV_z, aV_s, aI_v, aB_v, aS_v, aL_f, aO_o, aX_b, tst_t, cond_true, cond_false, Ex.same, Nat.beq, List.length_cons, List.length_nil, Int.toNat_natCast, beqTT, beqTF, beqFT, beqFF, Int.lt_irrefl, decide_false]
      have h := (SL.at (E := E) (t := 101) (by assumption) hx)
      have h' := (SL.at (E := E) (t := 101) (by assumption) hx')
      have k := h
      have k' := h'
      rw [E101] at h
      obtain ⟨sx0, rx0, rfl, px0, h_x0⟩ := inv_s h
      obtain ⟨nx1, rx1, rfl, px1, h_x1⟩ := inv_i h_x0
      cases inv_nil h_x1
      rw [E101] at h'
      obtain ⟨sy0, ry0, rfl, py0, hq_y0⟩ := inv_s h'
      obtain ⟨ny1, ry1, rfl, py1, hq_y1⟩ := inv_i hq_y0
      cases inv_nil hq_y1
      simp only [l28x0s]
      simp -implicitDefEqProofs only [cI, cB, cS, cL, oD_d, oG_g, oT_t, oP_p, dI_v, dB_v, dS_v, dL_s, cell_z, cell_s, nth_z, nth_s, aV_z, aV_s, aI_v, aB_v, aS_v, aL_f, aO_o, aX_b, tst_t, cond_true, cond_false, Ex.same, Nat.beq, List.length_cons, List.length_nil, Int.toNat_natCast, beqTT, beqTF, beqFT, beqFF, decide_eq_true (Int.ofNat_lt.2 hi), dec_nn, look_at hx, look_at hx', wrap_succ hi (SL.le (E := E) (t := 101) (by assumption)), List.append_nil]
      simp only [bne_not, beq_t, beq_f, Bool.not_not, Bool.cond_not, beq_nat, Bool.and_true]
      apply Stp.conv
      · apply stp_call
        · exact f70 (by assumption) (by assumption)
        apply stp_if; intro g1
        exact stp_end
      · first | (simp only [eqRow, eqD, Bool.and_true, Bool.true_and, Bool.and_assoc]; done) | (simp only [eqRow, eqD, Bool.and_true, Bool.true_and, Bool.and_assoc]; ac_rfl) | (rw [Bool.eq_iff_iff]; simp only [eqRow, eqD, Bool.and_true, Bool.true_and, Bool.and_eq_true]; constructor <;> (intro hh; simp only [hh, and_self]))
    any_goals (intro d n; simp -implicitDefEqProofs only [cI, cB, cS, cL, oD_d, oG_g, oT_t, oP_p, dI_v, dB_v, dS_v, dL_s, cell_z, cell_s, nth_z, nth_s, aV_z, aV_s, aI_v, aB_v, aS_v, aL_f, aO_o, aX_b, tst_t, cond_true, cond_false, Ex.same, Nat.beq, List.length_cons, List.length_nil, Int.toNat_natCast, beqTT, beqTF, beqFT, beqFF]; done)
    simp -implicitDefEqProofs only [cI, cB, cS, cL, oD_d, oG_g, oT_t, oP_p, dI_v, dB_v, dS_v, dL_s, cell_z, cell_s, nth_z, nth_s, aV_z, aV_s, aI_v, aB_v, aS_v, aL_f, aO_o, aX_b, tst_t, cond_true, cond_false, Ex.same, Nat.beq, List.length_cons, List.length_nil, Int.toNat_natCast, beqTT, beqTF, beqFT, beqFF]
    first | exact stp_end | exact stp_ret
  · first | (simp only [eqRow, eqD, Bool.and_true, Bool.true_and, Bool.and_assoc]; done) | (simp only [eqRow, eqD, Bool.and_true, Bool.true_and, Bool.and_assoc]; ac_rfl) | (rw [Bool.eq_iff_iff]; simp only [eqRow, eqD, Bool.and_true, Bool.true_and, Bool.and_eq_true]; constructor <;> (intro hh; simp only [hh, and_self]))
end Go.Am.Sp
