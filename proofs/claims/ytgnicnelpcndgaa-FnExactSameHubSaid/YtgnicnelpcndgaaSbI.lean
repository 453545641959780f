/- What the functions of one family say in the end. Nothing is assumed. -/
import Derived.Test.YtgnicnelpcndgaaSbH
namespace Go.Am.Sb
set_option linter.unusedVariables false
set_option linter.unusedSimpArgs false
set_option maxRecDepth 8000
/- slices.EqualFunc[[]loop.example/g00119/impl.Job,[]loop.example/g00119/impl.Job,loop.example/g00119/impl.Job,loop.example/g00119/impl.Job] -/
theorem f91 {l l' : Rows} (hl : SL E 120 l) (hl' : SL E 120 l') {g : Nat} (hg : ∀ (i : Nat) (x x' : Row), l[i]? = some x → l'[i]? = some x' → Ev fs g [.g x, .g x'] (bo (eqRow x x'))) : Ev fs 91 [.d (.s 13 l), .d (.s 13 l'), .f g []] (bo ((l.length == l'.length) && eqRows l l')) := by
  refine Ev.bo (af := a91) rfl rfl (fun d n => a91q ..) ?_
  simp only [bne_not, beq_t, beq_f, Bool.not_not, Bool.cond_not, beq_nat, Bool.and_true]
  apply Stp.conv
  · apply stp_if; intro e1
    apply stp_loop (L := fun d n => l91x0 (TabD fs d) d n [(.fz 13 l'), (.ff g []), (.fz 13 l), (.v (.int .i64 (l.length : Int))), (.v (.int .i64 0))]) (c := eqRows l l') (y := ((.exit 0), []))
    · refine eq_loopE (L := fun d n i => l91x0 (TabD fs d) d n [(.fz 13 l'), (.ff g []), (.fz 13 l), (.v (.int .i64 (l.length : Int))), (.v (.int .i64 i))]) (len_of (by assumption)) (fun d n => ?_) (fun i x x' hi hi' hx hx' => ?_)
      rw [l91x0s]
      simp only [cI, cB, cS, cL, oD_d, oG_g, oT_t, oP_p, dI_v, dB_v, dS_v, dL_s, cell_z, cell_s, nth_z, nth_s, aV_z, aV_s, aI_v, aB_v, aS_v, aL_f, aO_o, aX_b, tst_t, cond_true, cond_false, Ex.same, Nat.beq, List.length_cons, List.length_nil, Int.toNat_natCast, Int.lt_irrefl, decide_false]
      have h := (SL.at (E := E) (t := 120) (by assumption) hx)
      have h' := (SL.at (E := E) (t := 120) (by assumption) hx')
      have k := h
      have k' := h'
      rw [E120] at h
      obtain ⟨nx0, rx0, rfl, px0, h_x0⟩ := inv_i h
      obtain ⟨sx1, rx1, rfl, px1, h_x1⟩ := inv_s h_x0
      obtain ⟨nx2, rx2, rfl, px2, h_x2⟩ := inv_i h_x1
      obtain ⟨lx3, rx3, rfl, px3, h_x3⟩ := inv_sl W239 h_x2
      obtain ⟨lx4, rx4, rfl, px4, h_x4⟩ := inv_sl W9 h_x3
      obtain ⟨lx5, rx5, rfl, px5, h_x5⟩ := inv_sl W234 h_x4
      obtain ⟨nx6, rx6, rfl, px6, h_x6⟩ := inv_i h_x5
      obtain ⟨sx7, rx7, rfl, px7, h_x7⟩ := inv_s h_x6
      obtain ⟨nx8, rx8, rfl, px8, h_x8⟩ := inv_i h_x7
      obtain ⟨lx9, rx9, rfl, px9, h_x9⟩ := inv_sl W9 h_x8
      obtain ⟨lx10, rx10, rfl, px10, h_x10⟩ := inv_sl W117 h_x9
      obtain ⟨lx11, rx11, rfl, px11, h_x11⟩ := inv_sl W207 h_x10
      obtain ⟨bx12, rx12, rfl, h_x12⟩ := inv_b h_x11
      cases inv_nil h_x12
      rw [E120] at h'
      obtain ⟨ny0, ry0, rfl, py0, hq_y0⟩ := inv_i h'
      obtain ⟨sy1, ry1, rfl, py1, hq_y1⟩ := inv_s hq_y0
      obtain ⟨ny2, ry2, rfl, py2, hq_y2⟩ := inv_i hq_y1
      obtain ⟨ly3, ry3, rfl, py3, hq_y3⟩ := inv_sl W239 hq_y2
      obtain ⟨ly4, ry4, rfl, py4, hq_y4⟩ := inv_sl W9 hq_y3
      obtain ⟨ly5, ry5, rfl, py5, hq_y5⟩ := inv_sl W234 hq_y4
      obtain ⟨ny6, ry6, rfl, py6, hq_y6⟩ := inv_i hq_y5
      obtain ⟨sy7, ry7, rfl, py7, hq_y7⟩ := inv_s hq_y6
      obtain ⟨ny8, ry8, rfl, py8, hq_y8⟩ := inv_i hq_y7
      obtain ⟨ly9, ry9, rfl, py9, hq_y9⟩ := inv_sl W9 hq_y8
      obtain ⟨ly10, ry10, rfl, py10, hq_y10⟩ := inv_sl W117 hq_y9
      obtain ⟨ly11, ry11, rfl, py11, hq_y11⟩ := inv_sl W207 hq_y10
      obtain ⟨by12, ry12, rfl, hq_y12⟩ := inv_b hq_y11
      cases inv_nil hq_y12
      simp only [l91x0s]
      simp only [cI, cB, cS, cL, oD_d, oG_g, oT_t, oP_p, dI_v, dB_v, dS_v, dL_s, cell_z, cell_s, nth_z, nth_s, aV_z, aV_s, aI_v, aB_v, aS_v, aL_f, aO_o, aX_b, tst_t, cond_true, cond_false, Ex.same, Nat.beq, List.length_cons, List.length_nil, Int.toNat_natCast, decide_eq_true (Int.ofNat_lt.2 hi), dec_nn, look_at hx, look_at hx', wrap_succ hi (SL.le (E := E) (t := 120) (by assumption)), List.append_nil]
      simp only [bne_not, beq_t, beq_f, Bool.not_not, Bool.cond_not, beq_nat, Bool.and_true]
      apply Stp.conv
      · apply stp_call
        · exact hg i _ _ hx hx'
        apply stp_if; intro g1
        exact stp_end
      · first | (simp only [eqRow, eqD, Bool.and_true, Bool.true_and, Bool.and_assoc]; done) | (simp only [eqRow, eqD, Bool.and_true, Bool.true_and, Bool.and_assoc]; ac_rfl) | (rw [Bool.eq_iff_iff]; simp only [eqRow, eqD, Bool.and_true, Bool.true_and, Bool.and_eq_true]; constructor <;> (intro hh; simp only [hh, and_self]))
    any_goals (intro d n; simp only [cI, cB, cS, cL, oD_d, oG_g, oT_t, oP_p, dI_v, dB_v, dS_v, dL_s, cell_z, cell_s, nth_z, nth_s, aV_z, aV_s, aI_v, aB_v, aS_v, aL_f, aO_o, aX_b, tst_t, cond_true, cond_false, Ex.same, Nat.beq, List.length_cons, List.length_nil, Int.toNat_natCast]; done)
    simp only [cI, cB, cS, cL, oD_d, oG_g, oT_t, oP_p, dI_v, dB_v, dS_v, dL_s, cell_z, cell_s, nth_z, nth_s, aV_z, aV_s, aI_v, aB_v, aS_v, aL_f, aO_o, aX_b, tst_t, cond_true, cond_false, Ex.same, Nat.beq, List.length_cons, List.length_nil, Int.toNat_natCast]
    first | exact stp_end | exact stp_ret
  · first | (simp only [eqRow, eqD, Bool.and_true, Bool.true_and, Bool.and_assoc]; done) | (simp only [eqRow, eqD, Bool.and_true, Bool.true_and, Bool.and_assoc]; ac_rfl) | (rw [Bool.eq_iff_iff]; simp only [eqRow, eqD, Bool.and_true, Bool.true_and, Bool.and_eq_true]; constructor <;> (intro hh; simp only [hh, and_self]))
/- slices.Equal[[]string,string] -/
theorem f96 {l l' : Rows} (hl : SL E 9 l) (hl' : SL E 9 l') : Ev fs 96 [.d (.s 1 l), .d (.s 1 l')] (bo ((l.length == l'.length) && eqRows l l')) := by
  refine Ev.bo (af := a96) rfl rfl (fun d n => a96q ..) ?_
  simp only [bne_not, beq_t, beq_f, Bool.not_not, Bool.cond_not, beq_nat, Bool.and_true]
  apply Stp.conv
  · apply stp_if; intro e1
    apply stp_loop (L := fun d n => l96x0 (TabD fs d) d n [(.fz 1 l), (.fz 1 l'), (.v (.int .i64 (l.length : Int))), (.v (.int .i64 0))]) (c := eqRows l l') (y := ((.exit 0), []))
    · refine eq_loopE (L := fun d n i => l96x0 (TabD fs d) d n [(.fz 1 l), (.fz 1 l'), (.v (.int .i64 (l.length : Int))), (.v (.int .i64 i))]) (len_of (by assumption)) (fun d n => ?_) (fun i x x' hi hi' hx hx' => ?_)
      rw [l96x0s]
      simp only [cI, cB, cS, cL, oD_d, oG_g, oT_t, oP_p, dI_v, dB_v, dS_v, dL_s, cell_z, cell_s, nth_z, nth_s, aV_z, aV_s, aI_v, aB_v, aS_v, aL_f, aO_o, aX_b, tst_t, cond_true, cond_false, Ex.same, Nat.beq, List.length_cons, List.length_nil, Int.toNat_natCast, Int.lt_irrefl, decide_false]
      have h := (SL.at (E := E) (t := 9) (by assumption) hx)
      have h' := (SL.at (E := E) (t := 9) (by assumption) hx')
      have k := h
      have k' := h'
      rw [E9] at h
      obtain ⟨sx0, rx0, rfl, px0, h_x0⟩ := inv_s h
      cases inv_nil h_x0
      rw [E9] at h'
      obtain ⟨sy0, ry0, rfl, py0, hq_y0⟩ := inv_s h'
      cases inv_nil hq_y0
      simp only [l96x0s]
      simp only [cI, cB, cS, cL, oD_d, oG_g, oT_t, oP_p, dI_v, dB_v, dS_v, dL_s, cell_z, cell_s, nth_z, nth_s, aV_z, aV_s, aI_v, aB_v, aS_v, aL_f, aO_o, aX_b, tst_t, cond_true, cond_false, Ex.same, Nat.beq, List.length_cons, List.length_nil, Int.toNat_natCast, decide_eq_true (Int.ofNat_lt.2 hi), dec_nn, look_at hx, look_at hx', wrap_succ hi (SL.le (E := E) (t := 9) (by assumption)), List.append_nil]
      simp only [bne_not, beq_t, beq_f, Bool.not_not, Bool.cond_not, beq_nat, Bool.and_true]
      apply Stp.conv
      · apply stp_if; intro g1
        exact stp_end
      · first | (simp only [eqRow, eqD, Bool.and_true, Bool.true_and, Bool.and_assoc]; done) | (simp only [eqRow, eqD, Bool.and_true, Bool.true_and, Bool.and_assoc]; ac_rfl) | (rw [Bool.eq_iff_iff]; simp only [eqRow, eqD, Bool.and_true, Bool.true_and, Bool.and_eq_true]; constructor <;> (intro hh; simp only [hh, and_self]))
    any_goals (intro d n; simp only [cI, cB, cS, cL, oD_d, oG_g, oT_t, oP_p, dI_v, dB_v, dS_v, dL_s, cell_z, cell_s, nth_z, nth_s, aV_z, aV_s, aI_v, aB_v, aS_v, aL_f, aO_o, aX_b, tst_t, cond_true, cond_false, Ex.same, Nat.beq, List.length_cons, List.length_nil, Int.toNat_natCast]; done)
    simp only [cI, cB, cS, cL, oD_d, oG_g, oT_t, oP_p, dI_v, dB_v, dS_v, dL_s, cell_z, cell_s, nth_z, nth_s, aV_z, aV_s, aI_v, aB_v, aS_v, aL_f, aO_o, aX_b, tst_t, cond_true, cond_false, Ex.same, Nat.beq, List.length_cons, List.length_nil, Int.toNat_natCast]
    first | exact stp_end | exact stp_ret
  · first | (simp only [eqRow, eqD, Bool.and_true, Bool.true_and, Bool.and_assoc]; done) | (simp only [eqRow, eqD, Bool.and_true, Bool.true_and, Bool.and_assoc]; ac_rfl) | (rw [Bool.eq_iff_iff]; simp only [eqRow, eqD, Bool.and_true, Bool.true_and, Bool.and_eq_true]; constructor <;> (intro hh; simp only [hh, and_self]))
/- slices.EqualFunc[[]loop.example/g00119/impl.Term,[]loop.example/g00119/impl.Term,loop.example/g00119/impl.Term,loop.example/g00119/impl.Term] -/
theorem f194 {l l' : Rows} (hl : SL E 239 l) (hl' : SL E 239 l') {g : Nat} (hg : ∀ (i : Nat) (x x' : Row), l[i]? = some x → l'[i]? = some x' → Ev fs g [.g x, .g x'] (bo (eqRow x x'))) : Ev fs 194 [.d (.s 3 l), .d (.s 3 l'), .f g []] (bo ((l.length == l'.length) && eqRows l l')) := by
  refine Ev.bo (af := a194) rfl rfl (fun d n => a194q ..) ?_
  simp only [bne_not, beq_t, beq_f, Bool.not_not, Bool.cond_not, beq_nat, Bool.and_true]
  apply Stp.conv
  · apply stp_if; intro e1
    apply stp_loop (L := fun d n => l194x0 (TabD fs d) d n [(.fz 3 l'), (.ff g []), (.fz 3 l), (.v (.int .i64 (l.length : Int))), (.v (.int .i64 0))]) (c := eqRows l l') (y := ((.exit 0), []))
    · refine eq_loopE (L := fun d n i => l194x0 (TabD fs d) d n [(.fz 3 l'), (.ff g []), (.fz 3 l), (.v (.int .i64 (l.length : Int))), (.v (.int .i64 i))]) (len_of (by assumption)) (fun d n => ?_) (fun i x x' hi hi' hx hx' => ?_)
      rw [l194x0s]
      simp only [cI, cB, cS, cL, oD_d, oG_g, oT_t, oP_p, dI_v, dB_v, dS_v, dL_s, cell_z, cell_s, nth_z, nth_s, aV_z, aV_s, aI_v, aB_v, aS_v, aL_f, aO_o, aX_b, tst_t, cond_true, cond_false, Ex.same, Nat.beq, List.length_cons, List.length_nil, Int.toNat_natCast, Int.lt_irrefl, decide_false]
      have h := (SL.at (E := E) (t := 239) (by assumption) hx)
      have h' := (SL.at (E := E) (t := 239) (by assumption) hx')
      have k := h
      have k' := h'
      rw [E239] at h
      obtain ⟨nx0, rx0, rfl, px0, h_x0⟩ := inv_i h
      obtain ⟨sx1, rx1, rfl, px1, h_x1⟩ := inv_s h_x0
      obtain ⟨lx2, rx2, rfl, px2, h_x2⟩ := inv_sl W9 h_x1
      cases inv_nil h_x2
      rw [E239] at h'
      obtain ⟨ny0, ry0, rfl, py0, hq_y0⟩ := inv_i h'
      obtain ⟨sy1, ry1, rfl, py1, hq_y1⟩ := inv_s hq_y0
      obtain ⟨ly2, ry2, rfl, py2, hq_y2⟩ := inv_sl W9 hq_y1
      cases inv_nil hq_y2
      simp only [l194x0s]
      simp only [cI, cB, cS, cL, oD_d, oG_g, oT_t, oP_p, dI_v, dB_v, dS_v, dL_s, cell_z, cell_s, nth_z, nth_s, aV_z, aV_s, aI_v, aB_v, aS_v, aL_f, aO_o, aX_b, tst_t, cond_true, cond_false, Ex.same, Nat.beq, List.length_cons, List.length_nil, Int.toNat_natCast, decide_eq_true (Int.ofNat_lt.2 hi), dec_nn, look_at hx, look_at hx', wrap_succ hi (SL.le (E := E) (t := 239) (by assumption)), List.append_nil]
      simp only [bne_not, beq_t, beq_f, Bool.not_not, Bool.cond_not, beq_nat, Bool.and_true]
      apply Stp.conv
      · apply stp_call
        · exact hg i _ _ hx hx'
        apply stp_if; intro g1
        exact stp_end
      · first | (simp only [eqRow, eqD, Bool.and_true, Bool.true_and, Bool.and_assoc]; done) | (simp only [eqRow, eqD, Bool.and_true, Bool.true_and, Bool.and_assoc]; ac_rfl) | (rw [Bool.eq_iff_iff]; simp only [eqRow, eqD, Bool.and_true, Bool.true_and, Bool.and_eq_true]; constructor <;> (intro hh; simp only [hh, and_self]))
    any_goals (intro d n; simp only [cI, cB, cS, cL, oD_d, oG_g, oT_t, oP_p, dI_v, dB_v, dS_v, dL_s, cell_z, cell_s, nth_z, nth_s, aV_z, aV_s, aI_v, aB_v, aS_v, aL_f, aO_o, aX_b, tst_t, cond_true, cond_false, Ex.same, Nat.beq, List.length_cons, List.length_nil, Int.toNat_natCast]; done)
    simp only [cI, cB, cS, cL, oD_d, oG_g, oT_t, oP_p, dI_v, dB_v, dS_v, dL_s, cell_z, cell_s, nth_z, nth_s, aV_z, aV_s, aI_v, aB_v, aS_v, aL_f, aO_o, aX_b, tst_t, cond_true, cond_false, Ex.same, Nat.beq, List.length_cons, List.length_nil, Int.toNat_natCast]
    first | exact stp_end | exact stp_ret
  · first | (simp only [eqRow, eqD, Bool.and_true, Bool.true_and, Bool.and_assoc]; done) | (simp only [eqRow, eqD, Bool.and_true, Bool.true_and, Bool.and_assoc]; ac_rfl) | (rw [Bool.eq_iff_iff]; simp only [eqRow, eqD, Bool.and_true, Bool.true_and, Bool.and_eq_true]; constructor <;> (intro hh; simp only [hh, and_self]))
/- loop.example/g00119/impl.sameWant$1 -/
theorem f195 {row row' : Row} (h : ShL E (E 239) row) (h' : ShL E (E 239) row') : Ev fs 195 [.g row, .g row'] (bo (eqRow row row')) := by
  rw [E239] at h
  obtain ⟨na0, ra0, rfl, pa0, h_a0⟩ := inv_i h
  obtain ⟨sa1, ra1, rfl, pa1, h_a1⟩ := inv_s h_a0
  obtain ⟨la2, ra2, rfl, pa2, h_a2⟩ := inv_sl W9 h_a1
  cases inv_nil h_a2
  rw [E239] at h'
  obtain ⟨nc0, rc0, rfl, pc0, hq_c0⟩ := inv_i h'
  obtain ⟨sc1, rc1, rfl, pc1, hq_c1⟩ := inv_s hq_c0
  obtain ⟨lc2, rc2, rfl, pc2, hq_c2⟩ := inv_sl W9 hq_c1
  cases inv_nil hq_c2
  refine Ev.bo (af := a195) rfl rfl (fun d n => a195q ..) ?_
  simp only [bne_not, beq_t, beq_f, Bool.not_not, Bool.cond_not, beq_nat, Bool.and_true]
  apply Stp.conv
  · apply stp_if; intro e1
    apply stp_if; intro e2
    apply stp_call
    · exact f96 (by assumption) (by assumption)
    first | exact stp_end | exact stp_ret
  · first | (simp only [eqRow, eqD, Bool.and_true, Bool.true_and, Bool.and_assoc]; done) | (simp only [eqRow, eqD, Bool.and_true, Bool.true_and, Bool.and_assoc]; ac_rfl) | (rw [Bool.eq_iff_iff]; simp only [eqRow, eqD, Bool.and_true, Bool.true_and, Bool.and_eq_true]; constructor <;> (intro hh; simp only [hh, and_self]))
/- slices.Equal[[]loop.example/g00119/impl.Weigh,loop.example/g00119/impl.Weigh] -/
theorem f196 {l l' : Rows} (hl : SL E 234 l) (hl' : SL E 234 l') : Ev fs 196 [.d (.s 2 l), .d (.s 2 l')] (bo ((l.length == l'.length) && eqRows l l')) := by
  refine Ev.bo (af := a196) rfl rfl (fun d n => a196q ..) ?_
  simp only [bne_not, beq_t, beq_f, Bool.not_not, Bool.cond_not, beq_nat, Bool.and_true]
  apply Stp.conv
  · apply stp_if; intro e1
    apply stp_loop (L := fun d n => l196x0 (TabD fs d) d n [(.fz 2 l), (.fz 2 l'), (.v (.int .i64 (l.length : Int))), (.v (.int .i64 0))]) (c := eqRows l l') (y := ((.exit 0), []))
    · refine eq_loopE (L := fun d n i => l196x0 (TabD fs d) d n [(.fz 2 l), (.fz 2 l'), (.v (.int .i64 (l.length : Int))), (.v (.int .i64 i))]) (len_of (by assumption)) (fun d n => ?_) (fun i x x' hi hi' hx hx' => ?_)
      rw [l196x0s]
      simp only [cI, cB, cS, cL, oD_d, oG_g, oT_t, oP_p, dI_v, dB_v, dS_v, dL_s, cell_z, cell_s, nth_z, nth_s, aV_z, aV_s, aI_v, aB_v, aS_v, aL_f, aO_o, aX_b, tst_t, cond_true, cond_false, Ex.same, Nat.beq, List.length_cons, List.length_nil, Int.toNat_natCast, Int.lt_irrefl, decide_false]
      have h := (SL.at (E := E) (t := 234) (by assumption) hx)
      have h' := (SL.at (E := E) (t := 234) (by assumption) hx')
      have k := h
      have k' := h'
      rw [E234] at h
      obtain ⟨sx0, rx0, rfl, px0, h_x0⟩ := inv_s h
      obtain ⟨nx1, rx1, rfl, px1, h_x1⟩ := inv_i h_x0
      cases inv_nil h_x1
      rw [E234] at h'
      obtain ⟨sy0, ry0, rfl, py0, hq_y0⟩ := inv_s h'
      obtain ⟨ny1, ry1, rfl, py1, hq_y1⟩ := inv_i hq_y0
      cases inv_nil hq_y1
      simp only [l196x0s]
      simp only [cI, cB, cS, cL, oD_d, oG_g, oT_t, oP_p, dI_v, dB_v, dS_v, dL_s, cell_z, cell_s, nth_z, nth_s, aV_z, aV_s, aI_v, aB_v, aS_v, aL_f, aO_o, aX_b, tst_t, cond_true, cond_false, Ex.same, Nat.beq, List.length_cons, List.length_nil, Int.toNat_natCast, decide_eq_true (Int.ofNat_lt.2 hi), dec_nn, look_at hx, look_at hx', wrap_succ hi (SL.le (E := E) (t := 234) (by assumption)), List.append_nil]
      simp only [bne_not, beq_t, beq_f, Bool.not_not, Bool.cond_not, beq_nat, Bool.and_true]
      apply Stp.conv
      · apply stp_if; intro g1
        exact stp_end
      · first | (simp only [eqRow, eqD, Bool.and_true, Bool.true_and, Bool.and_assoc]; done) | (simp only [eqRow, eqD, Bool.and_true, Bool.true_and, Bool.and_assoc]; ac_rfl) | (rw [Bool.eq_iff_iff]; simp only [eqRow, eqD, Bool.and_true, Bool.true_and, Bool.and_eq_true]; constructor <;> (intro hh; simp only [hh, and_self]))
    any_goals (intro d n; simp only [cI, cB, cS, cL, oD_d, oG_g, oT_t, oP_p, dI_v, dB_v, dS_v, dL_s, cell_z, cell_s, nth_z, nth_s, aV_z, aV_s, aI_v, aB_v, aS_v, aL_f, aO_o, aX_b, tst_t, cond_true, cond_false, Ex.same, Nat.beq, List.length_cons, List.length_nil, Int.toNat_natCast]; done)
    simp only [cI, cB, cS, cL, oD_d, oG_g, oT_t, oP_p, dI_v, dB_v, dS_v, dL_s, cell_z, cell_s, nth_z, nth_s, aV_z, aV_s, aI_v, aB_v, aS_v, aL_f, aO_o, aX_b, tst_t, cond_true, cond_false, Ex.same, Nat.beq, List.length_cons, List.length_nil, Int.toNat_natCast]
    first | exact stp_end | exact stp_ret
  · first | (simp only [eqRow, eqD, Bool.and_true, Bool.true_and, Bool.and_assoc]; done) | (simp only [eqRow, eqD, Bool.and_true, Bool.true_and, Bool.and_assoc]; ac_rfl) | (rw [Bool.eq_iff_iff]; simp only [eqRow, eqD, Bool.and_true, Bool.true_and, Bool.and_eq_true]; constructor <;> (intro hh; simp only [hh, and_self]))
/- loop.example/g00119/impl.sameWant -/
theorem f160 {row row' : Row} (h : ShL E (E 114) row) (h' : ShL E (E 114) row') : Ev fs 160 [.g row, .g row'] (bo (eqRow row row')) := by
  rw [E114] at h
  obtain ⟨na0, ra0, rfl, pa0, h_a0⟩ := inv_i h
  obtain ⟨la1, ra1, rfl, pa1, h_a1⟩ := inv_sl W239 h_a0
  obtain ⟨la2, ra2, rfl, pa2, h_a2⟩ := inv_sl W9 h_a1
  obtain ⟨la3, ra3, rfl, pa3, h_a3⟩ := inv_sl W234 h_a2
  cases inv_nil h_a3
  rw [E114] at h'
  obtain ⟨nc0, rc0, rfl, pc0, hq_c0⟩ := inv_i h'
  obtain ⟨lc1, rc1, rfl, pc1, hq_c1⟩ := inv_sl W239 hq_c0
  obtain ⟨lc2, rc2, rfl, pc2, hq_c2⟩ := inv_sl W9 hq_c1
  obtain ⟨lc3, rc3, rfl, pc3, hq_c3⟩ := inv_sl W234 hq_c2
  cases inv_nil hq_c3
  refine Ev.bo (af := a160) rfl rfl (fun d n => a160q ..) ?_
  simp only [bne_not, beq_t, beq_f, Bool.not_not, Bool.cond_not, beq_nat, Bool.and_true]
  apply Stp.conv
  · apply stp_if; intro e1
    apply stp_call
    · exact f194 (by assumption) (by assumption) (fun i x x' hx hx' => f195 (SL.at (by assumption) hx) (SL.at (by assumption) hx'))
    apply stp_if; intro e2
    apply stp_call
    · exact f96 (by assumption) (by assumption)
    apply stp_if; intro e3
    apply stp_call
    · exact f196 (by assumption) (by assumption)
    first | exact stp_end | exact stp_ret
  · first | (simp only [eqRow, eqD, Bool.and_true, Bool.true_and, Bool.and_assoc]; done) | (simp only [eqRow, eqD, Bool.and_true, Bool.true_and, Bool.and_assoc]; ac_rfl) | (rw [Bool.eq_iff_iff]; simp only [eqRow, eqD, Bool.and_true, Bool.true_and, Bool.and_eq_true]; constructor <;> (intro hh; simp only [hh, and_self]))
/- slices.EqualFunc[[]loop.example/g00119/impl.Value,[]loop.example/g00119/impl.Value,loop.example/g00119/impl.Value,loop.example/g00119/impl.Value] -/
theorem f197 {l l' : Rows} (hl : SL E 117 l) (hl' : SL E 117 l') {g : Nat} (hg : ∀ (i : Nat) (x x' : Row), l[i]? = some x → l'[i]? = some x' → Ev fs g [.g x, .g x'] (bo (eqRow x x'))) : Ev fs 197 [.d (.s 5 l), .d (.s 5 l'), .f g []] (bo ((l.length == l'.length) && eqRows l l')) := by
  refine Ev.bo (af := a197) rfl rfl (fun d n => a197q ..) ?_
  simp only [bne_not, beq_t, beq_f, Bool.not_not, Bool.cond_not, beq_nat, Bool.and_true]
  apply Stp.conv
  · apply stp_if; intro e1
    apply stp_loop (L := fun d n => l197x0 (TabD fs d) d n [(.fz 5 l'), (.ff g []), (.fz 5 l), (.v (.int .i64 (l.length : Int))), (.v (.int .i64 0))]) (c := eqRows l l') (y := ((.exit 0), []))
    · refine eq_loopE (L := fun d n i => l197x0 (TabD fs d) d n [(.fz 5 l'), (.ff g []), (.fz 5 l), (.v (.int .i64 (l.length : Int))), (.v (.int .i64 i))]) (len_of (by assumption)) (fun d n => ?_) (fun i x x' hi hi' hx hx' => ?_)
      rw [l197x0s]
      simp only [cI, cB, cS, cL, oD_d, oG_g, oT_t, oP_p, dI_v, dB_v, dS_v, dL_s, cell_z, cell_s, nth_z, nth_s, aV_z, aV_s, aI_v, aB_v, aS_v, aL_f, aO_o, aX_b, tst_t, cond_true, cond_false, Ex.same, Nat.beq, List.length_cons, List.length_nil, Int.toNat_natCast, Int.lt_irrefl, decide_false]
      have h := (SL.at (E := E) (t := 117) (by assumption) hx)
      have h' := (SL.at (E := E) (t := 117) (by assumption) hx')
      have k := h
      have k' := h'
      rw [E117] at h
      obtain ⟨nx0, rx0, rfl, px0, h_x0⟩ := inv_i h
      obtain ⟨sx1, rx1, rfl, px1, h_x1⟩ := inv_s h_x0
      obtain ⟨nx2, rx2, rfl, px2, h_x2⟩ := inv_i h_x1
      obtain ⟨lx3, rx3, rfl, px3, h_x3⟩ := inv_sl W9 h_x2
      obtain ⟨lx4, rx4, rfl, px4, h_x4⟩ := inv_sl W117 h_x3
      cases inv_nil h_x4
      rw [E117] at h'
      obtain ⟨ny0, ry0, rfl, py0, hq_y0⟩ := inv_i h'
      obtain ⟨sy1, ry1, rfl, py1, hq_y1⟩ := inv_s hq_y0
      obtain ⟨ny2, ry2, rfl, py2, hq_y2⟩ := inv_i hq_y1
      obtain ⟨ly3, ry3, rfl, py3, hq_y3⟩ := inv_sl W9 hq_y2
      obtain ⟨ly4, ry4, rfl, py4, hq_y4⟩ := inv_sl W117 hq_y3
      cases inv_nil hq_y4
      simp only [l197x0s]
      simp only [cI, cB, cS, cL, oD_d, oG_g, oT_t, oP_p, dI_v, dB_v, dS_v, dL_s, cell_z, cell_s, nth_z, nth_s, aV_z, aV_s, aI_v, aB_v, aS_v, aL_f, aO_o, aX_b, tst_t, cond_true, cond_false, Ex.same, Nat.beq, List.length_cons, List.length_nil, Int.toNat_natCast, decide_eq_true (Int.ofNat_lt.2 hi), dec_nn, look_at hx, look_at hx', wrap_succ hi (SL.le (E := E) (t := 117) (by assumption)), List.append_nil]
      simp only [bne_not, beq_t, beq_f, Bool.not_not, Bool.cond_not, beq_nat, Bool.and_true]
      apply Stp.conv
      · apply stp_call
        · exact hg i _ _ hx hx'
        apply stp_if; intro g1
        exact stp_end
      · first | (simp only [eqRow, eqD, Bool.and_true, Bool.true_and, Bool.and_assoc]; done) | (simp only [eqRow, eqD, Bool.and_true, Bool.true_and, Bool.and_assoc]; ac_rfl) | (rw [Bool.eq_iff_iff]; simp only [eqRow, eqD, Bool.and_true, Bool.true_and, Bool.and_eq_true]; constructor <;> (intro hh; simp only [hh, and_self]))
    any_goals (intro d n; simp only [cI, cB, cS, cL, oD_d, oG_g, oT_t, oP_p, dI_v, dB_v, dS_v, dL_s, cell_z, cell_s, nth_z, nth_s, aV_z, aV_s, aI_v, aB_v, aS_v, aL_f, aO_o, aX_b, tst_t, cond_true, cond_false, Ex.same, Nat.beq, List.length_cons, List.length_nil, Int.toNat_natCast]; done)
    simp only [cI, cB, cS, cL, oD_d, oG_g, oT_t, oP_p, dI_v, dB_v, dS_v, dL_s, cell_z, cell_s, nth_z, nth_s, aV_z, aV_s, aI_v, aB_v, aS_v, aL_f, aO_o, aX_b, tst_t, cond_true, cond_false, Ex.same, Nat.beq, List.length_cons, List.length_nil, Int.toNat_natCast]
    first | exact stp_end | exact stp_ret
  · first | (simp only [eqRow, eqD, Bool.and_true, Bool.true_and, Bool.and_assoc]; done) | (simp only [eqRow, eqD, Bool.and_true, Bool.true_and, Bool.and_assoc]; ac_rfl) | (rw [Bool.eq_iff_iff]; simp only [eqRow, eqD, Bool.and_true, Bool.true_and, Bool.and_eq_true]; constructor <;> (intro hh; simp only [hh, and_self]))
/- loop.example/g00119/impl.SameValue -/
theorem fr161 {row row' : Row} (h : ShL E (E 117) row) (h' : ShL E (E 117) row') (W : Nat) (hW : 2 * wtRow row + 1 = W) : Ev fs 161 [.g row, .g row'] (bo (eqRow row row')) := by
  rw [E117] at h
  obtain ⟨na0, ra0, rfl, pa0, h_a0⟩ := inv_i h
  obtain ⟨sa1, ra1, rfl, pa1, h_a1⟩ := inv_s h_a0
  obtain ⟨na2, ra2, rfl, pa2, h_a2⟩ := inv_i h_a1
  obtain ⟨la3, ra3, rfl, pa3, h_a3⟩ := inv_sl W9 h_a2
  obtain ⟨la4, ra4, rfl, pa4, h_a4⟩ := inv_sl W117 h_a3
  cases inv_nil h_a4
  rw [E117] at h'
  obtain ⟨nc0, rc0, rfl, pc0, hq_c0⟩ := inv_i h'
  obtain ⟨sc1, rc1, rfl, pc1, hq_c1⟩ := inv_s hq_c0
  obtain ⟨nc2, rc2, rfl, pc2, hq_c2⟩ := inv_i hq_c1
  obtain ⟨lc3, rc3, rfl, pc3, hq_c3⟩ := inv_sl W9 hq_c2
  obtain ⟨lc4, rc4, rfl, pc4, hq_c4⟩ := inv_sl W117 hq_c3
  cases inv_nil hq_c4
  refine Ev.bo (af := a161) rfl rfl (fun d n => a161q ..) ?_
  simp only [bne_not, beq_t, beq_f, Bool.not_not, Bool.cond_not, beq_nat, Bool.and_true]
  apply Stp.conv
  · apply stp_if; intro e1
    apply stp_if; intro e2
    apply stp_if; intro e3
    apply stp_call
    · exact f96 (by assumption) (by assumption)
    apply stp_if; intro e4
    apply stp_call
    · exact f197 (by assumption) (by assumption) (fun i x x' hx hx' => fr161 (SL.at (by assumption) hx) (SL.at (by assumption) hx') _ rfl)
    first | exact stp_end | exact stp_ret
  · first | (simp only [eqRow, eqD, Bool.and_true, Bool.true_and, Bool.and_assoc]; done) | (simp only [eqRow, eqD, Bool.and_true, Bool.true_and, Bool.and_assoc]; ac_rfl) | (rw [Bool.eq_iff_iff]; simp only [eqRow, eqD, Bool.and_true, Bool.true_and, Bool.and_eq_true]; constructor <;> (intro hh; simp only [hh, and_self]))
termination_by W
decreasing_by all_goals (try have := wt_at hx); (try simp only [wtRow, wtD] at *); omega
theorem f161 {row row' : Row} (h : ShL E (E 117) row) (h' : ShL E (E 117) row') : Ev fs 161 [.g row, .g row'] (bo (eqRow row row')) := fr161 h h' _ rfl
/- slices.EqualFunc[[]loop.example/g00119/impl.Over,[]loop.example/g00119/impl.Over,loop.example/g00119/impl.Over,loop.example/g00119/impl.Over] -/
theorem f162 {l l' : Rows} (hl : SL E 207 l) (hl' : SL E 207 l') {g : Nat} (hg : ∀ (i : Nat) (x x' : Row), l[i]? = some x → l'[i]? = some x' → Ev fs g [.g x, .g x'] (bo (eqRow x x'))) : Ev fs 162 [.d (.s 2 l), .d (.s 2 l'), .f g []] (bo ((l.length == l'.length) && eqRows l l')) := by
  refine Ev.bo (af := a162) rfl rfl (fun d n => a162q ..) ?_
  simp only [bne_not, beq_t, beq_f, Bool.not_not, Bool.cond_not, beq_nat, Bool.and_true]
  apply Stp.conv
  · apply stp_if; intro e1
    apply stp_loop (L := fun d n => l162x0 (TabD fs d) d n [(.fz 2 l'), (.ff g []), (.fz 2 l), (.v (.int .i64 (l.length : Int))), (.v (.int .i64 0))]) (c := eqRows l l') (y := ((.exit 0), []))
    · refine eq_loopE (L := fun d n i => l162x0 (TabD fs d) d n [(.fz 2 l'), (.ff g []), (.fz 2 l), (.v (.int .i64 (l.length : Int))), (.v (.int .i64 i))]) (len_of (by assumption)) (fun d n => ?_) (fun i x x' hi hi' hx hx' => ?_)
      rw [l162x0s]
      simp only [cI, cB, cS, cL, oD_d, oG_g, oT_t, oP_p, dI_v, dB_v, dS_v, dL_s, cell_z, cell_s, nth_z, nth_s, aV_z, aV_s, aI_v, aB_v, aS_v, aL_f, aO_o, aX_b, tst_t, cond_true, cond_false, Ex.same, Nat.beq, List.length_cons, List.length_nil, Int.toNat_natCast, Int.lt_irrefl, decide_false]
      have h := (SL.at (E := E) (t := 207) (by assumption) hx)
      have h' := (SL.at (E := E) (t := 207) (by assumption) hx')
      have k := h
      have k' := h'
      rw [E207] at h
      obtain ⟨sx0, rx0, rfl, px0, h_x0⟩ := inv_s h
      obtain ⟨lx1, rx1, rfl, px1, h_x1⟩ := inv_sl W236 h_x0
      cases inv_nil h_x1
      rw [E207] at h'
      obtain ⟨sy0, ry0, rfl, py0, hq_y0⟩ := inv_s h'
      obtain ⟨ly1, ry1, rfl, py1, hq_y1⟩ := inv_sl W236 hq_y0
      cases inv_nil hq_y1
      simp only [l162x0s]
      simp only [cI, cB, cS, cL, oD_d, oG_g, oT_t, oP_p, dI_v, dB_v, dS_v, dL_s, cell_z, cell_s, nth_z, nth_s, aV_z, aV_s, aI_v, aB_v, aS_v, aL_f, aO_o, aX_b, tst_t, cond_true, cond_false, Ex.same, Nat.beq, List.length_cons, List.length_nil, Int.toNat_natCast, decide_eq_true (Int.ofNat_lt.2 hi), dec_nn, look_at hx, look_at hx', wrap_succ hi (SL.le (E := E) (t := 207) (by assumption)), List.append_nil]
      simp only [bne_not, beq_t, beq_f, Bool.not_not, Bool.cond_not, beq_nat, Bool.and_true]
      apply Stp.conv
      · apply stp_call
        · exact hg i _ _ hx hx'
        apply stp_if; intro g1
        exact stp_end
      · first | (simp only [eqRow, eqD, Bool.and_true, Bool.true_and, Bool.and_assoc]; done) | (simp only [eqRow, eqD, Bool.and_true, Bool.true_and, Bool.and_assoc]; ac_rfl) | (rw [Bool.eq_iff_iff]; simp only [eqRow, eqD, Bool.and_true, Bool.true_and, Bool.and_eq_true]; constructor <;> (intro hh; simp only [hh, and_self]))
    any_goals (intro d n; simp only [cI, cB, cS, cL, oD_d, oG_g, oT_t, oP_p, dI_v, dB_v, dS_v, dL_s, cell_z, cell_s, nth_z, nth_s, aV_z, aV_s, aI_v, aB_v, aS_v, aL_f, aO_o, aX_b, tst_t, cond_true, cond_false, Ex.same, Nat.beq, List.length_cons, List.length_nil, Int.toNat_natCast]; done)
    simp only [cI, cB, cS, cL, oD_d, oG_g, oT_t, oP_p, dI_v, dB_v, dS_v, dL_s, cell_z, cell_s, nth_z, nth_s, aV_z, aV_s, aI_v, aB_v, aS_v, aL_f, aO_o, aX_b, tst_t, cond_true, cond_false, Ex.same, Nat.beq, List.length_cons, List.length_nil, Int.toNat_natCast]
    first | exact stp_end | exact stp_ret
  · first | (simp only [eqRow, eqD, Bool.and_true, Bool.true_and, Bool.and_assoc]; done) | (simp only [eqRow, eqD, Bool.and_true, Bool.true_and, Bool.and_assoc]; ac_rfl) | (rw [Bool.eq_iff_iff]; simp only [eqRow, eqD, Bool.and_true, Bool.true_and, Bool.and_eq_true]; constructor <;> (intro hh; simp only [hh, and_self]))
/- slices.EqualFunc[[]loop.example/g00119/impl.Op,[]loop.example/g00119/impl.Op,loop.example/g00119/impl.Op,loop.example/g00119/impl.Op] -/
theorem f198 {l l' : Rows} (hl : SL E 236 l) (hl' : SL E 236 l') {g : Nat} (hg : ∀ (i : Nat) (x x' : Row), l[i]? = some x → l'[i]? = some x' → Ev fs g [.g x, .g x'] (bo (eqRow x x'))) : Ev fs 198 [.d (.s 7 l), .d (.s 7 l'), .f g []] (bo ((l.length == l'.length) && eqRows l l')) := by
  refine Ev.bo (af := a198) rfl rfl (fun d n => a198q ..) ?_
  simp only [bne_not, beq_t, beq_f, Bool.not_not, Bool.cond_not, beq_nat, Bool.and_true]
  apply Stp.conv
  · apply stp_if; intro e1
    apply stp_loop (L := fun d n => l198x0 (TabD fs d) d n [(.fz 7 l'), (.ff g []), (.fz 7 l), (.v (.int .i64 (l.length : Int))), (.v (.int .i64 0))]) (c := eqRows l l') (y := ((.exit 0), []))
    · refine eq_loopE (L := fun d n i => l198x0 (TabD fs d) d n [(.fz 7 l'), (.ff g []), (.fz 7 l), (.v (.int .i64 (l.length : Int))), (.v (.int .i64 i))]) (len_of (by assumption)) (fun d n => ?_) (fun i x x' hi hi' hx hx' => ?_)
      rw [l198x0s]
      simp only [cI, cB, cS, cL, oD_d, oG_g, oT_t, oP_p, dI_v, dB_v, dS_v, dL_s, cell_z, cell_s, nth_z, nth_s, aV_z, aV_s, aI_v, aB_v, aS_v, aL_f, aO_o, aX_b, tst_t, cond_true, cond_false, Ex.same, Nat.beq, List.length_cons, List.length_nil, Int.toNat_natCast, Int.lt_irrefl, decide_false]
      have h := (SL.at (E := E) (t := 236) (by assumption) hx)
      have h' := (SL.at (E := E) (t := 236) (by assumption) hx')
      have k := h
      have k' := h'
      rw [E236] at h
      obtain ⟨nx0, rx0, rfl, px0, h_x0⟩ := inv_i h
      obtain ⟨lx1, rx1, rfl, px1, h_x1⟩ := inv_sl W9 h_x0
      obtain ⟨nx2, rx2, rfl, px2, h_x2⟩ := inv_i h_x1
      obtain ⟨sx3, rx3, rfl, px3, h_x3⟩ := inv_s h_x2
      obtain ⟨nx4, rx4, rfl, px4, h_x4⟩ := inv_i h_x3
      obtain ⟨lx5, rx5, rfl, px5, h_x5⟩ := inv_sl W9 h_x4
      obtain ⟨lx6, rx6, rfl, px6, h_x6⟩ := inv_sl W117 h_x5
      cases inv_nil h_x6
      rw [E236] at h'
      obtain ⟨ny0, ry0, rfl, py0, hq_y0⟩ := inv_i h'
      obtain ⟨ly1, ry1, rfl, py1, hq_y1⟩ := inv_sl W9 hq_y0
      obtain ⟨ny2, ry2, rfl, py2, hq_y2⟩ := inv_i hq_y1
      obtain ⟨sy3, ry3, rfl, py3, hq_y3⟩ := inv_s hq_y2
      obtain ⟨ny4, ry4, rfl, py4, hq_y4⟩ := inv_i hq_y3
      obtain ⟨ly5, ry5, rfl, py5, hq_y5⟩ := inv_sl W9 hq_y4
      obtain ⟨ly6, ry6, rfl, py6, hq_y6⟩ := inv_sl W117 hq_y5
      cases inv_nil hq_y6
      simp only [l198x0s]
      simp only [cI, cB, cS, cL, oD_d, oG_g, oT_t, oP_p, dI_v, dB_v, dS_v, dL_s, cell_z, cell_s, nth_z, nth_s, aV_z, aV_s, aI_v, aB_v, aS_v, aL_f, aO_o, aX_b, tst_t, cond_true, cond_false, Ex.same, Nat.beq, List.length_cons, List.length_nil, Int.toNat_natCast, decide_eq_true (Int.ofNat_lt.2 hi), dec_nn, look_at hx, look_at hx', wrap_succ hi (SL.le (E := E) (t := 236) (by assumption)), List.append_nil]
      simp only [bne_not, beq_t, beq_f, Bool.not_not, Bool.cond_not, beq_nat, Bool.and_true]
      apply Stp.conv
      · apply stp_call
        · exact hg i _ _ hx hx'
        apply stp_if; intro g1
        exact stp_end
      · first | (simp only [eqRow, eqD, Bool.and_true, Bool.true_and, Bool.and_assoc]; done) | (simp only [eqRow, eqD, Bool.and_true, Bool.true_and, Bool.and_assoc]; ac_rfl) | (rw [Bool.eq_iff_iff]; simp only [eqRow, eqD, Bool.and_true, Bool.true_and, Bool.and_eq_true]; constructor <;> (intro hh; simp only [hh, and_self]))
    any_goals (intro d n; simp only [cI, cB, cS, cL, oD_d, oG_g, oT_t, oP_p, dI_v, dB_v, dS_v, dL_s, cell_z, cell_s, nth_z, nth_s, aV_z, aV_s, aI_v, aB_v, aS_v, aL_f, aO_o, aX_b, tst_t, cond_true, cond_false, Ex.same, Nat.beq, List.length_cons, List.length_nil, Int.toNat_natCast]; done)
    simp only [cI, cB, cS, cL, oD_d, oG_g, oT_t, oP_p, dI_v, dB_v, dS_v, dL_s, cell_z, cell_s, nth_z, nth_s, aV_z, aV_s, aI_v, aB_v, aS_v, aL_f, aO_o, aX_b, tst_t, cond_true, cond_false, Ex.same, Nat.beq, List.length_cons, List.length_nil, Int.toNat_natCast]
    first | exact stp_end | exact stp_ret
  · first | (simp only [eqRow, eqD, Bool.and_true, Bool.true_and, Bool.and_assoc]; done) | (simp only [eqRow, eqD, Bool.and_true, Bool.true_and, Bool.and_assoc]; ac_rfl) | (rw [Bool.eq_iff_iff]; simp only [eqRow, eqD, Bool.and_true, Bool.true_and, Bool.and_eq_true]; constructor <;> (intro hh; simp only [hh, and_self]))
/- loop.example/g00119/impl.sameOver$1 -/
theorem f199 {row row' : Row} (h : ShL E (E 236) row) (h' : ShL E (E 236) row') : Ev fs 199 [.g row, .g row'] (bo (eqRow row row')) := by
  rw [E236] at h
  obtain ⟨na0, ra0, rfl, pa0, h_a0⟩ := inv_i h
  obtain ⟨la1, ra1, rfl, pa1, h_a1⟩ := inv_sl W9 h_a0
  obtain ⟨na2, ra2, rfl, pa2, h_a2⟩ := inv_i h_a1
  obtain ⟨sa3, ra3, rfl, pa3, h_a3⟩ := inv_s h_a2
  obtain ⟨na4, ra4, rfl, pa4, h_a4⟩ := inv_i h_a3
  obtain ⟨la5, ra5, rfl, pa5, h_a5⟩ := inv_sl W9 h_a4
  obtain ⟨la6, ra6, rfl, pa6, h_a6⟩ := inv_sl W117 h_a5
  cases inv_nil h_a6
  rw [E236] at h'
  obtain ⟨nc0, rc0, rfl, pc0, hq_c0⟩ := inv_i h'
  obtain ⟨lc1, rc1, rfl, pc1, hq_c1⟩ := inv_sl W9 hq_c0
  obtain ⟨nc2, rc2, rfl, pc2, hq_c2⟩ := inv_i hq_c1
  obtain ⟨sc3, rc3, rfl, pc3, hq_c3⟩ := inv_s hq_c2
  obtain ⟨nc4, rc4, rfl, pc4, hq_c4⟩ := inv_i hq_c3
  obtain ⟨lc5, rc5, rfl, pc5, hq_c5⟩ := inv_sl W9 hq_c4
  obtain ⟨lc6, rc6, rfl, pc6, hq_c6⟩ := inv_sl W117 hq_c5
  cases inv_nil hq_c6
  refine Ev.bo (af := a199) rfl rfl (fun d n => a199q ..) ?_
  simp only [bne_not, beq_t, beq_f, Bool.not_not, Bool.cond_not, beq_nat, Bool.and_true]
  apply Stp.conv
  · apply stp_if; intro e1
    apply stp_call
    · exact f96 (by assumption) (by assumption)
    apply stp_if; intro e2
    apply stp_call
    · exact f161 (by rw [E117]; exact mk_i (by assumption) (mk_s (by assumption) (mk_i (by assumption) (mk_sl W9 (by assumption) (mk_sl W117 (by assumption) (ShL.nil)))))) (by rw [E117]; exact mk_i (by assumption) (mk_s (by assumption) (mk_i (by assumption) (mk_sl W9 (by assumption) (mk_sl W117 (by assumption) (ShL.nil))))))
    first | exact stp_end | exact stp_ret
  · first | (simp only [eqRow, eqD, Bool.and_true, Bool.true_and, Bool.and_assoc]; done) | (simp only [eqRow, eqD, Bool.and_true, Bool.true_and, Bool.and_assoc]; ac_rfl) | (rw [Bool.eq_iff_iff]; simp only [eqRow, eqD, Bool.and_true, Bool.true_and, Bool.and_eq_true]; constructor <;> (intro hh; simp only [hh, and_self]))
/- loop.example/g00119/impl.sameOver -/
theorem f163 {row row' : Row} (h : ShL E (E 207) row) (h' : ShL E (E 207) row') : Ev fs 163 [.g row, .g row'] (bo (eqRow row row')) := by
  rw [E207] at h
  obtain ⟨sa0, ra0, rfl, pa0, h_a0⟩ := inv_s h
  obtain ⟨la1, ra1, rfl, pa1, h_a1⟩ := inv_sl W236 h_a0
  cases inv_nil h_a1
  rw [E207] at h'
  obtain ⟨sc0, rc0, rfl, pc0, hq_c0⟩ := inv_s h'
  obtain ⟨lc1, rc1, rfl, pc1, hq_c1⟩ := inv_sl W236 hq_c0
  cases inv_nil hq_c1
  refine Ev.bo (af := a163) rfl rfl (fun d n => a163q ..) ?_
  simp only [bne_not, beq_t, beq_f, Bool.not_not, Bool.cond_not, beq_nat, Bool.and_true]
  apply Stp.conv
  · apply stp_if; intro e1
    apply stp_call
    · exact f198 (by assumption) (by assumption) (fun i x x' hx hx' => f199 (SL.at (by assumption) hx) (SL.at (by assumption) hx'))
    first | exact stp_end | exact stp_ret
  · first | (simp only [eqRow, eqD, Bool.and_true, Bool.true_and, Bool.and_assoc]; done) | (simp only [eqRow, eqD, Bool.and_true, Bool.true_and, Bool.and_assoc]; ac_rfl) | (rw [Bool.eq_iff_iff]; simp only [eqRow, eqD, Bool.and_true, Bool.true_and, Bool.and_eq_true]; constructor <;> (intro hh; simp only [hh, and_self]))
/- loop.example/g00119/impl.sameJob -/
theorem f92 {row row' : Row} (h : ShL E (E 120) row) (h' : ShL E (E 120) row') : Ev fs 92 [.g row, .g row'] (bo (eqRow row row')) := by
  rw [E120] at h
  obtain ⟨na0, ra0, rfl, pa0, h_a0⟩ := inv_i h
  obtain ⟨sa1, ra1, rfl, pa1, h_a1⟩ := inv_s h_a0
  obtain ⟨na2, ra2, rfl, pa2, h_a2⟩ := inv_i h_a1
  obtain ⟨la3, ra3, rfl, pa3, h_a3⟩ := inv_sl W239 h_a2
  obtain ⟨la4, ra4, rfl, pa4, h_a4⟩ := inv_sl W9 h_a3
  obtain ⟨la5, ra5, rfl, pa5, h_a5⟩ := inv_sl W234 h_a4
  obtain ⟨na6, ra6, rfl, pa6, h_a6⟩ := inv_i h_a5
  obtain ⟨sa7, ra7, rfl, pa7, h_a7⟩ := inv_s h_a6
  obtain ⟨na8, ra8, rfl, pa8, h_a8⟩ := inv_i h_a7
  obtain ⟨la9, ra9, rfl, pa9, h_a9⟩ := inv_sl W9 h_a8
  obtain ⟨la10, ra10, rfl, pa10, h_a10⟩ := inv_sl W117 h_a9
  obtain ⟨la11, ra11, rfl, pa11, h_a11⟩ := inv_sl W207 h_a10
  obtain ⟨ba12, ra12, rfl, h_a12⟩ := inv_b h_a11
  cases inv_nil h_a12
  rw [E120] at h'
  obtain ⟨nc0, rc0, rfl, pc0, hq_c0⟩ := inv_i h'
  obtain ⟨sc1, rc1, rfl, pc1, hq_c1⟩ := inv_s hq_c0
  obtain ⟨nc2, rc2, rfl, pc2, hq_c2⟩ := inv_i hq_c1
  obtain ⟨lc3, rc3, rfl, pc3, hq_c3⟩ := inv_sl W239 hq_c2
  obtain ⟨lc4, rc4, rfl, pc4, hq_c4⟩ := inv_sl W9 hq_c3
  obtain ⟨lc5, rc5, rfl, pc5, hq_c5⟩ := inv_sl W234 hq_c4
  obtain ⟨nc6, rc6, rfl, pc6, hq_c6⟩ := inv_i hq_c5
  obtain ⟨sc7, rc7, rfl, pc7, hq_c7⟩ := inv_s hq_c6
  obtain ⟨nc8, rc8, rfl, pc8, hq_c8⟩ := inv_i hq_c7
  obtain ⟨lc9, rc9, rfl, pc9, hq_c9⟩ := inv_sl W9 hq_c8
  obtain ⟨lc10, rc10, rfl, pc10, hq_c10⟩ := inv_sl W117 hq_c9
  obtain ⟨lc11, rc11, rfl, pc11, hq_c11⟩ := inv_sl W207 hq_c10
  obtain ⟨bc12, rc12, rfl, hq_c12⟩ := inv_b hq_c11
  cases inv_nil hq_c12
  refine Ev.bo (af := a92) rfl rfl (fun d n => a92q ..) ?_
  simp only [bne_not, beq_t, beq_f, Bool.not_not, Bool.cond_not, beq_nat, Bool.and_true]
  apply Stp.conv
  · apply stp_if; intro e1
    apply stp_if; intro e2
    apply stp_if; intro e3
    apply stp_call
    · exact f160 (by rw [E114]; exact mk_i (by assumption) (mk_sl W239 (by assumption) (mk_sl W9 (by assumption) (mk_sl W234 (by assumption) (ShL.nil))))) (by rw [E114]; exact mk_i (by assumption) (mk_sl W239 (by assumption) (mk_sl W9 (by assumption) (mk_sl W234 (by assumption) (ShL.nil)))))
    apply stp_if; intro e4
    apply stp_call
    · exact f161 (by rw [E117]; exact mk_i (by assumption) (mk_s (by assumption) (mk_i (by assumption) (mk_sl W9 (by assumption) (mk_sl W117 (by assumption) (ShL.nil)))))) (by rw [E117]; exact mk_i (by assumption) (mk_s (by assumption) (mk_i (by assumption) (mk_sl W9 (by assumption) (mk_sl W117 (by assumption) (ShL.nil))))))
    apply stp_if; intro e5
    apply stp_call
    · exact f162 (by assumption) (by assumption) (fun i x x' hx hx' => f163 (SL.at (by assumption) hx) (SL.at (by assumption) hx'))
    first | exact stp_end | exact stp_ret
  · first | (simp only [eqRow, eqD, Bool.and_true, Bool.true_and, Bool.and_assoc]; done) | (simp only [eqRow, eqD, Bool.and_true, Bool.true_and, Bool.and_assoc]; ac_rfl) | (rw [Bool.eq_iff_iff]; simp only [eqRow, eqD, Bool.and_true, Bool.true_and, Bool.and_eq_true]; constructor <;> (intro hh; simp only [hh, and_self]))
/- slices.EqualFunc[[]loop.example/g00119/impl.Post,[]loop.example/g00119/impl.Post,loop.example/g00119/impl.Post,loop.example/g00119/impl.Post] -/
theorem f93 {l l' : Rows} (hl : SL E 126 l) (hl' : SL E 126 l') {g : Nat} (hg : ∀ (i : Nat) (x x' : Row), l[i]? = some x → l'[i]? = some x' → Ev fs g [.g x, .g x'] (bo (eqRow x x'))) : Ev fs 93 [.d (.s 6 l), .d (.s 6 l'), .f g []] (bo ((l.length == l'.length) && eqRows l l')) := by
  refine Ev.bo (af := a93) rfl rfl (fun d n => a93q ..) ?_
  simp only [bne_not, beq_t, beq_f, Bool.not_not, Bool.cond_not, beq_nat, Bool.and_true]
  apply Stp.conv
  · apply stp_if; intro e1
    apply stp_loop (L := fun d n => l93x0 (TabD fs d) d n [(.fz 6 l'), (.ff g []), (.fz 6 l), (.v (.int .i64 (l.length : Int))), (.v (.int .i64 0))]) (c := eqRows l l') (y := ((.exit 0), []))
    · refine eq_loopE (L := fun d n i => l93x0 (TabD fs d) d n [(.fz 6 l'), (.ff g []), (.fz 6 l), (.v (.int .i64 (l.length : Int))), (.v (.int .i64 i))]) (len_of (by assumption)) (fun d n => ?_) (fun i x x' hi hi' hx hx' => ?_)
      rw [l93x0s]
      simp only [cI, cB, cS, cL, oD_d, oG_g, oT_t, oP_p, dI_v, dB_v, dS_v, dL_s, cell_z, cell_s, nth_z, nth_s, aV_z, aV_s, aI_v, aB_v, aS_v, aL_f, aO_o, aX_b, tst_t, cond_true, cond_false, Ex.same, Nat.beq, List.length_cons, List.length_nil, Int.toNat_natCast, Int.lt_irrefl, decide_false]
      have h := (SL.at (E := E) (t := 126) (by assumption) hx)
      have h' := (SL.at (E := E) (t := 126) (by assumption) hx')
      have k := h
      have k' := h'
      rw [E126] at h
      obtain ⟨sx0, rx0, rfl, px0, h_x0⟩ := inv_s h
      obtain ⟨lx1, rx1, rfl, px1, h_x1⟩ := inv_sl W210 h_x0
      obtain ⟨lx2, rx2, rfl, px2, h_x2⟩ := inv_sl W9 h_x1
      obtain ⟨nx3, rx3, rfl, px3, h_x3⟩ := inv_i h_x2
      obtain ⟨nx4, rx4, rfl, px4, h_x4⟩ := inv_i h_x3
      obtain ⟨nx5, rx5, rfl, px5, h_x5⟩ := inv_i h_x4
      cases inv_nil h_x5
      rw [E126] at h'
      obtain ⟨sy0, ry0, rfl, py0, hq_y0⟩ := inv_s h'
      obtain ⟨ly1, ry1, rfl, py1, hq_y1⟩ := inv_sl W210 hq_y0
      obtain ⟨ly2, ry2, rfl, py2, hq_y2⟩ := inv_sl W9 hq_y1
      obtain ⟨ny3, ry3, rfl, py3, hq_y3⟩ := inv_i hq_y2
      obtain ⟨ny4, ry4, rfl, py4, hq_y4⟩ := inv_i hq_y3
      obtain ⟨ny5, ry5, rfl, py5, hq_y5⟩ := inv_i hq_y4
      cases inv_nil hq_y5
      simp only [l93x0s]
      simp only [cI, cB, cS, cL, oD_d, oG_g, oT_t, oP_p, dI_v, dB_v, dS_v, dL_s, cell_z, cell_s, nth_z, nth_s, aV_z, aV_s, aI_v, aB_v, aS_v, aL_f, aO_o, aX_b, tst_t, cond_true, cond_false, Ex.same, Nat.beq, List.length_cons, List.length_nil, Int.toNat_natCast, decide_eq_true (Int.ofNat_lt.2 hi), dec_nn, look_at hx, look_at hx', wrap_succ hi (SL.le (E := E) (t := 126) (by assumption)), List.append_nil]
      simp only [bne_not, beq_t, beq_f, Bool.not_not, Bool.cond_not, beq_nat, Bool.and_true]
      apply Stp.conv
      · apply stp_call
        · exact hg i _ _ hx hx'
        apply stp_if; intro g1
        exact stp_end
      · first | (simp only [eqRow, eqD, Bool.and_true, Bool.true_and, Bool.and_assoc]; done) | (simp only [eqRow, eqD, Bool.and_true, Bool.true_and, Bool.and_assoc]; ac_rfl) | (rw [Bool.eq_iff_iff]; simp only [eqRow, eqD, Bool.and_true, Bool.true_and, Bool.and_eq_true]; constructor <;> (intro hh; simp only [hh, and_self]))
    any_goals (intro d n; simp only [cI, cB, cS, cL, oD_d, oG_g, oT_t, oP_p, dI_v, dB_v, dS_v, dL_s, cell_z, cell_s, nth_z, nth_s, aV_z, aV_s, aI_v, aB_v, aS_v, aL_f, aO_o, aX_b, tst_t, cond_true, cond_false, Ex.same, Nat.beq, List.length_cons, List.length_nil, Int.toNat_natCast]; done)
    simp only [cI, cB, cS, cL, oD_d, oG_g, oT_t, oP_p, dI_v, dB_v, dS_v, dL_s, cell_z, cell_s, nth_z, nth_s, aV_z, aV_s, aI_v, aB_v, aS_v, aL_f, aO_o, aX_b, tst_t, cond_true, cond_false, Ex.same, Nat.beq, List.length_cons, List.length_nil, Int.toNat_natCast]
    first | exact stp_end | exact stp_ret
  · first | (simp only [eqRow, eqD, Bool.and_true, Bool.true_and, Bool.and_assoc]; done) | (simp only [eqRow, eqD, Bool.and_true, Bool.true_and, Bool.and_assoc]; ac_rfl) | (rw [Bool.eq_iff_iff]; simp only [eqRow, eqD, Bool.and_true, Bool.true_and, Bool.and_eq_true]; constructor <;> (intro hh; simp only [hh, and_self]))
/- slices.Equal[[]loop.example/g00119/impl.Label,loop.example/g00119/impl.Label] -/
theorem f164 {l l' : Rows} (hl : SL E 210 l) (hl' : SL E 210 l') : Ev fs 164 [.d (.s 2 l), .d (.s 2 l')] (bo ((l.length == l'.length) && eqRows l l')) := by
  refine Ev.bo (af := a164) rfl rfl (fun d n => a164q ..) ?_
  simp only [bne_not, beq_t, beq_f, Bool.not_not, Bool.cond_not, beq_nat, Bool.and_true]
  apply Stp.conv
  · apply stp_if; intro e1
    apply stp_loop (L := fun d n => l164x0 (TabD fs d) d n [(.fz 2 l), (.fz 2 l'), (.v (.int .i64 (l.length : Int))), (.v (.int .i64 0))]) (c := eqRows l l') (y := ((.exit 0), []))
    · refine eq_loopE (L := fun d n i => l164x0 (TabD fs d) d n [(.fz 2 l), (.fz 2 l'), (.v (.int .i64 (l.length : Int))), (.v (.int .i64 i))]) (len_of (by assumption)) (fun d n => ?_) (fun i x x' hi hi' hx hx' => ?_)
      rw [l164x0s]
      simp only [cI, cB, cS, cL, oD_d, oG_g, oT_t, oP_p, dI_v, dB_v, dS_v, dL_s, cell_z, cell_s, nth_z, nth_s, aV_z, aV_s, aI_v, aB_v, aS_v, aL_f, aO_o, aX_b, tst_t, cond_true, cond_false, Ex.same, Nat.beq, List.length_cons, List.length_nil, Int.toNat_natCast, Int.lt_irrefl, decide_false]
      have h := (SL.at (E := E) (t := 210) (by assumption) hx)
      have h' := (SL.at (E := E) (t := 210) (by assumption) hx')
      have k := h
      have k' := h'
      rw [E210] at h
      obtain ⟨sx0, rx0, rfl, px0, h_x0⟩ := inv_s h
      obtain ⟨sx1, rx1, rfl, px1, h_x1⟩ := inv_s h_x0
      cases inv_nil h_x1
      rw [E210] at h'
      obtain ⟨sy0, ry0, rfl, py0, hq_y0⟩ := inv_s h'
      obtain ⟨sy1, ry1, rfl, py1, hq_y1⟩ := inv_s hq_y0
      cases inv_nil hq_y1
      simp only [l164x0s]
      simp only [cI, cB, cS, cL, oD_d, oG_g, oT_t, oP_p, dI_v, dB_v, dS_v, dL_s, cell_z, cell_s, nth_z, nth_s, aV_z, aV_s, aI_v, aB_v, aS_v, aL_f, aO_o, aX_b, tst_t, cond_true, cond_false, Ex.same, Nat.beq, List.length_cons, List.length_nil, Int.toNat_natCast, decide_eq_true (Int.ofNat_lt.2 hi), dec_nn, look_at hx, look_at hx', wrap_succ hi (SL.le (E := E) (t := 210) (by assumption)), List.append_nil]
      simp only [bne_not, beq_t, beq_f, Bool.not_not, Bool.cond_not, beq_nat, Bool.and_true]
      apply Stp.conv
      · apply stp_if; intro g1
        exact stp_end
      · first | (simp only [eqRow, eqD, Bool.and_true, Bool.true_and, Bool.and_assoc]; done) | (simp only [eqRow, eqD, Bool.and_true, Bool.true_and, Bool.and_assoc]; ac_rfl) | (rw [Bool.eq_iff_iff]; simp only [eqRow, eqD, Bool.and_true, Bool.true_and, Bool.and_eq_true]; constructor <;> (intro hh; simp only [hh, and_self]))
    any_goals (intro d n; simp only [cI, cB, cS, cL, oD_d, oG_g, oT_t, oP_p, dI_v, dB_v, dS_v, dL_s, cell_z, cell_s, nth_z, nth_s, aV_z, aV_s, aI_v, aB_v, aS_v, aL_f, aO_o, aX_b, tst_t, cond_true, cond_false, Ex.same, Nat.beq, List.length_cons, List.length_nil, Int.toNat_natCast]; done)
    simp only [cI, cB, cS, cL, oD_d, oG_g, oT_t, oP_p, dI_v, dB_v, dS_v, dL_s, cell_z, cell_s, nth_z, nth_s, aV_z, aV_s, aI_v, aB_v, aS_v, aL_f, aO_o, aX_b, tst_t, cond_true, cond_false, Ex.same, Nat.beq, List.length_cons, List.length_nil, Int.toNat_natCast]
    first | exact stp_end | exact stp_ret
  · first | (simp only [eqRow, eqD, Bool.and_true, Bool.true_and, Bool.and_assoc]; done) | (simp only [eqRow, eqD, Bool.and_true, Bool.true_and, Bool.and_assoc]; ac_rfl) | (rw [Bool.eq_iff_iff]; simp only [eqRow, eqD, Bool.and_true, Bool.true_and, Bool.and_eq_true]; constructor <;> (intro hh; simp only [hh, and_self]))
/- loop.example/g00119/impl.samePost -/
theorem f94 {row row' : Row} (h : ShL E (E 126) row) (h' : ShL E (E 126) row') : Ev fs 94 [.g row, .g row'] (bo (eqRow row row')) := by
  rw [E126] at h
  obtain ⟨sa0, ra0, rfl, pa0, h_a0⟩ := inv_s h
  obtain ⟨la1, ra1, rfl, pa1, h_a1⟩ := inv_sl W210 h_a0
  obtain ⟨la2, ra2, rfl, pa2, h_a2⟩ := inv_sl W9 h_a1
  obtain ⟨na3, ra3, rfl, pa3, h_a3⟩ := inv_i h_a2
  obtain ⟨na4, ra4, rfl, pa4, h_a4⟩ := inv_i h_a3
  obtain ⟨na5, ra5, rfl, pa5, h_a5⟩ := inv_i h_a4
  cases inv_nil h_a5
  rw [E126] at h'
  obtain ⟨sc0, rc0, rfl, pc0, hq_c0⟩ := inv_s h'
  obtain ⟨lc1, rc1, rfl, pc1, hq_c1⟩ := inv_sl W210 hq_c0
  obtain ⟨lc2, rc2, rfl, pc2, hq_c2⟩ := inv_sl W9 hq_c1
  obtain ⟨nc3, rc3, rfl, pc3, hq_c3⟩ := inv_i hq_c2
  obtain ⟨nc4, rc4, rfl, pc4, hq_c4⟩ := inv_i hq_c3
  obtain ⟨nc5, rc5, rfl, pc5, hq_c5⟩ := inv_i hq_c4
  cases inv_nil hq_c5
  refine Ev.bo (af := a94) rfl rfl (fun d n => a94q ..) ?_
  simp only [bne_not, beq_t, beq_f, Bool.not_not, Bool.cond_not, beq_nat, Bool.and_true]
  apply Stp.conv
  · apply stp_if; intro e1
    apply stp_if; intro e2
    apply stp_if; intro e3
    apply stp_if; intro e4
    apply stp_call
    · exact f164 (by assumption) (by assumption)
    apply stp_if; intro e5
    apply stp_call
    · exact f96 (by assumption) (by assumption)
    first | exact stp_end | exact stp_ret
  · first | (simp only [eqRow, eqD, Bool.and_true, Bool.true_and, Bool.and_assoc]; done) | (simp only [eqRow, eqD, Bool.and_true, Bool.true_and, Bool.and_assoc]; ac_rfl) | (rw [Bool.eq_iff_iff]; simp only [eqRow, eqD, Bool.and_true, Bool.true_and, Bool.and_eq_true]; constructor <;> (intro hh; simp only [hh, and_self]))
/- slices.Equal[[]loop.example/g00119/impl.Hold,loop.example/g00119/impl.Hold] -/
theorem f95 {l l' : Rows} (hl : SL E 96 l) (hl' : SL E 96 l') : Ev fs 95 [.d (.s 5 l), .d (.s 5 l')] (bo ((l.length == l'.length) && eqRows l l')) := by
  refine Ev.bo (af := a95) rfl rfl (fun d n => a95q ..) ?_
  simp only [bne_not, beq_t, beq_f, Bool.not_not, Bool.cond_not, beq_nat, Bool.and_true]
  apply Stp.conv
  · apply stp_if; intro e1
    apply stp_loop (L := fun d n => l95x0 (TabD fs d) d n [(.fz 5 l), (.fz 5 l'), (.v (.int .i64 (l.length : Int))), (.v (.int .i64 0))]) (c := eqRows l l') (y := ((.exit 0), []))
    · refine eq_loopE (L := fun d n i => l95x0 (TabD fs d) d n [(.fz 5 l), (.fz 5 l'), (.v (.int .i64 (l.length : Int))), (.v (.int .i64 i))]) (len_of (by assumption)) (fun d n => ?_) (fun i x x' hi hi' hx hx' => ?_)
      rw [l95x0s]
      simp only [cI, cB, cS, cL, oD_d, oG_g, oT_t, oP_p, dI_v, dB_v, dS_v, dL_s, cell_z, cell_s, nth_z, nth_s, aV_z, aV_s, aI_v, aB_v, aS_v, aL_f, aO_o, aX_b, tst_t, cond_true, cond_false, Ex.same, Nat.beq, List.length_cons, List.length_nil, Int.toNat_natCast, Int.lt_irrefl, decide_false]
      have h := (SL.at (E := E) (t := 96) (by assumption) hx)
      have h' := (SL.at (E := E) (t := 96) (by assumption) hx')
      have k := h
      have k' := h'
      rw [E96] at h
      obtain ⟨nx0, rx0, rfl, px0, h_x0⟩ := inv_i h
      obtain ⟨sx1, rx1, rfl, px1, h_x1⟩ := inv_s h_x0
      obtain ⟨nx2, rx2, rfl, px2, h_x2⟩ := inv_i h_x1
      obtain ⟨nx3, rx3, rfl, px3, h_x3⟩ := inv_i h_x2
      obtain ⟨nx4, rx4, rfl, px4, h_x4⟩ := inv_i h_x3
      cases inv_nil h_x4
      rw [E96] at h'
      obtain ⟨ny0, ry0, rfl, py0, hq_y0⟩ := inv_i h'
      obtain ⟨sy1, ry1, rfl, py1, hq_y1⟩ := inv_s hq_y0
      obtain ⟨ny2, ry2, rfl, py2, hq_y2⟩ := inv_i hq_y1
      obtain ⟨ny3, ry3, rfl, py3, hq_y3⟩ := inv_i hq_y2
      obtain ⟨ny4, ry4, rfl, py4, hq_y4⟩ := inv_i hq_y3
      cases inv_nil hq_y4
      simp only [l95x0s]
      simp only [cI, cB, cS, cL, oD_d, oG_g, oT_t, oP_p, dI_v, dB_v, dS_v, dL_s, cell_z, cell_s, nth_z, nth_s, aV_z, aV_s, aI_v, aB_v, aS_v, aL_f, aO_o, aX_b, tst_t, cond_true, cond_false, Ex.same, Nat.beq, List.length_cons, List.length_nil, Int.toNat_natCast, decide_eq_true (Int.ofNat_lt.2 hi), dec_nn, look_at hx, look_at hx', wrap_succ hi (SL.le (E := E) (t := 96) (by assumption)), List.append_nil]
      simp only [bne_not, beq_t, beq_f, Bool.not_not, Bool.cond_not, beq_nat, Bool.and_true]
      apply Stp.conv
      · apply stp_if; intro g1
        exact stp_end
      · first | (simp only [eqRow, eqD, Bool.and_true, Bool.true_and, Bool.and_assoc]; done) | (simp only [eqRow, eqD, Bool.and_true, Bool.true_and, Bool.and_assoc]; ac_rfl) | (rw [Bool.eq_iff_iff]; simp only [eqRow, eqD, Bool.and_true, Bool.true_and, Bool.and_eq_true]; constructor <;> (intro hh; simp only [hh, and_self]))
    any_goals (intro d n; simp only [cI, cB, cS, cL, oD_d, oG_g, oT_t, oP_p, dI_v, dB_v, dS_v, dL_s, cell_z, cell_s, nth_z, nth_s, aV_z, aV_s, aI_v, aB_v, aS_v, aL_f, aO_o, aX_b, tst_t, cond_true, cond_false, Ex.same, Nat.beq, List.length_cons, List.length_nil, Int.toNat_natCast]; done)
    simp only [cI, cB, cS, cL, oD_d, oG_g, oT_t, oP_p, dI_v, dB_v, dS_v, dL_s, cell_z, cell_s, nth_z, nth_s, aV_z, aV_s, aI_v, aB_v, aS_v, aL_f, aO_o, aX_b, tst_t, cond_true, cond_false, Ex.same, Nat.beq, List.length_cons, List.length_nil, Int.toNat_natCast]
    first | exact stp_end | exact stp_ret
  · first | (simp only [eqRow, eqD, Bool.and_true, Bool.true_and, Bool.and_assoc]; done) | (simp only [eqRow, eqD, Bool.and_true, Bool.true_and, Bool.and_assoc]; ac_rfl) | (rw [Bool.eq_iff_iff]; simp only [eqRow, eqD, Bool.and_true, Bool.true_and, Bool.and_eq_true]; constructor <;> (intro hh; simp only [hh, and_self]))
/- loop.example/g00119/impl.SameHub -/
theorem f32 {row row' : Row} (h : ShL E (E 57) row) (h' : ShL E (E 57) row') : Ev fs 32 [.g row, .g row'] (bo (eqRow row row')) := by
  rw [E57] at h
  obtain ⟨na0, ra0, rfl, pa0, h_a0⟩ := inv_i h
  obtain ⟨na1, ra1, rfl, pa1, h_a1⟩ := inv_i h_a0
  obtain ⟨na2, ra2, rfl, pa2, h_a2⟩ := inv_i h_a1
  obtain ⟨la3, ra3, rfl, pa3, h_a3⟩ := inv_sl W120 h_a2
  obtain ⟨la4, ra4, rfl, pa4, h_a4⟩ := inv_sl W126 h_a3
  obtain ⟨la5, ra5, rfl, pa5, h_a5⟩ := inv_sl W96 h_a4
  obtain ⟨la6, ra6, rfl, pa6, h_a6⟩ := inv_sl W9 h_a5
  cases inv_nil h_a6
  rw [E57] at h'
  obtain ⟨nc0, rc0, rfl, pc0, hq_c0⟩ := inv_i h'
  obtain ⟨nc1, rc1, rfl, pc1, hq_c1⟩ := inv_i hq_c0
  obtain ⟨nc2, rc2, rfl, pc2, hq_c2⟩ := inv_i hq_c1
  obtain ⟨lc3, rc3, rfl, pc3, hq_c3⟩ := inv_sl W120 hq_c2
  obtain ⟨lc4, rc4, rfl, pc4, hq_c4⟩ := inv_sl W126 hq_c3
  obtain ⟨lc5, rc5, rfl, pc5, hq_c5⟩ := inv_sl W96 hq_c4
  obtain ⟨lc6, rc6, rfl, pc6, hq_c6⟩ := inv_sl W9 hq_c5
  cases inv_nil hq_c6
  refine Ev.bo (af := a32) rfl rfl (fun d n => a32q ..) ?_
  simp only [bne_not, beq_t, beq_f, Bool.not_not, Bool.cond_not, beq_nat, Bool.and_true]
  apply Stp.conv
  · apply stp_if; intro e1
    apply stp_if; intro e2
    apply stp_if; intro e3
    apply stp_call
    · exact f91 (by assumption) (by assumption) (fun i x x' hx hx' => f92 (SL.at (by assumption) hx) (SL.at (by assumption) hx'))
    apply stp_if; intro e4
    apply stp_call
    · exact f93 (by assumption) (by assumption) (fun i x x' hx hx' => f94 (SL.at (by assumption) hx) (SL.at (by assumption) hx'))
    apply stp_if; intro e5
    apply stp_call
    · exact f95 (by assumption) (by assumption)
    apply stp_if; intro e6
    apply stp_call
    · exact f96 (by assumption) (by assumption)
    first | exact stp_end | exact stp_ret
  · first | (simp only [eqRow, eqD, Bool.and_true, Bool.true_and, Bool.and_assoc]; done) | (simp only [eqRow, eqD, Bool.and_true, Bool.true_and, Bool.and_assoc]; ac_rfl) | (rw [Bool.eq_iff_iff]; simp only [eqRow, eqD, Bool.and_true, Bool.true_and, Bool.and_eq_true]; constructor <;> (intro hh; simp only [hh, and_self]))
end Go.Am.Sb
