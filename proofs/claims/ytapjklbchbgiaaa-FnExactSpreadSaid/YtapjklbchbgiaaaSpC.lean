/- What the functions of one family say in the end. Nothing is assumed. -/
import Derived.Test.YtapjklbchbgiaaaSpH
namespace Go.Am.Sp
set_option linter.unusedVariables false
set_option linter.unusedSimpArgs false
set_option maxRecDepth 8000
/- loop.example/g00119/laws.toStringS -/
theorem f56 {l : Rows} (hl : SL E 9 l) (hw : l.length + wtRows l ≤ 1048576) : Ev fs 56 [.d (.s 1 l)] ⟨.d (.s 1 l), []⟩ := by
  refine to_rows (fun d n acc i => l56x0 (TabD fs d) d n [.fz 1 l, .o 1 acc, .v (.int .i64 i)]) (af := a56) (z := [.v (.string ByteArray.empty)]) rfl rfl (fun d => a56q ..) (by omega) (by decide) (fun d n acc => ?_) (fun pre x post res ha hp k => ?_)
  · rw [l56x0s]
    simp -implicitDefEqProofs only [cI, cB, cS, cL, oD_d, oG_g, oT_t, oP_p, dI_v, dB_v, dS_v, dL_s, cell_z, cell_s, nth_z, nth_s, aV_z, aV_s, aI_v, aB_v, aS_v, aL_f, aO_o, aX_b, tst_t, cond_true, cond_false, Ex.same, Nat.beq, List.length_cons, List.length_nil, Int.toNat_natCast, beqTT, beqTF, beqFT, beqFF, Int.lt_irrefl, decide_false]
  · have hwx := wt_mid (pre := pre) (x := x) (post := post)
    have hwr := wrap_succ hp hl.1
    subst ha
    have h := hl.mid
    have h' := h
    rw [E9] at h
    obtain ⟨sa0, ra0, rfl, pa0, h_a0⟩ := inv_s h
    cases inv_nil h_a0
    simp only [l56x0s]
    simp -implicitDefEqProofs only [cI, cB, cS, cL, oD_d, oG_g, oT_t, oP_p, dI_v, dB_v, dS_v, dL_s, cell_z, cell_s, nth_z, nth_s, aV_z, aV_s, aI_v, aB_v, aS_v, aL_f, aO_o, aX_b, tst_t, cond_true, cond_false, Ex.same, Nat.beq, List.length_cons, List.length_nil, Int.toNat_natCast, beqTT, beqTF, beqFT, beqFF, mid_lt, mid_lt', dec_nn, look_mid, hwr, Bool.and_self]
    simp only [wtRow, wtD] at hwx
    simp only [setD_mid, List.set_cons_zero, List.set_cons_succ]
    exact k
/- loop.example/g00119/laws.toValueS -/
mutual
theorem fr124 {row : Row} (h : ShL E (E 112) row) (hw : wtRow row ≤ 1048576) (W : Nat) (hW : 2 * wtRow row + 1 = W) : Ev fs 124 [.g row] ⟨.g row, []⟩ := by
  rw [E112] at h
  obtain ⟨na0, ra0, rfl, pa0, h_a0⟩ := inv_i h
  obtain ⟨sa1, ra1, rfl, pa1, h_a1⟩ := inv_s h_a0
  obtain ⟨na2, ra2, rfl, pa2, h_a2⟩ := inv_i h_a1
  obtain ⟨la3, ra3, rfl, pa3, h_a3⟩ := inv_sl W9 h_a2
  obtain ⟨la4, ra4, rfl, pa4, h_a4⟩ := inv_sl W112 h_a3
  cases inv_nil h_a4
  simp only [wtRow, wtD] at hw
  refine Ev.of (af := a124) rfl rfl (Evt.congr (fun d n => a124q ..) ?_)
  refine ev_call (f56 (by assumption) (by first | omega | (simp only [wtRow, wtD]; omega))) ?_
  simp -implicitDefEqProofs only [cI, cB, cS, cL, oD_d, oG_g, oT_t, oP_p, dI_v, dB_v, dS_v, dL_s, cell_z, cell_s, nth_z, nth_s, aV_z, aV_s, aI_v, aB_v, aS_v, aL_f, aO_o, aX_b, tst_t, cond_true, cond_false, Ex.same, Nat.beq, List.length_cons, List.length_nil, Int.toNat_natCast, beqTT, beqTF, beqFT, beqFF]
  refine ev_call (fr146 (by assumption) (by first | omega | (simp only [wtRow, wtD]; omega)) _ rfl) ?_
  simp -implicitDefEqProofs only [cI, cB, cS, cL, oD_d, oG_g, oT_t, oP_p, dI_v, dB_v, dS_v, dL_s, cell_z, cell_s, nth_z, nth_s, aV_z, aV_s, aI_v, aB_v, aS_v, aL_f, aO_o, aX_b, tst_t, cond_true, cond_false, Ex.same, Nat.beq, List.length_cons, List.length_nil, Int.toNat_natCast, beqTT, beqTF, beqFT, beqFF]
  exact Evt.ret
termination_by W
decreasing_by all_goals (try have := hwx); (try simp only [wtRow, wtD] at *); omega
theorem fr146 {l : Rows} (hl : SL E 112 l) (hw : l.length + wtRows l ≤ 1048576) (W : Nat) (hW : 2 * (l.length + wtRows l) = W) : Ev fs 146 [.d (.s 5 l)] ⟨.d (.s 5 l), []⟩ := by
  refine to_rows (fun d n acc i => l146x0 (TabD fs d) d n [.fz 5 l, .o 5 acc, .v (.int .i64 i)]) (af := a146) (z := [.v (.int .i64 0), .v (.string ByteArray.empty), .v (.int .i64 0), .s 1 [], .s 5 []]) rfl rfl (fun d => a146q ..) (by omega) (by decide) (fun d n acc => ?_) (fun pre x post res ha hp k => ?_)
  · rw [l146x0s]
    simp -implicitDefEqProofs only [cI, cB, cS, cL, oD_d, oG_g, oT_t, oP_p, dI_v, dB_v, dS_v, dL_s, cell_z, cell_s, nth_z, nth_s, aV_z, aV_s, aI_v, aB_v, aS_v, aL_f, aO_o, aX_b, tst_t, cond_true, cond_false, Ex.same, Nat.beq, List.length_cons, List.length_nil, Int.toNat_natCast, beqTT, beqTF, beqFT, beqFF, Int.lt_irrefl, decide_false]
  · have hwx := wt_mid (pre := pre) (x := x) (post := post)
    have hwr := wrap_succ hp hl.1
    subst ha
    have h := hl.mid
    have h' := h
    rw [E112] at h
    obtain ⟨na0, ra0, rfl, pa0, h_a0⟩ := inv_i h
    obtain ⟨sa1, ra1, rfl, pa1, h_a1⟩ := inv_s h_a0
    obtain ⟨na2, ra2, rfl, pa2, h_a2⟩ := inv_i h_a1
    obtain ⟨la3, ra3, rfl, pa3, h_a3⟩ := inv_sl W9 h_a2
    obtain ⟨la4, ra4, rfl, pa4, h_a4⟩ := inv_sl W112 h_a3
    cases inv_nil h_a4
    simp only [l146x0s]
    simp -implicitDefEqProofs only [cI, cB, cS, cL, oD_d, oG_g, oT_t, oP_p, dI_v, dB_v, dS_v, dL_s, cell_z, cell_s, nth_z, nth_s, aV_z, aV_s, aI_v, aB_v, aS_v, aL_f, aO_o, aX_b, tst_t, cond_true, cond_false, Ex.same, Nat.beq, List.length_cons, List.length_nil, Int.toNat_natCast, beqTT, beqTF, beqFT, beqFF, mid_lt, mid_lt', dec_nn, look_mid, hwr, Bool.and_self]
    simp only [wtRow, wtD] at hwx
    refine ev_call (fr124 (by assumption) (by first | omega | (simp only [wtRow, wtD]; omega)) _ rfl) ?_
    simp -implicitDefEqProofs only [cI, cB, cS, cL, oD_d, oG_g, oT_t, oP_p, dI_v, dB_v, dS_v, dL_s, cell_z, cell_s, nth_z, nth_s, aV_z, aV_s, aI_v, aB_v, aS_v, aL_f, aO_o, aX_b, tst_t, cond_true, cond_false, Ex.same, Nat.beq, List.length_cons, List.length_nil, Int.toNat_natCast, beqTT, beqTF, beqFT, beqFF, mid_lt, mid_lt', dec_nn, hwr, Bool.and_self]
    simp only [setD_mid, List.set_cons_zero, List.set_cons_succ]
    exact k
termination_by W
decreasing_by all_goals (try have := hwx); (try simp only [wtRow, wtD] at *); omega
end
theorem f124 {row : Row} (h : ShL E (E 112) row) (hw : wtRow row ≤ 1048576) : Ev fs 124 [.g row] ⟨.g row, []⟩ := fr124 h hw _ rfl
theorem f146 {l : Rows} (hl : SL E 112 l) (hw : l.length + wtRows l ≤ 1048576) : Ev fs 146 [.d (.s 5 l)] ⟨.d (.s 5 l), []⟩ := fr146 hl hw _ rfl
/- loop.example/g00119/laws.toTerm -/
theorem f173 {row : Row} (h : ShL E (E 239) row) (hw : wtRow row ≤ 1048576) : Ev fs 173 [.g row] ⟨.g row, []⟩ := by
  rw [E239] at h
  obtain ⟨na0, ra0, rfl, pa0, h_a0⟩ := inv_i h
  obtain ⟨sa1, ra1, rfl, pa1, h_a1⟩ := inv_s h_a0
  obtain ⟨la2, ra2, rfl, pa2, h_a2⟩ := inv_sl W9 h_a1
  cases inv_nil h_a2
  simp only [wtRow, wtD] at hw
  refine Ev.of (af := a173) rfl rfl (Evt.congr (fun d n => a173q ..) ?_)
  refine ev_call (f56 (by assumption) (by first | omega | (simp only [wtRow, wtD]; omega))) ?_
  simp -implicitDefEqProofs only [cI, cB, cS, cL, oD_d, oG_g, oT_t, oP_p, dI_v, dB_v, dS_v, dL_s, cell_z, cell_s, nth_z, nth_s, aV_z, aV_s, aI_v, aB_v, aS_v, aL_f, aO_o, aX_b, tst_t, cond_true, cond_false, Ex.same, Nat.beq, List.length_cons, List.length_nil, Int.toNat_natCast, beqTT, beqTF, beqFT, beqFF]
  exact Evt.ret
/- loop.example/g00119/laws.toTermS -/
theorem f154 {l : Rows} (hl : SL E 239 l) (hw : l.length + wtRows l ≤ 1048576) : Ev fs 154 [.d (.s 3 l)] ⟨.d (.s 3 l), []⟩ := by
  refine to_rows (fun d n acc i => l154x0 (TabD fs d) d n [.fz 3 l, .o 3 acc, .v (.int .i64 i)]) (af := a154) (z := [.v (.int .i64 0), .v (.string ByteArray.empty), .s 1 []]) rfl rfl (fun d => a154q ..) (by omega) (by decide) (fun d n acc => ?_) (fun pre x post res ha hp k => ?_)
  · rw [l154x0s]
    simp -implicitDefEqProofs only [cI, cB, cS, cL, oD_d, oG_g, oT_t, oP_p, dI_v, dB_v, dS_v, dL_s, cell_z, cell_s, nth_z, nth_s, aV_z, aV_s, aI_v, aB_v, aS_v, aL_f, aO_o, aX_b, tst_t, cond_true, cond_false, Ex.same, Nat.beq, List.length_cons, List.length_nil, Int.toNat_natCast, beqTT, beqTF, beqFT, beqFF, Int.lt_irrefl, decide_false]
  · have hwx := wt_mid (pre := pre) (x := x) (post := post)
    have hwr := wrap_succ hp hl.1
    subst ha
    have h := hl.mid
    have h' := h
    rw [E239] at h
    obtain ⟨na0, ra0, rfl, pa0, h_a0⟩ := inv_i h
    obtain ⟨sa1, ra1, rfl, pa1, h_a1⟩ := inv_s h_a0
    obtain ⟨la2, ra2, rfl, pa2, h_a2⟩ := inv_sl W9 h_a1
    cases inv_nil h_a2
    simp only [l154x0s]
    simp -implicitDefEqProofs only [cI, cB, cS, cL, oD_d, oG_g, oT_t, oP_p, dI_v, dB_v, dS_v, dL_s, cell_z, cell_s, nth_z, nth_s, aV_z, aV_s, aI_v, aB_v, aS_v, aL_f, aO_o, aX_b, tst_t, cond_true, cond_false, Ex.same, Nat.beq, List.length_cons, List.length_nil, Int.toNat_natCast, beqTT, beqTF, beqFT, beqFF, mid_lt, mid_lt', dec_nn, look_mid, hwr, Bool.and_self]
    simp only [wtRow, wtD] at hwx
    refine ev_call (f173 (by assumption) (by first | omega | (simp only [wtRow, wtD]; omega))) ?_
    simp -implicitDefEqProofs only [cI, cB, cS, cL, oD_d, oG_g, oT_t, oP_p, dI_v, dB_v, dS_v, dL_s, cell_z, cell_s, nth_z, nth_s, aV_z, aV_s, aI_v, aB_v, aS_v, aL_f, aO_o, aX_b, tst_t, cond_true, cond_false, Ex.same, Nat.beq, List.length_cons, List.length_nil, Int.toNat_natCast, beqTT, beqTF, beqFT, beqFF, mid_lt, mid_lt', dec_nn, hwr, Bool.and_self]
    simp only [setD_mid, List.set_cons_zero, List.set_cons_succ]
    exact k
/- loop.example/g00119/laws.toWeigh -/
theorem f174 {row : Row} (h : ShL E (E 241) row) (hw : wtRow row ≤ 1048576) : Ev fs 174 [.g row] ⟨.g row, []⟩ := by
  rw [E241] at h
  obtain ⟨sa0, ra0, rfl, pa0, h_a0⟩ := inv_s h
  obtain ⟨na1, ra1, rfl, pa1, h_a1⟩ := inv_i h_a0
  cases inv_nil h_a1
  simp only [wtRow, wtD] at hw
  refine Ev.of (af := a174) rfl rfl (Evt.congr (fun d n => a174q ..) ?_)
  exact Evt.ret
/- loop.example/g00119/laws.toWeighS -/
theorem f155 {l : Rows} (hl : SL E 241 l) (hw : l.length + wtRows l ≤ 1048576) : Ev fs 155 [.d (.s 2 l)] ⟨.d (.s 2 l), []⟩ := by
  refine to_rows (fun d n acc i => l155x0 (TabD fs d) d n [.fz 2 l, .o 2 acc, .v (.int .i64 i)]) (af := a155) (z := [.v (.string ByteArray.empty), .v (.int .i64 0)]) rfl rfl (fun d => a155q ..) (by omega) (by decide) (fun d n acc => ?_) (fun pre x post res ha hp k => ?_)
  · rw [l155x0s]
    simp -implicitDefEqProofs only [cI, cB, cS, cL, oD_d, oG_g, oT_t, oP_p, dI_v, dB_v, dS_v, dL_s, cell_z, cell_s, nth_z, nth_s, aV_z, aV_s, aI_v, aB_v, aS_v, aL_f, aO_o, aX_b, tst_t, cond_true, cond_false, Ex.same, Nat.beq, List.length_cons, List.length_nil, Int.toNat_natCast, beqTT, beqTF, beqFT, beqFF, Int.lt_irrefl, decide_false]
  · have hwx := wt_mid (pre := pre) (x := x) (post := post)
    have hwr := wrap_succ hp hl.1
    subst ha
    have h := hl.mid
    have h' := h
    rw [E241] at h
    obtain ⟨sa0, ra0, rfl, pa0, h_a0⟩ := inv_s h
    obtain ⟨na1, ra1, rfl, pa1, h_a1⟩ := inv_i h_a0
    cases inv_nil h_a1
    simp only [l155x0s]
    simp -implicitDefEqProofs only [cI, cB, cS, cL, oD_d, oG_g, oT_t, oP_p, dI_v, dB_v, dS_v, dL_s, cell_z, cell_s, nth_z, nth_s, aV_z, aV_s, aI_v, aB_v, aS_v, aL_f, aO_o, aX_b, tst_t, cond_true, cond_false, Ex.same, Nat.beq, List.length_cons, List.length_nil, Int.toNat_natCast, beqTT, beqTF, beqFT, beqFF, mid_lt, mid_lt', dec_nn, look_mid, hwr, Bool.and_self]
    simp only [wtRow, wtD] at hwx
    refine ev_call (f174 (by assumption) (by first | omega | (simp only [wtRow, wtD]; omega))) ?_
    simp -implicitDefEqProofs only [cI, cB, cS, cL, oD_d, oG_g, oT_t, oP_p, dI_v, dB_v, dS_v, dL_s, cell_z, cell_s, nth_z, nth_s, aV_z, aV_s, aI_v, aB_v, aS_v, aL_f, aO_o, aX_b, tst_t, cond_true, cond_false, Ex.same, Nat.beq, List.length_cons, List.length_nil, Int.toNat_natCast, beqTT, beqTF, beqFT, beqFF, mid_lt, mid_lt', dec_nn, hwr, Bool.and_self]
    simp only [setD_mid, List.set_cons_zero, List.set_cons_succ]
    exact k
/- loop.example/g00119/laws.toWant -/
theorem f131 {row : Row} (h : ShL E (E 139) row) (hw : wtRow row ≤ 1048576) : Ev fs 131 [.g row] ⟨.g row, []⟩ := by
  rw [E139] at h
  obtain ⟨na0, ra0, rfl, pa0, h_a0⟩ := inv_i h
  obtain ⟨la1, ra1, rfl, pa1, h_a1⟩ := inv_sl W239 h_a0
  obtain ⟨la2, ra2, rfl, pa2, h_a2⟩ := inv_sl W9 h_a1
  obtain ⟨la3, ra3, rfl, pa3, h_a3⟩ := inv_sl W241 h_a2
  cases inv_nil h_a3
  simp only [wtRow, wtD] at hw
  refine Ev.of (af := a131) rfl rfl (Evt.congr (fun d n => a131q ..) ?_)
  refine ev_call (f154 (by assumption) (by first | omega | (simp only [wtRow, wtD]; omega))) ?_
  simp -implicitDefEqProofs only [cI, cB, cS, cL, oD_d, oG_g, oT_t, oP_p, dI_v, dB_v, dS_v, dL_s, cell_z, cell_s, nth_z, nth_s, aV_z, aV_s, aI_v, aB_v, aS_v, aL_f, aO_o, aX_b, tst_t, cond_true, cond_false, Ex.same, Nat.beq, List.length_cons, List.length_nil, Int.toNat_natCast, beqTT, beqTF, beqFT, beqFF]
  refine ev_call (f56 (by assumption) (by first | omega | (simp only [wtRow, wtD]; omega))) ?_
  simp -implicitDefEqProofs only [cI, cB, cS, cL, oD_d, oG_g, oT_t, oP_p, dI_v, dB_v, dS_v, dL_s, cell_z, cell_s, nth_z, nth_s, aV_z, aV_s, aI_v, aB_v, aS_v, aL_f, aO_o, aX_b, tst_t, cond_true, cond_false, Ex.same, Nat.beq, List.length_cons, List.length_nil, Int.toNat_natCast, beqTT, beqTF, beqFT, beqFF]
  refine ev_call (f155 (by assumption) (by first | omega | (simp only [wtRow, wtD]; omega))) ?_
  simp -implicitDefEqProofs only [cI, cB, cS, cL, oD_d, oG_g, oT_t, oP_p, dI_v, dB_v, dS_v, dL_s, cell_z, cell_s, nth_z, nth_s, aV_z, aV_s, aI_v, aB_v, aS_v, aL_f, aO_o, aX_b, tst_t, cond_true, cond_false, Ex.same, Nat.beq, List.length_cons, List.length_nil, Int.toNat_natCast, beqTT, beqTF, beqFT, beqFF]
  exact Evt.ret
/- loop.example/g00119/laws.toOp -/
theorem f185 {row : Row} (h : ShL E (E 256) row) (hw : wtRow row ≤ 1048576) : Ev fs 185 [.g row] ⟨.g row, []⟩ := by
  rw [E256] at h
  obtain ⟨na0, ra0, rfl, pa0, h_a0⟩ := inv_i h
  obtain ⟨la1, ra1, rfl, pa1, h_a1⟩ := inv_sl W9 h_a0
  obtain ⟨na2, ra2, rfl, pa2, h_a2⟩ := inv_i h_a1
  obtain ⟨sa3, ra3, rfl, pa3, h_a3⟩ := inv_s h_a2
  obtain ⟨na4, ra4, rfl, pa4, h_a4⟩ := inv_i h_a3
  obtain ⟨la5, ra5, rfl, pa5, h_a5⟩ := inv_sl W9 h_a4
  obtain ⟨la6, ra6, rfl, pa6, h_a6⟩ := inv_sl W112 h_a5
  cases inv_nil h_a6
  simp only [wtRow, wtD] at hw
  refine Ev.of (af := a185) rfl rfl (Evt.congr (fun d n => a185q ..) ?_)
  refine ev_call (f56 (by assumption) (by first | omega | (simp only [wtRow, wtD]; omega))) ?_
  simp -implicitDefEqProofs only [cI, cB, cS, cL, oD_d, oG_g, oT_t, oP_p, dI_v, dB_v, dS_v, dL_s, cell_z, cell_s, nth_z, nth_s, aV_z, aV_s, aI_v, aB_v, aS_v, aL_f, aO_o, aX_b, tst_t, cond_true, cond_false, Ex.same, Nat.beq, List.length_cons, List.length_nil, Int.toNat_natCast, beqTT, beqTF, beqFT, beqFF]
  refine ev_call (f124 (by rw [E112]; exact mk_i (by assumption) (mk_s (by assumption) (mk_i (by assumption) (mk_sl W9 (by assumption) (mk_sl W112 (by assumption) (ShL.nil)))))) (by first | omega | (simp only [wtRow, wtD]; omega))) ?_
  simp -implicitDefEqProofs only [cI, cB, cS, cL, oD_d, oG_g, oT_t, oP_p, dI_v, dB_v, dS_v, dL_s, cell_z, cell_s, nth_z, nth_s, aV_z, aV_s, aI_v, aB_v, aS_v, aL_f, aO_o, aX_b, tst_t, cond_true, cond_false, Ex.same, Nat.beq, List.length_cons, List.length_nil, Int.toNat_natCast, beqTT, beqTF, beqFT, beqFF]
  exact Evt.ret
/- loop.example/g00119/laws.toOpS -/
theorem f175 {l : Rows} (hl : SL E 256 l) (hw : l.length + wtRows l ≤ 1048576) : Ev fs 175 [.d (.s 7 l)] ⟨.d (.s 7 l), []⟩ := by
  refine to_rows (fun d n acc i => l175x0 (TabD fs d) d n [.fz 7 l, .o 7 acc, .v (.int .i64 i)]) (af := a175) (z := [.v (.int .i64 0), .s 1 [], .v (.int .i64 0), .v (.string ByteArray.empty), .v (.int .i64 0), .s 1 [], .s 5 []]) rfl rfl (fun d => a175q ..) (by omega) (by decide) (fun d n acc => ?_) (fun pre x post res ha hp k => ?_)
  · rw [l175x0s]
    simp -implicitDefEqProofs only [cI, cB, cS, cL, oD_d, oG_g, oT_t, oP_p, dI_v, dB_v, dS_v, dL_s, cell_z, cell_s, nth_z, nth_s, aV_z, aV_s, aI_v, aB_v, aS_v, aL_f, aO_o, aX_b, tst_t, cond_true, cond_false, Ex.same, Nat.beq, List.length_cons, List.length_nil, Int.toNat_natCast, beqTT, beqTF, beqFT, beqFF, Int.lt_irrefl, decide_false]
  · have hwx := wt_mid (pre := pre) (x := x) (post := post)
    have hwr := wrap_succ hp hl.1
    subst ha
    have h := hl.mid
    have h' := h
    rw [E256] at h
    obtain ⟨na0, ra0, rfl, pa0, h_a0⟩ := inv_i h
    obtain ⟨la1, ra1, rfl, pa1, h_a1⟩ := inv_sl W9 h_a0
    obtain ⟨na2, ra2, rfl, pa2, h_a2⟩ := inv_i h_a1
    obtain ⟨sa3, ra3, rfl, pa3, h_a3⟩ := inv_s h_a2
    obtain ⟨na4, ra4, rfl, pa4, h_a4⟩ := inv_i h_a3
    obtain ⟨la5, ra5, rfl, pa5, h_a5⟩ := inv_sl W9 h_a4
    obtain ⟨la6, ra6, rfl, pa6, h_a6⟩ := inv_sl W112 h_a5
    cases inv_nil h_a6
    simp only [l175x0s]
    simp -implicitDefEqProofs only [cI, cB, cS, cL, oD_d, oG_g, oT_t, oP_p, dI_v, dB_v, dS_v, dL_s, cell_z, cell_s, nth_z, nth_s, aV_z, aV_s, aI_v, aB_v, aS_v, aL_f, aO_o, aX_b, tst_t, cond_true, cond_false, Ex.same, Nat.beq, List.length_cons, List.length_nil, Int.toNat_natCast, beqTT, beqTF, beqFT, beqFF, mid_lt, mid_lt', dec_nn, look_mid, hwr, Bool.and_self]
    simp only [wtRow, wtD] at hwx
    refine ev_call (f185 (by assumption) (by first | omega | (simp only [wtRow, wtD]; omega))) ?_
    simp -implicitDefEqProofs only [cI, cB, cS, cL, oD_d, oG_g, oT_t, oP_p, dI_v, dB_v, dS_v, dL_s, cell_z, cell_s, nth_z, nth_s, aV_z, aV_s, aI_v, aB_v, aS_v, aL_f, aO_o, aX_b, tst_t, cond_true, cond_false, Ex.same, Nat.beq, List.length_cons, List.length_nil, Int.toNat_natCast, beqTT, beqTF, beqFT, beqFF, mid_lt, mid_lt', dec_nn, hwr, Bool.and_self]
    simp only [setD_mid, List.set_cons_zero, List.set_cons_succ]
    exact k
/- loop.example/g00119/laws.toOver -/
theorem f156 {row : Row} (h : ShL E (E 223) row) (hw : wtRow row ≤ 1048576) : Ev fs 156 [.g row] ⟨.g row, []⟩ := by
  rw [E223] at h
  obtain ⟨sa0, ra0, rfl, pa0, h_a0⟩ := inv_s h
  obtain ⟨la1, ra1, rfl, pa1, h_a1⟩ := inv_sl W256 h_a0
  cases inv_nil h_a1
  simp only [wtRow, wtD] at hw
  refine Ev.of (af := a156) rfl rfl (Evt.congr (fun d n => a156q ..) ?_)
  refine ev_call (f175 (by assumption) (by first | omega | (simp only [wtRow, wtD]; omega))) ?_
  simp -implicitDefEqProofs only [cI, cB, cS, cL, oD_d, oG_g, oT_t, oP_p, dI_v, dB_v, dS_v, dL_s, cell_z, cell_s, nth_z, nth_s, aV_z, aV_s, aI_v, aB_v, aS_v, aL_f, aO_o, aX_b, tst_t, cond_true, cond_false, Ex.same, Nat.beq, List.length_cons, List.length_nil, Int.toNat_natCast, beqTT, beqTF, beqFT, beqFF]
  exact Evt.ret
/- loop.example/g00119/laws.toOverS -/
theorem f132 {l : Rows} (hl : SL E 223 l) (hw : l.length + wtRows l ≤ 1048576) : Ev fs 132 [.d (.s 2 l)] ⟨.d (.s 2 l), []⟩ := by
  refine to_rows (fun d n acc i => l132x0 (TabD fs d) d n [.fz 2 l, .o 2 acc, .v (.int .i64 i)]) (af := a132) (z := [.v (.string ByteArray.empty), .s 7 []]) rfl rfl (fun d => a132q ..) (by omega) (by decide) (fun d n acc => ?_) (fun pre x post res ha hp k => ?_)
  · rw [l132x0s]
    simp -implicitDefEqProofs only [cI, cB, cS, cL, oD_d, oG_g, oT_t, oP_p, dI_v, dB_v, dS_v, dL_s, cell_z, cell_s, nth_z, nth_s, aV_z, aV_s, aI_v, aB_v, aS_v, aL_f, aO_o, aX_b, tst_t, cond_true, cond_false, Ex.same, Nat.beq, List.length_cons, List.length_nil, Int.toNat_natCast, beqTT, beqTF, beqFT, beqFF, Int.lt_irrefl, decide_false]
  · have hwx := wt_mid (pre := pre) (x := x) (post := post)
    have hwr := wrap_succ hp hl.1
    subst ha
    have h := hl.mid
    have h' := h
    rw [E223] at h
    obtain ⟨sa0, ra0, rfl, pa0, h_a0⟩ := inv_s h
    obtain ⟨la1, ra1, rfl, pa1, h_a1⟩ := inv_sl W256 h_a0
    cases inv_nil h_a1
    simp only [l132x0s]
    simp -implicitDefEqProofs only [cI, cB, cS, cL, oD_d, oG_g, oT_t, oP_p, dI_v, dB_v, dS_v, dL_s, cell_z, cell_s, nth_z, nth_s, aV_z, aV_s, aI_v, aB_v, aS_v, aL_f, aO_o, aX_b, tst_t, cond_true, cond_false, Ex.same, Nat.beq, List.length_cons, List.length_nil, Int.toNat_natCast, beqTT, beqTF, beqFT, beqFF, mid_lt, mid_lt', dec_nn, look_mid, hwr, Bool.and_self]
    simp only [wtRow, wtD] at hwx
    refine ev_call (f156 (by assumption) (by first | omega | (simp only [wtRow, wtD]; omega))) ?_
    simp -implicitDefEqProofs only [cI, cB, cS, cL, oD_d, oG_g, oT_t, oP_p, dI_v, dB_v, dS_v, dL_s, cell_z, cell_s, nth_z, nth_s, aV_z, aV_s, aI_v, aB_v, aS_v, aL_f, aO_o, aX_b, tst_t, cond_true, cond_false, Ex.same, Nat.beq, List.length_cons, List.length_nil, Int.toNat_natCast, beqTT, beqTF, beqFT, beqFF, mid_lt, mid_lt', dec_nn, hwr, Bool.and_self]
    simp only [setD_mid, List.set_cons_zero, List.set_cons_succ]
    exact k
/- loop.example/g00119/laws.toJob -/
theorem f98 {row : Row} (h : ShL E (E 142) row) (hw : wtRow row ≤ 1048576) : Ev fs 98 [.g row] ⟨.g row, []⟩ := by
  rw [E142] at h
  obtain ⟨na0, ra0, rfl, pa0, h_a0⟩ := inv_i h
  obtain ⟨sa1, ra1, rfl, pa1, h_a1⟩ := inv_s h_a0
  obtain ⟨na2, ra2, rfl, pa2, h_a2⟩ := inv_i h_a1
  obtain ⟨la3, ra3, rfl, pa3, h_a3⟩ := inv_sl W239 h_a2
  obtain ⟨la4, ra4, rfl, pa4, h_a4⟩ := inv_sl W9 h_a3
  obtain ⟨la5, ra5, rfl, pa5, h_a5⟩ := inv_sl W241 h_a4
  obtain ⟨na6, ra6, rfl, pa6, h_a6⟩ := inv_i h_a5
  obtain ⟨sa7, ra7, rfl, pa7, h_a7⟩ := inv_s h_a6
  obtain ⟨na8, ra8, rfl, pa8, h_a8⟩ := inv_i h_a7
  obtain ⟨la9, ra9, rfl, pa9, h_a9⟩ := inv_sl W9 h_a8
  obtain ⟨la10, ra10, rfl, pa10, h_a10⟩ := inv_sl W112 h_a9
  obtain ⟨la11, ra11, rfl, pa11, h_a11⟩ := inv_sl W223 h_a10
  obtain ⟨ba12, ra12, rfl, h_a12⟩ := inv_b h_a11
  cases inv_nil h_a12
  simp only [wtRow, wtD] at hw
  refine Ev.of (af := a98) rfl rfl (Evt.congr (fun d n => a98q ..) ?_)
  refine ev_call (f131 (by rw [E139]; exact mk_i (by assumption) (mk_sl W239 (by assumption) (mk_sl W9 (by assumption) (mk_sl W241 (by assumption) (ShL.nil))))) (by first | omega | (simp only [wtRow, wtD]; omega))) ?_
  simp -implicitDefEqProofs only [cI, cB, cS, cL, oD_d, oG_g, oT_t, oP_p, dI_v, dB_v, dS_v, dL_s, cell_z, cell_s, nth_z, nth_s, aV_z, aV_s, aI_v, aB_v, aS_v, aL_f, aO_o, aX_b, tst_t, cond_true, cond_false, Ex.same, Nat.beq, List.length_cons, List.length_nil, Int.toNat_natCast, beqTT, beqTF, beqFT, beqFF]
  refine ev_call (f124 (by rw [E112]; exact mk_i (by assumption) (mk_s (by assumption) (mk_i (by assumption) (mk_sl W9 (by assumption) (mk_sl W112 (by assumption) (ShL.nil)))))) (by first | omega | (simp only [wtRow, wtD]; omega))) ?_
  simp -implicitDefEqProofs only [cI, cB, cS, cL, oD_d, oG_g, oT_t, oP_p, dI_v, dB_v, dS_v, dL_s, cell_z, cell_s, nth_z, nth_s, aV_z, aV_s, aI_v, aB_v, aS_v, aL_f, aO_o, aX_b, tst_t, cond_true, cond_false, Ex.same, Nat.beq, List.length_cons, List.length_nil, Int.toNat_natCast, beqTT, beqTF, beqFT, beqFF]
  refine ev_call (f132 (by assumption) (by first | omega | (simp only [wtRow, wtD]; omega))) ?_
  simp -implicitDefEqProofs only [cI, cB, cS, cL, oD_d, oG_g, oT_t, oP_p, dI_v, dB_v, dS_v, dL_s, cell_z, cell_s, nth_z, nth_s, aV_z, aV_s, aI_v, aB_v, aS_v, aL_f, aO_o, aX_b, tst_t, cond_true, cond_false, Ex.same, Nat.beq, List.length_cons, List.length_nil, Int.toNat_natCast, beqTT, beqTF, beqFT, beqFF]
  exact Evt.ret
/- loop.example/g00119/laws.toJobS -/
theorem f53 {l : Rows} (hl : SL E 142 l) (hw : l.length + wtRows l ≤ 1048576) : Ev fs 53 [.d (.s 13 l)] ⟨.d (.s 13 l), []⟩ := by
  refine to_rows (fun d n acc i => l53x0 (TabD fs d) d n [.fz 13 l, .o 13 acc, .v (.int .i64 i)]) (af := a53) (z := [.v (.int .i64 0), .v (.string ByteArray.empty), .v (.int .i64 0), .s 3 [], .s 1 [], .s 2 [], .v (.int .i64 0), .v (.string ByteArray.empty), .v (.int .i64 0), .s 1 [], .s 5 [], .s 2 [], .v (.bool false)]) rfl rfl (fun d => a53q ..) (by omega) (by decide) (fun d n acc => ?_) (fun pre x post res ha hp k => ?_)
  · rw [l53x0s]
    simp -implicitDefEqProofs only [cI, cB, cS, cL, oD_d, oG_g, oT_t, oP_p, dI_v, dB_v, dS_v, dL_s, cell_z, cell_s, nth_z, nth_s, aV_z, aV_s, aI_v, aB_v, aS_v, aL_f, aO_o, aX_b, tst_t, cond_true, cond_false, Ex.same, Nat.beq, List.length_cons, List.length_nil, Int.toNat_natCast, beqTT, beqTF, beqFT, beqFF, Int.lt_irrefl, decide_false]
  · have hwx := wt_mid (pre := pre) (x := x) (post := post)
    have hwr := wrap_succ hp hl.1
    subst ha
    have h := hl.mid
    have h' := h
    rw [E142] at h
    obtain ⟨na0, ra0, rfl, pa0, h_a0⟩ := inv_i h
    obtain ⟨sa1, ra1, rfl, pa1, h_a1⟩ := inv_s h_a0
    obtain ⟨na2, ra2, rfl, pa2, h_a2⟩ := inv_i h_a1
    obtain ⟨la3, ra3, rfl, pa3, h_a3⟩ := inv_sl W239 h_a2
    obtain ⟨la4, ra4, rfl, pa4, h_a4⟩ := inv_sl W9 h_a3
    obtain ⟨la5, ra5, rfl, pa5, h_a5⟩ := inv_sl W241 h_a4
    obtain ⟨na6, ra6, rfl, pa6, h_a6⟩ := inv_i h_a5
    obtain ⟨sa7, ra7, rfl, pa7, h_a7⟩ := inv_s h_a6
    obtain ⟨na8, ra8, rfl, pa8, h_a8⟩ := inv_i h_a7
    obtain ⟨la9, ra9, rfl, pa9, h_a9⟩ := inv_sl W9 h_a8
    obtain ⟨la10, ra10, rfl, pa10, h_a10⟩ := inv_sl W112 h_a9
    obtain ⟨la11, ra11, rfl, pa11, h_a11⟩ := inv_sl W223 h_a10
    obtain ⟨ba12, ra12, rfl, h_a12⟩ := inv_b h_a11
    cases inv_nil h_a12
    simp only [l53x0s]
    simp -implicitDefEqProofs only [cI, cB, cS, cL, oD_d, oG_g, oT_t, oP_p, dI_v, dB_v, dS_v, dL_s, cell_z, cell_s, nth_z, nth_s, aV_z, aV_s, aI_v, aB_v, aS_v, aL_f, aO_o, aX_b, tst_t, cond_true, cond_false, Ex.same, Nat.beq, List.length_cons, List.length_nil, Int.toNat_natCast, beqTT, beqTF, beqFT, beqFF, mid_lt, mid_lt', dec_nn, look_mid, hwr, Bool.and_self]
    simp only [wtRow, wtD] at hwx
    refine ev_call (f98 (by assumption) (by first | omega | (simp only [wtRow, wtD]; omega))) ?_
    simp -implicitDefEqProofs only [cI, cB, cS, cL, oD_d, oG_g, oT_t, oP_p, dI_v, dB_v, dS_v, dL_s, cell_z, cell_s, nth_z, nth_s, aV_z, aV_s, aI_v, aB_v, aS_v, aL_f, aO_o, aX_b, tst_t, cond_true, cond_false, Ex.same, Nat.beq, List.length_cons, List.length_nil, Int.toNat_natCast, beqTT, beqTF, beqFT, beqFF, mid_lt, mid_lt', dec_nn, hwr, Bool.and_self]
    simp only [setD_mid, List.set_cons_zero, List.set_cons_succ]
    exact k
/- loop.example/g00119/laws.toLabel -/
theorem f176 {row : Row} (h : ShL E (E 244) row) (hw : wtRow row ≤ 1048576) : Ev fs 176 [.g row] ⟨.g row, []⟩ := by
  rw [E244] at h
  obtain ⟨sa0, ra0, rfl, pa0, h_a0⟩ := inv_s h
  obtain ⟨sa1, ra1, rfl, pa1, h_a1⟩ := inv_s h_a0
  cases inv_nil h_a1
  simp only [wtRow, wtD] at hw
  refine Ev.of (af := a176) rfl rfl (Evt.congr (fun d n => a176q ..) ?_)
  exact Evt.ret
/- loop.example/g00119/laws.toLabelS -/
theorem f157 {l : Rows} (hl : SL E 244 l) (hw : l.length + wtRows l ≤ 1048576) : Ev fs 157 [.d (.s 2 l)] ⟨.d (.s 2 l), []⟩ := by
  refine to_rows (fun d n acc i => l157x0 (TabD fs d) d n [.fz 2 l, .o 2 acc, .v (.int .i64 i)]) (af := a157) (z := [.v (.string ByteArray.empty), .v (.string ByteArray.empty)]) rfl rfl (fun d => a157q ..) (by omega) (by decide) (fun d n acc => ?_) (fun pre x post res ha hp k => ?_)
  · rw [l157x0s]
    simp -implicitDefEqProofs only [cI, cB, cS, cL, oD_d, oG_g, oT_t, oP_p, dI_v, dB_v, dS_v, dL_s, cell_z, cell_s, nth_z, nth_s, aV_z, aV_s, aI_v, aB_v, aS_v, aL_f, aO_o, aX_b, tst_t, cond_true, cond_false, Ex.same, Nat.beq, List.length_cons, List.length_nil, Int.toNat_natCast, beqTT, beqTF, beqFT, beqFF, Int.lt_irrefl, decide_false]
  · have hwx := wt_mid (pre := pre) (x := x) (post := post)
    have hwr := wrap_succ hp hl.1
    subst ha
    have h := hl.mid
    have h' := h
    rw [E244] at h
    obtain ⟨sa0, ra0, rfl, pa0, h_a0⟩ := inv_s h
    obtain ⟨sa1, ra1, rfl, pa1, h_a1⟩ := inv_s h_a0
    cases inv_nil h_a1
    simp only [l157x0s]
    simp -implicitDefEqProofs only [cI, cB, cS, cL, oD_d, oG_g, oT_t, oP_p, dI_v, dB_v, dS_v, dL_s, cell_z, cell_s, nth_z, nth_s, aV_z, aV_s, aI_v, aB_v, aS_v, aL_f, aO_o, aX_b, tst_t, cond_true, cond_false, Ex.same, Nat.beq, List.length_cons, List.length_nil, Int.toNat_natCast, beqTT, beqTF, beqFT, beqFF, mid_lt, mid_lt', dec_nn, look_mid, hwr, Bool.and_self]
    simp only [wtRow, wtD] at hwx
    refine ev_call (f176 (by assumption) (by first | omega | (simp only [wtRow, wtD]; omega))) ?_
    simp -implicitDefEqProofs only [cI, cB, cS, cL, oD_d, oG_g, oT_t, oP_p, dI_v, dB_v, dS_v, dL_s, cell_z, cell_s, nth_z, nth_s, aV_z, aV_s, aI_v, aB_v, aS_v, aL_f, aO_o, aX_b, tst_t, cond_true, cond_false, Ex.same, Nat.beq, List.length_cons, List.length_nil, Int.toNat_natCast, beqTT, beqTF, beqFT, beqFF, mid_lt, mid_lt', dec_nn, hwr, Bool.and_self]
    simp only [setD_mid, List.set_cons_zero, List.set_cons_succ]
    exact k
/- loop.example/g00119/laws.toIsland -/
theorem f133 {row : Row} (h : ShL E (E 146) row) (hw : wtRow row ≤ 1048576) : Ev fs 133 [.g row] ⟨.g row, []⟩ := by
  rw [E146] at h
  obtain ⟨sa0, ra0, rfl, pa0, h_a0⟩ := inv_s h
  obtain ⟨la1, ra1, rfl, pa1, h_a1⟩ := inv_sl W244 h_a0
  obtain ⟨la2, ra2, rfl, pa2, h_a2⟩ := inv_sl W9 h_a1
  obtain ⟨na3, ra3, rfl, pa3, h_a3⟩ := inv_i h_a2
  cases inv_nil h_a3
  simp only [wtRow, wtD] at hw
  refine Ev.of (af := a133) rfl rfl (Evt.congr (fun d n => a133q ..) ?_)
  refine ev_call (f157 (by assumption) (by first | omega | (simp only [wtRow, wtD]; omega))) ?_
  simp -implicitDefEqProofs only [cI, cB, cS, cL, oD_d, oG_g, oT_t, oP_p, dI_v, dB_v, dS_v, dL_s, cell_z, cell_s, nth_z, nth_s, aV_z, aV_s, aI_v, aB_v, aS_v, aL_f, aO_o, aX_b, tst_t, cond_true, cond_false, Ex.same, Nat.beq, List.length_cons, List.length_nil, Int.toNat_natCast, beqTT, beqTF, beqFT, beqFF]
  refine ev_call (f56 (by assumption) (by first | omega | (simp only [wtRow, wtD]; omega))) ?_
  simp -implicitDefEqProofs only [cI, cB, cS, cL, oD_d, oG_g, oT_t, oP_p, dI_v, dB_v, dS_v, dL_s, cell_z, cell_s, nth_z, nth_s, aV_z, aV_s, aI_v, aB_v, aS_v, aL_f, aO_o, aX_b, tst_t, cond_true, cond_false, Ex.same, Nat.beq, List.length_cons, List.length_nil, Int.toNat_natCast, beqTT, beqTF, beqFT, beqFF]
  exact Evt.ret
/- loop.example/g00119/laws.toPost -/
theorem f99 {row : Row} (h : ShL E (E 148) row) (hw : wtRow row ≤ 1048576) : Ev fs 99 [.g row] ⟨.g row, []⟩ := by
  rw [E148] at h
  obtain ⟨sa0, ra0, rfl, pa0, h_a0⟩ := inv_s h
  obtain ⟨la1, ra1, rfl, pa1, h_a1⟩ := inv_sl W244 h_a0
  obtain ⟨la2, ra2, rfl, pa2, h_a2⟩ := inv_sl W9 h_a1
  obtain ⟨na3, ra3, rfl, pa3, h_a3⟩ := inv_i h_a2
  obtain ⟨na4, ra4, rfl, pa4, h_a4⟩ := inv_i h_a3
  obtain ⟨na5, ra5, rfl, pa5, h_a5⟩ := inv_i h_a4
  cases inv_nil h_a5
  simp only [wtRow, wtD] at hw
  refine Ev.of (af := a99) rfl rfl (Evt.congr (fun d n => a99q ..) ?_)
  refine ev_call (f133 (by rw [E146]; exact mk_s (by assumption) (mk_sl W244 (by assumption) (mk_sl W9 (by assumption) (mk_i (by assumption) (ShL.nil))))) (by first | omega | (simp only [wtRow, wtD]; omega))) ?_
  simp -implicitDefEqProofs only [cI, cB, cS, cL, oD_d, oG_g, oT_t, oP_p, dI_v, dB_v, dS_v, dL_s, cell_z, cell_s, nth_z, nth_s, aV_z, aV_s, aI_v, aB_v, aS_v, aL_f, aO_o, aX_b, tst_t, cond_true, cond_false, Ex.same, Nat.beq, List.length_cons, List.length_nil, Int.toNat_natCast, beqTT, beqTF, beqFT, beqFF]
  exact Evt.ret
/- loop.example/g00119/laws.toPostS -/
theorem f54 {l : Rows} (hl : SL E 148 l) (hw : l.length + wtRows l ≤ 1048576) : Ev fs 54 [.d (.s 6 l)] ⟨.d (.s 6 l), []⟩ := by
  refine to_rows (fun d n acc i => l54x0 (TabD fs d) d n [.fz 6 l, .o 6 acc, .v (.int .i64 i)]) (af := a54) (z := [.v (.string ByteArray.empty), .s 2 [], .s 1 [], .v (.int .i64 0), .v (.int .i64 0), .v (.int .i64 0)]) rfl rfl (fun d => a54q ..) (by omega) (by decide) (fun d n acc => ?_) (fun pre x post res ha hp k => ?_)
  · rw [l54x0s]
    simp -implicitDefEqProofs only [cI, cB, cS, cL, oD_d, oG_g, oT_t, oP_p, dI_v, dB_v, dS_v, dL_s, cell_z, cell_s, nth_z, nth_s, aV_z, aV_s, aI_v, aB_v, aS_v, aL_f, aO_o, aX_b, tst_t, cond_true, cond_false, Ex.same, Nat.beq, List.length_cons, List.length_nil, Int.toNat_natCast, beqTT, beqTF, beqFT, beqFF, Int.lt_irrefl, decide_false]
  · have hwx := wt_mid (pre := pre) (x := x) (post := post)
    have hwr := wrap_succ hp hl.1
    subst ha
    have h := hl.mid
    have h' := h
    rw [E148] at h
    obtain ⟨sa0, ra0, rfl, pa0, h_a0⟩ := inv_s h
    obtain ⟨la1, ra1, rfl, pa1, h_a1⟩ := inv_sl W244 h_a0
    obtain ⟨la2, ra2, rfl, pa2, h_a2⟩ := inv_sl W9 h_a1
    obtain ⟨na3, ra3, rfl, pa3, h_a3⟩ := inv_i h_a2
    obtain ⟨na4, ra4, rfl, pa4, h_a4⟩ := inv_i h_a3
    obtain ⟨na5, ra5, rfl, pa5, h_a5⟩ := inv_i h_a4
    cases inv_nil h_a5
    simp only [l54x0s]
    simp -implicitDefEqProofs only [cI, cB, cS, cL, oD_d, oG_g, oT_t, oP_p, dI_v, dB_v, dS_v, dL_s, cell_z, cell_s, nth_z, nth_s, aV_z, aV_s, aI_v, aB_v, aS_v, aL_f, aO_o, aX_b, tst_t, cond_true, cond_false, Ex.same, Nat.beq, List.length_cons, List.length_nil, Int.toNat_natCast, beqTT, beqTF, beqFT, beqFF, mid_lt, mid_lt', dec_nn, look_mid, hwr, Bool.and_self]
    simp only [wtRow, wtD] at hwx
    refine ev_call (f99 (by assumption) (by first | omega | (simp only [wtRow, wtD]; omega))) ?_
    simp -implicitDefEqProofs only [cI, cB, cS, cL, oD_d, oG_g, oT_t, oP_p, dI_v, dB_v, dS_v, dL_s, cell_z, cell_s, nth_z, nth_s, aV_z, aV_s, aI_v, aB_v, aS_v, aL_f, aO_o, aX_b, tst_t, cond_true, cond_false, Ex.same, Nat.beq, List.length_cons, List.length_nil, Int.toNat_natCast, beqTT, beqTF, beqFT, beqFF, mid_lt, mid_lt', dec_nn, hwr, Bool.and_self]
    simp only [setD_mid, List.set_cons_zero, List.set_cons_succ]
    exact k
/- loop.example/g00119/laws.toHold -/
theorem f100 {row : Row} (h : ShL E (E 150) row) (hw : wtRow row ≤ 1048576) : Ev fs 100 [.g row] ⟨.g row, []⟩ := by
  rw [E150] at h
  obtain ⟨na0, ra0, rfl, pa0, h_a0⟩ := inv_i h
  obtain ⟨sa1, ra1, rfl, pa1, h_a1⟩ := inv_s h_a0
  obtain ⟨na2, ra2, rfl, pa2, h_a2⟩ := inv_i h_a1
  obtain ⟨na3, ra3, rfl, pa3, h_a3⟩ := inv_i h_a2
  obtain ⟨na4, ra4, rfl, pa4, h_a4⟩ := inv_i h_a3
  cases inv_nil h_a4
  simp only [wtRow, wtD] at hw
  refine Ev.of (af := a100) rfl rfl (Evt.congr (fun d n => a100q ..) ?_)
  exact Evt.ret
/- loop.example/g00119/laws.toHoldS -/
theorem f55 {l : Rows} (hl : SL E 150 l) (hw : l.length + wtRows l ≤ 1048576) : Ev fs 55 [.d (.s 5 l)] ⟨.d (.s 5 l), []⟩ := by
  refine to_rows (fun d n acc i => l55x0 (TabD fs d) d n [.fz 5 l, .o 5 acc, .v (.int .i64 i)]) (af := a55) (z := [.v (.int .i64 0), .v (.string ByteArray.empty), .v (.int .i64 0), .v (.int .i64 0), .v (.int .i64 0)]) rfl rfl (fun d => a55q ..) (by omega) (by decide) (fun d n acc => ?_) (fun pre x post res ha hp k => ?_)
  · rw [l55x0s]
    simp -implicitDefEqProofs only [cI, cB, cS, cL, oD_d, oG_g, oT_t, oP_p, dI_v, dB_v, dS_v, dL_s, cell_z, cell_s, nth_z, nth_s, aV_z, aV_s, aI_v, aB_v, aS_v, aL_f, aO_o, aX_b, tst_t, cond_true, cond_false, Ex.same, Nat.beq, List.length_cons, List.length_nil, Int.toNat_natCast, beqTT, beqTF, beqFT, beqFF, Int.lt_irrefl, decide_false]
  · have hwx := wt_mid (pre := pre) (x := x) (post := post)
    have hwr := wrap_succ hp hl.1
    subst ha
    have h := hl.mid
    have h' := h
    rw [E150] at h
    obtain ⟨na0, ra0, rfl, pa0, h_a0⟩ := inv_i h
    obtain ⟨sa1, ra1, rfl, pa1, h_a1⟩ := inv_s h_a0
    obtain ⟨na2, ra2, rfl, pa2, h_a2⟩ := inv_i h_a1
    obtain ⟨na3, ra3, rfl, pa3, h_a3⟩ := inv_i h_a2
    obtain ⟨na4, ra4, rfl, pa4, h_a4⟩ := inv_i h_a3
    cases inv_nil h_a4
    simp only [l55x0s]
    simp -implicitDefEqProofs only [cI, cB, cS, cL, oD_d, oG_g, oT_t, oP_p, dI_v, dB_v, dS_v, dL_s, cell_z, cell_s, nth_z, nth_s, aV_z, aV_s, aI_v, aB_v, aS_v, aL_f, aO_o, aX_b, tst_t, cond_true, cond_false, Ex.same, Nat.beq, List.length_cons, List.length_nil, Int.toNat_natCast, beqTT, beqTF, beqFT, beqFF, mid_lt, mid_lt', dec_nn, look_mid, hwr, Bool.and_self]
    simp only [wtRow, wtD] at hwx
    refine ev_call (f100 (by assumption) (by first | omega | (simp only [wtRow, wtD]; omega))) ?_
    simp -implicitDefEqProofs only [cI, cB, cS, cL, oD_d, oG_g, oT_t, oP_p, dI_v, dB_v, dS_v, dL_s, cell_z, cell_s, nth_z, nth_s, aV_z, aV_s, aI_v, aB_v, aS_v, aL_f, aO_o, aX_b, tst_t, cond_true, cond_false, Ex.same, Nat.beq, List.length_cons, List.length_nil, Int.toNat_natCast, beqTT, beqTF, beqFT, beqFF, mid_lt, mid_lt', dec_nn, hwr, Bool.and_self]
    simp only [setD_mid, List.set_cons_zero, List.set_cons_succ]
    exact k
/- loop.example/g00119/laws.toHub -/
theorem f20 {row : Row} (h : ShL E (E 50) row) (hw : wtRow row ≤ 1048576) : Ev fs 20 [.g row] ⟨.g row, []⟩ := by
  rw [E50] at h
  obtain ⟨na0, ra0, rfl, pa0, h_a0⟩ := inv_i h
  obtain ⟨na1, ra1, rfl, pa1, h_a1⟩ := inv_i h_a0
  obtain ⟨na2, ra2, rfl, pa2, h_a2⟩ := inv_i h_a1
  obtain ⟨la3, ra3, rfl, pa3, h_a3⟩ := inv_sl W142 h_a2
  obtain ⟨la4, ra4, rfl, pa4, h_a4⟩ := inv_sl W148 h_a3
  obtain ⟨la5, ra5, rfl, pa5, h_a5⟩ := inv_sl W150 h_a4
  obtain ⟨la6, ra6, rfl, pa6, h_a6⟩ := inv_sl W9 h_a5
  cases inv_nil h_a6
  simp only [wtRow, wtD] at hw
  refine Ev.of (af := a20) rfl rfl (Evt.congr (fun d n => a20q ..) ?_)
  refine ev_call (f53 (by assumption) (by first | omega | (simp only [wtRow, wtD]; omega))) ?_
  simp -implicitDefEqProofs only [cI, cB, cS, cL, oD_d, oG_g, oT_t, oP_p, dI_v, dB_v, dS_v, dL_s, cell_z, cell_s, nth_z, nth_s, aV_z, aV_s, aI_v, aB_v, aS_v, aL_f, aO_o, aX_b, tst_t, cond_true, cond_false, Ex.same, Nat.beq, List.length_cons, List.length_nil, Int.toNat_natCast, beqTT, beqTF, beqFT, beqFF]
  refine ev_call (f54 (by assumption) (by first | omega | (simp only [wtRow, wtD]; omega))) ?_
  simp -implicitDefEqProofs only [cI, cB, cS, cL, oD_d, oG_g, oT_t, oP_p, dI_v, dB_v, dS_v, dL_s, cell_z, cell_s, nth_z, nth_s, aV_z, aV_s, aI_v, aB_v, aS_v, aL_f, aO_o, aX_b, tst_t, cond_true, cond_false, Ex.same, Nat.beq, List.length_cons, List.length_nil, Int.toNat_natCast, beqTT, beqTF, beqFT, beqFF]
  refine ev_call (f55 (by assumption) (by first | omega | (simp only [wtRow, wtD]; omega))) ?_
  simp -implicitDefEqProofs only [cI, cB, cS, cL, oD_d, oG_g, oT_t, oP_p, dI_v, dB_v, dS_v, dL_s, cell_z, cell_s, nth_z, nth_s, aV_z, aV_s, aI_v, aB_v, aS_v, aL_f, aO_o, aX_b, tst_t, cond_true, cond_false, Ex.same, Nat.beq, List.length_cons, List.length_nil, Int.toNat_natCast, beqTT, beqTF, beqFT, beqFF]
  refine ev_call (f56 (by assumption) (by first | omega | (simp only [wtRow, wtD]; omega))) ?_
  simp -implicitDefEqProofs only [cI, cB, cS, cL, oD_d, oG_g, oT_t, oP_p, dI_v, dB_v, dS_v, dL_s, cell_z, cell_s, nth_z, nth_s, aV_z, aV_s, aI_v, aB_v, aS_v, aL_f, aO_o, aX_b, tst_t, cond_true, cond_false, Ex.same, Nat.beq, List.length_cons, List.length_nil, Int.toNat_natCast, beqTT, beqTF, beqFT, beqFF]
  exact Evt.ret
end Go.Am.Sp
