/- What the functions of one family say in the end. Nothing is assumed. -/
import Derived.Test.YtapjklbchbgiaaaAsH
namespace Go.Am.As
set_option linter.unusedVariables false
set_option linter.unusedSimpArgs false
set_option maxRecDepth 8000
/- loop.example/g00119/laws.toStringS -/
theorem f56 {l : Rows} (hl : SL E 9 l) (hw : l.length + wtRows l ≤ 1048576) : Ev fs 56 [.d (.s 1 l)] ⟨.d (.s 1 l), []⟩ := by
  refine to_rows (fun d n acc i => l56x0 (TabD fs d) d n [.fz 1 l, .o 1 acc, .v (.int .i64 i)]) (af := a56) (z := [.v (.string ByteArray.empty)]) rfl rfl (fun d => a56q ..) (by omega) (by decide) (fun d n acc => ?_) (fun pre x post res ha hp k => ?_)
  · rw [l56x0s]
    simp -implicitDefEqProofs only [cI, cB, cS, cL, oD_d, oG_g, oT_t, oP_p, dI_v, dB_v, dS_v, dL_s, cell_z, cell_s, nth_z, nth_s, aV_z, aV_s, aI_v, aB_v, aS_v, aL_f, aO_o, aX_b, tst_t, cond_true, cond_false, Ex.same, Nat.beq, List.length_cons, List.length_nil, Int.toNat_natCast, beqTT, beqTF, beqFT, beqFF, Int.lt_irrefl, decide_false]
  · have hwx := wt_mid (pre := pre) (x := x) (post := post)
    have hwr := wrap_succ hp hl.1
    subst ha
    have h := hl.mid
    have h' := h
    rw [E9] at h
    obtain ⟨sa0, ra0, rfl, pa0, h_a0⟩ := inv_s h
    cases inv_nil h_a0
    simp only [l56x0s]
    simp -implicitDefEqProofs only [cI, cB, cS, cL, oD_d, oG_g, oT_t, oP_p, dI_v, dB_v, dS_v, dL_s, cell_z, cell_s, nth_z, nth_s, aV_z, aV_s, aI_v, aB_v, aS_v, aL_f, aO_o, aX_b, tst_t, cond_true, cond_false, Ex.same, Nat.beq, List.length_cons, List.length_nil, Int.toNat_natCast, beqTT, beqTF, beqFT, beqFF, mid_lt, mid_lt', dec_nn, look_mid, hwr, Bool.and_self]
    simp only [wtRow, wtD] at hwx
    simp only [setD_mid, List.set_cons_zero, List.set_cons_succ]
    exact k
/- loop.example/g00119/laws.toValueS -/
mutual
theorem fr124 {row : Row} (h : ShL E (E 112) row) (hw : wtRow row ≤ 1048576) (W : Nat) (hW : 2 * wtRow row + 1 = W) : Ev fs 124 [.g row] ⟨.g row, []⟩ := by
  rw [E112] at h
  obtain ⟨na0, ra0, rfl, pa0, h_a0⟩ := inv_i h
  obtain ⟨sa1, ra1, rfl, pa1, h_a1⟩ := inv_s h_a0
  obtain ⟨na2, ra2, rfl, pa2, h_a2⟩ := inv_i h_a1
  obtain ⟨la3, ra3, rfl, pa3, h_a3⟩ := inv_sl W9 h_a2
  obtain ⟨la4, ra4, rfl, pa4, h_a4⟩ := inv_sl W112 h_a3
  cases inv_nil h_a4
  simp only [wtRow, wtD] at hw
  refine Ev.of (af := a124) rfl rfl (Evt.congr (fun d n => a124q ..) ?_)
  refine ev_call (f56 (by assumption) (by first | omega | (simp only [wtRow, wtD]; omega))) ?_
  simp -implicitDefEqProofs only [cI, cB, cS, cL, oD_d, oG_g, oT_t, oP_p, dI_v, dB_v, dS_v, dL_s, cell_z, cell_s, nth_z, nth_s, aV_z, aV_s, aI_v, aB_v, aS_v, aL_f, aO_o, aX_b, tst_t, cond_true, cond_false, Ex.same, Nat.beq, List.length_cons, List.length_nil, Int.toNat_natCast, beqTT, beqTF, beqFT, beqFF]
  refine ev_call (fr146 (by assumption) (by first | omega | (simp only [wtRow, wtD]; omega)) _ rfl) ?_
  simp -implicitDefEqProofs only [cI, cB, cS, cL, oD_d, oG_g, oT_t, oP_p, dI_v, dB_v, dS_v, dL_s, cell_z, cell_s, nth_z, nth_s, aV_z, aV_s, aI_v, aB_v, aS_v, aL_f, aO_o, aX_b, tst_t, cond_true, cond_false, Ex.same, Nat.beq, List.length_cons, List.length_nil, Int.toNat_natCast, beqTT, beqTF, beqFT, beqFF]
  exact Evt.ret
termination_by W
decreasing_by all_goals (try have := hwx); (try simp only [wtRow, wtD] at *); omega
theorem fr146 {l : Rows} (hl : SL E 112 l) (hw : l.length + wtRows l ≤ 1048576) (W : Nat) (hW : 2 * (l.length + wtRows l) = W) : Ev fs 146 [.d (.s 5 l)] ⟨.d (.s 5 l), []⟩ := by
  refine to_rows (fun d n acc i => l146x0 (TabD fs d) d n [.fz 5 l, .o 5 acc, .v (.int .i64 i)]) (af := a146) (z := [.v (.int .i64 0), .v (.string ByteArray.empty), .v (.int .i64 0), .s 1 [], .s 5 []]) rfl rfl (fun d => a146q ..) (by omega) (by decide) (fun d n acc => ?_) (fun pre x post res ha hp k => ?_)
  · rw [l146x0s]
    simp -implicitDefEqProofs only [cI, cB, cS, cL, oD_d, oG_g, oT_t, oP_p, dI_v, dB_v, dS_v, dL_s, cell_z, cell_s, nth_z, nth_s, aV_z, aV_s, aI_v, aB_v, aS_v, aL_f, aO_o, aX_b, tst_t, cond_true, cond_false, Ex.same, Nat.beq, List.length_cons, List.length_nil, Int.toNat_natCast, beqTT, beqTF, beqFT, beqFF, Int.lt_irrefl, decide_false]
  · have hwx := wt_mid (pre := pre) (x := x) (post := post)
    have hwr := wrap_succ hp hl.1
    subst ha
    have h := hl.mid
    have h' := h
    rw [E112] at h
    obtain ⟨na0, ra0, rfl, pa0, h_a0⟩ := inv_i h
    obtain ⟨sa1, ra1, rfl, pa1, h_a1⟩ := inv_s h_a0
    obtain ⟨na2, ra2, rfl, pa2, h_a2⟩ := inv_i h_a1
    obtain ⟨la3, ra3, rfl, pa3, h_a3⟩ := inv_sl W9 h_a2
    obtain ⟨la4, ra4, rfl, pa4, h_a4⟩ := inv_sl W112 h_a3
    cases inv_nil h_a4
    simp only [l146x0s]
    simp -implicitDefEqProofs only [cI, cB, cS, cL, oD_d, oG_g, oT_t, oP_p, dI_v, dB_v, dS_v, dL_s, cell_z, cell_s, nth_z, nth_s, aV_z, aV_s, aI_v, aB_v, aS_v, aL_f, aO_o, aX_b, tst_t, cond_true, cond_false, Ex.same, Nat.beq, List.length_cons, List.length_nil, Int.toNat_natCast, beqTT, beqTF, beqFT, beqFF, mid_lt, mid_lt', dec_nn, look_mid, hwr, Bool.and_self]
    simp only [wtRow, wtD] at hwx
    refine ev_call (fr124 (by assumption) (by first | omega | (simp only [wtRow, wtD]; omega)) _ rfl) ?_
    simp -implicitDefEqProofs only [cI, cB, cS, cL, oD_d, oG_g, oT_t, oP_p, dI_v, dB_v, dS_v, dL_s, cell_z, cell_s, nth_z, nth_s, aV_z, aV_s, aI_v, aB_v, aS_v, aL_f, aO_o, aX_b, tst_t, cond_true, cond_false, Ex.same, Nat.beq, List.length_cons, List.length_nil, Int.toNat_natCast, beqTT, beqTF, beqFT, beqFF, mid_lt, mid_lt', dec_nn, hwr, Bool.and_self]
    simp only [setD_mid, List.set_cons_zero, List.set_cons_succ]
    exact k
termination_by W
decreasing_by all_goals (try have := hwx); (try simp only [wtRow, wtD] at *); omega
end
theorem f124 {row : Row} (h : ShL E (E 112) row) (hw : wtRow row ≤ 1048576) : Ev fs 124 [.g row] ⟨.g row, []⟩ := fr124 h hw _ rfl
theorem f146 {l : Rows} (hl : SL E 112 l) (hw : l.length + wtRows l ≤ 1048576) : Ev fs 146 [.d (.s 5 l)] ⟨.d (.s 5 l), []⟩ := fr146 hl hw _ rfl
/- loop.example/g00119/laws.toWork -/
theorem f82 {row : Row} (h : ShL E (E 114) row) (hw : wtRow row ≤ 1048576) : Ev fs 82 [.g row] ⟨.g row, []⟩ := by
  rw [E114] at h
  obtain ⟨na0, ra0, rfl, pa0, h_a0⟩ := inv_i h
  obtain ⟨na1, ra1, rfl, pa1, h_a1⟩ := inv_i h_a0
  obtain ⟨na2, ra2, rfl, pa2, h_a2⟩ := inv_i h_a1
  obtain ⟨sa3, ra3, rfl, pa3, h_a3⟩ := inv_s h_a2
  obtain ⟨na4, ra4, rfl, pa4, h_a4⟩ := inv_i h_a3
  obtain ⟨la5, ra5, rfl, pa5, h_a5⟩ := inv_sl W9 h_a4
  obtain ⟨la6, ra6, rfl, pa6, h_a6⟩ := inv_sl W112 h_a5
  cases inv_nil h_a6
  simp only [wtRow, wtD] at hw
  refine Ev.of (af := a82) rfl rfl (Evt.congr (fun d n => a82q ..) ?_)
  refine ev_call (f124 (by rw [E112]; exact mk_i (by assumption) (mk_s (by assumption) (mk_i (by assumption) (mk_sl W9 (by assumption) (mk_sl W112 (by assumption) (ShL.nil)))))) (by first | omega | (simp only [wtRow, wtD]; omega))) ?_
  simp -implicitDefEqProofs only [cI, cB, cS, cL, oD_d, oG_g, oT_t, oP_p, dI_v, dB_v, dS_v, dL_s, cell_z, cell_s, nth_z, nth_s, aV_z, aV_s, aI_v, aB_v, aS_v, aL_f, aO_o, aX_b, tst_t, cond_true, cond_false, Ex.same, Nat.beq, List.length_cons, List.length_nil, Int.toNat_natCast, beqTT, beqTF, beqFT, beqFF]
  exact Evt.ret
/- loop.example/g00119/laws.toWorkS -/
theorem f37 {l : Rows} (hl : SL E 114 l) (hw : l.length + wtRows l ≤ 1048576) : Ev fs 37 [.d (.s 7 l)] ⟨.d (.s 7 l), []⟩ := by
  refine to_rows (fun d n acc i => l37x0 (TabD fs d) d n [.fz 7 l, .o 7 acc, .v (.int .i64 i)]) (af := a37) (z := [.v (.int .i64 0), .v (.int .i64 0), .v (.int .i64 0), .v (.string ByteArray.empty), .v (.int .i64 0), .s 1 [], .s 5 []]) rfl rfl (fun d => a37q ..) (by omega) (by decide) (fun d n acc => ?_) (fun pre x post res ha hp k => ?_)
  · rw [l37x0s]
    simp -implicitDefEqProofs only [cI, cB, cS, cL, oD_d, oG_g, oT_t, oP_p, dI_v, dB_v, dS_v, dL_s, cell_z, cell_s, nth_z, nth_s, aV_z, aV_s, aI_v, aB_v, aS_v, aL_f, aO_o, aX_b, tst_t, cond_true, cond_false, Ex.same, Nat.beq, List.length_cons, List.length_nil, Int.toNat_natCast, beqTT, beqTF, beqFT, beqFF, Int.lt_irrefl, decide_false]
  · have hwx := wt_mid (pre := pre) (x := x) (post := post)
    have hwr := wrap_succ hp hl.1
    subst ha
    have h := hl.mid
    have h' := h
    rw [E114] at h
    obtain ⟨na0, ra0, rfl, pa0, h_a0⟩ := inv_i h
    obtain ⟨na1, ra1, rfl, pa1, h_a1⟩ := inv_i h_a0
    obtain ⟨na2, ra2, rfl, pa2, h_a2⟩ := inv_i h_a1
    obtain ⟨sa3, ra3, rfl, pa3, h_a3⟩ := inv_s h_a2
    obtain ⟨na4, ra4, rfl, pa4, h_a4⟩ := inv_i h_a3
    obtain ⟨la5, ra5, rfl, pa5, h_a5⟩ := inv_sl W9 h_a4
    obtain ⟨la6, ra6, rfl, pa6, h_a6⟩ := inv_sl W112 h_a5
    cases inv_nil h_a6
    simp only [l37x0s]
    simp -implicitDefEqProofs only [cI, cB, cS, cL, oD_d, oG_g, oT_t, oP_p, dI_v, dB_v, dS_v, dL_s, cell_z, cell_s, nth_z, nth_s, aV_z, aV_s, aI_v, aB_v, aS_v, aL_f, aO_o, aX_b, tst_t, cond_true, cond_false, Ex.same, Nat.beq, List.length_cons, List.length_nil, Int.toNat_natCast, beqTT, beqTF, beqFT, beqFF, mid_lt, mid_lt', dec_nn, look_mid, hwr, Bool.and_self]
    simp only [wtRow, wtD] at hwx
    refine ev_call (f82 (by assumption) (by first | omega | (simp only [wtRow, wtD]; omega))) ?_
    simp -implicitDefEqProofs only [cI, cB, cS, cL, oD_d, oG_g, oT_t, oP_p, dI_v, dB_v, dS_v, dL_s, cell_z, cell_s, nth_z, nth_s, aV_z, aV_s, aI_v, aB_v, aS_v, aL_f, aO_o, aX_b, tst_t, cond_true, cond_false, Ex.same, Nat.beq, List.length_cons, List.length_nil, Int.toNat_natCast, beqTT, beqTF, beqFT, beqFF, mid_lt, mid_lt', dec_nn, hwr, Bool.and_self]
    simp only [setD_mid, List.set_cons_zero, List.set_cons_succ]
    exact k
/- loop.example/g00119/laws.toRun -/
theorem f83 {row : Row} (h : ShL E (E 129) row) (hw : wtRow row ≤ 1048576) : Ev fs 83 [.g row] ⟨.g row, []⟩ := by
  rw [E129] at h
  obtain ⟨na0, ra0, rfl, pa0, h_a0⟩ := inv_i h
  obtain ⟨na1, ra1, rfl, pa1, h_a1⟩ := inv_i h_a0
  cases inv_nil h_a1
  refine Ev.of (af := a83) rfl rfl (Evt.congr (fun d n => a83q ..) ?_)
  exact Evt.ret
/- loop.example/g00119/laws.toRunS -/
theorem f38 {l : Rows} (hl : SL E 129 l) (hw : l.length + wtRows l ≤ 1048576) : Ev fs 38 [.d (.s 2 l)] ⟨.d (.s 2 l), []⟩ := by
  refine to_rows (fun d n acc i => l38x0 (TabD fs d) d n [.fz 2 l, .o 2 acc, .v (.int .i64 i)]) (af := a38) (z := [.v (.int .i64 0), .v (.int .i64 0)]) rfl rfl (fun d => a38q ..) (by omega) (by decide) (fun d n acc => ?_) (fun pre x post res ha hp k => ?_)
  · rw [l38x0s]
    simp -implicitDefEqProofs only [cI, cB, cS, cL, oD_d, oG_g, oT_t, oP_p, dI_v, dB_v, dS_v, dL_s, cell_z, cell_s, nth_z, nth_s, aV_z, aV_s, aI_v, aB_v, aS_v, aL_f, aO_o, aX_b, tst_t, cond_true, cond_false, Ex.same, Nat.beq, List.length_cons, List.length_nil, Int.toNat_natCast, beqTT, beqTF, beqFT, beqFF, Int.lt_irrefl, decide_false]
  · have hwx := wt_mid (pre := pre) (x := x) (post := post)
    have hwr := wrap_succ hp hl.1
    subst ha
    have h := hl.mid
    have h' := h
    rw [E129] at h
    obtain ⟨na0, ra0, rfl, pa0, h_a0⟩ := inv_i h
    obtain ⟨na1, ra1, rfl, pa1, h_a1⟩ := inv_i h_a0
    cases inv_nil h_a1
    simp only [l38x0s]
    simp -implicitDefEqProofs only [cI, cB, cS, cL, oD_d, oG_g, oT_t, oP_p, dI_v, dB_v, dS_v, dL_s, cell_z, cell_s, nth_z, nth_s, aV_z, aV_s, aI_v, aB_v, aS_v, aL_f, aO_o, aX_b, tst_t, cond_true, cond_false, Ex.same, Nat.beq, List.length_cons, List.length_nil, Int.toNat_natCast, beqTT, beqTF, beqFT, beqFF, mid_lt, mid_lt', dec_nn, look_mid, hwr, Bool.and_self]
    simp only [wtRow, wtD] at hwx
    refine ev_call (f83 (by assumption) (by first | omega | (simp only [wtRow, wtD]; omega))) ?_
    simp -implicitDefEqProofs only [cI, cB, cS, cL, oD_d, oG_g, oT_t, oP_p, dI_v, dB_v, dS_v, dL_s, cell_z, cell_s, nth_z, nth_s, aV_z, aV_s, aI_v, aB_v, aS_v, aL_f, aO_o, aX_b, tst_t, cond_true, cond_false, Ex.same, Nat.beq, List.length_cons, List.length_nil, Int.toNat_natCast, beqTT, beqTF, beqFT, beqFF, mid_lt, mid_lt', dec_nn, hwr, Bool.and_self]
    simp only [setD_mid, List.set_cons_zero, List.set_cons_succ]
    exact k
/- loop.example/g00119/laws.toIsle -/
theorem f10 {row : Row} (h : ShL E (E 25) row) (hw : wtRow row ≤ 1048576) : Ev fs 10 [.g row] ⟨.g row, []⟩ := by
  rw [E25] at h
  obtain ⟨sa0, ra0, rfl, pa0, h_a0⟩ := inv_s h
  obtain ⟨na1, ra1, rfl, pa1, h_a1⟩ := inv_i h_a0
  obtain ⟨na2, ra2, rfl, pa2, h_a2⟩ := inv_i h_a1
  obtain ⟨la3, ra3, rfl, pa3, h_a3⟩ := inv_sl W114 h_a2
  obtain ⟨la4, ra4, rfl, pa4, h_a4⟩ := inv_sl W129 h_a3
  cases inv_nil h_a4
  simp only [wtRow, wtD] at hw
  refine Ev.of (af := a10) rfl rfl (Evt.congr (fun d n => a10q ..) ?_)
  refine ev_call (f37 (by assumption) (by first | omega | (simp only [wtRow, wtD]; omega))) ?_
  simp -implicitDefEqProofs only [cI, cB, cS, cL, oD_d, oG_g, oT_t, oP_p, dI_v, dB_v, dS_v, dL_s, cell_z, cell_s, nth_z, nth_s, aV_z, aV_s, aI_v, aB_v, aS_v, aL_f, aO_o, aX_b, tst_t, cond_true, cond_false, Ex.same, Nat.beq, List.length_cons, List.length_nil, Int.toNat_natCast, beqTT, beqTF, beqFT, beqFF]
  refine ev_call (f38 (by assumption) (by first | omega | (simp only [wtRow, wtD]; omega))) ?_
  simp -implicitDefEqProofs only [cI, cB, cS, cL, oD_d, oG_g, oT_t, oP_p, dI_v, dB_v, dS_v, dL_s, cell_z, cell_s, nth_z, nth_s, aV_z, aV_s, aI_v, aB_v, aS_v, aL_f, aO_o, aX_b, tst_t, cond_true, cond_false, Ex.same, Nat.beq, List.length_cons, List.length_nil, Int.toNat_natCast, beqTT, beqTF, beqFT, beqFF]
  exact Evt.ret
end Go.Am.As
