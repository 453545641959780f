/- What the functions of one family say in the end. Nothing is assumed. -/
import Derived.Test.YtapjklbchbgiaaaGreatIsH
namespace Go.Am.Is
set_option linter.unusedVariables false
set_option linter.unusedSimpArgs false
set_option maxRecDepth 8000
/- loop.example/g00119/laws.toStringS -/
theorem f56 {l : Rows} (hl : SL E 9 l) (hw : l.length + wtRows l ≤ 1048576) : Ev fs 56 [.d (.s 1 l)] ⟨.d (.s 1 l), []⟩ := by
  refine to_rows (fun d n acc i => l56x0 (TabD fs d) d n [.fz 1 l, .o 1 acc, .v (.int .i64 i)]) (af := a56) (z := [.v (.string ByteArray.empty)]) rfl rfl (fun d => a56q ..) (by omega) (by decide) (fun d n acc => ?_) (fun pre x post res ha hp k => ?_)
  · rw [l56x0s]
    simp -implicitDefEqProofs only [cI, cB, cS, cL, oD_d, oG_g, oT_t, oP_p, dI_v, dB_v, dS_v, dL_s, cell_z, cell_s, nth_z, nth_s, aV_z, aV_s, aI_v, aB_v, aS_v, aL_f, aO_o, aX_b, tst_t, cond_true, cond_false, Ex.same, Nat.beq, List.length_cons, List.length_nil, Int.toNat_natCast, beqTT, beqTF, beqFT, beqFF, Int.lt_irrefl, decide_false]
  · have hwx := wt_mid (pre := pre) (x := x) (post := post)
    have hwr := wrap_succ hp hl.1
    subst ha
    have h := hl.mid
    have h' := h
    rw [E9] at h
    obtain ⟨sa0, ra0, rfl, pa0, h_a0⟩ := inv_s h
    cases inv_nil h_a0
    simp only [l56x0s]
    simp -implicitDefEqProofs only [cI, cB, cS, cL, oD_d, oG_g, oT_t, oP_p, dI_v, dB_v, dS_v, dL_s, cell_z, cell_s, nth_z, nth_s, aV_z, aV_s, aI_v, aB_v, aS_v, aL_f, aO_o, aX_b, tst_t, cond_true, cond_false, Ex.same, Nat.beq, List.length_cons, List.length_nil, Int.toNat_natCast, beqTT, beqTF, beqFT, beqFF, mid_lt, mid_lt', dec_nn, look_mid, hwr, Bool.and_self]
    simp only [wtRow, wtD] at hwx
    simp only [setD_mid, List.set_cons_zero, List.set_cons_succ]
    exact k
/- loop.example/g00119/laws.toTerm -/
theorem f284 {row : Row} (h : ShL E (E 318) row) (hw : wtRow row ≤ 1048576) : Ev fs 284 [.g row] ⟨.g row, []⟩ := by
  rw [E318] at h
  obtain ⟨na0, ra0, rfl, pa0, h_a0⟩ := inv_i h
  obtain ⟨sa1, ra1, rfl, pa1, h_a1⟩ := inv_s h_a0
  obtain ⟨la2, ra2, rfl, pa2, h_a2⟩ := inv_sl W9 h_a1
  cases inv_nil h_a2
  simp only [wtRow, wtD] at hw
  refine Ev.of (af := a284) rfl rfl (Evt.congr (fun d n => a284q ..) ?_)
  refine ev_call (f56 (by assumption) (by first | omega | (simp only [wtRow, wtD]; omega))) ?_
  simp -implicitDefEqProofs only [cI, cB, cS, cL, oD_d, oG_g, oT_t, oP_p, dI_v, dB_v, dS_v, dL_s, cell_z, cell_s, nth_z, nth_s, aV_z, aV_s, aI_v, aB_v, aS_v, aL_f, aO_o, aX_b, tst_t, cond_true, cond_false, Ex.same, Nat.beq, List.length_cons, List.length_nil, Int.toNat_natCast, beqTT, beqTF, beqFT, beqFF]
  exact Evt.ret
/- loop.example/g00119/laws.toTermS -/
theorem f186 {l : Rows} (hl : SL E 318 l) (hw : l.length + wtRows l ≤ 1048576) : Ev fs 186 [.d (.s 3 l)] ⟨.d (.s 3 l), []⟩ := by
  refine to_rows (fun d n acc i => l186x0 (TabD fs d) d n [.fz 3 l, .o 3 acc, .v (.int .i64 i)]) (af := a186) (z := [.v (.int .i64 0), .v (.string ByteArray.empty), .s 1 []]) rfl rfl (fun d => a186q ..) (by omega) (by decide) (fun d n acc => ?_) (fun pre x post res ha hp k => ?_)
  · rw [l186x0s]
    simp -implicitDefEqProofs only [cI, cB, cS, cL, oD_d, oG_g, oT_t, oP_p, dI_v, dB_v, dS_v, dL_s, cell_z, cell_s, nth_z, nth_s, aV_z, aV_s, aI_v, aB_v, aS_v, aL_f, aO_o, aX_b, tst_t, cond_true, cond_false, Ex.same, Nat.beq, List.length_cons, List.length_nil, Int.toNat_natCast, beqTT, beqTF, beqFT, beqFF, Int.lt_irrefl, decide_false]
  · have hwx := wt_mid (pre := pre) (x := x) (post := post)
    have hwr := wrap_succ hp hl.1
    subst ha
    have h := hl.mid
    have h' := h
    rw [E318] at h
    obtain ⟨na0, ra0, rfl, pa0, h_a0⟩ := inv_i h
    obtain ⟨sa1, ra1, rfl, pa1, h_a1⟩ := inv_s h_a0
    obtain ⟨la2, ra2, rfl, pa2, h_a2⟩ := inv_sl W9 h_a1
    cases inv_nil h_a2
    simp only [l186x0s]
    simp -implicitDefEqProofs only [cI, cB, cS, cL, oD_d, oG_g, oT_t, oP_p, dI_v, dB_v, dS_v, dL_s, cell_z, cell_s, nth_z, nth_s, aV_z, aV_s, aI_v, aB_v, aS_v, aL_f, aO_o, aX_b, tst_t, cond_true, cond_false, Ex.same, Nat.beq, List.length_cons, List.length_nil, Int.toNat_natCast, beqTT, beqTF, beqFT, beqFF, mid_lt, mid_lt', dec_nn, look_mid, hwr, Bool.and_self]
    simp only [wtRow, wtD] at hwx
    refine ev_call (f284 (by assumption) (by first | omega | (simp only [wtRow, wtD]; omega))) ?_
    simp -implicitDefEqProofs only [cI, cB, cS, cL, oD_d, oG_g, oT_t, oP_p, dI_v, dB_v, dS_v, dL_s, cell_z, cell_s, nth_z, nth_s, aV_z, aV_s, aI_v, aB_v, aS_v, aL_f, aO_o, aX_b, tst_t, cond_true, cond_false, Ex.same, Nat.beq, List.length_cons, List.length_nil, Int.toNat_natCast, beqTT, beqTF, beqFT, beqFF, mid_lt, mid_lt', dec_nn, hwr, Bool.and_self]
    simp only [setD_mid, List.set_cons_zero, List.set_cons_succ]
    exact k
/- loop.example/g00119/laws.toWeigh -/
theorem f285 {row : Row} (h : ShL E (E 320) row) (hw : wtRow row ≤ 1048576) : Ev fs 285 [.g row] ⟨.g row, []⟩ := by
  rw [E320] at h
  obtain ⟨sa0, ra0, rfl, pa0, h_a0⟩ := inv_s h
  obtain ⟨na1, ra1, rfl, pa1, h_a1⟩ := inv_i h_a0
  cases inv_nil h_a1
  simp only [wtRow, wtD] at hw
  refine Ev.of (af := a285) rfl rfl (Evt.congr (fun d n => a285q ..) ?_)
  exact Evt.ret
/- loop.example/g00119/laws.toWeighS -/
theorem f187 {l : Rows} (hl : SL E 320 l) (hw : l.length + wtRows l ≤ 1048576) : Ev fs 187 [.d (.s 2 l)] ⟨.d (.s 2 l), []⟩ := by
  refine to_rows (fun d n acc i => l187x0 (TabD fs d) d n [.fz 2 l, .o 2 acc, .v (.int .i64 i)]) (af := a187) (z := [.v (.string ByteArray.empty), .v (.int .i64 0)]) rfl rfl (fun d => a187q ..) (by omega) (by decide) (fun d n acc => ?_) (fun pre x post res ha hp k => ?_)
  · rw [l187x0s]
    simp -implicitDefEqProofs only [cI, cB, cS, cL, oD_d, oG_g, oT_t, oP_p, dI_v, dB_v, dS_v, dL_s, cell_z, cell_s, nth_z, nth_s, aV_z, aV_s, aI_v, aB_v, aS_v, aL_f, aO_o, aX_b, tst_t, cond_true, cond_false, Ex.same, Nat.beq, List.length_cons, List.length_nil, Int.toNat_natCast, beqTT, beqTF, beqFT, beqFF, Int.lt_irrefl, decide_false]
  · have hwx := wt_mid (pre := pre) (x := x) (post := post)
    have hwr := wrap_succ hp hl.1
    subst ha
    have h := hl.mid
    have h' := h
    rw [E320] at h
    obtain ⟨sa0, ra0, rfl, pa0, h_a0⟩ := inv_s h
    obtain ⟨na1, ra1, rfl, pa1, h_a1⟩ := inv_i h_a0
    cases inv_nil h_a1
    simp only [l187x0s]
    simp -implicitDefEqProofs only [cI, cB, cS, cL, oD_d, oG_g, oT_t, oP_p, dI_v, dB_v, dS_v, dL_s, cell_z, cell_s, nth_z, nth_s, aV_z, aV_s, aI_v, aB_v, aS_v, aL_f, aO_o, aX_b, tst_t, cond_true, cond_false, Ex.same, Nat.beq, List.length_cons, List.length_nil, Int.toNat_natCast, beqTT, beqTF, beqFT, beqFF, mid_lt, mid_lt', dec_nn, look_mid, hwr, Bool.and_self]
    simp only [wtRow, wtD] at hwx
    refine ev_call (f285 (by assumption) (by first | omega | (simp only [wtRow, wtD]; omega))) ?_
    simp -implicitDefEqProofs only [cI, cB, cS, cL, oD_d, oG_g, oT_t, oP_p, dI_v, dB_v, dS_v, dL_s, cell_z, cell_s, nth_z, nth_s, aV_z, aV_s, aI_v, aB_v, aS_v, aL_f, aO_o, aX_b, tst_t, cond_true, cond_false, Ex.same, Nat.beq, List.length_cons, List.length_nil, Int.toNat_natCast, beqTT, beqTF, beqFT, beqFF, mid_lt, mid_lt', dec_nn, hwr, Bool.and_self]
    simp only [setD_mid, List.set_cons_zero, List.set_cons_succ]
    exact k
/- loop.example/g00119/laws.toWant -/
theorem f80 {row : Row} (h : ShL E (E 45) row) (hw : wtRow row ≤ 1048576) : Ev fs 80 [.g row] ⟨.g row, []⟩ := by
  rw [E45] at h
  obtain ⟨na0, ra0, rfl, pa0, h_a0⟩ := inv_i h
  obtain ⟨la1, ra1, rfl, pa1, h_a1⟩ := inv_sl W318 h_a0
  obtain ⟨la2, ra2, rfl, pa2, h_a2⟩ := inv_sl W9 h_a1
  obtain ⟨la3, ra3, rfl, pa3, h_a3⟩ := inv_sl W320 h_a2
  cases inv_nil h_a3
  simp only [wtRow, wtD] at hw
  refine Ev.of (af := a80) rfl rfl (Evt.congr (fun d n => a80q ..) ?_)
  refine ev_call (f186 (by assumption) (by first | omega | (simp only [wtRow, wtD]; omega))) ?_
  simp -implicitDefEqProofs only [cI, cB, cS, cL, oD_d, oG_g, oT_t, oP_p, dI_v, dB_v, dS_v, dL_s, cell_z, cell_s, nth_z, nth_s, aV_z, aV_s, aI_v, aB_v, aS_v, aL_f, aO_o, aX_b, tst_t, cond_true, cond_false, Ex.same, Nat.beq, List.length_cons, List.length_nil, Int.toNat_natCast, beqTT, beqTF, beqFT, beqFF]
  refine ev_call (f56 (by assumption) (by first | omega | (simp only [wtRow, wtD]; omega))) ?_
  simp -implicitDefEqProofs only [cI, cB, cS, cL, oD_d, oG_g, oT_t, oP_p, dI_v, dB_v, dS_v, dL_s, cell_z, cell_s, nth_z, nth_s, aV_z, aV_s, aI_v, aB_v, aS_v, aL_f, aO_o, aX_b, tst_t, cond_true, cond_false, Ex.same, Nat.beq, List.length_cons, List.length_nil, Int.toNat_natCast, beqTT, beqTF, beqFT, beqFF]
  refine ev_call (f187 (by assumption) (by first | omega | (simp only [wtRow, wtD]; omega))) ?_
  simp -implicitDefEqProofs only [cI, cB, cS, cL, oD_d, oG_g, oT_t, oP_p, dI_v, dB_v, dS_v, dL_s, cell_z, cell_s, nth_z, nth_s, aV_z, aV_s, aI_v, aB_v, aS_v, aL_f, aO_o, aX_b, tst_t, cond_true, cond_false, Ex.same, Nat.beq, List.length_cons, List.length_nil, Int.toNat_natCast, beqTT, beqTF, beqFT, beqFF]
  exact Evt.ret
/- loop.example/g00119/laws.toValueS -/
mutual
theorem fr81 {row : Row} (h : ShL E (E 48) row) (hw : wtRow row ≤ 1048576) (W : Nat) (hW : 2 * wtRow row + 1 = W) : Ev fs 81 [.g row] ⟨.g row, []⟩ := by
  rw [E48] at h
  obtain ⟨na0, ra0, rfl, pa0, h_a0⟩ := inv_i h
  obtain ⟨sa1, ra1, rfl, pa1, h_a1⟩ := inv_s h_a0
  obtain ⟨na2, ra2, rfl, pa2, h_a2⟩ := inv_i h_a1
  obtain ⟨la3, ra3, rfl, pa3, h_a3⟩ := inv_sl W9 h_a2
  obtain ⟨la4, ra4, rfl, pa4, h_a4⟩ := inv_sl W48 h_a3
  cases inv_nil h_a4
  simp only [wtRow, wtD] at hw
  refine Ev.of (af := a81) rfl rfl (Evt.congr (fun d n => a81q ..) ?_)
  refine ev_call (f56 (by assumption) (by first | omega | (simp only [wtRow, wtD]; omega))) ?_
  simp -implicitDefEqProofs only [cI, cB, cS, cL, oD_d, oG_g, oT_t, oP_p, dI_v, dB_v, dS_v, dL_s, cell_z, cell_s, nth_z, nth_s, aV_z, aV_s, aI_v, aB_v, aS_v, aL_f, aO_o, aX_b, tst_t, cond_true, cond_false, Ex.same, Nat.beq, List.length_cons, List.length_nil, Int.toNat_natCast, beqTT, beqTF, beqFT, beqFF]
  refine ev_call (fr188 (by assumption) (by first | omega | (simp only [wtRow, wtD]; omega)) _ rfl) ?_
  simp -implicitDefEqProofs only [cI, cB, cS, cL, oD_d, oG_g, oT_t, oP_p, dI_v, dB_v, dS_v, dL_s, cell_z, cell_s, nth_z, nth_s, aV_z, aV_s, aI_v, aB_v, aS_v, aL_f, aO_o, aX_b, tst_t, cond_true, cond_false, Ex.same, Nat.beq, List.length_cons, List.length_nil, Int.toNat_natCast, beqTT, beqTF, beqFT, beqFF]
  exact Evt.ret
termination_by W
decreasing_by all_goals (try have := hwx); (try simp only [wtRow, wtD] at *); omega
theorem fr188 {l : Rows} (hl : SL E 48 l) (hw : l.length + wtRows l ≤ 1048576) (W : Nat) (hW : 2 * (l.length + wtRows l) = W) : Ev fs 188 [.d (.s 5 l)] ⟨.d (.s 5 l), []⟩ := by
  refine to_rows (fun d n acc i => l188x0 (TabD fs d) d n [.fz 5 l, .o 5 acc, .v (.int .i64 i)]) (af := a188) (z := [.v (.int .i64 0), .v (.string ByteArray.empty), .v (.int .i64 0), .s 1 [], .s 5 []]) rfl rfl (fun d => a188q ..) (by omega) (by decide) (fun d n acc => ?_) (fun pre x post res ha hp k => ?_)
  · rw [l188x0s]
    simp -implicitDefEqProofs only [cI, cB, cS, cL, oD_d, oG_g, oT_t, oP_p, dI_v, dB_v, dS_v, dL_s, cell_z, cell_s, nth_z, nth_s, aV_z, aV_s, aI_v, aB_v, aS_v, aL_f, aO_o, aX_b, tst_t, cond_true, cond_false, Ex.same, Nat.beq, List.length_cons, List.length_nil, Int.toNat_natCast, beqTT, beqTF, beqFT, beqFF, Int.lt_irrefl, decide_false]
  · have hwx := wt_mid (pre := pre) (x := x) (post := post)
    have hwr := wrap_succ hp hl.1
    subst ha
    have h := hl.mid
    have h' := h
    rw [E48] at h
    obtain ⟨na0, ra0, rfl, pa0, h_a0⟩ := inv_i h
    obtain ⟨sa1, ra1, rfl, pa1, h_a1⟩ := inv_s h_a0
    obtain ⟨na2, ra2, rfl, pa2, h_a2⟩ := inv_i h_a1
    obtain ⟨la3, ra3, rfl, pa3, h_a3⟩ := inv_sl W9 h_a2
    obtain ⟨la4, ra4, rfl, pa4, h_a4⟩ := inv_sl W48 h_a3
    cases inv_nil h_a4
    simp only [l188x0s]
    simp -implicitDefEqProofs only [cI, cB, cS, cL, oD_d, oG_g, oT_t, oP_p, dI_v, dB_v, dS_v, dL_s, cell_z, cell_s, nth_z, nth_s, aV_z, aV_s, aI_v, aB_v, aS_v, aL_f, aO_o, aX_b, tst_t, cond_true, cond_false, Ex.same, Nat.beq, List.length_cons, List.length_nil, Int.toNat_natCast, beqTT, beqTF, beqFT, beqFF, mid_lt, mid_lt', dec_nn, look_mid, hwr, Bool.and_self]
    simp only [wtRow, wtD] at hwx
    refine ev_call (fr81 (by assumption) (by first | omega | (simp only [wtRow, wtD]; omega)) _ rfl) ?_
    simp -implicitDefEqProofs only [cI, cB, cS, cL, oD_d, oG_g, oT_t, oP_p, dI_v, dB_v, dS_v, dL_s, cell_z, cell_s, nth_z, nth_s, aV_z, aV_s, aI_v, aB_v, aS_v, aL_f, aO_o, aX_b, tst_t, cond_true, cond_false, Ex.same, Nat.beq, List.length_cons, List.length_nil, Int.toNat_natCast, beqTT, beqTF, beqFT, beqFF, mid_lt, mid_lt', dec_nn, hwr, Bool.and_self]
    simp only [setD_mid, List.set_cons_zero, List.set_cons_succ]
    exact k
termination_by W
decreasing_by all_goals (try have := hwx); (try simp only [wtRow, wtD] at *); omega
end
theorem f81 {row : Row} (h : ShL E (E 48) row) (hw : wtRow row ≤ 1048576) : Ev fs 81 [.g row] ⟨.g row, []⟩ := fr81 h hw _ rfl
theorem f188 {l : Rows} (hl : SL E 48 l) (hw : l.length + wtRows l ≤ 1048576) : Ev fs 188 [.d (.s 5 l)] ⟨.d (.s 5 l), []⟩ := fr188 hl hw _ rfl
/- loop.example/g00119/laws.toOp -/
theorem f348 {row : Row} (h : ShL E (E 376) row) (hw : wtRow row ≤ 1048576) : Ev fs 348 [.g row] ⟨.g row, []⟩ := by
  rw [E376] at h
  obtain ⟨na0, ra0, rfl, pa0, h_a0⟩ := inv_i h
  obtain ⟨la1, ra1, rfl, pa1, h_a1⟩ := inv_sl W9 h_a0
  obtain ⟨na2, ra2, rfl, pa2, h_a2⟩ := inv_i h_a1
  obtain ⟨sa3, ra3, rfl, pa3, h_a3⟩ := inv_s h_a2
  obtain ⟨na4, ra4, rfl, pa4, h_a4⟩ := inv_i h_a3
  obtain ⟨la5, ra5, rfl, pa5, h_a5⟩ := inv_sl W9 h_a4
  obtain ⟨la6, ra6, rfl, pa6, h_a6⟩ := inv_sl W48 h_a5
  cases inv_nil h_a6
  simp only [wtRow, wtD] at hw
  refine Ev.of (af := a348) rfl rfl (Evt.congr (fun d n => a348q ..) ?_)
  refine ev_call (f56 (by assumption) (by first | omega | (simp only [wtRow, wtD]; omega))) ?_
  simp -implicitDefEqProofs only [cI, cB, cS, cL, oD_d, oG_g, oT_t, oP_p, dI_v, dB_v, dS_v, dL_s, cell_z, cell_s, nth_z, nth_s, aV_z, aV_s, aI_v, aB_v, aS_v, aL_f, aO_o, aX_b, tst_t, cond_true, cond_false, Ex.same, Nat.beq, List.length_cons, List.length_nil, Int.toNat_natCast, beqTT, beqTF, beqFT, beqFF]
  refine ev_call (f81 (by rw [E48]; exact mk_i (by assumption) (mk_s (by assumption) (mk_i (by assumption) (mk_sl W9 (by assumption) (mk_sl W48 (by assumption) (ShL.nil)))))) (by first | omega | (simp only [wtRow, wtD]; omega))) ?_
  simp -implicitDefEqProofs only [cI, cB, cS, cL, oD_d, oG_g, oT_t, oP_p, dI_v, dB_v, dS_v, dL_s, cell_z, cell_s, nth_z, nth_s, aV_z, aV_s, aI_v, aB_v, aS_v, aL_f, aO_o, aX_b, tst_t, cond_true, cond_false, Ex.same, Nat.beq, List.length_cons, List.length_nil, Int.toNat_natCast, beqTT, beqTF, beqFT, beqFF]
  exact Evt.ret
/- loop.example/g00119/laws.toOpS -/
theorem f286 {l : Rows} (hl : SL E 376 l) (hw : l.length + wtRows l ≤ 1048576) : Ev fs 286 [.d (.s 7 l)] ⟨.d (.s 7 l), []⟩ := by
  refine to_rows (fun d n acc i => l286x0 (TabD fs d) d n [.fz 7 l, .o 7 acc, .v (.int .i64 i)]) (af := a286) (z := [.v (.int .i64 0), .s 1 [], .v (.int .i64 0), .v (.string ByteArray.empty), .v (.int .i64 0), .s 1 [], .s 5 []]) rfl rfl (fun d => a286q ..) (by omega) (by decide) (fun d n acc => ?_) (fun pre x post res ha hp k => ?_)
  · rw [l286x0s]
    simp -implicitDefEqProofs only [cI, cB, cS, cL, oD_d, oG_g, oT_t, oP_p, dI_v, dB_v, dS_v, dL_s, cell_z, cell_s, nth_z, nth_s, aV_z, aV_s, aI_v, aB_v, aS_v, aL_f, aO_o, aX_b, tst_t, cond_true, cond_false, Ex.same, Nat.beq, List.length_cons, List.length_nil, Int.toNat_natCast, beqTT, beqTF, beqFT, beqFF, Int.lt_irrefl, decide_false]
  · have hwx := wt_mid (pre := pre) (x := x) (post := post)
    have hwr := wrap_succ hp hl.1
    subst ha
    have h := hl.mid
    have h' := h
    rw [E376] at h
    obtain ⟨na0, ra0, rfl, pa0, h_a0⟩ := inv_i h
    obtain ⟨la1, ra1, rfl, pa1, h_a1⟩ := inv_sl W9 h_a0
    obtain ⟨na2, ra2, rfl, pa2, h_a2⟩ := inv_i h_a1
    obtain ⟨sa3, ra3, rfl, pa3, h_a3⟩ := inv_s h_a2
    obtain ⟨na4, ra4, rfl, pa4, h_a4⟩ := inv_i h_a3
    obtain ⟨la5, ra5, rfl, pa5, h_a5⟩ := inv_sl W9 h_a4
    obtain ⟨la6, ra6, rfl, pa6, h_a6⟩ := inv_sl W48 h_a5
    cases inv_nil h_a6
    simp only [l286x0s]
    simp -implicitDefEqProofs only [cI, cB, cS, cL, oD_d, oG_g, oT_t, oP_p, dI_v, dB_v, dS_v, dL_s, cell_z, cell_s, nth_z, nth_s, aV_z, aV_s, aI_v, aB_v, aS_v, aL_f, aO_o, aX_b, tst_t, cond_true, cond_false, Ex.same, Nat.beq, List.length_cons, List.length_nil, Int.toNat_natCast, beqTT, beqTF, beqFT, beqFF, mid_lt, mid_lt', dec_nn, look_mid, hwr, Bool.and_self]
    simp only [wtRow, wtD] at hwx
    refine ev_call (f348 (by assumption) (by first | omega | (simp only [wtRow, wtD]; omega))) ?_
    simp -implicitDefEqProofs only [cI, cB, cS, cL, oD_d, oG_g, oT_t, oP_p, dI_v, dB_v, dS_v, dL_s, cell_z, cell_s, nth_z, nth_s, aV_z, aV_s, aI_v, aB_v, aS_v, aL_f, aO_o, aX_b, tst_t, cond_true, cond_false, Ex.same, Nat.beq, List.length_cons, List.length_nil, Int.toNat_natCast, beqTT, beqTF, beqFT, beqFF, mid_lt, mid_lt', dec_nn, hwr, Bool.and_self]
    simp only [setD_mid, List.set_cons_zero, List.set_cons_succ]
    exact k
/- loop.example/g00119/laws.toOver -/
theorem f189 {row : Row} (h : ShL E (E 225) row) (hw : wtRow row ≤ 1048576) : Ev fs 189 [.g row] ⟨.g row, []⟩ := by
  rw [E225] at h
  obtain ⟨sa0, ra0, rfl, pa0, h_a0⟩ := inv_s h
  obtain ⟨la1, ra1, rfl, pa1, h_a1⟩ := inv_sl W376 h_a0
  cases inv_nil h_a1
  simp only [wtRow, wtD] at hw
  refine Ev.of (af := a189) rfl rfl (Evt.congr (fun d n => a189q ..) ?_)
  refine ev_call (f286 (by assumption) (by first | omega | (simp only [wtRow, wtD]; omega))) ?_
  simp -implicitDefEqProofs only [cI, cB, cS, cL, oD_d, oG_g, oT_t, oP_p, dI_v, dB_v, dS_v, dL_s, cell_z, cell_s, nth_z, nth_s, aV_z, aV_s, aI_v, aB_v, aS_v, aL_f, aO_o, aX_b, tst_t, cond_true, cond_false, Ex.same, Nat.beq, List.length_cons, List.length_nil, Int.toNat_natCast, beqTT, beqTF, beqFT, beqFF]
  exact Evt.ret
/- loop.example/g00119/laws.toOverS -/
theorem f82 {l : Rows} (hl : SL E 225 l) (hw : l.length + wtRows l ≤ 1048576) : Ev fs 82 [.d (.s 2 l)] ⟨.d (.s 2 l), []⟩ := by
  refine to_rows (fun d n acc i => l82x0 (TabD fs d) d n [.fz 2 l, .o 2 acc, .v (.int .i64 i)]) (af := a82) (z := [.v (.string ByteArray.empty), .s 7 []]) rfl rfl (fun d => a82q ..) (by omega) (by decide) (fun d n acc => ?_) (fun pre x post res ha hp k => ?_)
  · rw [l82x0s]
    simp -implicitDefEqProofs only [cI, cB, cS, cL, oD_d, oG_g, oT_t, oP_p, dI_v, dB_v, dS_v, dL_s, cell_z, cell_s, nth_z, nth_s, aV_z, aV_s, aI_v, aB_v, aS_v, aL_f, aO_o, aX_b, tst_t, cond_true, cond_false, Ex.same, Nat.beq, List.length_cons, List.length_nil, Int.toNat_natCast, beqTT, beqTF, beqFT, beqFF, Int.lt_irrefl, decide_false]
  · have hwx := wt_mid (pre := pre) (x := x) (post := post)
    have hwr := wrap_succ hp hl.1
    subst ha
    have h := hl.mid
    have h' := h
    rw [E225] at h
    obtain ⟨sa0, ra0, rfl, pa0, h_a0⟩ := inv_s h
    obtain ⟨la1, ra1, rfl, pa1, h_a1⟩ := inv_sl W376 h_a0
    cases inv_nil h_a1
    simp only [l82x0s]
    simp -implicitDefEqProofs only [cI, cB, cS, cL, oD_d, oG_g, oT_t, oP_p, dI_v, dB_v, dS_v, dL_s, cell_z, cell_s, nth_z, nth_s, aV_z, aV_s, aI_v, aB_v, aS_v, aL_f, aO_o, aX_b, tst_t, cond_true, cond_false, Ex.same, Nat.beq, List.length_cons, List.length_nil, Int.toNat_natCast, beqTT, beqTF, beqFT, beqFF, mid_lt, mid_lt', dec_nn, look_mid, hwr, Bool.and_self]
    simp only [wtRow, wtD] at hwx
    refine ev_call (f189 (by assumption) (by first | omega | (simp only [wtRow, wtD]; omega))) ?_
    simp -implicitDefEqProofs only [cI, cB, cS, cL, oD_d, oG_g, oT_t, oP_p, dI_v, dB_v, dS_v, dL_s, cell_z, cell_s, nth_z, nth_s, aV_z, aV_s, aI_v, aB_v, aS_v, aL_f, aO_o, aX_b, tst_t, cond_true, cond_false, Ex.same, Nat.beq, List.length_cons, List.length_nil, Int.toNat_natCast, beqTT, beqTF, beqFT, beqFF, mid_lt, mid_lt', dec_nn, hwr, Bool.and_self]
    simp only [setD_mid, List.set_cons_zero, List.set_cons_succ]
    exact k
/- loop.example/g00119/laws.toJob -/
theorem f159 {row : Row} (h : ShL E (E 201) row) (hw : wtRow row ≤ 1048576) : Ev fs 159 [.g row] ⟨.g row, []⟩ := by
  rw [E201] at h
  obtain ⟨na0, ra0, rfl, pa0, h_a0⟩ := inv_i h
  obtain ⟨sa1, ra1, rfl, pa1, h_a1⟩ := inv_s h_a0
  obtain ⟨na2, ra2, rfl, pa2, h_a2⟩ := inv_i h_a1
  obtain ⟨la3, ra3, rfl, pa3, h_a3⟩ := inv_sl W318 h_a2
  obtain ⟨la4, ra4, rfl, pa4, h_a4⟩ := inv_sl W9 h_a3
  obtain ⟨la5, ra5, rfl, pa5, h_a5⟩ := inv_sl W320 h_a4
  obtain ⟨na6, ra6, rfl, pa6, h_a6⟩ := inv_i h_a5
  obtain ⟨sa7, ra7, rfl, pa7, h_a7⟩ := inv_s h_a6
  obtain ⟨na8, ra8, rfl, pa8, h_a8⟩ := inv_i h_a7
  obtain ⟨la9, ra9, rfl, pa9, h_a9⟩ := inv_sl W9 h_a8
  obtain ⟨la10, ra10, rfl, pa10, h_a10⟩ := inv_sl W48 h_a9
  obtain ⟨la11, ra11, rfl, pa11, h_a11⟩ := inv_sl W225 h_a10
  obtain ⟨ba12, ra12, rfl, h_a12⟩ := inv_b h_a11
  cases inv_nil h_a12
  simp only [wtRow, wtD] at hw
  refine Ev.of (af := a159) rfl rfl (Evt.congr (fun d n => a159q ..) ?_)
  refine ev_call (f80 (by rw [E45]; exact mk_i (by assumption) (mk_sl W318 (by assumption) (mk_sl W9 (by assumption) (mk_sl W320 (by assumption) (ShL.nil))))) (by first | omega | (simp only [wtRow, wtD]; omega))) ?_
  simp -implicitDefEqProofs only [cI, cB, cS, cL, oD_d, oG_g, oT_t, oP_p, dI_v, dB_v, dS_v, dL_s, cell_z, cell_s, nth_z, nth_s, aV_z, aV_s, aI_v, aB_v, aS_v, aL_f, aO_o, aX_b, tst_t, cond_true, cond_false, Ex.same, Nat.beq, List.length_cons, List.length_nil, Int.toNat_natCast, beqTT, beqTF, beqFT, beqFF]
  refine ev_call (f81 (by rw [E48]; exact mk_i (by assumption) (mk_s (by assumption) (mk_i (by assumption) (mk_sl W9 (by assumption) (mk_sl W48 (by assumption) (ShL.nil)))))) (by first | omega | (simp only [wtRow, wtD]; omega))) ?_
  simp -implicitDefEqProofs only [cI, cB, cS, cL, oD_d, oG_g, oT_t, oP_p, dI_v, dB_v, dS_v, dL_s, cell_z, cell_s, nth_z, nth_s, aV_z, aV_s, aI_v, aB_v, aS_v, aL_f, aO_o, aX_b, tst_t, cond_true, cond_false, Ex.same, Nat.beq, List.length_cons, List.length_nil, Int.toNat_natCast, beqTT, beqTF, beqFT, beqFF]
  refine ev_call (f82 (by assumption) (by first | omega | (simp only [wtRow, wtD]; omega))) ?_
  simp -implicitDefEqProofs only [cI, cB, cS, cL, oD_d, oG_g, oT_t, oP_p, dI_v, dB_v, dS_v, dL_s, cell_z, cell_s, nth_z, nth_s, aV_z, aV_s, aI_v, aB_v, aS_v, aL_f, aO_o, aX_b, tst_t, cond_true, cond_false, Ex.same, Nat.beq, List.length_cons, List.length_nil, Int.toNat_natCast, beqTT, beqTF, beqFT, beqFF]
  exact Evt.ret
/- loop.example/g00119/laws.toJobS -/
theorem f53 {l : Rows} (hl : SL E 201 l) (hw : l.length + wtRows l ≤ 1048576) : Ev fs 53 [.d (.s 13 l)] ⟨.d (.s 13 l), []⟩ := by
  refine to_rows (fun d n acc i => l53x0 (TabD fs d) d n [.fz 13 l, .o 13 acc, .v (.int .i64 i)]) (af := a53) (z := [.v (.int .i64 0), .v (.string ByteArray.empty), .v (.int .i64 0), .s 3 [], .s 1 [], .s 2 [], .v (.int .i64 0), .v (.string ByteArray.empty), .v (.int .i64 0), .s 1 [], .s 5 [], .s 2 [], .v (.bool false)]) rfl rfl (fun d => a53q ..) (by omega) (by decide) (fun d n acc => ?_) (fun pre x post res ha hp k => ?_)
  · rw [l53x0s]
    simp -implicitDefEqProofs only [cI, cB, cS, cL, oD_d, oG_g, oT_t, oP_p, dI_v, dB_v, dS_v, dL_s, cell_z, cell_s, nth_z, nth_s, aV_z, aV_s, aI_v, aB_v, aS_v, aL_f, aO_o, aX_b, tst_t, cond_true, cond_false, Ex.same, Nat.beq, List.length_cons, List.length_nil, Int.toNat_natCast, beqTT, beqTF, beqFT, beqFF, Int.lt_irrefl, decide_false]
  · have hwx := wt_mid (pre := pre) (x := x) (post := post)
    have hwr := wrap_succ hp hl.1
    subst ha
    have h := hl.mid
    have h' := h
    rw [E201] at h
    obtain ⟨na0, ra0, rfl, pa0, h_a0⟩ := inv_i h
    obtain ⟨sa1, ra1, rfl, pa1, h_a1⟩ := inv_s h_a0
    obtain ⟨na2, ra2, rfl, pa2, h_a2⟩ := inv_i h_a1
    obtain ⟨la3, ra3, rfl, pa3, h_a3⟩ := inv_sl W318 h_a2
    obtain ⟨la4, ra4, rfl, pa4, h_a4⟩ := inv_sl W9 h_a3
    obtain ⟨la5, ra5, rfl, pa5, h_a5⟩ := inv_sl W320 h_a4
    obtain ⟨na6, ra6, rfl, pa6, h_a6⟩ := inv_i h_a5
    obtain ⟨sa7, ra7, rfl, pa7, h_a7⟩ := inv_s h_a6
    obtain ⟨na8, ra8, rfl, pa8, h_a8⟩ := inv_i h_a7
    obtain ⟨la9, ra9, rfl, pa9, h_a9⟩ := inv_sl W9 h_a8
    obtain ⟨la10, ra10, rfl, pa10, h_a10⟩ := inv_sl W48 h_a9
    obtain ⟨la11, ra11, rfl, pa11, h_a11⟩ := inv_sl W225 h_a10
    obtain ⟨ba12, ra12, rfl, h_a12⟩ := inv_b h_a11
    cases inv_nil h_a12
    simp only [l53x0s]
    simp -implicitDefEqProofs only [cI, cB, cS, cL, oD_d, oG_g, oT_t, oP_p, dI_v, dB_v, dS_v, dL_s, cell_z, cell_s, nth_z, nth_s, aV_z, aV_s, aI_v, aB_v, aS_v, aL_f, aO_o, aX_b, tst_t, cond_true, cond_false, Ex.same, Nat.beq, List.length_cons, List.length_nil, Int.toNat_natCast, beqTT, beqTF, beqFT, beqFF, mid_lt, mid_lt', dec_nn, look_mid, hwr, Bool.and_self]
    simp only [wtRow, wtD] at hwx
    refine ev_call (f159 (by assumption) (by first | omega | (simp only [wtRow, wtD]; omega))) ?_
    simp -implicitDefEqProofs only [cI, cB, cS, cL, oD_d, oG_g, oT_t, oP_p, dI_v, dB_v, dS_v, dL_s, cell_z, cell_s, nth_z, nth_s, aV_z, aV_s, aI_v, aB_v, aS_v, aL_f, aO_o, aX_b, tst_t, cond_true, cond_false, Ex.same, Nat.beq, List.length_cons, List.length_nil, Int.toNat_natCast, beqTT, beqTF, beqFT, beqFF, mid_lt, mid_lt', dec_nn, hwr, Bool.and_self]
    simp only [setD_mid, List.set_cons_zero, List.set_cons_succ]
    exact k
/- loop.example/g00119/laws.toLabel -/
theorem f287 {row : Row} (h : ShL E (E 323) row) (hw : wtRow row ≤ 1048576) : Ev fs 287 [.g row] ⟨.g row, []⟩ := by
  rw [E323] at h
  obtain ⟨sa0, ra0, rfl, pa0, h_a0⟩ := inv_s h
  obtain ⟨sa1, ra1, rfl, pa1, h_a1⟩ := inv_s h_a0
  cases inv_nil h_a1
  simp only [wtRow, wtD] at hw
  refine Ev.of (af := a287) rfl rfl (Evt.congr (fun d n => a287q ..) ?_)
  exact Evt.ret
/- loop.example/g00119/laws.toLabelS -/
theorem f190 {l : Rows} (hl : SL E 323 l) (hw : l.length + wtRows l ≤ 1048576) : Ev fs 190 [.d (.s 2 l)] ⟨.d (.s 2 l), []⟩ := by
  refine to_rows (fun d n acc i => l190x0 (TabD fs d) d n [.fz 2 l, .o 2 acc, .v (.int .i64 i)]) (af := a190) (z := [.v (.string ByteArray.empty), .v (.string ByteArray.empty)]) rfl rfl (fun d => a190q ..) (by omega) (by decide) (fun d n acc => ?_) (fun pre x post res ha hp k => ?_)
  · rw [l190x0s]
    simp -implicitDefEqProofs only [cI, cB, cS, cL, oD_d, oG_g, oT_t, oP_p, dI_v, dB_v, dS_v, dL_s, cell_z, cell_s, nth_z, nth_s, aV_z, aV_s, aI_v, aB_v, aS_v, aL_f, aO_o, aX_b, tst_t, cond_true, cond_false, Ex.same, Nat.beq, List.length_cons, List.length_nil, Int.toNat_natCast, beqTT, beqTF, beqFT, beqFF, Int.lt_irrefl, decide_false]
  · have hwx := wt_mid (pre := pre) (x := x) (post := post)
    have hwr := wrap_succ hp hl.1
    subst ha
    have h := hl.mid
    have h' := h
    rw [E323] at h
    obtain ⟨sa0, ra0, rfl, pa0, h_a0⟩ := inv_s h
    obtain ⟨sa1, ra1, rfl, pa1, h_a1⟩ := inv_s h_a0
    cases inv_nil h_a1
    simp only [l190x0s]
    simp -implicitDefEqProofs only [cI, cB, cS, cL, oD_d, oG_g, oT_t, oP_p, dI_v, dB_v, dS_v, dL_s, cell_z, cell_s, nth_z, nth_s, aV_z, aV_s, aI_v, aB_v, aS_v, aL_f, aO_o, aX_b, tst_t, cond_true, cond_false, Ex.same, Nat.beq, List.length_cons, List.length_nil, Int.toNat_natCast, beqTT, beqTF, beqFT, beqFF, mid_lt, mid_lt', dec_nn, look_mid, hwr, Bool.and_self]
    simp only [wtRow, wtD] at hwx
    refine ev_call (f287 (by assumption) (by first | omega | (simp only [wtRow, wtD]; omega))) ?_
    simp -implicitDefEqProofs only [cI, cB, cS, cL, oD_d, oG_g, oT_t, oP_p, dI_v, dB_v, dS_v, dL_s, cell_z, cell_s, nth_z, nth_s, aV_z, aV_s, aI_v, aB_v, aS_v, aL_f, aO_o, aX_b, tst_t, cond_true, cond_false, Ex.same, Nat.beq, List.length_cons, List.length_nil, Int.toNat_natCast, beqTT, beqTF, beqFT, beqFF, mid_lt, mid_lt', dec_nn, hwr, Bool.and_self]
    simp only [setD_mid, List.set_cons_zero, List.set_cons_succ]
    exact k
/- loop.example/g00119/laws.toIsland -/
theorem f83 {row : Row} (h : ShL E (E 52) row) (hw : wtRow row ≤ 1048576) : Ev fs 83 [.g row] ⟨.g row, []⟩ := by
  rw [E52] at h
  obtain ⟨sa0, ra0, rfl, pa0, h_a0⟩ := inv_s h
  obtain ⟨la1, ra1, rfl, pa1, h_a1⟩ := inv_sl W323 h_a0
  obtain ⟨la2, ra2, rfl, pa2, h_a2⟩ := inv_sl W9 h_a1
  obtain ⟨na3, ra3, rfl, pa3, h_a3⟩ := inv_i h_a2
  cases inv_nil h_a3
  simp only [wtRow, wtD] at hw
  refine Ev.of (af := a83) rfl rfl (Evt.congr (fun d n => a83q ..) ?_)
  refine ev_call (f190 (by assumption) (by first | omega | (simp only [wtRow, wtD]; omega))) ?_
  simp -implicitDefEqProofs only [cI, cB, cS, cL, oD_d, oG_g, oT_t, oP_p, dI_v, dB_v, dS_v, dL_s, cell_z, cell_s, nth_z, nth_s, aV_z, aV_s, aI_v, aB_v, aS_v, aL_f, aO_o, aX_b, tst_t, cond_true, cond_false, Ex.same, Nat.beq, List.length_cons, List.length_nil, Int.toNat_natCast, beqTT, beqTF, beqFT, beqFF]
  refine ev_call (f56 (by assumption) (by first | omega | (simp only [wtRow, wtD]; omega))) ?_
  simp -implicitDefEqProofs only [cI, cB, cS, cL, oD_d, oG_g, oT_t, oP_p, dI_v, dB_v, dS_v, dL_s, cell_z, cell_s, nth_z, nth_s, aV_z, aV_s, aI_v, aB_v, aS_v, aL_f, aO_o, aX_b, tst_t, cond_true, cond_false, Ex.same, Nat.beq, List.length_cons, List.length_nil, Int.toNat_natCast, beqTT, beqTF, beqFT, beqFF]
  exact Evt.ret
/- loop.example/g00119/laws.toPost -/
theorem f160 {row : Row} (h : ShL E (E 204) row) (hw : wtRow row ≤ 1048576) : Ev fs 160 [.g row] ⟨.g row, []⟩ := by
  rw [E204] at h
  obtain ⟨sa0, ra0, rfl, pa0, h_a0⟩ := inv_s h
  obtain ⟨la1, ra1, rfl, pa1, h_a1⟩ := inv_sl W323 h_a0
  obtain ⟨la2, ra2, rfl, pa2, h_a2⟩ := inv_sl W9 h_a1
  obtain ⟨na3, ra3, rfl, pa3, h_a3⟩ := inv_i h_a2
  obtain ⟨na4, ra4, rfl, pa4, h_a4⟩ := inv_i h_a3
  obtain ⟨na5, ra5, rfl, pa5, h_a5⟩ := inv_i h_a4
  cases inv_nil h_a5
  simp only [wtRow, wtD] at hw
  refine Ev.of (af := a160) rfl rfl (Evt.congr (fun d n => a160q ..) ?_)
  refine ev_call (f83 (by rw [E52]; exact mk_s (by assumption) (mk_sl W323 (by assumption) (mk_sl W9 (by assumption) (mk_i (by assumption) (ShL.nil))))) (by first | omega | (simp only [wtRow, wtD]; omega))) ?_
  simp -implicitDefEqProofs only [cI, cB, cS, cL, oD_d, oG_g, oT_t, oP_p, dI_v, dB_v, dS_v, dL_s, cell_z, cell_s, nth_z, nth_s, aV_z, aV_s, aI_v, aB_v, aS_v, aL_f, aO_o, aX_b, tst_t, cond_true, cond_false, Ex.same, Nat.beq, List.length_cons, List.length_nil, Int.toNat_natCast, beqTT, beqTF, beqFT, beqFF]
  exact Evt.ret
/- loop.example/g00119/laws.toPostS -/
theorem f54 {l : Rows} (hl : SL E 204 l) (hw : l.length + wtRows l ≤ 1048576) : Ev fs 54 [.d (.s 6 l)] ⟨.d (.s 6 l), []⟩ := by
  refine to_rows (fun d n acc i => l54x0 (TabD fs d) d n [.fz 6 l, .o 6 acc, .v (.int .i64 i)]) (af := a54) (z := [.v (.string ByteArray.empty), .s 2 [], .s 1 [], .v (.int .i64 0), .v (.int .i64 0), .v (.int .i64 0)]) rfl rfl (fun d => a54q ..) (by omega) (by decide) (fun d n acc => ?_) (fun pre x post res ha hp k => ?_)
  · rw [l54x0s]
    simp -implicitDefEqProofs only [cI, cB, cS, cL, oD_d, oG_g, oT_t, oP_p, dI_v, dB_v, dS_v, dL_s, cell_z, cell_s, nth_z, nth_s, aV_z, aV_s, aI_v, aB_v, aS_v, aL_f, aO_o, aX_b, tst_t, cond_true, cond_false, Ex.same, Nat.beq, List.length_cons, List.length_nil, Int.toNat_natCast, beqTT, beqTF, beqFT, beqFF, Int.lt_irrefl, decide_false]
  · have hwx := wt_mid (pre := pre) (x := x) (post := post)
    have hwr := wrap_succ hp hl.1
    subst ha
    have h := hl.mid
    have h' := h
    rw [E204] at h
    obtain ⟨sa0, ra0, rfl, pa0, h_a0⟩ := inv_s h
    obtain ⟨la1, ra1, rfl, pa1, h_a1⟩ := inv_sl W323 h_a0
    obtain ⟨la2, ra2, rfl, pa2, h_a2⟩ := inv_sl W9 h_a1
    obtain ⟨na3, ra3, rfl, pa3, h_a3⟩ := inv_i h_a2
    obtain ⟨na4, ra4, rfl, pa4, h_a4⟩ := inv_i h_a3
    obtain ⟨na5, ra5, rfl, pa5, h_a5⟩ := inv_i h_a4
    cases inv_nil h_a5
    simp only [l54x0s]
    simp -implicitDefEqProofs only [cI, cB, cS, cL, oD_d, oG_g, oT_t, oP_p, dI_v, dB_v, dS_v, dL_s, cell_z, cell_s, nth_z, nth_s, aV_z, aV_s, aI_v, aB_v, aS_v, aL_f, aO_o, aX_b, tst_t, cond_true, cond_false, Ex.same, Nat.beq, List.length_cons, List.length_nil, Int.toNat_natCast, beqTT, beqTF, beqFT, beqFF, mid_lt, mid_lt', dec_nn, look_mid, hwr, Bool.and_self]
    simp only [wtRow, wtD] at hwx
    refine ev_call (f160 (by assumption) (by first | omega | (simp only [wtRow, wtD]; omega))) ?_
    simp -implicitDefEqProofs only [cI, cB, cS, cL, oD_d, oG_g, oT_t, oP_p, dI_v, dB_v, dS_v, dL_s, cell_z, cell_s, nth_z, nth_s, aV_z, aV_s, aI_v, aB_v, aS_v, aL_f, aO_o, aX_b, tst_t, cond_true, cond_false, Ex.same, Nat.beq, List.length_cons, List.length_nil, Int.toNat_natCast, beqTT, beqTF, beqFT, beqFF, mid_lt, mid_lt', dec_nn, hwr, Bool.and_self]
    simp only [setD_mid, List.set_cons_zero, List.set_cons_succ]
    exact k
/- loop.example/g00119/laws.toHold -/
theorem f161 {row : Row} (h : ShL E (E 206) row) (hw : wtRow row ≤ 1048576) : Ev fs 161 [.g row] ⟨.g row, []⟩ := by
  rw [E206] at h
  obtain ⟨na0, ra0, rfl, pa0, h_a0⟩ := inv_i h
  obtain ⟨sa1, ra1, rfl, pa1, h_a1⟩ := inv_s h_a0
  obtain ⟨na2, ra2, rfl, pa2, h_a2⟩ := inv_i h_a1
  obtain ⟨na3, ra3, rfl, pa3, h_a3⟩ := inv_i h_a2
  obtain ⟨na4, ra4, rfl, pa4, h_a4⟩ := inv_i h_a3
  cases inv_nil h_a4
  simp only [wtRow, wtD] at hw
  refine Ev.of (af := a161) rfl rfl (Evt.congr (fun d n => a161q ..) ?_)
  exact Evt.ret
/- loop.example/g00119/laws.toHoldS -/
theorem f55 {l : Rows} (hl : SL E 206 l) (hw : l.length + wtRows l ≤ 1048576) : Ev fs 55 [.d (.s 5 l)] ⟨.d (.s 5 l), []⟩ := by
  refine to_rows (fun d n acc i => l55x0 (TabD fs d) d n [.fz 5 l, .o 5 acc, .v (.int .i64 i)]) (af := a55) (z := [.v (.int .i64 0), .v (.string ByteArray.empty), .v (.int .i64 0), .v (.int .i64 0), .v (.int .i64 0)]) rfl rfl (fun d => a55q ..) (by omega) (by decide) (fun d n acc => ?_) (fun pre x post res ha hp k => ?_)
  · rw [l55x0s]
    simp -implicitDefEqProofs only [cI, cB, cS, cL, oD_d, oG_g, oT_t, oP_p, dI_v, dB_v, dS_v, dL_s, cell_z, cell_s, nth_z, nth_s, aV_z, aV_s, aI_v, aB_v, aS_v, aL_f, aO_o, aX_b, tst_t, cond_true, cond_false, Ex.same, Nat.beq, List.length_cons, List.length_nil, Int.toNat_natCast, beqTT, beqTF, beqFT, beqFF, Int.lt_irrefl, decide_false]
  · have hwx := wt_mid (pre := pre) (x := x) (post := post)
    have hwr := wrap_succ hp hl.1
    subst ha
    have h := hl.mid
    have h' := h
    rw [E206] at h
    obtain ⟨na0, ra0, rfl, pa0, h_a0⟩ := inv_i h
    obtain ⟨sa1, ra1, rfl, pa1, h_a1⟩ := inv_s h_a0
    obtain ⟨na2, ra2, rfl, pa2, h_a2⟩ := inv_i h_a1
    obtain ⟨na3, ra3, rfl, pa3, h_a3⟩ := inv_i h_a2
    obtain ⟨na4, ra4, rfl, pa4, h_a4⟩ := inv_i h_a3
    cases inv_nil h_a4
    simp only [l55x0s]
    simp -implicitDefEqProofs only [cI, cB, cS, cL, oD_d, oG_g, oT_t, oP_p, dI_v, dB_v, dS_v, dL_s, cell_z, cell_s, nth_z, nth_s, aV_z, aV_s, aI_v, aB_v, aS_v, aL_f, aO_o, aX_b, tst_t, cond_true, cond_false, Ex.same, Nat.beq, List.length_cons, List.length_nil, Int.toNat_natCast, beqTT, beqTF, beqFT, beqFF, mid_lt, mid_lt', dec_nn, look_mid, hwr, Bool.and_self]
    simp only [wtRow, wtD] at hwx
    refine ev_call (f161 (by assumption) (by first | omega | (simp only [wtRow, wtD]; omega))) ?_
    simp -implicitDefEqProofs only [cI, cB, cS, cL, oD_d, oG_g, oT_t, oP_p, dI_v, dB_v, dS_v, dL_s, cell_z, cell_s, nth_z, nth_s, aV_z, aV_s, aI_v, aB_v, aS_v, aL_f, aO_o, aX_b, tst_t, cond_true, cond_false, Ex.same, Nat.beq, List.length_cons, List.length_nil, Int.toNat_natCast, beqTT, beqTF, beqFT, beqFF, mid_lt, mid_lt', dec_nn, hwr, Bool.and_self]
    simp only [setD_mid, List.set_cons_zero, List.set_cons_succ]
    exact k
/- loop.example/g00119/laws.toHub -/
theorem f11 {row : Row} (h : ShL E (E 27) row) (hw : wtRow row ≤ 1048576) : Ev fs 11 [.g row] ⟨.g row, []⟩ := by
  rw [E27] at h
  obtain ⟨na0, ra0, rfl, pa0, h_a0⟩ := inv_i h
  obtain ⟨na1, ra1, rfl, pa1, h_a1⟩ := inv_i h_a0
  obtain ⟨na2, ra2, rfl, pa2, h_a2⟩ := inv_i h_a1
  obtain ⟨la3, ra3, rfl, pa3, h_a3⟩ := inv_sl W201 h_a2
  obtain ⟨la4, ra4, rfl, pa4, h_a4⟩ := inv_sl W204 h_a3
  obtain ⟨la5, ra5, rfl, pa5, h_a5⟩ := inv_sl W206 h_a4
  obtain ⟨la6, ra6, rfl, pa6, h_a6⟩ := inv_sl W9 h_a5
  cases inv_nil h_a6
  simp only [wtRow, wtD] at hw
  refine Ev.of (af := a11) rfl rfl (Evt.congr (fun d n => a11q ..) ?_)
  refine ev_call (f53 (by assumption) (by first | omega | (simp only [wtRow, wtD]; omega))) ?_
  simp -implicitDefEqProofs only [cI, cB, cS, cL, oD_d, oG_g, oT_t, oP_p, dI_v, dB_v, dS_v, dL_s, cell_z, cell_s, nth_z, nth_s, aV_z, aV_s, aI_v, aB_v, aS_v, aL_f, aO_o, aX_b, tst_t, cond_true, cond_false, Ex.same, Nat.beq, List.length_cons, List.length_nil, Int.toNat_natCast, beqTT, beqTF, beqFT, beqFF]
  refine ev_call (f54 (by assumption) (by first | omega | (simp only [wtRow, wtD]; omega))) ?_
  simp -implicitDefEqProofs only [cI, cB, cS, cL, oD_d, oG_g, oT_t, oP_p, dI_v, dB_v, dS_v, dL_s, cell_z, cell_s, nth_z, nth_s, aV_z, aV_s, aI_v, aB_v, aS_v, aL_f, aO_o, aX_b, tst_t, cond_true, cond_false, Ex.same, Nat.beq, List.length_cons, List.length_nil, Int.toNat_natCast, beqTT, beqTF, beqFT, beqFF]
  refine ev_call (f55 (by assumption) (by first | omega | (simp only [wtRow, wtD]; omega))) ?_
  simp -implicitDefEqProofs only [cI, cB, cS, cL, oD_d, oG_g, oT_t, oP_p, dI_v, dB_v, dS_v, dL_s, cell_z, cell_s, nth_z, nth_s, aV_z, aV_s, aI_v, aB_v, aS_v, aL_f, aO_o, aX_b, tst_t, cond_true, cond_false, Ex.same, Nat.beq, List.length_cons, List.length_nil, Int.toNat_natCast, beqTT, beqTF, beqFT, beqFF]
  refine ev_call (f56 (by assumption) (by first | omega | (simp only [wtRow, wtD]; omega))) ?_
  simp -implicitDefEqProofs only [cI, cB, cS, cL, oD_d, oG_g, oT_t, oP_p, dI_v, dB_v, dS_v, dL_s, cell_z, cell_s, nth_z, nth_s, aV_z, aV_s, aI_v, aB_v, aS_v, aL_f, aO_o, aX_b, tst_t, cond_true, cond_false, Ex.same, Nat.beq, List.length_cons, List.length_nil, Int.toNat_natCast, beqTT, beqTF, beqFT, beqFF]
  exact Evt.ret
/- loop.example/g00119/laws.toByteS -/
theorem f104 {l : Rows} (hl : SL E 5 l) (hw : l.length + wtRows l ≤ 1048576) : Ev fs 104 [.d (.s 1 l)] ⟨.d (.s 1 l), []⟩ := by
  refine to_rows (fun d n acc i => l104x0 (TabD fs d) d n [.fz 1 l, .o 1 acc, .v (.int .i64 i)]) (af := a104) (z := [.v (.int .u8 0)]) rfl rfl (fun d => a104q ..) (by omega) (by decide) (fun d n acc => ?_) (fun pre x post res ha hp k => ?_)
  · rw [l104x0s]
    simp -implicitDefEqProofs only [cI, cB, cS, cL, oD_d, oG_g, oT_t, oP_p, dI_v, dB_v, dS_v, dL_s, cell_z, cell_s, nth_z, nth_s, aV_z, aV_s, aI_v, aB_v, aS_v, aL_f, aO_o, aX_b, tst_t, cond_true, cond_false, Ex.same, Nat.beq, List.length_cons, List.length_nil, Int.toNat_natCast, beqTT, beqTF, beqFT, beqFF, Int.lt_irrefl, decide_false]
  · have hwx := wt_mid (pre := pre) (x := x) (post := post)
    have hwr := wrap_succ hp hl.1
    subst ha
    have h := hl.mid
    have h' := h
    rw [E5] at h
    obtain ⟨na0, ra0, rfl, pa0, h_a0⟩ := inv_i h
    cases inv_nil h_a0
    simp only [l104x0s]
    simp -implicitDefEqProofs only [cI, cB, cS, cL, oD_d, oG_g, oT_t, oP_p, dI_v, dB_v, dS_v, dL_s, cell_z, cell_s, nth_z, nth_s, aV_z, aV_s, aI_v, aB_v, aS_v, aL_f, aO_o, aX_b, tst_t, cond_true, cond_false, Ex.same, Nat.beq, List.length_cons, List.length_nil, Int.toNat_natCast, beqTT, beqTF, beqFT, beqFF, mid_lt, mid_lt', dec_nn, look_mid, hwr, Bool.and_self]
    simp only [wtRow, wtD] at hwx
    simp only [setD_mid, List.set_cons_zero, List.set_cons_succ]
    exact k
/- loop.example/g00119/laws.toRun -/
theorem f191 {row : Row} (h : ShL E (E 245) row) (hw : wtRow row ≤ 1048576) : Ev fs 191 [.g row] ⟨.g row, []⟩ := by
  rw [E245] at h
  obtain ⟨na0, ra0, rfl, pa0, h_a0⟩ := inv_i h
  obtain ⟨na1, ra1, rfl, pa1, h_a1⟩ := inv_i h_a0
  cases inv_nil h_a1
  refine Ev.of (af := a191) rfl rfl (Evt.congr (fun d n => a191q ..) ?_)
  exact Evt.ret
/- loop.example/g00119/laws.toRunS -/
theorem f84 {l : Rows} (hl : SL E 245 l) (hw : l.length + wtRows l ≤ 1048576) : Ev fs 84 [.d (.s 2 l)] ⟨.d (.s 2 l), []⟩ := by
  refine to_rows (fun d n acc i => l84x0 (TabD fs d) d n [.fz 2 l, .o 2 acc, .v (.int .i64 i)]) (af := a84) (z := [.v (.int .i64 0), .v (.int .i64 0)]) rfl rfl (fun d => a84q ..) (by omega) (by decide) (fun d n acc => ?_) (fun pre x post res ha hp k => ?_)
  · rw [l84x0s]
    simp -implicitDefEqProofs only [cI, cB, cS, cL, oD_d, oG_g, oT_t, oP_p, dI_v, dB_v, dS_v, dL_s, cell_z, cell_s, nth_z, nth_s, aV_z, aV_s, aI_v, aB_v, aS_v, aL_f, aO_o, aX_b, tst_t, cond_true, cond_false, Ex.same, Nat.beq, List.length_cons, List.length_nil, Int.toNat_natCast, beqTT, beqTF, beqFT, beqFF, Int.lt_irrefl, decide_false]
  · have hwx := wt_mid (pre := pre) (x := x) (post := post)
    have hwr := wrap_succ hp hl.1
    subst ha
    have h := hl.mid
    have h' := h
    rw [E245] at h
    obtain ⟨na0, ra0, rfl, pa0, h_a0⟩ := inv_i h
    obtain ⟨na1, ra1, rfl, pa1, h_a1⟩ := inv_i h_a0
    cases inv_nil h_a1
    simp only [l84x0s]
    simp -implicitDefEqProofs only [cI, cB, cS, cL, oD_d, oG_g, oT_t, oP_p, dI_v, dB_v, dS_v, dL_s, cell_z, cell_s, nth_z, nth_s, aV_z, aV_s, aI_v, aB_v, aS_v, aL_f, aO_o, aX_b, tst_t, cond_true, cond_false, Ex.same, Nat.beq, List.length_cons, List.length_nil, Int.toNat_natCast, beqTT, beqTF, beqFT, beqFF, mid_lt, mid_lt', dec_nn, look_mid, hwr, Bool.and_self]
    simp only [wtRow, wtD] at hwx
    refine ev_call (f191 (by assumption) (by first | omega | (simp only [wtRow, wtD]; omega))) ?_
    simp -implicitDefEqProofs only [cI, cB, cS, cL, oD_d, oG_g, oT_t, oP_p, dI_v, dB_v, dS_v, dL_s, cell_z, cell_s, nth_z, nth_s, aV_z, aV_s, aI_v, aB_v, aS_v, aL_f, aO_o, aX_b, tst_t, cond_true, cond_false, Ex.same, Nat.beq, List.length_cons, List.length_nil, Int.toNat_natCast, beqTT, beqTF, beqFT, beqFF, mid_lt, mid_lt', dec_nn, hwr, Bool.and_self]
    simp only [setD_mid, List.set_cons_zero, List.set_cons_succ]
    exact k
/- loop.example/g00119/laws.toWork -/
theorem f358 {row : Row} (h : ShL E (E 388) row) (hw : wtRow row ≤ 1048576) : Ev fs 358 [.g row] ⟨.g row, []⟩ := by
  rw [E388] at h
  obtain ⟨na0, ra0, rfl, pa0, h_a0⟩ := inv_i h
  obtain ⟨na1, ra1, rfl, pa1, h_a1⟩ := inv_i h_a0
  obtain ⟨na2, ra2, rfl, pa2, h_a2⟩ := inv_i h_a1
  obtain ⟨sa3, ra3, rfl, pa3, h_a3⟩ := inv_s h_a2
  obtain ⟨na4, ra4, rfl, pa4, h_a4⟩ := inv_i h_a3
  obtain ⟨la5, ra5, rfl, pa5, h_a5⟩ := inv_sl W9 h_a4
  obtain ⟨la6, ra6, rfl, pa6, h_a6⟩ := inv_sl W48 h_a5
  cases inv_nil h_a6
  simp only [wtRow, wtD] at hw
  refine Ev.of (af := a358) rfl rfl (Evt.congr (fun d n => a358q ..) ?_)
  refine ev_call (f81 (by rw [E48]; exact mk_i (by assumption) (mk_s (by assumption) (mk_i (by assumption) (mk_sl W9 (by assumption) (mk_sl W48 (by assumption) (ShL.nil)))))) (by first | omega | (simp only [wtRow, wtD]; omega))) ?_
  simp -implicitDefEqProofs only [cI, cB, cS, cL, oD_d, oG_g, oT_t, oP_p, dI_v, dB_v, dS_v, dL_s, cell_z, cell_s, nth_z, nth_s, aV_z, aV_s, aI_v, aB_v, aS_v, aL_f, aO_o, aX_b, tst_t, cond_true, cond_false, Ex.same, Nat.beq, List.length_cons, List.length_nil, Int.toNat_natCast, beqTT, beqTF, beqFT, beqFF]
  exact Evt.ret
/- loop.example/g00119/laws.toWorkS -/
theorem f300 {l : Rows} (hl : SL E 388 l) (hw : l.length + wtRows l ≤ 1048576) : Ev fs 300 [.d (.s 7 l)] ⟨.d (.s 7 l), []⟩ := by
  refine to_rows (fun d n acc i => l300x0 (TabD fs d) d n [.fz 7 l, .o 7 acc, .v (.int .i64 i)]) (af := a300) (z := [.v (.int .i64 0), .v (.int .i64 0), .v (.int .i64 0), .v (.string ByteArray.empty), .v (.int .i64 0), .s 1 [], .s 5 []]) rfl rfl (fun d => a300q ..) (by omega) (by decide) (fun d n acc => ?_) (fun pre x post res ha hp k => ?_)
  · rw [l300x0s]
    simp -implicitDefEqProofs only [cI, cB, cS, cL, oD_d, oG_g, oT_t, oP_p, dI_v, dB_v, dS_v, dL_s, cell_z, cell_s, nth_z, nth_s, aV_z, aV_s, aI_v, aB_v, aS_v, aL_f, aO_o, aX_b, tst_t, cond_true, cond_false, Ex.same, Nat.beq, List.length_cons, List.length_nil, Int.toNat_natCast, beqTT, beqTF, beqFT, beqFF, Int.lt_irrefl, decide_false]
  · have hwx := wt_mid (pre := pre) (x := x) (post := post)
    have hwr := wrap_succ hp hl.1
    subst ha
    have h := hl.mid
    have h' := h
    rw [E388] at h
    obtain ⟨na0, ra0, rfl, pa0, h_a0⟩ := inv_i h
    obtain ⟨na1, ra1, rfl, pa1, h_a1⟩ := inv_i h_a0
    obtain ⟨na2, ra2, rfl, pa2, h_a2⟩ := inv_i h_a1
    obtain ⟨sa3, ra3, rfl, pa3, h_a3⟩ := inv_s h_a2
    obtain ⟨na4, ra4, rfl, pa4, h_a4⟩ := inv_i h_a3
    obtain ⟨la5, ra5, rfl, pa5, h_a5⟩ := inv_sl W9 h_a4
    obtain ⟨la6, ra6, rfl, pa6, h_a6⟩ := inv_sl W48 h_a5
    cases inv_nil h_a6
    simp only [l300x0s]
    simp -implicitDefEqProofs only [cI, cB, cS, cL, oD_d, oG_g, oT_t, oP_p, dI_v, dB_v, dS_v, dL_s, cell_z, cell_s, nth_z, nth_s, aV_z, aV_s, aI_v, aB_v, aS_v, aL_f, aO_o, aX_b, tst_t, cond_true, cond_false, Ex.same, Nat.beq, List.length_cons, List.length_nil, Int.toNat_natCast, beqTT, beqTF, beqFT, beqFF, mid_lt, mid_lt', dec_nn, look_mid, hwr, Bool.and_self]
    simp only [wtRow, wtD] at hwx
    refine ev_call (f358 (by assumption) (by first | omega | (simp only [wtRow, wtD]; omega))) ?_
    simp -implicitDefEqProofs only [cI, cB, cS, cL, oD_d, oG_g, oT_t, oP_p, dI_v, dB_v, dS_v, dL_s, cell_z, cell_s, nth_z, nth_s, aV_z, aV_s, aI_v, aB_v, aS_v, aL_f, aO_o, aX_b, tst_t, cond_true, cond_false, Ex.same, Nat.beq, List.length_cons, List.length_nil, Int.toNat_natCast, beqTT, beqTF, beqFT, beqFF, mid_lt, mid_lt', dec_nn, hwr, Bool.and_self]
    simp only [setD_mid, List.set_cons_zero, List.set_cons_succ]
    exact k
/- loop.example/g00119/laws.toIsle -/
theorem f211 {row : Row} (h : ShL E (E 260) row) (hw : wtRow row ≤ 1048576) : Ev fs 211 [.g row] ⟨.g row, []⟩ := by
  rw [E260] at h
  obtain ⟨sa0, ra0, rfl, pa0, h_a0⟩ := inv_s h
  obtain ⟨na1, ra1, rfl, pa1, h_a1⟩ := inv_i h_a0
  obtain ⟨na2, ra2, rfl, pa2, h_a2⟩ := inv_i h_a1
  obtain ⟨la3, ra3, rfl, pa3, h_a3⟩ := inv_sl W388 h_a2
  obtain ⟨la4, ra4, rfl, pa4, h_a4⟩ := inv_sl W245 h_a3
  cases inv_nil h_a4
  simp only [wtRow, wtD] at hw
  refine Ev.of (af := a211) rfl rfl (Evt.congr (fun d n => a211q ..) ?_)
  refine ev_call (f300 (by assumption) (by first | omega | (simp only [wtRow, wtD]; omega))) ?_
  simp -implicitDefEqProofs only [cI, cB, cS, cL, oD_d, oG_g, oT_t, oP_p, dI_v, dB_v, dS_v, dL_s, cell_z, cell_s, nth_z, nth_s, aV_z, aV_s, aI_v, aB_v, aS_v, aL_f, aO_o, aX_b, tst_t, cond_true, cond_false, Ex.same, Nat.beq, List.length_cons, List.length_nil, Int.toNat_natCast, beqTT, beqTF, beqFT, beqFF]
  refine ev_call (f84 (by assumption) (by first | omega | (simp only [wtRow, wtD]; omega))) ?_
  simp -implicitDefEqProofs only [cI, cB, cS, cL, oD_d, oG_g, oT_t, oP_p, dI_v, dB_v, dS_v, dL_s, cell_z, cell_s, nth_z, nth_s, aV_z, aV_s, aI_v, aB_v, aS_v, aL_f, aO_o, aX_b, tst_t, cond_true, cond_false, Ex.same, Nat.beq, List.length_cons, List.length_nil, Int.toNat_natCast, beqTT, beqTF, beqFT, beqFF]
  exact Evt.ret
/- loop.example/g00119/laws.toIsleS -/
theorem f105 {l : Rows} (hl : SL E 260 l) (hw : l.length + wtRows l ≤ 1048576) : Ev fs 105 [.d (.s 5 l)] ⟨.d (.s 5 l), []⟩ := by
  refine to_rows (fun d n acc i => l105x0 (TabD fs d) d n [.fz 5 l, .o 5 acc, .v (.int .i64 i)]) (af := a105) (z := [.v (.string ByteArray.empty), .v (.int .i64 0), .v (.int .i64 0), .s 7 [], .s 2 []]) rfl rfl (fun d => a105q ..) (by omega) (by decide) (fun d n acc => ?_) (fun pre x post res ha hp k => ?_)
  · rw [l105x0s]
    simp -implicitDefEqProofs only [cI, cB, cS, cL, oD_d, oG_g, oT_t, oP_p, dI_v, dB_v, dS_v, dL_s, cell_z, cell_s, nth_z, nth_s, aV_z, aV_s, aI_v, aB_v, aS_v, aL_f, aO_o, aX_b, tst_t, cond_true, cond_false, Ex.same, Nat.beq, List.length_cons, List.length_nil, Int.toNat_natCast, beqTT, beqTF, beqFT, beqFF, Int.lt_irrefl, decide_false]
  · have hwx := wt_mid (pre := pre) (x := x) (post := post)
    have hwr := wrap_succ hp hl.1
    subst ha
    have h := hl.mid
    have h' := h
    rw [E260] at h
    obtain ⟨sa0, ra0, rfl, pa0, h_a0⟩ := inv_s h
    obtain ⟨na1, ra1, rfl, pa1, h_a1⟩ := inv_i h_a0
    obtain ⟨na2, ra2, rfl, pa2, h_a2⟩ := inv_i h_a1
    obtain ⟨la3, ra3, rfl, pa3, h_a3⟩ := inv_sl W388 h_a2
    obtain ⟨la4, ra4, rfl, pa4, h_a4⟩ := inv_sl W245 h_a3
    cases inv_nil h_a4
    simp only [l105x0s]
    simp -implicitDefEqProofs only [cI, cB, cS, cL, oD_d, oG_g, oT_t, oP_p, dI_v, dB_v, dS_v, dL_s, cell_z, cell_s, nth_z, nth_s, aV_z, aV_s, aI_v, aB_v, aS_v, aL_f, aO_o, aX_b, tst_t, cond_true, cond_false, Ex.same, Nat.beq, List.length_cons, List.length_nil, Int.toNat_natCast, beqTT, beqTF, beqFT, beqFF, mid_lt, mid_lt', dec_nn, look_mid, hwr, Bool.and_self]
    simp only [wtRow, wtD] at hwx
    refine ev_call (f211 (by assumption) (by first | omega | (simp only [wtRow, wtD]; omega))) ?_
    simp -implicitDefEqProofs only [cI, cB, cS, cL, oD_d, oG_g, oT_t, oP_p, dI_v, dB_v, dS_v, dL_s, cell_z, cell_s, nth_z, nth_s, aV_z, aV_s, aI_v, aB_v, aS_v, aL_f, aO_o, aX_b, tst_t, cond_true, cond_false, Ex.same, Nat.beq, List.length_cons, List.length_nil, Int.toNat_natCast, beqTT, beqTF, beqFT, beqFF, mid_lt, mid_lt', dec_nn, hwr, Bool.and_self]
    simp only [setD_mid, List.set_cons_zero, List.set_cons_succ]
    exact k
/- loop.example/g00119/laws.toMsg -/
theorem f212 {row : Row} (h : ShL E (E 263) row) (hw : wtRow row ≤ 1048576) : Ev fs 212 [.g row] ⟨.g row, []⟩ := by
  rw [E263] at h
  obtain ⟨na0, ra0, rfl, pa0, h_a0⟩ := inv_i h
  obtain ⟨sa1, ra1, rfl, pa1, h_a1⟩ := inv_s h_a0
  obtain ⟨na2, ra2, rfl, pa2, h_a2⟩ := inv_i h_a1
  obtain ⟨la3, ra3, rfl, pa3, h_a3⟩ := inv_sl W388 h_a2
  obtain ⟨la4, ra4, rfl, pa4, h_a4⟩ := inv_sl W245 h_a3
  cases inv_nil h_a4
  simp only [wtRow, wtD] at hw
  refine Ev.of (af := a212) rfl rfl (Evt.congr (fun d n => a212q ..) ?_)
  refine ev_call (f300 (by assumption) (by first | omega | (simp only [wtRow, wtD]; omega))) ?_
  simp -implicitDefEqProofs only [cI, cB, cS, cL, oD_d, oG_g, oT_t, oP_p, dI_v, dB_v, dS_v, dL_s, cell_z, cell_s, nth_z, nth_s, aV_z, aV_s, aI_v, aB_v, aS_v, aL_f, aO_o, aX_b, tst_t, cond_true, cond_false, Ex.same, Nat.beq, List.length_cons, List.length_nil, Int.toNat_natCast, beqTT, beqTF, beqFT, beqFF]
  refine ev_call (f84 (by assumption) (by first | omega | (simp only [wtRow, wtD]; omega))) ?_
  simp -implicitDefEqProofs only [cI, cB, cS, cL, oD_d, oG_g, oT_t, oP_p, dI_v, dB_v, dS_v, dL_s, cell_z, cell_s, nth_z, nth_s, aV_z, aV_s, aI_v, aB_v, aS_v, aL_f, aO_o, aX_b, tst_t, cond_true, cond_false, Ex.same, Nat.beq, List.length_cons, List.length_nil, Int.toNat_natCast, beqTT, beqTF, beqFT, beqFF]
  exact Evt.ret
/- loop.example/g00119/laws.toMsgS -/
theorem f106 {l : Rows} (hl : SL E 263 l) (hw : l.length + wtRows l ≤ 1048576) : Ev fs 106 [.d (.s 5 l)] ⟨.d (.s 5 l), []⟩ := by
  refine to_rows (fun d n acc i => l106x0 (TabD fs d) d n [.fz 5 l, .o 5 acc, .v (.int .i64 i)]) (af := a106) (z := [.v (.int .i64 0), .v (.string ByteArray.empty), .v (.int .i64 0), .s 7 [], .s 2 []]) rfl rfl (fun d => a106q ..) (by omega) (by decide) (fun d n acc => ?_) (fun pre x post res ha hp k => ?_)
  · rw [l106x0s]
    simp -implicitDefEqProofs only [cI, cB, cS, cL, oD_d, oG_g, oT_t, oP_p, dI_v, dB_v, dS_v, dL_s, cell_z, cell_s, nth_z, nth_s, aV_z, aV_s, aI_v, aB_v, aS_v, aL_f, aO_o, aX_b, tst_t, cond_true, cond_false, Ex.same, Nat.beq, List.length_cons, List.length_nil, Int.toNat_natCast, beqTT, beqTF, beqFT, beqFF, Int.lt_irrefl, decide_false]
  · have hwx := wt_mid (pre := pre) (x := x) (post := post)
    have hwr := wrap_succ hp hl.1
    subst ha
    have h := hl.mid
    have h' := h
    rw [E263] at h
    obtain ⟨na0, ra0, rfl, pa0, h_a0⟩ := inv_i h
    obtain ⟨sa1, ra1, rfl, pa1, h_a1⟩ := inv_s h_a0
    obtain ⟨na2, ra2, rfl, pa2, h_a2⟩ := inv_i h_a1
    obtain ⟨la3, ra3, rfl, pa3, h_a3⟩ := inv_sl W388 h_a2
    obtain ⟨la4, ra4, rfl, pa4, h_a4⟩ := inv_sl W245 h_a3
    cases inv_nil h_a4
    simp only [l106x0s]
    simp -implicitDefEqProofs only [cI, cB, cS, cL, oD_d, oG_g, oT_t, oP_p, dI_v, dB_v, dS_v, dL_s, cell_z, cell_s, nth_z, nth_s, aV_z, aV_s, aI_v, aB_v, aS_v, aL_f, aO_o, aX_b, tst_t, cond_true, cond_false, Ex.same, Nat.beq, List.length_cons, List.length_nil, Int.toNat_natCast, beqTT, beqTF, beqFT, beqFF, mid_lt, mid_lt', dec_nn, look_mid, hwr, Bool.and_self]
    simp only [wtRow, wtD] at hwx
    refine ev_call (f212 (by assumption) (by first | omega | (simp only [wtRow, wtD]; omega))) ?_
    simp -implicitDefEqProofs only [cI, cB, cS, cL, oD_d, oG_g, oT_t, oP_p, dI_v, dB_v, dS_v, dL_s, cell_z, cell_s, nth_z, nth_s, aV_z, aV_s, aI_v, aB_v, aS_v, aL_f, aO_o, aX_b, tst_t, cond_true, cond_false, Ex.same, Nat.beq, List.length_cons, List.length_nil, Int.toNat_natCast, beqTT, beqTF, beqFT, beqFF, mid_lt, mid_lt', dec_nn, hwr, Bool.and_self]
    simp only [setD_mid, List.set_cons_zero, List.set_cons_succ]
    exact k
/- loop.example/g00119/laws.toFed -/
theorem f25 {row : Row} (h : ShL E (E 79) row) (hw : wtRow row ≤ 1048576) : Ev fs 25 [.g row] ⟨.g row, []⟩ := by
  rw [E79] at h
  obtain ⟨na0, ra0, rfl, pa0, h_a0⟩ := inv_i h
  obtain ⟨na1, ra1, rfl, pa1, h_a1⟩ := inv_i h_a0
  obtain ⟨na2, ra2, rfl, pa2, h_a2⟩ := inv_i h_a1
  obtain ⟨la3, ra3, rfl, pa3, h_a3⟩ := inv_sl W201 h_a2
  obtain ⟨la4, ra4, rfl, pa4, h_a4⟩ := inv_sl W204 h_a3
  obtain ⟨la5, ra5, rfl, pa5, h_a5⟩ := inv_sl W206 h_a4
  obtain ⟨la6, ra6, rfl, pa6, h_a6⟩ := inv_sl W9 h_a5
  obtain ⟨ba7, ra7, rfl, h_a7⟩ := inv_b h_a6
  obtain ⟨la8, ra8, rfl, pa8, h_a8⟩ := inv_sl W5 h_a7
  obtain ⟨la9, ra9, rfl, pa9, h_a9⟩ := inv_sl W260 h_a8
  obtain ⟨la10, ra10, rfl, pa10, h_a10⟩ := inv_sl W263 h_a9
  obtain ⟨la11, ra11, rfl, pa11, h_a11⟩ := inv_sl W9 h_a10
  cases inv_nil h_a11
  simp only [wtRow, wtD] at hw
  refine Ev.of (af := a25) rfl rfl (Evt.congr (fun d n => a25q ..) ?_)
  refine ev_call (f11 (by rw [E27]; exact mk_i (by assumption) (mk_i (by assumption) (mk_i (by assumption) (mk_sl W201 (by assumption) (mk_sl W204 (by assumption) (mk_sl W206 (by assumption) (mk_sl W9 (by assumption) (ShL.nil)))))))) (by first | omega | (simp only [wtRow, wtD]; omega))) ?_
  simp -implicitDefEqProofs only [cI, cB, cS, cL, oD_d, oG_g, oT_t, oP_p, dI_v, dB_v, dS_v, dL_s, cell_z, cell_s, nth_z, nth_s, aV_z, aV_s, aI_v, aB_v, aS_v, aL_f, aO_o, aX_b, tst_t, cond_true, cond_false, Ex.same, Nat.beq, List.length_cons, List.length_nil, Int.toNat_natCast, beqTT, beqTF, beqFT, beqFF]
  refine ev_call (f104 (by assumption) (by first | omega | (simp only [wtRow, wtD]; omega))) ?_
  simp -implicitDefEqProofs only [cI, cB, cS, cL, oD_d, oG_g, oT_t, oP_p, dI_v, dB_v, dS_v, dL_s, cell_z, cell_s, nth_z, nth_s, aV_z, aV_s, aI_v, aB_v, aS_v, aL_f, aO_o, aX_b, tst_t, cond_true, cond_false, Ex.same, Nat.beq, List.length_cons, List.length_nil, Int.toNat_natCast, beqTT, beqTF, beqFT, beqFF]
  refine ev_call (f105 (by assumption) (by first | omega | (simp only [wtRow, wtD]; omega))) ?_
  simp -implicitDefEqProofs only [cI, cB, cS, cL, oD_d, oG_g, oT_t, oP_p, dI_v, dB_v, dS_v, dL_s, cell_z, cell_s, nth_z, nth_s, aV_z, aV_s, aI_v, aB_v, aS_v, aL_f, aO_o, aX_b, tst_t, cond_true, cond_false, Ex.same, Nat.beq, List.length_cons, List.length_nil, Int.toNat_natCast, beqTT, beqTF, beqFT, beqFF]
  refine ev_call (f106 (by assumption) (by first | omega | (simp only [wtRow, wtD]; omega))) ?_
  simp -implicitDefEqProofs only [cI, cB, cS, cL, oD_d, oG_g, oT_t, oP_p, dI_v, dB_v, dS_v, dL_s, cell_z, cell_s, nth_z, nth_s, aV_z, aV_s, aI_v, aB_v, aS_v, aL_f, aO_o, aX_b, tst_t, cond_true, cond_false, Ex.same, Nat.beq, List.length_cons, List.length_nil, Int.toNat_natCast, beqTT, beqTF, beqFT, beqFF]
  refine ev_call (f56 (by assumption) (by first | omega | (simp only [wtRow, wtD]; omega))) ?_
  simp -implicitDefEqProofs only [cI, cB, cS, cL, oD_d, oG_g, oT_t, oP_p, dI_v, dB_v, dS_v, dL_s, cell_z, cell_s, nth_z, nth_s, aV_z, aV_s, aI_v, aB_v, aS_v, aL_f, aO_o, aX_b, tst_t, cond_true, cond_false, Ex.same, Nat.beq, List.length_cons, List.length_nil, Int.toNat_natCast, beqTT, beqTF, beqFT, beqFF]
  exact Evt.ret
end Go.Am.Is
