/- What the functions of one family say in the end. Nothing is assumed. -/
import Derived.Test.YtgnicnelpcndgaaSmH
namespace Go.Am.Sm
set_option linter.unusedVariables false
set_option linter.unusedSimpArgs false
set_option maxRecDepth 8000
/- loop.example/g00119/laws.toStringS -/
theorem f68 {l : Rows} (hl : SL E 9 l) (hw : l.length + wtRows l ≤ 1048576) : Ev fs 68 [.d (.s 1 l)] ⟨.d (.s 1 l), []⟩ := by
  refine to_rows (fun d n acc i => l68x0 (TabD fs d) d n [.fz 1 l, .o 1 acc, .v (.int .i64 i)]) (af := a68) (z := [.v (.string ByteArray.empty)]) rfl rfl (fun d => a68q ..) (by omega) (by decide) (fun d n acc => ?_) (fun pre x post res ha hp k => ?_)
  · rw [l68x0s]
    simp only [cI, cB, cS, cL, oD_d, oG_g, oT_t, oP_p, dI_v, dB_v, dS_v, dL_s, cell_z, cell_s, nth_z, nth_s, aV_z, aV_s, aI_v, aB_v, aS_v, aL_f, aO_o, aX_b, tst_t, cond_true, cond_false, Ex.same, Nat.beq, List.length_cons, List.length_nil, Int.toNat_natCast, Int.lt_irrefl, decide_false]
  · have hwx := wt_mid (pre := pre) (x := x) (post := post)
    have hwr := wrap_succ hp hl.1
    subst ha
    have h := hl.mid
    have h' := h
    rw [E9] at h
    obtain ⟨sa0, ra0, rfl, pa0, h_a0⟩ := inv_s h
    cases inv_nil h_a0
    simp only [l68x0s]
    simp only [cI, cB, cS, cL, oD_d, oG_g, oT_t, oP_p, dI_v, dB_v, dS_v, dL_s, cell_z, cell_s, nth_z, nth_s, aV_z, aV_s, aI_v, aB_v, aS_v, aL_f, aO_o, aX_b, tst_t, cond_true, cond_false, Ex.same, Nat.beq, List.length_cons, List.length_nil, Int.toNat_natCast, mid_lt, mid_lt', dec_nn, look_mid, hwr, Bool.and_self]
    simp only [wtRow, wtD] at hwx
    simp only [setD_mid, List.set_cons_zero, List.set_cons_succ]
    exact k
/- loop.example/g00119/laws.toValueS -/
mutual
theorem fr176 {row : Row} (h : ShL E (E 150) row) (hw : wtRow row ≤ 1048576) (W : Nat) (hW : 2 * wtRow row + 1 = W) : Ev fs 176 [.g row] ⟨.g row, []⟩ := by
  rw [E150] at h
  obtain ⟨na0, ra0, rfl, pa0, h_a0⟩ := inv_i h
  obtain ⟨sa1, ra1, rfl, pa1, h_a1⟩ := inv_s h_a0
  obtain ⟨na2, ra2, rfl, pa2, h_a2⟩ := inv_i h_a1
  obtain ⟨la3, ra3, rfl, pa3, h_a3⟩ := inv_sl W9 h_a2
  obtain ⟨la4, ra4, rfl, pa4, h_a4⟩ := inv_sl W150 h_a3
  cases inv_nil h_a4
  simp only [wtRow, wtD] at hw
  refine Ev.of (af := a176) rfl rfl (Evt.congr (fun d n => a176q ..) ?_)
  refine ev_call (f68 (by assumption) (by first | omega | (simp only [wtRow, wtD]; omega))) ?_
  simp only [cI, cB, cS, cL, oD_d, oG_g, oT_t, oP_p, dI_v, dB_v, dS_v, dL_s, cell_z, cell_s, nth_z, nth_s, aV_z, aV_s, aI_v, aB_v, aS_v, aL_f, aO_o, aX_b, tst_t, cond_true, cond_false, Ex.same, Nat.beq, List.length_cons, List.length_nil, Int.toNat_natCast]
  refine ev_call (fr209 (by assumption) (by first | omega | (simp only [wtRow, wtD]; omega)) _ rfl) ?_
  simp only [cI, cB, cS, cL, oD_d, oG_g, oT_t, oP_p, dI_v, dB_v, dS_v, dL_s, cell_z, cell_s, nth_z, nth_s, aV_z, aV_s, aI_v, aB_v, aS_v, aL_f, aO_o, aX_b, tst_t, cond_true, cond_false, Ex.same, Nat.beq, List.length_cons, List.length_nil, Int.toNat_natCast]
  exact Evt.ret
termination_by W
decreasing_by all_goals (try have := hwx); (try simp only [wtRow, wtD] at *); omega
theorem fr209 {l : Rows} (hl : SL E 150 l) (hw : l.length + wtRows l ≤ 1048576) (W : Nat) (hW : 2 * (l.length + wtRows l) = W) : Ev fs 209 [.d (.s 5 l)] ⟨.d (.s 5 l), []⟩ := by
  refine to_rows (fun d n acc i => l209x0 (TabD fs d) d n [.fz 5 l, .o 5 acc, .v (.int .i64 i)]) (af := a209) (z := [.v (.int .i64 0), .v (.string ByteArray.empty), .v (.int .i64 0), .s 1 [], .s 5 []]) rfl rfl (fun d => a209q ..) (by omega) (by decide) (fun d n acc => ?_) (fun pre x post res ha hp k => ?_)
  · rw [l209x0s]
    simp only [cI, cB, cS, cL, oD_d, oG_g, oT_t, oP_p, dI_v, dB_v, dS_v, dL_s, cell_z, cell_s, nth_z, nth_s, aV_z, aV_s, aI_v, aB_v, aS_v, aL_f, aO_o, aX_b, tst_t, cond_true, cond_false, Ex.same, Nat.beq, List.length_cons, List.length_nil, Int.toNat_natCast, Int.lt_irrefl, decide_false]
  · have hwx := wt_mid (pre := pre) (x := x) (post := post)
    have hwr := wrap_succ hp hl.1
    subst ha
    have h := hl.mid
    have h' := h
    rw [E150] at h
    obtain ⟨na0, ra0, rfl, pa0, h_a0⟩ := inv_i h
    obtain ⟨sa1, ra1, rfl, pa1, h_a1⟩ := inv_s h_a0
    obtain ⟨na2, ra2, rfl, pa2, h_a2⟩ := inv_i h_a1
    obtain ⟨la3, ra3, rfl, pa3, h_a3⟩ := inv_sl W9 h_a2
    obtain ⟨la4, ra4, rfl, pa4, h_a4⟩ := inv_sl W150 h_a3
    cases inv_nil h_a4
    simp only [l209x0s]
    simp only [cI, cB, cS, cL, oD_d, oG_g, oT_t, oP_p, dI_v, dB_v, dS_v, dL_s, cell_z, cell_s, nth_z, nth_s, aV_z, aV_s, aI_v, aB_v, aS_v, aL_f, aO_o, aX_b, tst_t, cond_true, cond_false, Ex.same, Nat.beq, List.length_cons, List.length_nil, Int.toNat_natCast, mid_lt, mid_lt', dec_nn, look_mid, hwr, Bool.and_self]
    simp only [wtRow, wtD] at hwx
    refine ev_call (fr176 (by assumption) (by first | omega | (simp only [wtRow, wtD]; omega)) _ rfl) ?_
    simp only [cI, cB, cS, cL, oD_d, oG_g, oT_t, oP_p, dI_v, dB_v, dS_v, dL_s, cell_z, cell_s, nth_z, nth_s, aV_z, aV_s, aI_v, aB_v, aS_v, aL_f, aO_o, aX_b, tst_t, cond_true, cond_false, Ex.same, Nat.beq, List.length_cons, List.length_nil, Int.toNat_natCast, mid_lt, mid_lt', dec_nn, hwr, Bool.and_self]
    simp only [setD_mid, List.set_cons_zero, List.set_cons_succ]
    exact k
termination_by W
decreasing_by all_goals (try have := hwx); (try simp only [wtRow, wtD] at *); omega
end
theorem f176 {row : Row} (h : ShL E (E 150) row) (hw : wtRow row ≤ 1048576) : Ev fs 176 [.g row] ⟨.g row, []⟩ := fr176 h hw _ rfl
theorem f209 {l : Rows} (hl : SL E 150 l) (hw : l.length + wtRows l ≤ 1048576) : Ev fs 209 [.d (.s 5 l)] ⟨.d (.s 5 l), []⟩ := fr209 hl hw _ rfl
/- loop.example/g00119/laws.toTerm -/
theorem f237 {row : Row} (h : ShL E (E 267) row) (hw : wtRow row ≤ 1048576) : Ev fs 237 [.g row] ⟨.g row, []⟩ := by
  rw [E267] at h
  obtain ⟨na0, ra0, rfl, pa0, h_a0⟩ := inv_i h
  obtain ⟨sa1, ra1, rfl, pa1, h_a1⟩ := inv_s h_a0
  obtain ⟨la2, ra2, rfl, pa2, h_a2⟩ := inv_sl W9 h_a1
  cases inv_nil h_a2
  simp only [wtRow, wtD] at hw
  refine Ev.of (af := a237) rfl rfl (Evt.congr (fun d n => a237q ..) ?_)
  refine ev_call (f68 (by assumption) (by first | omega | (simp only [wtRow, wtD]; omega))) ?_
  simp only [cI, cB, cS, cL, oD_d, oG_g, oT_t, oP_p, dI_v, dB_v, dS_v, dL_s, cell_z, cell_s, nth_z, nth_s, aV_z, aV_s, aI_v, aB_v, aS_v, aL_f, aO_o, aX_b, tst_t, cond_true, cond_false, Ex.same, Nat.beq, List.length_cons, List.length_nil, Int.toNat_natCast]
  exact Evt.ret
/- loop.example/g00119/laws.toTermS -/
theorem f217 {l : Rows} (hl : SL E 267 l) (hw : l.length + wtRows l ≤ 1048576) : Ev fs 217 [.d (.s 3 l)] ⟨.d (.s 3 l), []⟩ := by
  refine to_rows (fun d n acc i => l217x0 (TabD fs d) d n [.fz 3 l, .o 3 acc, .v (.int .i64 i)]) (af := a217) (z := [.v (.int .i64 0), .v (.string ByteArray.empty), .s 1 []]) rfl rfl (fun d => a217q ..) (by omega) (by decide) (fun d n acc => ?_) (fun pre x post res ha hp k => ?_)
  · rw [l217x0s]
    simp only [cI, cB, cS, cL, oD_d, oG_g, oT_t, oP_p, dI_v, dB_v, dS_v, dL_s, cell_z, cell_s, nth_z, nth_s, aV_z, aV_s, aI_v, aB_v, aS_v, aL_f, aO_o, aX_b, tst_t, cond_true, cond_false, Ex.same, Nat.beq, List.length_cons, List.length_nil, Int.toNat_natCast, Int.lt_irrefl, decide_false]
  · have hwx := wt_mid (pre := pre) (x := x) (post := post)
    have hwr := wrap_succ hp hl.1
    subst ha
    have h := hl.mid
    have h' := h
    rw [E267] at h
    obtain ⟨na0, ra0, rfl, pa0, h_a0⟩ := inv_i h
    obtain ⟨sa1, ra1, rfl, pa1, h_a1⟩ := inv_s h_a0
    obtain ⟨la2, ra2, rfl, pa2, h_a2⟩ := inv_sl W9 h_a1
    cases inv_nil h_a2
    simp only [l217x0s]
    simp only [cI, cB, cS, cL, oD_d, oG_g, oT_t, oP_p, dI_v, dB_v, dS_v, dL_s, cell_z, cell_s, nth_z, nth_s, aV_z, aV_s, aI_v, aB_v, aS_v, aL_f, aO_o, aX_b, tst_t, cond_true, cond_false, Ex.same, Nat.beq, List.length_cons, List.length_nil, Int.toNat_natCast, mid_lt, mid_lt', dec_nn, look_mid, hwr, Bool.and_self]
    simp only [wtRow, wtD] at hwx
    refine ev_call (f237 (by assumption) (by first | omega | (simp only [wtRow, wtD]; omega))) ?_
    simp only [cI, cB, cS, cL, oD_d, oG_g, oT_t, oP_p, dI_v, dB_v, dS_v, dL_s, cell_z, cell_s, nth_z, nth_s, aV_z, aV_s, aI_v, aB_v, aS_v, aL_f, aO_o, aX_b, tst_t, cond_true, cond_false, Ex.same, Nat.beq, List.length_cons, List.length_nil, Int.toNat_natCast, mid_lt, mid_lt', dec_nn, hwr, Bool.and_self]
    simp only [setD_mid, List.set_cons_zero, List.set_cons_succ]
    exact k
/- loop.example/g00119/laws.toWeigh -/
theorem f238 {row : Row} (h : ShL E (E 269) row) (hw : wtRow row ≤ 1048576) : Ev fs 238 [.g row] ⟨.g row, []⟩ := by
  rw [E269] at h
  obtain ⟨sa0, ra0, rfl, pa0, h_a0⟩ := inv_s h
  obtain ⟨na1, ra1, rfl, pa1, h_a1⟩ := inv_i h_a0
  cases inv_nil h_a1
  simp only [wtRow, wtD] at hw
  refine Ev.of (af := a238) rfl rfl (Evt.congr (fun d n => a238q ..) ?_)
  exact Evt.ret
/- loop.example/g00119/laws.toWeighS -/
theorem f218 {l : Rows} (hl : SL E 269 l) (hw : l.length + wtRows l ≤ 1048576) : Ev fs 218 [.d (.s 2 l)] ⟨.d (.s 2 l), []⟩ := by
  refine to_rows (fun d n acc i => l218x0 (TabD fs d) d n [.fz 2 l, .o 2 acc, .v (.int .i64 i)]) (af := a218) (z := [.v (.string ByteArray.empty), .v (.int .i64 0)]) rfl rfl (fun d => a218q ..) (by omega) (by decide) (fun d n acc => ?_) (fun pre x post res ha hp k => ?_)
  · rw [l218x0s]
    simp only [cI, cB, cS, cL, oD_d, oG_g, oT_t, oP_p, dI_v, dB_v, dS_v, dL_s, cell_z, cell_s, nth_z, nth_s, aV_z, aV_s, aI_v, aB_v, aS_v, aL_f, aO_o, aX_b, tst_t, cond_true, cond_false, Ex.same, Nat.beq, List.length_cons, List.length_nil, Int.toNat_natCast, Int.lt_irrefl, decide_false]
  · have hwx := wt_mid (pre := pre) (x := x) (post := post)
    have hwr := wrap_succ hp hl.1
    subst ha
    have h := hl.mid
    have h' := h
    rw [E269] at h
    obtain ⟨sa0, ra0, rfl, pa0, h_a0⟩ := inv_s h
    obtain ⟨na1, ra1, rfl, pa1, h_a1⟩ := inv_i h_a0
    cases inv_nil h_a1
    simp only [l218x0s]
    simp only [cI, cB, cS, cL, oD_d, oG_g, oT_t, oP_p, dI_v, dB_v, dS_v, dL_s, cell_z, cell_s, nth_z, nth_s, aV_z, aV_s, aI_v, aB_v, aS_v, aL_f, aO_o, aX_b, tst_t, cond_true, cond_false, Ex.same, Nat.beq, List.length_cons, List.length_nil, Int.toNat_natCast, mid_lt, mid_lt', dec_nn, look_mid, hwr, Bool.and_self]
    simp only [wtRow, wtD] at hwx
    refine ev_call (f238 (by assumption) (by first | omega | (simp only [wtRow, wtD]; omega))) ?_
    simp only [cI, cB, cS, cL, oD_d, oG_g, oT_t, oP_p, dI_v, dB_v, dS_v, dL_s, cell_z, cell_s, nth_z, nth_s, aV_z, aV_s, aI_v, aB_v, aS_v, aL_f, aO_o, aX_b, tst_t, cond_true, cond_false, Ex.same, Nat.beq, List.length_cons, List.length_nil, Int.toNat_natCast, mid_lt, mid_lt', dec_nn, hwr, Bool.and_self]
    simp only [setD_mid, List.set_cons_zero, List.set_cons_succ]
    exact k
/- loop.example/g00119/laws.toWant -/
theorem f183 {row : Row} (h : ShL E (E 174) row) (hw : wtRow row ≤ 1048576) : Ev fs 183 [.g row] ⟨.g row, []⟩ := by
  rw [E174] at h
  obtain ⟨na0, ra0, rfl, pa0, h_a0⟩ := inv_i h
  obtain ⟨la1, ra1, rfl, pa1, h_a1⟩ := inv_sl W267 h_a0
  obtain ⟨la2, ra2, rfl, pa2, h_a2⟩ := inv_sl W9 h_a1
  obtain ⟨la3, ra3, rfl, pa3, h_a3⟩ := inv_sl W269 h_a2
  cases inv_nil h_a3
  simp only [wtRow, wtD] at hw
  refine Ev.of (af := a183) rfl rfl (Evt.congr (fun d n => a183q ..) ?_)
  refine ev_call (f217 (by assumption) (by first | omega | (simp only [wtRow, wtD]; omega))) ?_
  simp only [cI, cB, cS, cL, oD_d, oG_g, oT_t, oP_p, dI_v, dB_v, dS_v, dL_s, cell_z, cell_s, nth_z, nth_s, aV_z, aV_s, aI_v, aB_v, aS_v, aL_f, aO_o, aX_b, tst_t, cond_true, cond_false, Ex.same, Nat.beq, List.length_cons, List.length_nil, Int.toNat_natCast]
  refine ev_call (f68 (by assumption) (by first | omega | (simp only [wtRow, wtD]; omega))) ?_
  simp only [cI, cB, cS, cL, oD_d, oG_g, oT_t, oP_p, dI_v, dB_v, dS_v, dL_s, cell_z, cell_s, nth_z, nth_s, aV_z, aV_s, aI_v, aB_v, aS_v, aL_f, aO_o, aX_b, tst_t, cond_true, cond_false, Ex.same, Nat.beq, List.length_cons, List.length_nil, Int.toNat_natCast]
  refine ev_call (f218 (by assumption) (by first | omega | (simp only [wtRow, wtD]; omega))) ?_
  simp only [cI, cB, cS, cL, oD_d, oG_g, oT_t, oP_p, dI_v, dB_v, dS_v, dL_s, cell_z, cell_s, nth_z, nth_s, aV_z, aV_s, aI_v, aB_v, aS_v, aL_f, aO_o, aX_b, tst_t, cond_true, cond_false, Ex.same, Nat.beq, List.length_cons, List.length_nil, Int.toNat_natCast]
  exact Evt.ret
/- loop.example/g00119/laws.toOp -/
theorem f249 {row : Row} (h : ShL E (E 282) row) (hw : wtRow row ≤ 1048576) : Ev fs 249 [.g row] ⟨.g row, []⟩ := by
  rw [E282] at h
  obtain ⟨na0, ra0, rfl, pa0, h_a0⟩ := inv_i h
  obtain ⟨la1, ra1, rfl, pa1, h_a1⟩ := inv_sl W9 h_a0
  obtain ⟨na2, ra2, rfl, pa2, h_a2⟩ := inv_i h_a1
  obtain ⟨sa3, ra3, rfl, pa3, h_a3⟩ := inv_s h_a2
  obtain ⟨na4, ra4, rfl, pa4, h_a4⟩ := inv_i h_a3
  obtain ⟨la5, ra5, rfl, pa5, h_a5⟩ := inv_sl W9 h_a4
  obtain ⟨la6, ra6, rfl, pa6, h_a6⟩ := inv_sl W150 h_a5
  cases inv_nil h_a6
  simp only [wtRow, wtD] at hw
  refine Ev.of (af := a249) rfl rfl (Evt.congr (fun d n => a249q ..) ?_)
  refine ev_call (f68 (by assumption) (by first | omega | (simp only [wtRow, wtD]; omega))) ?_
  simp only [cI, cB, cS, cL, oD_d, oG_g, oT_t, oP_p, dI_v, dB_v, dS_v, dL_s, cell_z, cell_s, nth_z, nth_s, aV_z, aV_s, aI_v, aB_v, aS_v, aL_f, aO_o, aX_b, tst_t, cond_true, cond_false, Ex.same, Nat.beq, List.length_cons, List.length_nil, Int.toNat_natCast]
  refine ev_call (f176 (by rw [E150]; exact mk_i (by assumption) (mk_s (by assumption) (mk_i (by assumption) (mk_sl W9 (by assumption) (mk_sl W150 (by assumption) (ShL.nil)))))) (by first | omega | (simp only [wtRow, wtD]; omega))) ?_
  simp only [cI, cB, cS, cL, oD_d, oG_g, oT_t, oP_p, dI_v, dB_v, dS_v, dL_s, cell_z, cell_s, nth_z, nth_s, aV_z, aV_s, aI_v, aB_v, aS_v, aL_f, aO_o, aX_b, tst_t, cond_true, cond_false, Ex.same, Nat.beq, List.length_cons, List.length_nil, Int.toNat_natCast]
  exact Evt.ret
/- loop.example/g00119/laws.toOpS -/
theorem f239 {l : Rows} (hl : SL E 282 l) (hw : l.length + wtRows l ≤ 1048576) : Ev fs 239 [.d (.s 7 l)] ⟨.d (.s 7 l), []⟩ := by
  refine to_rows (fun d n acc i => l239x0 (TabD fs d) d n [.fz 7 l, .o 7 acc, .v (.int .i64 i)]) (af := a239) (z := [.v (.int .i64 0), .s 1 [], .v (.int .i64 0), .v (.string ByteArray.empty), .v (.int .i64 0), .s 1 [], .s 5 []]) rfl rfl (fun d => a239q ..) (by omega) (by decide) (fun d n acc => ?_) (fun pre x post res ha hp k => ?_)
  · rw [l239x0s]
    simp only [cI, cB, cS, cL, oD_d, oG_g, oT_t, oP_p, dI_v, dB_v, dS_v, dL_s, cell_z, cell_s, nth_z, nth_s, aV_z, aV_s, aI_v, aB_v, aS_v, aL_f, aO_o, aX_b, tst_t, cond_true, cond_false, Ex.same, Nat.beq, List.length_cons, List.length_nil, Int.toNat_natCast, Int.lt_irrefl, decide_false]
  · have hwx := wt_mid (pre := pre) (x := x) (post := post)
    have hwr := wrap_succ hp hl.1
    subst ha
    have h := hl.mid
    have h' := h
    rw [E282] at h
    obtain ⟨na0, ra0, rfl, pa0, h_a0⟩ := inv_i h
    obtain ⟨la1, ra1, rfl, pa1, h_a1⟩ := inv_sl W9 h_a0
    obtain ⟨na2, ra2, rfl, pa2, h_a2⟩ := inv_i h_a1
    obtain ⟨sa3, ra3, rfl, pa3, h_a3⟩ := inv_s h_a2
    obtain ⟨na4, ra4, rfl, pa4, h_a4⟩ := inv_i h_a3
    obtain ⟨la5, ra5, rfl, pa5, h_a5⟩ := inv_sl W9 h_a4
    obtain ⟨la6, ra6, rfl, pa6, h_a6⟩ := inv_sl W150 h_a5
    cases inv_nil h_a6
    simp only [l239x0s]
    simp only [cI, cB, cS, cL, oD_d, oG_g, oT_t, oP_p, dI_v, dB_v, dS_v, dL_s, cell_z, cell_s, nth_z, nth_s, aV_z, aV_s, aI_v, aB_v, aS_v, aL_f, aO_o, aX_b, tst_t, cond_true, cond_false, Ex.same, Nat.beq, List.length_cons, List.length_nil, Int.toNat_natCast, mid_lt, mid_lt', dec_nn, look_mid, hwr, Bool.and_self]
    simp only [wtRow, wtD] at hwx
    refine ev_call (f249 (by assumption) (by first | omega | (simp only [wtRow, wtD]; omega))) ?_
    simp only [cI, cB, cS, cL, oD_d, oG_g, oT_t, oP_p, dI_v, dB_v, dS_v, dL_s, cell_z, cell_s, nth_z, nth_s, aV_z, aV_s, aI_v, aB_v, aS_v, aL_f, aO_o, aX_b, tst_t, cond_true, cond_false, Ex.same, Nat.beq, List.length_cons, List.length_nil, Int.toNat_natCast, mid_lt, mid_lt', dec_nn, hwr, Bool.and_self]
    simp only [setD_mid, List.set_cons_zero, List.set_cons_succ]
    exact k
/- loop.example/g00119/laws.toOver -/
theorem f219 {row : Row} (h : ShL E (E 257) row) (hw : wtRow row ≤ 1048576) : Ev fs 219 [.g row] ⟨.g row, []⟩ := by
  rw [E257] at h
  obtain ⟨sa0, ra0, rfl, pa0, h_a0⟩ := inv_s h
  obtain ⟨la1, ra1, rfl, pa1, h_a1⟩ := inv_sl W282 h_a0
  cases inv_nil h_a1
  simp only [wtRow, wtD] at hw
  refine Ev.of (af := a219) rfl rfl (Evt.congr (fun d n => a219q ..) ?_)
  refine ev_call (f239 (by assumption) (by first | omega | (simp only [wtRow, wtD]; omega))) ?_
  simp only [cI, cB, cS, cL, oD_d, oG_g, oT_t, oP_p, dI_v, dB_v, dS_v, dL_s, cell_z, cell_s, nth_z, nth_s, aV_z, aV_s, aI_v, aB_v, aS_v, aL_f, aO_o, aX_b, tst_t, cond_true, cond_false, Ex.same, Nat.beq, List.length_cons, List.length_nil, Int.toNat_natCast]
  exact Evt.ret
/- loop.example/g00119/laws.toOverS -/
theorem f184 {l : Rows} (hl : SL E 257 l) (hw : l.length + wtRows l ≤ 1048576) : Ev fs 184 [.d (.s 2 l)] ⟨.d (.s 2 l), []⟩ := by
  refine to_rows (fun d n acc i => l184x0 (TabD fs d) d n [.fz 2 l, .o 2 acc, .v (.int .i64 i)]) (af := a184) (z := [.v (.string ByteArray.empty), .s 7 []]) rfl rfl (fun d => a184q ..) (by omega) (by decide) (fun d n acc => ?_) (fun pre x post res ha hp k => ?_)
  · rw [l184x0s]
    simp only [cI, cB, cS, cL, oD_d, oG_g, oT_t, oP_p, dI_v, dB_v, dS_v, dL_s, cell_z, cell_s, nth_z, nth_s, aV_z, aV_s, aI_v, aB_v, aS_v, aL_f, aO_o, aX_b, tst_t, cond_true, cond_false, Ex.same, Nat.beq, List.length_cons, List.length_nil, Int.toNat_natCast, Int.lt_irrefl, decide_false]
  · have hwx := wt_mid (pre := pre) (x := x) (post := post)
    have hwr := wrap_succ hp hl.1
    subst ha
    have h := hl.mid
    have h' := h
    rw [E257] at h
    obtain ⟨sa0, ra0, rfl, pa0, h_a0⟩ := inv_s h
    obtain ⟨la1, ra1, rfl, pa1, h_a1⟩ := inv_sl W282 h_a0
    cases inv_nil h_a1
    simp only [l184x0s]
    simp only [cI, cB, cS, cL, oD_d, oG_g, oT_t, oP_p, dI_v, dB_v, dS_v, dL_s, cell_z, cell_s, nth_z, nth_s, aV_z, aV_s, aI_v, aB_v, aS_v, aL_f, aO_o, aX_b, tst_t, cond_true, cond_false, Ex.same, Nat.beq, List.length_cons, List.length_nil, Int.toNat_natCast, mid_lt, mid_lt', dec_nn, look_mid, hwr, Bool.and_self]
    simp only [wtRow, wtD] at hwx
    refine ev_call (f219 (by assumption) (by first | omega | (simp only [wtRow, wtD]; omega))) ?_
    simp only [cI, cB, cS, cL, oD_d, oG_g, oT_t, oP_p, dI_v, dB_v, dS_v, dL_s, cell_z, cell_s, nth_z, nth_s, aV_z, aV_s, aI_v, aB_v, aS_v, aL_f, aO_o, aX_b, tst_t, cond_true, cond_false, Ex.same, Nat.beq, List.length_cons, List.length_nil, Int.toNat_natCast, mid_lt, mid_lt', dec_nn, hwr, Bool.and_self]
    simp only [setD_mid, List.set_cons_zero, List.set_cons_succ]
    exact k
/- loop.example/g00119/laws.toJob -/
theorem f139 {row : Row} (h : ShL E (E 177) row) (hw : wtRow row ≤ 1048576) : Ev fs 139 [.g row] ⟨.g row, []⟩ := by
  rw [E177] at h
  obtain ⟨na0, ra0, rfl, pa0, h_a0⟩ := inv_i h
  obtain ⟨sa1, ra1, rfl, pa1, h_a1⟩ := inv_s h_a0
  obtain ⟨na2, ra2, rfl, pa2, h_a2⟩ := inv_i h_a1
  obtain ⟨la3, ra3, rfl, pa3, h_a3⟩ := inv_sl W267 h_a2
  obtain ⟨la4, ra4, rfl, pa4, h_a4⟩ := inv_sl W9 h_a3
  obtain ⟨la5, ra5, rfl, pa5, h_a5⟩ := inv_sl W269 h_a4
  obtain ⟨na6, ra6, rfl, pa6, h_a6⟩ := inv_i h_a5
  obtain ⟨sa7, ra7, rfl, pa7, h_a7⟩ := inv_s h_a6
  obtain ⟨na8, ra8, rfl, pa8, h_a8⟩ := inv_i h_a7
  obtain ⟨la9, ra9, rfl, pa9, h_a9⟩ := inv_sl W9 h_a8
  obtain ⟨la10, ra10, rfl, pa10, h_a10⟩ := inv_sl W150 h_a9
  obtain ⟨la11, ra11, rfl, pa11, h_a11⟩ := inv_sl W257 h_a10
  obtain ⟨ba12, ra12, rfl, h_a12⟩ := inv_b h_a11
  cases inv_nil h_a12
  simp only [wtRow, wtD] at hw
  refine Ev.of (af := a139) rfl rfl (Evt.congr (fun d n => a139q ..) ?_)
  refine ev_call (f183 (by rw [E174]; exact mk_i (by assumption) (mk_sl W267 (by assumption) (mk_sl W9 (by assumption) (mk_sl W269 (by assumption) (ShL.nil))))) (by first | omega | (simp only [wtRow, wtD]; omega))) ?_
  simp only [cI, cB, cS, cL, oD_d, oG_g, oT_t, oP_p, dI_v, dB_v, dS_v, dL_s, cell_z, cell_s, nth_z, nth_s, aV_z, aV_s, aI_v, aB_v, aS_v, aL_f, aO_o, aX_b, tst_t, cond_true, cond_false, Ex.same, Nat.beq, List.length_cons, List.length_nil, Int.toNat_natCast]
  refine ev_call (f176 (by rw [E150]; exact mk_i (by assumption) (mk_s (by assumption) (mk_i (by assumption) (mk_sl W9 (by assumption) (mk_sl W150 (by assumption) (ShL.nil)))))) (by first | omega | (simp only [wtRow, wtD]; omega))) ?_
  simp only [cI, cB, cS, cL, oD_d, oG_g, oT_t, oP_p, dI_v, dB_v, dS_v, dL_s, cell_z, cell_s, nth_z, nth_s, aV_z, aV_s, aI_v, aB_v, aS_v, aL_f, aO_o, aX_b, tst_t, cond_true, cond_false, Ex.same, Nat.beq, List.length_cons, List.length_nil, Int.toNat_natCast]
  refine ev_call (f184 (by assumption) (by first | omega | (simp only [wtRow, wtD]; omega))) ?_
  simp only [cI, cB, cS, cL, oD_d, oG_g, oT_t, oP_p, dI_v, dB_v, dS_v, dL_s, cell_z, cell_s, nth_z, nth_s, aV_z, aV_s, aI_v, aB_v, aS_v, aL_f, aO_o, aX_b, tst_t, cond_true, cond_false, Ex.same, Nat.beq, List.length_cons, List.length_nil, Int.toNat_natCast]
  exact Evt.ret
/- loop.example/g00119/laws.toJobS -/
theorem f65 {l : Rows} (hl : SL E 177 l) (hw : l.length + wtRows l ≤ 1048576) : Ev fs 65 [.d (.s 13 l)] ⟨.d (.s 13 l), []⟩ := by
  refine to_rows (fun d n acc i => l65x0 (TabD fs d) d n [.fz 13 l, .o 13 acc, .v (.int .i64 i)]) (af := a65) (z := [.v (.int .i64 0), .v (.string ByteArray.empty), .v (.int .i64 0), .s 3 [], .s 1 [], .s 2 [], .v (.int .i64 0), .v (.string ByteArray.empty), .v (.int .i64 0), .s 1 [], .s 5 [], .s 2 [], .v (.bool false)]) rfl rfl (fun d => a65q ..) (by omega) (by decide) (fun d n acc => ?_) (fun pre x post res ha hp k => ?_)
  · rw [l65x0s]
    simp only [cI, cB, cS, cL, oD_d, oG_g, oT_t, oP_p, dI_v, dB_v, dS_v, dL_s, cell_z, cell_s, nth_z, nth_s, aV_z, aV_s, aI_v, aB_v, aS_v, aL_f, aO_o, aX_b, tst_t, cond_true, cond_false, Ex.same, Nat.beq, List.length_cons, List.length_nil, Int.toNat_natCast, Int.lt_irrefl, decide_false]
  · have hwx := wt_mid (pre := pre) (x := x) (post := post)
    have hwr := wrap_succ hp hl.1
    subst ha
    have h := hl.mid
    have h' := h
    rw [E177] at h
    obtain ⟨na0, ra0, rfl, pa0, h_a0⟩ := inv_i h
    obtain ⟨sa1, ra1, rfl, pa1, h_a1⟩ := inv_s h_a0
    obtain ⟨na2, ra2, rfl, pa2, h_a2⟩ := inv_i h_a1
    obtain ⟨la3, ra3, rfl, pa3, h_a3⟩ := inv_sl W267 h_a2
    obtain ⟨la4, ra4, rfl, pa4, h_a4⟩ := inv_sl W9 h_a3
    obtain ⟨la5, ra5, rfl, pa5, h_a5⟩ := inv_sl W269 h_a4
    obtain ⟨na6, ra6, rfl, pa6, h_a6⟩ := inv_i h_a5
    obtain ⟨sa7, ra7, rfl, pa7, h_a7⟩ := inv_s h_a6
    obtain ⟨na8, ra8, rfl, pa8, h_a8⟩ := inv_i h_a7
    obtain ⟨la9, ra9, rfl, pa9, h_a9⟩ := inv_sl W9 h_a8
    obtain ⟨la10, ra10, rfl, pa10, h_a10⟩ := inv_sl W150 h_a9
    obtain ⟨la11, ra11, rfl, pa11, h_a11⟩ := inv_sl W257 h_a10
    obtain ⟨ba12, ra12, rfl, h_a12⟩ := inv_b h_a11
    cases inv_nil h_a12
    simp only [l65x0s]
    simp only [cI, cB, cS, cL, oD_d, oG_g, oT_t, oP_p, dI_v, dB_v, dS_v, dL_s, cell_z, cell_s, nth_z, nth_s, aV_z, aV_s, aI_v, aB_v, aS_v, aL_f, aO_o, aX_b, tst_t, cond_true, cond_false, Ex.same, Nat.beq, List.length_cons, List.length_nil, Int.toNat_natCast, mid_lt, mid_lt', dec_nn, look_mid, hwr, Bool.and_self]
    simp only [wtRow, wtD] at hwx
    refine ev_call (f139 (by assumption) (by first | omega | (simp only [wtRow, wtD]; omega))) ?_
    simp only [cI, cB, cS, cL, oD_d, oG_g, oT_t, oP_p, dI_v, dB_v, dS_v, dL_s, cell_z, cell_s, nth_z, nth_s, aV_z, aV_s, aI_v, aB_v, aS_v, aL_f, aO_o, aX_b, tst_t, cond_true, cond_false, Ex.same, Nat.beq, List.length_cons, List.length_nil, Int.toNat_natCast, mid_lt, mid_lt', dec_nn, hwr, Bool.and_self]
    simp only [setD_mid, List.set_cons_zero, List.set_cons_succ]
    exact k
/- loop.example/g00119/laws.toLabel -/
theorem f240 {row : Row} (h : ShL E (E 272) row) (hw : wtRow row ≤ 1048576) : Ev fs 240 [.g row] ⟨.g row, []⟩ := by
  rw [E272] at h
  obtain ⟨sa0, ra0, rfl, pa0, h_a0⟩ := inv_s h
  obtain ⟨sa1, ra1, rfl, pa1, h_a1⟩ := inv_s h_a0
  cases inv_nil h_a1
  simp only [wtRow, wtD] at hw
  refine Ev.of (af := a240) rfl rfl (Evt.congr (fun d n => a240q ..) ?_)
  exact Evt.ret
/- loop.example/g00119/laws.toLabelS -/
theorem f220 {l : Rows} (hl : SL E 272 l) (hw : l.length + wtRows l ≤ 1048576) : Ev fs 220 [.d (.s 2 l)] ⟨.d (.s 2 l), []⟩ := by
  refine to_rows (fun d n acc i => l220x0 (TabD fs d) d n [.fz 2 l, .o 2 acc, .v (.int .i64 i)]) (af := a220) (z := [.v (.string ByteArray.empty), .v (.string ByteArray.empty)]) rfl rfl (fun d => a220q ..) (by omega) (by decide) (fun d n acc => ?_) (fun pre x post res ha hp k => ?_)
  · rw [l220x0s]
    simp only [cI, cB, cS, cL, oD_d, oG_g, oT_t, oP_p, dI_v, dB_v, dS_v, dL_s, cell_z, cell_s, nth_z, nth_s, aV_z, aV_s, aI_v, aB_v, aS_v, aL_f, aO_o, aX_b, tst_t, cond_true, cond_false, Ex.same, Nat.beq, List.length_cons, List.length_nil, Int.toNat_natCast, Int.lt_irrefl, decide_false]
  · have hwx := wt_mid (pre := pre) (x := x) (post := post)
    have hwr := wrap_succ hp hl.1
    subst ha
    have h := hl.mid
    have h' := h
    rw [E272] at h
    obtain ⟨sa0, ra0, rfl, pa0, h_a0⟩ := inv_s h
    obtain ⟨sa1, ra1, rfl, pa1, h_a1⟩ := inv_s h_a0
    cases inv_nil h_a1
    simp only [l220x0s]
    simp only [cI, cB, cS, cL, oD_d, oG_g, oT_t, oP_p, dI_v, dB_v, dS_v, dL_s, cell_z, cell_s, nth_z, nth_s, aV_z, aV_s, aI_v, aB_v, aS_v, aL_f, aO_o, aX_b, tst_t, cond_true, cond_false, Ex.same, Nat.beq, List.length_cons, List.length_nil, Int.toNat_natCast, mid_lt, mid_lt', dec_nn, look_mid, hwr, Bool.and_self]
    simp only [wtRow, wtD] at hwx
    refine ev_call (f240 (by assumption) (by first | omega | (simp only [wtRow, wtD]; omega))) ?_
    simp only [cI, cB, cS, cL, oD_d, oG_g, oT_t, oP_p, dI_v, dB_v, dS_v, dL_s, cell_z, cell_s, nth_z, nth_s, aV_z, aV_s, aI_v, aB_v, aS_v, aL_f, aO_o, aX_b, tst_t, cond_true, cond_false, Ex.same, Nat.beq, List.length_cons, List.length_nil, Int.toNat_natCast, mid_lt, mid_lt', dec_nn, hwr, Bool.and_self]
    simp only [setD_mid, List.set_cons_zero, List.set_cons_succ]
    exact k
/- loop.example/g00119/laws.toIsland -/
theorem f185 {row : Row} (h : ShL E (E 181) row) (hw : wtRow row ≤ 1048576) : Ev fs 185 [.g row] ⟨.g row, []⟩ := by
  rw [E181] at h
  obtain ⟨sa0, ra0, rfl, pa0, h_a0⟩ := inv_s h
  obtain ⟨la1, ra1, rfl, pa1, h_a1⟩ := inv_sl W272 h_a0
  obtain ⟨la2, ra2, rfl, pa2, h_a2⟩ := inv_sl W9 h_a1
  obtain ⟨na3, ra3, rfl, pa3, h_a3⟩ := inv_i h_a2
  cases inv_nil h_a3
  simp only [wtRow, wtD] at hw
  refine Ev.of (af := a185) rfl rfl (Evt.congr (fun d n => a185q ..) ?_)
  refine ev_call (f220 (by assumption) (by first | omega | (simp only [wtRow, wtD]; omega))) ?_
  simp only [cI, cB, cS, cL, oD_d, oG_g, oT_t, oP_p, dI_v, dB_v, dS_v, dL_s, cell_z, cell_s, nth_z, nth_s, aV_z, aV_s, aI_v, aB_v, aS_v, aL_f, aO_o, aX_b, tst_t, cond_true, cond_false, Ex.same, Nat.beq, List.length_cons, List.length_nil, Int.toNat_natCast]
  refine ev_call (f68 (by assumption) (by first | omega | (simp only [wtRow, wtD]; omega))) ?_
  simp only [cI, cB, cS, cL, oD_d, oG_g, oT_t, oP_p, dI_v, dB_v, dS_v, dL_s, cell_z, cell_s, nth_z, nth_s, aV_z, aV_s, aI_v, aB_v, aS_v, aL_f, aO_o, aX_b, tst_t, cond_true, cond_false, Ex.same, Nat.beq, List.length_cons, List.length_nil, Int.toNat_natCast]
  exact Evt.ret
/- loop.example/g00119/laws.toPost -/
theorem f140 {row : Row} (h : ShL E (E 183) row) (hw : wtRow row ≤ 1048576) : Ev fs 140 [.g row] ⟨.g row, []⟩ := by
  rw [E183] at h
  obtain ⟨sa0, ra0, rfl, pa0, h_a0⟩ := inv_s h
  obtain ⟨la1, ra1, rfl, pa1, h_a1⟩ := inv_sl W272 h_a0
  obtain ⟨la2, ra2, rfl, pa2, h_a2⟩ := inv_sl W9 h_a1
  obtain ⟨na3, ra3, rfl, pa3, h_a3⟩ := inv_i h_a2
  obtain ⟨na4, ra4, rfl, pa4, h_a4⟩ := inv_i h_a3
  obtain ⟨na5, ra5, rfl, pa5, h_a5⟩ := inv_i h_a4
  cases inv_nil h_a5
  simp only [wtRow, wtD] at hw
  refine Ev.of (af := a140) rfl rfl (Evt.congr (fun d n => a140q ..) ?_)
  refine ev_call (f185 (by rw [E181]; exact mk_s (by assumption) (mk_sl W272 (by assumption) (mk_sl W9 (by assumption) (mk_i (by assumption) (ShL.nil))))) (by first | omega | (simp only [wtRow, wtD]; omega))) ?_
  simp only [cI, cB, cS, cL, oD_d, oG_g, oT_t, oP_p, dI_v, dB_v, dS_v, dL_s, cell_z, cell_s, nth_z, nth_s, aV_z, aV_s, aI_v, aB_v, aS_v, aL_f, aO_o, aX_b, tst_t, cond_true, cond_false, Ex.same, Nat.beq, List.length_cons, List.length_nil, Int.toNat_natCast]
  exact Evt.ret
/- loop.example/g00119/laws.toPostS -/
theorem f66 {l : Rows} (hl : SL E 183 l) (hw : l.length + wtRows l ≤ 1048576) : Ev fs 66 [.d (.s 6 l)] ⟨.d (.s 6 l), []⟩ := by
  refine to_rows (fun d n acc i => l66x0 (TabD fs d) d n [.fz 6 l, .o 6 acc, .v (.int .i64 i)]) (af := a66) (z := [.v (.string ByteArray.empty), .s 2 [], .s 1 [], .v (.int .i64 0), .v (.int .i64 0), .v (.int .i64 0)]) rfl rfl (fun d => a66q ..) (by omega) (by decide) (fun d n acc => ?_) (fun pre x post res ha hp k => ?_)
  · rw [l66x0s]
    simp only [cI, cB, cS, cL, oD_d, oG_g, oT_t, oP_p, dI_v, dB_v, dS_v, dL_s, cell_z, cell_s, nth_z, nth_s, aV_z, aV_s, aI_v, aB_v, aS_v, aL_f, aO_o, aX_b, tst_t, cond_true, cond_false, Ex.same, Nat.beq, List.length_cons, List.length_nil, Int.toNat_natCast, Int.lt_irrefl, decide_false]
  · have hwx := wt_mid (pre := pre) (x := x) (post := post)
    have hwr := wrap_succ hp hl.1
    subst ha
    have h := hl.mid
    have h' := h
    rw [E183] at h
    obtain ⟨sa0, ra0, rfl, pa0, h_a0⟩ := inv_s h
    obtain ⟨la1, ra1, rfl, pa1, h_a1⟩ := inv_sl W272 h_a0
    obtain ⟨la2, ra2, rfl, pa2, h_a2⟩ := inv_sl W9 h_a1
    obtain ⟨na3, ra3, rfl, pa3, h_a3⟩ := inv_i h_a2
    obtain ⟨na4, ra4, rfl, pa4, h_a4⟩ := inv_i h_a3
    obtain ⟨na5, ra5, rfl, pa5, h_a5⟩ := inv_i h_a4
    cases inv_nil h_a5
    simp only [l66x0s]
    simp only [cI, cB, cS, cL, oD_d, oG_g, oT_t, oP_p, dI_v, dB_v, dS_v, dL_s, cell_z, cell_s, nth_z, nth_s, aV_z, aV_s, aI_v, aB_v, aS_v, aL_f, aO_o, aX_b, tst_t, cond_true, cond_false, Ex.same, Nat.beq, List.length_cons, List.length_nil, Int.toNat_natCast, mid_lt, mid_lt', dec_nn, look_mid, hwr, Bool.and_self]
    simp only [wtRow, wtD] at hwx
    refine ev_call (f140 (by assumption) (by first | omega | (simp only [wtRow, wtD]; omega))) ?_
    simp only [cI, cB, cS, cL, oD_d, oG_g, oT_t, oP_p, dI_v, dB_v, dS_v, dL_s, cell_z, cell_s, nth_z, nth_s, aV_z, aV_s, aI_v, aB_v, aS_v, aL_f, aO_o, aX_b, tst_t, cond_true, cond_false, Ex.same, Nat.beq, List.length_cons, List.length_nil, Int.toNat_natCast, mid_lt, mid_lt', dec_nn, hwr, Bool.and_self]
    simp only [setD_mid, List.set_cons_zero, List.set_cons_succ]
    exact k
/- loop.example/g00119/laws.toHold -/
theorem f141 {row : Row} (h : ShL E (E 185) row) (hw : wtRow row ≤ 1048576) : Ev fs 141 [.g row] ⟨.g row, []⟩ := by
  rw [E185] at h
  obtain ⟨na0, ra0, rfl, pa0, h_a0⟩ := inv_i h
  obtain ⟨sa1, ra1, rfl, pa1, h_a1⟩ := inv_s h_a0
  obtain ⟨na2, ra2, rfl, pa2, h_a2⟩ := inv_i h_a1
  obtain ⟨na3, ra3, rfl, pa3, h_a3⟩ := inv_i h_a2
  obtain ⟨na4, ra4, rfl, pa4, h_a4⟩ := inv_i h_a3
  cases inv_nil h_a4
  simp only [wtRow, wtD] at hw
  refine Ev.of (af := a141) rfl rfl (Evt.congr (fun d n => a141q ..) ?_)
  exact Evt.ret
/- loop.example/g00119/laws.toHoldS -/
theorem f67 {l : Rows} (hl : SL E 185 l) (hw : l.length + wtRows l ≤ 1048576) : Ev fs 67 [.d (.s 5 l)] ⟨.d (.s 5 l), []⟩ := by
  refine to_rows (fun d n acc i => l67x0 (TabD fs d) d n [.fz 5 l, .o 5 acc, .v (.int .i64 i)]) (af := a67) (z := [.v (.int .i64 0), .v (.string ByteArray.empty), .v (.int .i64 0), .v (.int .i64 0), .v (.int .i64 0)]) rfl rfl (fun d => a67q ..) (by omega) (by decide) (fun d n acc => ?_) (fun pre x post res ha hp k => ?_)
  · rw [l67x0s]
    simp only [cI, cB, cS, cL, oD_d, oG_g, oT_t, oP_p, dI_v, dB_v, dS_v, dL_s, cell_z, cell_s, nth_z, nth_s, aV_z, aV_s, aI_v, aB_v, aS_v, aL_f, aO_o, aX_b, tst_t, cond_true, cond_false, Ex.same, Nat.beq, List.length_cons, List.length_nil, Int.toNat_natCast, Int.lt_irrefl, decide_false]
  · have hwx := wt_mid (pre := pre) (x := x) (post := post)
    have hwr := wrap_succ hp hl.1
    subst ha
    have h := hl.mid
    have h' := h
    rw [E185] at h
    obtain ⟨na0, ra0, rfl, pa0, h_a0⟩ := inv_i h
    obtain ⟨sa1, ra1, rfl, pa1, h_a1⟩ := inv_s h_a0
    obtain ⟨na2, ra2, rfl, pa2, h_a2⟩ := inv_i h_a1
    obtain ⟨na3, ra3, rfl, pa3, h_a3⟩ := inv_i h_a2
    obtain ⟨na4, ra4, rfl, pa4, h_a4⟩ := inv_i h_a3
    cases inv_nil h_a4
    simp only [l67x0s]
    simp only [cI, cB, cS, cL, oD_d, oG_g, oT_t, oP_p, dI_v, dB_v, dS_v, dL_s, cell_z, cell_s, nth_z, nth_s, aV_z, aV_s, aI_v, aB_v, aS_v, aL_f, aO_o, aX_b, tst_t, cond_true, cond_false, Ex.same, Nat.beq, List.length_cons, List.length_nil, Int.toNat_natCast, mid_lt, mid_lt', dec_nn, look_mid, hwr, Bool.and_self]
    simp only [wtRow, wtD] at hwx
    refine ev_call (f141 (by assumption) (by first | omega | (simp only [wtRow, wtD]; omega))) ?_
    simp only [cI, cB, cS, cL, oD_d, oG_g, oT_t, oP_p, dI_v, dB_v, dS_v, dL_s, cell_z, cell_s, nth_z, nth_s, aV_z, aV_s, aI_v, aB_v, aS_v, aL_f, aO_o, aX_b, tst_t, cond_true, cond_false, Ex.same, Nat.beq, List.length_cons, List.length_nil, Int.toNat_natCast, mid_lt, mid_lt', dec_nn, hwr, Bool.and_self]
    simp only [setD_mid, List.set_cons_zero, List.set_cons_succ]
    exact k
/- loop.example/g00119/laws.toHub -/
theorem f23 {row : Row} (h : ShL E (E 50) row) (hw : wtRow row ≤ 1048576) : Ev fs 23 [.g row] ⟨.g row, []⟩ := by
  rw [E50] at h
  obtain ⟨na0, ra0, rfl, pa0, h_a0⟩ := inv_i h
  obtain ⟨na1, ra1, rfl, pa1, h_a1⟩ := inv_i h_a0
  obtain ⟨na2, ra2, rfl, pa2, h_a2⟩ := inv_i h_a1
  obtain ⟨la3, ra3, rfl, pa3, h_a3⟩ := inv_sl W177 h_a2
  obtain ⟨la4, ra4, rfl, pa4, h_a4⟩ := inv_sl W183 h_a3
  obtain ⟨la5, ra5, rfl, pa5, h_a5⟩ := inv_sl W185 h_a4
  obtain ⟨la6, ra6, rfl, pa6, h_a6⟩ := inv_sl W9 h_a5
  cases inv_nil h_a6
  simp only [wtRow, wtD] at hw
  refine Ev.of (af := a23) rfl rfl (Evt.congr (fun d n => a23q ..) ?_)
  refine ev_call (f65 (by assumption) (by first | omega | (simp only [wtRow, wtD]; omega))) ?_
  simp only [cI, cB, cS, cL, oD_d, oG_g, oT_t, oP_p, dI_v, dB_v, dS_v, dL_s, cell_z, cell_s, nth_z, nth_s, aV_z, aV_s, aI_v, aB_v, aS_v, aL_f, aO_o, aX_b, tst_t, cond_true, cond_false, Ex.same, Nat.beq, List.length_cons, List.length_nil, Int.toNat_natCast]
  refine ev_call (f66 (by assumption) (by first | omega | (simp only [wtRow, wtD]; omega))) ?_
  simp only [cI, cB, cS, cL, oD_d, oG_g, oT_t, oP_p, dI_v, dB_v, dS_v, dL_s, cell_z, cell_s, nth_z, nth_s, aV_z, aV_s, aI_v, aB_v, aS_v, aL_f, aO_o, aX_b, tst_t, cond_true, cond_false, Ex.same, Nat.beq, List.length_cons, List.length_nil, Int.toNat_natCast]
  refine ev_call (f67 (by assumption) (by first | omega | (simp only [wtRow, wtD]; omega))) ?_
  simp only [cI, cB, cS, cL, oD_d, oG_g, oT_t, oP_p, dI_v, dB_v, dS_v, dL_s, cell_z, cell_s, nth_z, nth_s, aV_z, aV_s, aI_v, aB_v, aS_v, aL_f, aO_o, aX_b, tst_t, cond_true, cond_false, Ex.same, Nat.beq, List.length_cons, List.length_nil, Int.toNat_natCast]
  refine ev_call (f68 (by assumption) (by first | omega | (simp only [wtRow, wtD]; omega))) ?_
  simp only [cI, cB, cS, cL, oD_d, oG_g, oT_t, oP_p, dI_v, dB_v, dS_v, dL_s, cell_z, cell_s, nth_z, nth_s, aV_z, aV_s, aI_v, aB_v, aS_v, aL_f, aO_o, aX_b, tst_t, cond_true, cond_false, Ex.same, Nat.beq, List.length_cons, List.length_nil, Int.toNat_natCast]
  exact Evt.ret
end Go.Am.Sm
