/- What IsleOf's functions say in the end. Nothing is assumed. -/
import Derived.Test.YtapjklbchbgiaaaGreatIsH
namespace Go.Am.Is
set_option linter.unusedVariables false
set_option linter.unusedSimpArgs false
set_option maxRecDepth 8000
theorem f214 {l : Rows} (hl : SL E 238 l) (hm : l.length ≤ 1073741824) : Ev fs 214 [.d (.s 2 l)] ⟨.d (.s 2 l), []⟩ := by
  refine Ev.of (af := a214) rfl rfl (Evt.congr (fun d n => a214q ..) ?_)
  have hf : flatRows l = true := List.all_eq_true.2 fun x hx => by
    have h := hl.2.mem x hx
    rw [E238] at h
    obtain ⟨na0, ra0, rfl, pa0, h_a0⟩ := inv_i h
    obtain ⟨na1, ra1, rfl, pa1, h_a1⟩ := inv_i h_a0
    cases inv_nil h_a1
    rfl
  have hb : decide ((0 + l.length) * 16 ≤ maxBytes) = true := decide_eq_true (by simp only [maxBytes]; omega)
  simp -implicitDefEqProofs only [cI, cB, cS, cL, oD_d, oG_g, oT_t, oP_p, dI_v, dB_v, dS_v, dL_s, cell_z, cell_s, nth_z, nth_s, aV_z, aV_s, aI_v, aB_v, aS_v, aL_f, aO_o, aX_b, tst_t, cond_true, cond_false, Ex.same, Nat.beq, List.length_cons, List.length_nil, Int.toNat_natCast, beqTT, beqTF, beqFT, beqFF, hf, hb, List.nil_append]
  refine ev_if (fun h => ?_) (fun h => ?_)
  · have : l = [] := by simpa using h
    subst this
    exact ev_agree Evt.ret Evt.ret
  · exact Evt.ret
theorem f243 {l : Rows} (hl : SL E 9 l) (hm : l.length ≤ 1073741824) : Ev fs 243 [.d (.s 1 l)] ⟨.d (.s 1 l), []⟩ := by
  refine Ev.of (af := a243) rfl rfl (Evt.congr (fun d n => a243q ..) ?_)
  have hf : flatRows l = true := List.all_eq_true.2 fun x hx => by
    have h := hl.2.mem x hx
    rw [E9] at h
    obtain ⟨sa0, ra0, rfl, pa0, h_a0⟩ := inv_s h
    cases inv_nil h_a0
    rfl
  have hb : decide ((0 + l.length) * 16 ≤ maxBytes) = true := decide_eq_true (by simp only [maxBytes]; omega)
  simp -implicitDefEqProofs only [cI, cB, cS, cL, oD_d, oG_g, oT_t, oP_p, dI_v, dB_v, dS_v, dL_s, cell_z, cell_s, nth_z, nth_s, aV_z, aV_s, aI_v, aB_v, aS_v, aL_f, aO_o, aX_b, tst_t, cond_true, cond_false, Ex.same, Nat.beq, List.length_cons, List.length_nil, Int.toNat_natCast, beqTT, beqTF, beqFT, beqFF, hf, hb, List.nil_append]
  refine ev_if (fun h => ?_) (fun h => ?_)
  · have : l = [] := by simpa using h
    subst this
    exact ev_agree Evt.ret Evt.ret
  · exact Evt.ret
theorem fr226 {row : Row} (h : ShL E (E 64) row) (hw : wtRow row ≤ 1048576) (W : Nat) (hW : 2 * wtRow row + 1 = W) : Ev fs 226 [.g row] ⟨.g row, []⟩ := by
  rw [E64] at h
  obtain ⟨na0, ra0, rfl, pa0, h_a0⟩ := inv_i h
  obtain ⟨sa1, ra1, rfl, pa1, h_a1⟩ := inv_s h_a0
  obtain ⟨na2, ra2, rfl, pa2, h_a2⟩ := inv_i h_a1
  obtain ⟨la3, ra3, rfl, pa3, h_a3⟩ := inv_sl W9 h_a2
  obtain ⟨la4, ra4, rfl, pa4, h_a4⟩ := inv_sl W64 h_a3
  cases inv_nil h_a4
  have fla3 : flatRows la3 = true := List.all_eq_true.2 fun x hx => by
    have h := pa3.2.mem x hx
    rw [E9] at h
    obtain ⟨sz0, rz0, rfl, pz0, h_z0⟩ := inv_s h
    cases inv_nil h_z0
    rfl
  simp only [wtRow, wtD] at hw
  have hb3 := app_fits0 (l := la3) (c := 16) (by omega) (by omega)
  refine Ev.of (af := a226) rfl rfl (Evt.congr (fun d n => a226q ..) ?_)
  simp -implicitDefEqProofs only [cI, cB, cS, cL, oD_d, oG_g, oT_t, oP_p, dI_v, dB_v, dS_v, dL_s, cell_z, cell_s, nth_z, nth_s, aV_z, aV_s, aI_v, aB_v, aS_v, aL_f, aO_o, aX_b, tst_t, cond_true, cond_false, Ex.same, Nat.beq, List.length_cons, List.length_nil, Int.toNat_natCast, beqTT, beqTF, beqFT, beqFF, fla3, hb3, List.nil_append]
  refine ev_aft (L := fun d n => l226x0 (TabD fs d) d n [(.b [(.v (.int .i64 na0)), (.v (.string sa1)), (.v (.int .i64 na2)), (.fz 1 la3), (.fz 5 la4)]), (.b [(.v (.int .i64 0)), (.v (.string ByteArray.empty)), (.v (.int .i64 0)), (.o 1 []), (.o 5 [])]), (.b [(.v (.int .i64 na0)), (.v (.string sa1)), (.v (.int .i64 na2)), (.o 1 la3), (.o 5 [])]), (.v (.int .i64 0))]) (copy_loop (L := fun d n acc i => l226x0 (TabD fs d) d n [(.b [(.v (.int .i64 na0)), (.v (.string sa1)), (.v (.int .i64 na2)), (.fz 1 la3), (.fz 5 la4)]), (.b [(.v (.int .i64 0)), (.v (.string ByteArray.empty)), (.v (.int .i64 0)), (.o 1 []), (.o 5 [])]), (.b [(.v (.int .i64 na0)), (.v (.string sa1)), (.v (.int .i64 na2)), (.o 1 la3), (.o 5 acc)]), (.v (.int .i64 i))]) (a := la4) (Y := fun acc => (.exit 0, [(.b [(.v (.int .i64 0)), (.v (.string ByteArray.empty)), (.v (.int .i64 0)), (.o 1 []), (.o 5 [])]), (.b [(.v (.int .i64 na0)), (.v (.string sa1)), (.v (.int .i64 na2)), (.o 1 la3), (.o 5 acc)])])) (fun d n acc => ?_) (fun i x res hi hx k => ?_)) ?_
  · rw [l226x0s]
    simp -implicitDefEqProofs only [cI, cB, cS, cL, oD_d, oG_g, oT_t, oP_p, dI_v, dB_v, dS_v, dL_s, cell_z, cell_s, nth_z, nth_s, aV_z, aV_s, aI_v, aB_v, aS_v, aL_f, aO_o, aX_b, tst_t, cond_true, cond_false, Ex.same, Nat.beq, List.length_cons, List.length_nil, Int.toNat_natCast, beqTT, beqTF, beqFT, beqFF, Int.lt_irrefl, decide_false]
  · have g := pa4.at hx
    have g' := g
    rw [E64] at g
    obtain ⟨nx0, rx0, rfl, px0, g_x0⟩ := inv_i g
    obtain ⟨sx1, rx1, rfl, px1, g_x1⟩ := inv_s g_x0
    obtain ⟨nx2, rx2, rfl, px2, g_x2⟩ := inv_i g_x1
    obtain ⟨lx3, rx3, rfl, px3, g_x3⟩ := inv_sl W9 g_x2
    obtain ⟨lx4, rx4, rfl, px4, g_x4⟩ := inv_sl W64 g_x3
    cases inv_nil g_x4
    have hwx := wt_at hx
    simp only [wtRow, wtD] at hwx
    simp only [l226x0s]
    simp -implicitDefEqProofs only [cI, cB, cS, cL, oD_d, oG_g, oT_t, oP_p, dI_v, dB_v, dS_v, dL_s, cell_z, cell_s, nth_z, nth_s, aV_z, aV_s, aI_v, aB_v, aS_v, aL_f, aO_o, aX_b, tst_t, cond_true, cond_false, Ex.same, Nat.beq, List.length_cons, List.length_nil, Int.toNat_natCast, beqTT, beqTF, beqFT, beqFF, decide_eq_true (Int.ofNat_lt.2 hi), dec_nn, look_at hx, wrap_succ hi pa4.le]
    refine ev_call (fr226 (by assumption) (by simp only [wtRow, wtD]; omega) _ rfl) ?_
    simp -implicitDefEqProofs only [cI, cB, cS, cL, oD_d, oG_g, oT_t, oP_p, dI_v, dB_v, dS_v, dL_s, cell_z, cell_s, nth_z, nth_s, aV_z, aV_s, aI_v, aB_v, aS_v, aL_f, aO_o, aX_b, tst_t, cond_true, cond_false, Ex.same, Nat.beq, List.length_cons, List.length_nil, Int.toNat_natCast, beqTT, beqTF, beqFT, beqFF]
    refine ev_tst (app_fits (by omega) (by omega) (by omega)) ?_
    simp only [setD_last, List.set_cons_zero, List.set_cons_succ]
    exact k
  · simp -implicitDefEqProofs only [cI, cB, cS, cL, oD_d, oG_g, oT_t, oP_p, dI_v, dB_v, dS_v, dL_s, cell_z, cell_s, nth_z, nth_s, aV_z, aV_s, aI_v, aB_v, aS_v, aL_f, aO_o, aX_b, tst_t, cond_true, cond_false, Ex.same, Nat.beq, List.length_cons, List.length_nil, Int.toNat_natCast, beqTT, beqTF, beqFT, beqFF]
    exact Evt.ret
termination_by W
decreasing_by all_goals (try have := wt_at hx); (try simp only [wtRow, wtD] at *); omega
theorem f226 {row : Row} (h : ShL E (E 64) row) (hw : wtRow row ≤ 1048576) : Ev fs 226 [.g row] ⟨.g row, []⟩ := fr226 h hw _ rfl
theorem fr245 {row : Row} (h : ShL E (E 64) row) (hw : wtRow row ≤ 1048576) (W : Nat) (hW : 2 * wtRow row + 1 = W) : Ev fs 245 [.g row] ⟨.g row, []⟩ := by
  rw [E64] at h
  obtain ⟨na0, ra0, rfl, pa0, h_a0⟩ := inv_i h
  obtain ⟨sa1, ra1, rfl, pa1, h_a1⟩ := inv_s h_a0
  obtain ⟨na2, ra2, rfl, pa2, h_a2⟩ := inv_i h_a1
  obtain ⟨la3, ra3, rfl, pa3, h_a3⟩ := inv_sl W9 h_a2
  obtain ⟨la4, ra4, rfl, pa4, h_a4⟩ := inv_sl W64 h_a3
  cases inv_nil h_a4
  have fla3 : flatRows la3 = true := List.all_eq_true.2 fun x hx => by
    have h := pa3.2.mem x hx
    rw [E9] at h
    obtain ⟨sz0, rz0, rfl, pz0, h_z0⟩ := inv_s h
    cases inv_nil h_z0
    rfl
  simp only [wtRow, wtD] at hw
  have hb3 := app_fits0 (l := la3) (c := 16) (by omega) (by omega)
  refine Ev.of (af := a245) rfl rfl (Evt.congr (fun d n => a245q ..) ?_)
  refine ev_call (f243 pa3 (by omega)) ?_
  simp -implicitDefEqProofs only [cI, cB, cS, cL, oD_d, oG_g, oT_t, oP_p, dI_v, dB_v, dS_v, dL_s, cell_z, cell_s, nth_z, nth_s, aV_z, aV_s, aI_v, aB_v, aS_v, aL_f, aO_o, aX_b, tst_t, cond_true, cond_false, Ex.same, Nat.beq, List.length_cons, List.length_nil, Int.toNat_natCast, beqTT, beqTF, beqFT, beqFF]
  refine ev_aft (L := fun d n => l245x0 (TabD fs d) d n [(.b [(.v (.int .i64 na0)), (.v (.string sa1)), (.v (.int .i64 na2)), (.o 1 la3), (.fz 5 la4)]), (.b [(.v (.int .i64 0)), (.v (.string ByteArray.empty)), (.v (.int .i64 0)), (.o 1 []), (.o 5 [])]), (.o 5 []), (.fz 5 la4), (.v (.int .i64 (la4.length : Int))), (.v (.int .i64 0))]) (copy_loop (L := fun d n acc i => l245x0 (TabD fs d) d n [(.b [(.v (.int .i64 na0)), (.v (.string sa1)), (.v (.int .i64 na2)), (.o 1 la3), (.fz 5 la4)]), (.b [(.v (.int .i64 0)), (.v (.string ByteArray.empty)), (.v (.int .i64 0)), (.o 1 []), (.o 5 [])]), (.o 5 acc), (.fz 5 la4), (.v (.int .i64 (la4.length : Int))), (.v (.int .i64 i))]) (a := la4) (Y := fun acc => (.exit 0, [(.b [(.v (.int .i64 na0)), (.v (.string sa1)), (.v (.int .i64 na2)), (.o 1 la3), (.fz 5 la4)]), (.b [(.v (.int .i64 0)), (.v (.string ByteArray.empty)), (.v (.int .i64 0)), (.o 1 []), (.o 5 [])]), (.o 5 acc)])) (fun d n acc => ?_) (fun i x res hi hx k => ?_)) ?_
  · rw [l245x0s]
    simp -implicitDefEqProofs only [cI, cB, cS, cL, oD_d, oG_g, oT_t, oP_p, dI_v, dB_v, dS_v, dL_s, cell_z, cell_s, nth_z, nth_s, aV_z, aV_s, aI_v, aB_v, aS_v, aL_f, aO_o, aX_b, tst_t, cond_true, cond_false, Ex.same, Nat.beq, List.length_cons, List.length_nil, Int.toNat_natCast, beqTT, beqTF, beqFT, beqFF, Int.lt_irrefl, decide_false]
  · have g := pa4.at hx
    have g' := g
    rw [E64] at g
    obtain ⟨nx0, rx0, rfl, px0, g_x0⟩ := inv_i g
    obtain ⟨sx1, rx1, rfl, px1, g_x1⟩ := inv_s g_x0
    obtain ⟨nx2, rx2, rfl, px2, g_x2⟩ := inv_i g_x1
    obtain ⟨lx3, rx3, rfl, px3, g_x3⟩ := inv_sl W9 g_x2
    obtain ⟨lx4, rx4, rfl, px4, g_x4⟩ := inv_sl W64 g_x3
    cases inv_nil g_x4
    have hwx := wt_at hx
    simp only [wtRow, wtD] at hwx
    simp only [l245x0s]
    simp -implicitDefEqProofs only [cI, cB, cS, cL, oD_d, oG_g, oT_t, oP_p, dI_v, dB_v, dS_v, dL_s, cell_z, cell_s, nth_z, nth_s, aV_z, aV_s, aI_v, aB_v, aS_v, aL_f, aO_o, aX_b, tst_t, cond_true, cond_false, Ex.same, Nat.beq, List.length_cons, List.length_nil, Int.toNat_natCast, beqTT, beqTF, beqFT, beqFF, decide_eq_true (Int.ofNat_lt.2 hi), dec_nn, look_at hx, wrap_succ hi pa4.le]
    refine ev_call (fr245 (by assumption) (by simp only [wtRow, wtD]; omega) _ rfl) ?_
    simp -implicitDefEqProofs only [cI, cB, cS, cL, oD_d, oG_g, oT_t, oP_p, dI_v, dB_v, dS_v, dL_s, cell_z, cell_s, nth_z, nth_s, aV_z, aV_s, aI_v, aB_v, aS_v, aL_f, aO_o, aX_b, tst_t, cond_true, cond_false, Ex.same, Nat.beq, List.length_cons, List.length_nil, Int.toNat_natCast, beqTT, beqTF, beqFT, beqFF]
    refine ev_tst (app_fits (by omega) (by omega) (by omega)) ?_
    simp only [setD_last, List.set_cons_zero, List.set_cons_succ]
    exact k
  · simp -implicitDefEqProofs only [cI, cB, cS, cL, oD_d, oG_g, oT_t, oP_p, dI_v, dB_v, dS_v, dL_s, cell_z, cell_s, nth_z, nth_s, aV_z, aV_s, aI_v, aB_v, aS_v, aL_f, aO_o, aX_b, tst_t, cond_true, cond_false, Ex.same, Nat.beq, List.length_cons, List.length_nil, Int.toNat_natCast, beqTT, beqTF, beqFT, beqFF]
    exact Evt.ret
termination_by W
decreasing_by all_goals (try have := wt_at hx); (try simp only [wtRow, wtD] at *); omega
theorem f245 {row : Row} (h : ShL E (E 64) row) (hw : wtRow row ≤ 1048576) : Ev fs 245 [.g row] ⟨.g row, []⟩ := fr245 h hw _ rfl
theorem f210 {l : Rows} (hl : SL E 270 l) (hw : l.length + wtRows l ≤ 1048576) : Ev fs 210 [.d (.s 7 l)] ⟨.d (.s 7 l), []⟩ := by
  refine Ev.of (af := a210) rfl rfl (Evt.congr (fun d n => a210q ..) ?_)
  refine ev_aft (L := fun d n => l210x0 (TabD fs d) d n [(.fz 7 l), (.o 7 []), (.v (.int .i64 0))]) (copy_loop (L := fun d n acc i => l210x0 (TabD fs d) d n [(.fz 7 l), (.o 7 acc), (.v (.int .i64 i))]) (a := l) (Y := fun acc => (.exit 0, [.o 7 acc])) (fun d n acc => ?_) (fun i x res hi hx k => ?_)) ?_
  · rw [l210x0s]
    simp -implicitDefEqProofs only [cI, cB, cS, cL, oD_d, oG_g, oT_t, oP_p, dI_v, dB_v, dS_v, dL_s, cell_z, cell_s, nth_z, nth_s, aV_z, aV_s, aI_v, aB_v, aS_v, aL_f, aO_o, aX_b, tst_t, cond_true, cond_false, Ex.same, Nat.beq, List.length_cons, List.length_nil, Int.toNat_natCast, beqTT, beqTF, beqFT, beqFF, Int.lt_irrefl, decide_false]
  · have g := hl.at hx
    rw [E270] at g
    obtain ⟨nx0, rx0, rfl, px0, g_x0⟩ := inv_i g
    obtain ⟨nx1, rx1, rfl, px1, g_x1⟩ := inv_i g_x0
    obtain ⟨nx2, rx2, rfl, px2, g_x2⟩ := inv_i g_x1
    obtain ⟨sx3, rx3, rfl, px3, g_x3⟩ := inv_s g_x2
    obtain ⟨nx4, rx4, rfl, px4, g_x4⟩ := inv_i g_x3
    obtain ⟨lx5, rx5, rfl, px5, g_x5⟩ := inv_sl W9 g_x4
    obtain ⟨lx6, rx6, rfl, px6, g_x6⟩ := inv_sl W64 g_x5
    cases inv_nil g_x6
    have hwx := wt_at hx
    simp only [wtRow, wtD] at hwx
    simp only [l210x0s]
    simp -implicitDefEqProofs only [cI, cB, cS, cL, oD_d, oG_g, oT_t, oP_p, dI_v, dB_v, dS_v, dL_s, cell_z, cell_s, nth_z, nth_s, aV_z, aV_s, aI_v, aB_v, aS_v, aL_f, aO_o, aX_b, tst_t, cond_true, cond_false, Ex.same, Nat.beq, List.length_cons, List.length_nil, Int.toNat_natCast, beqTT, beqTF, beqFT, beqFF, decide_eq_true (Int.ofNat_lt.2 hi), dec_nn, look_at hx, wrap_succ hi hl.le]
    refine ev_call (f226 (by rw [E64]; exact mk_i (by assumption) (mk_s (by assumption) (mk_i (by assumption) (mk_sl W9 (by assumption) (mk_sl W64 (by assumption) (ShL.nil)))))) (by simp only [wtRow, wtD]; omega)) ?_
    simp -implicitDefEqProofs only [cI, cB, cS, cL, oD_d, oG_g, oT_t, oP_p, dI_v, dB_v, dS_v, dL_s, cell_z, cell_s, nth_z, nth_s, aV_z, aV_s, aI_v, aB_v, aS_v, aL_f, aO_o, aX_b, tst_t, cond_true, cond_false, Ex.same, Nat.beq, List.length_cons, List.length_nil, Int.toNat_natCast, beqTT, beqTF, beqFT, beqFF]
    refine ev_tst (app_fits (by omega) (by omega) (by omega)) ?_
    simp only [setD_last, List.set_cons_zero, List.set_cons_succ]
    exact k
  · simp -implicitDefEqProofs only [cI, cB, cS, cL, oD_d, oG_g, oT_t, oP_p, dI_v, dB_v, dS_v, dL_s, cell_z, cell_s, nth_z, nth_s, aV_z, aV_s, aI_v, aB_v, aS_v, aL_f, aO_o, aX_b, tst_t, cond_true, cond_false, Ex.same, Nat.beq, List.length_cons, List.length_nil, Int.toNat_natCast, beqTT, beqTF, beqFT, beqFF]
    exact Evt.ret
theorem f213 {l : Rows} (hl : SL E 270 l) (hw : l.length + wtRows l ≤ 1048576) : Ev fs 213 [.d (.s 7 l)] ⟨.d (.s 7 l), []⟩ := by
  refine Ev.of (af := a213) rfl rfl (Evt.congr (fun d n => a213q ..) ?_)
  refine ev_aft (L := fun d n => l213x0 (TabD fs d) d n [(.o 7 []), (.fz 7 l), (.v (.int .i64 (l.length : Int))), (.v (.int .i64 0))]) (copy_loop (L := fun d n acc i => l213x0 (TabD fs d) d n [(.o 7 acc), (.fz 7 l), (.v (.int .i64 (l.length : Int))), (.v (.int .i64 i))]) (a := l) (Y := fun acc => (.exit 0, [.o 7 acc])) (fun d n acc => ?_) (fun i x res hi hx k => ?_)) ?_
  · rw [l213x0s]
    simp -implicitDefEqProofs only [cI, cB, cS, cL, oD_d, oG_g, oT_t, oP_p, dI_v, dB_v, dS_v, dL_s, cell_z, cell_s, nth_z, nth_s, aV_z, aV_s, aI_v, aB_v, aS_v, aL_f, aO_o, aX_b, tst_t, cond_true, cond_false, Ex.same, Nat.beq, List.length_cons, List.length_nil, Int.toNat_natCast, beqTT, beqTF, beqFT, beqFF, Int.lt_irrefl, decide_false]
  · have g := hl.at hx
    rw [E270] at g
    obtain ⟨nx0, rx0, rfl, px0, g_x0⟩ := inv_i g
    obtain ⟨nx1, rx1, rfl, px1, g_x1⟩ := inv_i g_x0
    obtain ⟨nx2, rx2, rfl, px2, g_x2⟩ := inv_i g_x1
    obtain ⟨sx3, rx3, rfl, px3, g_x3⟩ := inv_s g_x2
    obtain ⟨nx4, rx4, rfl, px4, g_x4⟩ := inv_i g_x3
    obtain ⟨lx5, rx5, rfl, px5, g_x5⟩ := inv_sl W9 g_x4
    obtain ⟨lx6, rx6, rfl, px6, g_x6⟩ := inv_sl W64 g_x5
    cases inv_nil g_x6
    have hwx := wt_at hx
    simp only [wtRow, wtD] at hwx
    simp only [l213x0s]
    simp -implicitDefEqProofs only [cI, cB, cS, cL, oD_d, oG_g, oT_t, oP_p, dI_v, dB_v, dS_v, dL_s, cell_z, cell_s, nth_z, nth_s, aV_z, aV_s, aI_v, aB_v, aS_v, aL_f, aO_o, aX_b, tst_t, cond_true, cond_false, Ex.same, Nat.beq, List.length_cons, List.length_nil, Int.toNat_natCast, beqTT, beqTF, beqFT, beqFF, decide_eq_true (Int.ofNat_lt.2 hi), dec_nn, look_at hx, wrap_succ hi hl.le]
    refine ev_call (f245 (by rw [E64]; exact mk_i (by assumption) (mk_s (by assumption) (mk_i (by assumption) (mk_sl W9 (by assumption) (mk_sl W64 (by assumption) (ShL.nil)))))) (by simp only [wtRow, wtD]; omega)) ?_
    simp -implicitDefEqProofs only [cI, cB, cS, cL, oD_d, oG_g, oT_t, oP_p, dI_v, dB_v, dS_v, dL_s, cell_z, cell_s, nth_z, nth_s, aV_z, aV_s, aI_v, aB_v, aS_v, aL_f, aO_o, aX_b, tst_t, cond_true, cond_false, Ex.same, Nat.beq, List.length_cons, List.length_nil, Int.toNat_natCast, beqTT, beqTF, beqFT, beqFF]
    refine ev_tst (app_fits (by omega) (by omega) (by omega)) ?_
    simp only [setD_last, List.set_cons_zero, List.set_cons_succ]
    exact k
  · simp -implicitDefEqProofs only [cI, cB, cS, cL, oD_d, oG_g, oT_t, oP_p, dI_v, dB_v, dS_v, dL_s, cell_z, cell_s, nth_z, nth_s, aV_z, aV_s, aI_v, aB_v, aS_v, aL_f, aO_o, aX_b, tst_t, cond_true, cond_false, Ex.same, Nat.beq, List.length_cons, List.length_nil, Int.toNat_natCast, beqTT, beqTF, beqFT, beqFF]
    exact Evt.ret
theorem f103 {row : Row} (h : ShL E (E 83) row) (hw : wtRow row ≤ 1048576) : Ev fs 103 [.g row] ⟨.g row, []⟩ := by
  rw [E83] at h
  obtain ⟨sa0, ra0, rfl, pa0, h_a0⟩ := inv_s h
  obtain ⟨na1, ra1, rfl, pa1, h_a1⟩ := inv_i h_a0
  obtain ⟨na2, ra2, rfl, pa2, h_a2⟩ := inv_i h_a1
  obtain ⟨la3, ra3, rfl, pa3, h_a3⟩ := inv_sl W270 h_a2
  obtain ⟨la4, ra4, rfl, pa4, h_a4⟩ := inv_sl W238 h_a3
  cases inv_nil h_a4
  have fla4 : flatRows la4 = true := List.all_eq_true.2 fun x hx => by
    have h := pa4.2.mem x hx
    rw [E238] at h
    obtain ⟨nz0, rz0, rfl, pz0, h_z0⟩ := inv_i h
    obtain ⟨nz1, rz1, rfl, pz1, h_z1⟩ := inv_i h_z0
    cases inv_nil h_z1
    rfl
  simp only [wtRow, wtD] at hw
  have hb4 := app_fits0 (l := la4) (c := 16) (by omega) (by omega)
  refine Ev.of (af := a103) rfl rfl (Evt.congr (fun d n => a103q ..) ?_)
  refine ev_call (f210 (by assumption) (by first | omega | (simp only [wtRow, wtD] at *; omega))) ?_
  simp -implicitDefEqProofs only [cI, cB, cS, cL, oD_d, oG_g, oT_t, oP_p, dI_v, dB_v, dS_v, dL_s, cell_z, cell_s, nth_z, nth_s, aV_z, aV_s, aI_v, aB_v, aS_v, aL_f, aO_o, aX_b, tst_t, cond_true, cond_false, Ex.same, Nat.beq, List.length_cons, List.length_nil, Int.toNat_natCast, beqTT, beqTF, beqFT, beqFF, fla4, hb4, List.nil_append, Bool.not_false, Bool.not_true, cond_true, cond_false]
  exact Evt.ret
theorem f107 {row : Row} (h : ShL E (E 83) row) (hw : wtRow row ≤ 1048576) : Ev fs 107 [.g row] ⟨.g row, []⟩ := by
  rw [E83] at h
  obtain ⟨sa0, ra0, rfl, pa0, h_a0⟩ := inv_s h
  obtain ⟨na1, ra1, rfl, pa1, h_a1⟩ := inv_i h_a0
  obtain ⟨na2, ra2, rfl, pa2, h_a2⟩ := inv_i h_a1
  obtain ⟨la3, ra3, rfl, pa3, h_a3⟩ := inv_sl W270 h_a2
  obtain ⟨la4, ra4, rfl, pa4, h_a4⟩ := inv_sl W238 h_a3
  cases inv_nil h_a4
  have fla4 : flatRows la4 = true := List.all_eq_true.2 fun x hx => by
    have h := pa4.2.mem x hx
    rw [E238] at h
    obtain ⟨nz0, rz0, rfl, pz0, h_z0⟩ := inv_i h
    obtain ⟨nz1, rz1, rfl, pz1, h_z1⟩ := inv_i h_z0
    cases inv_nil h_z1
    rfl
  simp only [wtRow, wtD] at hw
  have hb4 := app_fits0 (l := la4) (c := 16) (by omega) (by omega)
  refine Ev.of (af := a107) rfl rfl (Evt.congr (fun d n => a107q ..) ?_)
  refine ev_call (f213 (by assumption) (by first | omega | (simp only [wtRow, wtD] at *; omega))) ?_
  simp -implicitDefEqProofs only [cI, cB, cS, cL, oD_d, oG_g, oT_t, oP_p, dI_v, dB_v, dS_v, dL_s, cell_z, cell_s, nth_z, nth_s, aV_z, aV_s, aI_v, aB_v, aS_v, aL_f, aO_o, aX_b, tst_t, cond_true, cond_false, Ex.same, Nat.beq, List.length_cons, List.length_nil, Int.toNat_natCast, beqTT, beqTF, beqFT, beqFF, fla4, hb4, List.nil_append, Bool.not_false, Bool.not_true, cond_true, cond_false]
  refine ev_call (f214 (by assumption) (by first | omega | (simp only [wtRow, wtD] at *; omega))) ?_
  simp -implicitDefEqProofs only [cI, cB, cS, cL, oD_d, oG_g, oT_t, oP_p, dI_v, dB_v, dS_v, dL_s, cell_z, cell_s, nth_z, nth_s, aV_z, aV_s, aI_v, aB_v, aS_v, aL_f, aO_o, aX_b, tst_t, cond_true, cond_false, Ex.same, Nat.beq, List.length_cons, List.length_nil, Int.toNat_natCast, beqTT, beqTF, beqFT, beqFF, fla4, hb4, List.nil_append, Bool.not_false, Bool.not_true, cond_true, cond_false]
  exact Evt.ret
def named (s : ByteArray) (r : Row) : Bool := bytesEq (cT r 0) s
theorem f102 {na0 : Int} {na1 : Int} {na2 : Int} {la3 : Rows} {la4 : Rows} {la5 : Rows} {la6 : Rows} {ba7 : Bool} {la8 : Rows} {la9 : Rows} {la10 : Rows} {la11 : Rows} (hl : SL E 83 la9) (s : ByteArray) : Ev fs 102 [.p [.v (.int .i64 na0), .v (.int .i64 na1), .v (.int .i64 na2), .s 13 la3, .s 6 la4, .s 5 la5, .s 1 la6, .v (.bool ba7), .s 1 la8, .s 5 la9, .s 5 la10, .s 1 la11], .d (.v (.string s))] (io (idxR (named s) la9)) := by
  refine Ev.of (af := a102) rfl rfl (Evt.congr (fun d n => a102q ..) ?_)
  refine idx_of (L := fun d n => l102x0 (TabD fs d) d n [(.fa [.v (.int .i64 na0), .v (.int .i64 na1), .v (.int .i64 na2), .s 13 la3, .s 6 la4, .s 5 la5, .s 1 la6, .v (.bool ba7), .s 1 la8, .s 5 la9, .s 5 la10, .s 1 la11] 0), (.v (.string s)), (.v (.int .i64 0))]) (idx_loop (L := fun d n i => l102x0 (TabD fs d) d n [(.fa [.v (.int .i64 na0), .v (.int .i64 na1), .v (.int .i64 na2), .s 13 la3, .s 6 la4, .s 5 la5, .s 1 la6, .v (.bool ba7), .s 1 la8, .s 5 la9, .s 5 la10, .s 1 la11] 0), (.v (.string s)), (.v (.int .i64 i))]) (fun d m => ?_) (fun i x hi hx => ?_))
  · rw [l102x0s]
    simp -implicitDefEqProofs only [cI, cB, cS, cL, oD_d, oG_g, oT_t, oP_p, dI_v, dB_v, dS_v, dL_s, cell_z, cell_s, nth_z, nth_s, aV_z, aV_s, aI_v, aB_v, aS_v, aL_f, aO_o, aX_b, tst_t, cond_true, cond_false, Ex.same, Nat.beq, List.length_cons, List.length_nil, Int.toNat_natCast, beqTT, beqTF, beqFT, beqFF, Int.lt_irrefl, decide_false]
  · have h := hl.at hx
    rw [E83] at h
    obtain ⟨sx0, rx0, rfl, px0, h_x0⟩ := inv_s h
    obtain ⟨nx1, rx1, rfl, px1, h_x1⟩ := inv_i h_x0
    obtain ⟨nx2, rx2, rfl, px2, h_x2⟩ := inv_i h_x1
    obtain ⟨lx3, rx3, rfl, px3, h_x3⟩ := inv_sl W270 h_x2
    obtain ⟨lx4, rx4, rfl, px4, h_x4⟩ := inv_sl W238 h_x3
    cases inv_nil h_x4
    simp only [l102x0s, named, cN, cT, cR, cE, List.getElem?_cons_zero, List.getElem?_cons_succ]
    simp -implicitDefEqProofs only [cI, cB, cS, cL, oD_d, oG_g, oT_t, oP_p, dI_v, dB_v, dS_v, dL_s, cell_z, cell_s, nth_z, nth_s, aV_z, aV_s, aI_v, aB_v, aS_v, aL_f, aO_o, aX_b, tst_t, cond_true, cond_false, Ex.same, Nat.beq, List.length_cons, List.length_nil, Int.toNat_natCast, beqTT, beqTF, beqFT, beqFF, decide_eq_true (Int.ofNat_lt.2 hi), dec_nn, look_at hx, wrap_succ hi hl.1]
    apply Stp.conv
    · apply stp_not
      intro _
      exact stp_end
    · simp
theorem both {na0 : Int} {na1 : Int} {na2 : Int} {la3 : Rows} {la4 : Rows} {la5 : Rows} {la6 : Rows} {ba7 : Bool} {la8 : Rows} {la9 : Rows} {la10 : Rows} {la11 : Rows} (h : ShL E (E 89) [.v (.int .i64 na0), .v (.int .i64 na1), .v (.int .i64 na2), .s 13 la3, .s 6 la4, .s 5 la5, .s 1 la6, .v (.bool ba7), .s 1 la8, .s 5 la9, .s 5 la10, .s 1 la11]) (hw : wtRow ([.v (.int .i64 na0), .v (.int .i64 na1), .v (.int .i64 na2), .s 13 la3, .s 6 la4, .s 5 la5, .s 1 la6, .v (.bool ba7), .s 1 la8, .s 5 la9, .s 5 la10, .s 1 la11] : Row) ≤ 1048576) (s : ByteArray) (hs : s.size ≤ maxLen) :
    ∃ (o0 : ByteArray) (o1 o2 : Int) (o3 o4 : Rows) (bb : Bool), ShL E (E 83) [.v (.string o0), .v (.int .i64 o1), .v (.int .i64 o2), .s 7 o3, .s 2 o4] ∧ wtRow ([.v (.string o0), .v (.int .i64 o1), .v (.int .i64 o2), .s 7 o3, .s 2 o4] : Row) ≤ 1048576 ∧ Ev fs 24 [.g [.v (.int .i64 na0), .v (.int .i64 na1), .v (.int .i64 na2), .s 13 la3, .s 6 la4, .s 5 la5, .s 1 la6, .v (.bool ba7), .s 1 la8, .s 5 la9, .s 5 la10, .s 1 la11], .d (.v (.string s))] ⟨.t [.g [.v (.string o0), .v (.int .i64 o1), .v (.int .i64 o2), .s 7 o3, .s 2 o4], .d (.v (.bool bb))], []⟩ ∧ Ev fs 26 [.g [.v (.int .i64 na0), .v (.int .i64 na1), .v (.int .i64 na2), .s 13 la3, .s 6 la4, .s 5 la5, .s 1 la6, .v (.bool ba7), .s 1 la8, .s 5 la9, .s 5 la10, .s 1 la11], .d (.v (.string s))] ⟨.t [.g [.v (.string o0), .v (.int .i64 o1), .v (.int .i64 o2), .s 7 o3, .s 2 o4], .d (.v (.bool bb))], []⟩ := by
  have h0 := h
  have w0 := hw
  simp only [wtRow, wtD] at w0
  rw [E89] at h0
  obtain ⟨_, _, ea0, pa0, h0_a0⟩ := inv_i h0
  cases ea0
  obtain ⟨_, _, ea1, pa1, h0_a1⟩ := inv_i h0_a0
  cases ea1
  obtain ⟨_, _, ea2, pa2, h0_a2⟩ := inv_i h0_a1
  cases ea2
  obtain ⟨_, _, ea3, pa3, h0_a3⟩ := inv_sl W101 h0_a2
  cases ea3
  obtain ⟨_, _, ea4, pa4, h0_a4⟩ := inv_sl W114 h0_a3
  cases ea4
  obtain ⟨_, _, ea5, pa5, h0_a5⟩ := inv_sl W111 h0_a4
  cases ea5
  obtain ⟨_, _, ea6, pa6, h0_a6⟩ := inv_sl W9 h0_a5
  cases ea6
  obtain ⟨_, _, ea7, h0_a7⟩ := inv_b h0_a6
  cases ea7
  obtain ⟨_, _, ea8, pa8, h0_a8⟩ := inv_sl W5 h0_a7
  cases ea8
  obtain ⟨_, _, ea9, pa9, h0_a9⟩ := inv_sl W83 h0_a8
  cases ea9
  obtain ⟨_, _, ea10, pa10, h0_a10⟩ := inv_sl W193 h0_a9
  cases ea10
  obtain ⟨_, _, ea11, pa11, h0_a11⟩ := inv_sl W9 h0_a10
  cases ea11
  have find : Evt (fun d n => l26x0 (TabD fs d) d n [(.v (.string s)), (.b [.v (.string ByteArray.empty), .v (.int .i64 0), .v (.int .i64 0), .o 7 [], .o 2 []]), (.fz 5 la9), (.v (.int .i64 (la9.length : Int))), (.v (.int .i64 0))]) (match findN la9.length (fun i => named s (la9[i]?.getD [])) with
      | some i => (.ret, [.b (match la9[i]?.getD [] with | [.v (.string o0), .v (.int .i64 o1), .v (.int .i64 o2), .s 7 o3, .s 2 o4] => [.v (.string o0), .v (.int .i64 o1), .v (.int .i64 o2), .o 7 o3, .o 2 o4] | _ => []), .v (.bool true)])
      | none => (.exit 0, [(.b [.v (.string ByteArray.empty), .v (.int .i64 0), .v (.int .i64 0), .o 7 [], .o 2 []])])) := by
    refine find_loop (L := fun d n i => l26x0 (TabD fs d) d n [(.v (.string s)), (.b [.v (.string ByteArray.empty), .v (.int .i64 0), .v (.int .i64 0), .o 7 [], .o 2 []]), (.fz 5 la9), (.v (.int .i64 (la9.length : Int))), (.v (.int .i64 i))]) (fun d m => ?_) (fun i hi => ?_)
    · rw [l26x0s]
      simp -implicitDefEqProofs only [cI, cB, cS, cL, oD_d, oG_g, oT_t, oP_p, dI_v, dB_v, dS_v, dL_s, cell_z, cell_s, nth_z, nth_s, aV_z, aV_s, aI_v, aB_v, aS_v, aL_f, aO_o, aX_b, tst_t, cond_true, cond_false, Ex.same, Nat.beq, List.length_cons, List.length_nil, Int.toNat_natCast, beqTT, beqTF, beqFT, beqFF, Int.lt_irrefl, decide_false]
    · have hx := List.getElem?_eq_getElem hi
      generalize la9[i] = x at hx
      have h := pa9.at hx
      have h' := h
      have hwx := wt_at hx
      rw [E83] at h
      obtain ⟨sx0, rx0, rfl, px0, h_x0⟩ := inv_s h
      obtain ⟨nx1, rx1, rfl, px1, h_x1⟩ := inv_i h_x0
      obtain ⟨nx2, rx2, rfl, px2, h_x2⟩ := inv_i h_x1
      obtain ⟨lx3, rx3, rfl, px3, h_x3⟩ := inv_sl W270 h_x2
      obtain ⟨lx4, rx4, rfl, px4, h_x4⟩ := inv_sl W238 h_x3
      cases inv_nil h_x4
      simp only [l26x0s, hx, Option.getD_some, named, cN, cT, cR, cE, List.getElem?_cons_zero, List.getElem?_cons_succ]
      simp -implicitDefEqProofs only [cI, cB, cS, cL, oD_d, oG_g, oT_t, oP_p, dI_v, dB_v, dS_v, dL_s, cell_z, cell_s, nth_z, nth_s, aV_z, aV_s, aI_v, aB_v, aS_v, aL_f, aO_o, aX_b, tst_t, cond_true, cond_false, Ex.same, Nat.beq, List.length_cons, List.length_nil, Int.toNat_natCast, beqTT, beqTF, beqFT, beqFF, decide_eq_true (Int.ofNat_lt.2 hi), dec_nn, look_at hx, wrap_succ hi pa9.1]
      intro res k k'
      refine ev_if (fun c1 => ?_) (fun c1 => ?_)
      · refine ev_call (f107 h' (by omega)) ?_
        simp -implicitDefEqProofs only [cI, cB, cS, cL, oD_d, oG_g, oT_t, oP_p, dI_v, dB_v, dS_v, dL_s, cell_z, cell_s, nth_z, nth_s, aV_z, aV_s, aI_v, aB_v, aS_v, aL_f, aO_o, aX_b, tst_t, cond_true, cond_false, Ex.same, Nat.beq, List.length_cons, List.length_nil, Int.toNat_natCast, beqTT, beqTF, beqFT, beqFF]
        exact Evt.ret' (k' (by simp [c1]))
      · exact k (by simp [c1])
  cases hq : findN la9.length (fun i => named s (la9[i]?.getD [])) with
  | none =>
    rw [hq] at find
    refine ⟨ByteArray.empty, 0, 0, [], [], false, ?_, by decide, ?_, ?_⟩
    · rw [E83]
      exact mk_s (by decide) (mk_i (by decide) (mk_i (by decide) (mk_sl W270 ⟨by decide, .nil⟩ (mk_sl W238 ⟨by decide, .nil⟩ .nil))))
    · refine Ev.of (af := a24) rfl rfl (Evt.congr (fun d n => a24q ..) ?_)
      refine ev_call (f102 pa9 s) ?_
      simp only [idxR, hq]
      simp -implicitDefEqProofs only [cI, cB, cS, cL, oD_d, oG_g, oT_t, oP_p, dI_v, dB_v, dS_v, dL_s, cell_z, cell_s, nth_z, nth_s, aV_z, aV_s, aI_v, aB_v, aS_v, aL_f, aO_o, aX_b, tst_t, cond_true, cond_false, Ex.same, Nat.beq, List.length_cons, List.length_nil, Int.toNat_natCast, beqTT, beqTF, beqFT, beqFF, show decide ((-1 : Int) < 0) = true from rfl]
      exact Evt.ret
    · refine Ev.of (af := a26) rfl rfl (Evt.congr (fun d n => a26q ..) ?_)
      refine ev_aft (L := fun d n => l26x0 (TabD fs d) d n [(.v (.string s)), (.b [.v (.string ByteArray.empty), .v (.int .i64 0), .v (.int .i64 0), .o 7 [], .o 2 []]), (.fz 5 la9), (.v (.int .i64 (la9.length : Int))), (.v (.int .i64 0))]) find ?_
      simp -implicitDefEqProofs only [cI, cB, cS, cL, oD_d, oG_g, oT_t, oP_p, dI_v, dB_v, dS_v, dL_s, cell_z, cell_s, nth_z, nth_s, aV_z, aV_s, aI_v, aB_v, aS_v, aL_f, aO_o, aX_b, tst_t, cond_true, cond_false, Ex.same, Nat.beq, List.length_cons, List.length_nil, Int.toNat_natCast, beqTT, beqTF, beqFT, beqFF]
      exact Evt.ret
  | some i =>
    rw [hq] at find
    obtain ⟨hi, _⟩ := findN_some.1 hq
    have hx := List.getElem?_eq_getElem hi
    generalize la9[i] = x at hx
    have g := pa9.at hx
    have g' := g
    have hwx := wt_at hx
    rw [E83] at g
    obtain ⟨sx0, rx0, rfl, px0, g_x0⟩ := inv_s g
    obtain ⟨nx1, rx1, rfl, px1, g_x1⟩ := inv_i g_x0
    obtain ⟨nx2, rx2, rfl, px2, g_x2⟩ := inv_i g_x1
    obtain ⟨lx3, rx3, rfl, px3, g_x3⟩ := inv_sl W270 g_x2
    obtain ⟨lx4, rx4, rfl, px4, g_x4⟩ := inv_sl W238 g_x3
    cases inv_nil g_x4
    simp only [hx, Option.getD_some] at find
    refine ⟨_, _, _, _, _, true, g', by omega, ?_, ?_⟩
    · refine Ev.of (af := a24) rfl rfl (Evt.congr (fun d n => a24q ..) ?_)
      refine ev_call (f102 pa9 s) ?_
      simp only [idxR, hq]
      simp -implicitDefEqProofs only [cI, cB, cS, cL, oD_d, oG_g, oT_t, oP_p, dI_v, dB_v, dS_v, dL_s, cell_z, cell_s, nth_z, nth_s, aV_z, aV_s, aI_v, aB_v, aS_v, aL_f, aO_o, aX_b, tst_t, cond_true, cond_false, Ex.same, Nat.beq, List.length_cons, List.length_nil, Int.toNat_natCast, beqTT, beqTF, beqFT, beqFF, show decide (((i : Nat) : Int) < 0) = false from by simp, dec_nn, look_at hx]
      refine ev_call (f103 g' (by omega)) ?_
      simp -implicitDefEqProofs only [cI, cB, cS, cL, oD_d, oG_g, oT_t, oP_p, dI_v, dB_v, dS_v, dL_s, cell_z, cell_s, nth_z, nth_s, aV_z, aV_s, aI_v, aB_v, aS_v, aL_f, aO_o, aX_b, tst_t, cond_true, cond_false, Ex.same, Nat.beq, List.length_cons, List.length_nil, Int.toNat_natCast, beqTT, beqTF, beqFT, beqFF]
      exact Evt.ret
    · refine Ev.of (af := a26) rfl rfl (Evt.congr (fun d n => a26q ..) ?_)
      refine ev_aft (L := fun d n => l26x0 (TabD fs d) d n [(.v (.string s)), (.b [.v (.string ByteArray.empty), .v (.int .i64 0), .v (.int .i64 0), .o 7 [], .o 2 []]), (.fz 5 la9), (.v (.int .i64 (la9.length : Int))), (.v (.int .i64 0))]) find ?_
      simp -implicitDefEqProofs only [cI, cB, cS, cL, oD_d, oG_g, oT_t, oP_p, dI_v, dB_v, dS_v, dL_s, cell_z, cell_s, nth_z, nth_s, aV_z, aV_s, aI_v, aB_v, aS_v, aL_f, aO_o, aX_b, tst_t, cond_true, cond_false, Ex.same, Nat.beq, List.length_cons, List.length_nil, Int.toNat_natCast, beqTT, beqTF, beqFT, beqFF]
      exact Evt.ret
end Go.Am.Is
