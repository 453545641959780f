/- What FnExactSpread says in the end: yes, whatever it is given. Nothing is assumed. -/
import Derived.Test.YtapjklbchbgiaaaSpS
import Derived.Test.YtapjklbchbgiaaaSpC
import Derived.Test.YtapjklbchbgiaaaSpQ
import Derived.Test.YtapjklbchbgiaaaSpM
import Derived.Test.YtapjklbchbgiaaaSpD
import Derived.Test.YtapjklbchbgiaaaSpX
namespace Go.Am.Sp
set_option linter.unusedVariables false
set_option linter.unusedSimpArgs false
set_option maxRecDepth 8000
def sm : TypeId → TypeId := fun t => if t = 50 then 57 else if t = 142 then 157 else if t = 239 then 206 else if t = 241 then 207 else if t = 112 then 122 else if t = 223 then 210 else if t = 256 then 237 else if t = 148 then 163 else if t = 244 then 213 else if t = 150 then 85 else t
theorem sm_ok : ∀ t ∈ ([142, 148, 150, 9, 239, 241, 112, 223, 256, 244] : List TypeId), E (sm t) = (E t).map (Sh.mp sm) ∧ slIn [142, 148, 150, 9, 239, 241, 112, 223, 256, 244] (E t) = true := by
  intro t ht
  simp only [List.mem_cons, List.not_mem_nil, or_false] at ht
  rcases ht with rfl | rfl | rfl | rfl | rfl | rfl | rfl | rfl | rfl | rfl
  · rw [show sm 142 = 157 from rfl, E157, E142]; exact ⟨rfl, rfl⟩
  · rw [show sm 148 = 163 from rfl, E163, E148]; exact ⟨rfl, rfl⟩
  · rw [show sm 150 = 85 from rfl, E85, E150]; exact ⟨rfl, rfl⟩
  · rw [show sm 9 = 9 from rfl, E9]; exact ⟨rfl, rfl⟩
  · rw [show sm 239 = 206 from rfl, E206, E239]; exact ⟨rfl, rfl⟩
  · rw [show sm 241 = 207 from rfl, E207, E241]; exact ⟨rfl, rfl⟩
  · rw [show sm 112 = 122 from rfl, E122, E112]; exact ⟨rfl, rfl⟩
  · rw [show sm 223 = 210 from rfl, E210, E223]; exact ⟨rfl, rfl⟩
  · rw [show sm 256 = 237 from rfl, E237, E256]; exact ⟨rfl, rfl⟩
  · rw [show sm 244 = 213 from rfl, E213, E244]; exact ⟨rfl, rfl⟩
theorem conv50 {r : Row} (h : ShL E (E 50) r) : ShL E (E 57) r := by
  have := h.conv sm_ok (by rw [E50]; rfl)
  rw [E50] at this
  rw [E57]
  exact this
theorem cn_ok : ∀ t ∈ ([9, 85, 122, 157, 163, 206, 207, 210, 213, 237] : List TypeId), (E t).length ≤ 64 ∧ slIn [9, 85, 122, 157, 163, 206, 207, 210, 213, 237] (E t) = true := by
  intro t ht
  simp only [List.mem_cons, List.not_mem_nil, or_false] at ht
  rcases ht with rfl | rfl | rfl | rfl | rfl | rfl | rfl | rfl | rfl | rfl
  · rw [E9]; exact ⟨by decide, rfl⟩
  · rw [E85]; exact ⟨by decide, rfl⟩
  · rw [E122]; exact ⟨by decide, rfl⟩
  · rw [E157]; exact ⟨by decide, rfl⟩
  · rw [E163]; exact ⟨by decide, rfl⟩
  · rw [E206]; exact ⟨by decide, rfl⟩
  · rw [E207]; exact ⟨by decide, rfl⟩
  · rw [E210]; exact ⟨by decide, rfl⟩
  · rw [E213]; exact ⟨by decide, rfl⟩
  · rw [E237]; exact ⟨by decide, rfl⟩
theorem f6 {r0 : Row} (h0 : ShL E (E 50) r0) {u1 : Int} (h1 : Fits u1) : Ev fs 6 [.g r0, .d (.v (.int .i64 u1))] (bo true) := by
  have k0 := h0
  have g0 := conv50 h0
  rw [E50] at h0
  obtain ⟨na0, ra0, rfl, pa0, h0_a0⟩ := inv_i h0
  obtain ⟨na1, ra1, rfl, pa1, h0_a1⟩ := inv_i h0_a0
  obtain ⟨na2, ra2, rfl, pa2, h0_a2⟩ := inv_i h0_a1
  obtain ⟨la3, ra3, rfl, pa3, h0_a3⟩ := inv_sl W142 h0_a2
  obtain ⟨la4, ra4, rfl, pa4, h0_a4⟩ := inv_sl W148 h0_a3
  obtain ⟨la5, ra5, rfl, pa5, h0_a5⟩ := inv_sl W150 h0_a4
  obtain ⟨la6, ra6, rfl, pa6, h0_a6⟩ := inv_sl W9 h0_a5
  cases inv_nil h0_a6
  refine Ev.of (af := a6) rfl rfl (Evt.congr (fun d n => a6q ..) ?_)
  rcases f18 k0 1048576 (by decide) (by first | decide | (show (_ : Int) ≤ 1048576; omega)) with q | ⟨m0, m0a, m0b, q⟩
  · refine ev_call q ?_
    simp -implicitDefEqProofs only [cI, cB, cS, cL, oD_d, oG_g, oT_t, oP_p, dI_v, dB_v, dS_v, dL_s, cell_z, cell_s, nth_z, nth_s, aV_z, aV_s, aI_v, aB_v, aS_v, aL_f, aO_o, aX_b, tst_t, cond_true, cond_false, Ex.same, Nat.beq, List.length_cons, List.length_nil, Int.toNat_natCast, beqTT, beqTF, beqFT, beqFF]
    simp only [show decide ((-1 : Int) < 0) = true from rfl, cond_true]
    exact Evt.ret
  refine ev_call q ?_
  simp -implicitDefEqProofs only [cI, cB, cS, cL, oD_d, oG_g, oT_t, oP_p, dI_v, dB_v, dS_v, dL_s, cell_z, cell_s, nth_z, nth_s, aV_z, aV_s, aI_v, aB_v, aS_v, aL_f, aO_o, aX_b, tst_t, cond_true, cond_false, Ex.same, Nat.beq, List.length_cons, List.length_nil, Int.toNat_natCast, beqTT, beqTF, beqFT, beqFF]
  refine ev_if (fun hc => absurd (of_decide_eq_true hc) (by omega)) (fun _ => ?_)
  have w0 : wtRow ([.v (.int .i64 na0), .v (.int .i64 na1), .v (.int .i64 na2), .s 13 la3, .s 6 la4, .s 5 la5, .s 1 la6] : Row) ≤ 1048576 := by omega
  have t0 := f20 k0 w0
  have hsz : la5.length ≤ 1048576 := by simp only [wtRow, wtD] at w0; omega
  have go : SL E 101 (sprd u1 la5) := by
    have gg := g0
    rw [E57] at gg
    obtain ⟨_, _, ez0, pz0, gg_z0⟩ := inv_i gg
    cases ez0
    obtain ⟨_, _, ez1, pz1, gg_z1⟩ := inv_i gg_z0
    cases ez1
    obtain ⟨_, _, ez2, pz2, gg_z2⟩ := inv_i gg_z1
    cases ez2
    obtain ⟨_, _, ez3, pz3, gg_z3⟩ := inv_sl W157 gg_z2
    cases ez3
    obtain ⟨_, _, ez4, pz4, gg_z4⟩ := inv_sl W163 gg_z3
    cases ez4
    obtain ⟨_, _, ez5, pz5, gg_z5⟩ := inv_sl W85 gg_z4
    cases ez5
    obtain ⟨_, _, ez6, pz6, gg_z6⟩ := inv_sl W9 gg_z5
    cases ez6
    exact sl_sprd u1 pz5
  have gl : (sprd u1 la5).length ≤ 1048576 := Nat.le_trans (sprd_len u1 la5) hsz
  have co : cnRows (sprd u1 la5) = 2 * (sprd u1 la5).length := cn_part fun x hx => go.2.mem x hx
  have e1 := f26 g0 u1 rfl hsz
  have e2 := f27 g0 u1 rfl hsz
  generalize sprd u1 la5 = ws at go gl co e1 e2
  first | refine ev_call t0 ?_
  simp -implicitDefEqProofs only [cI, cB, cS, cL, oD_d, oG_g, oT_t, oP_p, dI_v, dB_v, dS_v, dL_s, cell_z, cell_s, nth_z, nth_s, aV_z, aV_s, aI_v, aB_v, aS_v, aL_f, aO_o, aX_b, tst_t, cond_true, cond_false, Ex.same, Nat.beq, List.length_cons, List.length_nil, Int.toNat_natCast, beqTT, beqTF, beqFT, beqFF, g0.refl, Bool.not_true, bne_self_eq_false, beq_f, beq_t, Bool.not_false, bytesEq_self, beq_self_eq_true, Bool.and_self, mkTop, go.2.refl]
  refine ev_call e1 ?_
  simp -implicitDefEqProofs only [cI, cB, cS, cL, oD_d, oG_g, oT_t, oP_p, dI_v, dB_v, dS_v, dL_s, cell_z, cell_s, nth_z, nth_s, aV_z, aV_s, aI_v, aB_v, aS_v, aL_f, aO_o, aX_b, tst_t, cond_true, cond_false, Ex.same, Nat.beq, List.length_cons, List.length_nil, Int.toNat_natCast, beqTT, beqTF, beqFT, beqFF, g0.refl, Bool.not_true, bne_self_eq_false, beq_f, beq_t, Bool.not_false, bytesEq_self, beq_self_eq_true, Bool.and_self, mkTop, go.2.refl]
  first | refine ev_call t0 ?_
  simp -implicitDefEqProofs only [cI, cB, cS, cL, oD_d, oG_g, oT_t, oP_p, dI_v, dB_v, dS_v, dL_s, cell_z, cell_s, nth_z, nth_s, aV_z, aV_s, aI_v, aB_v, aS_v, aL_f, aO_o, aX_b, tst_t, cond_true, cond_false, Ex.same, Nat.beq, List.length_cons, List.length_nil, Int.toNat_natCast, beqTT, beqTF, beqFT, beqFF, g0.refl, Bool.not_true, bne_self_eq_false, beq_f, beq_t, Bool.not_false, bytesEq_self, beq_self_eq_true, Bool.and_self, mkTop, go.2.refl]
  refine ev_call e2 ?_
  simp -implicitDefEqProofs only [cI, cB, cS, cL, oD_d, oG_g, oT_t, oP_p, dI_v, dB_v, dS_v, dL_s, cell_z, cell_s, nth_z, nth_s, aV_z, aV_s, aI_v, aB_v, aS_v, aL_f, aO_o, aX_b, tst_t, cond_true, cond_false, Ex.same, Nat.beq, List.length_cons, List.length_nil, Int.toNat_natCast, beqTT, beqTF, beqFT, beqFF, g0.refl, Bool.not_true, bne_self_eq_false, beq_f, beq_t, Bool.not_false, bytesEq_self, beq_self_eq_true, Bool.and_self, mkTop, go.2.refl]
  refine ev_call (f28 (by assumption) (by assumption)) ?_
  simp -implicitDefEqProofs only [cI, cB, cS, cL, oD_d, oG_g, oT_t, oP_p, dI_v, dB_v, dS_v, dL_s, cell_z, cell_s, nth_z, nth_s, aV_z, aV_s, aI_v, aB_v, aS_v, aL_f, aO_o, aX_b, tst_t, cond_true, cond_false, Ex.same, Nat.beq, List.length_cons, List.length_nil, Int.toNat_natCast, beqTT, beqTF, beqFT, beqFF, g0.refl, Bool.not_true, bne_self_eq_false, beq_f, beq_t, Bool.not_false, bytesEq_self, beq_self_eq_true, Bool.and_self, mkTop, go.2.refl]
  first | refine ev_call t0 ?_
  simp -implicitDefEqProofs only [cI, cB, cS, cL, oD_d, oG_g, oT_t, oP_p, dI_v, dB_v, dS_v, dL_s, cell_z, cell_s, nth_z, nth_s, aV_z, aV_s, aI_v, aB_v, aS_v, aL_f, aO_o, aX_b, tst_t, cond_true, cond_false, Ex.same, Nat.beq, List.length_cons, List.length_nil, Int.toNat_natCast, beqTT, beqTF, beqFT, beqFF, g0.refl, Bool.not_true, bne_self_eq_false, beq_f, beq_t, Bool.not_false, bytesEq_self, beq_self_eq_true, Bool.and_self, mkTop, go.2.refl]
  refine ev_call (f22 (by assumption) (by assumption)) ?_
  simp -implicitDefEqProofs only [cI, cB, cS, cL, oD_d, oG_g, oT_t, oP_p, dI_v, dB_v, dS_v, dL_s, cell_z, cell_s, nth_z, nth_s, aV_z, aV_s, aI_v, aB_v, aS_v, aL_f, aO_o, aX_b, tst_t, cond_true, cond_false, Ex.same, Nat.beq, List.length_cons, List.length_nil, Int.toNat_natCast, beqTT, beqTF, beqFT, beqFF, g0.refl, Bool.not_true, bne_self_eq_false, beq_f, beq_t, Bool.not_false, bytesEq_self, beq_self_eq_true, Bool.and_self, mkTop, go.2.refl]
  have c0 := cnTop_le (r := ([.v (.int .i64 na0), .v (.int .i64 na1), .v (.int .i64 na2), .s 13 la3, .s 6 la4, .s 5 la5, .s 1 la6] : Row))
  have d0 := cnRow_le cn_ok g0 (by rw [E57]; rfl)
  rw [E57] at d0
  simp only [List.length_cons, List.length_nil] at d0
  refine ev_call (f29 (by assumption) _ (by omega) (by simp only [K62]; omega)) ?_
  simp -implicitDefEqProofs only [cI, cB, cS, cL, oD_d, oG_g, oT_t, oP_p, dI_v, dB_v, dS_v, dL_s, cell_z, cell_s, nth_z, nth_s, aV_z, aV_s, aI_v, aB_v, aS_v, aL_f, aO_o, aX_b, tst_t, cond_true, cond_false, Ex.same, Nat.beq, List.length_cons, List.length_nil, Int.toNat_natCast, beqTT, beqTF, beqFT, beqFF, g0.refl, Bool.not_true, bne_self_eq_false, beq_f, beq_t, Bool.not_false, bytesEq_self, beq_self_eq_true, Bool.and_self, mkTop, go.2.refl]
  refine ev_if (fun _ => ?_) (fun hc => absurd (by simpa using hc) (by omega))
  try simp -implicitDefEqProofs only [cI, cB, cS, cL, oD_d, oG_g, oT_t, oP_p, dI_v, dB_v, dS_v, dL_s, cell_z, cell_s, nth_z, nth_s, aV_z, aV_s, aI_v, aB_v, aS_v, aL_f, aO_o, aX_b, tst_t, cond_true, cond_false, Ex.same, Nat.beq, List.length_cons, List.length_nil, Int.toNat_natCast, beqTT, beqTF, beqFT, beqFF, g0.refl, Bool.not_true, bne_self_eq_false, beq_f, beq_t, Bool.not_false, bytesEq_self, beq_self_eq_true, Bool.and_self, mkTop, go.2.refl]
  refine ev_call (f28 (by assumption) (by assumption)) ?_
  simp -implicitDefEqProofs only [cI, cB, cS, cL, oD_d, oG_g, oT_t, oP_p, dI_v, dB_v, dS_v, dL_s, cell_z, cell_s, nth_z, nth_s, aV_z, aV_s, aI_v, aB_v, aS_v, aL_f, aO_o, aX_b, tst_t, cond_true, cond_false, Ex.same, Nat.beq, List.length_cons, List.length_nil, Int.toNat_natCast, beqTT, beqTF, beqFT, beqFF, g0.refl, Bool.not_true, bne_self_eq_false, beq_f, beq_t, Bool.not_false, bytesEq_self, beq_self_eq_true, Bool.and_self, mkTop, go.2.refl]
  refine ev_call (f30 (by assumption) _ (by omega) (by simp only [K62]; omega)) ?_
  simp -implicitDefEqProofs only [cI, cB, cS, cL, oD_d, oG_g, oT_t, oP_p, dI_v, dB_v, dS_v, dL_s, cell_z, cell_s, nth_z, nth_s, aV_z, aV_s, aI_v, aB_v, aS_v, aL_f, aO_o, aX_b, tst_t, cond_true, cond_false, Ex.same, Nat.beq, List.length_cons, List.length_nil, Int.toNat_natCast, beqTT, beqTF, beqFT, beqFF, g0.refl, Bool.not_true, bne_self_eq_false, beq_f, beq_t, Bool.not_false, bytesEq_self, beq_self_eq_true, Bool.and_self, mkTop, go.2.refl]
  -- held
  have eh0 := f31 go 1 (by omega) (by simp only [K62]; omega)
  refine ev_call eh0 ?_
  simp -implicitDefEqProofs only [cI, cB, cS, cL, oD_d, oG_g, oT_t, oP_p, dI_v, dB_v, dS_v, dL_s, cell_z, cell_s, nth_z, nth_s, aV_z, aV_s, aI_v, aB_v, aS_v, aL_f, aO_o, aX_b, tst_t, cond_true, cond_false, Ex.same, Nat.beq, List.length_cons, List.length_nil, Int.toNat_natCast, beqTT, beqTF, beqFT, beqFF, g0.refl, Bool.not_true, bne_self_eq_false, beq_f, beq_t, Bool.not_false, bytesEq_self, beq_self_eq_true, Bool.and_self, mkTop, go.2.refl]
  refine ev_if (fun hc => absurd (of_decide_eq_true hc) (by omega)) (fun _ => ?_)
  try simp -implicitDefEqProofs only [cI, cB, cS, cL, oD_d, oG_g, oT_t, oP_p, dI_v, dB_v, dS_v, dL_s, cell_z, cell_s, nth_z, nth_s, aV_z, aV_s, aI_v, aB_v, aS_v, aL_f, aO_o, aX_b, tst_t, cond_true, cond_false, Ex.same, Nat.beq, List.length_cons, List.length_nil, Int.toNat_natCast, beqTT, beqTF, beqFT, beqFF, g0.refl, Bool.not_true, bne_self_eq_false, beq_f, beq_t, Bool.not_false, bytesEq_self, beq_self_eq_true, Bool.and_self, mkTop, go.2.refl]
  first | refine ev_call t0 ?_
  simp -implicitDefEqProofs only [cI, cB, cS, cL, oD_d, oG_g, oT_t, oP_p, dI_v, dB_v, dS_v, dL_s, cell_z, cell_s, nth_z, nth_s, aV_z, aV_s, aI_v, aB_v, aS_v, aL_f, aO_o, aX_b, tst_t, cond_true, cond_false, Ex.same, Nat.beq, List.length_cons, List.length_nil, Int.toNat_natCast, beqTT, beqTF, beqFT, beqFF, g0.refl, Bool.not_true, bne_self_eq_false, beq_f, beq_t, Bool.not_false, bytesEq_self, beq_self_eq_true, Bool.and_self, mkTop, go.2.refl]
  refine ev_call e2 ?_
  simp -implicitDefEqProofs only [cI, cB, cS, cL, oD_d, oG_g, oT_t, oP_p, dI_v, dB_v, dS_v, dL_s, cell_z, cell_s, nth_z, nth_s, aV_z, aV_s, aI_v, aB_v, aS_v, aL_f, aO_o, aX_b, tst_t, cond_true, cond_false, Ex.same, Nat.beq, List.length_cons, List.length_nil, Int.toNat_natCast, beqTT, beqTF, beqFT, beqFF, g0.refl, Bool.not_true, bne_self_eq_false, beq_f, beq_t, Bool.not_false, bytesEq_self, beq_self_eq_true, Bool.and_self, mkTop, go.2.refl]
  refine ev_call (f28 (by assumption) (by assumption)) ?_
  simp -implicitDefEqProofs only [cI, cB, cS, cL, oD_d, oG_g, oT_t, oP_p, dI_v, dB_v, dS_v, dL_s, cell_z, cell_s, nth_z, nth_s, aV_z, aV_s, aI_v, aB_v, aS_v, aL_f, aO_o, aX_b, tst_t, cond_true, cond_false, Ex.same, Nat.beq, List.length_cons, List.length_nil, Int.toNat_natCast, beqTT, beqTF, beqFT, beqFF, g0.refl, Bool.not_true, bne_self_eq_false, beq_f, beq_t, Bool.not_false, bytesEq_self, beq_self_eq_true, Bool.and_self, mkTop, go.2.refl]
  -- held
  have eh1 := f31 go 1 (by omega) (by simp only [K62]; omega)
  refine ev_call eh1 ?_
  simp -implicitDefEqProofs only [cI, cB, cS, cL, oD_d, oG_g, oT_t, oP_p, dI_v, dB_v, dS_v, dL_s, cell_z, cell_s, nth_z, nth_s, aV_z, aV_s, aI_v, aB_v, aS_v, aL_f, aO_o, aX_b, tst_t, cond_true, cond_false, Ex.same, Nat.beq, List.length_cons, List.length_nil, Int.toNat_natCast, beqTT, beqTF, beqFT, beqFF, g0.refl, Bool.not_true, bne_self_eq_false, beq_f, beq_t, Bool.not_false, bytesEq_self, beq_self_eq_true, Bool.and_self, mkTop, go.2.refl]
  refine ev_if (fun hc => absurd (of_decide_eq_true hc) (by omega)) (fun _ => ?_)
  try simp -implicitDefEqProofs only [cI, cB, cS, cL, oD_d, oG_g, oT_t, oP_p, dI_v, dB_v, dS_v, dL_s, cell_z, cell_s, nth_z, nth_s, aV_z, aV_s, aI_v, aB_v, aS_v, aL_f, aO_o, aX_b, tst_t, cond_true, cond_false, Ex.same, Nat.beq, List.length_cons, List.length_nil, Int.toNat_natCast, beqTT, beqTF, beqFT, beqFF, g0.refl, Bool.not_true, bne_self_eq_false, beq_f, beq_t, Bool.not_false, bytesEq_self, beq_self_eq_true, Bool.and_self, mkTop, go.2.refl]
  exact Evt.ret
end Go.Am.Sp
