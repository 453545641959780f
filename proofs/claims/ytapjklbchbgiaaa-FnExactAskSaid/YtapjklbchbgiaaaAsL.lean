/- What FnExactAsk says in the end: yes, whatever it is given. Nothing is assumed. -/
import Derived.Test.YtapjklbchbgiaaaAsS
import Derived.Test.YtapjklbchbgiaaaAsC
import Derived.Test.YtapjklbchbgiaaaAsQ
import Derived.Test.YtapjklbchbgiaaaAsM
import Derived.Test.YtapjklbchbgiaaaAsD
import Derived.Test.YtapjklbchbgiaaaAsX
namespace Go.Am.As
set_option linter.unusedVariables false
set_option linter.unusedSimpArgs false
set_option maxRecDepth 8000
def sm : TypeId → TypeId := fun t => if t = 25 then 33 else if t = 114 then 124 else if t = 112 then 122 else if t = 129 then 127 else t
theorem sm_ok : ∀ t ∈ ([114, 129, 9, 112] : List TypeId), E (sm t) = (E t).map (Sh.mp sm) ∧ slIn [114, 129, 9, 112] (E t) = true := by
  intro t ht
  simp only [List.mem_cons, List.not_mem_nil, or_false] at ht
  rcases ht with rfl | rfl | rfl | rfl
  · rw [show sm 114 = 124 from rfl, E124, E114]; exact ⟨rfl, rfl⟩
  · rw [show sm 129 = 127 from rfl, E127, E129]; exact ⟨rfl, rfl⟩
  · rw [show sm 9 = 9 from rfl, E9]; exact ⟨rfl, rfl⟩
  · rw [show sm 112 = 122 from rfl, E122, E112]; exact ⟨rfl, rfl⟩
theorem conv25 {r : Row} (h : ShL E (E 25) r) : ShL E (E 33) r := by
  have := h.conv sm_ok (by rw [E25]; rfl)
  rw [E25] at this
  rw [E33]
  exact this
theorem cn_ok : ∀ t ∈ ([9, 122, 124, 127] : List TypeId), (E t).length ≤ 64 ∧ slIn [9, 122, 124, 127] (E t) = true := by
  intro t ht
  simp only [List.mem_cons, List.not_mem_nil, or_false] at ht
  rcases ht with rfl | rfl | rfl | rfl
  · rw [E9]; exact ⟨by decide, rfl⟩
  · rw [E122]; exact ⟨by decide, rfl⟩
  · rw [E124]; exact ⟨by decide, rfl⟩
  · rw [E127]; exact ⟨by decide, rfl⟩
theorem f5 {r0 : Row} (h0 : ShL E (E 25) r0) : Ev fs 5 [.g r0] (bo true) := by
  have k0 := h0
  have g0 := conv25 h0
  rw [E25] at h0
  obtain ⟨sa0, ra0, rfl, pa0, h0_a0⟩ := inv_s h0
  obtain ⟨na1, ra1, rfl, pa1, h0_a1⟩ := inv_i h0_a0
  obtain ⟨na2, ra2, rfl, pa2, h0_a2⟩ := inv_i h0_a1
  obtain ⟨la3, ra3, rfl, pa3, h0_a3⟩ := inv_sl W114 h0_a2
  obtain ⟨la4, ra4, rfl, pa4, h0_a4⟩ := inv_sl W129 h0_a3
  cases inv_nil h0_a4
  refine Ev.of (af := a5) rfl rfl (Evt.congr (fun d n => a5q ..) ?_)
  rcases f7 k0 1048576 (by decide) (by first | decide | (show (_ : Int) ≤ 1048576; omega)) with q | ⟨m0, m0a, m0b, q⟩
  · refine ev_call q ?_
    simp -implicitDefEqProofs only [cI, cB, cS, cL, oD_d, oG_g, oT_t, oP_p, dI_v, dB_v, dS_v, dL_s, cell_z, cell_s, nth_z, nth_s, aV_z, aV_s, aI_v, aB_v, aS_v, aL_f, aO_o, aX_b, tst_t, cond_true, cond_false, Ex.same, Nat.beq, List.length_cons, List.length_nil, Int.toNat_natCast, beqTT, beqTF, beqFT, beqFF]
    simp only [show decide ((-1 : Int) < 0) = true from rfl, cond_true]
    exact Evt.ret
  refine ev_call q ?_
  simp -implicitDefEqProofs only [cI, cB, cS, cL, oD_d, oG_g, oT_t, oP_p, dI_v, dB_v, dS_v, dL_s, cell_z, cell_s, nth_z, nth_s, aV_z, aV_s, aI_v, aB_v, aS_v, aL_f, aO_o, aX_b, tst_t, cond_true, cond_false, Ex.same, Nat.beq, List.length_cons, List.length_nil, Int.toNat_natCast, beqTT, beqTF, beqFT, beqFF]
  refine ev_if (fun hc => absurd (of_decide_eq_true hc) (by omega)) (fun _ => ?_)
  have w0 : wtRow ([.v (.string sa0), .v (.int .i64 na1), .v (.int .i64 na2), .s 7 la3, .s 2 la4] : Row) ≤ 1048576 := by omega
  have t0 := f10 k0 w0
  obtain ⟨o0, o1, o2, o4, go, wo, e1, e2⟩ := both g0 w0
  have co := cnTop_le (r := ([.v (.int .i64 o0), .v (.string o1), .v (.int .i64 o2), .s 7 [], .s 2 o4] : Row))
  have dd := cnRow_le cn_ok go (by rw [E38]; rfl)
  rw [E38] at dd
  simp only [List.length_cons, List.length_nil] at dd
  first | refine ev_call t0 ?_
  simp -implicitDefEqProofs only [cI, cB, cS, cL, oD_d, oG_g, oT_t, oP_p, dI_v, dB_v, dS_v, dL_s, cell_z, cell_s, nth_z, nth_s, aV_z, aV_s, aI_v, aB_v, aS_v, aL_f, aO_o, aX_b, tst_t, cond_true, cond_false, Ex.same, Nat.beq, List.length_cons, List.length_nil, Int.toNat_natCast, beqTT, beqTF, beqFT, beqFF, g0.refl, Bool.not_true, bne_self_eq_false, beq_f, beq_t, Bool.not_false, bytesEq_self, beq_self_eq_true, Bool.and_self, mkTop, go.refl]
  refine ev_call e1 ?_
  simp -implicitDefEqProofs only [cI, cB, cS, cL, oD_d, oG_g, oT_t, oP_p, dI_v, dB_v, dS_v, dL_s, cell_z, cell_s, nth_z, nth_s, aV_z, aV_s, aI_v, aB_v, aS_v, aL_f, aO_o, aX_b, tst_t, cond_true, cond_false, Ex.same, Nat.beq, List.length_cons, List.length_nil, Int.toNat_natCast, beqTT, beqTF, beqFT, beqFF, g0.refl, Bool.not_true, bne_self_eq_false, beq_f, beq_t, Bool.not_false, bytesEq_self, beq_self_eq_true, Bool.and_self, mkTop, go.refl]
  first | refine ev_call t0 ?_
  simp -implicitDefEqProofs only [cI, cB, cS, cL, oD_d, oG_g, oT_t, oP_p, dI_v, dB_v, dS_v, dL_s, cell_z, cell_s, nth_z, nth_s, aV_z, aV_s, aI_v, aB_v, aS_v, aL_f, aO_o, aX_b, tst_t, cond_true, cond_false, Ex.same, Nat.beq, List.length_cons, List.length_nil, Int.toNat_natCast, beqTT, beqTF, beqFT, beqFF, g0.refl, Bool.not_true, bne_self_eq_false, beq_f, beq_t, Bool.not_false, bytesEq_self, beq_self_eq_true, Bool.and_self, mkTop, go.refl]
  refine ev_call e2 ?_
  simp -implicitDefEqProofs only [cI, cB, cS, cL, oD_d, oG_g, oT_t, oP_p, dI_v, dB_v, dS_v, dL_s, cell_z, cell_s, nth_z, nth_s, aV_z, aV_s, aI_v, aB_v, aS_v, aL_f, aO_o, aX_b, tst_t, cond_true, cond_false, Ex.same, Nat.beq, List.length_cons, List.length_nil, Int.toNat_natCast, beqTT, beqTF, beqFT, beqFF, g0.refl, Bool.not_true, bne_self_eq_false, beq_f, beq_t, Bool.not_false, bytesEq_self, beq_self_eq_true, Bool.and_self, mkTop, go.refl]
  refine ev_call (f14 (by assumption) (by assumption)) ?_
  simp -implicitDefEqProofs only [cI, cB, cS, cL, oD_d, oG_g, oT_t, oP_p, dI_v, dB_v, dS_v, dL_s, cell_z, cell_s, nth_z, nth_s, aV_z, aV_s, aI_v, aB_v, aS_v, aL_f, aO_o, aX_b, tst_t, cond_true, cond_false, Ex.same, Nat.beq, List.length_cons, List.length_nil, Int.toNat_natCast, beqTT, beqTF, beqFT, beqFF, g0.refl, Bool.not_true, bne_self_eq_false, beq_f, beq_t, Bool.not_false, bytesEq_self, beq_self_eq_true, Bool.and_self, mkTop, go.refl]
  first | refine ev_call t0 ?_
  simp -implicitDefEqProofs only [cI, cB, cS, cL, oD_d, oG_g, oT_t, oP_p, dI_v, dB_v, dS_v, dL_s, cell_z, cell_s, nth_z, nth_s, aV_z, aV_s, aI_v, aB_v, aS_v, aL_f, aO_o, aX_b, tst_t, cond_true, cond_false, Ex.same, Nat.beq, List.length_cons, List.length_nil, Int.toNat_natCast, beqTT, beqTF, beqFT, beqFF, g0.refl, Bool.not_true, bne_self_eq_false, beq_f, beq_t, Bool.not_false, bytesEq_self, beq_self_eq_true, Bool.and_self, mkTop, go.refl]
  refine ev_call (f13 (by assumption) (by assumption)) ?_
  simp -implicitDefEqProofs only [cI, cB, cS, cL, oD_d, oG_g, oT_t, oP_p, dI_v, dB_v, dS_v, dL_s, cell_z, cell_s, nth_z, nth_s, aV_z, aV_s, aI_v, aB_v, aS_v, aL_f, aO_o, aX_b, tst_t, cond_true, cond_false, Ex.same, Nat.beq, List.length_cons, List.length_nil, Int.toNat_natCast, beqTT, beqTF, beqFT, beqFF, g0.refl, Bool.not_true, bne_self_eq_false, beq_f, beq_t, Bool.not_false, bytesEq_self, beq_self_eq_true, Bool.and_self, mkTop, go.refl]
  have c0 := cnTop_le (r := ([.v (.string sa0), .v (.int .i64 na1), .v (.int .i64 na2), .s 7 la3, .s 2 la4] : Row))
  have d0 := cnRow_le cn_ok g0 (by rw [E33]; rfl)
  rw [E33] at d0
  simp only [List.length_cons, List.length_nil] at d0
  refine ev_call (f15 (by assumption) _ (by omega) (by simp only [K62]; omega)) ?_
  simp -implicitDefEqProofs only [cI, cB, cS, cL, oD_d, oG_g, oT_t, oP_p, dI_v, dB_v, dS_v, dL_s, cell_z, cell_s, nth_z, nth_s, aV_z, aV_s, aI_v, aB_v, aS_v, aL_f, aO_o, aX_b, tst_t, cond_true, cond_false, Ex.same, Nat.beq, List.length_cons, List.length_nil, Int.toNat_natCast, beqTT, beqTF, beqFT, beqFF, g0.refl, Bool.not_true, bne_self_eq_false, beq_f, beq_t, Bool.not_false, bytesEq_self, beq_self_eq_true, Bool.and_self, mkTop, go.refl]
  refine ev_if (fun _ => ?_) (fun hc => absurd (by simpa using hc) (by omega))
  try simp -implicitDefEqProofs only [cI, cB, cS, cL, oD_d, oG_g, oT_t, oP_p, dI_v, dB_v, dS_v, dL_s, cell_z, cell_s, nth_z, nth_s, aV_z, aV_s, aI_v, aB_v, aS_v, aL_f, aO_o, aX_b, tst_t, cond_true, cond_false, Ex.same, Nat.beq, List.length_cons, List.length_nil, Int.toNat_natCast, beqTT, beqTF, beqFT, beqFF, g0.refl, Bool.not_true, bne_self_eq_false, beq_f, beq_t, Bool.not_false, bytesEq_self, beq_self_eq_true, Bool.and_self, mkTop, go.refl]
  refine ev_call (f14 (by assumption) (by assumption)) ?_
  simp -implicitDefEqProofs only [cI, cB, cS, cL, oD_d, oG_g, oT_t, oP_p, dI_v, dB_v, dS_v, dL_s, cell_z, cell_s, nth_z, nth_s, aV_z, aV_s, aI_v, aB_v, aS_v, aL_f, aO_o, aX_b, tst_t, cond_true, cond_false, Ex.same, Nat.beq, List.length_cons, List.length_nil, Int.toNat_natCast, beqTT, beqTF, beqFT, beqFF, g0.refl, Bool.not_true, bne_self_eq_false, beq_f, beq_t, Bool.not_false, bytesEq_self, beq_self_eq_true, Bool.and_self, mkTop, go.refl]
  refine ev_call (f16 (by assumption) _ (by omega) (by simp only [K62]; omega)) ?_
  simp -implicitDefEqProofs only [cI, cB, cS, cL, oD_d, oG_g, oT_t, oP_p, dI_v, dB_v, dS_v, dL_s, cell_z, cell_s, nth_z, nth_s, aV_z, aV_s, aI_v, aB_v, aS_v, aL_f, aO_o, aX_b, tst_t, cond_true, cond_false, Ex.same, Nat.beq, List.length_cons, List.length_nil, Int.toNat_natCast, beqTT, beqTF, beqFT, beqFF, g0.refl, Bool.not_true, bne_self_eq_false, beq_f, beq_t, Bool.not_false, bytesEq_self, beq_self_eq_true, Bool.and_self, mkTop, go.refl]
  -- held
  have eh0 := f25 go 1 (by omega) (by simp only [K62]; omega)
  simp only [mkTop] at eh0
  refine ev_call eh0 ?_
  simp -implicitDefEqProofs only [cI, cB, cS, cL, oD_d, oG_g, oT_t, oP_p, dI_v, dB_v, dS_v, dL_s, cell_z, cell_s, nth_z, nth_s, aV_z, aV_s, aI_v, aB_v, aS_v, aL_f, aO_o, aX_b, tst_t, cond_true, cond_false, Ex.same, Nat.beq, List.length_cons, List.length_nil, Int.toNat_natCast, beqTT, beqTF, beqFT, beqFF, g0.refl, Bool.not_true, bne_self_eq_false, beq_f, beq_t, Bool.not_false, bytesEq_self, beq_self_eq_true, Bool.and_self, mkTop, go.refl]
  refine ev_if (fun hc => absurd (of_decide_eq_true hc) (by omega)) (fun _ => ?_)
  try simp -implicitDefEqProofs only [cI, cB, cS, cL, oD_d, oG_g, oT_t, oP_p, dI_v, dB_v, dS_v, dL_s, cell_z, cell_s, nth_z, nth_s, aV_z, aV_s, aI_v, aB_v, aS_v, aL_f, aO_o, aX_b, tst_t, cond_true, cond_false, Ex.same, Nat.beq, List.length_cons, List.length_nil, Int.toNat_natCast, beqTT, beqTF, beqFT, beqFF, g0.refl, Bool.not_true, bne_self_eq_false, beq_f, beq_t, Bool.not_false, bytesEq_self, beq_self_eq_true, Bool.and_self, mkTop, go.refl]
  first | refine ev_call t0 ?_
  simp -implicitDefEqProofs only [cI, cB, cS, cL, oD_d, oG_g, oT_t, oP_p, dI_v, dB_v, dS_v, dL_s, cell_z, cell_s, nth_z, nth_s, aV_z, aV_s, aI_v, aB_v, aS_v, aL_f, aO_o, aX_b, tst_t, cond_true, cond_false, Ex.same, Nat.beq, List.length_cons, List.length_nil, Int.toNat_natCast, beqTT, beqTF, beqFT, beqFF, g0.refl, Bool.not_true, bne_self_eq_false, beq_f, beq_t, Bool.not_false, bytesEq_self, beq_self_eq_true, Bool.and_self, mkTop, go.refl]
  refine ev_call e2 ?_
  simp -implicitDefEqProofs only [cI, cB, cS, cL, oD_d, oG_g, oT_t, oP_p, dI_v, dB_v, dS_v, dL_s, cell_z, cell_s, nth_z, nth_s, aV_z, aV_s, aI_v, aB_v, aS_v, aL_f, aO_o, aX_b, tst_t, cond_true, cond_false, Ex.same, Nat.beq, List.length_cons, List.length_nil, Int.toNat_natCast, beqTT, beqTF, beqFT, beqFF, g0.refl, Bool.not_true, bne_self_eq_false, beq_f, beq_t, Bool.not_false, bytesEq_self, beq_self_eq_true, Bool.and_self, mkTop, go.refl]
  refine ev_call (f14 (by assumption) (by assumption)) ?_
  simp -implicitDefEqProofs only [cI, cB, cS, cL, oD_d, oG_g, oT_t, oP_p, dI_v, dB_v, dS_v, dL_s, cell_z, cell_s, nth_z, nth_s, aV_z, aV_s, aI_v, aB_v, aS_v, aL_f, aO_o, aX_b, tst_t, cond_true, cond_false, Ex.same, Nat.beq, List.length_cons, List.length_nil, Int.toNat_natCast, beqTT, beqTF, beqFT, beqFF, g0.refl, Bool.not_true, bne_self_eq_false, beq_f, beq_t, Bool.not_false, bytesEq_self, beq_self_eq_true, Bool.and_self, mkTop, go.refl]
  -- held
  have eh1 := f25 go 1 (by omega) (by simp only [K62]; omega)
  simp only [mkTop] at eh1
  refine ev_call eh1 ?_
  simp -implicitDefEqProofs only [cI, cB, cS, cL, oD_d, oG_g, oT_t, oP_p, dI_v, dB_v, dS_v, dL_s, cell_z, cell_s, nth_z, nth_s, aV_z, aV_s, aI_v, aB_v, aS_v, aL_f, aO_o, aX_b, tst_t, cond_true, cond_false, Ex.same, Nat.beq, List.length_cons, List.length_nil, Int.toNat_natCast, beqTT, beqTF, beqFT, beqFF, g0.refl, Bool.not_true, bne_self_eq_false, beq_f, beq_t, Bool.not_false, bytesEq_self, beq_self_eq_true, Bool.and_self, mkTop, go.refl]
  refine ev_if (fun hc => absurd (of_decide_eq_true hc) (by omega)) (fun _ => ?_)
  try simp -implicitDefEqProofs only [cI, cB, cS, cL, oD_d, oG_g, oT_t, oP_p, dI_v, dB_v, dS_v, dL_s, cell_z, cell_s, nth_z, nth_s, aV_z, aV_s, aI_v, aB_v, aS_v, aL_f, aO_o, aX_b, tst_t, cond_true, cond_false, Ex.same, Nat.beq, List.length_cons, List.length_nil, Int.toNat_natCast, beqTT, beqTF, beqFT, beqFF, g0.refl, Bool.not_true, bne_self_eq_false, beq_f, beq_t, Bool.not_false, bytesEq_self, beq_self_eq_true, Bool.and_self, mkTop, go.refl]
  exact Evt.ret
end Go.Am.As
