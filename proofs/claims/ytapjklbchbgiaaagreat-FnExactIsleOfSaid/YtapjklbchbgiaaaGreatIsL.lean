/- What FnExactIsleOf says in the end: yes, whatever it is given. Nothing is assumed. -/
import Derived.Test.YtapjklbchbgiaaaGreatIsS
import Derived.Test.YtapjklbchbgiaaaGreatIsC
import Derived.Test.YtapjklbchbgiaaaGreatIsQ
import Derived.Test.YtapjklbchbgiaaaGreatIsM
import Derived.Test.YtapjklbchbgiaaaGreatIsD
import Derived.Test.YtapjklbchbgiaaaGreatIsP
namespace Go.Am.Is
set_option linter.unusedVariables false
set_option linter.unusedSimpArgs false
set_option maxRecDepth 8000
def sm : TypeId → TypeId := fun t => if t = 79 then 89 else if t = 201 then 101 else if t = 318 then 315 else if t = 320 then 228 else if t = 48 then 64 else if t = 225 then 235 else if t = 376 then 329 else if t = 204 then 114 else if t = 323 then 299 else if t = 206 then 111 else if t = 260 then 83 else if t = 388 then 270 else if t = 245 then 238 else if t = 263 then 193 else t
theorem sm_ok : ∀ t ∈ ([201, 204, 206, 9, 5, 260, 263, 318, 320, 48, 225, 376, 323, 388, 245] : List TypeId), E (sm t) = (E t).map (Sh.mp sm) ∧ slIn [201, 204, 206, 9, 5, 260, 263, 318, 320, 48, 225, 376, 323, 388, 245] (E t) = true := by
  intro t ht
  simp only [List.mem_cons, List.not_mem_nil, or_false] at ht
  rcases ht with rfl | rfl | rfl | rfl | rfl | rfl | rfl | rfl | rfl | rfl | rfl | rfl | rfl | rfl | rfl
  · rw [show sm 201 = 101 from rfl, E101, E201]; exact ⟨rfl, rfl⟩
  · rw [show sm 204 = 114 from rfl, E114, E204]; exact ⟨rfl, rfl⟩
  · rw [show sm 206 = 111 from rfl, E111, E206]; exact ⟨rfl, rfl⟩
  · rw [show sm 9 = 9 from rfl, E9]; exact ⟨rfl, rfl⟩
  · rw [show sm 5 = 5 from rfl, E5]; exact ⟨rfl, rfl⟩
  · rw [show sm 260 = 83 from rfl, E83, E260]; exact ⟨rfl, rfl⟩
  · rw [show sm 263 = 193 from rfl, E193, E263]; exact ⟨rfl, rfl⟩
  · rw [show sm 318 = 315 from rfl, E315, E318]; exact ⟨rfl, rfl⟩
  · rw [show sm 320 = 228 from rfl, E228, E320]; exact ⟨rfl, rfl⟩
  · rw [show sm 48 = 64 from rfl, E64, E48]; exact ⟨rfl, rfl⟩
  · rw [show sm 225 = 235 from rfl, E235, E225]; exact ⟨rfl, rfl⟩
  · rw [show sm 376 = 329 from rfl, E329, E376]; exact ⟨rfl, rfl⟩
  · rw [show sm 323 = 299 from rfl, E299, E323]; exact ⟨rfl, rfl⟩
  · rw [show sm 388 = 270 from rfl, E270, E388]; exact ⟨rfl, rfl⟩
  · rw [show sm 245 = 238 from rfl, E238, E245]; exact ⟨rfl, rfl⟩
theorem conv79 {r : Row} (h : ShL E (E 79) r) : ShL E (E 89) r := by
  have := h.conv sm_ok (by rw [E79]; rfl)
  rw [E79] at this
  rw [E89]
  exact this
theorem cn_ok : ∀ t ∈ ([5, 9, 64, 83, 101, 111, 114, 193, 228, 235, 238, 270, 299, 315, 329] : List TypeId), (E t).length ≤ 64 ∧ slIn [5, 9, 64, 83, 101, 111, 114, 193, 228, 235, 238, 270, 299, 315, 329] (E t) = true := by
  intro t ht
  simp only [List.mem_cons, List.not_mem_nil, or_false] at ht
  rcases ht with rfl | rfl | rfl | rfl | rfl | rfl | rfl | rfl | rfl | rfl | rfl | rfl | rfl | rfl | rfl
  · rw [E5]; exact ⟨by decide, rfl⟩
  · rw [E9]; exact ⟨by decide, rfl⟩
  · rw [E64]; exact ⟨by decide, rfl⟩
  · rw [E83]; exact ⟨by decide, rfl⟩
  · rw [E101]; exact ⟨by decide, rfl⟩
  · rw [E111]; exact ⟨by decide, rfl⟩
  · rw [E114]; exact ⟨by decide, rfl⟩
  · rw [E193]; exact ⟨by decide, rfl⟩
  · rw [E228]; exact ⟨by decide, rfl⟩
  · rw [E235]; exact ⟨by decide, rfl⟩
  · rw [E238]; exact ⟨by decide, rfl⟩
  · rw [E270]; exact ⟨by decide, rfl⟩
  · rw [E299]; exact ⟨by decide, rfl⟩
  · rw [E315]; exact ⟨by decide, rfl⟩
  · rw [E329]; exact ⟨by decide, rfl⟩
theorem f5 {r0 : Row} (h0 : ShL E (E 79) r0) {u1 : ByteArray} (h1 : u1.size ≤ maxLen) : Ev fs 5 [.g r0, .d (.v (.string u1))] (bo true) := by
  have k0 := h0
  have g0 := conv79 h0
  rw [E79] at h0
  obtain ⟨na0, ra0, rfl, pa0, h0_a0⟩ := inv_i h0
  obtain ⟨na1, ra1, rfl, pa1, h0_a1⟩ := inv_i h0_a0
  obtain ⟨na2, ra2, rfl, pa2, h0_a2⟩ := inv_i h0_a1
  obtain ⟨la3, ra3, rfl, pa3, h0_a3⟩ := inv_sl W201 h0_a2
  obtain ⟨la4, ra4, rfl, pa4, h0_a4⟩ := inv_sl W204 h0_a3
  obtain ⟨la5, ra5, rfl, pa5, h0_a5⟩ := inv_sl W206 h0_a4
  obtain ⟨la6, ra6, rfl, pa6, h0_a6⟩ := inv_sl W9 h0_a5
  obtain ⟨ba7, ra7, rfl, h0_a7⟩ := inv_b h0_a6
  obtain ⟨la8, ra8, rfl, pa8, h0_a8⟩ := inv_sl W5 h0_a7
  obtain ⟨la9, ra9, rfl, pa9, h0_a9⟩ := inv_sl W260 h0_a8
  obtain ⟨la10, ra10, rfl, pa10, h0_a10⟩ := inv_sl W263 h0_a9
  obtain ⟨la11, ra11, rfl, pa11, h0_a11⟩ := inv_sl W9 h0_a10
  cases inv_nil h0_a11
  refine Ev.of (af := a5) rfl rfl (Evt.congr (fun d n => a5q ..) ?_)
  refine ev_if (fun _ => Evt.ret) (fun hlen => ?_)
  rcases f23 k0 1048576 (by decide) (by first | decide | (show (_ : Int) ≤ 1048576; omega)) with q | ⟨m0, m0a, m0b, q⟩
  · refine ev_call q ?_
    simp -implicitDefEqProofs only [cI, cB, cS, cL, oD_d, oG_g, oT_t, oP_p, dI_v, dB_v, dS_v, dL_s, cell_z, cell_s, nth_z, nth_s, aV_z, aV_s, aI_v, aB_v, aS_v, aL_f, aO_o, aX_b, tst_t, cond_true, cond_false, Ex.same, Nat.beq, List.length_cons, List.length_nil, Int.toNat_natCast, beqTT, beqTF, beqFT, beqFF]
    simp only [show decide ((-1 : Int) < 0) = true from rfl, cond_true]
    exact Evt.ret
  refine ev_call q ?_
  simp -implicitDefEqProofs only [cI, cB, cS, cL, oD_d, oG_g, oT_t, oP_p, dI_v, dB_v, dS_v, dL_s, cell_z, cell_s, nth_z, nth_s, aV_z, aV_s, aI_v, aB_v, aS_v, aL_f, aO_o, aX_b, tst_t, cond_true, cond_false, Ex.same, Nat.beq, List.length_cons, List.length_nil, Int.toNat_natCast, beqTT, beqTF, beqFT, beqFF]
  refine ev_if (fun hc => absurd (of_decide_eq_true hc) (by omega)) (fun _ => ?_)
  have w0 : wtRow ([.v (.int .i64 na0), .v (.int .i64 na1), .v (.int .i64 na2), .s 13 la3, .s 6 la4, .s 5 la5, .s 1 la6, .v (.bool ba7), .s 1 la8, .s 5 la9, .s 5 la10, .s 1 la11] : Row) ≤ 1048576 := by omega
  have t0 := f25 k0 w0
  obtain ⟨o0, o1, o2, o3, o4, bb, go, wo, e1, e2⟩ := both g0 w0 u1 h1
  have co := cnTop_le (r := ([.v (.string o0), .v (.int .i64 o1), .v (.int .i64 o2), .s 7 o3, .s 2 o4] : Row))
  have dd := cnRow_le cn_ok go (by rw [E83]; rfl)
  rw [E83] at dd
  simp only [List.length_cons, List.length_nil] at dd
  first | refine ev_call t0 ?_
  simp -implicitDefEqProofs only [cI, cB, cS, cL, oD_d, oG_g, oT_t, oP_p, dI_v, dB_v, dS_v, dL_s, cell_z, cell_s, nth_z, nth_s, aV_z, aV_s, aI_v, aB_v, aS_v, aL_f, aO_o, aX_b, tst_t, cond_true, cond_false, Ex.same, Nat.beq, List.length_cons, List.length_nil, Int.toNat_natCast, beqTT, beqTF, beqFT, beqFF, g0.refl, Bool.not_true, bne_self_eq_false, beq_f, beq_t, Bool.not_false, bytesEq_self, beq_self_eq_true, Bool.and_self, mkTop, go.refl]
  refine ev_call e1 ?_
  simp -implicitDefEqProofs only [cI, cB, cS, cL, oD_d, oG_g, oT_t, oP_p, dI_v, dB_v, dS_v, dL_s, cell_z, cell_s, nth_z, nth_s, aV_z, aV_s, aI_v, aB_v, aS_v, aL_f, aO_o, aX_b, tst_t, cond_true, cond_false, Ex.same, Nat.beq, List.length_cons, List.length_nil, Int.toNat_natCast, beqTT, beqTF, beqFT, beqFF, g0.refl, Bool.not_true, bne_self_eq_false, beq_f, beq_t, Bool.not_false, bytesEq_self, beq_self_eq_true, Bool.and_self, mkTop, go.refl]
  first | refine ev_call t0 ?_
  simp -implicitDefEqProofs only [cI, cB, cS, cL, oD_d, oG_g, oT_t, oP_p, dI_v, dB_v, dS_v, dL_s, cell_z, cell_s, nth_z, nth_s, aV_z, aV_s, aI_v, aB_v, aS_v, aL_f, aO_o, aX_b, tst_t, cond_true, cond_false, Ex.same, Nat.beq, List.length_cons, List.length_nil, Int.toNat_natCast, beqTT, beqTF, beqFT, beqFF, g0.refl, Bool.not_true, bne_self_eq_false, beq_f, beq_t, Bool.not_false, bytesEq_self, beq_self_eq_true, Bool.and_self, mkTop, go.refl]
  refine ev_call e2 ?_
  simp -implicitDefEqProofs only [cI, cB, cS, cL, oD_d, oG_g, oT_t, oP_p, dI_v, dB_v, dS_v, dL_s, cell_z, cell_s, nth_z, nth_s, aV_z, aV_s, aI_v, aB_v, aS_v, aL_f, aO_o, aX_b, tst_t, cond_true, cond_false, Ex.same, Nat.beq, List.length_cons, List.length_nil, Int.toNat_natCast, beqTT, beqTF, beqFT, beqFF, g0.refl, Bool.not_true, bne_self_eq_false, beq_f, beq_t, Bool.not_false, bytesEq_self, beq_self_eq_true, Bool.and_self, mkTop, go.refl]
  refine ev_call (f27 (by assumption) (by assumption)) ?_
  simp -implicitDefEqProofs only [cI, cB, cS, cL, oD_d, oG_g, oT_t, oP_p, dI_v, dB_v, dS_v, dL_s, cell_z, cell_s, nth_z, nth_s, aV_z, aV_s, aI_v, aB_v, aS_v, aL_f, aO_o, aX_b, tst_t, cond_true, cond_false, Ex.same, Nat.beq, List.length_cons, List.length_nil, Int.toNat_natCast, beqTT, beqTF, beqFT, beqFF, g0.refl, Bool.not_true, bne_self_eq_false, beq_f, beq_t, Bool.not_false, bytesEq_self, beq_self_eq_true, Bool.and_self, mkTop, go.refl]
  first | refine ev_call t0 ?_
  simp -implicitDefEqProofs only [cI, cB, cS, cL, oD_d, oG_g, oT_t, oP_p, dI_v, dB_v, dS_v, dL_s, cell_z, cell_s, nth_z, nth_s, aV_z, aV_s, aI_v, aB_v, aS_v, aL_f, aO_o, aX_b, tst_t, cond_true, cond_false, Ex.same, Nat.beq, List.length_cons, List.length_nil, Int.toNat_natCast, beqTT, beqTF, beqFT, beqFF, g0.refl, Bool.not_true, bne_self_eq_false, beq_f, beq_t, Bool.not_false, bytesEq_self, beq_self_eq_true, Bool.and_self, mkTop, go.refl]
  refine ev_call (f28 (by assumption) (by assumption)) ?_
  simp -implicitDefEqProofs only [cI, cB, cS, cL, oD_d, oG_g, oT_t, oP_p, dI_v, dB_v, dS_v, dL_s, cell_z, cell_s, nth_z, nth_s, aV_z, aV_s, aI_v, aB_v, aS_v, aL_f, aO_o, aX_b, tst_t, cond_true, cond_false, Ex.same, Nat.beq, List.length_cons, List.length_nil, Int.toNat_natCast, beqTT, beqTF, beqFT, beqFF, g0.refl, Bool.not_true, bne_self_eq_false, beq_f, beq_t, Bool.not_false, bytesEq_self, beq_self_eq_true, Bool.and_self, mkTop, go.refl]
  have c0 := cnTop_le (r := ([.v (.int .i64 na0), .v (.int .i64 na1), .v (.int .i64 na2), .s 13 la3, .s 6 la4, .s 5 la5, .s 1 la6, .v (.bool ba7), .s 1 la8, .s 5 la9, .s 5 la10, .s 1 la11] : Row))
  have d0 := cnRow_le cn_ok g0 (by rw [E89]; rfl)
  rw [E89] at d0
  simp only [List.length_cons, List.length_nil] at d0
  refine ev_call (f29 (by assumption) _ (by omega) (by simp only [K62]; omega)) ?_
  simp -implicitDefEqProofs only [cI, cB, cS, cL, oD_d, oG_g, oT_t, oP_p, dI_v, dB_v, dS_v, dL_s, cell_z, cell_s, nth_z, nth_s, aV_z, aV_s, aI_v, aB_v, aS_v, aL_f, aO_o, aX_b, tst_t, cond_true, cond_false, Ex.same, Nat.beq, List.length_cons, List.length_nil, Int.toNat_natCast, beqTT, beqTF, beqFT, beqFF, g0.refl, Bool.not_true, bne_self_eq_false, beq_f, beq_t, Bool.not_false, bytesEq_self, beq_self_eq_true, Bool.and_self, mkTop, go.refl]
  refine ev_if (fun _ => ?_) (fun hc => absurd (by simpa using hc) (by omega))
  try simp -implicitDefEqProofs only [cI, cB, cS, cL, oD_d, oG_g, oT_t, oP_p, dI_v, dB_v, dS_v, dL_s, cell_z, cell_s, nth_z, nth_s, aV_z, aV_s, aI_v, aB_v, aS_v, aL_f, aO_o, aX_b, tst_t, cond_true, cond_false, Ex.same, Nat.beq, List.length_cons, List.length_nil, Int.toNat_natCast, beqTT, beqTF, beqFT, beqFF, g0.refl, Bool.not_true, bne_self_eq_false, beq_f, beq_t, Bool.not_false, bytesEq_self, beq_self_eq_true, Bool.and_self, mkTop, go.refl]
  refine ev_call (f27 (by assumption) (by assumption)) ?_
  simp -implicitDefEqProofs only [cI, cB, cS, cL, oD_d, oG_g, oT_t, oP_p, dI_v, dB_v, dS_v, dL_s, cell_z, cell_s, nth_z, nth_s, aV_z, aV_s, aI_v, aB_v, aS_v, aL_f, aO_o, aX_b, tst_t, cond_true, cond_false, Ex.same, Nat.beq, List.length_cons, List.length_nil, Int.toNat_natCast, beqTT, beqTF, beqFT, beqFF, g0.refl, Bool.not_true, bne_self_eq_false, beq_f, beq_t, Bool.not_false, bytesEq_self, beq_self_eq_true, Bool.and_self, mkTop, go.refl]
  refine ev_call (f30 (by assumption) _ (by omega) (by simp only [K62]; omega)) ?_
  simp -implicitDefEqProofs only [cI, cB, cS, cL, oD_d, oG_g, oT_t, oP_p, dI_v, dB_v, dS_v, dL_s, cell_z, cell_s, nth_z, nth_s, aV_z, aV_s, aI_v, aB_v, aS_v, aL_f, aO_o, aX_b, tst_t, cond_true, cond_false, Ex.same, Nat.beq, List.length_cons, List.length_nil, Int.toNat_natCast, beqTT, beqTF, beqFT, beqFF, g0.refl, Bool.not_true, bne_self_eq_false, beq_f, beq_t, Bool.not_false, bytesEq_self, beq_self_eq_true, Bool.and_self, mkTop, go.refl]
  -- held
  have eh0 := f31 go 1 (by omega) (by simp only [K62]; omega)
  simp only [mkTop] at eh0
  refine ev_call eh0 ?_
  simp -implicitDefEqProofs only [cI, cB, cS, cL, oD_d, oG_g, oT_t, oP_p, dI_v, dB_v, dS_v, dL_s, cell_z, cell_s, nth_z, nth_s, aV_z, aV_s, aI_v, aB_v, aS_v, aL_f, aO_o, aX_b, tst_t, cond_true, cond_false, Ex.same, Nat.beq, List.length_cons, List.length_nil, Int.toNat_natCast, beqTT, beqTF, beqFT, beqFF, g0.refl, Bool.not_true, bne_self_eq_false, beq_f, beq_t, Bool.not_false, bytesEq_self, beq_self_eq_true, Bool.and_self, mkTop, go.refl]
  refine ev_if (fun hc => absurd (of_decide_eq_true hc) (by omega)) (fun _ => ?_)
  try simp -implicitDefEqProofs only [cI, cB, cS, cL, oD_d, oG_g, oT_t, oP_p, dI_v, dB_v, dS_v, dL_s, cell_z, cell_s, nth_z, nth_s, aV_z, aV_s, aI_v, aB_v, aS_v, aL_f, aO_o, aX_b, tst_t, cond_true, cond_false, Ex.same, Nat.beq, List.length_cons, List.length_nil, Int.toNat_natCast, beqTT, beqTF, beqFT, beqFF, g0.refl, Bool.not_true, bne_self_eq_false, beq_f, beq_t, Bool.not_false, bytesEq_self, beq_self_eq_true, Bool.and_self, mkTop, go.refl]
  first | refine ev_call t0 ?_
  simp -implicitDefEqProofs only [cI, cB, cS, cL, oD_d, oG_g, oT_t, oP_p, dI_v, dB_v, dS_v, dL_s, cell_z, cell_s, nth_z, nth_s, aV_z, aV_s, aI_v, aB_v, aS_v, aL_f, aO_o, aX_b, tst_t, cond_true, cond_false, Ex.same, Nat.beq, List.length_cons, List.length_nil, Int.toNat_natCast, beqTT, beqTF, beqFT, beqFF, g0.refl, Bool.not_true, bne_self_eq_false, beq_f, beq_t, Bool.not_false, bytesEq_self, beq_self_eq_true, Bool.and_self, mkTop, go.refl]
  refine ev_call e2 ?_
  simp -implicitDefEqProofs only [cI, cB, cS, cL, oD_d, oG_g, oT_t, oP_p, dI_v, dB_v, dS_v, dL_s, cell_z, cell_s, nth_z, nth_s, aV_z, aV_s, aI_v, aB_v, aS_v, aL_f, aO_o, aX_b, tst_t, cond_true, cond_false, Ex.same, Nat.beq, List.length_cons, List.length_nil, Int.toNat_natCast, beqTT, beqTF, beqFT, beqFF, g0.refl, Bool.not_true, bne_self_eq_false, beq_f, beq_t, Bool.not_false, bytesEq_self, beq_self_eq_true, Bool.and_self, mkTop, go.refl]
  refine ev_call (f27 (by assumption) (by assumption)) ?_
  simp -implicitDefEqProofs only [cI, cB, cS, cL, oD_d, oG_g, oT_t, oP_p, dI_v, dB_v, dS_v, dL_s, cell_z, cell_s, nth_z, nth_s, aV_z, aV_s, aI_v, aB_v, aS_v, aL_f, aO_o, aX_b, tst_t, cond_true, cond_false, Ex.same, Nat.beq, List.length_cons, List.length_nil, Int.toNat_natCast, beqTT, beqTF, beqFT, beqFF, g0.refl, Bool.not_true, bne_self_eq_false, beq_f, beq_t, Bool.not_false, bytesEq_self, beq_self_eq_true, Bool.and_self, mkTop, go.refl]
  -- held
  have eh1 := f31 go 1 (by omega) (by simp only [K62]; omega)
  simp only [mkTop] at eh1
  refine ev_call eh1 ?_
  simp -implicitDefEqProofs only [cI, cB, cS, cL, oD_d, oG_g, oT_t, oP_p, dI_v, dB_v, dS_v, dL_s, cell_z, cell_s, nth_z, nth_s, aV_z, aV_s, aI_v, aB_v, aS_v, aL_f, aO_o, aX_b, tst_t, cond_true, cond_false, Ex.same, Nat.beq, List.length_cons, List.length_nil, Int.toNat_natCast, beqTT, beqTF, beqFT, beqFF, g0.refl, Bool.not_true, bne_self_eq_false, beq_f, beq_t, Bool.not_false, bytesEq_self, beq_self_eq_true, Bool.and_self, mkTop, go.refl]
  refine ev_if (fun hc => absurd (of_decide_eq_true hc) (by omega)) (fun _ => ?_)
  try simp -implicitDefEqProofs only [cI, cB, cS, cL, oD_d, oG_g, oT_t, oP_p, dI_v, dB_v, dS_v, dL_s, cell_z, cell_s, nth_z, nth_s, aV_z, aV_s, aI_v, aB_v, aS_v, aL_f, aO_o, aX_b, tst_t, cond_true, cond_false, Ex.same, Nat.beq, List.length_cons, List.length_nil, Int.toNat_natCast, beqTT, beqTF, beqFT, beqFF, g0.refl, Bool.not_true, bne_self_eq_false, beq_f, beq_t, Bool.not_false, bytesEq_self, beq_self_eq_true, Bool.and_self, mkTop, go.refl]
  exact Evt.ret
end Go.Am.Is
