/- What the functions of one family say in the end. Nothing is assumed. -/
import Derived.Test.YtapjklbchbgiaaaGreatIsM
namespace Go.Am.Is
set_option linter.unusedVariables false
set_option linter.unusedSimpArgs false
set_option maxRecDepth 8000
/- loop.example/g00119/laws.heldStringS -/
theorem f217 {l : Rows} (hl : SL E 9 l) (k : Int) (h0 : 0 ≤ k) (hk : k + (cnRows l : Nat) < K62) : Ev fs 217 [.d (.s 1 (mkRows l k)), .d (.v (.int .i64 k))] (io (k + (cnRows l : Nat))) := by
  refine Ev.of (af := a217) rfl rfl (Evt.congr (fun d n => a217q ..) ?_)
  refine ev_aft (L := fun d n => l217x0 (TabD fs d) d n [.fz 1 (mkRows l k), .v (.int .i64 k), .v (.int .i64 0)]) (held_loop (L := fun d n k' i => l217x0 (TabD fs d) d n [.fz 1 (mkRows l k), .v (.int .i64 k'), .v (.int .i64 i)]) (Y := fun k' => (.exit 0, [.v (.int .i64 k')])) h0 hk (fun d n k' => ?_) (fun i x k' res hi hx hm k0 k1 hk => ?_)) ?_
  · rw [l217x0s]
    simp -implicitDefEqProofs only [cI, cB, cS, cL, oD_d, oG_g, oT_t, oP_p, dI_v, dB_v, dS_v, dL_s, cell_z, cell_s, nth_z, nth_s, aV_z, aV_s, aI_v, aB_v, aS_v, aL_f, aO_o, aX_b, tst_t, cond_true, cond_false, Ex.same, Nat.beq, List.length_cons, List.length_nil, Int.toNat_natCast, beqTT, beqTF, beqFT, beqFF, mkRows_length, Int.lt_irrefl, decide_false]
  · have h := hl.at hx
    have h' := h
    rw [E9] at h
    obtain ⟨sa0, ra0, rfl, pa0, h_a0⟩ := inv_s h
    cases inv_nil h_a0
    have hw := wrap_succ hi hl.1
    simp only [mkRow, mkV, cnRow, Nat.add_zero, Int.natCast_add, Int.cast_ofNat_Int, ← Int.add_assoc] at k1 hk hm
    try simp (disch := omega) only [wrap_v] at hm
    simp only [l217x0s]
    simp -implicitDefEqProofs only [cI, cB, cS, cL, oD_d, oG_g, oT_t, oP_p, dI_v, dB_v, dS_v, dL_s, cell_z, cell_s, nth_z, nth_s, aV_z, aV_s, aI_v, aB_v, aS_v, aL_f, aO_o, aX_b, tst_t, cond_true, cond_false, Ex.same, Nat.beq, List.length_cons, List.length_nil, Int.toNat_natCast, beqTT, beqTF, beqFT, beqFF, mkRows_length, decide_eq_true (Int.ofNat_lt.2 hi), dec_nn, look_at hm, hw, bne_self_eq_false, bytesEq_self, Bool.not_true, tst3]
    try simp (disch := omega) only [wrap_k, bne_self_eq_false, cond_false]
    try simp -implicitDefEqProofs only [cI, cB, cS, cL, oD_d, oG_g, oT_t, oP_p, dI_v, dB_v, dS_v, dL_s, cell_z, cell_s, nth_z, nth_s, aV_z, aV_s, aI_v, aB_v, aS_v, aL_f, aO_o, aX_b, tst_t, cond_true, cond_false, Ex.same, Nat.beq, List.length_cons, List.length_nil, Int.toNat_natCast, beqTT, beqTF, beqFT, beqFF, mkRows_length, decide_eq_true (Int.ofNat_lt.2 hi), dec_nn, look_at hm, hw, bne_self_eq_false, bytesEq_self, Bool.not_true, tst3]
    refine ev_call (f167 _ (by omega) (by omega)) ?_
    simp -implicitDefEqProofs only [cI, cB, cS, cL, oD_d, oG_g, oT_t, oP_p, dI_v, dB_v, dS_v, dL_s, cell_z, cell_s, nth_z, nth_s, aV_z, aV_s, aI_v, aB_v, aS_v, aL_f, aO_o, aX_b, tst_t, cond_true, cond_false, Ex.same, Nat.beq, List.length_cons, List.length_nil, Int.toNat_natCast, beqTT, beqTF, beqFT, beqFF, mkRows_length, decide_eq_true (Int.ofNat_lt.2 hi), dec_nn, look_at hm, hw, bne_self_eq_false, bytesEq_self, Bool.not_true, tst3]
    try simp (disch := omega) only [wrap_k, bne_self_eq_false, cond_false]
    try simp -implicitDefEqProofs only [cI, cB, cS, cL, oD_d, oG_g, oT_t, oP_p, dI_v, dB_v, dS_v, dL_s, cell_z, cell_s, nth_z, nth_s, aV_z, aV_s, aI_v, aB_v, aS_v, aL_f, aO_o, aX_b, tst_t, cond_true, cond_false, Ex.same, Nat.beq, List.length_cons, List.length_nil, Int.toNat_natCast, beqTT, beqTF, beqFT, beqFF, mkRows_length, decide_eq_true (Int.ofNat_lt.2 hi), dec_nn, look_at hm, hw, bne_self_eq_false, bytesEq_self, Bool.not_true, tst3]
    exact hk
  · simp -implicitDefEqProofs only [cI, cB, cS, cL, oD_d, oG_g, oT_t, oP_p, dI_v, dB_v, dS_v, dL_s, cell_z, cell_s, nth_z, nth_s, aV_z, aV_s, aI_v, aB_v, aS_v, aL_f, aO_o, aX_b, tst_t, cond_true, cond_false, Ex.same, Nat.beq, List.length_cons, List.length_nil, Int.toNat_natCast, beqTT, beqTF, beqFT, beqFF]
    exact Evt.ret
/- loop.example/g00119/laws.heldValueS -/
theorem fr218 {l : Rows} (hl : SL E 64 l) (k : Int) (h0 : 0 ≤ k) (hk : k + (cnRows l : Nat) < K62) (W : Nat) (hW : 2 * (l.length + wtRows l) = W) : Ev fs 218 [.d (.s 5 (mkRows l k)), .d (.v (.int .i64 k))] (io (k + (cnRows l : Nat))) := by
  refine Ev.of (af := a218) rfl rfl (Evt.congr (fun d n => a218q ..) ?_)
  refine ev_aft (L := fun d n => l218x0 (TabD fs d) d n [.fz 5 (mkRows l k), .v (.int .i64 k), .v (.int .i64 0)]) (held_loop (L := fun d n k' i => l218x0 (TabD fs d) d n [.fz 5 (mkRows l k), .v (.int .i64 k'), .v (.int .i64 i)]) (Y := fun k' => (.exit 0, [.v (.int .i64 k')])) h0 hk (fun d n k' => ?_) (fun i x k' res hi hx hm k0 k1 hk => ?_)) ?_
  · rw [l218x0s]
    simp -implicitDefEqProofs only [cI, cB, cS, cL, oD_d, oG_g, oT_t, oP_p, dI_v, dB_v, dS_v, dL_s, cell_z, cell_s, nth_z, nth_s, aV_z, aV_s, aI_v, aB_v, aS_v, aL_f, aO_o, aX_b, tst_t, cond_true, cond_false, Ex.same, Nat.beq, List.length_cons, List.length_nil, Int.toNat_natCast, beqTT, beqTF, beqFT, beqFF, mkRows_length, Int.lt_irrefl, decide_false]
  · have h := hl.at hx
    have h' := h
    rw [E64] at h
    obtain ⟨na0, ra0, rfl, pa0, h_a0⟩ := inv_i h
    obtain ⟨sa1, ra1, rfl, pa1, h_a1⟩ := inv_s h_a0
    obtain ⟨na2, ra2, rfl, pa2, h_a2⟩ := inv_i h_a1
    obtain ⟨la3, ra3, rfl, pa3, h_a3⟩ := inv_sl W9 h_a2
    obtain ⟨la4, ra4, rfl, pa4, h_a4⟩ := inv_sl W64 h_a3
    cases inv_nil h_a4
    have hw := wrap_succ hi hl.1
    simp only [mkRow, mkV, cnRow, Nat.add_zero, Int.natCast_add, Int.cast_ofNat_Int, ← Int.add_assoc] at k1 hk hm
    try simp (disch := omega) only [wrap_v] at hm
    simp only [l218x0s]
    simp -implicitDefEqProofs only [cI, cB, cS, cL, oD_d, oG_g, oT_t, oP_p, dI_v, dB_v, dS_v, dL_s, cell_z, cell_s, nth_z, nth_s, aV_z, aV_s, aI_v, aB_v, aS_v, aL_f, aO_o, aX_b, tst_t, cond_true, cond_false, Ex.same, Nat.beq, List.length_cons, List.length_nil, Int.toNat_natCast, beqTT, beqTF, beqFT, beqFF, mkRows_length, decide_eq_true (Int.ofNat_lt.2 hi), dec_nn, look_at hm, hw, bne_self_eq_false, bytesEq_self, Bool.not_true, tst3]
    try simp (disch := omega) only [wrap_k, bne_self_eq_false, cond_false]
    try simp -implicitDefEqProofs only [cI, cB, cS, cL, oD_d, oG_g, oT_t, oP_p, dI_v, dB_v, dS_v, dL_s, cell_z, cell_s, nth_z, nth_s, aV_z, aV_s, aI_v, aB_v, aS_v, aL_f, aO_o, aX_b, tst_t, cond_true, cond_false, Ex.same, Nat.beq, List.length_cons, List.length_nil, Int.toNat_natCast, beqTT, beqTF, beqFT, beqFF, mkRows_length, decide_eq_true (Int.ofNat_lt.2 hi), dec_nn, look_at hm, hw, bne_self_eq_false, bytesEq_self, Bool.not_true, tst3]
    refine ev_call (f167 _ (by omega) (by omega)) ?_
    simp -implicitDefEqProofs only [cI, cB, cS, cL, oD_d, oG_g, oT_t, oP_p, dI_v, dB_v, dS_v, dL_s, cell_z, cell_s, nth_z, nth_s, aV_z, aV_s, aI_v, aB_v, aS_v, aL_f, aO_o, aX_b, tst_t, cond_true, cond_false, Ex.same, Nat.beq, List.length_cons, List.length_nil, Int.toNat_natCast, beqTT, beqTF, beqFT, beqFF, mkRows_length, decide_eq_true (Int.ofNat_lt.2 hi), dec_nn, look_at hm, hw, bne_self_eq_false, bytesEq_self, Bool.not_true, tst3]
    try simp (disch := omega) only [wrap_k, bne_self_eq_false, cond_false]
    try simp -implicitDefEqProofs only [cI, cB, cS, cL, oD_d, oG_g, oT_t, oP_p, dI_v, dB_v, dS_v, dL_s, cell_z, cell_s, nth_z, nth_s, aV_z, aV_s, aI_v, aB_v, aS_v, aL_f, aO_o, aX_b, tst_t, cond_true, cond_false, Ex.same, Nat.beq, List.length_cons, List.length_nil, Int.toNat_natCast, beqTT, beqTF, beqFT, beqFF, mkRows_length, decide_eq_true (Int.ofNat_lt.2 hi), dec_nn, look_at hm, hw, bne_self_eq_false, bytesEq_self, Bool.not_true, tst3]
    refine ev_call (f217 (by assumption) _ (by omega) (by omega)) ?_
    simp -implicitDefEqProofs only [cI, cB, cS, cL, oD_d, oG_g, oT_t, oP_p, dI_v, dB_v, dS_v, dL_s, cell_z, cell_s, nth_z, nth_s, aV_z, aV_s, aI_v, aB_v, aS_v, aL_f, aO_o, aX_b, tst_t, cond_true, cond_false, Ex.same, Nat.beq, List.length_cons, List.length_nil, Int.toNat_natCast, beqTT, beqTF, beqFT, beqFF, mkRows_length, decide_eq_true (Int.ofNat_lt.2 hi), dec_nn, look_at hm, hw, bne_self_eq_false, bytesEq_self, Bool.not_true, tst3]
    try simp (disch := omega) only [wrap_k, bne_self_eq_false, cond_false]
    try simp -implicitDefEqProofs only [cI, cB, cS, cL, oD_d, oG_g, oT_t, oP_p, dI_v, dB_v, dS_v, dL_s, cell_z, cell_s, nth_z, nth_s, aV_z, aV_s, aI_v, aB_v, aS_v, aL_f, aO_o, aX_b, tst_t, cond_true, cond_false, Ex.same, Nat.beq, List.length_cons, List.length_nil, Int.toNat_natCast, beqTT, beqTF, beqFT, beqFF, mkRows_length, decide_eq_true (Int.ofNat_lt.2 hi), dec_nn, look_at hm, hw, bne_self_eq_false, bytesEq_self, Bool.not_true, tst3]
    refine ev_if (fun hc => absurd (of_decide_eq_true hc) (by omega)) (fun _ => ?_)
    try simp -implicitDefEqProofs only [cI, cB, cS, cL, oD_d, oG_g, oT_t, oP_p, dI_v, dB_v, dS_v, dL_s, cell_z, cell_s, nth_z, nth_s, aV_z, aV_s, aI_v, aB_v, aS_v, aL_f, aO_o, aX_b, tst_t, cond_true, cond_false, Ex.same, Nat.beq, List.length_cons, List.length_nil, Int.toNat_natCast, beqTT, beqTF, beqFT, beqFF, mkRows_length, decide_eq_true (Int.ofNat_lt.2 hi), dec_nn, look_at hm, hw, bne_self_eq_false, bytesEq_self, Bool.not_true, tst3]
    try simp (disch := omega) only [wrap_k, bne_self_eq_false, cond_false]
    try simp -implicitDefEqProofs only [cI, cB, cS, cL, oD_d, oG_g, oT_t, oP_p, dI_v, dB_v, dS_v, dL_s, cell_z, cell_s, nth_z, nth_s, aV_z, aV_s, aI_v, aB_v, aS_v, aL_f, aO_o, aX_b, tst_t, cond_true, cond_false, Ex.same, Nat.beq, List.length_cons, List.length_nil, Int.toNat_natCast, beqTT, beqTF, beqFT, beqFF, mkRows_length, decide_eq_true (Int.ofNat_lt.2 hi), dec_nn, look_at hm, hw, bne_self_eq_false, bytesEq_self, Bool.not_true, tst3]
    refine ev_call (fr218 (by assumption) _ (by omega) (by omega) _ rfl) ?_
    simp -implicitDefEqProofs only [cI, cB, cS, cL, oD_d, oG_g, oT_t, oP_p, dI_v, dB_v, dS_v, dL_s, cell_z, cell_s, nth_z, nth_s, aV_z, aV_s, aI_v, aB_v, aS_v, aL_f, aO_o, aX_b, tst_t, cond_true, cond_false, Ex.same, Nat.beq, List.length_cons, List.length_nil, Int.toNat_natCast, beqTT, beqTF, beqFT, beqFF, mkRows_length, decide_eq_true (Int.ofNat_lt.2 hi), dec_nn, look_at hm, hw, bne_self_eq_false, bytesEq_self, Bool.not_true, tst3]
    try simp (disch := omega) only [wrap_k, bne_self_eq_false, cond_false]
    try simp -implicitDefEqProofs only [cI, cB, cS, cL, oD_d, oG_g, oT_t, oP_p, dI_v, dB_v, dS_v, dL_s, cell_z, cell_s, nth_z, nth_s, aV_z, aV_s, aI_v, aB_v, aS_v, aL_f, aO_o, aX_b, tst_t, cond_true, cond_false, Ex.same, Nat.beq, List.length_cons, List.length_nil, Int.toNat_natCast, beqTT, beqTF, beqFT, beqFF, mkRows_length, decide_eq_true (Int.ofNat_lt.2 hi), dec_nn, look_at hm, hw, bne_self_eq_false, bytesEq_self, Bool.not_true, tst3]
    refine ev_if (fun hc => absurd (of_decide_eq_true hc) (by omega)) (fun _ => ?_)
    try simp -implicitDefEqProofs only [cI, cB, cS, cL, oD_d, oG_g, oT_t, oP_p, dI_v, dB_v, dS_v, dL_s, cell_z, cell_s, nth_z, nth_s, aV_z, aV_s, aI_v, aB_v, aS_v, aL_f, aO_o, aX_b, tst_t, cond_true, cond_false, Ex.same, Nat.beq, List.length_cons, List.length_nil, Int.toNat_natCast, beqTT, beqTF, beqFT, beqFF, mkRows_length, decide_eq_true (Int.ofNat_lt.2 hi), dec_nn, look_at hm, hw, bne_self_eq_false, bytesEq_self, Bool.not_true, tst3]
    try simp (disch := omega) only [wrap_k, bne_self_eq_false, cond_false]
    try simp -implicitDefEqProofs only [cI, cB, cS, cL, oD_d, oG_g, oT_t, oP_p, dI_v, dB_v, dS_v, dL_s, cell_z, cell_s, nth_z, nth_s, aV_z, aV_s, aI_v, aB_v, aS_v, aL_f, aO_o, aX_b, tst_t, cond_true, cond_false, Ex.same, Nat.beq, List.length_cons, List.length_nil, Int.toNat_natCast, beqTT, beqTF, beqFT, beqFF, mkRows_length, decide_eq_true (Int.ofNat_lt.2 hi), dec_nn, look_at hm, hw, bne_self_eq_false, bytesEq_self, Bool.not_true, tst3]
    exact hk
  · simp -implicitDefEqProofs only [cI, cB, cS, cL, oD_d, oG_g, oT_t, oP_p, dI_v, dB_v, dS_v, dL_s, cell_z, cell_s, nth_z, nth_s, aV_z, aV_s, aI_v, aB_v, aS_v, aL_f, aO_o, aX_b, tst_t, cond_true, cond_false, Ex.same, Nat.beq, List.length_cons, List.length_nil, Int.toNat_natCast, beqTT, beqTF, beqFT, beqFF]
    exact Evt.ret
termination_by W
decreasing_by all_goals (try have := wt_at hx); (try simp only [wtRow, wtD] at *); omega
theorem f218 {l : Rows} (hl : SL E 64 l) (k : Int) (h0 : 0 ≤ k) (hk : k + (cnRows l : Nat) < K62) : Ev fs 218 [.d (.s 5 (mkRows l k)), .d (.v (.int .i64 k))] (io (k + (cnRows l : Nat))) := fr218 hl k h0 hk _ rfl
/- loop.example/g00119/laws.heldWorkS -/
theorem f117 {l : Rows} (hl : SL E 270 l) (k : Int) (h0 : 0 ≤ k) (hk : k + (cnRows l : Nat) < K62) : Ev fs 117 [.d (.s 7 (mkRows l k)), .d (.v (.int .i64 k))] (io (k + (cnRows l : Nat))) := by
  refine Ev.of (af := a117) rfl rfl (Evt.congr (fun d n => a117q ..) ?_)
  refine ev_aft (L := fun d n => l117x0 (TabD fs d) d n [.fz 7 (mkRows l k), .v (.int .i64 k), .v (.int .i64 0)]) (held_loop (L := fun d n k' i => l117x0 (TabD fs d) d n [.fz 7 (mkRows l k), .v (.int .i64 k'), .v (.int .i64 i)]) (Y := fun k' => (.exit 0, [.v (.int .i64 k')])) h0 hk (fun d n k' => ?_) (fun i x k' res hi hx hm k0 k1 hk => ?_)) ?_
  · rw [l117x0s]
    simp -implicitDefEqProofs only [cI, cB, cS, cL, oD_d, oG_g, oT_t, oP_p, dI_v, dB_v, dS_v, dL_s, cell_z, cell_s, nth_z, nth_s, aV_z, aV_s, aI_v, aB_v, aS_v, aL_f, aO_o, aX_b, tst_t, cond_true, cond_false, Ex.same, Nat.beq, List.length_cons, List.length_nil, Int.toNat_natCast, beqTT, beqTF, beqFT, beqFF, mkRows_length, Int.lt_irrefl, decide_false]
  · have h := hl.at hx
    have h' := h
    rw [E270] at h
    obtain ⟨na0, ra0, rfl, pa0, h_a0⟩ := inv_i h
    obtain ⟨na1, ra1, rfl, pa1, h_a1⟩ := inv_i h_a0
    obtain ⟨na2, ra2, rfl, pa2, h_a2⟩ := inv_i h_a1
    obtain ⟨sa3, ra3, rfl, pa3, h_a3⟩ := inv_s h_a2
    obtain ⟨na4, ra4, rfl, pa4, h_a4⟩ := inv_i h_a3
    obtain ⟨la5, ra5, rfl, pa5, h_a5⟩ := inv_sl W9 h_a4
    obtain ⟨la6, ra6, rfl, pa6, h_a6⟩ := inv_sl W64 h_a5
    cases inv_nil h_a6
    have hw := wrap_succ hi hl.1
    simp only [mkRow, mkV, cnRow, Nat.add_zero, Int.natCast_add, Int.cast_ofNat_Int, ← Int.add_assoc] at k1 hk hm
    try simp (disch := omega) only [wrap_v] at hm
    simp only [l117x0s]
    simp -implicitDefEqProofs only [cI, cB, cS, cL, oD_d, oG_g, oT_t, oP_p, dI_v, dB_v, dS_v, dL_s, cell_z, cell_s, nth_z, nth_s, aV_z, aV_s, aI_v, aB_v, aS_v, aL_f, aO_o, aX_b, tst_t, cond_true, cond_false, Ex.same, Nat.beq, List.length_cons, List.length_nil, Int.toNat_natCast, beqTT, beqTF, beqFT, beqFF, mkRows_length, decide_eq_true (Int.ofNat_lt.2 hi), dec_nn, look_at hm, hw, bne_self_eq_false, bytesEq_self, Bool.not_true, tst3]
    try simp (disch := omega) only [wrap_k, bne_self_eq_false, cond_false]
    try simp -implicitDefEqProofs only [cI, cB, cS, cL, oD_d, oG_g, oT_t, oP_p, dI_v, dB_v, dS_v, dL_s, cell_z, cell_s, nth_z, nth_s, aV_z, aV_s, aI_v, aB_v, aS_v, aL_f, aO_o, aX_b, tst_t, cond_true, cond_false, Ex.same, Nat.beq, List.length_cons, List.length_nil, Int.toNat_natCast, beqTT, beqTF, beqFT, beqFF, mkRows_length, decide_eq_true (Int.ofNat_lt.2 hi), dec_nn, look_at hm, hw, bne_self_eq_false, bytesEq_self, Bool.not_true, tst3]
    refine ev_call (f167 _ (by omega) (by omega)) ?_
    simp -implicitDefEqProofs only [cI, cB, cS, cL, oD_d, oG_g, oT_t, oP_p, dI_v, dB_v, dS_v, dL_s, cell_z, cell_s, nth_z, nth_s, aV_z, aV_s, aI_v, aB_v, aS_v, aL_f, aO_o, aX_b, tst_t, cond_true, cond_false, Ex.same, Nat.beq, List.length_cons, List.length_nil, Int.toNat_natCast, beqTT, beqTF, beqFT, beqFF, mkRows_length, decide_eq_true (Int.ofNat_lt.2 hi), dec_nn, look_at hm, hw, bne_self_eq_false, bytesEq_self, Bool.not_true, tst3]
    try simp (disch := omega) only [wrap_k, bne_self_eq_false, cond_false]
    try simp -implicitDefEqProofs only [cI, cB, cS, cL, oD_d, oG_g, oT_t, oP_p, dI_v, dB_v, dS_v, dL_s, cell_z, cell_s, nth_z, nth_s, aV_z, aV_s, aI_v, aB_v, aS_v, aL_f, aO_o, aX_b, tst_t, cond_true, cond_false, Ex.same, Nat.beq, List.length_cons, List.length_nil, Int.toNat_natCast, beqTT, beqTF, beqFT, beqFF, mkRows_length, decide_eq_true (Int.ofNat_lt.2 hi), dec_nn, look_at hm, hw, bne_self_eq_false, bytesEq_self, Bool.not_true, tst3]
    refine ev_call (f217 (by assumption) _ (by omega) (by omega)) ?_
    simp -implicitDefEqProofs only [cI, cB, cS, cL, oD_d, oG_g, oT_t, oP_p, dI_v, dB_v, dS_v, dL_s, cell_z, cell_s, nth_z, nth_s, aV_z, aV_s, aI_v, aB_v, aS_v, aL_f, aO_o, aX_b, tst_t, cond_true, cond_false, Ex.same, Nat.beq, List.length_cons, List.length_nil, Int.toNat_natCast, beqTT, beqTF, beqFT, beqFF, mkRows_length, decide_eq_true (Int.ofNat_lt.2 hi), dec_nn, look_at hm, hw, bne_self_eq_false, bytesEq_self, Bool.not_true, tst3]
    try simp (disch := omega) only [wrap_k, bne_self_eq_false, cond_false]
    try simp -implicitDefEqProofs only [cI, cB, cS, cL, oD_d, oG_g, oT_t, oP_p, dI_v, dB_v, dS_v, dL_s, cell_z, cell_s, nth_z, nth_s, aV_z, aV_s, aI_v, aB_v, aS_v, aL_f, aO_o, aX_b, tst_t, cond_true, cond_false, Ex.same, Nat.beq, List.length_cons, List.length_nil, Int.toNat_natCast, beqTT, beqTF, beqFT, beqFF, mkRows_length, decide_eq_true (Int.ofNat_lt.2 hi), dec_nn, look_at hm, hw, bne_self_eq_false, bytesEq_self, Bool.not_true, tst3]
    refine ev_if (fun hc => absurd (of_decide_eq_true hc) (by omega)) (fun _ => ?_)
    try simp -implicitDefEqProofs only [cI, cB, cS, cL, oD_d, oG_g, oT_t, oP_p, dI_v, dB_v, dS_v, dL_s, cell_z, cell_s, nth_z, nth_s, aV_z, aV_s, aI_v, aB_v, aS_v, aL_f, aO_o, aX_b, tst_t, cond_true, cond_false, Ex.same, Nat.beq, List.length_cons, List.length_nil, Int.toNat_natCast, beqTT, beqTF, beqFT, beqFF, mkRows_length, decide_eq_true (Int.ofNat_lt.2 hi), dec_nn, look_at hm, hw, bne_self_eq_false, bytesEq_self, Bool.not_true, tst3]
    try simp (disch := omega) only [wrap_k, bne_self_eq_false, cond_false]
    try simp -implicitDefEqProofs only [cI, cB, cS, cL, oD_d, oG_g, oT_t, oP_p, dI_v, dB_v, dS_v, dL_s, cell_z, cell_s, nth_z, nth_s, aV_z, aV_s, aI_v, aB_v, aS_v, aL_f, aO_o, aX_b, tst_t, cond_true, cond_false, Ex.same, Nat.beq, List.length_cons, List.length_nil, Int.toNat_natCast, beqTT, beqTF, beqFT, beqFF, mkRows_length, decide_eq_true (Int.ofNat_lt.2 hi), dec_nn, look_at hm, hw, bne_self_eq_false, bytesEq_self, Bool.not_true, tst3]
    refine ev_call (f218 (by assumption) _ (by omega) (by omega)) ?_
    simp -implicitDefEqProofs only [cI, cB, cS, cL, oD_d, oG_g, oT_t, oP_p, dI_v, dB_v, dS_v, dL_s, cell_z, cell_s, nth_z, nth_s, aV_z, aV_s, aI_v, aB_v, aS_v, aL_f, aO_o, aX_b, tst_t, cond_true, cond_false, Ex.same, Nat.beq, List.length_cons, List.length_nil, Int.toNat_natCast, beqTT, beqTF, beqFT, beqFF, mkRows_length, decide_eq_true (Int.ofNat_lt.2 hi), dec_nn, look_at hm, hw, bne_self_eq_false, bytesEq_self, Bool.not_true, tst3]
    try simp (disch := omega) only [wrap_k, bne_self_eq_false, cond_false]
    try simp -implicitDefEqProofs only [cI, cB, cS, cL, oD_d, oG_g, oT_t, oP_p, dI_v, dB_v, dS_v, dL_s, cell_z, cell_s, nth_z, nth_s, aV_z, aV_s, aI_v, aB_v, aS_v, aL_f, aO_o, aX_b, tst_t, cond_true, cond_false, Ex.same, Nat.beq, List.length_cons, List.length_nil, Int.toNat_natCast, beqTT, beqTF, beqFT, beqFF, mkRows_length, decide_eq_true (Int.ofNat_lt.2 hi), dec_nn, look_at hm, hw, bne_self_eq_false, bytesEq_self, Bool.not_true, tst3]
    refine ev_if (fun hc => absurd (of_decide_eq_true hc) (by omega)) (fun _ => ?_)
    try simp -implicitDefEqProofs only [cI, cB, cS, cL, oD_d, oG_g, oT_t, oP_p, dI_v, dB_v, dS_v, dL_s, cell_z, cell_s, nth_z, nth_s, aV_z, aV_s, aI_v, aB_v, aS_v, aL_f, aO_o, aX_b, tst_t, cond_true, cond_false, Ex.same, Nat.beq, List.length_cons, List.length_nil, Int.toNat_natCast, beqTT, beqTF, beqFT, beqFF, mkRows_length, decide_eq_true (Int.ofNat_lt.2 hi), dec_nn, look_at hm, hw, bne_self_eq_false, bytesEq_self, Bool.not_true, tst3]
    try simp (disch := omega) only [wrap_k, bne_self_eq_false, cond_false]
    try simp -implicitDefEqProofs only [cI, cB, cS, cL, oD_d, oG_g, oT_t, oP_p, dI_v, dB_v, dS_v, dL_s, cell_z, cell_s, nth_z, nth_s, aV_z, aV_s, aI_v, aB_v, aS_v, aL_f, aO_o, aX_b, tst_t, cond_true, cond_false, Ex.same, Nat.beq, List.length_cons, List.length_nil, Int.toNat_natCast, beqTT, beqTF, beqFT, beqFF, mkRows_length, decide_eq_true (Int.ofNat_lt.2 hi), dec_nn, look_at hm, hw, bne_self_eq_false, bytesEq_self, Bool.not_true, tst3]
    exact hk
  · simp -implicitDefEqProofs only [cI, cB, cS, cL, oD_d, oG_g, oT_t, oP_p, dI_v, dB_v, dS_v, dL_s, cell_z, cell_s, nth_z, nth_s, aV_z, aV_s, aI_v, aB_v, aS_v, aL_f, aO_o, aX_b, tst_t, cond_true, cond_false, Ex.same, Nat.beq, List.length_cons, List.length_nil, Int.toNat_natCast, beqTT, beqTF, beqFT, beqFF]
    exact Evt.ret
/- loop.example/g00119/laws.heldRunS -/
theorem f118 {l : Rows} (hl : SL E 238 l) (k : Int) (h0 : 0 ≤ k) (hk : k + (cnRows l : Nat) < K62) : Ev fs 118 [.d (.s 2 (mkRows l k)), .d (.v (.int .i64 k))] (io (k + (cnRows l : Nat))) := by
  refine Ev.of (af := a118) rfl rfl (Evt.congr (fun d n => a118q ..) ?_)
  refine ev_aft (L := fun d n => l118x0 (TabD fs d) d n [.fz 2 (mkRows l k), .v (.int .i64 k), .v (.int .i64 0)]) (held_loop (L := fun d n k' i => l118x0 (TabD fs d) d n [.fz 2 (mkRows l k), .v (.int .i64 k'), .v (.int .i64 i)]) (Y := fun k' => (.exit 0, [.v (.int .i64 k')])) h0 hk (fun d n k' => ?_) (fun i x k' res hi hx hm k0 k1 hk => ?_)) ?_
  · rw [l118x0s]
    simp -implicitDefEqProofs only [cI, cB, cS, cL, oD_d, oG_g, oT_t, oP_p, dI_v, dB_v, dS_v, dL_s, cell_z, cell_s, nth_z, nth_s, aV_z, aV_s, aI_v, aB_v, aS_v, aL_f, aO_o, aX_b, tst_t, cond_true, cond_false, Ex.same, Nat.beq, List.length_cons, List.length_nil, Int.toNat_natCast, beqTT, beqTF, beqFT, beqFF, mkRows_length, Int.lt_irrefl, decide_false]
  · have h := hl.at hx
    have h' := h
    rw [E238] at h
    obtain ⟨na0, ra0, rfl, pa0, h_a0⟩ := inv_i h
    obtain ⟨na1, ra1, rfl, pa1, h_a1⟩ := inv_i h_a0
    cases inv_nil h_a1
    have hw := wrap_succ hi hl.1
    simp only [mkRow, mkV, cnRow, Nat.add_zero, Int.natCast_add, Int.cast_ofNat_Int, ← Int.add_assoc] at k1 hk hm
    try simp (disch := omega) only [wrap_v] at hm
    simp only [l118x0s]
    simp -implicitDefEqProofs only [cI, cB, cS, cL, oD_d, oG_g, oT_t, oP_p, dI_v, dB_v, dS_v, dL_s, cell_z, cell_s, nth_z, nth_s, aV_z, aV_s, aI_v, aB_v, aS_v, aL_f, aO_o, aX_b, tst_t, cond_true, cond_false, Ex.same, Nat.beq, List.length_cons, List.length_nil, Int.toNat_natCast, beqTT, beqTF, beqFT, beqFF, mkRows_length, decide_eq_true (Int.ofNat_lt.2 hi), dec_nn, look_at hm, hw, bne_self_eq_false, bytesEq_self, Bool.not_true, tst3]
    try simp (disch := omega) only [wrap_k, bne_self_eq_false, cond_false]
    try simp -implicitDefEqProofs only [cI, cB, cS, cL, oD_d, oG_g, oT_t, oP_p, dI_v, dB_v, dS_v, dL_s, cell_z, cell_s, nth_z, nth_s, aV_z, aV_s, aI_v, aB_v, aS_v, aL_f, aO_o, aX_b, tst_t, cond_true, cond_false, Ex.same, Nat.beq, List.length_cons, List.length_nil, Int.toNat_natCast, beqTT, beqTF, beqFT, beqFF, mkRows_length, decide_eq_true (Int.ofNat_lt.2 hi), dec_nn, look_at hm, hw, bne_self_eq_false, bytesEq_self, Bool.not_true, tst3]
    exact hk
  · simp -implicitDefEqProofs only [cI, cB, cS, cL, oD_d, oG_g, oT_t, oP_p, dI_v, dB_v, dS_v, dL_s, cell_z, cell_s, nth_z, nth_s, aV_z, aV_s, aI_v, aB_v, aS_v, aL_f, aO_o, aX_b, tst_t, cond_true, cond_false, Ex.same, Nat.beq, List.length_cons, List.length_nil, Int.toNat_natCast, beqTT, beqTF, beqFT, beqFF]
    exact Evt.ret
/- loop.example/g00119/laws.heldIsle -/
theorem f31 {row : Row} (h : ShL E (E 83) row) (k : Int) (h0 : 0 ≤ k) (hk : k + (cnTop row : Nat) < K62) : Ev fs 31 [.g (mkTop row k), .d (.v (.int .i64 k))] (io (k + (cnTop row : Nat))) := by
  rw [E83] at h
  obtain ⟨sa0, ra0, rfl, pa0, h_a0⟩ := inv_s h
  obtain ⟨na1, ra1, rfl, pa1, h_a1⟩ := inv_i h_a0
  obtain ⟨na2, ra2, rfl, pa2, h_a2⟩ := inv_i h_a1
  obtain ⟨la3, ra3, rfl, pa3, h_a3⟩ := inv_sl W270 h_a2
  obtain ⟨la4, ra4, rfl, pa4, h_a4⟩ := inv_sl W238 h_a3
  cases inv_nil h_a4
  simp only [mkTop, cnTop, Nat.add_zero, Int.natCast_add, ← Int.add_assoc] at hk ⊢
  refine Ev.of (af := a31) rfl rfl (Evt.congr (fun d n => a31q ..) ?_)
  refine ev_call (f117 (by assumption) _ (by omega) (by omega)) ?_
  simp -implicitDefEqProofs only [cI, cB, cS, cL, oD_d, oG_g, oT_t, oP_p, dI_v, dB_v, dS_v, dL_s, cell_z, cell_s, nth_z, nth_s, aV_z, aV_s, aI_v, aB_v, aS_v, aL_f, aO_o, aX_b, tst_t, cond_true, cond_false, Ex.same, Nat.beq, List.length_cons, List.length_nil, Int.toNat_natCast, beqTT, beqTF, beqFT, beqFF]
  refine ev_if (fun hc => absurd (of_decide_eq_true hc) (by omega)) (fun _ => ?_)
  refine ev_call (f118 (by assumption) _ (by omega) (by omega)) ?_
  simp -implicitDefEqProofs only [cI, cB, cS, cL, oD_d, oG_g, oT_t, oP_p, dI_v, dB_v, dS_v, dL_s, cell_z, cell_s, nth_z, nth_s, aV_z, aV_s, aI_v, aB_v, aS_v, aL_f, aO_o, aX_b, tst_t, cond_true, cond_false, Ex.same, Nat.beq, List.length_cons, List.length_nil, Int.toNat_natCast, beqTT, beqTF, beqFT, beqFF]
  refine ev_if (fun hc => absurd (of_decide_eq_true hc) (by omega)) (fun _ => ?_)
  exact Evt.ret
end Go.Am.Is
