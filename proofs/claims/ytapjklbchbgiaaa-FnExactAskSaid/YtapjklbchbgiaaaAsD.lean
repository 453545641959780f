/- What the functions of one family say in the end. Nothing is assumed. -/
import Derived.Test.YtapjklbchbgiaaaAsM
namespace Go.Am.As
set_option linter.unusedVariables false
set_option linter.unusedSimpArgs false
set_option maxRecDepth 8000
/- loop.example/g00119/laws.heldStringS -/
theorem f93 {l : Rows} (hl : SL E 9 l) (k : Int) (h0 : 0 ≤ k) (hk : k + (cnRows l : Nat) < K62) : Ev fs 93 [.d (.s 1 (mkRows l k)), .d (.v (.int .i64 k))] (io (k + (cnRows l : Nat))) := by
  refine Ev.of (af := a93) rfl rfl (Evt.congr (fun d n => a93q ..) ?_)
  refine ev_aft (L := fun d n => l93x0 (TabD fs d) d n [.fz 1 (mkRows l k), .v (.int .i64 k), .v (.int .i64 0)]) (held_loop (L := fun d n k' i => l93x0 (TabD fs d) d n [.fz 1 (mkRows l k), .v (.int .i64 k'), .v (.int .i64 i)]) (Y := fun k' => (.exit 0, [.v (.int .i64 k')])) h0 hk (fun d n k' => ?_) (fun i x k' res hi hx hm k0 k1 hk => ?_)) ?_
  · rw [l93x0s]
    simp -implicitDefEqProofs only [cI, cB, cS, cL, oD_d, oG_g, oT_t, oP_p, dI_v, dB_v, dS_v, dL_s, cell_z, cell_s, nth_z, nth_s, aV_z, aV_s, aI_v, aB_v, aS_v, aL_f, aO_o, aX_b, tst_t, cond_true, cond_false, Ex.same, Nat.beq, List.length_cons, List.length_nil, Int.toNat_natCast, beqTT, beqTF, beqFT, beqFF, mkRows_length, Int.lt_irrefl, decide_false]
  · have h := hl.at hx
    have h' := h
    rw [E9] at h
    obtain ⟨sa0, ra0, rfl, pa0, h_a0⟩ := inv_s h
    cases inv_nil h_a0
    have hw := wrap_succ hi hl.1
    simp only [mkRow, mkV, cnRow, Nat.add_zero, Int.natCast_add, Int.cast_ofNat_Int, ← Int.add_assoc] at k1 hk hm
    try simp (disch := omega) only [wrap_v] at hm
    simp only [l93x0s]
    simp -implicitDefEqProofs only [cI, cB, cS, cL, oD_d, oG_g, oT_t, oP_p, dI_v, dB_v, dS_v, dL_s, cell_z, cell_s, nth_z, nth_s, aV_z, aV_s, aI_v, aB_v, aS_v, aL_f, aO_o, aX_b, tst_t, cond_true, cond_false, Ex.same, Nat.beq, List.length_cons, List.length_nil, Int.toNat_natCast, beqTT, beqTF, beqFT, beqFF, mkRows_length, decide_eq_true (Int.ofNat_lt.2 hi), dec_nn, look_at hm, hw, bne_self_eq_false, bytesEq_self, Bool.not_true, tst3]
    try simp (disch := omega) only [wrap_k, bne_self_eq_false, cond_false]
    try simp -implicitDefEqProofs only [cI, cB, cS, cL, oD_d, oG_g, oT_t, oP_p, dI_v, dB_v, dS_v, dL_s, cell_z, cell_s, nth_z, nth_s, aV_z, aV_s, aI_v, aB_v, aS_v, aL_f, aO_o, aX_b, tst_t, cond_true, cond_false, Ex.same, Nat.beq, List.length_cons, List.length_nil, Int.toNat_natCast, beqTT, beqTF, beqFT, beqFF, mkRows_length, decide_eq_true (Int.ofNat_lt.2 hi), dec_nn, look_at hm, hw, bne_self_eq_false, bytesEq_self, Bool.not_true, tst3]
    refine ev_call (f75 _ (by omega) (by omega)) ?_
    simp -implicitDefEqProofs only [cI, cB, cS, cL, oD_d, oG_g, oT_t, oP_p, dI_v, dB_v, dS_v, dL_s, cell_z, cell_s, nth_z, nth_s, aV_z, aV_s, aI_v, aB_v, aS_v, aL_f, aO_o, aX_b, tst_t, cond_true, cond_false, Ex.same, Nat.beq, List.length_cons, List.length_nil, Int.toNat_natCast, beqTT, beqTF, beqFT, beqFF, mkRows_length, decide_eq_true (Int.ofNat_lt.2 hi), dec_nn, look_at hm, hw, bne_self_eq_false, bytesEq_self, Bool.not_true, tst3]
    try simp (disch := omega) only [wrap_k, bne_self_eq_false, cond_false]
    try simp -implicitDefEqProofs only [cI, cB, cS, cL, oD_d, oG_g, oT_t, oP_p, dI_v, dB_v, dS_v, dL_s, cell_z, cell_s, nth_z, nth_s, aV_z, aV_s, aI_v, aB_v, aS_v, aL_f, aO_o, aX_b, tst_t, cond_true, cond_false, Ex.same, Nat.beq, List.length_cons, List.length_nil, Int.toNat_natCast, beqTT, beqTF, beqFT, beqFF, mkRows_length, decide_eq_true (Int.ofNat_lt.2 hi), dec_nn, look_at hm, hw, bne_self_eq_false, bytesEq_self, Bool.not_true, tst3]
    exact hk
  · simp -implicitDefEqProofs only [cI, cB, cS, cL, oD_d, oG_g, oT_t, oP_p, dI_v, dB_v, dS_v, dL_s, cell_z, cell_s, nth_z, nth_s, aV_z, aV_s, aI_v, aB_v, aS_v, aL_f, aO_o, aX_b, tst_t, cond_true, cond_false, Ex.same, Nat.beq, List.length_cons, List.length_nil, Int.toNat_natCast, beqTT, beqTF, beqFT, beqFF]
    exact Evt.ret
/- loop.example/g00119/laws.heldValueS -/
theorem fr94 {l : Rows} (hl : SL E 122 l) (k : Int) (h0 : 0 ≤ k) (hk : k + (cnRows l : Nat) < K62) (W : Nat) (hW : 2 * (l.length + wtRows l) = W) : Ev fs 94 [.d (.s 5 (mkRows l k)), .d (.v (.int .i64 k))] (io (k + (cnRows l : Nat))) := by
  refine Ev.of (af := a94) rfl rfl (Evt.congr (fun d n => a94q ..) ?_)
  refine ev_aft (L := fun d n => l94x0 (TabD fs d) d n [.fz 5 (mkRows l k), .v (.int .i64 k), .v (.int .i64 0)]) (held_loop (L := fun d n k' i => l94x0 (TabD fs d) d n [.fz 5 (mkRows l k), .v (.int .i64 k'), .v (.int .i64 i)]) (Y := fun k' => (.exit 0, [.v (.int .i64 k')])) h0 hk (fun d n k' => ?_) (fun i x k' res hi hx hm k0 k1 hk => ?_)) ?_
  · rw [l94x0s]
    simp -implicitDefEqProofs only [cI, cB, cS, cL, oD_d, oG_g, oT_t, oP_p, dI_v, dB_v, dS_v, dL_s, cell_z, cell_s, nth_z, nth_s, aV_z, aV_s, aI_v, aB_v, aS_v, aL_f, aO_o, aX_b, tst_t, cond_true, cond_false, Ex.same, Nat.beq, List.length_cons, List.length_nil, Int.toNat_natCast, beqTT, beqTF, beqFT, beqFF, mkRows_length, Int.lt_irrefl, decide_false]
  · have h := hl.at hx
    have h' := h
    rw [E122] at h
    obtain ⟨na0, ra0, rfl, pa0, h_a0⟩ := inv_i h
    obtain ⟨sa1, ra1, rfl, pa1, h_a1⟩ := inv_s h_a0
    obtain ⟨na2, ra2, rfl, pa2, h_a2⟩ := inv_i h_a1
    obtain ⟨la3, ra3, rfl, pa3, h_a3⟩ := inv_sl W9 h_a2
    obtain ⟨la4, ra4, rfl, pa4, h_a4⟩ := inv_sl W122 h_a3
    cases inv_nil h_a4
    have hw := wrap_succ hi hl.1
    simp only [mkRow, mkV, cnRow, Nat.add_zero, Int.natCast_add, Int.cast_ofNat_Int, ← Int.add_assoc] at k1 hk hm
    try simp (disch := omega) only [wrap_v] at hm
    simp only [l94x0s]
    simp -implicitDefEqProofs only [cI, cB, cS, cL, oD_d, oG_g, oT_t, oP_p, dI_v, dB_v, dS_v, dL_s, cell_z, cell_s, nth_z, nth_s, aV_z, aV_s, aI_v, aB_v, aS_v, aL_f, aO_o, aX_b, tst_t, cond_true, cond_false, Ex.same, Nat.beq, List.length_cons, List.length_nil, Int.toNat_natCast, beqTT, beqTF, beqFT, beqFF, mkRows_length, decide_eq_true (Int.ofNat_lt.2 hi), dec_nn, look_at hm, hw, bne_self_eq_false, bytesEq_self, Bool.not_true, tst3]
    try simp (disch := omega) only [wrap_k, bne_self_eq_false, cond_false]
    try simp -implicitDefEqProofs only [cI, cB, cS, cL, oD_d, oG_g, oT_t, oP_p, dI_v, dB_v, dS_v, dL_s, cell_z, cell_s, nth_z, nth_s, aV_z, aV_s, aI_v, aB_v, aS_v, aL_f, aO_o, aX_b, tst_t, cond_true, cond_false, Ex.same, Nat.beq, List.length_cons, List.length_nil, Int.toNat_natCast, beqTT, beqTF, beqFT, beqFF, mkRows_length, decide_eq_true (Int.ofNat_lt.2 hi), dec_nn, look_at hm, hw, bne_self_eq_false, bytesEq_self, Bool.not_true, tst3]
    refine ev_call (f75 _ (by omega) (by omega)) ?_
    simp -implicitDefEqProofs only [cI, cB, cS, cL, oD_d, oG_g, oT_t, oP_p, dI_v, dB_v, dS_v, dL_s, cell_z, cell_s, nth_z, nth_s, aV_z, aV_s, aI_v, aB_v, aS_v, aL_f, aO_o, aX_b, tst_t, cond_true, cond_false, Ex.same, Nat.beq, List.length_cons, List.length_nil, Int.toNat_natCast, beqTT, beqTF, beqFT, beqFF, mkRows_length, decide_eq_true (Int.ofNat_lt.2 hi), dec_nn, look_at hm, hw, bne_self_eq_false, bytesEq_self, Bool.not_true, tst3]
    try simp (disch := omega) only [wrap_k, bne_self_eq_false, cond_false]
    try simp -implicitDefEqProofs only [cI, cB, cS, cL, oD_d, oG_g, oT_t, oP_p, dI_v, dB_v, dS_v, dL_s, cell_z, cell_s, nth_z, nth_s, aV_z, aV_s, aI_v, aB_v, aS_v, aL_f, aO_o, aX_b, tst_t, cond_true, cond_false, Ex.same, Nat.beq, List.length_cons, List.length_nil, Int.toNat_natCast, beqTT, beqTF, beqFT, beqFF, mkRows_length, decide_eq_true (Int.ofNat_lt.2 hi), dec_nn, look_at hm, hw, bne_self_eq_false, bytesEq_self, Bool.not_true, tst3]
    refine ev_call (f93 (by assumption) _ (by omega) (by omega)) ?_
    simp -implicitDefEqProofs only [cI, cB, cS, cL, oD_d, oG_g, oT_t, oP_p, dI_v, dB_v, dS_v, dL_s, cell_z, cell_s, nth_z, nth_s, aV_z, aV_s, aI_v, aB_v, aS_v, aL_f, aO_o, aX_b, tst_t, cond_true, cond_false, Ex.same, Nat.beq, List.length_cons, List.length_nil, Int.toNat_natCast, beqTT, beqTF, beqFT, beqFF, mkRows_length, decide_eq_true (Int.ofNat_lt.2 hi), dec_nn, look_at hm, hw, bne_self_eq_false, bytesEq_self, Bool.not_true, tst3]
    try simp (disch := omega) only [wrap_k, bne_self_eq_false, cond_false]
    try simp -implicitDefEqProofs only [cI, cB, cS, cL, oD_d, oG_g, oT_t, oP_p, dI_v, dB_v, dS_v, dL_s, cell_z, cell_s, nth_z, nth_s, aV_z, aV_s, aI_v, aB_v, aS_v, aL_f, aO_o, aX_b, tst_t, cond_true, cond_false, Ex.same, Nat.beq, List.length_cons, List.length_nil, Int.toNat_natCast, beqTT, beqTF, beqFT, beqFF, mkRows_length, decide_eq_true (Int.ofNat_lt.2 hi), dec_nn, look_at hm, hw, bne_self_eq_false, bytesEq_self, Bool.not_true, tst3]
    refine ev_if (fun hc => absurd (of_decide_eq_true hc) (by omega)) (fun _ => ?_)
    try simp -implicitDefEqProofs only [cI, cB, cS, cL, oD_d, oG_g, oT_t, oP_p, dI_v, dB_v, dS_v, dL_s, cell_z, cell_s, nth_z, nth_s, aV_z, aV_s, aI_v, aB_v, aS_v, aL_f, aO_o, aX_b, tst_t, cond_true, cond_false, Ex.same, Nat.beq, List.length_cons, List.length_nil, Int.toNat_natCast, beqTT, beqTF, beqFT, beqFF, mkRows_length, decide_eq_true (Int.ofNat_lt.2 hi), dec_nn, look_at hm, hw, bne_self_eq_false, bytesEq_self, Bool.not_true, tst3]
    try simp (disch := omega) only [wrap_k, bne_self_eq_false, cond_false]
    try simp -implicitDefEqProofs only [cI, cB, cS, cL, oD_d, oG_g, oT_t, oP_p, dI_v, dB_v, dS_v, dL_s, cell_z, cell_s, nth_z, nth_s, aV_z, aV_s, aI_v, aB_v, aS_v, aL_f, aO_o, aX_b, tst_t, cond_true, cond_false, Ex.same, Nat.beq, List.length_cons, List.length_nil, Int.toNat_natCast, beqTT, beqTF, beqFT, beqFF, mkRows_length, decide_eq_true (Int.ofNat_lt.2 hi), dec_nn, look_at hm, hw, bne_self_eq_false, bytesEq_self, Bool.not_true, tst3]
    refine ev_call (fr94 (by assumption) _ (by omega) (by omega) _ rfl) ?_
    simp -implicitDefEqProofs only [cI, cB, cS, cL, oD_d, oG_g, oT_t, oP_p, dI_v, dB_v, dS_v, dL_s, cell_z, cell_s, nth_z, nth_s, aV_z, aV_s, aI_v, aB_v, aS_v, aL_f, aO_o, aX_b, tst_t, cond_true, cond_false, Ex.same, Nat.beq, List.length_cons, List.length_nil, Int.toNat_natCast, beqTT, beqTF, beqFT, beqFF, mkRows_length, decide_eq_true (Int.ofNat_lt.2 hi), dec_nn, look_at hm, hw, bne_self_eq_false, bytesEq_self, Bool.not_true, tst3]
    try simp (disch := omega) only [wrap_k, bne_self_eq_false, cond_false]
    try simp -implicitDefEqProofs only [cI, cB, cS, cL, oD_d, oG_g, oT_t, oP_p, dI_v, dB_v, dS_v, dL_s, cell_z, cell_s, nth_z, nth_s, aV_z, aV_s, aI_v, aB_v, aS_v, aL_f, aO_o, aX_b, tst_t, cond_true, cond_false, Ex.same, Nat.beq, List.length_cons, List.length_nil, Int.toNat_natCast, beqTT, beqTF, beqFT, beqFF, mkRows_length, decide_eq_true (Int.ofNat_lt.2 hi), dec_nn, look_at hm, hw, bne_self_eq_false, bytesEq_self, Bool.not_true, tst3]
    refine ev_if (fun hc => absurd (of_decide_eq_true hc) (by omega)) (fun _ => ?_)
    try simp -implicitDefEqProofs only [cI, cB, cS, cL, oD_d, oG_g, oT_t, oP_p, dI_v, dB_v, dS_v, dL_s, cell_z, cell_s, nth_z, nth_s, aV_z, aV_s, aI_v, aB_v, aS_v, aL_f, aO_o, aX_b, tst_t, cond_true, cond_false, Ex.same, Nat.beq, List.length_cons, List.length_nil, Int.toNat_natCast, beqTT, beqTF, beqFT, beqFF, mkRows_length, decide_eq_true (Int.ofNat_lt.2 hi), dec_nn, look_at hm, hw, bne_self_eq_false, bytesEq_self, Bool.not_true, tst3]
    try simp (disch := omega) only [wrap_k, bne_self_eq_false, cond_false]
    try simp -implicitDefEqProofs only [cI, cB, cS, cL, oD_d, oG_g, oT_t, oP_p, dI_v, dB_v, dS_v, dL_s, cell_z, cell_s, nth_z, nth_s, aV_z, aV_s, aI_v, aB_v, aS_v, aL_f, aO_o, aX_b, tst_t, cond_true, cond_false, Ex.same, Nat.beq, List.length_cons, List.length_nil, Int.toNat_natCast, beqTT, beqTF, beqFT, beqFF, mkRows_length, decide_eq_true (Int.ofNat_lt.2 hi), dec_nn, look_at hm, hw, bne_self_eq_false, bytesEq_self, Bool.not_true, tst3]
    exact hk
  · simp -implicitDefEqProofs only [cI, cB, cS, cL, oD_d, oG_g, oT_t, oP_p, dI_v, dB_v, dS_v, dL_s, cell_z, cell_s, nth_z, nth_s, aV_z, aV_s, aI_v, aB_v, aS_v, aL_f, aO_o, aX_b, tst_t, cond_true, cond_false, Ex.same, Nat.beq, List.length_cons, List.length_nil, Int.toNat_natCast, beqTT, beqTF, beqFT, beqFF]
    exact Evt.ret
termination_by W
decreasing_by all_goals (try have := wt_at hx); (try simp only [wtRow, wtD] at *); omega
theorem f94 {l : Rows} (hl : SL E 122 l) (k : Int) (h0 : 0 ≤ k) (hk : k + (cnRows l : Nat) < K62) : Ev fs 94 [.d (.s 5 (mkRows l k)), .d (.v (.int .i64 k))] (io (k + (cnRows l : Nat))) := fr94 hl k h0 hk _ rfl
/- loop.example/g00119/laws.heldWorkS -/
theorem f46 {l : Rows} (hl : SL E 124 l) (k : Int) (h0 : 0 ≤ k) (hk : k + (cnRows l : Nat) < K62) : Ev fs 46 [.d (.s 7 (mkRows l k)), .d (.v (.int .i64 k))] (io (k + (cnRows l : Nat))) := by
  refine Ev.of (af := a46) rfl rfl (Evt.congr (fun d n => a46q ..) ?_)
  refine ev_aft (L := fun d n => l46x0 (TabD fs d) d n [.fz 7 (mkRows l k), .v (.int .i64 k), .v (.int .i64 0)]) (held_loop (L := fun d n k' i => l46x0 (TabD fs d) d n [.fz 7 (mkRows l k), .v (.int .i64 k'), .v (.int .i64 i)]) (Y := fun k' => (.exit 0, [.v (.int .i64 k')])) h0 hk (fun d n k' => ?_) (fun i x k' res hi hx hm k0 k1 hk => ?_)) ?_
  · rw [l46x0s]
    simp -implicitDefEqProofs only [cI, cB, cS, cL, oD_d, oG_g, oT_t, oP_p, dI_v, dB_v, dS_v, dL_s, cell_z, cell_s, nth_z, nth_s, aV_z, aV_s, aI_v, aB_v, aS_v, aL_f, aO_o, aX_b, tst_t, cond_true, cond_false, Ex.same, Nat.beq, List.length_cons, List.length_nil, Int.toNat_natCast, beqTT, beqTF, beqFT, beqFF, mkRows_length, Int.lt_irrefl, decide_false]
  · have h := hl.at hx
    have h' := h
    rw [E124] at h
    obtain ⟨na0, ra0, rfl, pa0, h_a0⟩ := inv_i h
    obtain ⟨na1, ra1, rfl, pa1, h_a1⟩ := inv_i h_a0
    obtain ⟨na2, ra2, rfl, pa2, h_a2⟩ := inv_i h_a1
    obtain ⟨sa3, ra3, rfl, pa3, h_a3⟩ := inv_s h_a2
    obtain ⟨na4, ra4, rfl, pa4, h_a4⟩ := inv_i h_a3
    obtain ⟨la5, ra5, rfl, pa5, h_a5⟩ := inv_sl W9 h_a4
    obtain ⟨la6, ra6, rfl, pa6, h_a6⟩ := inv_sl W122 h_a5
    cases inv_nil h_a6
    have hw := wrap_succ hi hl.1
    simp only [mkRow, mkV, cnRow, Nat.add_zero, Int.natCast_add, Int.cast_ofNat_Int, ← Int.add_assoc] at k1 hk hm
    try simp (disch := omega) only [wrap_v] at hm
    simp only [l46x0s]
    simp -implicitDefEqProofs only [cI, cB, cS, cL, oD_d, oG_g, oT_t, oP_p, dI_v, dB_v, dS_v, dL_s, cell_z, cell_s, nth_z, nth_s, aV_z, aV_s, aI_v, aB_v, aS_v, aL_f, aO_o, aX_b, tst_t, cond_true, cond_false, Ex.same, Nat.beq, List.length_cons, List.length_nil, Int.toNat_natCast, beqTT, beqTF, beqFT, beqFF, mkRows_length, decide_eq_true (Int.ofNat_lt.2 hi), dec_nn, look_at hm, hw, bne_self_eq_false, bytesEq_self, Bool.not_true, tst3]
    try simp (disch := omega) only [wrap_k, bne_self_eq_false, cond_false]
    try simp -implicitDefEqProofs only [cI, cB, cS, cL, oD_d, oG_g, oT_t, oP_p, dI_v, dB_v, dS_v, dL_s, cell_z, cell_s, nth_z, nth_s, aV_z, aV_s, aI_v, aB_v, aS_v, aL_f, aO_o, aX_b, tst_t, cond_true, cond_false, Ex.same, Nat.beq, List.length_cons, List.length_nil, Int.toNat_natCast, beqTT, beqTF, beqFT, beqFF, mkRows_length, decide_eq_true (Int.ofNat_lt.2 hi), dec_nn, look_at hm, hw, bne_self_eq_false, bytesEq_self, Bool.not_true, tst3]
    refine ev_call (f75 _ (by omega) (by omega)) ?_
    simp -implicitDefEqProofs only [cI, cB, cS, cL, oD_d, oG_g, oT_t, oP_p, dI_v, dB_v, dS_v, dL_s, cell_z, cell_s, nth_z, nth_s, aV_z, aV_s, aI_v, aB_v, aS_v, aL_f, aO_o, aX_b, tst_t, cond_true, cond_false, Ex.same, Nat.beq, List.length_cons, List.length_nil, Int.toNat_natCast, beqTT, beqTF, beqFT, beqFF, mkRows_length, decide_eq_true (Int.ofNat_lt.2 hi), dec_nn, look_at hm, hw, bne_self_eq_false, bytesEq_self, Bool.not_true, tst3]
    try simp (disch := omega) only [wrap_k, bne_self_eq_false, cond_false]
    try simp -implicitDefEqProofs only [cI, cB, cS, cL, oD_d, oG_g, oT_t, oP_p, dI_v, dB_v, dS_v, dL_s, cell_z, cell_s, nth_z, nth_s, aV_z, aV_s, aI_v, aB_v, aS_v, aL_f, aO_o, aX_b, tst_t, cond_true, cond_false, Ex.same, Nat.beq, List.length_cons, List.length_nil, Int.toNat_natCast, beqTT, beqTF, beqFT, beqFF, mkRows_length, decide_eq_true (Int.ofNat_lt.2 hi), dec_nn, look_at hm, hw, bne_self_eq_false, bytesEq_self, Bool.not_true, tst3]
    refine ev_call (f93 (by assumption) _ (by omega) (by omega)) ?_
    simp -implicitDefEqProofs only [cI, cB, cS, cL, oD_d, oG_g, oT_t, oP_p, dI_v, dB_v, dS_v, dL_s, cell_z, cell_s, nth_z, nth_s, aV_z, aV_s, aI_v, aB_v, aS_v, aL_f, aO_o, aX_b, tst_t, cond_true, cond_false, Ex.same, Nat.beq, List.length_cons, List.length_nil, Int.toNat_natCast, beqTT, beqTF, beqFT, beqFF, mkRows_length, decide_eq_true (Int.ofNat_lt.2 hi), dec_nn, look_at hm, hw, bne_self_eq_false, bytesEq_self, Bool.not_true, tst3]
    try simp (disch := omega) only [wrap_k, bne_self_eq_false, cond_false]
    try simp -implicitDefEqProofs only [cI, cB, cS, cL, oD_d, oG_g, oT_t, oP_p, dI_v, dB_v, dS_v, dL_s, cell_z, cell_s, nth_z, nth_s, aV_z, aV_s, aI_v, aB_v, aS_v, aL_f, aO_o, aX_b, tst_t, cond_true, cond_false, Ex.same, Nat.beq, List.length_cons, List.length_nil, Int.toNat_natCast, beqTT, beqTF, beqFT, beqFF, mkRows_length, decide_eq_true (Int.ofNat_lt.2 hi), dec_nn, look_at hm, hw, bne_self_eq_false, bytesEq_self, Bool.not_true, tst3]
    refine ev_if (fun hc => absurd (of_decide_eq_true hc) (by omega)) (fun _ => ?_)
    try simp -implicitDefEqProofs only [cI, cB, cS, cL, oD_d, oG_g, oT_t, oP_p, dI_v, dB_v, dS_v, dL_s, cell_z, cell_s, nth_z, nth_s, aV_z, aV_s, aI_v, aB_v, aS_v, aL_f, aO_o, aX_b, tst_t, cond_true, cond_false, Ex.same, Nat.beq, List.length_cons, List.length_nil, Int.toNat_natCast, beqTT, beqTF, beqFT, beqFF, mkRows_length, decide_eq_true (Int.ofNat_lt.2 hi), dec_nn, look_at hm, hw, bne_self_eq_false, bytesEq_self, Bool.not_true, tst3]
    try simp (disch := omega) only [wrap_k, bne_self_eq_false, cond_false]
    try simp -implicitDefEqProofs only [cI, cB, cS, cL, oD_d, oG_g, oT_t, oP_p, dI_v, dB_v, dS_v, dL_s, cell_z, cell_s, nth_z, nth_s, aV_z, aV_s, aI_v, aB_v, aS_v, aL_f, aO_o, aX_b, tst_t, cond_true, cond_false, Ex.same, Nat.beq, List.length_cons, List.length_nil, Int.toNat_natCast, beqTT, beqTF, beqFT, beqFF, mkRows_length, decide_eq_true (Int.ofNat_lt.2 hi), dec_nn, look_at hm, hw, bne_self_eq_false, bytesEq_self, Bool.not_true, tst3]
    refine ev_call (f94 (by assumption) _ (by omega) (by omega)) ?_
    simp -implicitDefEqProofs only [cI, cB, cS, cL, oD_d, oG_g, oT_t, oP_p, dI_v, dB_v, dS_v, dL_s, cell_z, cell_s, nth_z, nth_s, aV_z, aV_s, aI_v, aB_v, aS_v, aL_f, aO_o, aX_b, tst_t, cond_true, cond_false, Ex.same, Nat.beq, List.length_cons, List.length_nil, Int.toNat_natCast, beqTT, beqTF, beqFT, beqFF, mkRows_length, decide_eq_true (Int.ofNat_lt.2 hi), dec_nn, look_at hm, hw, bne_self_eq_false, bytesEq_self, Bool.not_true, tst3]
    try simp (disch := omega) only [wrap_k, bne_self_eq_false, cond_false]
    try simp -implicitDefEqProofs only [cI, cB, cS, cL, oD_d, oG_g, oT_t, oP_p, dI_v, dB_v, dS_v, dL_s, cell_z, cell_s, nth_z, nth_s, aV_z, aV_s, aI_v, aB_v, aS_v, aL_f, aO_o, aX_b, tst_t, cond_true, cond_false, Ex.same, Nat.beq, List.length_cons, List.length_nil, Int.toNat_natCast, beqTT, beqTF, beqFT, beqFF, mkRows_length, decide_eq_true (Int.ofNat_lt.2 hi), dec_nn, look_at hm, hw, bne_self_eq_false, bytesEq_self, Bool.not_true, tst3]
    refine ev_if (fun hc => absurd (of_decide_eq_true hc) (by omega)) (fun _ => ?_)
    try simp -implicitDefEqProofs only [cI, cB, cS, cL, oD_d, oG_g, oT_t, oP_p, dI_v, dB_v, dS_v, dL_s, cell_z, cell_s, nth_z, nth_s, aV_z, aV_s, aI_v, aB_v, aS_v, aL_f, aO_o, aX_b, tst_t, cond_true, cond_false, Ex.same, Nat.beq, List.length_cons, List.length_nil, Int.toNat_natCast, beqTT, beqTF, beqFT, beqFF, mkRows_length, decide_eq_true (Int.ofNat_lt.2 hi), dec_nn, look_at hm, hw, bne_self_eq_false, bytesEq_self, Bool.not_true, tst3]
    try simp (disch := omega) only [wrap_k, bne_self_eq_false, cond_false]
    try simp -implicitDefEqProofs only [cI, cB, cS, cL, oD_d, oG_g, oT_t, oP_p, dI_v, dB_v, dS_v, dL_s, cell_z, cell_s, nth_z, nth_s, aV_z, aV_s, aI_v, aB_v, aS_v, aL_f, aO_o, aX_b, tst_t, cond_true, cond_false, Ex.same, Nat.beq, List.length_cons, List.length_nil, Int.toNat_natCast, beqTT, beqTF, beqFT, beqFF, mkRows_length, decide_eq_true (Int.ofNat_lt.2 hi), dec_nn, look_at hm, hw, bne_self_eq_false, bytesEq_self, Bool.not_true, tst3]
    exact hk
  · simp -implicitDefEqProofs only [cI, cB, cS, cL, oD_d, oG_g, oT_t, oP_p, dI_v, dB_v, dS_v, dL_s, cell_z, cell_s, nth_z, nth_s, aV_z, aV_s, aI_v, aB_v, aS_v, aL_f, aO_o, aX_b, tst_t, cond_true, cond_false, Ex.same, Nat.beq, List.length_cons, List.length_nil, Int.toNat_natCast, beqTT, beqTF, beqFT, beqFF]
    exact Evt.ret
/- loop.example/g00119/laws.heldRunS -/
theorem f47 {l : Rows} (hl : SL E 127 l) (k : Int) (h0 : 0 ≤ k) (hk : k + (cnRows l : Nat) < K62) : Ev fs 47 [.d (.s 2 (mkRows l k)), .d (.v (.int .i64 k))] (io (k + (cnRows l : Nat))) := by
  refine Ev.of (af := a47) rfl rfl (Evt.congr (fun d n => a47q ..) ?_)
  refine ev_aft (L := fun d n => l47x0 (TabD fs d) d n [.fz 2 (mkRows l k), .v (.int .i64 k), .v (.int .i64 0)]) (held_loop (L := fun d n k' i => l47x0 (TabD fs d) d n [.fz 2 (mkRows l k), .v (.int .i64 k'), .v (.int .i64 i)]) (Y := fun k' => (.exit 0, [.v (.int .i64 k')])) h0 hk (fun d n k' => ?_) (fun i x k' res hi hx hm k0 k1 hk => ?_)) ?_
  · rw [l47x0s]
    simp -implicitDefEqProofs only [cI, cB, cS, cL, oD_d, oG_g, oT_t, oP_p, dI_v, dB_v, dS_v, dL_s, cell_z, cell_s, nth_z, nth_s, aV_z, aV_s, aI_v, aB_v, aS_v, aL_f, aO_o, aX_b, tst_t, cond_true, cond_false, Ex.same, Nat.beq, List.length_cons, List.length_nil, Int.toNat_natCast, beqTT, beqTF, beqFT, beqFF, mkRows_length, Int.lt_irrefl, decide_false]
  · have h := hl.at hx
    have h' := h
    rw [E127] at h
    obtain ⟨na0, ra0, rfl, pa0, h_a0⟩ := inv_i h
    obtain ⟨na1, ra1, rfl, pa1, h_a1⟩ := inv_i h_a0
    cases inv_nil h_a1
    have hw := wrap_succ hi hl.1
    simp only [mkRow, mkV, cnRow, Nat.add_zero, Int.natCast_add, Int.cast_ofNat_Int, ← Int.add_assoc] at k1 hk hm
    try simp (disch := omega) only [wrap_v] at hm
    simp only [l47x0s]
    simp -implicitDefEqProofs only [cI, cB, cS, cL, oD_d, oG_g, oT_t, oP_p, dI_v, dB_v, dS_v, dL_s, cell_z, cell_s, nth_z, nth_s, aV_z, aV_s, aI_v, aB_v, aS_v, aL_f, aO_o, aX_b, tst_t, cond_true, cond_false, Ex.same, Nat.beq, List.length_cons, List.length_nil, Int.toNat_natCast, beqTT, beqTF, beqFT, beqFF, mkRows_length, decide_eq_true (Int.ofNat_lt.2 hi), dec_nn, look_at hm, hw, bne_self_eq_false, bytesEq_self, Bool.not_true, tst3]
    try simp (disch := omega) only [wrap_k, bne_self_eq_false, cond_false]
    try simp -implicitDefEqProofs only [cI, cB, cS, cL, oD_d, oG_g, oT_t, oP_p, dI_v, dB_v, dS_v, dL_s, cell_z, cell_s, nth_z, nth_s, aV_z, aV_s, aI_v, aB_v, aS_v, aL_f, aO_o, aX_b, tst_t, cond_true, cond_false, Ex.same, Nat.beq, List.length_cons, List.length_nil, Int.toNat_natCast, beqTT, beqTF, beqFT, beqFF, mkRows_length, decide_eq_true (Int.ofNat_lt.2 hi), dec_nn, look_at hm, hw, bne_self_eq_false, bytesEq_self, Bool.not_true, tst3]
    exact hk
  · simp -implicitDefEqProofs only [cI, cB, cS, cL, oD_d, oG_g, oT_t, oP_p, dI_v, dB_v, dS_v, dL_s, cell_z, cell_s, nth_z, nth_s, aV_z, aV_s, aI_v, aB_v, aS_v, aL_f, aO_o, aX_b, tst_t, cond_true, cond_false, Ex.same, Nat.beq, List.length_cons, List.length_nil, Int.toNat_natCast, beqTT, beqTF, beqFT, beqFF]
    exact Evt.ret
/- loop.example/g00119/laws.heldMsg -/
theorem f25 {row : Row} (h : ShL E (E 38) row) (k : Int) (h0 : 0 ≤ k) (hk : k + (cnTop row : Nat) < K62) : Ev fs 25 [.g (mkTop row k), .d (.v (.int .i64 k))] (io (k + (cnTop row : Nat))) := by
  rw [E38] at h
  obtain ⟨na0, ra0, rfl, pa0, h_a0⟩ := inv_i h
  obtain ⟨sa1, ra1, rfl, pa1, h_a1⟩ := inv_s h_a0
  obtain ⟨na2, ra2, rfl, pa2, h_a2⟩ := inv_i h_a1
  obtain ⟨la3, ra3, rfl, pa3, h_a3⟩ := inv_sl W124 h_a2
  obtain ⟨la4, ra4, rfl, pa4, h_a4⟩ := inv_sl W127 h_a3
  cases inv_nil h_a4
  simp only [mkTop, cnTop, Nat.add_zero, Int.natCast_add, ← Int.add_assoc] at hk ⊢
  refine Ev.of (af := a25) rfl rfl (Evt.congr (fun d n => a25q ..) ?_)
  refine ev_call (f46 (by assumption) _ (by omega) (by omega)) ?_
  simp -implicitDefEqProofs only [cI, cB, cS, cL, oD_d, oG_g, oT_t, oP_p, dI_v, dB_v, dS_v, dL_s, cell_z, cell_s, nth_z, nth_s, aV_z, aV_s, aI_v, aB_v, aS_v, aL_f, aO_o, aX_b, tst_t, cond_true, cond_false, Ex.same, Nat.beq, List.length_cons, List.length_nil, Int.toNat_natCast, beqTT, beqTF, beqFT, beqFF]
  refine ev_if (fun hc => absurd (of_decide_eq_true hc) (by omega)) (fun _ => ?_)
  refine ev_call (f47 (by assumption) _ (by omega) (by omega)) ?_
  simp -implicitDefEqProofs only [cI, cB, cS, cL, oD_d, oG_g, oT_t, oP_p, dI_v, dB_v, dS_v, dL_s, cell_z, cell_s, nth_z, nth_s, aV_z, aV_s, aI_v, aB_v, aS_v, aL_f, aO_o, aX_b, tst_t, cond_true, cond_false, Ex.same, Nat.beq, List.length_cons, List.length_nil, Int.toNat_natCast, beqTT, beqTF, beqFT, beqFF]
  refine ev_if (fun hc => absurd (of_decide_eq_true hc) (by omega)) (fun _ => ?_)
  exact Evt.ret
end Go.Am.As
