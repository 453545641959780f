/- What the functions of one family say in the end. Nothing is assumed. -/
import Derived.Test.YtapjklbchbgiaaaSpM
namespace Go.Am.Sp
set_option linter.unusedVariables false
set_option linter.unusedSimpArgs false
set_option maxRecDepth 8000
/- loop.example/g00119/laws.heldPartS -/
theorem f31 {l : Rows} (hl : SL E 101 l) (k : Int) (h0 : 0 ≤ k) (hk : k + (cnRows l : Nat) < K62) : Ev fs 31 [.d (.s 2 (mkRows l k)), .d (.v (.int .i64 k))] (io (k + (cnRows l : Nat))) := by
  refine Ev.of (af := a31) rfl rfl (Evt.congr (fun d n => a31q ..) ?_)
  refine ev_aft (L := fun d n => l31x0 (TabD fs d) d n [.fz 2 (mkRows l k), .v (.int .i64 k), .v (.int .i64 0)]) (held_loop (L := fun d n k' i => l31x0 (TabD fs d) d n [.fz 2 (mkRows l k), .v (.int .i64 k'), .v (.int .i64 i)]) (Y := fun k' => (.exit 0, [.v (.int .i64 k')])) h0 hk (fun d n k' => ?_) (fun i x k' res hi hx hm k0 k1 hk => ?_)) ?_
  · rw [l31x0s]
    simp -implicitDefEqProofs only [cI, cB, cS, cL, oD_d, oG_g, oT_t, oP_p, dI_v, dB_v, dS_v, dL_s, cell_z, cell_s, nth_z, nth_s, aV_z, aV_s, aI_v, aB_v, aS_v, aL_f, aO_o, aX_b, tst_t, cond_true, cond_false, Ex.same, Nat.beq, List.length_cons, List.length_nil, Int.toNat_natCast, beqTT, beqTF, beqFT, beqFF, mkRows_length, Int.lt_irrefl, decide_false]
  · have h := hl.at hx
    have h' := h
    rw [E101] at h
    obtain ⟨sa0, ra0, rfl, pa0, h_a0⟩ := inv_s h
    obtain ⟨na1, ra1, rfl, pa1, h_a1⟩ := inv_i h_a0
    cases inv_nil h_a1
    have hw := wrap_succ hi hl.1
    simp only [mkRow, mkV, cnRow, Nat.add_zero, Int.natCast_add, Int.cast_ofNat_Int, ← Int.add_assoc] at k1 hk hm
    try simp (disch := omega) only [wrap_v] at hm
    simp only [l31x0s]
    simp -implicitDefEqProofs only [cI, cB, cS, cL, oD_d, oG_g, oT_t, oP_p, dI_v, dB_v, dS_v, dL_s, cell_z, cell_s, nth_z, nth_s, aV_z, aV_s, aI_v, aB_v, aS_v, aL_f, aO_o, aX_b, tst_t, cond_true, cond_false, Ex.same, Nat.beq, List.length_cons, List.length_nil, Int.toNat_natCast, beqTT, beqTF, beqFT, beqFF, mkRows_length, decide_eq_true (Int.ofNat_lt.2 hi), dec_nn, look_at hm, hw, bne_self_eq_false, bytesEq_self, Bool.not_true, tst3]
    try simp (disch := omega) only [wrap_k, bne_self_eq_false, cond_false]
    try simp -implicitDefEqProofs only [cI, cB, cS, cL, oD_d, oG_g, oT_t, oP_p, dI_v, dB_v, dS_v, dL_s, cell_z, cell_s, nth_z, nth_s, aV_z, aV_s, aI_v, aB_v, aS_v, aL_f, aO_o, aX_b, tst_t, cond_true, cond_false, Ex.same, Nat.beq, List.length_cons, List.length_nil, Int.toNat_natCast, beqTT, beqTF, beqFT, beqFF, mkRows_length, decide_eq_true (Int.ofNat_lt.2 hi), dec_nn, look_at hm, hw, bne_self_eq_false, bytesEq_self, Bool.not_true, tst3]
    refine ev_call (f75 _ (by omega) (by omega)) ?_
    simp -implicitDefEqProofs only [cI, cB, cS, cL, oD_d, oG_g, oT_t, oP_p, dI_v, dB_v, dS_v, dL_s, cell_z, cell_s, nth_z, nth_s, aV_z, aV_s, aI_v, aB_v, aS_v, aL_f, aO_o, aX_b, tst_t, cond_true, cond_false, Ex.same, Nat.beq, List.length_cons, List.length_nil, Int.toNat_natCast, beqTT, beqTF, beqFT, beqFF, mkRows_length, decide_eq_true (Int.ofNat_lt.2 hi), dec_nn, look_at hm, hw, bne_self_eq_false, bytesEq_self, Bool.not_true, tst3]
    try simp (disch := omega) only [wrap_k, bne_self_eq_false, cond_false]
    try simp -implicitDefEqProofs only [cI, cB, cS, cL, oD_d, oG_g, oT_t, oP_p, dI_v, dB_v, dS_v, dL_s, cell_z, cell_s, nth_z, nth_s, aV_z, aV_s, aI_v, aB_v, aS_v, aL_f, aO_o, aX_b, tst_t, cond_true, cond_false, Ex.same, Nat.beq, List.length_cons, List.length_nil, Int.toNat_natCast, beqTT, beqTF, beqFT, beqFF, mkRows_length, decide_eq_true (Int.ofNat_lt.2 hi), dec_nn, look_at hm, hw, bne_self_eq_false, bytesEq_self, Bool.not_true, tst3]
    exact hk
  · simp -implicitDefEqProofs only [cI, cB, cS, cL, oD_d, oG_g, oT_t, oP_p, dI_v, dB_v, dS_v, dL_s, cell_z, cell_s, nth_z, nth_s, aV_z, aV_s, aI_v, aB_v, aS_v, aL_f, aO_o, aX_b, tst_t, cond_true, cond_false, Ex.same, Nat.beq, List.length_cons, List.length_nil, Int.toNat_natCast, beqTT, beqTF, beqFT, beqFF]
    exact Evt.ret
end Go.Am.Sp
