/- What the functions of one family say in the end. Nothing is assumed. -/
import Derived.Test.YtapjklbchbgiaaaGreatIsH
namespace Go.Am.Is
set_option linter.unusedVariables false
set_option linter.unusedSimpArgs false
set_option maxRecDepth 8000
/- loop.example/g00119/laws.markText -/
theorem f167 (k : Int) (h0 : 0 ≤ k) (h1 : k < K62) : Ev fs 167 [.d (.v (.int .i64 k))] ⟨.d (.v (.string (mkText k))), []⟩ := by
  obtain ⟨x, rfl⟩ : ∃ x : Nat, k = (x : Int) := ⟨k.toNat, by omega⟩
  have h62 : x < 2 ^ 62 := by simp only [K62] at h1; omega
  refine Ev.of (af := a167) rfl rfl (Evt.congr (fun d n => a167q ..) ?_)
  refine ev_if (fun hc => ?_) (fun hc => ?_)
  · have : x = 0 := by have := of_decide_eq_true hc; omega
    subst this
    exact Evt.ret' (by simp [mkText])
  · have hpos : 0 < x := by have := of_decide_eq_false hc; omega
    refine ev_aft (L := fun d n => l167x0 (TabD fs d) d n [.v (.int .i64 (x : Int)), .v (.string ⟨#[]⟩)]) (mark_text (L := fun d n v s => l167x0 (TabD fs d) d n [.v (.int .i64 v), .v (.string s)]) (fun d n s => ?_) (fun x s res hp hx hs k => ?_) 19 x (Nat.lt_of_lt_of_le h62 (by decide)) h62 (by omega) ⟨#[]⟩ (by decide)) ?_
    · rw [l167x0s]
      simp -implicitDefEqProofs only [cI, cB, cS, cL, oD_d, oG_g, oT_t, oP_p, dI_v, dB_v, dS_v, dL_s, cell_z, cell_s, nth_z, nth_s, aV_z, aV_s, aI_v, aB_v, aS_v, aL_f, aO_o, aX_b, tst_t, cond_true, cond_false, Ex.same, Nat.beq, List.length_cons, List.length_nil, Int.toNat_natCast, beqTT, beqTF, beqFT, beqFF, show decide ((0 : Int) > 0) = false from rfl]
    · have hm : x % 10 < 10 := Nat.mod_lt _ (by omega)
      have e1 : Int.tmod (x : Int) 10 = ((x % 10 : Nat) : Int) := by rw [Int.tmod_eq_emod_of_nonneg (by omega)]; omega
      have e2 : IntKind.i64.wrap (Int.tdiv (x : Int) 10) = ((x / 10 : Nat) : Int) := by
        rw [Int.tdiv_eq_ediv_of_nonneg (by omega), wrap_i64 (by omega) (by omega)]
        omega
      have e3 : IntKind.u8.wrap (IntKind.i64.wrap (48 + ((x % 10 : Nat) : Int))) = ((48 + x % 10 : Nat) : Int) := by
        rw [wrap_i64 (by omega) (by omega), wrap_u8 (by omega) (by omega)]
        omega
      simp only [l167x0s, e1, e2, e3]
      simp -implicitDefEqProofs only [cI, cB, cS, cL, oD_d, oG_g, oT_t, oP_p, dI_v, dB_v, dS_v, dL_s, cell_z, cell_s, nth_z, nth_s, aV_z, aV_s, aI_v, aB_v, aS_v, aL_f, aO_o, aX_b, tst_t, cond_true, cond_false, Ex.same, Nat.beq, List.length_cons, List.length_nil, Int.toNat_natCast, beqTT, beqTF, beqFT, beqFF, show decide ((x : Int) > 0) = true from decide_eq_true (by omega), show decide ((10 : Int) ≠ 0) = true from rfl, show decide ((10 : Nat) ≠ 0) = true from rfl, all_one, bytes_one]
      refine ev_tst (sz_le (by have h1 := one_size (48 + x % 10); simp only [maxLen]; omega)) ?_
      exact k
    · simp -implicitDefEqProofs only [cI, cB, cS, cL, oD_d, oG_g, oT_t, oP_p, dI_v, dB_v, dS_v, dL_s, cell_z, cell_s, nth_z, nth_s, aV_z, aV_s, aI_v, aB_v, aS_v, aL_f, aO_o, aX_b, tst_t, cond_true, cond_false, Ex.same, Nat.beq, List.length_cons, List.length_nil, Int.toNat_natCast, beqTT, beqTF, beqFT, beqFF]
      have hne : ¬ (x = 0) := by omega
      have hz : (⟨#[109]⟩ : ByteArray).size = 1 := rfl
      have hd := dg_size 20 x (by omega)
      have he : (⟨#[]⟩ : ByteArray) = ByteArray.empty := rfl
      simp only [hne, if_false, he, ByteArray.append_empty]
      refine ev_tst (sz_le (by rw [hz]; simp only [maxLen]; omega)) ?_
      refine Evt.ret' ?_
      have hk : ¬ ((x : Int) ≤ 0) := by omega
      simp only [mkText, hk, if_false, Int.toNat_natCast]
      rfl
/- loop.example/g00119/laws.markStringS -/
theorem f66 {l : Rows} (hl : SL E 9 l) (k : Int) (h0 : 0 ≤ k) (hk : k + (cnRows l : Nat) < K62) : Ev fs 66 [.d (.s 1 l), .d (.v (.int .i64 k))] ⟨.d (.v (.int .i64 (k + (cnRows l : Nat)))), [.d (.s 1 (mkRows l k))]⟩ := by
  refine Ev.of (af := a66) rfl rfl (Evt.congr (fun d n => a66q ..) ?_)
  refine ev_aft (L := fun d n => l66x0 (TabD fs d) d n [.o 1 l, .v (.int .i64 k), .v (.int .i64 0)]) (mark_loop (L := fun d n l k i => l66x0 (TabD fs d) d n [.o 1 l, .v (.int .i64 k), .v (.int .i64 i)]) (Y := fun l k => (.exit 0, [.o 1 l, .v (.int .i64 k)])) h0 hk (fun d n l' k' hl' => ?_) (fun pre x post k res hx hp k0 k1 hk => ?_)) ?_
  · rw [l66x0s]
    simp -implicitDefEqProofs only [cI, cB, cS, cL, oD_d, oG_g, oT_t, oP_p, dI_v, dB_v, dS_v, dL_s, cell_z, cell_s, nth_z, nth_s, aV_z, aV_s, aI_v, aB_v, aS_v, aL_f, aO_o, aX_b, tst_t, cond_true, cond_false, Ex.same, Nat.beq, List.length_cons, List.length_nil, Int.toNat_natCast, beqTT, beqTF, beqFT, beqFF, hl', Int.lt_irrefl, decide_false]
  · have h := hl.at hx
    have h' := h
    rw [E9] at h
    obtain ⟨sa0, ra0, rfl, pa0, h_a0⟩ := inv_s h
    cases inv_nil h_a0
    have hw : IntKind.i64.wrap ((pre.length : Int) + 1) = ((pre.length + 1 : Nat) : Int) := wrap_succ (m := l.length) (by omega) hl.1
    simp only [mkRow, mkV, cnRow, Nat.add_zero, Int.natCast_add, Int.cast_ofNat_Int, ← Int.add_assoc] at k1 hk
    simp only [l66x0s]
    simp -implicitDefEqProofs only [cI, cB, cS, cL, oD_d, oG_g, oT_t, oP_p, dI_v, dB_v, dS_v, dL_s, cell_z, cell_s, nth_z, nth_s, aV_z, aV_s, aI_v, aB_v, aS_v, aL_f, aO_o, aX_b, tst_t, cond_true, cond_false, Ex.same, Nat.beq, List.length_cons, List.length_nil, Int.toNat_natCast, beqTT, beqTF, beqFT, beqFF, mid_go, mid_ok, look_mid, set_mid, List.set_cons_zero, List.set_cons_succ, hw, tst3]
    try simp (disch := omega) only [wrap_k]
    refine ev_call (f167 _ (by omega) (by omega)) ?_
    simp -implicitDefEqProofs only [cI, cB, cS, cL, oD_d, oG_g, oT_t, oP_p, dI_v, dB_v, dS_v, dL_s, cell_z, cell_s, nth_z, nth_s, aV_z, aV_s, aI_v, aB_v, aS_v, aL_f, aO_o, aX_b, tst_t, cond_true, cond_false, Ex.same, Nat.beq, List.length_cons, List.length_nil, Int.toNat_natCast, beqTT, beqTF, beqFT, beqFF, mid_go, mid_ok, look_mid, set_mid, List.set_cons_zero, List.set_cons_succ, hw, tst3]
    try simp (disch := omega) only [wrap_k]
    try simp (disch := omega) only [wrap_v] at hk
    exact hk
  · simp -implicitDefEqProofs only [cI, cB, cS, cL, oD_d, oG_g, oT_t, oP_p, dI_v, dB_v, dS_v, dL_s, cell_z, cell_s, nth_z, nth_s, aV_z, aV_s, aI_v, aB_v, aS_v, aL_f, aO_o, aX_b, tst_t, cond_true, cond_false, Ex.same, Nat.beq, List.length_cons, List.length_nil, Int.toNat_natCast, beqTT, beqTF, beqFT, beqFF]
    exact Evt.ret
/- loop.example/g00119/laws.markTermS -/
theorem f168 {l : Rows} (hl : SL E 315 l) (k : Int) (h0 : 0 ≤ k) (hk : k + (cnRows l : Nat) < K62) : Ev fs 168 [.d (.s 3 l), .d (.v (.int .i64 k))] ⟨.d (.v (.int .i64 (k + (cnRows l : Nat)))), [.d (.s 3 (mkRows l k))]⟩ := by
  refine Ev.of (af := a168) rfl rfl (Evt.congr (fun d n => a168q ..) ?_)
  refine ev_aft (L := fun d n => l168x0 (TabD fs d) d n [.o 3 l, .v (.int .i64 k), .v (.int .i64 0)]) (mark_loop (L := fun d n l k i => l168x0 (TabD fs d) d n [.o 3 l, .v (.int .i64 k), .v (.int .i64 i)]) (Y := fun l k => (.exit 0, [.o 3 l, .v (.int .i64 k)])) h0 hk (fun d n l' k' hl' => ?_) (fun pre x post k res hx hp k0 k1 hk => ?_)) ?_
  · rw [l168x0s]
    simp -implicitDefEqProofs only [cI, cB, cS, cL, oD_d, oG_g, oT_t, oP_p, dI_v, dB_v, dS_v, dL_s, cell_z, cell_s, nth_z, nth_s, aV_z, aV_s, aI_v, aB_v, aS_v, aL_f, aO_o, aX_b, tst_t, cond_true, cond_false, Ex.same, Nat.beq, List.length_cons, List.length_nil, Int.toNat_natCast, beqTT, beqTF, beqFT, beqFF, hl', Int.lt_irrefl, decide_false]
  · have h := hl.at hx
    have h' := h
    rw [E315] at h
    obtain ⟨na0, ra0, rfl, pa0, h_a0⟩ := inv_i h
    obtain ⟨sa1, ra1, rfl, pa1, h_a1⟩ := inv_s h_a0
    obtain ⟨la2, ra2, rfl, pa2, h_a2⟩ := inv_sl W9 h_a1
    cases inv_nil h_a2
    have hw : IntKind.i64.wrap ((pre.length : Int) + 1) = ((pre.length + 1 : Nat) : Int) := wrap_succ (m := l.length) (by omega) hl.1
    simp only [mkRow, mkV, cnRow, Nat.add_zero, Int.natCast_add, Int.cast_ofNat_Int, ← Int.add_assoc] at k1 hk
    simp only [l168x0s]
    simp -implicitDefEqProofs only [cI, cB, cS, cL, oD_d, oG_g, oT_t, oP_p, dI_v, dB_v, dS_v, dL_s, cell_z, cell_s, nth_z, nth_s, aV_z, aV_s, aI_v, aB_v, aS_v, aL_f, aO_o, aX_b, tst_t, cond_true, cond_false, Ex.same, Nat.beq, List.length_cons, List.length_nil, Int.toNat_natCast, beqTT, beqTF, beqFT, beqFF, mid_go, mid_ok, look_mid, set_mid, List.set_cons_zero, List.set_cons_succ, hw, tst3]
    try simp (disch := omega) only [wrap_k]
    refine ev_call (f167 _ (by omega) (by omega)) ?_
    simp -implicitDefEqProofs only [cI, cB, cS, cL, oD_d, oG_g, oT_t, oP_p, dI_v, dB_v, dS_v, dL_s, cell_z, cell_s, nth_z, nth_s, aV_z, aV_s, aI_v, aB_v, aS_v, aL_f, aO_o, aX_b, tst_t, cond_true, cond_false, Ex.same, Nat.beq, List.length_cons, List.length_nil, Int.toNat_natCast, beqTT, beqTF, beqFT, beqFF, mid_go, mid_ok, look_mid, set_mid, List.set_cons_zero, List.set_cons_succ, hw, tst3]
    try simp (disch := omega) only [wrap_k]
    refine ev_call (f66 (by assumption) _ (by omega) (by omega)) ?_
    simp -implicitDefEqProofs only [cI, cB, cS, cL, oD_d, oG_g, oT_t, oP_p, dI_v, dB_v, dS_v, dL_s, cell_z, cell_s, nth_z, nth_s, aV_z, aV_s, aI_v, aB_v, aS_v, aL_f, aO_o, aX_b, tst_t, cond_true, cond_false, Ex.same, Nat.beq, List.length_cons, List.length_nil, Int.toNat_natCast, beqTT, beqTF, beqFT, beqFF, mid_go, mid_ok, look_mid, set_mid, List.set_cons_zero, List.set_cons_succ, hw, tst3]
    try simp (disch := omega) only [wrap_k]
    try simp (disch := omega) only [wrap_v] at hk
    exact hk
  · simp -implicitDefEqProofs only [cI, cB, cS, cL, oD_d, oG_g, oT_t, oP_p, dI_v, dB_v, dS_v, dL_s, cell_z, cell_s, nth_z, nth_s, aV_z, aV_s, aI_v, aB_v, aS_v, aL_f, aO_o, aX_b, tst_t, cond_true, cond_false, Ex.same, Nat.beq, List.length_cons, List.length_nil, Int.toNat_natCast, beqTT, beqTF, beqFT, beqFF]
    exact Evt.ret
/- loop.example/g00119/laws.markWeighS -/
theorem f169 {l : Rows} (hl : SL E 228 l) (k : Int) (h0 : 0 ≤ k) (hk : k + (cnRows l : Nat) < K62) : Ev fs 169 [.d (.s 2 l), .d (.v (.int .i64 k))] ⟨.d (.v (.int .i64 (k + (cnRows l : Nat)))), [.d (.s 2 (mkRows l k))]⟩ := by
  refine Ev.of (af := a169) rfl rfl (Evt.congr (fun d n => a169q ..) ?_)
  refine ev_aft (L := fun d n => l169x0 (TabD fs d) d n [.o 2 l, .v (.int .i64 k), .v (.int .i64 0)]) (mark_loop (L := fun d n l k i => l169x0 (TabD fs d) d n [.o 2 l, .v (.int .i64 k), .v (.int .i64 i)]) (Y := fun l k => (.exit 0, [.o 2 l, .v (.int .i64 k)])) h0 hk (fun d n l' k' hl' => ?_) (fun pre x post k res hx hp k0 k1 hk => ?_)) ?_
  · rw [l169x0s]
    simp -implicitDefEqProofs only [cI, cB, cS, cL, oD_d, oG_g, oT_t, oP_p, dI_v, dB_v, dS_v, dL_s, cell_z, cell_s, nth_z, nth_s, aV_z, aV_s, aI_v, aB_v, aS_v, aL_f, aO_o, aX_b, tst_t, cond_true, cond_false, Ex.same, Nat.beq, List.length_cons, List.length_nil, Int.toNat_natCast, beqTT, beqTF, beqFT, beqFF, hl', Int.lt_irrefl, decide_false]
  · have h := hl.at hx
    have h' := h
    rw [E228] at h
    obtain ⟨sa0, ra0, rfl, pa0, h_a0⟩ := inv_s h
    obtain ⟨na1, ra1, rfl, pa1, h_a1⟩ := inv_i h_a0
    cases inv_nil h_a1
    have hw : IntKind.i64.wrap ((pre.length : Int) + 1) = ((pre.length + 1 : Nat) : Int) := wrap_succ (m := l.length) (by omega) hl.1
    simp only [mkRow, mkV, cnRow, Nat.add_zero, Int.natCast_add, Int.cast_ofNat_Int, ← Int.add_assoc] at k1 hk
    simp only [l169x0s]
    simp -implicitDefEqProofs only [cI, cB, cS, cL, oD_d, oG_g, oT_t, oP_p, dI_v, dB_v, dS_v, dL_s, cell_z, cell_s, nth_z, nth_s, aV_z, aV_s, aI_v, aB_v, aS_v, aL_f, aO_o, aX_b, tst_t, cond_true, cond_false, Ex.same, Nat.beq, List.length_cons, List.length_nil, Int.toNat_natCast, beqTT, beqTF, beqFT, beqFF, mid_go, mid_ok, look_mid, set_mid, List.set_cons_zero, List.set_cons_succ, hw, tst3]
    try simp (disch := omega) only [wrap_k]
    refine ev_call (f167 _ (by omega) (by omega)) ?_
    simp -implicitDefEqProofs only [cI, cB, cS, cL, oD_d, oG_g, oT_t, oP_p, dI_v, dB_v, dS_v, dL_s, cell_z, cell_s, nth_z, nth_s, aV_z, aV_s, aI_v, aB_v, aS_v, aL_f, aO_o, aX_b, tst_t, cond_true, cond_false, Ex.same, Nat.beq, List.length_cons, List.length_nil, Int.toNat_natCast, beqTT, beqTF, beqFT, beqFF, mid_go, mid_ok, look_mid, set_mid, List.set_cons_zero, List.set_cons_succ, hw, tst3]
    try simp (disch := omega) only [wrap_k]
    try simp (disch := omega) only [wrap_v] at hk
    exact hk
  · simp -implicitDefEqProofs only [cI, cB, cS, cL, oD_d, oG_g, oT_t, oP_p, dI_v, dB_v, dS_v, dL_s, cell_z, cell_s, nth_z, nth_s, aV_z, aV_s, aI_v, aB_v, aS_v, aL_f, aO_o, aX_b, tst_t, cond_true, cond_false, Ex.same, Nat.beq, List.length_cons, List.length_nil, Int.toNat_natCast, beqTT, beqTF, beqFT, beqFF]
    exact Evt.ret
/- loop.example/g00119/laws.markValueS -/
theorem fr170 {l : Rows} (hl : SL E 64 l) (k : Int) (h0 : 0 ≤ k) (hk : k + (cnRows l : Nat) < K62) (W : Nat) (hW : 2 * (l.length + wtRows l) = W) : Ev fs 170 [.d (.s 5 l), .d (.v (.int .i64 k))] ⟨.d (.v (.int .i64 (k + (cnRows l : Nat)))), [.d (.s 5 (mkRows l k))]⟩ := by
  refine Ev.of (af := a170) rfl rfl (Evt.congr (fun d n => a170q ..) ?_)
  refine ev_aft (L := fun d n => l170x0 (TabD fs d) d n [.o 5 l, .v (.int .i64 k), .v (.int .i64 0)]) (mark_loop (L := fun d n l k i => l170x0 (TabD fs d) d n [.o 5 l, .v (.int .i64 k), .v (.int .i64 i)]) (Y := fun l k => (.exit 0, [.o 5 l, .v (.int .i64 k)])) h0 hk (fun d n l' k' hl' => ?_) (fun pre x post k res hx hp k0 k1 hk => ?_)) ?_
  · rw [l170x0s]
    simp -implicitDefEqProofs only [cI, cB, cS, cL, oD_d, oG_g, oT_t, oP_p, dI_v, dB_v, dS_v, dL_s, cell_z, cell_s, nth_z, nth_s, aV_z, aV_s, aI_v, aB_v, aS_v, aL_f, aO_o, aX_b, tst_t, cond_true, cond_false, Ex.same, Nat.beq, List.length_cons, List.length_nil, Int.toNat_natCast, beqTT, beqTF, beqFT, beqFF, hl', Int.lt_irrefl, decide_false]
  · have h := hl.at hx
    have h' := h
    rw [E64] at h
    obtain ⟨na0, ra0, rfl, pa0, h_a0⟩ := inv_i h
    obtain ⟨sa1, ra1, rfl, pa1, h_a1⟩ := inv_s h_a0
    obtain ⟨na2, ra2, rfl, pa2, h_a2⟩ := inv_i h_a1
    obtain ⟨la3, ra3, rfl, pa3, h_a3⟩ := inv_sl W9 h_a2
    obtain ⟨la4, ra4, rfl, pa4, h_a4⟩ := inv_sl W64 h_a3
    cases inv_nil h_a4
    have hw : IntKind.i64.wrap ((pre.length : Int) + 1) = ((pre.length + 1 : Nat) : Int) := wrap_succ (m := l.length) (by omega) hl.1
    simp only [mkRow, mkV, cnRow, Nat.add_zero, Int.natCast_add, Int.cast_ofNat_Int, ← Int.add_assoc] at k1 hk
    simp only [l170x0s]
    simp -implicitDefEqProofs only [cI, cB, cS, cL, oD_d, oG_g, oT_t, oP_p, dI_v, dB_v, dS_v, dL_s, cell_z, cell_s, nth_z, nth_s, aV_z, aV_s, aI_v, aB_v, aS_v, aL_f, aO_o, aX_b, tst_t, cond_true, cond_false, Ex.same, Nat.beq, List.length_cons, List.length_nil, Int.toNat_natCast, beqTT, beqTF, beqFT, beqFF, mid_go, mid_ok, look_mid, set_mid, List.set_cons_zero, List.set_cons_succ, hw, tst3]
    try simp (disch := omega) only [wrap_k]
    refine ev_call (f167 _ (by omega) (by omega)) ?_
    simp -implicitDefEqProofs only [cI, cB, cS, cL, oD_d, oG_g, oT_t, oP_p, dI_v, dB_v, dS_v, dL_s, cell_z, cell_s, nth_z, nth_s, aV_z, aV_s, aI_v, aB_v, aS_v, aL_f, aO_o, aX_b, tst_t, cond_true, cond_false, Ex.same, Nat.beq, List.length_cons, List.length_nil, Int.toNat_natCast, beqTT, beqTF, beqFT, beqFF, mid_go, mid_ok, look_mid, set_mid, List.set_cons_zero, List.set_cons_succ, hw, tst3]
    try simp (disch := omega) only [wrap_k]
    refine ev_call (f66 (by assumption) _ (by omega) (by omega)) ?_
    simp -implicitDefEqProofs only [cI, cB, cS, cL, oD_d, oG_g, oT_t, oP_p, dI_v, dB_v, dS_v, dL_s, cell_z, cell_s, nth_z, nth_s, aV_z, aV_s, aI_v, aB_v, aS_v, aL_f, aO_o, aX_b, tst_t, cond_true, cond_false, Ex.same, Nat.beq, List.length_cons, List.length_nil, Int.toNat_natCast, beqTT, beqTF, beqFT, beqFF, mid_go, mid_ok, look_mid, set_mid, List.set_cons_zero, List.set_cons_succ, hw, tst3]
    try simp (disch := omega) only [wrap_k]
    refine ev_call (fr170 (by assumption) _ (by omega) (by omega) _ rfl) ?_
    simp -implicitDefEqProofs only [cI, cB, cS, cL, oD_d, oG_g, oT_t, oP_p, dI_v, dB_v, dS_v, dL_s, cell_z, cell_s, nth_z, nth_s, aV_z, aV_s, aI_v, aB_v, aS_v, aL_f, aO_o, aX_b, tst_t, cond_true, cond_false, Ex.same, Nat.beq, List.length_cons, List.length_nil, Int.toNat_natCast, beqTT, beqTF, beqFT, beqFF, mid_go, mid_ok, look_mid, set_mid, List.set_cons_zero, List.set_cons_succ, hw, tst3]
    try simp (disch := omega) only [wrap_k]
    try simp (disch := omega) only [wrap_v] at hk
    exact hk
  · simp -implicitDefEqProofs only [cI, cB, cS, cL, oD_d, oG_g, oT_t, oP_p, dI_v, dB_v, dS_v, dL_s, cell_z, cell_s, nth_z, nth_s, aV_z, aV_s, aI_v, aB_v, aS_v, aL_f, aO_o, aX_b, tst_t, cond_true, cond_false, Ex.same, Nat.beq, List.length_cons, List.length_nil, Int.toNat_natCast, beqTT, beqTF, beqFT, beqFF]
    exact Evt.ret
termination_by W
decreasing_by all_goals (try have := wt_at hx); (try simp only [wtRow, wtD] at *); omega
theorem f170 {l : Rows} (hl : SL E 64 l) (k : Int) (h0 : 0 ≤ k) (hk : k + (cnRows l : Nat) < K62) : Ev fs 170 [.d (.s 5 l), .d (.v (.int .i64 k))] ⟨.d (.v (.int .i64 (k + (cnRows l : Nat)))), [.d (.s 5 (mkRows l k))]⟩ := fr170 hl k h0 hk _ rfl
/- loop.example/g00119/laws.markOpS -/
theorem f274 {l : Rows} (hl : SL E 329 l) (k : Int) (h0 : 0 ≤ k) (hk : k + (cnRows l : Nat) < K62) : Ev fs 274 [.d (.s 7 l), .d (.v (.int .i64 k))] ⟨.d (.v (.int .i64 (k + (cnRows l : Nat)))), [.d (.s 7 (mkRows l k))]⟩ := by
  refine Ev.of (af := a274) rfl rfl (Evt.congr (fun d n => a274q ..) ?_)
  refine ev_aft (L := fun d n => l274x0 (TabD fs d) d n [.o 7 l, .v (.int .i64 k), .v (.int .i64 0)]) (mark_loop (L := fun d n l k i => l274x0 (TabD fs d) d n [.o 7 l, .v (.int .i64 k), .v (.int .i64 i)]) (Y := fun l k => (.exit 0, [.o 7 l, .v (.int .i64 k)])) h0 hk (fun d n l' k' hl' => ?_) (fun pre x post k res hx hp k0 k1 hk => ?_)) ?_
  · rw [l274x0s]
    simp -implicitDefEqProofs only [cI, cB, cS, cL, oD_d, oG_g, oT_t, oP_p, dI_v, dB_v, dS_v, dL_s, cell_z, cell_s, nth_z, nth_s, aV_z, aV_s, aI_v, aB_v, aS_v, aL_f, aO_o, aX_b, tst_t, cond_true, cond_false, Ex.same, Nat.beq, List.length_cons, List.length_nil, Int.toNat_natCast, beqTT, beqTF, beqFT, beqFF, hl', Int.lt_irrefl, decide_false]
  · have h := hl.at hx
    have h' := h
    rw [E329] at h
    obtain ⟨na0, ra0, rfl, pa0, h_a0⟩ := inv_i h
    obtain ⟨la1, ra1, rfl, pa1, h_a1⟩ := inv_sl W9 h_a0
    obtain ⟨na2, ra2, rfl, pa2, h_a2⟩ := inv_i h_a1
    obtain ⟨sa3, ra3, rfl, pa3, h_a3⟩ := inv_s h_a2
    obtain ⟨na4, ra4, rfl, pa4, h_a4⟩ := inv_i h_a3
    obtain ⟨la5, ra5, rfl, pa5, h_a5⟩ := inv_sl W9 h_a4
    obtain ⟨la6, ra6, rfl, pa6, h_a6⟩ := inv_sl W64 h_a5
    cases inv_nil h_a6
    have hw : IntKind.i64.wrap ((pre.length : Int) + 1) = ((pre.length + 1 : Nat) : Int) := wrap_succ (m := l.length) (by omega) hl.1
    simp only [mkRow, mkV, cnRow, Nat.add_zero, Int.natCast_add, Int.cast_ofNat_Int, ← Int.add_assoc] at k1 hk
    simp only [l274x0s]
    simp -implicitDefEqProofs only [cI, cB, cS, cL, oD_d, oG_g, oT_t, oP_p, dI_v, dB_v, dS_v, dL_s, cell_z, cell_s, nth_z, nth_s, aV_z, aV_s, aI_v, aB_v, aS_v, aL_f, aO_o, aX_b, tst_t, cond_true, cond_false, Ex.same, Nat.beq, List.length_cons, List.length_nil, Int.toNat_natCast, beqTT, beqTF, beqFT, beqFF, mid_go, mid_ok, look_mid, set_mid, List.set_cons_zero, List.set_cons_succ, hw, tst3]
    try simp (disch := omega) only [wrap_k]
    refine ev_call (f66 (by assumption) _ (by omega) (by omega)) ?_
    simp -implicitDefEqProofs only [cI, cB, cS, cL, oD_d, oG_g, oT_t, oP_p, dI_v, dB_v, dS_v, dL_s, cell_z, cell_s, nth_z, nth_s, aV_z, aV_s, aI_v, aB_v, aS_v, aL_f, aO_o, aX_b, tst_t, cond_true, cond_false, Ex.same, Nat.beq, List.length_cons, List.length_nil, Int.toNat_natCast, beqTT, beqTF, beqFT, beqFF, mid_go, mid_ok, look_mid, set_mid, List.set_cons_zero, List.set_cons_succ, hw, tst3]
    try simp (disch := omega) only [wrap_k]
    refine ev_call (f167 _ (by omega) (by omega)) ?_
    simp -implicitDefEqProofs only [cI, cB, cS, cL, oD_d, oG_g, oT_t, oP_p, dI_v, dB_v, dS_v, dL_s, cell_z, cell_s, nth_z, nth_s, aV_z, aV_s, aI_v, aB_v, aS_v, aL_f, aO_o, aX_b, tst_t, cond_true, cond_false, Ex.same, Nat.beq, List.length_cons, List.length_nil, Int.toNat_natCast, beqTT, beqTF, beqFT, beqFF, mid_go, mid_ok, look_mid, set_mid, List.set_cons_zero, List.set_cons_succ, hw, tst3]
    try simp (disch := omega) only [wrap_k]
    refine ev_call (f66 (by assumption) _ (by omega) (by omega)) ?_
    simp -implicitDefEqProofs only [cI, cB, cS, cL, oD_d, oG_g, oT_t, oP_p, dI_v, dB_v, dS_v, dL_s, cell_z, cell_s, nth_z, nth_s, aV_z, aV_s, aI_v, aB_v, aS_v, aL_f, aO_o, aX_b, tst_t, cond_true, cond_false, Ex.same, Nat.beq, List.length_cons, List.length_nil, Int.toNat_natCast, beqTT, beqTF, beqFT, beqFF, mid_go, mid_ok, look_mid, set_mid, List.set_cons_zero, List.set_cons_succ, hw, tst3]
    try simp (disch := omega) only [wrap_k]
    refine ev_call (f170 (by assumption) _ (by omega) (by omega)) ?_
    simp -implicitDefEqProofs only [cI, cB, cS, cL, oD_d, oG_g, oT_t, oP_p, dI_v, dB_v, dS_v, dL_s, cell_z, cell_s, nth_z, nth_s, aV_z, aV_s, aI_v, aB_v, aS_v, aL_f, aO_o, aX_b, tst_t, cond_true, cond_false, Ex.same, Nat.beq, List.length_cons, List.length_nil, Int.toNat_natCast, beqTT, beqTF, beqFT, beqFF, mid_go, mid_ok, look_mid, set_mid, List.set_cons_zero, List.set_cons_succ, hw, tst3]
    try simp (disch := omega) only [wrap_k]
    try simp (disch := omega) only [wrap_v] at hk
    exact hk
  · simp -implicitDefEqProofs only [cI, cB, cS, cL, oD_d, oG_g, oT_t, oP_p, dI_v, dB_v, dS_v, dL_s, cell_z, cell_s, nth_z, nth_s, aV_z, aV_s, aI_v, aB_v, aS_v, aL_f, aO_o, aX_b, tst_t, cond_true, cond_false, Ex.same, Nat.beq, List.length_cons, List.length_nil, Int.toNat_natCast, beqTT, beqTF, beqFT, beqFF]
    exact Evt.ret
/- loop.example/g00119/laws.markOverS -/
theorem f171 {l : Rows} (hl : SL E 235 l) (k : Int) (h0 : 0 ≤ k) (hk : k + (cnRows l : Nat) < K62) : Ev fs 171 [.d (.s 2 l), .d (.v (.int .i64 k))] ⟨.d (.v (.int .i64 (k + (cnRows l : Nat)))), [.d (.s 2 (mkRows l k))]⟩ := by
  refine Ev.of (af := a171) rfl rfl (Evt.congr (fun d n => a171q ..) ?_)
  refine ev_aft (L := fun d n => l171x0 (TabD fs d) d n [.o 2 l, .v (.int .i64 k), .v (.int .i64 0)]) (mark_loop (L := fun d n l k i => l171x0 (TabD fs d) d n [.o 2 l, .v (.int .i64 k), .v (.int .i64 i)]) (Y := fun l k => (.exit 0, [.o 2 l, .v (.int .i64 k)])) h0 hk (fun d n l' k' hl' => ?_) (fun pre x post k res hx hp k0 k1 hk => ?_)) ?_
  · rw [l171x0s]
    simp -implicitDefEqProofs only [cI, cB, cS, cL, oD_d, oG_g, oT_t, oP_p, dI_v, dB_v, dS_v, dL_s, cell_z, cell_s, nth_z, nth_s, aV_z, aV_s, aI_v, aB_v, aS_v, aL_f, aO_o, aX_b, tst_t, cond_true, cond_false, Ex.same, Nat.beq, List.length_cons, List.length_nil, Int.toNat_natCast, beqTT, beqTF, beqFT, beqFF, hl', Int.lt_irrefl, decide_false]
  · have h := hl.at hx
    have h' := h
    rw [E235] at h
    obtain ⟨sa0, ra0, rfl, pa0, h_a0⟩ := inv_s h
    obtain ⟨la1, ra1, rfl, pa1, h_a1⟩ := inv_sl W329 h_a0
    cases inv_nil h_a1
    have hw : IntKind.i64.wrap ((pre.length : Int) + 1) = ((pre.length + 1 : Nat) : Int) := wrap_succ (m := l.length) (by omega) hl.1
    simp only [mkRow, mkV, cnRow, Nat.add_zero, Int.natCast_add, Int.cast_ofNat_Int, ← Int.add_assoc] at k1 hk
    simp only [l171x0s]
    simp -implicitDefEqProofs only [cI, cB, cS, cL, oD_d, oG_g, oT_t, oP_p, dI_v, dB_v, dS_v, dL_s, cell_z, cell_s, nth_z, nth_s, aV_z, aV_s, aI_v, aB_v, aS_v, aL_f, aO_o, aX_b, tst_t, cond_true, cond_false, Ex.same, Nat.beq, List.length_cons, List.length_nil, Int.toNat_natCast, beqTT, beqTF, beqFT, beqFF, mid_go, mid_ok, look_mid, set_mid, List.set_cons_zero, List.set_cons_succ, hw, tst3]
    try simp (disch := omega) only [wrap_k]
    refine ev_call (f167 _ (by omega) (by omega)) ?_
    simp -implicitDefEqProofs only [cI, cB, cS, cL, oD_d, oG_g, oT_t, oP_p, dI_v, dB_v, dS_v, dL_s, cell_z, cell_s, nth_z, nth_s, aV_z, aV_s, aI_v, aB_v, aS_v, aL_f, aO_o, aX_b, tst_t, cond_true, cond_false, Ex.same, Nat.beq, List.length_cons, List.length_nil, Int.toNat_natCast, beqTT, beqTF, beqFT, beqFF, mid_go, mid_ok, look_mid, set_mid, List.set_cons_zero, List.set_cons_succ, hw, tst3]
    try simp (disch := omega) only [wrap_k]
    refine ev_call (f274 (by assumption) _ (by omega) (by omega)) ?_
    simp -implicitDefEqProofs only [cI, cB, cS, cL, oD_d, oG_g, oT_t, oP_p, dI_v, dB_v, dS_v, dL_s, cell_z, cell_s, nth_z, nth_s, aV_z, aV_s, aI_v, aB_v, aS_v, aL_f, aO_o, aX_b, tst_t, cond_true, cond_false, Ex.same, Nat.beq, List.length_cons, List.length_nil, Int.toNat_natCast, beqTT, beqTF, beqFT, beqFF, mid_go, mid_ok, look_mid, set_mid, List.set_cons_zero, List.set_cons_succ, hw, tst3]
    try simp (disch := omega) only [wrap_k]
    try simp (disch := omega) only [wrap_v] at hk
    exact hk
  · simp -implicitDefEqProofs only [cI, cB, cS, cL, oD_d, oG_g, oT_t, oP_p, dI_v, dB_v, dS_v, dL_s, cell_z, cell_s, nth_z, nth_s, aV_z, aV_s, aI_v, aB_v, aS_v, aL_f, aO_o, aX_b, tst_t, cond_true, cond_false, Ex.same, Nat.beq, List.length_cons, List.length_nil, Int.toNat_natCast, beqTT, beqTF, beqFT, beqFF]
    exact Evt.ret
/- loop.example/g00119/laws.markJobS -/
theorem f63 {l : Rows} (hl : SL E 101 l) (k : Int) (h0 : 0 ≤ k) (hk : k + (cnRows l : Nat) < K62) : Ev fs 63 [.d (.s 13 l), .d (.v (.int .i64 k))] ⟨.d (.v (.int .i64 (k + (cnRows l : Nat)))), [.d (.s 13 (mkRows l k))]⟩ := by
  refine Ev.of (af := a63) rfl rfl (Evt.congr (fun d n => a63q ..) ?_)
  refine ev_aft (L := fun d n => l63x0 (TabD fs d) d n [.o 13 l, .v (.int .i64 k), .v (.int .i64 0)]) (mark_loop (L := fun d n l k i => l63x0 (TabD fs d) d n [.o 13 l, .v (.int .i64 k), .v (.int .i64 i)]) (Y := fun l k => (.exit 0, [.o 13 l, .v (.int .i64 k)])) h0 hk (fun d n l' k' hl' => ?_) (fun pre x post k res hx hp k0 k1 hk => ?_)) ?_
  · rw [l63x0s]
    simp -implicitDefEqProofs only [cI, cB, cS, cL, oD_d, oG_g, oT_t, oP_p, dI_v, dB_v, dS_v, dL_s, cell_z, cell_s, nth_z, nth_s, aV_z, aV_s, aI_v, aB_v, aS_v, aL_f, aO_o, aX_b, tst_t, cond_true, cond_false, Ex.same, Nat.beq, List.length_cons, List.length_nil, Int.toNat_natCast, beqTT, beqTF, beqFT, beqFF, hl', Int.lt_irrefl, decide_false]
  · have h := hl.at hx
    have h' := h
    rw [E101] at h
    obtain ⟨na0, ra0, rfl, pa0, h_a0⟩ := inv_i h
    obtain ⟨sa1, ra1, rfl, pa1, h_a1⟩ := inv_s h_a0
    obtain ⟨na2, ra2, rfl, pa2, h_a2⟩ := inv_i h_a1
    obtain ⟨la3, ra3, rfl, pa3, h_a3⟩ := inv_sl W315 h_a2
    obtain ⟨la4, ra4, rfl, pa4, h_a4⟩ := inv_sl W9 h_a3
    obtain ⟨la5, ra5, rfl, pa5, h_a5⟩ := inv_sl W228 h_a4
    obtain ⟨na6, ra6, rfl, pa6, h_a6⟩ := inv_i h_a5
    obtain ⟨sa7, ra7, rfl, pa7, h_a7⟩ := inv_s h_a6
    obtain ⟨na8, ra8, rfl, pa8, h_a8⟩ := inv_i h_a7
    obtain ⟨la9, ra9, rfl, pa9, h_a9⟩ := inv_sl W9 h_a8
    obtain ⟨la10, ra10, rfl, pa10, h_a10⟩ := inv_sl W64 h_a9
    obtain ⟨la11, ra11, rfl, pa11, h_a11⟩ := inv_sl W235 h_a10
    obtain ⟨ba12, ra12, rfl, h_a12⟩ := inv_b h_a11
    cases inv_nil h_a12
    have hw : IntKind.i64.wrap ((pre.length : Int) + 1) = ((pre.length + 1 : Nat) : Int) := wrap_succ (m := l.length) (by omega) hl.1
    simp only [mkRow, mkV, cnRow, Nat.add_zero, Int.natCast_add, Int.cast_ofNat_Int, ← Int.add_assoc] at k1 hk
    simp only [l63x0s]
    simp -implicitDefEqProofs only [cI, cB, cS, cL, oD_d, oG_g, oT_t, oP_p, dI_v, dB_v, dS_v, dL_s, cell_z, cell_s, nth_z, nth_s, aV_z, aV_s, aI_v, aB_v, aS_v, aL_f, aO_o, aX_b, tst_t, cond_true, cond_false, Ex.same, Nat.beq, List.length_cons, List.length_nil, Int.toNat_natCast, beqTT, beqTF, beqFT, beqFF, mid_go, mid_ok, look_mid, set_mid, List.set_cons_zero, List.set_cons_succ, hw, tst3]
    try simp (disch := omega) only [wrap_k]
    refine ev_call (f167 _ (by omega) (by omega)) ?_
    simp -implicitDefEqProofs only [cI, cB, cS, cL, oD_d, oG_g, oT_t, oP_p, dI_v, dB_v, dS_v, dL_s, cell_z, cell_s, nth_z, nth_s, aV_z, aV_s, aI_v, aB_v, aS_v, aL_f, aO_o, aX_b, tst_t, cond_true, cond_false, Ex.same, Nat.beq, List.length_cons, List.length_nil, Int.toNat_natCast, beqTT, beqTF, beqFT, beqFF, mid_go, mid_ok, look_mid, set_mid, List.set_cons_zero, List.set_cons_succ, hw, tst3]
    try simp (disch := omega) only [wrap_k]
    refine ev_call (f168 (by assumption) _ (by omega) (by omega)) ?_
    simp -implicitDefEqProofs only [cI, cB, cS, cL, oD_d, oG_g, oT_t, oP_p, dI_v, dB_v, dS_v, dL_s, cell_z, cell_s, nth_z, nth_s, aV_z, aV_s, aI_v, aB_v, aS_v, aL_f, aO_o, aX_b, tst_t, cond_true, cond_false, Ex.same, Nat.beq, List.length_cons, List.length_nil, Int.toNat_natCast, beqTT, beqTF, beqFT, beqFF, mid_go, mid_ok, look_mid, set_mid, List.set_cons_zero, List.set_cons_succ, hw, tst3]
    try simp (disch := omega) only [wrap_k]
    refine ev_call (f66 (by assumption) _ (by omega) (by omega)) ?_
    simp -implicitDefEqProofs only [cI, cB, cS, cL, oD_d, oG_g, oT_t, oP_p, dI_v, dB_v, dS_v, dL_s, cell_z, cell_s, nth_z, nth_s, aV_z, aV_s, aI_v, aB_v, aS_v, aL_f, aO_o, aX_b, tst_t, cond_true, cond_false, Ex.same, Nat.beq, List.length_cons, List.length_nil, Int.toNat_natCast, beqTT, beqTF, beqFT, beqFF, mid_go, mid_ok, look_mid, set_mid, List.set_cons_zero, List.set_cons_succ, hw, tst3]
    try simp (disch := omega) only [wrap_k]
    refine ev_call (f169 (by assumption) _ (by omega) (by omega)) ?_
    simp -implicitDefEqProofs only [cI, cB, cS, cL, oD_d, oG_g, oT_t, oP_p, dI_v, dB_v, dS_v, dL_s, cell_z, cell_s, nth_z, nth_s, aV_z, aV_s, aI_v, aB_v, aS_v, aL_f, aO_o, aX_b, tst_t, cond_true, cond_false, Ex.same, Nat.beq, List.length_cons, List.length_nil, Int.toNat_natCast, beqTT, beqTF, beqFT, beqFF, mid_go, mid_ok, look_mid, set_mid, List.set_cons_zero, List.set_cons_succ, hw, tst3]
    try simp (disch := omega) only [wrap_k]
    refine ev_call (f167 _ (by omega) (by omega)) ?_
    simp -implicitDefEqProofs only [cI, cB, cS, cL, oD_d, oG_g, oT_t, oP_p, dI_v, dB_v, dS_v, dL_s, cell_z, cell_s, nth_z, nth_s, aV_z, aV_s, aI_v, aB_v, aS_v, aL_f, aO_o, aX_b, tst_t, cond_true, cond_false, Ex.same, Nat.beq, List.length_cons, List.length_nil, Int.toNat_natCast, beqTT, beqTF, beqFT, beqFF, mid_go, mid_ok, look_mid, set_mid, List.set_cons_zero, List.set_cons_succ, hw, tst3]
    try simp (disch := omega) only [wrap_k]
    refine ev_call (f66 (by assumption) _ (by omega) (by omega)) ?_
    simp -implicitDefEqProofs only [cI, cB, cS, cL, oD_d, oG_g, oT_t, oP_p, dI_v, dB_v, dS_v, dL_s, cell_z, cell_s, nth_z, nth_s, aV_z, aV_s, aI_v, aB_v, aS_v, aL_f, aO_o, aX_b, tst_t, cond_true, cond_false, Ex.same, Nat.beq, List.length_cons, List.length_nil, Int.toNat_natCast, beqTT, beqTF, beqFT, beqFF, mid_go, mid_ok, look_mid, set_mid, List.set_cons_zero, List.set_cons_succ, hw, tst3]
    try simp (disch := omega) only [wrap_k]
    refine ev_call (f170 (by assumption) _ (by omega) (by omega)) ?_
    simp -implicitDefEqProofs only [cI, cB, cS, cL, oD_d, oG_g, oT_t, oP_p, dI_v, dB_v, dS_v, dL_s, cell_z, cell_s, nth_z, nth_s, aV_z, aV_s, aI_v, aB_v, aS_v, aL_f, aO_o, aX_b, tst_t, cond_true, cond_false, Ex.same, Nat.beq, List.length_cons, List.length_nil, Int.toNat_natCast, beqTT, beqTF, beqFT, beqFF, mid_go, mid_ok, look_mid, set_mid, List.set_cons_zero, List.set_cons_succ, hw, tst3]
    try simp (disch := omega) only [wrap_k]
    refine ev_call (f171 (by assumption) _ (by omega) (by omega)) ?_
    simp -implicitDefEqProofs only [cI, cB, cS, cL, oD_d, oG_g, oT_t, oP_p, dI_v, dB_v, dS_v, dL_s, cell_z, cell_s, nth_z, nth_s, aV_z, aV_s, aI_v, aB_v, aS_v, aL_f, aO_o, aX_b, tst_t, cond_true, cond_false, Ex.same, Nat.beq, List.length_cons, List.length_nil, Int.toNat_natCast, beqTT, beqTF, beqFT, beqFF, mid_go, mid_ok, look_mid, set_mid, List.set_cons_zero, List.set_cons_succ, hw, tst3]
    try simp (disch := omega) only [wrap_k]
    try simp (disch := omega) only [wrap_v] at hk
    exact hk
  · simp -implicitDefEqProofs only [cI, cB, cS, cL, oD_d, oG_g, oT_t, oP_p, dI_v, dB_v, dS_v, dL_s, cell_z, cell_s, nth_z, nth_s, aV_z, aV_s, aI_v, aB_v, aS_v, aL_f, aO_o, aX_b, tst_t, cond_true, cond_false, Ex.same, Nat.beq, List.length_cons, List.length_nil, Int.toNat_natCast, beqTT, beqTF, beqFT, beqFF]
    exact Evt.ret
/- loop.example/g00119/laws.markLabelS -/
theorem f172 {l : Rows} (hl : SL E 299 l) (k : Int) (h0 : 0 ≤ k) (hk : k + (cnRows l : Nat) < K62) : Ev fs 172 [.d (.s 2 l), .d (.v (.int .i64 k))] ⟨.d (.v (.int .i64 (k + (cnRows l : Nat)))), [.d (.s 2 (mkRows l k))]⟩ := by
  refine Ev.of (af := a172) rfl rfl (Evt.congr (fun d n => a172q ..) ?_)
  refine ev_aft (L := fun d n => l172x0 (TabD fs d) d n [.o 2 l, .v (.int .i64 k), .v (.int .i64 0)]) (mark_loop (L := fun d n l k i => l172x0 (TabD fs d) d n [.o 2 l, .v (.int .i64 k), .v (.int .i64 i)]) (Y := fun l k => (.exit 0, [.o 2 l, .v (.int .i64 k)])) h0 hk (fun d n l' k' hl' => ?_) (fun pre x post k res hx hp k0 k1 hk => ?_)) ?_
  · rw [l172x0s]
    simp -implicitDefEqProofs only [cI, cB, cS, cL, oD_d, oG_g, oT_t, oP_p, dI_v, dB_v, dS_v, dL_s, cell_z, cell_s, nth_z, nth_s, aV_z, aV_s, aI_v, aB_v, aS_v, aL_f, aO_o, aX_b, tst_t, cond_true, cond_false, Ex.same, Nat.beq, List.length_cons, List.length_nil, Int.toNat_natCast, beqTT, beqTF, beqFT, beqFF, hl', Int.lt_irrefl, decide_false]
  · have h := hl.at hx
    have h' := h
    rw [E299] at h
    obtain ⟨sa0, ra0, rfl, pa0, h_a0⟩ := inv_s h
    obtain ⟨sa1, ra1, rfl, pa1, h_a1⟩ := inv_s h_a0
    cases inv_nil h_a1
    have hw : IntKind.i64.wrap ((pre.length : Int) + 1) = ((pre.length + 1 : Nat) : Int) := wrap_succ (m := l.length) (by omega) hl.1
    simp only [mkRow, mkV, cnRow, Nat.add_zero, Int.natCast_add, Int.cast_ofNat_Int, ← Int.add_assoc] at k1 hk
    simp only [l172x0s]
    simp -implicitDefEqProofs only [cI, cB, cS, cL, oD_d, oG_g, oT_t, oP_p, dI_v, dB_v, dS_v, dL_s, cell_z, cell_s, nth_z, nth_s, aV_z, aV_s, aI_v, aB_v, aS_v, aL_f, aO_o, aX_b, tst_t, cond_true, cond_false, Ex.same, Nat.beq, List.length_cons, List.length_nil, Int.toNat_natCast, beqTT, beqTF, beqFT, beqFF, mid_go, mid_ok, look_mid, set_mid, List.set_cons_zero, List.set_cons_succ, hw, tst3]
    try simp (disch := omega) only [wrap_k]
    refine ev_call (f167 _ (by omega) (by omega)) ?_
    simp -implicitDefEqProofs only [cI, cB, cS, cL, oD_d, oG_g, oT_t, oP_p, dI_v, dB_v, dS_v, dL_s, cell_z, cell_s, nth_z, nth_s, aV_z, aV_s, aI_v, aB_v, aS_v, aL_f, aO_o, aX_b, tst_t, cond_true, cond_false, Ex.same, Nat.beq, List.length_cons, List.length_nil, Int.toNat_natCast, beqTT, beqTF, beqFT, beqFF, mid_go, mid_ok, look_mid, set_mid, List.set_cons_zero, List.set_cons_succ, hw, tst3]
    try simp (disch := omega) only [wrap_k]
    refine ev_call (f167 _ (by omega) (by omega)) ?_
    simp -implicitDefEqProofs only [cI, cB, cS, cL, oD_d, oG_g, oT_t, oP_p, dI_v, dB_v, dS_v, dL_s, cell_z, cell_s, nth_z, nth_s, aV_z, aV_s, aI_v, aB_v, aS_v, aL_f, aO_o, aX_b, tst_t, cond_true, cond_false, Ex.same, Nat.beq, List.length_cons, List.length_nil, Int.toNat_natCast, beqTT, beqTF, beqFT, beqFF, mid_go, mid_ok, look_mid, set_mid, List.set_cons_zero, List.set_cons_succ, hw, tst3]
    try simp (disch := omega) only [wrap_k]
    try simp (disch := omega) only [wrap_v] at hk
    exact hk
  · simp -implicitDefEqProofs only [cI, cB, cS, cL, oD_d, oG_g, oT_t, oP_p, dI_v, dB_v, dS_v, dL_s, cell_z, cell_s, nth_z, nth_s, aV_z, aV_s, aI_v, aB_v, aS_v, aL_f, aO_o, aX_b, tst_t, cond_true, cond_false, Ex.same, Nat.beq, List.length_cons, List.length_nil, Int.toNat_natCast, beqTT, beqTF, beqFT, beqFF]
    exact Evt.ret
/- loop.example/g00119/laws.markPostS -/
theorem f64 {l : Rows} (hl : SL E 114 l) (k : Int) (h0 : 0 ≤ k) (hk : k + (cnRows l : Nat) < K62) : Ev fs 64 [.d (.s 6 l), .d (.v (.int .i64 k))] ⟨.d (.v (.int .i64 (k + (cnRows l : Nat)))), [.d (.s 6 (mkRows l k))]⟩ := by
  refine Ev.of (af := a64) rfl rfl (Evt.congr (fun d n => a64q ..) ?_)
  refine ev_aft (L := fun d n => l64x0 (TabD fs d) d n [.o 6 l, .v (.int .i64 k), .v (.int .i64 0)]) (mark_loop (L := fun d n l k i => l64x0 (TabD fs d) d n [.o 6 l, .v (.int .i64 k), .v (.int .i64 i)]) (Y := fun l k => (.exit 0, [.o 6 l, .v (.int .i64 k)])) h0 hk (fun d n l' k' hl' => ?_) (fun pre x post k res hx hp k0 k1 hk => ?_)) ?_
  · rw [l64x0s]
    simp -implicitDefEqProofs only [cI, cB, cS, cL, oD_d, oG_g, oT_t, oP_p, dI_v, dB_v, dS_v, dL_s, cell_z, cell_s, nth_z, nth_s, aV_z, aV_s, aI_v, aB_v, aS_v, aL_f, aO_o, aX_b, tst_t, cond_true, cond_false, Ex.same, Nat.beq, List.length_cons, List.length_nil, Int.toNat_natCast, beqTT, beqTF, beqFT, beqFF, hl', Int.lt_irrefl, decide_false]
  · have h := hl.at hx
    have h' := h
    rw [E114] at h
    obtain ⟨sa0, ra0, rfl, pa0, h_a0⟩ := inv_s h
    obtain ⟨la1, ra1, rfl, pa1, h_a1⟩ := inv_sl W299 h_a0
    obtain ⟨la2, ra2, rfl, pa2, h_a2⟩ := inv_sl W9 h_a1
    obtain ⟨na3, ra3, rfl, pa3, h_a3⟩ := inv_i h_a2
    obtain ⟨na4, ra4, rfl, pa4, h_a4⟩ := inv_i h_a3
    obtain ⟨na5, ra5, rfl, pa5, h_a5⟩ := inv_i h_a4
    cases inv_nil h_a5
    have hw : IntKind.i64.wrap ((pre.length : Int) + 1) = ((pre.length + 1 : Nat) : Int) := wrap_succ (m := l.length) (by omega) hl.1
    simp only [mkRow, mkV, cnRow, Nat.add_zero, Int.natCast_add, Int.cast_ofNat_Int, ← Int.add_assoc] at k1 hk
    simp only [l64x0s]
    simp -implicitDefEqProofs only [cI, cB, cS, cL, oD_d, oG_g, oT_t, oP_p, dI_v, dB_v, dS_v, dL_s, cell_z, cell_s, nth_z, nth_s, aV_z, aV_s, aI_v, aB_v, aS_v, aL_f, aO_o, aX_b, tst_t, cond_true, cond_false, Ex.same, Nat.beq, List.length_cons, List.length_nil, Int.toNat_natCast, beqTT, beqTF, beqFT, beqFF, mid_go, mid_ok, look_mid, set_mid, List.set_cons_zero, List.set_cons_succ, hw, tst3]
    try simp (disch := omega) only [wrap_k]
    refine ev_call (f167 _ (by omega) (by omega)) ?_
    simp -implicitDefEqProofs only [cI, cB, cS, cL, oD_d, oG_g, oT_t, oP_p, dI_v, dB_v, dS_v, dL_s, cell_z, cell_s, nth_z, nth_s, aV_z, aV_s, aI_v, aB_v, aS_v, aL_f, aO_o, aX_b, tst_t, cond_true, cond_false, Ex.same, Nat.beq, List.length_cons, List.length_nil, Int.toNat_natCast, beqTT, beqTF, beqFT, beqFF, mid_go, mid_ok, look_mid, set_mid, List.set_cons_zero, List.set_cons_succ, hw, tst3]
    try simp (disch := omega) only [wrap_k]
    refine ev_call (f172 (by assumption) _ (by omega) (by omega)) ?_
    simp -implicitDefEqProofs only [cI, cB, cS, cL, oD_d, oG_g, oT_t, oP_p, dI_v, dB_v, dS_v, dL_s, cell_z, cell_s, nth_z, nth_s, aV_z, aV_s, aI_v, aB_v, aS_v, aL_f, aO_o, aX_b, tst_t, cond_true, cond_false, Ex.same, Nat.beq, List.length_cons, List.length_nil, Int.toNat_natCast, beqTT, beqTF, beqFT, beqFF, mid_go, mid_ok, look_mid, set_mid, List.set_cons_zero, List.set_cons_succ, hw, tst3]
    try simp (disch := omega) only [wrap_k]
    refine ev_call (f66 (by assumption) _ (by omega) (by omega)) ?_
    simp -implicitDefEqProofs only [cI, cB, cS, cL, oD_d, oG_g, oT_t, oP_p, dI_v, dB_v, dS_v, dL_s, cell_z, cell_s, nth_z, nth_s, aV_z, aV_s, aI_v, aB_v, aS_v, aL_f, aO_o, aX_b, tst_t, cond_true, cond_false, Ex.same, Nat.beq, List.length_cons, List.length_nil, Int.toNat_natCast, beqTT, beqTF, beqFT, beqFF, mid_go, mid_ok, look_mid, set_mid, List.set_cons_zero, List.set_cons_succ, hw, tst3]
    try simp (disch := omega) only [wrap_k]
    try simp (disch := omega) only [wrap_v] at hk
    exact hk
  · simp -implicitDefEqProofs only [cI, cB, cS, cL, oD_d, oG_g, oT_t, oP_p, dI_v, dB_v, dS_v, dL_s, cell_z, cell_s, nth_z, nth_s, aV_z, aV_s, aI_v, aB_v, aS_v, aL_f, aO_o, aX_b, tst_t, cond_true, cond_false, Ex.same, Nat.beq, List.length_cons, List.length_nil, Int.toNat_natCast, beqTT, beqTF, beqFT, beqFF]
    exact Evt.ret
/- loop.example/g00119/laws.markHoldS -/
theorem f65 {l : Rows} (hl : SL E 111 l) (k : Int) (h0 : 0 ≤ k) (hk : k + (cnRows l : Nat) < K62) : Ev fs 65 [.d (.s 5 l), .d (.v (.int .i64 k))] ⟨.d (.v (.int .i64 (k + (cnRows l : Nat)))), [.d (.s 5 (mkRows l k))]⟩ := by
  refine Ev.of (af := a65) rfl rfl (Evt.congr (fun d n => a65q ..) ?_)
  refine ev_aft (L := fun d n => l65x0 (TabD fs d) d n [.o 5 l, .v (.int .i64 k), .v (.int .i64 0)]) (mark_loop (L := fun d n l k i => l65x0 (TabD fs d) d n [.o 5 l, .v (.int .i64 k), .v (.int .i64 i)]) (Y := fun l k => (.exit 0, [.o 5 l, .v (.int .i64 k)])) h0 hk (fun d n l' k' hl' => ?_) (fun pre x post k res hx hp k0 k1 hk => ?_)) ?_
  · rw [l65x0s]
    simp -implicitDefEqProofs only [cI, cB, cS, cL, oD_d, oG_g, oT_t, oP_p, dI_v, dB_v, dS_v, dL_s, cell_z, cell_s, nth_z, nth_s, aV_z, aV_s, aI_v, aB_v, aS_v, aL_f, aO_o, aX_b, tst_t, cond_true, cond_false, Ex.same, Nat.beq, List.length_cons, List.length_nil, Int.toNat_natCast, beqTT, beqTF, beqFT, beqFF, hl', Int.lt_irrefl, decide_false]
  · have h := hl.at hx
    have h' := h
    rw [E111] at h
    obtain ⟨na0, ra0, rfl, pa0, h_a0⟩ := inv_i h
    obtain ⟨sa1, ra1, rfl, pa1, h_a1⟩ := inv_s h_a0
    obtain ⟨na2, ra2, rfl, pa2, h_a2⟩ := inv_i h_a1
    obtain ⟨na3, ra3, rfl, pa3, h_a3⟩ := inv_i h_a2
    obtain ⟨na4, ra4, rfl, pa4, h_a4⟩ := inv_i h_a3
    cases inv_nil h_a4
    have hw : IntKind.i64.wrap ((pre.length : Int) + 1) = ((pre.length + 1 : Nat) : Int) := wrap_succ (m := l.length) (by omega) hl.1
    simp only [mkRow, mkV, cnRow, Nat.add_zero, Int.natCast_add, Int.cast_ofNat_Int, ← Int.add_assoc] at k1 hk
    simp only [l65x0s]
    simp -implicitDefEqProofs only [cI, cB, cS, cL, oD_d, oG_g, oT_t, oP_p, dI_v, dB_v, dS_v, dL_s, cell_z, cell_s, nth_z, nth_s, aV_z, aV_s, aI_v, aB_v, aS_v, aL_f, aO_o, aX_b, tst_t, cond_true, cond_false, Ex.same, Nat.beq, List.length_cons, List.length_nil, Int.toNat_natCast, beqTT, beqTF, beqFT, beqFF, mid_go, mid_ok, look_mid, set_mid, List.set_cons_zero, List.set_cons_succ, hw, tst3]
    try simp (disch := omega) only [wrap_k]
    refine ev_call (f167 _ (by omega) (by omega)) ?_
    simp -implicitDefEqProofs only [cI, cB, cS, cL, oD_d, oG_g, oT_t, oP_p, dI_v, dB_v, dS_v, dL_s, cell_z, cell_s, nth_z, nth_s, aV_z, aV_s, aI_v, aB_v, aS_v, aL_f, aO_o, aX_b, tst_t, cond_true, cond_false, Ex.same, Nat.beq, List.length_cons, List.length_nil, Int.toNat_natCast, beqTT, beqTF, beqFT, beqFF, mid_go, mid_ok, look_mid, set_mid, List.set_cons_zero, List.set_cons_succ, hw, tst3]
    try simp (disch := omega) only [wrap_k]
    try simp (disch := omega) only [wrap_v] at hk
    exact hk
  · simp -implicitDefEqProofs only [cI, cB, cS, cL, oD_d, oG_g, oT_t, oP_p, dI_v, dB_v, dS_v, dL_s, cell_z, cell_s, nth_z, nth_s, aV_z, aV_s, aI_v, aB_v, aS_v, aL_f, aO_o, aX_b, tst_t, cond_true, cond_false, Ex.same, Nat.beq, List.length_cons, List.length_nil, Int.toNat_natCast, beqTT, beqTF, beqFT, beqFF]
    exact Evt.ret
/- loop.example/g00119/laws.markHub -/
theorem f15 {row : Row} (h : ShL E (E 35) row) (k : Int) (h0 : 0 ≤ k) (hk : k + (cnTop row : Nat) < K62) : Ev fs 15 [.g row, .d (.v (.int .i64 k))] ⟨.d (.v (.int .i64 (k + (cnTop row : Nat)))), [.g (mkTop row k)]⟩ := by
  rw [E35] at h
  obtain ⟨na0, ra0, rfl, pa0, h_a0⟩ := inv_i h
  obtain ⟨na1, ra1, rfl, pa1, h_a1⟩ := inv_i h_a0
  obtain ⟨na2, ra2, rfl, pa2, h_a2⟩ := inv_i h_a1
  obtain ⟨la3, ra3, rfl, pa3, h_a3⟩ := inv_sl W101 h_a2
  obtain ⟨la4, ra4, rfl, pa4, h_a4⟩ := inv_sl W114 h_a3
  obtain ⟨la5, ra5, rfl, pa5, h_a5⟩ := inv_sl W111 h_a4
  obtain ⟨la6, ra6, rfl, pa6, h_a6⟩ := inv_sl W9 h_a5
  cases inv_nil h_a6
  simp only [mkTop, cnTop, Nat.add_zero, Int.natCast_add, ← Int.add_assoc] at hk ⊢
  refine Ev.of (af := a15) rfl rfl (Evt.congr (fun d n => a15q ..) ?_)
  refine ev_call (f63 (by assumption) _ (by omega) (by first | omega | (simp only [cnTop, Nat.add_zero, Int.natCast_add, ← Int.add_assoc]; omega))) ?_
  simp -implicitDefEqProofs only [cI, cB, cS, cL, oD_d, oG_g, oT_t, oP_p, dI_v, dB_v, dS_v, dL_s, cell_z, cell_s, nth_z, nth_s, aV_z, aV_s, aI_v, aB_v, aS_v, aL_f, aO_o, aX_b, tst_t, cond_true, cond_false, Ex.same, Nat.beq, List.length_cons, List.length_nil, Int.toNat_natCast, beqTT, beqTF, beqFT, beqFF, mkTop]
  try simp only [mkTop, cnTop, Nat.add_zero, Int.natCast_add, ← Int.add_assoc]
  refine ev_call (f64 (by assumption) _ (by omega) (by first | omega | (simp only [cnTop, Nat.add_zero, Int.natCast_add, ← Int.add_assoc]; omega))) ?_
  simp -implicitDefEqProofs only [cI, cB, cS, cL, oD_d, oG_g, oT_t, oP_p, dI_v, dB_v, dS_v, dL_s, cell_z, cell_s, nth_z, nth_s, aV_z, aV_s, aI_v, aB_v, aS_v, aL_f, aO_o, aX_b, tst_t, cond_true, cond_false, Ex.same, Nat.beq, List.length_cons, List.length_nil, Int.toNat_natCast, beqTT, beqTF, beqFT, beqFF, mkTop]
  try simp only [mkTop, cnTop, Nat.add_zero, Int.natCast_add, ← Int.add_assoc]
  refine ev_call (f65 (by assumption) _ (by omega) (by first | omega | (simp only [cnTop, Nat.add_zero, Int.natCast_add, ← Int.add_assoc]; omega))) ?_
  simp -implicitDefEqProofs only [cI, cB, cS, cL, oD_d, oG_g, oT_t, oP_p, dI_v, dB_v, dS_v, dL_s, cell_z, cell_s, nth_z, nth_s, aV_z, aV_s, aI_v, aB_v, aS_v, aL_f, aO_o, aX_b, tst_t, cond_true, cond_false, Ex.same, Nat.beq, List.length_cons, List.length_nil, Int.toNat_natCast, beqTT, beqTF, beqFT, beqFF, mkTop]
  try simp only [mkTop, cnTop, Nat.add_zero, Int.natCast_add, ← Int.add_assoc]
  refine ev_call (f66 (by assumption) _ (by omega) (by first | omega | (simp only [cnTop, Nat.add_zero, Int.natCast_add, ← Int.add_assoc]; omega))) ?_
  simp -implicitDefEqProofs only [cI, cB, cS, cL, oD_d, oG_g, oT_t, oP_p, dI_v, dB_v, dS_v, dL_s, cell_z, cell_s, nth_z, nth_s, aV_z, aV_s, aI_v, aB_v, aS_v, aL_f, aO_o, aX_b, tst_t, cond_true, cond_false, Ex.same, Nat.beq, List.length_cons, List.length_nil, Int.toNat_natCast, beqTT, beqTF, beqFT, beqFF, mkTop]
  try simp only [mkTop, cnTop, Nat.add_zero, Int.natCast_add, ← Int.add_assoc]
  exact Evt.ret
/- loop.example/g00119/laws.markByteS -/
theorem f112 {l : Rows} (hl : SL E 5 l) (k : Int) (h0 : 0 ≤ k) (hk : k + (cnRows l : Nat) < K62) : Ev fs 112 [.d (.s 1 l), .d (.v (.int .i64 k))] ⟨.d (.v (.int .i64 (k + (cnRows l : Nat)))), [.d (.s 1 (mkRows l k))]⟩ := by
  refine Ev.of (af := a112) rfl rfl (Evt.congr (fun d n => a112q ..) ?_)
  refine ev_aft (L := fun d n => l112x0 (TabD fs d) d n [.o 1 l, .v (.int .i64 k), .v (.int .i64 0)]) (mark_loop (L := fun d n l k i => l112x0 (TabD fs d) d n [.o 1 l, .v (.int .i64 k), .v (.int .i64 i)]) (Y := fun l k => (.exit 0, [.o 1 l, .v (.int .i64 k)])) h0 hk (fun d n l' k' hl' => ?_) (fun pre x post k res hx hp k0 k1 hk => ?_)) ?_
  · rw [l112x0s]
    simp -implicitDefEqProofs only [cI, cB, cS, cL, oD_d, oG_g, oT_t, oP_p, dI_v, dB_v, dS_v, dL_s, cell_z, cell_s, nth_z, nth_s, aV_z, aV_s, aI_v, aB_v, aS_v, aL_f, aO_o, aX_b, tst_t, cond_true, cond_false, Ex.same, Nat.beq, List.length_cons, List.length_nil, Int.toNat_natCast, beqTT, beqTF, beqFT, beqFF, hl', Int.lt_irrefl, decide_false]
  · have h := hl.at hx
    have h' := h
    rw [E5] at h
    obtain ⟨na0, ra0, rfl, pa0, h_a0⟩ := inv_i h
    cases inv_nil h_a0
    have hw : IntKind.i64.wrap ((pre.length : Int) + 1) = ((pre.length + 1 : Nat) : Int) := wrap_succ (m := l.length) (by omega) hl.1
    simp only [mkRow, mkV, cnRow, Nat.add_zero, Int.natCast_add, Int.cast_ofNat_Int, ← Int.add_assoc] at k1 hk
    simp only [l112x0s]
    simp -implicitDefEqProofs only [cI, cB, cS, cL, oD_d, oG_g, oT_t, oP_p, dI_v, dB_v, dS_v, dL_s, cell_z, cell_s, nth_z, nth_s, aV_z, aV_s, aI_v, aB_v, aS_v, aL_f, aO_o, aX_b, tst_t, cond_true, cond_false, Ex.same, Nat.beq, List.length_cons, List.length_nil, Int.toNat_natCast, beqTT, beqTF, beqFT, beqFF, mid_go, mid_ok, look_mid, set_mid, List.set_cons_zero, List.set_cons_succ, hw, tst3]
    try simp (disch := omega) only [wrap_k]
    try simp (disch := omega) only [wrap_v] at hk
    exact hk
  · simp -implicitDefEqProofs only [cI, cB, cS, cL, oD_d, oG_g, oT_t, oP_p, dI_v, dB_v, dS_v, dL_s, cell_z, cell_s, nth_z, nth_s, aV_z, aV_s, aI_v, aB_v, aS_v, aL_f, aO_o, aX_b, tst_t, cond_true, cond_false, Ex.same, Nat.beq, List.length_cons, List.length_nil, Int.toNat_natCast, beqTT, beqTF, beqFT, beqFF]
    exact Evt.ret
/- loop.example/g00119/laws.markWorkS -/
theorem f115 {l : Rows} (hl : SL E 270 l) (k : Int) (h0 : 0 ≤ k) (hk : k + (cnRows l : Nat) < K62) : Ev fs 115 [.d (.s 7 l), .d (.v (.int .i64 k))] ⟨.d (.v (.int .i64 (k + (cnRows l : Nat)))), [.d (.s 7 (mkRows l k))]⟩ := by
  refine Ev.of (af := a115) rfl rfl (Evt.congr (fun d n => a115q ..) ?_)
  refine ev_aft (L := fun d n => l115x0 (TabD fs d) d n [.o 7 l, .v (.int .i64 k), .v (.int .i64 0)]) (mark_loop (L := fun d n l k i => l115x0 (TabD fs d) d n [.o 7 l, .v (.int .i64 k), .v (.int .i64 i)]) (Y := fun l k => (.exit 0, [.o 7 l, .v (.int .i64 k)])) h0 hk (fun d n l' k' hl' => ?_) (fun pre x post k res hx hp k0 k1 hk => ?_)) ?_
  · rw [l115x0s]
    simp -implicitDefEqProofs only [cI, cB, cS, cL, oD_d, oG_g, oT_t, oP_p, dI_v, dB_v, dS_v, dL_s, cell_z, cell_s, nth_z, nth_s, aV_z, aV_s, aI_v, aB_v, aS_v, aL_f, aO_o, aX_b, tst_t, cond_true, cond_false, Ex.same, Nat.beq, List.length_cons, List.length_nil, Int.toNat_natCast, beqTT, beqTF, beqFT, beqFF, hl', Int.lt_irrefl, decide_false]
  · have h := hl.at hx
    have h' := h
    rw [E270] at h
    obtain ⟨na0, ra0, rfl, pa0, h_a0⟩ := inv_i h
    obtain ⟨na1, ra1, rfl, pa1, h_a1⟩ := inv_i h_a0
    obtain ⟨na2, ra2, rfl, pa2, h_a2⟩ := inv_i h_a1
    obtain ⟨sa3, ra3, rfl, pa3, h_a3⟩ := inv_s h_a2
    obtain ⟨na4, ra4, rfl, pa4, h_a4⟩ := inv_i h_a3
    obtain ⟨la5, ra5, rfl, pa5, h_a5⟩ := inv_sl W9 h_a4
    obtain ⟨la6, ra6, rfl, pa6, h_a6⟩ := inv_sl W64 h_a5
    cases inv_nil h_a6
    have hw : IntKind.i64.wrap ((pre.length : Int) + 1) = ((pre.length + 1 : Nat) : Int) := wrap_succ (m := l.length) (by omega) hl.1
    simp only [mkRow, mkV, cnRow, Nat.add_zero, Int.natCast_add, Int.cast_ofNat_Int, ← Int.add_assoc] at k1 hk
    simp only [l115x0s]
    simp -implicitDefEqProofs only [cI, cB, cS, cL, oD_d, oG_g, oT_t, oP_p, dI_v, dB_v, dS_v, dL_s, cell_z, cell_s, nth_z, nth_s, aV_z, aV_s, aI_v, aB_v, aS_v, aL_f, aO_o, aX_b, tst_t, cond_true, cond_false, Ex.same, Nat.beq, List.length_cons, List.length_nil, Int.toNat_natCast, beqTT, beqTF, beqFT, beqFF, mid_go, mid_ok, look_mid, set_mid, List.set_cons_zero, List.set_cons_succ, hw, tst3]
    try simp (disch := omega) only [wrap_k]
    refine ev_call (f167 _ (by omega) (by omega)) ?_
    simp -implicitDefEqProofs only [cI, cB, cS, cL, oD_d, oG_g, oT_t, oP_p, dI_v, dB_v, dS_v, dL_s, cell_z, cell_s, nth_z, nth_s, aV_z, aV_s, aI_v, aB_v, aS_v, aL_f, aO_o, aX_b, tst_t, cond_true, cond_false, Ex.same, Nat.beq, List.length_cons, List.length_nil, Int.toNat_natCast, beqTT, beqTF, beqFT, beqFF, mid_go, mid_ok, look_mid, set_mid, List.set_cons_zero, List.set_cons_succ, hw, tst3]
    try simp (disch := omega) only [wrap_k]
    refine ev_call (f66 (by assumption) _ (by omega) (by omega)) ?_
    simp -implicitDefEqProofs only [cI, cB, cS, cL, oD_d, oG_g, oT_t, oP_p, dI_v, dB_v, dS_v, dL_s, cell_z, cell_s, nth_z, nth_s, aV_z, aV_s, aI_v, aB_v, aS_v, aL_f, aO_o, aX_b, tst_t, cond_true, cond_false, Ex.same, Nat.beq, List.length_cons, List.length_nil, Int.toNat_natCast, beqTT, beqTF, beqFT, beqFF, mid_go, mid_ok, look_mid, set_mid, List.set_cons_zero, List.set_cons_succ, hw, tst3]
    try simp (disch := omega) only [wrap_k]
    refine ev_call (f170 (by assumption) _ (by omega) (by omega)) ?_
    simp -implicitDefEqProofs only [cI, cB, cS, cL, oD_d, oG_g, oT_t, oP_p, dI_v, dB_v, dS_v, dL_s, cell_z, cell_s, nth_z, nth_s, aV_z, aV_s, aI_v, aB_v, aS_v, aL_f, aO_o, aX_b, tst_t, cond_true, cond_false, Ex.same, Nat.beq, List.length_cons, List.length_nil, Int.toNat_natCast, beqTT, beqTF, beqFT, beqFF, mid_go, mid_ok, look_mid, set_mid, List.set_cons_zero, List.set_cons_succ, hw, tst3]
    try simp (disch := omega) only [wrap_k]
    try simp (disch := omega) only [wrap_v] at hk
    exact hk
  · simp -implicitDefEqProofs only [cI, cB, cS, cL, oD_d, oG_g, oT_t, oP_p, dI_v, dB_v, dS_v, dL_s, cell_z, cell_s, nth_z, nth_s, aV_z, aV_s, aI_v, aB_v, aS_v, aL_f, aO_o, aX_b, tst_t, cond_true, cond_false, Ex.same, Nat.beq, List.length_cons, List.length_nil, Int.toNat_natCast, beqTT, beqTF, beqFT, beqFF]
    exact Evt.ret
/- loop.example/g00119/laws.markRunS -/
theorem f116 {l : Rows} (hl : SL E 238 l) (k : Int) (h0 : 0 ≤ k) (hk : k + (cnRows l : Nat) < K62) : Ev fs 116 [.d (.s 2 l), .d (.v (.int .i64 k))] ⟨.d (.v (.int .i64 (k + (cnRows l : Nat)))), [.d (.s 2 (mkRows l k))]⟩ := by
  refine Ev.of (af := a116) rfl rfl (Evt.congr (fun d n => a116q ..) ?_)
  refine ev_aft (L := fun d n => l116x0 (TabD fs d) d n [.o 2 l, .v (.int .i64 k), .v (.int .i64 0)]) (mark_loop (L := fun d n l k i => l116x0 (TabD fs d) d n [.o 2 l, .v (.int .i64 k), .v (.int .i64 i)]) (Y := fun l k => (.exit 0, [.o 2 l, .v (.int .i64 k)])) h0 hk (fun d n l' k' hl' => ?_) (fun pre x post k res hx hp k0 k1 hk => ?_)) ?_
  · rw [l116x0s]
    simp -implicitDefEqProofs only [cI, cB, cS, cL, oD_d, oG_g, oT_t, oP_p, dI_v, dB_v, dS_v, dL_s, cell_z, cell_s, nth_z, nth_s, aV_z, aV_s, aI_v, aB_v, aS_v, aL_f, aO_o, aX_b, tst_t, cond_true, cond_false, Ex.same, Nat.beq, List.length_cons, List.length_nil, Int.toNat_natCast, beqTT, beqTF, beqFT, beqFF, hl', Int.lt_irrefl, decide_false]
  · have h := hl.at hx
    have h' := h
    rw [E238] at h
    obtain ⟨na0, ra0, rfl, pa0, h_a0⟩ := inv_i h
    obtain ⟨na1, ra1, rfl, pa1, h_a1⟩ := inv_i h_a0
    cases inv_nil h_a1
    have hw : IntKind.i64.wrap ((pre.length : Int) + 1) = ((pre.length + 1 : Nat) : Int) := wrap_succ (m := l.length) (by omega) hl.1
    simp only [mkRow, mkV, cnRow, Nat.add_zero, Int.natCast_add, Int.cast_ofNat_Int, ← Int.add_assoc] at k1 hk
    simp only [l116x0s]
    simp -implicitDefEqProofs only [cI, cB, cS, cL, oD_d, oG_g, oT_t, oP_p, dI_v, dB_v, dS_v, dL_s, cell_z, cell_s, nth_z, nth_s, aV_z, aV_s, aI_v, aB_v, aS_v, aL_f, aO_o, aX_b, tst_t, cond_true, cond_false, Ex.same, Nat.beq, List.length_cons, List.length_nil, Int.toNat_natCast, beqTT, beqTF, beqFT, beqFF, mid_go, mid_ok, look_mid, set_mid, List.set_cons_zero, List.set_cons_succ, hw, tst3]
    try simp (disch := omega) only [wrap_k]
    try simp (disch := omega) only [wrap_v] at hk
    exact hk
  · simp -implicitDefEqProofs only [cI, cB, cS, cL, oD_d, oG_g, oT_t, oP_p, dI_v, dB_v, dS_v, dL_s, cell_z, cell_s, nth_z, nth_s, aV_z, aV_s, aI_v, aB_v, aS_v, aL_f, aO_o, aX_b, tst_t, cond_true, cond_false, Ex.same, Nat.beq, List.length_cons, List.length_nil, Int.toNat_natCast, beqTT, beqTF, beqFT, beqFF]
    exact Evt.ret
/- loop.example/g00119/laws.markIsleS -/
theorem f113 {l : Rows} (hl : SL E 83 l) (k : Int) (h0 : 0 ≤ k) (hk : k + (cnRows l : Nat) < K62) : Ev fs 113 [.d (.s 5 l), .d (.v (.int .i64 k))] ⟨.d (.v (.int .i64 (k + (cnRows l : Nat)))), [.d (.s 5 (mkRows l k))]⟩ := by
  refine Ev.of (af := a113) rfl rfl (Evt.congr (fun d n => a113q ..) ?_)
  refine ev_aft (L := fun d n => l113x0 (TabD fs d) d n [.o 5 l, .v (.int .i64 k), .v (.int .i64 0)]) (mark_loop (L := fun d n l k i => l113x0 (TabD fs d) d n [.o 5 l, .v (.int .i64 k), .v (.int .i64 i)]) (Y := fun l k => (.exit 0, [.o 5 l, .v (.int .i64 k)])) h0 hk (fun d n l' k' hl' => ?_) (fun pre x post k res hx hp k0 k1 hk => ?_)) ?_
  · rw [l113x0s]
    simp -implicitDefEqProofs only [cI, cB, cS, cL, oD_d, oG_g, oT_t, oP_p, dI_v, dB_v, dS_v, dL_s, cell_z, cell_s, nth_z, nth_s, aV_z, aV_s, aI_v, aB_v, aS_v, aL_f, aO_o, aX_b, tst_t, cond_true, cond_false, Ex.same, Nat.beq, List.length_cons, List.length_nil, Int.toNat_natCast, beqTT, beqTF, beqFT, beqFF, hl', Int.lt_irrefl, decide_false]
  · have h := hl.at hx
    have h' := h
    rw [E83] at h
    obtain ⟨sa0, ra0, rfl, pa0, h_a0⟩ := inv_s h
    obtain ⟨na1, ra1, rfl, pa1, h_a1⟩ := inv_i h_a0
    obtain ⟨na2, ra2, rfl, pa2, h_a2⟩ := inv_i h_a1
    obtain ⟨la3, ra3, rfl, pa3, h_a3⟩ := inv_sl W270 h_a2
    obtain ⟨la4, ra4, rfl, pa4, h_a4⟩ := inv_sl W238 h_a3
    cases inv_nil h_a4
    have hw : IntKind.i64.wrap ((pre.length : Int) + 1) = ((pre.length + 1 : Nat) : Int) := wrap_succ (m := l.length) (by omega) hl.1
    simp only [mkRow, mkV, cnRow, Nat.add_zero, Int.natCast_add, Int.cast_ofNat_Int, ← Int.add_assoc] at k1 hk
    simp only [l113x0s]
    simp -implicitDefEqProofs only [cI, cB, cS, cL, oD_d, oG_g, oT_t, oP_p, dI_v, dB_v, dS_v, dL_s, cell_z, cell_s, nth_z, nth_s, aV_z, aV_s, aI_v, aB_v, aS_v, aL_f, aO_o, aX_b, tst_t, cond_true, cond_false, Ex.same, Nat.beq, List.length_cons, List.length_nil, Int.toNat_natCast, beqTT, beqTF, beqFT, beqFF, mid_go, mid_ok, look_mid, set_mid, List.set_cons_zero, List.set_cons_succ, hw, tst3]
    try simp (disch := omega) only [wrap_k]
    refine ev_call (f167 _ (by omega) (by omega)) ?_
    simp -implicitDefEqProofs only [cI, cB, cS, cL, oD_d, oG_g, oT_t, oP_p, dI_v, dB_v, dS_v, dL_s, cell_z, cell_s, nth_z, nth_s, aV_z, aV_s, aI_v, aB_v, aS_v, aL_f, aO_o, aX_b, tst_t, cond_true, cond_false, Ex.same, Nat.beq, List.length_cons, List.length_nil, Int.toNat_natCast, beqTT, beqTF, beqFT, beqFF, mid_go, mid_ok, look_mid, set_mid, List.set_cons_zero, List.set_cons_succ, hw, tst3]
    try simp (disch := omega) only [wrap_k]
    refine ev_call (f115 (by assumption) _ (by omega) (by omega)) ?_
    simp -implicitDefEqProofs only [cI, cB, cS, cL, oD_d, oG_g, oT_t, oP_p, dI_v, dB_v, dS_v, dL_s, cell_z, cell_s, nth_z, nth_s, aV_z, aV_s, aI_v, aB_v, aS_v, aL_f, aO_o, aX_b, tst_t, cond_true, cond_false, Ex.same, Nat.beq, List.length_cons, List.length_nil, Int.toNat_natCast, beqTT, beqTF, beqFT, beqFF, mid_go, mid_ok, look_mid, set_mid, List.set_cons_zero, List.set_cons_succ, hw, tst3]
    try simp (disch := omega) only [wrap_k]
    refine ev_call (f116 (by assumption) _ (by omega) (by omega)) ?_
    simp -implicitDefEqProofs only [cI, cB, cS, cL, oD_d, oG_g, oT_t, oP_p, dI_v, dB_v, dS_v, dL_s, cell_z, cell_s, nth_z, nth_s, aV_z, aV_s, aI_v, aB_v, aS_v, aL_f, aO_o, aX_b, tst_t, cond_true, cond_false, Ex.same, Nat.beq, List.length_cons, List.length_nil, Int.toNat_natCast, beqTT, beqTF, beqFT, beqFF, mid_go, mid_ok, look_mid, set_mid, List.set_cons_zero, List.set_cons_succ, hw, tst3]
    try simp (disch := omega) only [wrap_k]
    try simp (disch := omega) only [wrap_v] at hk
    exact hk
  · simp -implicitDefEqProofs only [cI, cB, cS, cL, oD_d, oG_g, oT_t, oP_p, dI_v, dB_v, dS_v, dL_s, cell_z, cell_s, nth_z, nth_s, aV_z, aV_s, aI_v, aB_v, aS_v, aL_f, aO_o, aX_b, tst_t, cond_true, cond_false, Ex.same, Nat.beq, List.length_cons, List.length_nil, Int.toNat_natCast, beqTT, beqTF, beqFT, beqFF]
    exact Evt.ret
/- loop.example/g00119/laws.markMsgS -/
theorem f114 {l : Rows} (hl : SL E 193 l) (k : Int) (h0 : 0 ≤ k) (hk : k + (cnRows l : Nat) < K62) : Ev fs 114 [.d (.s 5 l), .d (.v (.int .i64 k))] ⟨.d (.v (.int .i64 (k + (cnRows l : Nat)))), [.d (.s 5 (mkRows l k))]⟩ := by
  refine Ev.of (af := a114) rfl rfl (Evt.congr (fun d n => a114q ..) ?_)
  refine ev_aft (L := fun d n => l114x0 (TabD fs d) d n [.o 5 l, .v (.int .i64 k), .v (.int .i64 0)]) (mark_loop (L := fun d n l k i => l114x0 (TabD fs d) d n [.o 5 l, .v (.int .i64 k), .v (.int .i64 i)]) (Y := fun l k => (.exit 0, [.o 5 l, .v (.int .i64 k)])) h0 hk (fun d n l' k' hl' => ?_) (fun pre x post k res hx hp k0 k1 hk => ?_)) ?_
  · rw [l114x0s]
    simp -implicitDefEqProofs only [cI, cB, cS, cL, oD_d, oG_g, oT_t, oP_p, dI_v, dB_v, dS_v, dL_s, cell_z, cell_s, nth_z, nth_s, aV_z, aV_s, aI_v, aB_v, aS_v, aL_f, aO_o, aX_b, tst_t, cond_true, cond_false, Ex.same, Nat.beq, List.length_cons, List.length_nil, Int.toNat_natCast, beqTT, beqTF, beqFT, beqFF, hl', Int.lt_irrefl, decide_false]
  · have h := hl.at hx
    have h' := h
    rw [E193] at h
    obtain ⟨na0, ra0, rfl, pa0, h_a0⟩ := inv_i h
    obtain ⟨sa1, ra1, rfl, pa1, h_a1⟩ := inv_s h_a0
    obtain ⟨na2, ra2, rfl, pa2, h_a2⟩ := inv_i h_a1
    obtain ⟨la3, ra3, rfl, pa3, h_a3⟩ := inv_sl W270 h_a2
    obtain ⟨la4, ra4, rfl, pa4, h_a4⟩ := inv_sl W238 h_a3
    cases inv_nil h_a4
    have hw : IntKind.i64.wrap ((pre.length : Int) + 1) = ((pre.length + 1 : Nat) : Int) := wrap_succ (m := l.length) (by omega) hl.1
    simp only [mkRow, mkV, cnRow, Nat.add_zero, Int.natCast_add, Int.cast_ofNat_Int, ← Int.add_assoc] at k1 hk
    simp only [l114x0s]
    simp -implicitDefEqProofs only [cI, cB, cS, cL, oD_d, oG_g, oT_t, oP_p, dI_v, dB_v, dS_v, dL_s, cell_z, cell_s, nth_z, nth_s, aV_z, aV_s, aI_v, aB_v, aS_v, aL_f, aO_o, aX_b, tst_t, cond_true, cond_false, Ex.same, Nat.beq, List.length_cons, List.length_nil, Int.toNat_natCast, beqTT, beqTF, beqFT, beqFF, mid_go, mid_ok, look_mid, set_mid, List.set_cons_zero, List.set_cons_succ, hw, tst3]
    try simp (disch := omega) only [wrap_k]
    refine ev_call (f167 _ (by omega) (by omega)) ?_
    simp -implicitDefEqProofs only [cI, cB, cS, cL, oD_d, oG_g, oT_t, oP_p, dI_v, dB_v, dS_v, dL_s, cell_z, cell_s, nth_z, nth_s, aV_z, aV_s, aI_v, aB_v, aS_v, aL_f, aO_o, aX_b, tst_t, cond_true, cond_false, Ex.same, Nat.beq, List.length_cons, List.length_nil, Int.toNat_natCast, beqTT, beqTF, beqFT, beqFF, mid_go, mid_ok, look_mid, set_mid, List.set_cons_zero, List.set_cons_succ, hw, tst3]
    try simp (disch := omega) only [wrap_k]
    refine ev_call (f115 (by assumption) _ (by omega) (by omega)) ?_
    simp -implicitDefEqProofs only [cI, cB, cS, cL, oD_d, oG_g, oT_t, oP_p, dI_v, dB_v, dS_v, dL_s, cell_z, cell_s, nth_z, nth_s, aV_z, aV_s, aI_v, aB_v, aS_v, aL_f, aO_o, aX_b, tst_t, cond_true, cond_false, Ex.same, Nat.beq, List.length_cons, List.length_nil, Int.toNat_natCast, beqTT, beqTF, beqFT, beqFF, mid_go, mid_ok, look_mid, set_mid, List.set_cons_zero, List.set_cons_succ, hw, tst3]
    try simp (disch := omega) only [wrap_k]
    refine ev_call (f116 (by assumption) _ (by omega) (by omega)) ?_
    simp -implicitDefEqProofs only [cI, cB, cS, cL, oD_d, oG_g, oT_t, oP_p, dI_v, dB_v, dS_v, dL_s, cell_z, cell_s, nth_z, nth_s, aV_z, aV_s, aI_v, aB_v, aS_v, aL_f, aO_o, aX_b, tst_t, cond_true, cond_false, Ex.same, Nat.beq, List.length_cons, List.length_nil, Int.toNat_natCast, beqTT, beqTF, beqFT, beqFF, mid_go, mid_ok, look_mid, set_mid, List.set_cons_zero, List.set_cons_succ, hw, tst3]
    try simp (disch := omega) only [wrap_k]
    try simp (disch := omega) only [wrap_v] at hk
    exact hk
  · simp -implicitDefEqProofs only [cI, cB, cS, cL, oD_d, oG_g, oT_t, oP_p, dI_v, dB_v, dS_v, dL_s, cell_z, cell_s, nth_z, nth_s, aV_z, aV_s, aI_v, aB_v, aS_v, aL_f, aO_o, aX_b, tst_t, cond_true, cond_false, Ex.same, Nat.beq, List.length_cons, List.length_nil, Int.toNat_natCast, beqTT, beqTF, beqFT, beqFF]
    exact Evt.ret
/- loop.example/g00119/laws.markFed -/
theorem f29 {row : Row} (h : ShL E (E 89) row) (k : Int) (h0 : 0 ≤ k) (hk : k + (cnTop row : Nat) < K62) : Ev fs 29 [.g row, .d (.v (.int .i64 k))] ⟨.d (.v (.int .i64 (k + (cnTop row : Nat)))), [.g (mkTop row k)]⟩ := by
  rw [E89] at h
  obtain ⟨na0, ra0, rfl, pa0, h_a0⟩ := inv_i h
  obtain ⟨na1, ra1, rfl, pa1, h_a1⟩ := inv_i h_a0
  obtain ⟨na2, ra2, rfl, pa2, h_a2⟩ := inv_i h_a1
  obtain ⟨la3, ra3, rfl, pa3, h_a3⟩ := inv_sl W101 h_a2
  obtain ⟨la4, ra4, rfl, pa4, h_a4⟩ := inv_sl W114 h_a3
  obtain ⟨la5, ra5, rfl, pa5, h_a5⟩ := inv_sl W111 h_a4
  obtain ⟨la6, ra6, rfl, pa6, h_a6⟩ := inv_sl W9 h_a5
  obtain ⟨ba7, ra7, rfl, h_a7⟩ := inv_b h_a6
  obtain ⟨la8, ra8, rfl, pa8, h_a8⟩ := inv_sl W5 h_a7
  obtain ⟨la9, ra9, rfl, pa9, h_a9⟩ := inv_sl W83 h_a8
  obtain ⟨la10, ra10, rfl, pa10, h_a10⟩ := inv_sl W193 h_a9
  obtain ⟨la11, ra11, rfl, pa11, h_a11⟩ := inv_sl W9 h_a10
  cases inv_nil h_a11
  simp only [mkTop, cnTop, Nat.add_zero, Int.natCast_add, ← Int.add_assoc] at hk ⊢
  refine Ev.of (af := a29) rfl rfl (Evt.congr (fun d n => a29q ..) ?_)
  refine ev_call (f15 (by rw [E35]; exact mk_i (by assumption) (mk_i (by assumption) (mk_i (by assumption) (mk_sl W101 (by assumption) (mk_sl W114 (by assumption) (mk_sl W111 (by assumption) (mk_sl W9 (by assumption) (ShL.nil)))))))) _ (by omega) (by first | omega | (simp only [cnTop, Nat.add_zero, Int.natCast_add, ← Int.add_assoc]; omega))) ?_
  simp -implicitDefEqProofs only [cI, cB, cS, cL, oD_d, oG_g, oT_t, oP_p, dI_v, dB_v, dS_v, dL_s, cell_z, cell_s, nth_z, nth_s, aV_z, aV_s, aI_v, aB_v, aS_v, aL_f, aO_o, aX_b, tst_t, cond_true, cond_false, Ex.same, Nat.beq, List.length_cons, List.length_nil, Int.toNat_natCast, beqTT, beqTF, beqFT, beqFF, mkTop]
  try simp only [mkTop, cnTop, Nat.add_zero, Int.natCast_add, ← Int.add_assoc]
  refine ev_call (f112 (by assumption) _ (by omega) (by first | omega | (simp only [cnTop, Nat.add_zero, Int.natCast_add, ← Int.add_assoc]; omega))) ?_
  simp -implicitDefEqProofs only [cI, cB, cS, cL, oD_d, oG_g, oT_t, oP_p, dI_v, dB_v, dS_v, dL_s, cell_z, cell_s, nth_z, nth_s, aV_z, aV_s, aI_v, aB_v, aS_v, aL_f, aO_o, aX_b, tst_t, cond_true, cond_false, Ex.same, Nat.beq, List.length_cons, List.length_nil, Int.toNat_natCast, beqTT, beqTF, beqFT, beqFF, mkTop]
  try simp only [mkTop, cnTop, Nat.add_zero, Int.natCast_add, ← Int.add_assoc]
  refine ev_call (f113 (by assumption) _ (by omega) (by first | omega | (simp only [cnTop, Nat.add_zero, Int.natCast_add, ← Int.add_assoc]; omega))) ?_
  simp -implicitDefEqProofs only [cI, cB, cS, cL, oD_d, oG_g, oT_t, oP_p, dI_v, dB_v, dS_v, dL_s, cell_z, cell_s, nth_z, nth_s, aV_z, aV_s, aI_v, aB_v, aS_v, aL_f, aO_o, aX_b, tst_t, cond_true, cond_false, Ex.same, Nat.beq, List.length_cons, List.length_nil, Int.toNat_natCast, beqTT, beqTF, beqFT, beqFF, mkTop]
  try simp only [mkTop, cnTop, Nat.add_zero, Int.natCast_add, ← Int.add_assoc]
  refine ev_call (f114 (by assumption) _ (by omega) (by first | omega | (simp only [cnTop, Nat.add_zero, Int.natCast_add, ← Int.add_assoc]; omega))) ?_
  simp -implicitDefEqProofs only [cI, cB, cS, cL, oD_d, oG_g, oT_t, oP_p, dI_v, dB_v, dS_v, dL_s, cell_z, cell_s, nth_z, nth_s, aV_z, aV_s, aI_v, aB_v, aS_v, aL_f, aO_o, aX_b, tst_t, cond_true, cond_false, Ex.same, Nat.beq, List.length_cons, List.length_nil, Int.toNat_natCast, beqTT, beqTF, beqFT, beqFF, mkTop]
  try simp only [mkTop, cnTop, Nat.add_zero, Int.natCast_add, ← Int.add_assoc]
  refine ev_call (f66 (by assumption) _ (by omega) (by first | omega | (simp only [cnTop, Nat.add_zero, Int.natCast_add, ← Int.add_assoc]; omega))) ?_
  simp -implicitDefEqProofs only [cI, cB, cS, cL, oD_d, oG_g, oT_t, oP_p, dI_v, dB_v, dS_v, dL_s, cell_z, cell_s, nth_z, nth_s, aV_z, aV_s, aI_v, aB_v, aS_v, aL_f, aO_o, aX_b, tst_t, cond_true, cond_false, Ex.same, Nat.beq, List.length_cons, List.length_nil, Int.toNat_natCast, beqTT, beqTF, beqFT, beqFF, mkTop]
  try simp only [mkTop, cnTop, Nat.add_zero, Int.natCast_add, ← Int.add_assoc]
  exact Evt.ret
/- loop.example/g00119/laws.markIsle -/
theorem f30 {row : Row} (h : ShL E (E 83) row) (k : Int) (h0 : 0 ≤ k) (hk : k + (cnTop row : Nat) < K62) : Ev fs 30 [.g row, .d (.v (.int .i64 k))] ⟨.d (.v (.int .i64 (k + (cnTop row : Nat)))), [.g (mkTop row k)]⟩ := by
  rw [E83] at h
  obtain ⟨sa0, ra0, rfl, pa0, h_a0⟩ := inv_s h
  obtain ⟨na1, ra1, rfl, pa1, h_a1⟩ := inv_i h_a0
  obtain ⟨na2, ra2, rfl, pa2, h_a2⟩ := inv_i h_a1
  obtain ⟨la3, ra3, rfl, pa3, h_a3⟩ := inv_sl W270 h_a2
  obtain ⟨la4, ra4, rfl, pa4, h_a4⟩ := inv_sl W238 h_a3
  cases inv_nil h_a4
  simp only [mkTop, cnTop, Nat.add_zero, Int.natCast_add, ← Int.add_assoc] at hk ⊢
  refine Ev.of (af := a30) rfl rfl (Evt.congr (fun d n => a30q ..) ?_)
  refine ev_call (f115 (by assumption) _ (by omega) (by first | omega | (simp only [cnTop, Nat.add_zero, Int.natCast_add, ← Int.add_assoc]; omega))) ?_
  simp -implicitDefEqProofs only [cI, cB, cS, cL, oD_d, oG_g, oT_t, oP_p, dI_v, dB_v, dS_v, dL_s, cell_z, cell_s, nth_z, nth_s, aV_z, aV_s, aI_v, aB_v, aS_v, aL_f, aO_o, aX_b, tst_t, cond_true, cond_false, Ex.same, Nat.beq, List.length_cons, List.length_nil, Int.toNat_natCast, beqTT, beqTF, beqFT, beqFF, mkTop]
  try simp only [mkTop, cnTop, Nat.add_zero, Int.natCast_add, ← Int.add_assoc]
  refine ev_call (f116 (by assumption) _ (by omega) (by first | omega | (simp only [cnTop, Nat.add_zero, Int.natCast_add, ← Int.add_assoc]; omega))) ?_
  simp -implicitDefEqProofs only [cI, cB, cS, cL, oD_d, oG_g, oT_t, oP_p, dI_v, dB_v, dS_v, dL_s, cell_z, cell_s, nth_z, nth_s, aV_z, aV_s, aI_v, aB_v, aS_v, aL_f, aO_o, aX_b, tst_t, cond_true, cond_false, Ex.same, Nat.beq, List.length_cons, List.length_nil, Int.toNat_natCast, beqTT, beqTF, beqFT, beqFF, mkTop]
  try simp only [mkTop, cnTop, Nat.add_zero, Int.natCast_add, ← Int.add_assoc]
  exact Evt.ret
end Go.Am.Is
