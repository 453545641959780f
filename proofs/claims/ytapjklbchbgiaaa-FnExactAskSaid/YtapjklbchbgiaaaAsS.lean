/- What the functions of one family say in the end. Nothing is assumed. -/
import Derived.Test.YtapjklbchbgiaaaAsH
namespace Go.Am.As
set_option linter.unusedVariables false
set_option linter.unusedSimpArgs false
set_option maxRecDepth 8000
/- loop.example/g00119/laws.szStringS -/
theorem f51 {l : Rows} (hl : SL E 9 l) (left : Int) (h0 : 0 ≤ left) (h1 : left ≤ big) : SzF fs 51 (.d (.s 1 l)) left (l.length + wtRows l) := by
  refine sz_rows (fun d n m i => l51x0 (TabD fs d) d n [.fz 1 l, .v (.int .i64 m), .v (.int .i64 i)]) (af := a51) rfl rfl (fun d m => a51q ..) hl.1 (fun d n m => ?_) (fun i x m Q hi hx hm0 hm1 k => ?_) left h0 h1
  · rw [l51x0s]
    simp -implicitDefEqProofs only [cI, cB, cS, cL, oD_d, oG_g, oT_t, oP_p, dI_v, dB_v, dS_v, dL_s, cell_z, cell_s, nth_z, nth_s, aV_z, aV_s, aI_v, aB_v, aS_v, aL_f, aO_o, aX_b, tst_t, cond_true, cond_false, Ex.same, Nat.beq, List.length_cons, List.length_nil, Int.toNat_natCast, beqTT, beqTF, beqFT, beqFF, Int.lt_irrefl, decide_false]
  · have h := hl.at hx
    have h' := h
    rw [E9] at h
    obtain ⟨sa0, ra0, rfl, pa0, h_a0⟩ := inv_s h
    cases inv_nil h_a0
    simp only [l51x0s]
    simp -implicitDefEqProofs only [cI, cB, cS, cL, oD_d, oG_g, oT_t, oP_p, dI_v, dB_v, dS_v, dL_s, cell_z, cell_s, nth_z, nth_s, aV_z, aV_s, aI_v, aB_v, aS_v, aL_f, aO_o, aX_b, tst_t, cond_true, cond_false, Ex.same, Nat.beq, List.length_cons, List.length_nil, Int.toNat_natCast, beqTT, beqTF, beqFT, beqFF, decide_eq_true (Int.ofNat_lt.2 hi), dec_nn, look_at hx, wrap_succ hi hl.1]
    refine sz_str hm0 (by omega) (by assumption) fun m1 e1 q1 z1 => ?_
    simp only [e1]
    exact k m1 q1 (by first | omega | (simp only [wtRow, wtD] at *; omega))
/- loop.example/g00119/laws.szValueS -/
mutual
theorem fr121 {row : Row} (h : ShL E (E 112) row) (left : Int) (h0 : 0 ≤ left) (h1 : left ≤ big) (W : Nat) (hW : 2 * wtRow row + 1 = W) : SzF fs 121 (.g row) left (wtRow row) := by
  rw [E112] at h
  obtain ⟨na0, ra0, rfl, pa0, h_a0⟩ := inv_i h
  obtain ⟨sa1, ra1, rfl, pa1, h_a1⟩ := inv_s h_a0
  obtain ⟨na2, ra2, rfl, pa2, h_a2⟩ := inv_i h_a1
  obtain ⟨la3, ra3, rfl, pa3, h_a3⟩ := inv_sl W9 h_a2
  obtain ⟨la4, ra4, rfl, pa4, h_a4⟩ := inv_sl W112 h_a3
  cases inv_nil h_a4
  refine SzF.of (af := a121) rfl rfl (fun d n => a121q ..) ?_
  refine sz_str h0 (by omega) (by assumption) fun m1 e1 q1 z1 => ?_
  simp only [e1]
  refine sz_call (f51 (by assumption) m1 q1 (by omega)) fun m2 q2 z2 => ?_
  refine sz_call (fr144 (by assumption) m2 q2 (by omega) _ rfl) fun m3 q3 z3 => ?_
  exact sz_ret q3 (by first | omega | (simp only [wtRow, wtD] at *; omega))
termination_by W
decreasing_by all_goals (try have := wt_at hx); (try simp only [wtRow, wtD] at *); omega
theorem fr144 {l : Rows} (hl : SL E 112 l) (left : Int) (h0 : 0 ≤ left) (h1 : left ≤ big) (W : Nat) (hW : 2 * (l.length + wtRows l) = W) : SzF fs 144 (.d (.s 5 l)) left (l.length + wtRows l) := by
  refine sz_rows (fun d n m i => l144x0 (TabD fs d) d n [.fz 5 l, .v (.int .i64 m), .v (.int .i64 i)]) (af := a144) rfl rfl (fun d m => a144q ..) hl.1 (fun d n m => ?_) (fun i x m Q hi hx hm0 hm1 k => ?_) left h0 h1
  · rw [l144x0s]
    simp -implicitDefEqProofs only [cI, cB, cS, cL, oD_d, oG_g, oT_t, oP_p, dI_v, dB_v, dS_v, dL_s, cell_z, cell_s, nth_z, nth_s, aV_z, aV_s, aI_v, aB_v, aS_v, aL_f, aO_o, aX_b, tst_t, cond_true, cond_false, Ex.same, Nat.beq, List.length_cons, List.length_nil, Int.toNat_natCast, beqTT, beqTF, beqFT, beqFF, Int.lt_irrefl, decide_false]
  · have h := hl.at hx
    have h' := h
    rw [E112] at h
    obtain ⟨na0, ra0, rfl, pa0, h_a0⟩ := inv_i h
    obtain ⟨sa1, ra1, rfl, pa1, h_a1⟩ := inv_s h_a0
    obtain ⟨na2, ra2, rfl, pa2, h_a2⟩ := inv_i h_a1
    obtain ⟨la3, ra3, rfl, pa3, h_a3⟩ := inv_sl W9 h_a2
    obtain ⟨la4, ra4, rfl, pa4, h_a4⟩ := inv_sl W112 h_a3
    cases inv_nil h_a4
    simp only [l144x0s]
    simp -implicitDefEqProofs only [cI, cB, cS, cL, oD_d, oG_g, oT_t, oP_p, dI_v, dB_v, dS_v, dL_s, cell_z, cell_s, nth_z, nth_s, aV_z, aV_s, aI_v, aB_v, aS_v, aL_f, aO_o, aX_b, tst_t, cond_true, cond_false, Ex.same, Nat.beq, List.length_cons, List.length_nil, Int.toNat_natCast, beqTT, beqTF, beqFT, beqFF, decide_eq_true (Int.ofNat_lt.2 hi), dec_nn, look_at hx, wrap_succ hi hl.1]
    refine sz_call (fr121 (by assumption) m hm0 (by omega) _ rfl) fun m1 q1 z1 => ?_
    exact k m1 q1 (by first | omega | (simp only [wtRow, wtD] at *; omega))
termination_by W
decreasing_by all_goals (try have := wt_at hx); (try simp only [wtRow, wtD] at *); omega
end
theorem f121 {row : Row} (h : ShL E (E 112) row) (left : Int) (h0 : 0 ≤ left) (h1 : left ≤ big) : SzF fs 121 (.g row) left (wtRow row) := fr121 h left h0 h1 _ rfl
theorem f144 {l : Rows} (hl : SL E 112 l) (left : Int) (h0 : 0 ≤ left) (h1 : left ≤ big) : SzF fs 144 (.d (.s 5 l)) left (l.length + wtRows l) := fr144 hl left h0 h1 _ rfl
/- loop.example/g00119/laws.szWork -/
theorem f76 {row : Row} (h : ShL E (E 114) row) (left : Int) (h0 : 0 ≤ left) (h1 : left ≤ big) : SzF fs 76 (.g row) left (wtRow row) := by
  rw [E114] at h
  obtain ⟨na0, ra0, rfl, pa0, h_a0⟩ := inv_i h
  obtain ⟨na1, ra1, rfl, pa1, h_a1⟩ := inv_i h_a0
  obtain ⟨na2, ra2, rfl, pa2, h_a2⟩ := inv_i h_a1
  obtain ⟨sa3, ra3, rfl, pa3, h_a3⟩ := inv_s h_a2
  obtain ⟨na4, ra4, rfl, pa4, h_a4⟩ := inv_i h_a3
  obtain ⟨la5, ra5, rfl, pa5, h_a5⟩ := inv_sl W9 h_a4
  obtain ⟨la6, ra6, rfl, pa6, h_a6⟩ := inv_sl W112 h_a5
  cases inv_nil h_a6
  refine SzF.of (af := a76) rfl rfl (fun d n => a76q ..) ?_
  refine sz_call (f121 (by rw [E112]; exact mk_i (by assumption) (mk_s (by assumption) (mk_i (by assumption) (mk_sl W9 (by assumption) (mk_sl W112 (by assumption) (ShL.nil)))))) left h0 (by omega)) fun m1 q1 z1 => ?_
  exact sz_ret q1 (by first | omega | (simp only [wtRow, wtD] at *; omega))
/- loop.example/g00119/laws.szWorkS -/
theorem f32 {l : Rows} (hl : SL E 114 l) (left : Int) (h0 : 0 ≤ left) (h1 : left ≤ big) : SzF fs 32 (.d (.s 7 l)) left (l.length + wtRows l) := by
  refine sz_rows (fun d n m i => l32x0 (TabD fs d) d n [.fz 7 l, .v (.int .i64 m), .v (.int .i64 i)]) (af := a32) rfl rfl (fun d m => a32q ..) hl.1 (fun d n m => ?_) (fun i x m Q hi hx hm0 hm1 k => ?_) left h0 h1
  · rw [l32x0s]
    simp -implicitDefEqProofs only [cI, cB, cS, cL, oD_d, oG_g, oT_t, oP_p, dI_v, dB_v, dS_v, dL_s, cell_z, cell_s, nth_z, nth_s, aV_z, aV_s, aI_v, aB_v, aS_v, aL_f, aO_o, aX_b, tst_t, cond_true, cond_false, Ex.same, Nat.beq, List.length_cons, List.length_nil, Int.toNat_natCast, beqTT, beqTF, beqFT, beqFF, Int.lt_irrefl, decide_false]
  · have h := hl.at hx
    have h' := h
    rw [E114] at h
    obtain ⟨na0, ra0, rfl, pa0, h_a0⟩ := inv_i h
    obtain ⟨na1, ra1, rfl, pa1, h_a1⟩ := inv_i h_a0
    obtain ⟨na2, ra2, rfl, pa2, h_a2⟩ := inv_i h_a1
    obtain ⟨sa3, ra3, rfl, pa3, h_a3⟩ := inv_s h_a2
    obtain ⟨na4, ra4, rfl, pa4, h_a4⟩ := inv_i h_a3
    obtain ⟨la5, ra5, rfl, pa5, h_a5⟩ := inv_sl W9 h_a4
    obtain ⟨la6, ra6, rfl, pa6, h_a6⟩ := inv_sl W112 h_a5
    cases inv_nil h_a6
    simp only [l32x0s]
    simp -implicitDefEqProofs only [cI, cB, cS, cL, oD_d, oG_g, oT_t, oP_p, dI_v, dB_v, dS_v, dL_s, cell_z, cell_s, nth_z, nth_s, aV_z, aV_s, aI_v, aB_v, aS_v, aL_f, aO_o, aX_b, tst_t, cond_true, cond_false, Ex.same, Nat.beq, List.length_cons, List.length_nil, Int.toNat_natCast, beqTT, beqTF, beqFT, beqFF, decide_eq_true (Int.ofNat_lt.2 hi), dec_nn, look_at hx, wrap_succ hi hl.1]
    refine sz_call (f76 (by assumption) m hm0 (by omega)) fun m1 q1 z1 => ?_
    exact k m1 q1 (by first | omega | (simp only [wtRow, wtD] at *; omega))
/- loop.example/g00119/laws.szRunS -/
theorem f33 {l : Rows} (hl : SL E 129 l) (left : Int) (h0 : 0 ≤ left) (h1 : left ≤ big) : SzF fs 33 (.d (.s 2 l)) left (l.length + wtRows l) := by
  have hz : wtRows l = 0 := wt_flat fun x hx => by
    have h := hl.2.mem x hx
    rw [E129] at h
    obtain ⟨na0, ra0, rfl, pa0, h_a0⟩ := inv_i h
    obtain ⟨na1, ra1, rfl, pa1, h_a1⟩ := inv_i h_a0
    cases inv_nil h_a1
    rfl
  refine SzF.of (af := a33) rfl rfl (fun d n => a33q ..) (sz_str h0 h1 hl.1 fun m hm0 hm1 hm2 => ?_)
  rw [hm0]
  exact sz_ret hm1 (by omega)
/- loop.example/g00119/laws.szIsle -/
theorem f7 {row : Row} (h : ShL E (E 25) row) (left : Int) (h0 : 0 ≤ left) (h1 : left ≤ big) : SzF fs 7 (.g row) left (wtRow row) := by
  rw [E25] at h
  obtain ⟨sa0, ra0, rfl, pa0, h_a0⟩ := inv_s h
  obtain ⟨na1, ra1, rfl, pa1, h_a1⟩ := inv_i h_a0
  obtain ⟨na2, ra2, rfl, pa2, h_a2⟩ := inv_i h_a1
  obtain ⟨la3, ra3, rfl, pa3, h_a3⟩ := inv_sl W114 h_a2
  obtain ⟨la4, ra4, rfl, pa4, h_a4⟩ := inv_sl W129 h_a3
  cases inv_nil h_a4
  refine SzF.of (af := a7) rfl rfl (fun d n => a7q ..) ?_
  refine sz_str h0 (by omega) (by assumption) fun m1 e1 q1 z1 => ?_
  simp only [e1]
  refine sz_call (f32 (by assumption) m1 q1 (by omega)) fun m2 q2 z2 => ?_
  refine sz_call (f33 (by assumption) m2 q2 (by omega)) fun m3 q3 z3 => ?_
  exact sz_ret q3 (by first | omega | (simp only [wtRow, wtD] at *; omega))
end Go.Am.As
