/- What the functions of one family say in the end. Nothing is assumed. -/
import Derived.Test.YtapjklbchbgiaaaSpH
namespace Go.Am.Sp
set_option linter.unusedVariables false
set_option linter.unusedSimpArgs false
set_option maxRecDepth 8000
/- loop.example/g00119/laws.szStringS -/
theorem f51 {l : Rows} (hl : SL E 9 l) (left : Int) (h0 : 0 ≤ left) (h1 : left ≤ big) : SzF fs 51 (.d (.s 1 l)) left (l.length + wtRows l) := by
  refine sz_rows (fun d n m i => l51x0 (TabD fs d) d n [.fz 1 l, .v (.int .i64 m), .v (.int .i64 i)]) (af := a51) rfl rfl (fun d m => a51q ..) hl.1 (fun d n m => ?_) (fun i x m Q hi hx hm0 hm1 k => ?_) left h0 h1
  · rw [l51x0s]
    simp -implicitDefEqProofs only [cI, cB, cS, cL, oD_d, oG_g, oT_t, oP_p, dI_v, dB_v, dS_v, dL_s, cell_z, cell_s, nth_z, nth_s, aV_z, aV_s, aI_v, aB_v, aS_v, aL_f, aO_o, aX_b, tst_t, cond_true, cond_false, Ex.same, Nat.beq, List.length_cons, List.length_nil, Int.toNat_natCast, beqTT, beqTF, beqFT, beqFF, Int.lt_irrefl, decide_false]
  · have h := hl.at hx
    have h' := h
    rw [E9] at h
    obtain ⟨sa0, ra0, rfl, pa0, h_a0⟩ := inv_s h
    cases inv_nil h_a0
    simp only [l51x0s]
    simp -implicitDefEqProofs only [cI, cB, cS, cL, oD_d, oG_g, oT_t, oP_p, dI_v, dB_v, dS_v, dL_s, cell_z, cell_s, nth_z, nth_s, aV_z, aV_s, aI_v, aB_v, aS_v, aL_f, aO_o, aX_b, tst_t, cond_true, cond_false, Ex.same, Nat.beq, List.length_cons, List.length_nil, Int.toNat_natCast, beqTT, beqTF, beqFT, beqFF, decide_eq_true (Int.ofNat_lt.2 hi), dec_nn, look_at hx, wrap_succ hi hl.1]
    refine sz_str hm0 (by omega) (by assumption) fun m1 e1 q1 z1 => ?_
    simp only [e1]
    exact k m1 q1 (by first | omega | (simp only [wtRow, wtD] at *; omega))
/- loop.example/g00119/laws.szValueS -/
mutual
theorem fr121 {row : Row} (h : ShL E (E 112) row) (left : Int) (h0 : 0 ≤ left) (h1 : left ≤ big) (W : Nat) (hW : 2 * wtRow row + 1 = W) : SzF fs 121 (.g row) left (wtRow row) := by
  rw [E112] at h
  obtain ⟨na0, ra0, rfl, pa0, h_a0⟩ := inv_i h
  obtain ⟨sa1, ra1, rfl, pa1, h_a1⟩ := inv_s h_a0
  obtain ⟨na2, ra2, rfl, pa2, h_a2⟩ := inv_i h_a1
  obtain ⟨la3, ra3, rfl, pa3, h_a3⟩ := inv_sl W9 h_a2
  obtain ⟨la4, ra4, rfl, pa4, h_a4⟩ := inv_sl W112 h_a3
  cases inv_nil h_a4
  refine SzF.of (af := a121) rfl rfl (fun d n => a121q ..) ?_
  refine sz_str h0 (by omega) (by assumption) fun m1 e1 q1 z1 => ?_
  simp only [e1]
  refine sz_call (f51 (by assumption) m1 q1 (by omega)) fun m2 q2 z2 => ?_
  refine sz_call (fr144 (by assumption) m2 q2 (by omega) _ rfl) fun m3 q3 z3 => ?_
  exact sz_ret q3 (by first | omega | (simp only [wtRow, wtD] at *; omega))
termination_by W
decreasing_by all_goals (try have := wt_at hx); (try simp only [wtRow, wtD] at *); omega
theorem fr144 {l : Rows} (hl : SL E 112 l) (left : Int) (h0 : 0 ≤ left) (h1 : left ≤ big) (W : Nat) (hW : 2 * (l.length + wtRows l) = W) : SzF fs 144 (.d (.s 5 l)) left (l.length + wtRows l) := by
  refine sz_rows (fun d n m i => l144x0 (TabD fs d) d n [.fz 5 l, .v (.int .i64 m), .v (.int .i64 i)]) (af := a144) rfl rfl (fun d m => a144q ..) hl.1 (fun d n m => ?_) (fun i x m Q hi hx hm0 hm1 k => ?_) left h0 h1
  · rw [l144x0s]
    simp -implicitDefEqProofs only [cI, cB, cS, cL, oD_d, oG_g, oT_t, oP_p, dI_v, dB_v, dS_v, dL_s, cell_z, cell_s, nth_z, nth_s, aV_z, aV_s, aI_v, aB_v, aS_v, aL_f, aO_o, aX_b, tst_t, cond_true, cond_false, Ex.same, Nat.beq, List.length_cons, List.length_nil, Int.toNat_natCast, beqTT, beqTF, beqFT, beqFF, Int.lt_irrefl, decide_false]
  · have h := hl.at hx
    have h' := h
    rw [E112] at h
    obtain ⟨na0, ra0, rfl, pa0, h_a0⟩ := inv_i h
    obtain ⟨sa1, ra1, rfl, pa1, h_a1⟩ := inv_s h_a0
    obtain ⟨na2, ra2, rfl, pa2, h_a2⟩ := inv_i h_a1
    obtain ⟨la3, ra3, rfl, pa3, h_a3⟩ := inv_sl W9 h_a2
    obtain ⟨la4, ra4, rfl, pa4, h_a4⟩ := inv_sl W112 h_a3
    cases inv_nil h_a4
    simp only [l144x0s]
    simp -implicitDefEqProofs only [cI, cB, cS, cL, oD_d, oG_g, oT_t, oP_p, dI_v, dB_v, dS_v, dL_s, cell_z, cell_s, nth_z, nth_s, aV_z, aV_s, aI_v, aB_v, aS_v, aL_f, aO_o, aX_b, tst_t, cond_true, cond_false, Ex.same, Nat.beq, List.length_cons, List.length_nil, Int.toNat_natCast, beqTT, beqTF, beqFT, beqFF, decide_eq_true (Int.ofNat_lt.2 hi), dec_nn, look_at hx, wrap_succ hi hl.1]
    refine sz_call (fr121 (by assumption) m hm0 (by omega) _ rfl) fun m1 q1 z1 => ?_
    exact k m1 q1 (by first | omega | (simp only [wtRow, wtD] at *; omega))
termination_by W
decreasing_by all_goals (try have := wt_at hx); (try simp only [wtRow, wtD] at *); omega
end
theorem f121 {row : Row} (h : ShL E (E 112) row) (left : Int) (h0 : 0 ≤ left) (h1 : left ≤ big) : SzF fs 121 (.g row) left (wtRow row) := fr121 h left h0 h1 _ rfl
theorem f144 {l : Rows} (hl : SL E 112 l) (left : Int) (h0 : 0 ≤ left) (h1 : left ≤ big) : SzF fs 144 (.d (.s 5 l)) left (l.length + wtRows l) := fr144 hl left h0 h1 _ rfl
/- loop.example/g00119/laws.szTerm -/
theorem f169 {row : Row} (h : ShL E (E 239) row) (left : Int) (h0 : 0 ≤ left) (h1 : left ≤ big) : SzF fs 169 (.g row) left (wtRow row) := by
  rw [E239] at h
  obtain ⟨na0, ra0, rfl, pa0, h_a0⟩ := inv_i h
  obtain ⟨sa1, ra1, rfl, pa1, h_a1⟩ := inv_s h_a0
  obtain ⟨la2, ra2, rfl, pa2, h_a2⟩ := inv_sl W9 h_a1
  cases inv_nil h_a2
  refine SzF.of (af := a169) rfl rfl (fun d n => a169q ..) ?_
  refine sz_str h0 (by omega) (by assumption) fun m1 e1 q1 z1 => ?_
  simp only [e1]
  refine sz_call (f51 (by assumption) m1 q1 (by omega)) fun m2 q2 z2 => ?_
  exact sz_ret q2 (by first | omega | (simp only [wtRow, wtD] at *; omega))
/- loop.example/g00119/laws.szTermS -/
theorem f150 {l : Rows} (hl : SL E 239 l) (left : Int) (h0 : 0 ≤ left) (h1 : left ≤ big) : SzF fs 150 (.d (.s 3 l)) left (l.length + wtRows l) := by
  refine sz_rows (fun d n m i => l150x0 (TabD fs d) d n [.fz 3 l, .v (.int .i64 m), .v (.int .i64 i)]) (af := a150) rfl rfl (fun d m => a150q ..) hl.1 (fun d n m => ?_) (fun i x m Q hi hx hm0 hm1 k => ?_) left h0 h1
  · rw [l150x0s]
    simp -implicitDefEqProofs only [cI, cB, cS, cL, oD_d, oG_g, oT_t, oP_p, dI_v, dB_v, dS_v, dL_s, cell_z, cell_s, nth_z, nth_s, aV_z, aV_s, aI_v, aB_v, aS_v, aL_f, aO_o, aX_b, tst_t, cond_true, cond_false, Ex.same, Nat.beq, List.length_cons, List.length_nil, Int.toNat_natCast, beqTT, beqTF, beqFT, beqFF, Int.lt_irrefl, decide_false]
  · have h := hl.at hx
    have h' := h
    rw [E239] at h
    obtain ⟨na0, ra0, rfl, pa0, h_a0⟩ := inv_i h
    obtain ⟨sa1, ra1, rfl, pa1, h_a1⟩ := inv_s h_a0
    obtain ⟨la2, ra2, rfl, pa2, h_a2⟩ := inv_sl W9 h_a1
    cases inv_nil h_a2
    simp only [l150x0s]
    simp -implicitDefEqProofs only [cI, cB, cS, cL, oD_d, oG_g, oT_t, oP_p, dI_v, dB_v, dS_v, dL_s, cell_z, cell_s, nth_z, nth_s, aV_z, aV_s, aI_v, aB_v, aS_v, aL_f, aO_o, aX_b, tst_t, cond_true, cond_false, Ex.same, Nat.beq, List.length_cons, List.length_nil, Int.toNat_natCast, beqTT, beqTF, beqFT, beqFF, decide_eq_true (Int.ofNat_lt.2 hi), dec_nn, look_at hx, wrap_succ hi hl.1]
    refine sz_call (f169 (by assumption) m hm0 (by omega)) fun m1 q1 z1 => ?_
    exact k m1 q1 (by first | omega | (simp only [wtRow, wtD] at *; omega))
/- loop.example/g00119/laws.szWeigh -/
theorem f170 {row : Row} (h : ShL E (E 241) row) (left : Int) (h0 : 0 ≤ left) (h1 : left ≤ big) : SzF fs 170 (.g row) left (wtRow row) := by
  rw [E241] at h
  obtain ⟨sa0, ra0, rfl, pa0, h_a0⟩ := inv_s h
  obtain ⟨na1, ra1, rfl, pa1, h_a1⟩ := inv_i h_a0
  cases inv_nil h_a1
  refine SzF.of (af := a170) rfl rfl (fun d n => a170q ..) ?_
  refine sz_str h0 (by omega) (by assumption) fun m1 e1 q1 z1 => ?_
  simp only [e1]
  exact sz_ret q1 (by first | omega | (simp only [wtRow, wtD] at *; omega))
/- loop.example/g00119/laws.szWeighS -/
theorem f151 {l : Rows} (hl : SL E 241 l) (left : Int) (h0 : 0 ≤ left) (h1 : left ≤ big) : SzF fs 151 (.d (.s 2 l)) left (l.length + wtRows l) := by
  refine sz_rows (fun d n m i => l151x0 (TabD fs d) d n [.fz 2 l, .v (.int .i64 m), .v (.int .i64 i)]) (af := a151) rfl rfl (fun d m => a151q ..) hl.1 (fun d n m => ?_) (fun i x m Q hi hx hm0 hm1 k => ?_) left h0 h1
  · rw [l151x0s]
    simp -implicitDefEqProofs only [cI, cB, cS, cL, oD_d, oG_g, oT_t, oP_p, dI_v, dB_v, dS_v, dL_s, cell_z, cell_s, nth_z, nth_s, aV_z, aV_s, aI_v, aB_v, aS_v, aL_f, aO_o, aX_b, tst_t, cond_true, cond_false, Ex.same, Nat.beq, List.length_cons, List.length_nil, Int.toNat_natCast, beqTT, beqTF, beqFT, beqFF, Int.lt_irrefl, decide_false]
  · have h := hl.at hx
    have h' := h
    rw [E241] at h
    obtain ⟨sa0, ra0, rfl, pa0, h_a0⟩ := inv_s h
    obtain ⟨na1, ra1, rfl, pa1, h_a1⟩ := inv_i h_a0
    cases inv_nil h_a1
    simp only [l151x0s]
    simp -implicitDefEqProofs only [cI, cB, cS, cL, oD_d, oG_g, oT_t, oP_p, dI_v, dB_v, dS_v, dL_s, cell_z, cell_s, nth_z, nth_s, aV_z, aV_s, aI_v, aB_v, aS_v, aL_f, aO_o, aX_b, tst_t, cond_true, cond_false, Ex.same, Nat.beq, List.length_cons, List.length_nil, Int.toNat_natCast, beqTT, beqTF, beqFT, beqFF, decide_eq_true (Int.ofNat_lt.2 hi), dec_nn, look_at hx, wrap_succ hi hl.1]
    refine sz_call (f170 (by assumption) m hm0 (by omega)) fun m1 q1 z1 => ?_
    exact k m1 q1 (by first | omega | (simp only [wtRow, wtD] at *; omega))
/- loop.example/g00119/laws.szWant -/
theorem f128 {row : Row} (h : ShL E (E 139) row) (left : Int) (h0 : 0 ≤ left) (h1 : left ≤ big) : SzF fs 128 (.g row) left (wtRow row) := by
  rw [E139] at h
  obtain ⟨na0, ra0, rfl, pa0, h_a0⟩ := inv_i h
  obtain ⟨la1, ra1, rfl, pa1, h_a1⟩ := inv_sl W239 h_a0
  obtain ⟨la2, ra2, rfl, pa2, h_a2⟩ := inv_sl W9 h_a1
  obtain ⟨la3, ra3, rfl, pa3, h_a3⟩ := inv_sl W241 h_a2
  cases inv_nil h_a3
  refine SzF.of (af := a128) rfl rfl (fun d n => a128q ..) ?_
  refine sz_call (f150 (by assumption) left h0 (by omega)) fun m1 q1 z1 => ?_
  refine sz_call (f51 (by assumption) m1 q1 (by omega)) fun m2 q2 z2 => ?_
  refine sz_call (f151 (by assumption) m2 q2 (by omega)) fun m3 q3 z3 => ?_
  exact sz_ret q3 (by first | omega | (simp only [wtRow, wtD] at *; omega))
/- loop.example/g00119/laws.szOp -/
theorem f184 {row : Row} (h : ShL E (E 256) row) (left : Int) (h0 : 0 ≤ left) (h1 : left ≤ big) : SzF fs 184 (.g row) left (wtRow row) := by
  rw [E256] at h
  obtain ⟨na0, ra0, rfl, pa0, h_a0⟩ := inv_i h
  obtain ⟨la1, ra1, rfl, pa1, h_a1⟩ := inv_sl W9 h_a0
  obtain ⟨na2, ra2, rfl, pa2, h_a2⟩ := inv_i h_a1
  obtain ⟨sa3, ra3, rfl, pa3, h_a3⟩ := inv_s h_a2
  obtain ⟨na4, ra4, rfl, pa4, h_a4⟩ := inv_i h_a3
  obtain ⟨la5, ra5, rfl, pa5, h_a5⟩ := inv_sl W9 h_a4
  obtain ⟨la6, ra6, rfl, pa6, h_a6⟩ := inv_sl W112 h_a5
  cases inv_nil h_a6
  refine SzF.of (af := a184) rfl rfl (fun d n => a184q ..) ?_
  refine sz_call (f51 (by assumption) left h0 (by omega)) fun m1 q1 z1 => ?_
  refine sz_call (f121 (by rw [E112]; exact mk_i (by assumption) (mk_s (by assumption) (mk_i (by assumption) (mk_sl W9 (by assumption) (mk_sl W112 (by assumption) (ShL.nil)))))) m1 q1 (by omega)) fun m2 q2 z2 => ?_
  exact sz_ret q2 (by first | omega | (simp only [wtRow, wtD] at *; omega))
/- loop.example/g00119/laws.szOpS -/
theorem f171 {l : Rows} (hl : SL E 256 l) (left : Int) (h0 : 0 ≤ left) (h1 : left ≤ big) : SzF fs 171 (.d (.s 7 l)) left (l.length + wtRows l) := by
  refine sz_rows (fun d n m i => l171x0 (TabD fs d) d n [.fz 7 l, .v (.int .i64 m), .v (.int .i64 i)]) (af := a171) rfl rfl (fun d m => a171q ..) hl.1 (fun d n m => ?_) (fun i x m Q hi hx hm0 hm1 k => ?_) left h0 h1
  · rw [l171x0s]
    simp -implicitDefEqProofs only [cI, cB, cS, cL, oD_d, oG_g, oT_t, oP_p, dI_v, dB_v, dS_v, dL_s, cell_z, cell_s, nth_z, nth_s, aV_z, aV_s, aI_v, aB_v, aS_v, aL_f, aO_o, aX_b, tst_t, cond_true, cond_false, Ex.same, Nat.beq, List.length_cons, List.length_nil, Int.toNat_natCast, beqTT, beqTF, beqFT, beqFF, Int.lt_irrefl, decide_false]
  · have h := hl.at hx
    have h' := h
    rw [E256] at h
    obtain ⟨na0, ra0, rfl, pa0, h_a0⟩ := inv_i h
    obtain ⟨la1, ra1, rfl, pa1, h_a1⟩ := inv_sl W9 h_a0
    obtain ⟨na2, ra2, rfl, pa2, h_a2⟩ := inv_i h_a1
    obtain ⟨sa3, ra3, rfl, pa3, h_a3⟩ := inv_s h_a2
    obtain ⟨na4, ra4, rfl, pa4, h_a4⟩ := inv_i h_a3
    obtain ⟨la5, ra5, rfl, pa5, h_a5⟩ := inv_sl W9 h_a4
    obtain ⟨la6, ra6, rfl, pa6, h_a6⟩ := inv_sl W112 h_a5
    cases inv_nil h_a6
    simp only [l171x0s]
    simp -implicitDefEqProofs only [cI, cB, cS, cL, oD_d, oG_g, oT_t, oP_p, dI_v, dB_v, dS_v, dL_s, cell_z, cell_s, nth_z, nth_s, aV_z, aV_s, aI_v, aB_v, aS_v, aL_f, aO_o, aX_b, tst_t, cond_true, cond_false, Ex.same, Nat.beq, List.length_cons, List.length_nil, Int.toNat_natCast, beqTT, beqTF, beqFT, beqFF, decide_eq_true (Int.ofNat_lt.2 hi), dec_nn, look_at hx, wrap_succ hi hl.1]
    refine sz_call (f184 (by assumption) m hm0 (by omega)) fun m1 q1 z1 => ?_
    exact k m1 q1 (by first | omega | (simp only [wtRow, wtD] at *; omega))
/- loop.example/g00119/laws.szOver -/
theorem f152 {row : Row} (h : ShL E (E 223) row) (left : Int) (h0 : 0 ≤ left) (h1 : left ≤ big) : SzF fs 152 (.g row) left (wtRow row) := by
  rw [E223] at h
  obtain ⟨sa0, ra0, rfl, pa0, h_a0⟩ := inv_s h
  obtain ⟨la1, ra1, rfl, pa1, h_a1⟩ := inv_sl W256 h_a0
  cases inv_nil h_a1
  refine SzF.of (af := a152) rfl rfl (fun d n => a152q ..) ?_
  refine sz_str h0 (by omega) (by assumption) fun m1 e1 q1 z1 => ?_
  simp only [e1]
  refine sz_call (f171 (by assumption) m1 q1 (by omega)) fun m2 q2 z2 => ?_
  exact sz_ret q2 (by first | omega | (simp only [wtRow, wtD] at *; omega))
/- loop.example/g00119/laws.szOverS -/
theorem f129 {l : Rows} (hl : SL E 223 l) (left : Int) (h0 : 0 ≤ left) (h1 : left ≤ big) : SzF fs 129 (.d (.s 2 l)) left (l.length + wtRows l) := by
  refine sz_rows (fun d n m i => l129x0 (TabD fs d) d n [.fz 2 l, .v (.int .i64 m), .v (.int .i64 i)]) (af := a129) rfl rfl (fun d m => a129q ..) hl.1 (fun d n m => ?_) (fun i x m Q hi hx hm0 hm1 k => ?_) left h0 h1
  · rw [l129x0s]
    simp -implicitDefEqProofs only [cI, cB, cS, cL, oD_d, oG_g, oT_t, oP_p, dI_v, dB_v, dS_v, dL_s, cell_z, cell_s, nth_z, nth_s, aV_z, aV_s, aI_v, aB_v, aS_v, aL_f, aO_o, aX_b, tst_t, cond_true, cond_false, Ex.same, Nat.beq, List.length_cons, List.length_nil, Int.toNat_natCast, beqTT, beqTF, beqFT, beqFF, Int.lt_irrefl, decide_false]
  · have h := hl.at hx
    have h' := h
    rw [E223] at h
    obtain ⟨sa0, ra0, rfl, pa0, h_a0⟩ := inv_s h
    obtain ⟨la1, ra1, rfl, pa1, h_a1⟩ := inv_sl W256 h_a0
    cases inv_nil h_a1
    simp only [l129x0s]
    simp -implicitDefEqProofs only [cI, cB, cS, cL, oD_d, oG_g, oT_t, oP_p, dI_v, dB_v, dS_v, dL_s, cell_z, cell_s, nth_z, nth_s, aV_z, aV_s, aI_v, aB_v, aS_v, aL_f, aO_o, aX_b, tst_t, cond_true, cond_false, Ex.same, Nat.beq, List.length_cons, List.length_nil, Int.toNat_natCast, beqTT, beqTF, beqFT, beqFF, decide_eq_true (Int.ofNat_lt.2 hi), dec_nn, look_at hx, wrap_succ hi hl.1]
    refine sz_call (f152 (by assumption) m hm0 (by omega)) fun m1 q1 z1 => ?_
    exact k m1 q1 (by first | omega | (simp only [wtRow, wtD] at *; omega))
/- loop.example/g00119/laws.szJob -/
theorem f95 {row : Row} (h : ShL E (E 142) row) (left : Int) (h0 : 0 ≤ left) (h1 : left ≤ big) : SzF fs 95 (.g row) left (wtRow row) := by
  rw [E142] at h
  obtain ⟨na0, ra0, rfl, pa0, h_a0⟩ := inv_i h
  obtain ⟨sa1, ra1, rfl, pa1, h_a1⟩ := inv_s h_a0
  obtain ⟨na2, ra2, rfl, pa2, h_a2⟩ := inv_i h_a1
  obtain ⟨la3, ra3, rfl, pa3, h_a3⟩ := inv_sl W239 h_a2
  obtain ⟨la4, ra4, rfl, pa4, h_a4⟩ := inv_sl W9 h_a3
  obtain ⟨la5, ra5, rfl, pa5, h_a5⟩ := inv_sl W241 h_a4
  obtain ⟨na6, ra6, rfl, pa6, h_a6⟩ := inv_i h_a5
  obtain ⟨sa7, ra7, rfl, pa7, h_a7⟩ := inv_s h_a6
  obtain ⟨na8, ra8, rfl, pa8, h_a8⟩ := inv_i h_a7
  obtain ⟨la9, ra9, rfl, pa9, h_a9⟩ := inv_sl W9 h_a8
  obtain ⟨la10, ra10, rfl, pa10, h_a10⟩ := inv_sl W112 h_a9
  obtain ⟨la11, ra11, rfl, pa11, h_a11⟩ := inv_sl W223 h_a10
  obtain ⟨ba12, ra12, rfl, h_a12⟩ := inv_b h_a11
  cases inv_nil h_a12
  refine SzF.of (af := a95) rfl rfl (fun d n => a95q ..) ?_
  refine sz_str h0 (by omega) (by assumption) fun m1 e1 q1 z1 => ?_
  simp only [e1]
  refine sz_call (f128 (by rw [E139]; exact mk_i (by assumption) (mk_sl W239 (by assumption) (mk_sl W9 (by assumption) (mk_sl W241 (by assumption) (ShL.nil))))) m1 q1 (by omega)) fun m2 q2 z2 => ?_
  refine sz_call (f121 (by rw [E112]; exact mk_i (by assumption) (mk_s (by assumption) (mk_i (by assumption) (mk_sl W9 (by assumption) (mk_sl W112 (by assumption) (ShL.nil)))))) m2 q2 (by omega)) fun m3 q3 z3 => ?_
  refine sz_call (f129 (by assumption) m3 q3 (by omega)) fun m4 q4 z4 => ?_
  exact sz_ret q4 (by first | omega | (simp only [wtRow, wtD] at *; omega))
/- loop.example/g00119/laws.szJobS -/
theorem f48 {l : Rows} (hl : SL E 142 l) (left : Int) (h0 : 0 ≤ left) (h1 : left ≤ big) : SzF fs 48 (.d (.s 13 l)) left (l.length + wtRows l) := by
  refine sz_rows (fun d n m i => l48x0 (TabD fs d) d n [.fz 13 l, .v (.int .i64 m), .v (.int .i64 i)]) (af := a48) rfl rfl (fun d m => a48q ..) hl.1 (fun d n m => ?_) (fun i x m Q hi hx hm0 hm1 k => ?_) left h0 h1
  · rw [l48x0s]
    simp -implicitDefEqProofs only [cI, cB, cS, cL, oD_d, oG_g, oT_t, oP_p, dI_v, dB_v, dS_v, dL_s, cell_z, cell_s, nth_z, nth_s, aV_z, aV_s, aI_v, aB_v, aS_v, aL_f, aO_o, aX_b, tst_t, cond_true, cond_false, Ex.same, Nat.beq, List.length_cons, List.length_nil, Int.toNat_natCast, beqTT, beqTF, beqFT, beqFF, Int.lt_irrefl, decide_false]
  · have h := hl.at hx
    have h' := h
    rw [E142] at h
    obtain ⟨na0, ra0, rfl, pa0, h_a0⟩ := inv_i h
    obtain ⟨sa1, ra1, rfl, pa1, h_a1⟩ := inv_s h_a0
    obtain ⟨na2, ra2, rfl, pa2, h_a2⟩ := inv_i h_a1
    obtain ⟨la3, ra3, rfl, pa3, h_a3⟩ := inv_sl W239 h_a2
    obtain ⟨la4, ra4, rfl, pa4, h_a4⟩ := inv_sl W9 h_a3
    obtain ⟨la5, ra5, rfl, pa5, h_a5⟩ := inv_sl W241 h_a4
    obtain ⟨na6, ra6, rfl, pa6, h_a6⟩ := inv_i h_a5
    obtain ⟨sa7, ra7, rfl, pa7, h_a7⟩ := inv_s h_a6
    obtain ⟨na8, ra8, rfl, pa8, h_a8⟩ := inv_i h_a7
    obtain ⟨la9, ra9, rfl, pa9, h_a9⟩ := inv_sl W9 h_a8
    obtain ⟨la10, ra10, rfl, pa10, h_a10⟩ := inv_sl W112 h_a9
    obtain ⟨la11, ra11, rfl, pa11, h_a11⟩ := inv_sl W223 h_a10
    obtain ⟨ba12, ra12, rfl, h_a12⟩ := inv_b h_a11
    cases inv_nil h_a12
    simp only [l48x0s]
    simp -implicitDefEqProofs only [cI, cB, cS, cL, oD_d, oG_g, oT_t, oP_p, dI_v, dB_v, dS_v, dL_s, cell_z, cell_s, nth_z, nth_s, aV_z, aV_s, aI_v, aB_v, aS_v, aL_f, aO_o, aX_b, tst_t, cond_true, cond_false, Ex.same, Nat.beq, List.length_cons, List.length_nil, Int.toNat_natCast, beqTT, beqTF, beqFT, beqFF, decide_eq_true (Int.ofNat_lt.2 hi), dec_nn, look_at hx, wrap_succ hi hl.1]
    refine sz_call (f95 (by assumption) m hm0 (by omega)) fun m1 q1 z1 => ?_
    exact k m1 q1 (by first | omega | (simp only [wtRow, wtD] at *; omega))
/- loop.example/g00119/laws.szLabel -/
theorem f172 {row : Row} (h : ShL E (E 244) row) (left : Int) (h0 : 0 ≤ left) (h1 : left ≤ big) : SzF fs 172 (.g row) left (wtRow row) := by
  rw [E244] at h
  obtain ⟨sa0, ra0, rfl, pa0, h_a0⟩ := inv_s h
  obtain ⟨sa1, ra1, rfl, pa1, h_a1⟩ := inv_s h_a0
  cases inv_nil h_a1
  refine SzF.of (af := a172) rfl rfl (fun d n => a172q ..) ?_
  refine sz_str h0 (by omega) (by assumption) fun m1 e1 q1 z1 => ?_
  simp only [e1]
  refine sz_str q1 (by omega) (by assumption) fun m2 e2 q2 z2 => ?_
  simp only [e2]
  exact sz_ret q2 (by first | omega | (simp only [wtRow, wtD] at *; omega))
/- loop.example/g00119/laws.szLabelS -/
theorem f153 {l : Rows} (hl : SL E 244 l) (left : Int) (h0 : 0 ≤ left) (h1 : left ≤ big) : SzF fs 153 (.d (.s 2 l)) left (l.length + wtRows l) := by
  refine sz_rows (fun d n m i => l153x0 (TabD fs d) d n [.fz 2 l, .v (.int .i64 m), .v (.int .i64 i)]) (af := a153) rfl rfl (fun d m => a153q ..) hl.1 (fun d n m => ?_) (fun i x m Q hi hx hm0 hm1 k => ?_) left h0 h1
  · rw [l153x0s]
    simp -implicitDefEqProofs only [cI, cB, cS, cL, oD_d, oG_g, oT_t, oP_p, dI_v, dB_v, dS_v, dL_s, cell_z, cell_s, nth_z, nth_s, aV_z, aV_s, aI_v, aB_v, aS_v, aL_f, aO_o, aX_b, tst_t, cond_true, cond_false, Ex.same, Nat.beq, List.length_cons, List.length_nil, Int.toNat_natCast, beqTT, beqTF, beqFT, beqFF, Int.lt_irrefl, decide_false]
  · have h := hl.at hx
    have h' := h
    rw [E244] at h
    obtain ⟨sa0, ra0, rfl, pa0, h_a0⟩ := inv_s h
    obtain ⟨sa1, ra1, rfl, pa1, h_a1⟩ := inv_s h_a0
    cases inv_nil h_a1
    simp only [l153x0s]
    simp -implicitDefEqProofs only [cI, cB, cS, cL, oD_d, oG_g, oT_t, oP_p, dI_v, dB_v, dS_v, dL_s, cell_z, cell_s, nth_z, nth_s, aV_z, aV_s, aI_v, aB_v, aS_v, aL_f, aO_o, aX_b, tst_t, cond_true, cond_false, Ex.same, Nat.beq, List.length_cons, List.length_nil, Int.toNat_natCast, beqTT, beqTF, beqFT, beqFF, decide_eq_true (Int.ofNat_lt.2 hi), dec_nn, look_at hx, wrap_succ hi hl.1]
    refine sz_call (f172 (by assumption) m hm0 (by omega)) fun m1 q1 z1 => ?_
    exact k m1 q1 (by first | omega | (simp only [wtRow, wtD] at *; omega))
/- loop.example/g00119/laws.szIsland -/
theorem f130 {row : Row} (h : ShL E (E 146) row) (left : Int) (h0 : 0 ≤ left) (h1 : left ≤ big) : SzF fs 130 (.g row) left (wtRow row) := by
  rw [E146] at h
  obtain ⟨sa0, ra0, rfl, pa0, h_a0⟩ := inv_s h
  obtain ⟨la1, ra1, rfl, pa1, h_a1⟩ := inv_sl W244 h_a0
  obtain ⟨la2, ra2, rfl, pa2, h_a2⟩ := inv_sl W9 h_a1
  obtain ⟨na3, ra3, rfl, pa3, h_a3⟩ := inv_i h_a2
  cases inv_nil h_a3
  refine SzF.of (af := a130) rfl rfl (fun d n => a130q ..) ?_
  refine sz_str h0 (by omega) (by assumption) fun m1 e1 q1 z1 => ?_
  simp only [e1]
  refine sz_call (f153 (by assumption) m1 q1 (by omega)) fun m2 q2 z2 => ?_
  refine sz_call (f51 (by assumption) m2 q2 (by omega)) fun m3 q3 z3 => ?_
  exact sz_ret q3 (by first | omega | (simp only [wtRow, wtD] at *; omega))
/- loop.example/g00119/laws.szPost -/
theorem f96 {row : Row} (h : ShL E (E 148) row) (left : Int) (h0 : 0 ≤ left) (h1 : left ≤ big) : SzF fs 96 (.g row) left (wtRow row) := by
  rw [E148] at h
  obtain ⟨sa0, ra0, rfl, pa0, h_a0⟩ := inv_s h
  obtain ⟨la1, ra1, rfl, pa1, h_a1⟩ := inv_sl W244 h_a0
  obtain ⟨la2, ra2, rfl, pa2, h_a2⟩ := inv_sl W9 h_a1
  obtain ⟨na3, ra3, rfl, pa3, h_a3⟩ := inv_i h_a2
  obtain ⟨na4, ra4, rfl, pa4, h_a4⟩ := inv_i h_a3
  obtain ⟨na5, ra5, rfl, pa5, h_a5⟩ := inv_i h_a4
  cases inv_nil h_a5
  refine SzF.of (af := a96) rfl rfl (fun d n => a96q ..) ?_
  refine sz_call (f130 (by rw [E146]; exact mk_s (by assumption) (mk_sl W244 (by assumption) (mk_sl W9 (by assumption) (mk_i (by assumption) (ShL.nil))))) left h0 (by omega)) fun m1 q1 z1 => ?_
  exact sz_ret q1 (by first | omega | (simp only [wtRow, wtD] at *; omega))
/- loop.example/g00119/laws.szPostS -/
theorem f49 {l : Rows} (hl : SL E 148 l) (left : Int) (h0 : 0 ≤ left) (h1 : left ≤ big) : SzF fs 49 (.d (.s 6 l)) left (l.length + wtRows l) := by
  refine sz_rows (fun d n m i => l49x0 (TabD fs d) d n [.fz 6 l, .v (.int .i64 m), .v (.int .i64 i)]) (af := a49) rfl rfl (fun d m => a49q ..) hl.1 (fun d n m => ?_) (fun i x m Q hi hx hm0 hm1 k => ?_) left h0 h1
  · rw [l49x0s]
    simp -implicitDefEqProofs only [cI, cB, cS, cL, oD_d, oG_g, oT_t, oP_p, dI_v, dB_v, dS_v, dL_s, cell_z, cell_s, nth_z, nth_s, aV_z, aV_s, aI_v, aB_v, aS_v, aL_f, aO_o, aX_b, tst_t, cond_true, cond_false, Ex.same, Nat.beq, List.length_cons, List.length_nil, Int.toNat_natCast, beqTT, beqTF, beqFT, beqFF, Int.lt_irrefl, decide_false]
  · have h := hl.at hx
    have h' := h
    rw [E148] at h
    obtain ⟨sa0, ra0, rfl, pa0, h_a0⟩ := inv_s h
    obtain ⟨la1, ra1, rfl, pa1, h_a1⟩ := inv_sl W244 h_a0
    obtain ⟨la2, ra2, rfl, pa2, h_a2⟩ := inv_sl W9 h_a1
    obtain ⟨na3, ra3, rfl, pa3, h_a3⟩ := inv_i h_a2
    obtain ⟨na4, ra4, rfl, pa4, h_a4⟩ := inv_i h_a3
    obtain ⟨na5, ra5, rfl, pa5, h_a5⟩ := inv_i h_a4
    cases inv_nil h_a5
    simp only [l49x0s]
    simp -implicitDefEqProofs only [cI, cB, cS, cL, oD_d, oG_g, oT_t, oP_p, dI_v, dB_v, dS_v, dL_s, cell_z, cell_s, nth_z, nth_s, aV_z, aV_s, aI_v, aB_v, aS_v, aL_f, aO_o, aX_b, tst_t, cond_true, cond_false, Ex.same, Nat.beq, List.length_cons, List.length_nil, Int.toNat_natCast, beqTT, beqTF, beqFT, beqFF, decide_eq_true (Int.ofNat_lt.2 hi), dec_nn, look_at hx, wrap_succ hi hl.1]
    refine sz_call (f96 (by assumption) m hm0 (by omega)) fun m1 q1 z1 => ?_
    exact k m1 q1 (by first | omega | (simp only [wtRow, wtD] at *; omega))
/- loop.example/g00119/laws.szHold -/
theorem f97 {row : Row} (h : ShL E (E 150) row) (left : Int) (h0 : 0 ≤ left) (h1 : left ≤ big) : SzF fs 97 (.g row) left (wtRow row) := by
  rw [E150] at h
  obtain ⟨na0, ra0, rfl, pa0, h_a0⟩ := inv_i h
  obtain ⟨sa1, ra1, rfl, pa1, h_a1⟩ := inv_s h_a0
  obtain ⟨na2, ra2, rfl, pa2, h_a2⟩ := inv_i h_a1
  obtain ⟨na3, ra3, rfl, pa3, h_a3⟩ := inv_i h_a2
  obtain ⟨na4, ra4, rfl, pa4, h_a4⟩ := inv_i h_a3
  cases inv_nil h_a4
  refine SzF.of (af := a97) rfl rfl (fun d n => a97q ..) ?_
  refine sz_str h0 (by omega) (by assumption) fun m1 e1 q1 z1 => ?_
  simp only [e1]
  exact sz_ret q1 (by first | omega | (simp only [wtRow, wtD] at *; omega))
/- loop.example/g00119/laws.szHoldS -/
theorem f50 {l : Rows} (hl : SL E 150 l) (left : Int) (h0 : 0 ≤ left) (h1 : left ≤ big) : SzF fs 50 (.d (.s 5 l)) left (l.length + wtRows l) := by
  refine sz_rows (fun d n m i => l50x0 (TabD fs d) d n [.fz 5 l, .v (.int .i64 m), .v (.int .i64 i)]) (af := a50) rfl rfl (fun d m => a50q ..) hl.1 (fun d n m => ?_) (fun i x m Q hi hx hm0 hm1 k => ?_) left h0 h1
  · rw [l50x0s]
    simp -implicitDefEqProofs only [cI, cB, cS, cL, oD_d, oG_g, oT_t, oP_p, dI_v, dB_v, dS_v, dL_s, cell_z, cell_s, nth_z, nth_s, aV_z, aV_s, aI_v, aB_v, aS_v, aL_f, aO_o, aX_b, tst_t, cond_true, cond_false, Ex.same, Nat.beq, List.length_cons, List.length_nil, Int.toNat_natCast, beqTT, beqTF, beqFT, beqFF, Int.lt_irrefl, decide_false]
  · have h := hl.at hx
    have h' := h
    rw [E150] at h
    obtain ⟨na0, ra0, rfl, pa0, h_a0⟩ := inv_i h
    obtain ⟨sa1, ra1, rfl, pa1, h_a1⟩ := inv_s h_a0
    obtain ⟨na2, ra2, rfl, pa2, h_a2⟩ := inv_i h_a1
    obtain ⟨na3, ra3, rfl, pa3, h_a3⟩ := inv_i h_a2
    obtain ⟨na4, ra4, rfl, pa4, h_a4⟩ := inv_i h_a3
    cases inv_nil h_a4
    simp only [l50x0s]
    simp -implicitDefEqProofs only [cI, cB, cS, cL, oD_d, oG_g, oT_t, oP_p, dI_v, dB_v, dS_v, dL_s, cell_z, cell_s, nth_z, nth_s, aV_z, aV_s, aI_v, aB_v, aS_v, aL_f, aO_o, aX_b, tst_t, cond_true, cond_false, Ex.same, Nat.beq, List.length_cons, List.length_nil, Int.toNat_natCast, beqTT, beqTF, beqFT, beqFF, decide_eq_true (Int.ofNat_lt.2 hi), dec_nn, look_at hx, wrap_succ hi hl.1]
    refine sz_call (f97 (by assumption) m hm0 (by omega)) fun m1 q1 z1 => ?_
    exact k m1 q1 (by first | omega | (simp only [wtRow, wtD] at *; omega))
/- loop.example/g00119/laws.szHub -/
theorem f18 {row : Row} (h : ShL E (E 50) row) (left : Int) (h0 : 0 ≤ left) (h1 : left ≤ big) : SzF fs 18 (.g row) left (wtRow row) := by
  rw [E50] at h
  obtain ⟨na0, ra0, rfl, pa0, h_a0⟩ := inv_i h
  obtain ⟨na1, ra1, rfl, pa1, h_a1⟩ := inv_i h_a0
  obtain ⟨na2, ra2, rfl, pa2, h_a2⟩ := inv_i h_a1
  obtain ⟨la3, ra3, rfl, pa3, h_a3⟩ := inv_sl W142 h_a2
  obtain ⟨la4, ra4, rfl, pa4, h_a4⟩ := inv_sl W148 h_a3
  obtain ⟨la5, ra5, rfl, pa5, h_a5⟩ := inv_sl W150 h_a4
  obtain ⟨la6, ra6, rfl, pa6, h_a6⟩ := inv_sl W9 h_a5
  cases inv_nil h_a6
  refine SzF.of (af := a18) rfl rfl (fun d n => a18q ..) ?_
  refine sz_call (f48 (by assumption) left h0 (by omega)) fun m1 q1 z1 => ?_
  refine sz_call (f49 (by assumption) m1 q1 (by omega)) fun m2 q2 z2 => ?_
  refine sz_call (f50 (by assumption) m2 q2 (by omega)) fun m3 q3 z3 => ?_
  refine sz_call (f51 (by assumption) m3 q3 (by omega)) fun m4 q4 z4 => ?_
  exact sz_ret q4 (by first | omega | (simp only [wtRow, wtD] at *; omega))
end Go.Am.Sp
