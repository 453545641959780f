/- What the functions of one family say in the end. Nothing is assumed. -/
import Derived.Test.YtapjklbchbgiaaaGreatIsH
namespace Go.Am.Is
set_option linter.unusedVariables false
set_option linter.unusedSimpArgs false
set_option maxRecDepth 8000
/- loop.example/g00119/laws.szStringS -/
theorem f50 {l : Rows} (hl : SL E 9 l) (left : Int) (h0 : 0 ≤ left) (h1 : left ≤ big) : SzF fs 50 (.d (.s 1 l)) left (l.length + wtRows l) := by
  refine sz_rows (fun d n m i => l50x0 (TabD fs d) d n [.fz 1 l, .v (.int .i64 m), .v (.int .i64 i)]) (af := a50) rfl rfl (fun d m => a50q ..) hl.1 (fun d n m => ?_) (fun i x m Q hi hx hm0 hm1 k => ?_) left h0 h1
  · rw [l50x0s]
    simp -implicitDefEqProofs only [cI, cB, cS, cL, oD_d, oG_g, oT_t, oP_p, dI_v, dB_v, dS_v, dL_s, cell_z, cell_s, nth_z, nth_s, aV_z, aV_s, aI_v, aB_v, aS_v, aL_f, aO_o, aX_b, tst_t, cond_true, cond_false, Ex.same, Nat.beq, List.length_cons, List.length_nil, Int.toNat_natCast, beqTT, beqTF, beqFT, beqFF, Int.lt_irrefl, decide_false]
  · have h := hl.at hx
    have h' := h
    rw [E9] at h
    obtain ⟨sa0, ra0, rfl, pa0, h_a0⟩ := inv_s h
    cases inv_nil h_a0
    simp only [l50x0s]
    simp -implicitDefEqProofs only [cI, cB, cS, cL, oD_d, oG_g, oT_t, oP_p, dI_v, dB_v, dS_v, dL_s, cell_z, cell_s, nth_z, nth_s, aV_z, aV_s, aI_v, aB_v, aS_v, aL_f, aO_o, aX_b, tst_t, cond_true, cond_false, Ex.same, Nat.beq, List.length_cons, List.length_nil, Int.toNat_natCast, beqTT, beqTF, beqFT, beqFF, decide_eq_true (Int.ofNat_lt.2 hi), dec_nn, look_at hx, wrap_succ hi hl.1]
    refine sz_str hm0 (by omega) (by assumption) fun m1 e1 q1 z1 => ?_
    simp only [e1]
    exact k m1 q1 (by first | omega | (simp only [wtRow, wtD] at *; omega))
/- loop.example/g00119/laws.szTerm -/
theorem f275 {row : Row} (h : ShL E (E 318) row) (left : Int) (h0 : 0 ≤ left) (h1 : left ≤ big) : SzF fs 275 (.g row) left (wtRow row) := by
  rw [E318] at h
  obtain ⟨na0, ra0, rfl, pa0, h_a0⟩ := inv_i h
  obtain ⟨sa1, ra1, rfl, pa1, h_a1⟩ := inv_s h_a0
  obtain ⟨la2, ra2, rfl, pa2, h_a2⟩ := inv_sl W9 h_a1
  cases inv_nil h_a2
  refine SzF.of (af := a275) rfl rfl (fun d n => a275q ..) ?_
  refine sz_str h0 (by omega) (by assumption) fun m1 e1 q1 z1 => ?_
  simp only [e1]
  refine sz_call (f50 (by assumption) m1 q1 (by omega)) fun m2 q2 z2 => ?_
  exact sz_ret q2 (by first | omega | (simp only [wtRow, wtD] at *; omega))
/- loop.example/g00119/laws.szTermS -/
theorem f173 {l : Rows} (hl : SL E 318 l) (left : Int) (h0 : 0 ≤ left) (h1 : left ≤ big) : SzF fs 173 (.d (.s 3 l)) left (l.length + wtRows l) := by
  refine sz_rows (fun d n m i => l173x0 (TabD fs d) d n [.fz 3 l, .v (.int .i64 m), .v (.int .i64 i)]) (af := a173) rfl rfl (fun d m => a173q ..) hl.1 (fun d n m => ?_) (fun i x m Q hi hx hm0 hm1 k => ?_) left h0 h1
  · rw [l173x0s]
    simp -implicitDefEqProofs only [cI, cB, cS, cL, oD_d, oG_g, oT_t, oP_p, dI_v, dB_v, dS_v, dL_s, cell_z, cell_s, nth_z, nth_s, aV_z, aV_s, aI_v, aB_v, aS_v, aL_f, aO_o, aX_b, tst_t, cond_true, cond_false, Ex.same, Nat.beq, List.length_cons, List.length_nil, Int.toNat_natCast, beqTT, beqTF, beqFT, beqFF, Int.lt_irrefl, decide_false]
  · have h := hl.at hx
    have h' := h
    rw [E318] at h
    obtain ⟨na0, ra0, rfl, pa0, h_a0⟩ := inv_i h
    obtain ⟨sa1, ra1, rfl, pa1, h_a1⟩ := inv_s h_a0
    obtain ⟨la2, ra2, rfl, pa2, h_a2⟩ := inv_sl W9 h_a1
    cases inv_nil h_a2
    simp only [l173x0s]
    simp -implicitDefEqProofs only [cI, cB, cS, cL, oD_d, oG_g, oT_t, oP_p, dI_v, dB_v, dS_v, dL_s, cell_z, cell_s, nth_z, nth_s, aV_z, aV_s, aI_v, aB_v, aS_v, aL_f, aO_o, aX_b, tst_t, cond_true, cond_false, Ex.same, Nat.beq, List.length_cons, List.length_nil, Int.toNat_natCast, beqTT, beqTF, beqFT, beqFF, decide_eq_true (Int.ofNat_lt.2 hi), dec_nn, look_at hx, wrap_succ hi hl.1]
    refine sz_call (f275 (by assumption) m hm0 (by omega)) fun m1 q1 z1 => ?_
    exact k m1 q1 (by first | omega | (simp only [wtRow, wtD] at *; omega))
/- loop.example/g00119/laws.szWeigh -/
theorem f276 {row : Row} (h : ShL E (E 320) row) (left : Int) (h0 : 0 ≤ left) (h1 : left ≤ big) : SzF fs 276 (.g row) left (wtRow row) := by
  rw [E320] at h
  obtain ⟨sa0, ra0, rfl, pa0, h_a0⟩ := inv_s h
  obtain ⟨na1, ra1, rfl, pa1, h_a1⟩ := inv_i h_a0
  cases inv_nil h_a1
  refine SzF.of (af := a276) rfl rfl (fun d n => a276q ..) ?_
  refine sz_str h0 (by omega) (by assumption) fun m1 e1 q1 z1 => ?_
  simp only [e1]
  exact sz_ret q1 (by first | omega | (simp only [wtRow, wtD] at *; omega))
/- loop.example/g00119/laws.szWeighS -/
theorem f174 {l : Rows} (hl : SL E 320 l) (left : Int) (h0 : 0 ≤ left) (h1 : left ≤ big) : SzF fs 174 (.d (.s 2 l)) left (l.length + wtRows l) := by
  refine sz_rows (fun d n m i => l174x0 (TabD fs d) d n [.fz 2 l, .v (.int .i64 m), .v (.int .i64 i)]) (af := a174) rfl rfl (fun d m => a174q ..) hl.1 (fun d n m => ?_) (fun i x m Q hi hx hm0 hm1 k => ?_) left h0 h1
  · rw [l174x0s]
    simp -implicitDefEqProofs only [cI, cB, cS, cL, oD_d, oG_g, oT_t, oP_p, dI_v, dB_v, dS_v, dL_s, cell_z, cell_s, nth_z, nth_s, aV_z, aV_s, aI_v, aB_v, aS_v, aL_f, aO_o, aX_b, tst_t, cond_true, cond_false, Ex.same, Nat.beq, List.length_cons, List.length_nil, Int.toNat_natCast, beqTT, beqTF, beqFT, beqFF, Int.lt_irrefl, decide_false]
  · have h := hl.at hx
    have h' := h
    rw [E320] at h
    obtain ⟨sa0, ra0, rfl, pa0, h_a0⟩ := inv_s h
    obtain ⟨na1, ra1, rfl, pa1, h_a1⟩ := inv_i h_a0
    cases inv_nil h_a1
    simp only [l174x0s]
    simp -implicitDefEqProofs only [cI, cB, cS, cL, oD_d, oG_g, oT_t, oP_p, dI_v, dB_v, dS_v, dL_s, cell_z, cell_s, nth_z, nth_s, aV_z, aV_s, aI_v, aB_v, aS_v, aL_f, aO_o, aX_b, tst_t, cond_true, cond_false, Ex.same, Nat.beq, List.length_cons, List.length_nil, Int.toNat_natCast, beqTT, beqTF, beqFT, beqFF, decide_eq_true (Int.ofNat_lt.2 hi), dec_nn, look_at hx, wrap_succ hi hl.1]
    refine sz_call (f276 (by assumption) m hm0 (by omega)) fun m1 q1 z1 => ?_
    exact k m1 q1 (by first | omega | (simp only [wtRow, wtD] at *; omega))
/- loop.example/g00119/laws.szWant -/
theorem f67 {row : Row} (h : ShL E (E 45) row) (left : Int) (h0 : 0 ≤ left) (h1 : left ≤ big) : SzF fs 67 (.g row) left (wtRow row) := by
  rw [E45] at h
  obtain ⟨na0, ra0, rfl, pa0, h_a0⟩ := inv_i h
  obtain ⟨la1, ra1, rfl, pa1, h_a1⟩ := inv_sl W318 h_a0
  obtain ⟨la2, ra2, rfl, pa2, h_a2⟩ := inv_sl W9 h_a1
  obtain ⟨la3, ra3, rfl, pa3, h_a3⟩ := inv_sl W320 h_a2
  cases inv_nil h_a3
  refine SzF.of (af := a67) rfl rfl (fun d n => a67q ..) ?_
  refine sz_call (f173 (by assumption) left h0 (by omega)) fun m1 q1 z1 => ?_
  refine sz_call (f50 (by assumption) m1 q1 (by omega)) fun m2 q2 z2 => ?_
  refine sz_call (f174 (by assumption) m2 q2 (by omega)) fun m3 q3 z3 => ?_
  exact sz_ret q3 (by first | omega | (simp only [wtRow, wtD] at *; omega))
/- loop.example/g00119/laws.szValueS -/
mutual
theorem fr68 {row : Row} (h : ShL E (E 48) row) (left : Int) (h0 : 0 ≤ left) (h1 : left ≤ big) (W : Nat) (hW : 2 * wtRow row + 1 = W) : SzF fs 68 (.g row) left (wtRow row) := by
  rw [E48] at h
  obtain ⟨na0, ra0, rfl, pa0, h_a0⟩ := inv_i h
  obtain ⟨sa1, ra1, rfl, pa1, h_a1⟩ := inv_s h_a0
  obtain ⟨na2, ra2, rfl, pa2, h_a2⟩ := inv_i h_a1
  obtain ⟨la3, ra3, rfl, pa3, h_a3⟩ := inv_sl W9 h_a2
  obtain ⟨la4, ra4, rfl, pa4, h_a4⟩ := inv_sl W48 h_a3
  cases inv_nil h_a4
  refine SzF.of (af := a68) rfl rfl (fun d n => a68q ..) ?_
  refine sz_str h0 (by omega) (by assumption) fun m1 e1 q1 z1 => ?_
  simp only [e1]
  refine sz_call (f50 (by assumption) m1 q1 (by omega)) fun m2 q2 z2 => ?_
  refine sz_call (fr175 (by assumption) m2 q2 (by omega) _ rfl) fun m3 q3 z3 => ?_
  exact sz_ret q3 (by first | omega | (simp only [wtRow, wtD] at *; omega))
termination_by W
decreasing_by all_goals (try have := wt_at hx); (try simp only [wtRow, wtD] at *); omega
theorem fr175 {l : Rows} (hl : SL E 48 l) (left : Int) (h0 : 0 ≤ left) (h1 : left ≤ big) (W : Nat) (hW : 2 * (l.length + wtRows l) = W) : SzF fs 175 (.d (.s 5 l)) left (l.length + wtRows l) := by
  refine sz_rows (fun d n m i => l175x0 (TabD fs d) d n [.fz 5 l, .v (.int .i64 m), .v (.int .i64 i)]) (af := a175) rfl rfl (fun d m => a175q ..) hl.1 (fun d n m => ?_) (fun i x m Q hi hx hm0 hm1 k => ?_) left h0 h1
  · rw [l175x0s]
    simp -implicitDefEqProofs only [cI, cB, cS, cL, oD_d, oG_g, oT_t, oP_p, dI_v, dB_v, dS_v, dL_s, cell_z, cell_s, nth_z, nth_s, aV_z, aV_s, aI_v, aB_v, aS_v, aL_f, aO_o, aX_b, tst_t, cond_true, cond_false, Ex.same, Nat.beq, List.length_cons, List.length_nil, Int.toNat_natCast, beqTT, beqTF, beqFT, beqFF, Int.lt_irrefl, decide_false]
  · have h := hl.at hx
    have h' := h
    rw [E48] at h
    obtain ⟨na0, ra0, rfl, pa0, h_a0⟩ := inv_i h
    obtain ⟨sa1, ra1, rfl, pa1, h_a1⟩ := inv_s h_a0
    obtain ⟨na2, ra2, rfl, pa2, h_a2⟩ := inv_i h_a1
    obtain ⟨la3, ra3, rfl, pa3, h_a3⟩ := inv_sl W9 h_a2
    obtain ⟨la4, ra4, rfl, pa4, h_a4⟩ := inv_sl W48 h_a3
    cases inv_nil h_a4
    simp only [l175x0s]
    simp -implicitDefEqProofs only [cI, cB, cS, cL, oD_d, oG_g, oT_t, oP_p, dI_v, dB_v, dS_v, dL_s, cell_z, cell_s, nth_z, nth_s, aV_z, aV_s, aI_v, aB_v, aS_v, aL_f, aO_o, aX_b, tst_t, cond_true, cond_false, Ex.same, Nat.beq, List.length_cons, List.length_nil, Int.toNat_natCast, beqTT, beqTF, beqFT, beqFF, decide_eq_true (Int.ofNat_lt.2 hi), dec_nn, look_at hx, wrap_succ hi hl.1]
    refine sz_call (fr68 (by assumption) m hm0 (by omega) _ rfl) fun m1 q1 z1 => ?_
    exact k m1 q1 (by first | omega | (simp only [wtRow, wtD] at *; omega))
termination_by W
decreasing_by all_goals (try have := wt_at hx); (try simp only [wtRow, wtD] at *); omega
end
theorem f68 {row : Row} (h : ShL E (E 48) row) (left : Int) (h0 : 0 ≤ left) (h1 : left ≤ big) : SzF fs 68 (.g row) left (wtRow row) := fr68 h left h0 h1 _ rfl
theorem f175 {l : Rows} (hl : SL E 48 l) (left : Int) (h0 : 0 ≤ left) (h1 : left ≤ big) : SzF fs 175 (.d (.s 5 l)) left (l.length + wtRows l) := fr175 hl left h0 h1 _ rfl
/- loop.example/g00119/laws.szOp -/
theorem f344 {row : Row} (h : ShL E (E 376) row) (left : Int) (h0 : 0 ≤ left) (h1 : left ≤ big) : SzF fs 344 (.g row) left (wtRow row) := by
  rw [E376] at h
  obtain ⟨na0, ra0, rfl, pa0, h_a0⟩ := inv_i h
  obtain ⟨la1, ra1, rfl, pa1, h_a1⟩ := inv_sl W9 h_a0
  obtain ⟨na2, ra2, rfl, pa2, h_a2⟩ := inv_i h_a1
  obtain ⟨sa3, ra3, rfl, pa3, h_a3⟩ := inv_s h_a2
  obtain ⟨na4, ra4, rfl, pa4, h_a4⟩ := inv_i h_a3
  obtain ⟨la5, ra5, rfl, pa5, h_a5⟩ := inv_sl W9 h_a4
  obtain ⟨la6, ra6, rfl, pa6, h_a6⟩ := inv_sl W48 h_a5
  cases inv_nil h_a6
  refine SzF.of (af := a344) rfl rfl (fun d n => a344q ..) ?_
  refine sz_call (f50 (by assumption) left h0 (by omega)) fun m1 q1 z1 => ?_
  refine sz_call (f68 (by rw [E48]; exact mk_i (by assumption) (mk_s (by assumption) (mk_i (by assumption) (mk_sl W9 (by assumption) (mk_sl W48 (by assumption) (ShL.nil)))))) m1 q1 (by omega)) fun m2 q2 z2 => ?_
  exact sz_ret q2 (by first | omega | (simp only [wtRow, wtD] at *; omega))
/- loop.example/g00119/laws.szOpS -/
theorem f277 {l : Rows} (hl : SL E 376 l) (left : Int) (h0 : 0 ≤ left) (h1 : left ≤ big) : SzF fs 277 (.d (.s 7 l)) left (l.length + wtRows l) := by
  refine sz_rows (fun d n m i => l277x0 (TabD fs d) d n [.fz 7 l, .v (.int .i64 m), .v (.int .i64 i)]) (af := a277) rfl rfl (fun d m => a277q ..) hl.1 (fun d n m => ?_) (fun i x m Q hi hx hm0 hm1 k => ?_) left h0 h1
  · rw [l277x0s]
    simp -implicitDefEqProofs only [cI, cB, cS, cL, oD_d, oG_g, oT_t, oP_p, dI_v, dB_v, dS_v, dL_s, cell_z, cell_s, nth_z, nth_s, aV_z, aV_s, aI_v, aB_v, aS_v, aL_f, aO_o, aX_b, tst_t, cond_true, cond_false, Ex.same, Nat.beq, List.length_cons, List.length_nil, Int.toNat_natCast, beqTT, beqTF, beqFT, beqFF, Int.lt_irrefl, decide_false]
  · have h := hl.at hx
    have h' := h
    rw [E376] at h
    obtain ⟨na0, ra0, rfl, pa0, h_a0⟩ := inv_i h
    obtain ⟨la1, ra1, rfl, pa1, h_a1⟩ := inv_sl W9 h_a0
    obtain ⟨na2, ra2, rfl, pa2, h_a2⟩ := inv_i h_a1
    obtain ⟨sa3, ra3, rfl, pa3, h_a3⟩ := inv_s h_a2
    obtain ⟨na4, ra4, rfl, pa4, h_a4⟩ := inv_i h_a3
    obtain ⟨la5, ra5, rfl, pa5, h_a5⟩ := inv_sl W9 h_a4
    obtain ⟨la6, ra6, rfl, pa6, h_a6⟩ := inv_sl W48 h_a5
    cases inv_nil h_a6
    simp only [l277x0s]
    simp -implicitDefEqProofs only [cI, cB, cS, cL, oD_d, oG_g, oT_t, oP_p, dI_v, dB_v, dS_v, dL_s, cell_z, cell_s, nth_z, nth_s, aV_z, aV_s, aI_v, aB_v, aS_v, aL_f, aO_o, aX_b, tst_t, cond_true, cond_false, Ex.same, Nat.beq, List.length_cons, List.length_nil, Int.toNat_natCast, beqTT, beqTF, beqFT, beqFF, decide_eq_true (Int.ofNat_lt.2 hi), dec_nn, look_at hx, wrap_succ hi hl.1]
    refine sz_call (f344 (by assumption) m hm0 (by omega)) fun m1 q1 z1 => ?_
    exact k m1 q1 (by first | omega | (simp only [wtRow, wtD] at *; omega))
/- loop.example/g00119/laws.szOver -/
theorem f176 {row : Row} (h : ShL E (E 225) row) (left : Int) (h0 : 0 ≤ left) (h1 : left ≤ big) : SzF fs 176 (.g row) left (wtRow row) := by
  rw [E225] at h
  obtain ⟨sa0, ra0, rfl, pa0, h_a0⟩ := inv_s h
  obtain ⟨la1, ra1, rfl, pa1, h_a1⟩ := inv_sl W376 h_a0
  cases inv_nil h_a1
  refine SzF.of (af := a176) rfl rfl (fun d n => a176q ..) ?_
  refine sz_str h0 (by omega) (by assumption) fun m1 e1 q1 z1 => ?_
  simp only [e1]
  refine sz_call (f277 (by assumption) m1 q1 (by omega)) fun m2 q2 z2 => ?_
  exact sz_ret q2 (by first | omega | (simp only [wtRow, wtD] at *; omega))
/- loop.example/g00119/laws.szOverS -/
theorem f69 {l : Rows} (hl : SL E 225 l) (left : Int) (h0 : 0 ≤ left) (h1 : left ≤ big) : SzF fs 69 (.d (.s 2 l)) left (l.length + wtRows l) := by
  refine sz_rows (fun d n m i => l69x0 (TabD fs d) d n [.fz 2 l, .v (.int .i64 m), .v (.int .i64 i)]) (af := a69) rfl rfl (fun d m => a69q ..) hl.1 (fun d n m => ?_) (fun i x m Q hi hx hm0 hm1 k => ?_) left h0 h1
  · rw [l69x0s]
    simp -implicitDefEqProofs only [cI, cB, cS, cL, oD_d, oG_g, oT_t, oP_p, dI_v, dB_v, dS_v, dL_s, cell_z, cell_s, nth_z, nth_s, aV_z, aV_s, aI_v, aB_v, aS_v, aL_f, aO_o, aX_b, tst_t, cond_true, cond_false, Ex.same, Nat.beq, List.length_cons, List.length_nil, Int.toNat_natCast, beqTT, beqTF, beqFT, beqFF, Int.lt_irrefl, decide_false]
  · have h := hl.at hx
    have h' := h
    rw [E225] at h
    obtain ⟨sa0, ra0, rfl, pa0, h_a0⟩ := inv_s h
    obtain ⟨la1, ra1, rfl, pa1, h_a1⟩ := inv_sl W376 h_a0
    cases inv_nil h_a1
    simp only [l69x0s]
    simp -implicitDefEqProofs only [cI, cB, cS, cL, oD_d, oG_g, oT_t, oP_p, dI_v, dB_v, dS_v, dL_s, cell_z, cell_s, nth_z, nth_s, aV_z, aV_s, aI_v, aB_v, aS_v, aL_f, aO_o, aX_b, tst_t, cond_true, cond_false, Ex.same, Nat.beq, List.length_cons, List.length_nil, Int.toNat_natCast, beqTT, beqTF, beqFT, beqFF, decide_eq_true (Int.ofNat_lt.2 hi), dec_nn, look_at hx, wrap_succ hi hl.1]
    refine sz_call (f176 (by assumption) m hm0 (by omega)) fun m1 q1 z1 => ?_
    exact k m1 q1 (by first | omega | (simp only [wtRow, wtD] at *; omega))
/- loop.example/g00119/laws.szJob -/
theorem f156 {row : Row} (h : ShL E (E 201) row) (left : Int) (h0 : 0 ≤ left) (h1 : left ≤ big) : SzF fs 156 (.g row) left (wtRow row) := by
  rw [E201] at h
  obtain ⟨na0, ra0, rfl, pa0, h_a0⟩ := inv_i h
  obtain ⟨sa1, ra1, rfl, pa1, h_a1⟩ := inv_s h_a0
  obtain ⟨na2, ra2, rfl, pa2, h_a2⟩ := inv_i h_a1
  obtain ⟨la3, ra3, rfl, pa3, h_a3⟩ := inv_sl W318 h_a2
  obtain ⟨la4, ra4, rfl, pa4, h_a4⟩ := inv_sl W9 h_a3
  obtain ⟨la5, ra5, rfl, pa5, h_a5⟩ := inv_sl W320 h_a4
  obtain ⟨na6, ra6, rfl, pa6, h_a6⟩ := inv_i h_a5
  obtain ⟨sa7, ra7, rfl, pa7, h_a7⟩ := inv_s h_a6
  obtain ⟨na8, ra8, rfl, pa8, h_a8⟩ := inv_i h_a7
  obtain ⟨la9, ra9, rfl, pa9, h_a9⟩ := inv_sl W9 h_a8
  obtain ⟨la10, ra10, rfl, pa10, h_a10⟩ := inv_sl W48 h_a9
  obtain ⟨la11, ra11, rfl, pa11, h_a11⟩ := inv_sl W225 h_a10
  obtain ⟨ba12, ra12, rfl, h_a12⟩ := inv_b h_a11
  cases inv_nil h_a12
  refine SzF.of (af := a156) rfl rfl (fun d n => a156q ..) ?_
  refine sz_str h0 (by omega) (by assumption) fun m1 e1 q1 z1 => ?_
  simp only [e1]
  refine sz_call (f67 (by rw [E45]; exact mk_i (by assumption) (mk_sl W318 (by assumption) (mk_sl W9 (by assumption) (mk_sl W320 (by assumption) (ShL.nil))))) m1 q1 (by omega)) fun m2 q2 z2 => ?_
  refine sz_call (f68 (by rw [E48]; exact mk_i (by assumption) (mk_s (by assumption) (mk_i (by assumption) (mk_sl W9 (by assumption) (mk_sl W48 (by assumption) (ShL.nil)))))) m2 q2 (by omega)) fun m3 q3 z3 => ?_
  refine sz_call (f69 (by assumption) m3 q3 (by omega)) fun m4 q4 z4 => ?_
  exact sz_ret q4 (by first | omega | (simp only [wtRow, wtD] at *; omega))
/- loop.example/g00119/laws.szJobS -/
theorem f47 {l : Rows} (hl : SL E 201 l) (left : Int) (h0 : 0 ≤ left) (h1 : left ≤ big) : SzF fs 47 (.d (.s 13 l)) left (l.length + wtRows l) := by
  refine sz_rows (fun d n m i => l47x0 (TabD fs d) d n [.fz 13 l, .v (.int .i64 m), .v (.int .i64 i)]) (af := a47) rfl rfl (fun d m => a47q ..) hl.1 (fun d n m => ?_) (fun i x m Q hi hx hm0 hm1 k => ?_) left h0 h1
  · rw [l47x0s]
    simp -implicitDefEqProofs only [cI, cB, cS, cL, oD_d, oG_g, oT_t, oP_p, dI_v, dB_v, dS_v, dL_s, cell_z, cell_s, nth_z, nth_s, aV_z, aV_s, aI_v, aB_v, aS_v, aL_f, aO_o, aX_b, tst_t, cond_true, cond_false, Ex.same, Nat.beq, List.length_cons, List.length_nil, Int.toNat_natCast, beqTT, beqTF, beqFT, beqFF, Int.lt_irrefl, decide_false]
  · have h := hl.at hx
    have h' := h
    rw [E201] at h
    obtain ⟨na0, ra0, rfl, pa0, h_a0⟩ := inv_i h
    obtain ⟨sa1, ra1, rfl, pa1, h_a1⟩ := inv_s h_a0
    obtain ⟨na2, ra2, rfl, pa2, h_a2⟩ := inv_i h_a1
    obtain ⟨la3, ra3, rfl, pa3, h_a3⟩ := inv_sl W318 h_a2
    obtain ⟨la4, ra4, rfl, pa4, h_a4⟩ := inv_sl W9 h_a3
    obtain ⟨la5, ra5, rfl, pa5, h_a5⟩ := inv_sl W320 h_a4
    obtain ⟨na6, ra6, rfl, pa6, h_a6⟩ := inv_i h_a5
    obtain ⟨sa7, ra7, rfl, pa7, h_a7⟩ := inv_s h_a6
    obtain ⟨na8, ra8, rfl, pa8, h_a8⟩ := inv_i h_a7
    obtain ⟨la9, ra9, rfl, pa9, h_a9⟩ := inv_sl W9 h_a8
    obtain ⟨la10, ra10, rfl, pa10, h_a10⟩ := inv_sl W48 h_a9
    obtain ⟨la11, ra11, rfl, pa11, h_a11⟩ := inv_sl W225 h_a10
    obtain ⟨ba12, ra12, rfl, h_a12⟩ := inv_b h_a11
    cases inv_nil h_a12
    simp only [l47x0s]
    simp -implicitDefEqProofs only [cI, cB, cS, cL, oD_d, oG_g, oT_t, oP_p, dI_v, dB_v, dS_v, dL_s, cell_z, cell_s, nth_z, nth_s, aV_z, aV_s, aI_v, aB_v, aS_v, aL_f, aO_o, aX_b, tst_t, cond_true, cond_false, Ex.same, Nat.beq, List.length_cons, List.length_nil, Int.toNat_natCast, beqTT, beqTF, beqFT, beqFF, decide_eq_true (Int.ofNat_lt.2 hi), dec_nn, look_at hx, wrap_succ hi hl.1]
    refine sz_call (f156 (by assumption) m hm0 (by omega)) fun m1 q1 z1 => ?_
    exact k m1 q1 (by first | omega | (simp only [wtRow, wtD] at *; omega))
/- loop.example/g00119/laws.szLabel -/
theorem f278 {row : Row} (h : ShL E (E 323) row) (left : Int) (h0 : 0 ≤ left) (h1 : left ≤ big) : SzF fs 278 (.g row) left (wtRow row) := by
  rw [E323] at h
  obtain ⟨sa0, ra0, rfl, pa0, h_a0⟩ := inv_s h
  obtain ⟨sa1, ra1, rfl, pa1, h_a1⟩ := inv_s h_a0
  cases inv_nil h_a1
  refine SzF.of (af := a278) rfl rfl (fun d n => a278q ..) ?_
  refine sz_str h0 (by omega) (by assumption) fun m1 e1 q1 z1 => ?_
  simp only [e1]
  refine sz_str q1 (by omega) (by assumption) fun m2 e2 q2 z2 => ?_
  simp only [e2]
  exact sz_ret q2 (by first | omega | (simp only [wtRow, wtD] at *; omega))
/- loop.example/g00119/laws.szLabelS -/
theorem f177 {l : Rows} (hl : SL E 323 l) (left : Int) (h0 : 0 ≤ left) (h1 : left ≤ big) : SzF fs 177 (.d (.s 2 l)) left (l.length + wtRows l) := by
  refine sz_rows (fun d n m i => l177x0 (TabD fs d) d n [.fz 2 l, .v (.int .i64 m), .v (.int .i64 i)]) (af := a177) rfl rfl (fun d m => a177q ..) hl.1 (fun d n m => ?_) (fun i x m Q hi hx hm0 hm1 k => ?_) left h0 h1
  · rw [l177x0s]
    simp -implicitDefEqProofs only [cI, cB, cS, cL, oD_d, oG_g, oT_t, oP_p, dI_v, dB_v, dS_v, dL_s, cell_z, cell_s, nth_z, nth_s, aV_z, aV_s, aI_v, aB_v, aS_v, aL_f, aO_o, aX_b, tst_t, cond_true, cond_false, Ex.same, Nat.beq, List.length_cons, List.length_nil, Int.toNat_natCast, beqTT, beqTF, beqFT, beqFF, Int.lt_irrefl, decide_false]
  · have h := hl.at hx
    have h' := h
    rw [E323] at h
    obtain ⟨sa0, ra0, rfl, pa0, h_a0⟩ := inv_s h
    obtain ⟨sa1, ra1, rfl, pa1, h_a1⟩ := inv_s h_a0
    cases inv_nil h_a1
    simp only [l177x0s]
    simp -implicitDefEqProofs only [cI, cB, cS, cL, oD_d, oG_g, oT_t, oP_p, dI_v, dB_v, dS_v, dL_s, cell_z, cell_s, nth_z, nth_s, aV_z, aV_s, aI_v, aB_v, aS_v, aL_f, aO_o, aX_b, tst_t, cond_true, cond_false, Ex.same, Nat.beq, List.length_cons, List.length_nil, Int.toNat_natCast, beqTT, beqTF, beqFT, beqFF, decide_eq_true (Int.ofNat_lt.2 hi), dec_nn, look_at hx, wrap_succ hi hl.1]
    refine sz_call (f278 (by assumption) m hm0 (by omega)) fun m1 q1 z1 => ?_
    exact k m1 q1 (by first | omega | (simp only [wtRow, wtD] at *; omega))
/- loop.example/g00119/laws.szIsland -/
theorem f70 {row : Row} (h : ShL E (E 52) row) (left : Int) (h0 : 0 ≤ left) (h1 : left ≤ big) : SzF fs 70 (.g row) left (wtRow row) := by
  rw [E52] at h
  obtain ⟨sa0, ra0, rfl, pa0, h_a0⟩ := inv_s h
  obtain ⟨la1, ra1, rfl, pa1, h_a1⟩ := inv_sl W323 h_a0
  obtain ⟨la2, ra2, rfl, pa2, h_a2⟩ := inv_sl W9 h_a1
  obtain ⟨na3, ra3, rfl, pa3, h_a3⟩ := inv_i h_a2
  cases inv_nil h_a3
  refine SzF.of (af := a70) rfl rfl (fun d n => a70q ..) ?_
  refine sz_str h0 (by omega) (by assumption) fun m1 e1 q1 z1 => ?_
  simp only [e1]
  refine sz_call (f177 (by assumption) m1 q1 (by omega)) fun m2 q2 z2 => ?_
  refine sz_call (f50 (by assumption) m2 q2 (by omega)) fun m3 q3 z3 => ?_
  exact sz_ret q3 (by first | omega | (simp only [wtRow, wtD] at *; omega))
/- loop.example/g00119/laws.szPost -/
theorem f157 {row : Row} (h : ShL E (E 204) row) (left : Int) (h0 : 0 ≤ left) (h1 : left ≤ big) : SzF fs 157 (.g row) left (wtRow row) := by
  rw [E204] at h
  obtain ⟨sa0, ra0, rfl, pa0, h_a0⟩ := inv_s h
  obtain ⟨la1, ra1, rfl, pa1, h_a1⟩ := inv_sl W323 h_a0
  obtain ⟨la2, ra2, rfl, pa2, h_a2⟩ := inv_sl W9 h_a1
  obtain ⟨na3, ra3, rfl, pa3, h_a3⟩ := inv_i h_a2
  obtain ⟨na4, ra4, rfl, pa4, h_a4⟩ := inv_i h_a3
  obtain ⟨na5, ra5, rfl, pa5, h_a5⟩ := inv_i h_a4
  cases inv_nil h_a5
  refine SzF.of (af := a157) rfl rfl (fun d n => a157q ..) ?_
  refine sz_call (f70 (by rw [E52]; exact mk_s (by assumption) (mk_sl W323 (by assumption) (mk_sl W9 (by assumption) (mk_i (by assumption) (ShL.nil))))) left h0 (by omega)) fun m1 q1 z1 => ?_
  exact sz_ret q1 (by first | omega | (simp only [wtRow, wtD] at *; omega))
/- loop.example/g00119/laws.szPostS -/
theorem f48 {l : Rows} (hl : SL E 204 l) (left : Int) (h0 : 0 ≤ left) (h1 : left ≤ big) : SzF fs 48 (.d (.s 6 l)) left (l.length + wtRows l) := by
  refine sz_rows (fun d n m i => l48x0 (TabD fs d) d n [.fz 6 l, .v (.int .i64 m), .v (.int .i64 i)]) (af := a48) rfl rfl (fun d m => a48q ..) hl.1 (fun d n m => ?_) (fun i x m Q hi hx hm0 hm1 k => ?_) left h0 h1
  · rw [l48x0s]
    simp -implicitDefEqProofs only [cI, cB, cS, cL, oD_d, oG_g, oT_t, oP_p, dI_v, dB_v, dS_v, dL_s, cell_z, cell_s, nth_z, nth_s, aV_z, aV_s, aI_v, aB_v, aS_v, aL_f, aO_o, aX_b, tst_t, cond_true, cond_false, Ex.same, Nat.beq, List.length_cons, List.length_nil, Int.toNat_natCast, beqTT, beqTF, beqFT, beqFF, Int.lt_irrefl, decide_false]
  · have h := hl.at hx
    have h' := h
    rw [E204] at h
    obtain ⟨sa0, ra0, rfl, pa0, h_a0⟩ := inv_s h
    obtain ⟨la1, ra1, rfl, pa1, h_a1⟩ := inv_sl W323 h_a0
    obtain ⟨la2, ra2, rfl, pa2, h_a2⟩ := inv_sl W9 h_a1
    obtain ⟨na3, ra3, rfl, pa3, h_a3⟩ := inv_i h_a2
    obtain ⟨na4, ra4, rfl, pa4, h_a4⟩ := inv_i h_a3
    obtain ⟨na5, ra5, rfl, pa5, h_a5⟩ := inv_i h_a4
    cases inv_nil h_a5
    simp only [l48x0s]
    simp -implicitDefEqProofs only [cI, cB, cS, cL, oD_d, oG_g, oT_t, oP_p, dI_v, dB_v, dS_v, dL_s, cell_z, cell_s, nth_z, nth_s, aV_z, aV_s, aI_v, aB_v, aS_v, aL_f, aO_o, aX_b, tst_t, cond_true, cond_false, Ex.same, Nat.beq, List.length_cons, List.length_nil, Int.toNat_natCast, beqTT, beqTF, beqFT, beqFF, decide_eq_true (Int.ofNat_lt.2 hi), dec_nn, look_at hx, wrap_succ hi hl.1]
    refine sz_call (f157 (by assumption) m hm0 (by omega)) fun m1 q1 z1 => ?_
    exact k m1 q1 (by first | omega | (simp only [wtRow, wtD] at *; omega))
/- loop.example/g00119/laws.szHold -/
theorem f158 {row : Row} (h : ShL E (E 206) row) (left : Int) (h0 : 0 ≤ left) (h1 : left ≤ big) : SzF fs 158 (.g row) left (wtRow row) := by
  rw [E206] at h
  obtain ⟨na0, ra0, rfl, pa0, h_a0⟩ := inv_i h
  obtain ⟨sa1, ra1, rfl, pa1, h_a1⟩ := inv_s h_a0
  obtain ⟨na2, ra2, rfl, pa2, h_a2⟩ := inv_i h_a1
  obtain ⟨na3, ra3, rfl, pa3, h_a3⟩ := inv_i h_a2
  obtain ⟨na4, ra4, rfl, pa4, h_a4⟩ := inv_i h_a3
  cases inv_nil h_a4
  refine SzF.of (af := a158) rfl rfl (fun d n => a158q ..) ?_
  refine sz_str h0 (by omega) (by assumption) fun m1 e1 q1 z1 => ?_
  simp only [e1]
  exact sz_ret q1 (by first | omega | (simp only [wtRow, wtD] at *; omega))
/- loop.example/g00119/laws.szHoldS -/
theorem f49 {l : Rows} (hl : SL E 206 l) (left : Int) (h0 : 0 ≤ left) (h1 : left ≤ big) : SzF fs 49 (.d (.s 5 l)) left (l.length + wtRows l) := by
  refine sz_rows (fun d n m i => l49x0 (TabD fs d) d n [.fz 5 l, .v (.int .i64 m), .v (.int .i64 i)]) (af := a49) rfl rfl (fun d m => a49q ..) hl.1 (fun d n m => ?_) (fun i x m Q hi hx hm0 hm1 k => ?_) left h0 h1
  · rw [l49x0s]
    simp -implicitDefEqProofs only [cI, cB, cS, cL, oD_d, oG_g, oT_t, oP_p, dI_v, dB_v, dS_v, dL_s, cell_z, cell_s, nth_z, nth_s, aV_z, aV_s, aI_v, aB_v, aS_v, aL_f, aO_o, aX_b, tst_t, cond_true, cond_false, Ex.same, Nat.beq, List.length_cons, List.length_nil, Int.toNat_natCast, beqTT, beqTF, beqFT, beqFF, Int.lt_irrefl, decide_false]
  · have h := hl.at hx
    have h' := h
    rw [E206] at h
    obtain ⟨na0, ra0, rfl, pa0, h_a0⟩ := inv_i h
    obtain ⟨sa1, ra1, rfl, pa1, h_a1⟩ := inv_s h_a0
    obtain ⟨na2, ra2, rfl, pa2, h_a2⟩ := inv_i h_a1
    obtain ⟨na3, ra3, rfl, pa3, h_a3⟩ := inv_i h_a2
    obtain ⟨na4, ra4, rfl, pa4, h_a4⟩ := inv_i h_a3
    cases inv_nil h_a4
    simp only [l49x0s]
    simp -implicitDefEqProofs only [cI, cB, cS, cL, oD_d, oG_g, oT_t, oP_p, dI_v, dB_v, dS_v, dL_s, cell_z, cell_s, nth_z, nth_s, aV_z, aV_s, aI_v, aB_v, aS_v, aL_f, aO_o, aX_b, tst_t, cond_true, cond_false, Ex.same, Nat.beq, List.length_cons, List.length_nil, Int.toNat_natCast, beqTT, beqTF, beqFT, beqFF, decide_eq_true (Int.ofNat_lt.2 hi), dec_nn, look_at hx, wrap_succ hi hl.1]
    refine sz_call (f158 (by assumption) m hm0 (by omega)) fun m1 q1 z1 => ?_
    exact k m1 q1 (by first | omega | (simp only [wtRow, wtD] at *; omega))
/- loop.example/g00119/laws.szHub -/
theorem f9 {row : Row} (h : ShL E (E 27) row) (left : Int) (h0 : 0 ≤ left) (h1 : left ≤ big) : SzF fs 9 (.g row) left (wtRow row) := by
  rw [E27] at h
  obtain ⟨na0, ra0, rfl, pa0, h_a0⟩ := inv_i h
  obtain ⟨na1, ra1, rfl, pa1, h_a1⟩ := inv_i h_a0
  obtain ⟨na2, ra2, rfl, pa2, h_a2⟩ := inv_i h_a1
  obtain ⟨la3, ra3, rfl, pa3, h_a3⟩ := inv_sl W201 h_a2
  obtain ⟨la4, ra4, rfl, pa4, h_a4⟩ := inv_sl W204 h_a3
  obtain ⟨la5, ra5, rfl, pa5, h_a5⟩ := inv_sl W206 h_a4
  obtain ⟨la6, ra6, rfl, pa6, h_a6⟩ := inv_sl W9 h_a5
  cases inv_nil h_a6
  refine SzF.of (af := a9) rfl rfl (fun d n => a9q ..) ?_
  refine sz_call (f47 (by assumption) left h0 (by omega)) fun m1 q1 z1 => ?_
  refine sz_call (f48 (by assumption) m1 q1 (by omega)) fun m2 q2 z2 => ?_
  refine sz_call (f49 (by assumption) m2 q2 (by omega)) fun m3 q3 z3 => ?_
  refine sz_call (f50 (by assumption) m3 q3 (by omega)) fun m4 q4 z4 => ?_
  exact sz_ret q4 (by first | omega | (simp only [wtRow, wtD] at *; omega))
/- loop.example/g00119/laws.szByteS -/
theorem f99 {l : Rows} (hl : SL E 5 l) (left : Int) (h0 : 0 ≤ left) (h1 : left ≤ big) : SzF fs 99 (.d (.s 1 l)) left (l.length + wtRows l) := by
  have hz : wtRows l = 0 := wt_flat fun x hx => by
    have h := hl.2.mem x hx
    rw [E5] at h
    obtain ⟨na0, ra0, rfl, pa0, h_a0⟩ := inv_i h
    cases inv_nil h_a0
    rfl
  refine SzF.of (af := a99) rfl rfl (fun d n => a99q ..) (sz_str h0 h1 hl.1 fun m hm0 hm1 hm2 => ?_)
  rw [hm0]
  exact sz_ret hm1 (by omega)
/- loop.example/g00119/laws.szRunS -/
theorem f71 {l : Rows} (hl : SL E 245 l) (left : Int) (h0 : 0 ≤ left) (h1 : left ≤ big) : SzF fs 71 (.d (.s 2 l)) left (l.length + wtRows l) := by
  have hz : wtRows l = 0 := wt_flat fun x hx => by
    have h := hl.2.mem x hx
    rw [E245] at h
    obtain ⟨na0, ra0, rfl, pa0, h_a0⟩ := inv_i h
    obtain ⟨na1, ra1, rfl, pa1, h_a1⟩ := inv_i h_a0
    cases inv_nil h_a1
    rfl
  refine SzF.of (af := a71) rfl rfl (fun d n => a71q ..) (sz_str h0 h1 hl.1 fun m hm0 hm1 hm2 => ?_)
  rw [hm0]
  exact sz_ret hm1 (by omega)
/- loop.example/g00119/laws.szWork -/
theorem f357 {row : Row} (h : ShL E (E 388) row) (left : Int) (h0 : 0 ≤ left) (h1 : left ≤ big) : SzF fs 357 (.g row) left (wtRow row) := by
  rw [E388] at h
  obtain ⟨na0, ra0, rfl, pa0, h_a0⟩ := inv_i h
  obtain ⟨na1, ra1, rfl, pa1, h_a1⟩ := inv_i h_a0
  obtain ⟨na2, ra2, rfl, pa2, h_a2⟩ := inv_i h_a1
  obtain ⟨sa3, ra3, rfl, pa3, h_a3⟩ := inv_s h_a2
  obtain ⟨na4, ra4, rfl, pa4, h_a4⟩ := inv_i h_a3
  obtain ⟨la5, ra5, rfl, pa5, h_a5⟩ := inv_sl W9 h_a4
  obtain ⟨la6, ra6, rfl, pa6, h_a6⟩ := inv_sl W48 h_a5
  cases inv_nil h_a6
  refine SzF.of (af := a357) rfl rfl (fun d n => a357q ..) ?_
  refine sz_call (f68 (by rw [E48]; exact mk_i (by assumption) (mk_s (by assumption) (mk_i (by assumption) (mk_sl W9 (by assumption) (mk_sl W48 (by assumption) (ShL.nil)))))) left h0 (by omega)) fun m1 q1 z1 => ?_
  exact sz_ret q1 (by first | omega | (simp only [wtRow, wtD] at *; omega))
/- loop.example/g00119/laws.szWorkS -/
theorem f299 {l : Rows} (hl : SL E 388 l) (left : Int) (h0 : 0 ≤ left) (h1 : left ≤ big) : SzF fs 299 (.d (.s 7 l)) left (l.length + wtRows l) := by
  refine sz_rows (fun d n m i => l299x0 (TabD fs d) d n [.fz 7 l, .v (.int .i64 m), .v (.int .i64 i)]) (af := a299) rfl rfl (fun d m => a299q ..) hl.1 (fun d n m => ?_) (fun i x m Q hi hx hm0 hm1 k => ?_) left h0 h1
  · rw [l299x0s]
    simp -implicitDefEqProofs only [cI, cB, cS, cL, oD_d, oG_g, oT_t, oP_p, dI_v, dB_v, dS_v, dL_s, cell_z, cell_s, nth_z, nth_s, aV_z, aV_s, aI_v, aB_v, aS_v, aL_f, aO_o, aX_b, tst_t, cond_true, cond_false, Ex.same, Nat.beq, List.length_cons, List.length_nil, Int.toNat_natCast, beqTT, beqTF, beqFT, beqFF, Int.lt_irrefl, decide_false]
  · have h := hl.at hx
    have h' := h
    rw [E388] at h
    obtain ⟨na0, ra0, rfl, pa0, h_a0⟩ := inv_i h
    obtain ⟨na1, ra1, rfl, pa1, h_a1⟩ := inv_i h_a0
    obtain ⟨na2, ra2, rfl, pa2, h_a2⟩ := inv_i h_a1
    obtain ⟨sa3, ra3, rfl, pa3, h_a3⟩ := inv_s h_a2
    obtain ⟨na4, ra4, rfl, pa4, h_a4⟩ := inv_i h_a3
    obtain ⟨la5, ra5, rfl, pa5, h_a5⟩ := inv_sl W9 h_a4
    obtain ⟨la6, ra6, rfl, pa6, h_a6⟩ := inv_sl W48 h_a5
    cases inv_nil h_a6
    simp only [l299x0s]
    simp -implicitDefEqProofs only [cI, cB, cS, cL, oD_d, oG_g, oT_t, oP_p, dI_v, dB_v, dS_v, dL_s, cell_z, cell_s, nth_z, nth_s, aV_z, aV_s, aI_v, aB_v, aS_v, aL_f, aO_o, aX_b, tst_t, cond_true, cond_false, Ex.same, Nat.beq, List.length_cons, List.length_nil, Int.toNat_natCast, beqTT, beqTF, beqFT, beqFF, decide_eq_true (Int.ofNat_lt.2 hi), dec_nn, look_at hx, wrap_succ hi hl.1]
    refine sz_call (f357 (by assumption) m hm0 (by omega)) fun m1 q1 z1 => ?_
    exact k m1 q1 (by first | omega | (simp only [wtRow, wtD] at *; omega))
/- loop.example/g00119/laws.szIsle -/
theorem f208 {row : Row} (h : ShL E (E 260) row) (left : Int) (h0 : 0 ≤ left) (h1 : left ≤ big) : SzF fs 208 (.g row) left (wtRow row) := by
  rw [E260] at h
  obtain ⟨sa0, ra0, rfl, pa0, h_a0⟩ := inv_s h
  obtain ⟨na1, ra1, rfl, pa1, h_a1⟩ := inv_i h_a0
  obtain ⟨na2, ra2, rfl, pa2, h_a2⟩ := inv_i h_a1
  obtain ⟨la3, ra3, rfl, pa3, h_a3⟩ := inv_sl W388 h_a2
  obtain ⟨la4, ra4, rfl, pa4, h_a4⟩ := inv_sl W245 h_a3
  cases inv_nil h_a4
  refine SzF.of (af := a208) rfl rfl (fun d n => a208q ..) ?_
  refine sz_str h0 (by omega) (by assumption) fun m1 e1 q1 z1 => ?_
  simp only [e1]
  refine sz_call (f299 (by assumption) m1 q1 (by omega)) fun m2 q2 z2 => ?_
  refine sz_call (f71 (by assumption) m2 q2 (by omega)) fun m3 q3 z3 => ?_
  exact sz_ret q3 (by first | omega | (simp only [wtRow, wtD] at *; omega))
/- loop.example/g00119/laws.szIsleS -/
theorem f100 {l : Rows} (hl : SL E 260 l) (left : Int) (h0 : 0 ≤ left) (h1 : left ≤ big) : SzF fs 100 (.d (.s 5 l)) left (l.length + wtRows l) := by
  refine sz_rows (fun d n m i => l100x0 (TabD fs d) d n [.fz 5 l, .v (.int .i64 m), .v (.int .i64 i)]) (af := a100) rfl rfl (fun d m => a100q ..) hl.1 (fun d n m => ?_) (fun i x m Q hi hx hm0 hm1 k => ?_) left h0 h1
  · rw [l100x0s]
    simp -implicitDefEqProofs only [cI, cB, cS, cL, oD_d, oG_g, oT_t, oP_p, dI_v, dB_v, dS_v, dL_s, cell_z, cell_s, nth_z, nth_s, aV_z, aV_s, aI_v, aB_v, aS_v, aL_f, aO_o, aX_b, tst_t, cond_true, cond_false, Ex.same, Nat.beq, List.length_cons, List.length_nil, Int.toNat_natCast, beqTT, beqTF, beqFT, beqFF, Int.lt_irrefl, decide_false]
  · have h := hl.at hx
    have h' := h
    rw [E260] at h
    obtain ⟨sa0, ra0, rfl, pa0, h_a0⟩ := inv_s h
    obtain ⟨na1, ra1, rfl, pa1, h_a1⟩ := inv_i h_a0
    obtain ⟨na2, ra2, rfl, pa2, h_a2⟩ := inv_i h_a1
    obtain ⟨la3, ra3, rfl, pa3, h_a3⟩ := inv_sl W388 h_a2
    obtain ⟨la4, ra4, rfl, pa4, h_a4⟩ := inv_sl W245 h_a3
    cases inv_nil h_a4
    simp only [l100x0s]
    simp -implicitDefEqProofs only [cI, cB, cS, cL, oD_d, oG_g, oT_t, oP_p, dI_v, dB_v, dS_v, dL_s, cell_z, cell_s, nth_z, nth_s, aV_z, aV_s, aI_v, aB_v, aS_v, aL_f, aO_o, aX_b, tst_t, cond_true, cond_false, Ex.same, Nat.beq, List.length_cons, List.length_nil, Int.toNat_natCast, beqTT, beqTF, beqFT, beqFF, decide_eq_true (Int.ofNat_lt.2 hi), dec_nn, look_at hx, wrap_succ hi hl.1]
    refine sz_call (f208 (by assumption) m hm0 (by omega)) fun m1 q1 z1 => ?_
    exact k m1 q1 (by first | omega | (simp only [wtRow, wtD] at *; omega))
/- loop.example/g00119/laws.szMsg -/
theorem f209 {row : Row} (h : ShL E (E 263) row) (left : Int) (h0 : 0 ≤ left) (h1 : left ≤ big) : SzF fs 209 (.g row) left (wtRow row) := by
  rw [E263] at h
  obtain ⟨na0, ra0, rfl, pa0, h_a0⟩ := inv_i h
  obtain ⟨sa1, ra1, rfl, pa1, h_a1⟩ := inv_s h_a0
  obtain ⟨na2, ra2, rfl, pa2, h_a2⟩ := inv_i h_a1
  obtain ⟨la3, ra3, rfl, pa3, h_a3⟩ := inv_sl W388 h_a2
  obtain ⟨la4, ra4, rfl, pa4, h_a4⟩ := inv_sl W245 h_a3
  cases inv_nil h_a4
  refine SzF.of (af := a209) rfl rfl (fun d n => a209q ..) ?_
  refine sz_str h0 (by omega) (by assumption) fun m1 e1 q1 z1 => ?_
  simp only [e1]
  refine sz_call (f299 (by assumption) m1 q1 (by omega)) fun m2 q2 z2 => ?_
  refine sz_call (f71 (by assumption) m2 q2 (by omega)) fun m3 q3 z3 => ?_
  exact sz_ret q3 (by first | omega | (simp only [wtRow, wtD] at *; omega))
/- loop.example/g00119/laws.szMsgS -/
theorem f101 {l : Rows} (hl : SL E 263 l) (left : Int) (h0 : 0 ≤ left) (h1 : left ≤ big) : SzF fs 101 (.d (.s 5 l)) left (l.length + wtRows l) := by
  refine sz_rows (fun d n m i => l101x0 (TabD fs d) d n [.fz 5 l, .v (.int .i64 m), .v (.int .i64 i)]) (af := a101) rfl rfl (fun d m => a101q ..) hl.1 (fun d n m => ?_) (fun i x m Q hi hx hm0 hm1 k => ?_) left h0 h1
  · rw [l101x0s]
    simp -implicitDefEqProofs only [cI, cB, cS, cL, oD_d, oG_g, oT_t, oP_p, dI_v, dB_v, dS_v, dL_s, cell_z, cell_s, nth_z, nth_s, aV_z, aV_s, aI_v, aB_v, aS_v, aL_f, aO_o, aX_b, tst_t, cond_true, cond_false, Ex.same, Nat.beq, List.length_cons, List.length_nil, Int.toNat_natCast, beqTT, beqTF, beqFT, beqFF, Int.lt_irrefl, decide_false]
  · have h := hl.at hx
    have h' := h
    rw [E263] at h
    obtain ⟨na0, ra0, rfl, pa0, h_a0⟩ := inv_i h
    obtain ⟨sa1, ra1, rfl, pa1, h_a1⟩ := inv_s h_a0
    obtain ⟨na2, ra2, rfl, pa2, h_a2⟩ := inv_i h_a1
    obtain ⟨la3, ra3, rfl, pa3, h_a3⟩ := inv_sl W388 h_a2
    obtain ⟨la4, ra4, rfl, pa4, h_a4⟩ := inv_sl W245 h_a3
    cases inv_nil h_a4
    simp only [l101x0s]
    simp -implicitDefEqProofs only [cI, cB, cS, cL, oD_d, oG_g, oT_t, oP_p, dI_v, dB_v, dS_v, dL_s, cell_z, cell_s, nth_z, nth_s, aV_z, aV_s, aI_v, aB_v, aS_v, aL_f, aO_o, aX_b, tst_t, cond_true, cond_false, Ex.same, Nat.beq, List.length_cons, List.length_nil, Int.toNat_natCast, beqTT, beqTF, beqFT, beqFF, decide_eq_true (Int.ofNat_lt.2 hi), dec_nn, look_at hx, wrap_succ hi hl.1]
    refine sz_call (f209 (by assumption) m hm0 (by omega)) fun m1 q1 z1 => ?_
    exact k m1 q1 (by first | omega | (simp only [wtRow, wtD] at *; omega))
/- loop.example/g00119/laws.szFed -/
theorem f23 {row : Row} (h : ShL E (E 79) row) (left : Int) (h0 : 0 ≤ left) (h1 : left ≤ big) : SzF fs 23 (.g row) left (wtRow row) := by
  rw [E79] at h
  obtain ⟨na0, ra0, rfl, pa0, h_a0⟩ := inv_i h
  obtain ⟨na1, ra1, rfl, pa1, h_a1⟩ := inv_i h_a0
  obtain ⟨na2, ra2, rfl, pa2, h_a2⟩ := inv_i h_a1
  obtain ⟨la3, ra3, rfl, pa3, h_a3⟩ := inv_sl W201 h_a2
  obtain ⟨la4, ra4, rfl, pa4, h_a4⟩ := inv_sl W204 h_a3
  obtain ⟨la5, ra5, rfl, pa5, h_a5⟩ := inv_sl W206 h_a4
  obtain ⟨la6, ra6, rfl, pa6, h_a6⟩ := inv_sl W9 h_a5
  obtain ⟨ba7, ra7, rfl, h_a7⟩ := inv_b h_a6
  obtain ⟨la8, ra8, rfl, pa8, h_a8⟩ := inv_sl W5 h_a7
  obtain ⟨la9, ra9, rfl, pa9, h_a9⟩ := inv_sl W260 h_a8
  obtain ⟨la10, ra10, rfl, pa10, h_a10⟩ := inv_sl W263 h_a9
  obtain ⟨la11, ra11, rfl, pa11, h_a11⟩ := inv_sl W9 h_a10
  cases inv_nil h_a11
  refine SzF.of (af := a23) rfl rfl (fun d n => a23q ..) ?_
  refine sz_call (f9 (by rw [E27]; exact mk_i (by assumption) (mk_i (by assumption) (mk_i (by assumption) (mk_sl W201 (by assumption) (mk_sl W204 (by assumption) (mk_sl W206 (by assumption) (mk_sl W9 (by assumption) (ShL.nil)))))))) left h0 (by omega)) fun m1 q1 z1 => ?_
  refine sz_call (f99 (by assumption) m1 q1 (by omega)) fun m2 q2 z2 => ?_
  refine sz_call (f100 (by assumption) m2 q2 (by omega)) fun m3 q3 z3 => ?_
  refine sz_call (f101 (by assumption) m3 q3 (by omega)) fun m4 q4 z4 => ?_
  refine sz_call (f50 (by assumption) m4 q4 (by omega)) fun m5 q5 z5 => ?_
  exact sz_ret q5 (by first | omega | (simp only [wtRow, wtD] at *; omega))
end Go.Am.Is
