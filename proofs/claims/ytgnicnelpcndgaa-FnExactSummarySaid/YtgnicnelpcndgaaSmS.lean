/- What the functions of one family say in the end. Nothing is assumed. -/
import Derived.Test.YtgnicnelpcndgaaSmH
namespace Go.Am.Sm
set_option linter.unusedVariables false
set_option linter.unusedSimpArgs false
set_option maxRecDepth 8000
/- loop.example/g00119/laws.szStringS -/
theorem f63 {l : Rows} (hl : SL E 9 l) (left : Int) (h0 : 0 ≤ left) (h1 : left ≤ big) : SzF fs 63 (.d (.s 1 l)) left (l.length + wtRows l) := by
  refine sz_rows (fun d n m i => l63x0 (TabD fs d) d n [.fz 1 l, .v (.int .i64 m), .v (.int .i64 i)]) (af := a63) rfl rfl (fun d m => a63q ..) hl.1 (fun d n m => ?_) (fun i x m Q hi hx hm0 hm1 k => ?_) left h0 h1
  · rw [l63x0s]
    simp only [cI, cB, cS, cL, oD_d, oG_g, oT_t, oP_p, dI_v, dB_v, dS_v, dL_s, cell_z, cell_s, nth_z, nth_s, aV_z, aV_s, aI_v, aB_v, aS_v, aL_f, aO_o, aX_b, tst_t, cond_true, cond_false, Ex.same, Nat.beq, List.length_cons, List.length_nil, Int.toNat_natCast, Int.lt_irrefl, decide_false]
  · have h := hl.at hx
    have h' := h
    rw [E9] at h
    obtain ⟨sa0, ra0, rfl, pa0, h_a0⟩ := inv_s h
    cases inv_nil h_a0
    simp only [l63x0s]
    simp only [cI, cB, cS, cL, oD_d, oG_g, oT_t, oP_p, dI_v, dB_v, dS_v, dL_s, cell_z, cell_s, nth_z, nth_s, aV_z, aV_s, aI_v, aB_v, aS_v, aL_f, aO_o, aX_b, tst_t, cond_true, cond_false, Ex.same, Nat.beq, List.length_cons, List.length_nil, Int.toNat_natCast, decide_eq_true (Int.ofNat_lt.2 hi), dec_nn, look_at hx, wrap_succ hi hl.1]
    refine sz_str hm0 (by omega) (by assumption) fun m1 e1 q1 z1 => ?_
    simp only [e1]
    exact k m1 q1 (by first | omega | (simp only [wtRow, wtD] at *; omega))
/- loop.example/g00119/laws.szValueS -/
mutual
theorem fr173 {row : Row} (h : ShL E (E 150) row) (left : Int) (h0 : 0 ≤ left) (h1 : left ≤ big) (W : Nat) (hW : 2 * wtRow row + 1 = W) : SzF fs 173 (.g row) left (wtRow row) := by
  rw [E150] at h
  obtain ⟨na0, ra0, rfl, pa0, h_a0⟩ := inv_i h
  obtain ⟨sa1, ra1, rfl, pa1, h_a1⟩ := inv_s h_a0
  obtain ⟨na2, ra2, rfl, pa2, h_a2⟩ := inv_i h_a1
  obtain ⟨la3, ra3, rfl, pa3, h_a3⟩ := inv_sl W9 h_a2
  obtain ⟨la4, ra4, rfl, pa4, h_a4⟩ := inv_sl W150 h_a3
  cases inv_nil h_a4
  refine SzF.of (af := a173) rfl rfl (fun d n => a173q ..) ?_
  refine sz_str h0 (by omega) (by assumption) fun m1 e1 q1 z1 => ?_
  simp only [e1]
  refine sz_call (f63 (by assumption) m1 q1 (by omega)) fun m2 q2 z2 => ?_
  refine sz_call (fr207 (by assumption) m2 q2 (by omega) _ rfl) fun m3 q3 z3 => ?_
  exact sz_ret q3 (by first | omega | (simp only [wtRow, wtD] at *; omega))
termination_by W
decreasing_by all_goals (try have := wt_at hx); (try simp only [wtRow, wtD] at *); omega
theorem fr207 {l : Rows} (hl : SL E 150 l) (left : Int) (h0 : 0 ≤ left) (h1 : left ≤ big) (W : Nat) (hW : 2 * (l.length + wtRows l) = W) : SzF fs 207 (.d (.s 5 l)) left (l.length + wtRows l) := by
  refine sz_rows (fun d n m i => l207x0 (TabD fs d) d n [.fz 5 l, .v (.int .i64 m), .v (.int .i64 i)]) (af := a207) rfl rfl (fun d m => a207q ..) hl.1 (fun d n m => ?_) (fun i x m Q hi hx hm0 hm1 k => ?_) left h0 h1
  · rw [l207x0s]
    simp only [cI, cB, cS, cL, oD_d, oG_g, oT_t, oP_p, dI_v, dB_v, dS_v, dL_s, cell_z, cell_s, nth_z, nth_s, aV_z, aV_s, aI_v, aB_v, aS_v, aL_f, aO_o, aX_b, tst_t, cond_true, cond_false, Ex.same, Nat.beq, List.length_cons, List.length_nil, Int.toNat_natCast, Int.lt_irrefl, decide_false]
  · have h := hl.at hx
    have h' := h
    rw [E150] at h
    obtain ⟨na0, ra0, rfl, pa0, h_a0⟩ := inv_i h
    obtain ⟨sa1, ra1, rfl, pa1, h_a1⟩ := inv_s h_a0
    obtain ⟨na2, ra2, rfl, pa2, h_a2⟩ := inv_i h_a1
    obtain ⟨la3, ra3, rfl, pa3, h_a3⟩ := inv_sl W9 h_a2
    obtain ⟨la4, ra4, rfl, pa4, h_a4⟩ := inv_sl W150 h_a3
    cases inv_nil h_a4
    simp only [l207x0s]
    simp only [cI, cB, cS, cL, oD_d, oG_g, oT_t, oP_p, dI_v, dB_v, dS_v, dL_s, cell_z, cell_s, nth_z, nth_s, aV_z, aV_s, aI_v, aB_v, aS_v, aL_f, aO_o, aX_b, tst_t, cond_true, cond_false, Ex.same, Nat.beq, List.length_cons, List.length_nil, Int.toNat_natCast, decide_eq_true (Int.ofNat_lt.2 hi), dec_nn, look_at hx, wrap_succ hi hl.1]
    refine sz_call (fr173 (by assumption) m hm0 (by omega) _ rfl) fun m1 q1 z1 => ?_
    exact k m1 q1 (by first | omega | (simp only [wtRow, wtD] at *; omega))
termination_by W
decreasing_by all_goals (try have := wt_at hx); (try simp only [wtRow, wtD] at *); omega
end
theorem f173 {row : Row} (h : ShL E (E 150) row) (left : Int) (h0 : 0 ≤ left) (h1 : left ≤ big) : SzF fs 173 (.g row) left (wtRow row) := fr173 h left h0 h1 _ rfl
theorem f207 {l : Rows} (hl : SL E 150 l) (left : Int) (h0 : 0 ≤ left) (h1 : left ≤ big) : SzF fs 207 (.d (.s 5 l)) left (l.length + wtRows l) := fr207 hl left h0 h1 _ rfl
/- loop.example/g00119/laws.szTerm -/
theorem f233 {row : Row} (h : ShL E (E 267) row) (left : Int) (h0 : 0 ≤ left) (h1 : left ≤ big) : SzF fs 233 (.g row) left (wtRow row) := by
  rw [E267] at h
  obtain ⟨na0, ra0, rfl, pa0, h_a0⟩ := inv_i h
  obtain ⟨sa1, ra1, rfl, pa1, h_a1⟩ := inv_s h_a0
  obtain ⟨la2, ra2, rfl, pa2, h_a2⟩ := inv_sl W9 h_a1
  cases inv_nil h_a2
  refine SzF.of (af := a233) rfl rfl (fun d n => a233q ..) ?_
  refine sz_str h0 (by omega) (by assumption) fun m1 e1 q1 z1 => ?_
  simp only [e1]
  refine sz_call (f63 (by assumption) m1 q1 (by omega)) fun m2 q2 z2 => ?_
  exact sz_ret q2 (by first | omega | (simp only [wtRow, wtD] at *; omega))
/- loop.example/g00119/laws.szTermS -/
theorem f213 {l : Rows} (hl : SL E 267 l) (left : Int) (h0 : 0 ≤ left) (h1 : left ≤ big) : SzF fs 213 (.d (.s 3 l)) left (l.length + wtRows l) := by
  refine sz_rows (fun d n m i => l213x0 (TabD fs d) d n [.fz 3 l, .v (.int .i64 m), .v (.int .i64 i)]) (af := a213) rfl rfl (fun d m => a213q ..) hl.1 (fun d n m => ?_) (fun i x m Q hi hx hm0 hm1 k => ?_) left h0 h1
  · rw [l213x0s]
    simp only [cI, cB, cS, cL, oD_d, oG_g, oT_t, oP_p, dI_v, dB_v, dS_v, dL_s, cell_z, cell_s, nth_z, nth_s, aV_z, aV_s, aI_v, aB_v, aS_v, aL_f, aO_o, aX_b, tst_t, cond_true, cond_false, Ex.same, Nat.beq, List.length_cons, List.length_nil, Int.toNat_natCast, Int.lt_irrefl, decide_false]
  · have h := hl.at hx
    have h' := h
    rw [E267] at h
    obtain ⟨na0, ra0, rfl, pa0, h_a0⟩ := inv_i h
    obtain ⟨sa1, ra1, rfl, pa1, h_a1⟩ := inv_s h_a0
    obtain ⟨la2, ra2, rfl, pa2, h_a2⟩ := inv_sl W9 h_a1
    cases inv_nil h_a2
    simp only [l213x0s]
    simp only [cI, cB, cS, cL, oD_d, oG_g, oT_t, oP_p, dI_v, dB_v, dS_v, dL_s, cell_z, cell_s, nth_z, nth_s, aV_z, aV_s, aI_v, aB_v, aS_v, aL_f, aO_o, aX_b, tst_t, cond_true, cond_false, Ex.same, Nat.beq, List.length_cons, List.length_nil, Int.toNat_natCast, decide_eq_true (Int.ofNat_lt.2 hi), dec_nn, look_at hx, wrap_succ hi hl.1]
    refine sz_call (f233 (by assumption) m hm0 (by omega)) fun m1 q1 z1 => ?_
    exact k m1 q1 (by first | omega | (simp only [wtRow, wtD] at *; omega))
/- loop.example/g00119/laws.szWeigh -/
theorem f234 {row : Row} (h : ShL E (E 269) row) (left : Int) (h0 : 0 ≤ left) (h1 : left ≤ big) : SzF fs 234 (.g row) left (wtRow row) := by
  rw [E269] at h
  obtain ⟨sa0, ra0, rfl, pa0, h_a0⟩ := inv_s h
  obtain ⟨na1, ra1, rfl, pa1, h_a1⟩ := inv_i h_a0
  cases inv_nil h_a1
  refine SzF.of (af := a234) rfl rfl (fun d n => a234q ..) ?_
  refine sz_str h0 (by omega) (by assumption) fun m1 e1 q1 z1 => ?_
  simp only [e1]
  exact sz_ret q1 (by first | omega | (simp only [wtRow, wtD] at *; omega))
/- loop.example/g00119/laws.szWeighS -/
theorem f214 {l : Rows} (hl : SL E 269 l) (left : Int) (h0 : 0 ≤ left) (h1 : left ≤ big) : SzF fs 214 (.d (.s 2 l)) left (l.length + wtRows l) := by
  refine sz_rows (fun d n m i => l214x0 (TabD fs d) d n [.fz 2 l, .v (.int .i64 m), .v (.int .i64 i)]) (af := a214) rfl rfl (fun d m => a214q ..) hl.1 (fun d n m => ?_) (fun i x m Q hi hx hm0 hm1 k => ?_) left h0 h1
  · rw [l214x0s]
    simp only [cI, cB, cS, cL, oD_d, oG_g, oT_t, oP_p, dI_v, dB_v, dS_v, dL_s, cell_z, cell_s, nth_z, nth_s, aV_z, aV_s, aI_v, aB_v, aS_v, aL_f, aO_o, aX_b, tst_t, cond_true, cond_false, Ex.same, Nat.beq, List.length_cons, List.length_nil, Int.toNat_natCast, Int.lt_irrefl, decide_false]
  · have h := hl.at hx
    have h' := h
    rw [E269] at h
    obtain ⟨sa0, ra0, rfl, pa0, h_a0⟩ := inv_s h
    obtain ⟨na1, ra1, rfl, pa1, h_a1⟩ := inv_i h_a0
    cases inv_nil h_a1
    simp only [l214x0s]
    simp only [cI, cB, cS, cL, oD_d, oG_g, oT_t, oP_p, dI_v, dB_v, dS_v, dL_s, cell_z, cell_s, nth_z, nth_s, aV_z, aV_s, aI_v, aB_v, aS_v, aL_f, aO_o, aX_b, tst_t, cond_true, cond_false, Ex.same, Nat.beq, List.length_cons, List.length_nil, Int.toNat_natCast, decide_eq_true (Int.ofNat_lt.2 hi), dec_nn, look_at hx, wrap_succ hi hl.1]
    refine sz_call (f234 (by assumption) m hm0 (by omega)) fun m1 q1 z1 => ?_
    exact k m1 q1 (by first | omega | (simp only [wtRow, wtD] at *; omega))
/- loop.example/g00119/laws.szWant -/
theorem f180 {row : Row} (h : ShL E (E 174) row) (left : Int) (h0 : 0 ≤ left) (h1 : left ≤ big) : SzF fs 180 (.g row) left (wtRow row) := by
  rw [E174] at h
  obtain ⟨na0, ra0, rfl, pa0, h_a0⟩ := inv_i h
  obtain ⟨la1, ra1, rfl, pa1, h_a1⟩ := inv_sl W267 h_a0
  obtain ⟨la2, ra2, rfl, pa2, h_a2⟩ := inv_sl W9 h_a1
  obtain ⟨la3, ra3, rfl, pa3, h_a3⟩ := inv_sl W269 h_a2
  cases inv_nil h_a3
  refine SzF.of (af := a180) rfl rfl (fun d n => a180q ..) ?_
  refine sz_call (f213 (by assumption) left h0 (by omega)) fun m1 q1 z1 => ?_
  refine sz_call (f63 (by assumption) m1 q1 (by omega)) fun m2 q2 z2 => ?_
  refine sz_call (f214 (by assumption) m2 q2 (by omega)) fun m3 q3 z3 => ?_
  exact sz_ret q3 (by first | omega | (simp only [wtRow, wtD] at *; omega))
/- loop.example/g00119/laws.szOp -/
theorem f248 {row : Row} (h : ShL E (E 282) row) (left : Int) (h0 : 0 ≤ left) (h1 : left ≤ big) : SzF fs 248 (.g row) left (wtRow row) := by
  rw [E282] at h
  obtain ⟨na0, ra0, rfl, pa0, h_a0⟩ := inv_i h
  obtain ⟨la1, ra1, rfl, pa1, h_a1⟩ := inv_sl W9 h_a0
  obtain ⟨na2, ra2, rfl, pa2, h_a2⟩ := inv_i h_a1
  obtain ⟨sa3, ra3, rfl, pa3, h_a3⟩ := inv_s h_a2
  obtain ⟨na4, ra4, rfl, pa4, h_a4⟩ := inv_i h_a3
  obtain ⟨la5, ra5, rfl, pa5, h_a5⟩ := inv_sl W9 h_a4
  obtain ⟨la6, ra6, rfl, pa6, h_a6⟩ := inv_sl W150 h_a5
  cases inv_nil h_a6
  refine SzF.of (af := a248) rfl rfl (fun d n => a248q ..) ?_
  refine sz_call (f63 (by assumption) left h0 (by omega)) fun m1 q1 z1 => ?_
  refine sz_call (f173 (by rw [E150]; exact mk_i (by assumption) (mk_s (by assumption) (mk_i (by assumption) (mk_sl W9 (by assumption) (mk_sl W150 (by assumption) (ShL.nil)))))) m1 q1 (by omega)) fun m2 q2 z2 => ?_
  exact sz_ret q2 (by first | omega | (simp only [wtRow, wtD] at *; omega))
/- loop.example/g00119/laws.szOpS -/
theorem f235 {l : Rows} (hl : SL E 282 l) (left : Int) (h0 : 0 ≤ left) (h1 : left ≤ big) : SzF fs 235 (.d (.s 7 l)) left (l.length + wtRows l) := by
  refine sz_rows (fun d n m i => l235x0 (TabD fs d) d n [.fz 7 l, .v (.int .i64 m), .v (.int .i64 i)]) (af := a235) rfl rfl (fun d m => a235q ..) hl.1 (fun d n m => ?_) (fun i x m Q hi hx hm0 hm1 k => ?_) left h0 h1
  · rw [l235x0s]
    simp only [cI, cB, cS, cL, oD_d, oG_g, oT_t, oP_p, dI_v, dB_v, dS_v, dL_s, cell_z, cell_s, nth_z, nth_s, aV_z, aV_s, aI_v, aB_v, aS_v, aL_f, aO_o, aX_b, tst_t, cond_true, cond_false, Ex.same, Nat.beq, List.length_cons, List.length_nil, Int.toNat_natCast, Int.lt_irrefl, decide_false]
  · have h := hl.at hx
    have h' := h
    rw [E282] at h
    obtain ⟨na0, ra0, rfl, pa0, h_a0⟩ := inv_i h
    obtain ⟨la1, ra1, rfl, pa1, h_a1⟩ := inv_sl W9 h_a0
    obtain ⟨na2, ra2, rfl, pa2, h_a2⟩ := inv_i h_a1
    obtain ⟨sa3, ra3, rfl, pa3, h_a3⟩ := inv_s h_a2
    obtain ⟨na4, ra4, rfl, pa4, h_a4⟩ := inv_i h_a3
    obtain ⟨la5, ra5, rfl, pa5, h_a5⟩ := inv_sl W9 h_a4
    obtain ⟨la6, ra6, rfl, pa6, h_a6⟩ := inv_sl W150 h_a5
    cases inv_nil h_a6
    simp only [l235x0s]
    simp only [cI, cB, cS, cL, oD_d, oG_g, oT_t, oP_p, dI_v, dB_v, dS_v, dL_s, cell_z, cell_s, nth_z, nth_s, aV_z, aV_s, aI_v, aB_v, aS_v, aL_f, aO_o, aX_b, tst_t, cond_true, cond_false, Ex.same, Nat.beq, List.length_cons, List.length_nil, Int.toNat_natCast, decide_eq_true (Int.ofNat_lt.2 hi), dec_nn, look_at hx, wrap_succ hi hl.1]
    refine sz_call (f248 (by assumption) m hm0 (by omega)) fun m1 q1 z1 => ?_
    exact k m1 q1 (by first | omega | (simp only [wtRow, wtD] at *; omega))
/- loop.example/g00119/laws.szOver -/
theorem f215 {row : Row} (h : ShL E (E 257) row) (left : Int) (h0 : 0 ≤ left) (h1 : left ≤ big) : SzF fs 215 (.g row) left (wtRow row) := by
  rw [E257] at h
  obtain ⟨sa0, ra0, rfl, pa0, h_a0⟩ := inv_s h
  obtain ⟨la1, ra1, rfl, pa1, h_a1⟩ := inv_sl W282 h_a0
  cases inv_nil h_a1
  refine SzF.of (af := a215) rfl rfl (fun d n => a215q ..) ?_
  refine sz_str h0 (by omega) (by assumption) fun m1 e1 q1 z1 => ?_
  simp only [e1]
  refine sz_call (f235 (by assumption) m1 q1 (by omega)) fun m2 q2 z2 => ?_
  exact sz_ret q2 (by first | omega | (simp only [wtRow, wtD] at *; omega))
/- loop.example/g00119/laws.szOverS -/
theorem f181 {l : Rows} (hl : SL E 257 l) (left : Int) (h0 : 0 ≤ left) (h1 : left ≤ big) : SzF fs 181 (.d (.s 2 l)) left (l.length + wtRows l) := by
  refine sz_rows (fun d n m i => l181x0 (TabD fs d) d n [.fz 2 l, .v (.int .i64 m), .v (.int .i64 i)]) (af := a181) rfl rfl (fun d m => a181q ..) hl.1 (fun d n m => ?_) (fun i x m Q hi hx hm0 hm1 k => ?_) left h0 h1
  · rw [l181x0s]
    simp only [cI, cB, cS, cL, oD_d, oG_g, oT_t, oP_p, dI_v, dB_v, dS_v, dL_s, cell_z, cell_s, nth_z, nth_s, aV_z, aV_s, aI_v, aB_v, aS_v, aL_f, aO_o, aX_b, tst_t, cond_true, cond_false, Ex.same, Nat.beq, List.length_cons, List.length_nil, Int.toNat_natCast, Int.lt_irrefl, decide_false]
  · have h := hl.at hx
    have h' := h
    rw [E257] at h
    obtain ⟨sa0, ra0, rfl, pa0, h_a0⟩ := inv_s h
    obtain ⟨la1, ra1, rfl, pa1, h_a1⟩ := inv_sl W282 h_a0
    cases inv_nil h_a1
    simp only [l181x0s]
    simp only [cI, cB, cS, cL, oD_d, oG_g, oT_t, oP_p, dI_v, dB_v, dS_v, dL_s, cell_z, cell_s, nth_z, nth_s, aV_z, aV_s, aI_v, aB_v, aS_v, aL_f, aO_o, aX_b, tst_t, cond_true, cond_false, Ex.same, Nat.beq, List.length_cons, List.length_nil, Int.toNat_natCast, decide_eq_true (Int.ofNat_lt.2 hi), dec_nn, look_at hx, wrap_succ hi hl.1]
    refine sz_call (f215 (by assumption) m hm0 (by omega)) fun m1 q1 z1 => ?_
    exact k m1 q1 (by first | omega | (simp only [wtRow, wtD] at *; omega))
/- loop.example/g00119/laws.szJob -/
theorem f136 {row : Row} (h : ShL E (E 177) row) (left : Int) (h0 : 0 ≤ left) (h1 : left ≤ big) : SzF fs 136 (.g row) left (wtRow row) := by
  rw [E177] at h
  obtain ⟨na0, ra0, rfl, pa0, h_a0⟩ := inv_i h
  obtain ⟨sa1, ra1, rfl, pa1, h_a1⟩ := inv_s h_a0
  obtain ⟨na2, ra2, rfl, pa2, h_a2⟩ := inv_i h_a1
  obtain ⟨la3, ra3, rfl, pa3, h_a3⟩ := inv_sl W267 h_a2
  obtain ⟨la4, ra4, rfl, pa4, h_a4⟩ := inv_sl W9 h_a3
  obtain ⟨la5, ra5, rfl, pa5, h_a5⟩ := inv_sl W269 h_a4
  obtain ⟨na6, ra6, rfl, pa6, h_a6⟩ := inv_i h_a5
  obtain ⟨sa7, ra7, rfl, pa7, h_a7⟩ := inv_s h_a6
  obtain ⟨na8, ra8, rfl, pa8, h_a8⟩ := inv_i h_a7
  obtain ⟨la9, ra9, rfl, pa9, h_a9⟩ := inv_sl W9 h_a8
  obtain ⟨la10, ra10, rfl, pa10, h_a10⟩ := inv_sl W150 h_a9
  obtain ⟨la11, ra11, rfl, pa11, h_a11⟩ := inv_sl W257 h_a10
  obtain ⟨ba12, ra12, rfl, h_a12⟩ := inv_b h_a11
  cases inv_nil h_a12
  refine SzF.of (af := a136) rfl rfl (fun d n => a136q ..) ?_
  refine sz_str h0 (by omega) (by assumption) fun m1 e1 q1 z1 => ?_
  simp only [e1]
  refine sz_call (f180 (by rw [E174]; exact mk_i (by assumption) (mk_sl W267 (by assumption) (mk_sl W9 (by assumption) (mk_sl W269 (by assumption) (ShL.nil))))) m1 q1 (by omega)) fun m2 q2 z2 => ?_
  refine sz_call (f173 (by rw [E150]; exact mk_i (by assumption) (mk_s (by assumption) (mk_i (by assumption) (mk_sl W9 (by assumption) (mk_sl W150 (by assumption) (ShL.nil)))))) m2 q2 (by omega)) fun m3 q3 z3 => ?_
  refine sz_call (f181 (by assumption) m3 q3 (by omega)) fun m4 q4 z4 => ?_
  exact sz_ret q4 (by first | omega | (simp only [wtRow, wtD] at *; omega))
/- loop.example/g00119/laws.szJobS -/
theorem f60 {l : Rows} (hl : SL E 177 l) (left : Int) (h0 : 0 ≤ left) (h1 : left ≤ big) : SzF fs 60 (.d (.s 13 l)) left (l.length + wtRows l) := by
  refine sz_rows (fun d n m i => l60x0 (TabD fs d) d n [.fz 13 l, .v (.int .i64 m), .v (.int .i64 i)]) (af := a60) rfl rfl (fun d m => a60q ..) hl.1 (fun d n m => ?_) (fun i x m Q hi hx hm0 hm1 k => ?_) left h0 h1
  · rw [l60x0s]
    simp only [cI, cB, cS, cL, oD_d, oG_g, oT_t, oP_p, dI_v, dB_v, dS_v, dL_s, cell_z, cell_s, nth_z, nth_s, aV_z, aV_s, aI_v, aB_v, aS_v, aL_f, aO_o, aX_b, tst_t, cond_true, cond_false, Ex.same, Nat.beq, List.length_cons, List.length_nil, Int.toNat_natCast, Int.lt_irrefl, decide_false]
  · have h := hl.at hx
    have h' := h
    rw [E177] at h
    obtain ⟨na0, ra0, rfl, pa0, h_a0⟩ := inv_i h
    obtain ⟨sa1, ra1, rfl, pa1, h_a1⟩ := inv_s h_a0
    obtain ⟨na2, ra2, rfl, pa2, h_a2⟩ := inv_i h_a1
    obtain ⟨la3, ra3, rfl, pa3, h_a3⟩ := inv_sl W267 h_a2
    obtain ⟨la4, ra4, rfl, pa4, h_a4⟩ := inv_sl W9 h_a3
    obtain ⟨la5, ra5, rfl, pa5, h_a5⟩ := inv_sl W269 h_a4
    obtain ⟨na6, ra6, rfl, pa6, h_a6⟩ := inv_i h_a5
    obtain ⟨sa7, ra7, rfl, pa7, h_a7⟩ := inv_s h_a6
    obtain ⟨na8, ra8, rfl, pa8, h_a8⟩ := inv_i h_a7
    obtain ⟨la9, ra9, rfl, pa9, h_a9⟩ := inv_sl W9 h_a8
    obtain ⟨la10, ra10, rfl, pa10, h_a10⟩ := inv_sl W150 h_a9
    obtain ⟨la11, ra11, rfl, pa11, h_a11⟩ := inv_sl W257 h_a10
    obtain ⟨ba12, ra12, rfl, h_a12⟩ := inv_b h_a11
    cases inv_nil h_a12
    simp only [l60x0s]
    simp only [cI, cB, cS, cL, oD_d, oG_g, oT_t, oP_p, dI_v, dB_v, dS_v, dL_s, cell_z, cell_s, nth_z, nth_s, aV_z, aV_s, aI_v, aB_v, aS_v, aL_f, aO_o, aX_b, tst_t, cond_true, cond_false, Ex.same, Nat.beq, List.length_cons, List.length_nil, Int.toNat_natCast, decide_eq_true (Int.ofNat_lt.2 hi), dec_nn, look_at hx, wrap_succ hi hl.1]
    refine sz_call (f136 (by assumption) m hm0 (by omega)) fun m1 q1 z1 => ?_
    exact k m1 q1 (by first | omega | (simp only [wtRow, wtD] at *; omega))
/- loop.example/g00119/laws.szLabel -/
theorem f236 {row : Row} (h : ShL E (E 272) row) (left : Int) (h0 : 0 ≤ left) (h1 : left ≤ big) : SzF fs 236 (.g row) left (wtRow row) := by
  rw [E272] at h
  obtain ⟨sa0, ra0, rfl, pa0, h_a0⟩ := inv_s h
  obtain ⟨sa1, ra1, rfl, pa1, h_a1⟩ := inv_s h_a0
  cases inv_nil h_a1
  refine SzF.of (af := a236) rfl rfl (fun d n => a236q ..) ?_
  refine sz_str h0 (by omega) (by assumption) fun m1 e1 q1 z1 => ?_
  simp only [e1]
  refine sz_str q1 (by omega) (by assumption) fun m2 e2 q2 z2 => ?_
  simp only [e2]
  exact sz_ret q2 (by first | omega | (simp only [wtRow, wtD] at *; omega))
/- loop.example/g00119/laws.szLabelS -/
theorem f216 {l : Rows} (hl : SL E 272 l) (left : Int) (h0 : 0 ≤ left) (h1 : left ≤ big) : SzF fs 216 (.d (.s 2 l)) left (l.length + wtRows l) := by
  refine sz_rows (fun d n m i => l216x0 (TabD fs d) d n [.fz 2 l, .v (.int .i64 m), .v (.int .i64 i)]) (af := a216) rfl rfl (fun d m => a216q ..) hl.1 (fun d n m => ?_) (fun i x m Q hi hx hm0 hm1 k => ?_) left h0 h1
  · rw [l216x0s]
    simp only [cI, cB, cS, cL, oD_d, oG_g, oT_t, oP_p, dI_v, dB_v, dS_v, dL_s, cell_z, cell_s, nth_z, nth_s, aV_z, aV_s, aI_v, aB_v, aS_v, aL_f, aO_o, aX_b, tst_t, cond_true, cond_false, Ex.same, Nat.beq, List.length_cons, List.length_nil, Int.toNat_natCast, Int.lt_irrefl, decide_false]
  · have h := hl.at hx
    have h' := h
    rw [E272] at h
    obtain ⟨sa0, ra0, rfl, pa0, h_a0⟩ := inv_s h
    obtain ⟨sa1, ra1, rfl, pa1, h_a1⟩ := inv_s h_a0
    cases inv_nil h_a1
    simp only [l216x0s]
    simp only [cI, cB, cS, cL, oD_d, oG_g, oT_t, oP_p, dI_v, dB_v, dS_v, dL_s, cell_z, cell_s, nth_z, nth_s, aV_z, aV_s, aI_v, aB_v, aS_v, aL_f, aO_o, aX_b, tst_t, cond_true, cond_false, Ex.same, Nat.beq, List.length_cons, List.length_nil, Int.toNat_natCast, decide_eq_true (Int.ofNat_lt.2 hi), dec_nn, look_at hx, wrap_succ hi hl.1]
    refine sz_call (f236 (by assumption) m hm0 (by omega)) fun m1 q1 z1 => ?_
    exact k m1 q1 (by first | omega | (simp only [wtRow, wtD] at *; omega))
/- loop.example/g00119/laws.szIsland -/
theorem f182 {row : Row} (h : ShL E (E 181) row) (left : Int) (h0 : 0 ≤ left) (h1 : left ≤ big) : SzF fs 182 (.g row) left (wtRow row) := by
  rw [E181] at h
  obtain ⟨sa0, ra0, rfl, pa0, h_a0⟩ := inv_s h
  obtain ⟨la1, ra1, rfl, pa1, h_a1⟩ := inv_sl W272 h_a0
  obtain ⟨la2, ra2, rfl, pa2, h_a2⟩ := inv_sl W9 h_a1
  obtain ⟨na3, ra3, rfl, pa3, h_a3⟩ := inv_i h_a2
  cases inv_nil h_a3
  refine SzF.of (af := a182) rfl rfl (fun d n => a182q ..) ?_
  refine sz_str h0 (by omega) (by assumption) fun m1 e1 q1 z1 => ?_
  simp only [e1]
  refine sz_call (f216 (by assumption) m1 q1 (by omega)) fun m2 q2 z2 => ?_
  refine sz_call (f63 (by assumption) m2 q2 (by omega)) fun m3 q3 z3 => ?_
  exact sz_ret q3 (by first | omega | (simp only [wtRow, wtD] at *; omega))
/- loop.example/g00119/laws.szPost -/
theorem f137 {row : Row} (h : ShL E (E 183) row) (left : Int) (h0 : 0 ≤ left) (h1 : left ≤ big) : SzF fs 137 (.g row) left (wtRow row) := by
  rw [E183] at h
  obtain ⟨sa0, ra0, rfl, pa0, h_a0⟩ := inv_s h
  obtain ⟨la1, ra1, rfl, pa1, h_a1⟩ := inv_sl W272 h_a0
  obtain ⟨la2, ra2, rfl, pa2, h_a2⟩ := inv_sl W9 h_a1
  obtain ⟨na3, ra3, rfl, pa3, h_a3⟩ := inv_i h_a2
  obtain ⟨na4, ra4, rfl, pa4, h_a4⟩ := inv_i h_a3
  obtain ⟨na5, ra5, rfl, pa5, h_a5⟩ := inv_i h_a4
  cases inv_nil h_a5
  refine SzF.of (af := a137) rfl rfl (fun d n => a137q ..) ?_
  refine sz_call (f182 (by rw [E181]; exact mk_s (by assumption) (mk_sl W272 (by assumption) (mk_sl W9 (by assumption) (mk_i (by assumption) (ShL.nil))))) left h0 (by omega)) fun m1 q1 z1 => ?_
  exact sz_ret q1 (by first | omega | (simp only [wtRow, wtD] at *; omega))
/- loop.example/g00119/laws.szPostS -/
theorem f61 {l : Rows} (hl : SL E 183 l) (left : Int) (h0 : 0 ≤ left) (h1 : left ≤ big) : SzF fs 61 (.d (.s 6 l)) left (l.length + wtRows l) := by
  refine sz_rows (fun d n m i => l61x0 (TabD fs d) d n [.fz 6 l, .v (.int .i64 m), .v (.int .i64 i)]) (af := a61) rfl rfl (fun d m => a61q ..) hl.1 (fun d n m => ?_) (fun i x m Q hi hx hm0 hm1 k => ?_) left h0 h1
  · rw [l61x0s]
    simp only [cI, cB, cS, cL, oD_d, oG_g, oT_t, oP_p, dI_v, dB_v, dS_v, dL_s, cell_z, cell_s, nth_z, nth_s, aV_z, aV_s, aI_v, aB_v, aS_v, aL_f, aO_o, aX_b, tst_t, cond_true, cond_false, Ex.same, Nat.beq, List.length_cons, List.length_nil, Int.toNat_natCast, Int.lt_irrefl, decide_false]
  · have h := hl.at hx
    have h' := h
    rw [E183] at h
    obtain ⟨sa0, ra0, rfl, pa0, h_a0⟩ := inv_s h
    obtain ⟨la1, ra1, rfl, pa1, h_a1⟩ := inv_sl W272 h_a0
    obtain ⟨la2, ra2, rfl, pa2, h_a2⟩ := inv_sl W9 h_a1
    obtain ⟨na3, ra3, rfl, pa3, h_a3⟩ := inv_i h_a2
    obtain ⟨na4, ra4, rfl, pa4, h_a4⟩ := inv_i h_a3
    obtain ⟨na5, ra5, rfl, pa5, h_a5⟩ := inv_i h_a4
    cases inv_nil h_a5
    simp only [l61x0s]
    simp only [cI, cB, cS, cL, oD_d, oG_g, oT_t, oP_p, dI_v, dB_v, dS_v, dL_s, cell_z, cell_s, nth_z, nth_s, aV_z, aV_s, aI_v, aB_v, aS_v, aL_f, aO_o, aX_b, tst_t, cond_true, cond_false, Ex.same, Nat.beq, List.length_cons, List.length_nil, Int.toNat_natCast, decide_eq_true (Int.ofNat_lt.2 hi), dec_nn, look_at hx, wrap_succ hi hl.1]
    refine sz_call (f137 (by assumption) m hm0 (by omega)) fun m1 q1 z1 => ?_
    exact k m1 q1 (by first | omega | (simp only [wtRow, wtD] at *; omega))
/- loop.example/g00119/laws.szHold -/
theorem f138 {row : Row} (h : ShL E (E 185) row) (left : Int) (h0 : 0 ≤ left) (h1 : left ≤ big) : SzF fs 138 (.g row) left (wtRow row) := by
  rw [E185] at h
  obtain ⟨na0, ra0, rfl, pa0, h_a0⟩ := inv_i h
  obtain ⟨sa1, ra1, rfl, pa1, h_a1⟩ := inv_s h_a0
  obtain ⟨na2, ra2, rfl, pa2, h_a2⟩ := inv_i h_a1
  obtain ⟨na3, ra3, rfl, pa3, h_a3⟩ := inv_i h_a2
  obtain ⟨na4, ra4, rfl, pa4, h_a4⟩ := inv_i h_a3
  cases inv_nil h_a4
  refine SzF.of (af := a138) rfl rfl (fun d n => a138q ..) ?_
  refine sz_str h0 (by omega) (by assumption) fun m1 e1 q1 z1 => ?_
  simp only [e1]
  exact sz_ret q1 (by first | omega | (simp only [wtRow, wtD] at *; omega))
/- loop.example/g00119/laws.szHoldS -/
theorem f62 {l : Rows} (hl : SL E 185 l) (left : Int) (h0 : 0 ≤ left) (h1 : left ≤ big) : SzF fs 62 (.d (.s 5 l)) left (l.length + wtRows l) := by
  refine sz_rows (fun d n m i => l62x0 (TabD fs d) d n [.fz 5 l, .v (.int .i64 m), .v (.int .i64 i)]) (af := a62) rfl rfl (fun d m => a62q ..) hl.1 (fun d n m => ?_) (fun i x m Q hi hx hm0 hm1 k => ?_) left h0 h1
  · rw [l62x0s]
    simp only [cI, cB, cS, cL, oD_d, oG_g, oT_t, oP_p, dI_v, dB_v, dS_v, dL_s, cell_z, cell_s, nth_z, nth_s, aV_z, aV_s, aI_v, aB_v, aS_v, aL_f, aO_o, aX_b, tst_t, cond_true, cond_false, Ex.same, Nat.beq, List.length_cons, List.length_nil, Int.toNat_natCast, Int.lt_irrefl, decide_false]
  · have h := hl.at hx
    have h' := h
    rw [E185] at h
    obtain ⟨na0, ra0, rfl, pa0, h_a0⟩ := inv_i h
    obtain ⟨sa1, ra1, rfl, pa1, h_a1⟩ := inv_s h_a0
    obtain ⟨na2, ra2, rfl, pa2, h_a2⟩ := inv_i h_a1
    obtain ⟨na3, ra3, rfl, pa3, h_a3⟩ := inv_i h_a2
    obtain ⟨na4, ra4, rfl, pa4, h_a4⟩ := inv_i h_a3
    cases inv_nil h_a4
    simp only [l62x0s]
    simp only [cI, cB, cS, cL, oD_d, oG_g, oT_t, oP_p, dI_v, dB_v, dS_v, dL_s, cell_z, cell_s, nth_z, nth_s, aV_z, aV_s, aI_v, aB_v, aS_v, aL_f, aO_o, aX_b, tst_t, cond_true, cond_false, Ex.same, Nat.beq, List.length_cons, List.length_nil, Int.toNat_natCast, decide_eq_true (Int.ofNat_lt.2 hi), dec_nn, look_at hx, wrap_succ hi hl.1]
    refine sz_call (f138 (by assumption) m hm0 (by omega)) fun m1 q1 z1 => ?_
    exact k m1 q1 (by first | omega | (simp only [wtRow, wtD] at *; omega))
/- loop.example/g00119/laws.szHub -/
theorem f21 {row : Row} (h : ShL E (E 50) row) (left : Int) (h0 : 0 ≤ left) (h1 : left ≤ big) : SzF fs 21 (.g row) left (wtRow row) := by
  rw [E50] at h
  obtain ⟨na0, ra0, rfl, pa0, h_a0⟩ := inv_i h
  obtain ⟨na1, ra1, rfl, pa1, h_a1⟩ := inv_i h_a0
  obtain ⟨na2, ra2, rfl, pa2, h_a2⟩ := inv_i h_a1
  obtain ⟨la3, ra3, rfl, pa3, h_a3⟩ := inv_sl W177 h_a2
  obtain ⟨la4, ra4, rfl, pa4, h_a4⟩ := inv_sl W183 h_a3
  obtain ⟨la5, ra5, rfl, pa5, h_a5⟩ := inv_sl W185 h_a4
  obtain ⟨la6, ra6, rfl, pa6, h_a6⟩ := inv_sl W9 h_a5
  cases inv_nil h_a6
  refine SzF.of (af := a21) rfl rfl (fun d n => a21q ..) ?_
  refine sz_call (f60 (by assumption) left h0 (by omega)) fun m1 q1 z1 => ?_
  refine sz_call (f61 (by assumption) m1 q1 (by omega)) fun m2 q2 z2 => ?_
  refine sz_call (f62 (by assumption) m2 q2 (by omega)) fun m3 q3 z3 => ?_
  refine sz_call (f63 (by assumption) m3 q3 (by omega)) fun m4 q4 z4 => ?_
  exact sz_ret q4 (by first | omega | (simp only [wtRow, wtD] at *; omega))
end Go.Am.Sm
