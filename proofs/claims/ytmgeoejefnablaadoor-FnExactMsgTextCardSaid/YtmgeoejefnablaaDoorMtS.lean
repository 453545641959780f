/- What the functions of one family say in the end. Nothing is assumed. -/
import Derived.Test.YtmgeoejefnablaaDoorMtH
namespace Go.Am.Mt
set_option linter.unusedVariables false
set_option linter.unusedSimpArgs false
set_option maxRecDepth 8000
/- loop.example/g00119/laws.szStringS -/
theorem f103 {l : Rows} (hl : SL E 9 l) (left : Int) (h0 : 0 ≤ left) (h1 : left ≤ big) : SzF fs 103 (.d (.s 1 l)) left (l.length + wtRows l) := by
  refine sz_rows (fun d n m i => l103x0 (TabD fs d) d n [.fz 1 l, .v (.int .i64 m), .v (.int .i64 i)]) (af := a103) rfl rfl (fun d m => a103q ..) hl.1 (fun d n m => ?_) (fun i x m Q hi hx hm0 hm1 k => ?_) left h0 h1
  · rw [l103x0s]
    simp -implicitDefEqProofs only [rdl, Ex.same, Nat.beq, Int.lt_irrefl, decide_false]
  · have h := hl.at hx
    have h' := h
    obtain ⟨sa0, rfl, pa0⟩ := I9 h
    simp only [l103x0s]
    simp -implicitDefEqProofs only [rdl, Ex.same, Nat.beq, decide_eq_true (Int.ofNat_lt.2 hi), dec_nn, look_at hx, wrap_succ hi hl.1]
    refine sz_str hm0 (by omega) (by assumption) fun m1 e1 q1 z1 => ?_
    simp only [e1]
    exact k m1 q1 (by first | omega | (simp only [wtRow, wtD] at *; omega))
/- loop.example/g00119/laws.szValueS -/
mutual
theorem fr83 {row : Row} (h : ShL E (E 81) row) (left : Int) (h0 : 0 ≤ left) (h1 : left ≤ big) (W : Nat) (hW : 2 * wtRow row + 1 = W) : SzF fs 83 (.g row) left (wtRow row) := by
  obtain ⟨na0, sa1, na2, la3, la4, rfl, pa0, pa1, pa2, pa3, pa4⟩ := I81 h
  refine SzF.of (af := a83) rfl rfl (fun d n => a83q ..) ?_
  refine sz_str h0 (by omega) (by assumption) fun m1 e1 q1 z1 => ?_
  simp only [e1]
  refine sz_call (f103 (by assumption) m1 q1 (by omega)) fun m2 q2 z2 => ?_
  refine sz_call (fr104 (by assumption) m2 q2 (by omega) _ rfl) fun m3 q3 z3 => ?_
  exact sz_ret q3 (by first | omega | (simp only [wtRow, wtD] at *; omega))
termination_by W
decreasing_by all_goals (try have := wt_at hx); (try simp only [wtRow, wtD] at *); omega
theorem fr104 {l : Rows} (hl : SL E 81 l) (left : Int) (h0 : 0 ≤ left) (h1 : left ≤ big) (W : Nat) (hW : 2 * (l.length + wtRows l) = W) : SzF fs 104 (.d (.s 5 l)) left (l.length + wtRows l) := by
  refine sz_rows (fun d n m i => l104x0 (TabD fs d) d n [.fz 5 l, .v (.int .i64 m), .v (.int .i64 i)]) (af := a104) rfl rfl (fun d m => a104q ..) hl.1 (fun d n m => ?_) (fun i x m Q hi hx hm0 hm1 k => ?_) left h0 h1
  · rw [l104x0s]
    simp -implicitDefEqProofs only [rdl, Ex.same, Nat.beq, Int.lt_irrefl, decide_false]
  · have h := hl.at hx
    have h' := h
    obtain ⟨na0, sa1, na2, la3, la4, rfl, pa0, pa1, pa2, pa3, pa4⟩ := I81 h
    simp only [l104x0s]
    simp -implicitDefEqProofs only [rdl, Ex.same, Nat.beq, decide_eq_true (Int.ofNat_lt.2 hi), dec_nn, look_at hx, wrap_succ hi hl.1]
    refine sz_call (fr83 (by assumption) m hm0 (by omega) _ rfl) fun m1 q1 z1 => ?_
    exact k m1 q1 (by first | omega | (simp only [wtRow, wtD] at *; omega))
termination_by W
decreasing_by all_goals (try have := wt_at hx); (try simp only [wtRow, wtD] at *); omega
end
theorem f83 {row : Row} (h : ShL E (E 81) row) (left : Int) (h0 : 0 ≤ left) (h1 : left ≤ big) : SzF fs 83 (.g row) left (wtRow row) := fr83 h left h0 h1 _ rfl
theorem f104 {l : Rows} (hl : SL E 81 l) (left : Int) (h0 : 0 ≤ left) (h1 : left ≤ big) : SzF fs 104 (.d (.s 5 l)) left (l.length + wtRows l) := fr104 hl left h0 h1 _ rfl
/- loop.example/g00119/laws.szWork -/
theorem f49 {row : Row} (h : ShL E (E 83) row) (left : Int) (h0 : 0 ≤ left) (h1 : left ≤ big) : SzF fs 49 (.g row) left (wtRow row) := by
  obtain ⟨na0, na1, na2, sa3, na4, la5, la6, rfl, pa0, pa1, pa2, pa3, pa4, pa5, pa6⟩ := I83 h
  refine SzF.of (af := a49) rfl rfl (fun d n => a49q ..) ?_
  refine sz_call (f83 (by rw [E81]; exact mk_i (by assumption) (mk_s (by assumption) (mk_i (by assumption) (mk_sl W9 (by assumption) (mk_sl W81 (by assumption) (ShL.nil)))))) left h0 (by omega)) fun m1 q1 z1 => ?_
  exact sz_ret q1 (by first | omega | (simp only [wtRow, wtD] at *; omega))
/- loop.example/g00119/laws.szWorkS -/
theorem f23 {l : Rows} (hl : SL E 83 l) (left : Int) (h0 : 0 ≤ left) (h1 : left ≤ big) : SzF fs 23 (.d (.s 7 l)) left (l.length + wtRows l) := by
  refine sz_rows (fun d n m i => l23x0 (TabD fs d) d n [.fz 7 l, .v (.int .i64 m), .v (.int .i64 i)]) (af := a23) rfl rfl (fun d m => a23q ..) hl.1 (fun d n m => ?_) (fun i x m Q hi hx hm0 hm1 k => ?_) left h0 h1
  · rw [l23x0s]
    simp -implicitDefEqProofs only [rdl, Ex.same, Nat.beq, Int.lt_irrefl, decide_false]
  · have h := hl.at hx
    have h' := h
    obtain ⟨na0, na1, na2, sa3, na4, la5, la6, rfl, pa0, pa1, pa2, pa3, pa4, pa5, pa6⟩ := I83 h
    simp only [l23x0s]
    simp -implicitDefEqProofs only [rdl, Ex.same, Nat.beq, decide_eq_true (Int.ofNat_lt.2 hi), dec_nn, look_at hx, wrap_succ hi hl.1]
    refine sz_call (f49 (by assumption) m hm0 (by omega)) fun m1 q1 z1 => ?_
    exact k m1 q1 (by first | omega | (simp only [wtRow, wtD] at *; omega))
/- loop.example/g00119/laws.szRunS -/
theorem f24 {l : Rows} (hl : SL E 90 l) (left : Int) (h0 : 0 ≤ left) (h1 : left ≤ big) : SzF fs 24 (.d (.s 2 l)) left (l.length + wtRows l) := by
  have hz : wtRows l = 0 := wt_flat fun x hx => by
    have h := hl.2.mem x hx
    obtain ⟨na0, na1, rfl, pa0, pa1⟩ := I90 h
    rfl
  refine SzF.of (af := a24) rfl rfl (fun d n => a24q ..) (sz_str h0 h1 hl.1 fun m hm0 hm1 hm2 => ?_)
  rw [hm0]
  exact sz_ret hm1 (by omega)
/- loop.example/g00119/laws.szMsg -/
theorem f6 {row : Row} (h : ShL E (E 25) row) (left : Int) (h0 : 0 ≤ left) (h1 : left ≤ big) : SzF fs 6 (.g row) left (wtRow row) := by
  obtain ⟨na0, sa1, na2, la3, la4, rfl, pa0, pa1, pa2, pa3, pa4⟩ := I25 h
  refine SzF.of (af := a6) rfl rfl (fun d n => a6q ..) ?_
  refine sz_str h0 (by omega) (by assumption) fun m1 e1 q1 z1 => ?_
  simp only [e1]
  refine sz_call (f23 (by assumption) m1 q1 (by omega)) fun m2 q2 z2 => ?_
  refine sz_call (f24 (by assumption) m2 q2 (by omega)) fun m3 q3 z3 => ?_
  exact sz_ret q3 (by first | omega | (simp only [wtRow, wtD] at *; omega))
end Go.Am.Mt
