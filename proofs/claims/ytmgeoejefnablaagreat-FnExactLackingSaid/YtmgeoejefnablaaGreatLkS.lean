/- What the functions of one family say in the end. Nothing is assumed. -/
import Derived.Test.YtmgeoejefnablaaGreatLkH
namespace Go.Am.Lk
set_option linter.unusedVariables false
set_option linter.unusedSimpArgs false
set_option maxRecDepth 8000
/- loop.example/g00119/laws.szStringS -/
theorem f31 {l : Rows} (hl : SL E 9 l) (left : Int) (h0 : 0 ≤ left) (h1 : left ≤ big) : SzF fs 31 (.d (.s 1 l)) left (l.length + wtRows l) := by
  refine sz_rows (fun d n m i => l31x0 (TabD fs d) d n [.fz 1 l, .v (.int .i64 m), .v (.int .i64 i)]) (af := a31) rfl rfl (fun d m => a31q ..) hl.1 (fun d n m => ?_) (fun i x m Q hi hx hm0 hm1 k => ?_) left h0 h1
  · rw [l31x0s]
    simp -implicitDefEqProofs only [rdl, Ex.same, Nat.beq, Int.lt_irrefl, decide_false]
  · have h := hl.at hx
    have h' := h
    obtain ⟨sa0, rfl, pa0⟩ := I9 h
    simp only [l31x0s]
    simp -implicitDefEqProofs only [rdl, Ex.same, Nat.beq, decide_eq_true (Int.ofNat_lt.2 hi), dec_nn, look_at hx, wrap_succ hi hl.1]
    refine sz_str hm0 (by omega) (by assumption) fun m1 e1 q1 z1 => ?_
    simp only [e1]
    exact k m1 q1 (by first | omega | (simp only [wtRow, wtD] at *; omega))
/- loop.example/g00119/laws.szTerm -/
theorem f193 {row : Row} (h : ShL E (E 264) row) (left : Int) (h0 : 0 ≤ left) (h1 : left ≤ big) : SzF fs 193 (.g row) left (wtRow row) := by
  obtain ⟨na0, sa1, la2, rfl, pa0, pa1, pa2⟩ := I264 h
  refine SzF.of (af := a193) rfl rfl (fun d n => a193q ..) ?_
  refine sz_str h0 (by omega) (by assumption) fun m1 e1 q1 z1 => ?_
  simp only [e1]
  refine sz_call (f31 (by assumption) m1 q1 (by omega)) fun m2 q2 z2 => ?_
  exact sz_ret q2 (by first | omega | (simp only [wtRow, wtD] at *; omega))
/- loop.example/g00119/laws.szTermS -/
theorem f128 {l : Rows} (hl : SL E 264 l) (left : Int) (h0 : 0 ≤ left) (h1 : left ≤ big) : SzF fs 128 (.d (.s 3 l)) left (l.length + wtRows l) := by
  refine sz_rows (fun d n m i => l128x0 (TabD fs d) d n [.fz 3 l, .v (.int .i64 m), .v (.int .i64 i)]) (af := a128) rfl rfl (fun d m => a128q ..) hl.1 (fun d n m => ?_) (fun i x m Q hi hx hm0 hm1 k => ?_) left h0 h1
  · rw [l128x0s]
    simp -implicitDefEqProofs only [rdl, Ex.same, Nat.beq, Int.lt_irrefl, decide_false]
  · have h := hl.at hx
    have h' := h
    obtain ⟨na0, sa1, la2, rfl, pa0, pa1, pa2⟩ := I264 h
    simp only [l128x0s]
    simp -implicitDefEqProofs only [rdl, Ex.same, Nat.beq, decide_eq_true (Int.ofNat_lt.2 hi), dec_nn, look_at hx, wrap_succ hi hl.1]
    refine sz_call (f193 (by assumption) m hm0 (by omega)) fun m1 q1 z1 => ?_
    exact k m1 q1 (by first | omega | (simp only [wtRow, wtD] at *; omega))
/- loop.example/g00119/laws.szWeigh -/
theorem f194 {row : Row} (h : ShL E (E 266) row) (left : Int) (h0 : 0 ≤ left) (h1 : left ≤ big) : SzF fs 194 (.g row) left (wtRow row) := by
  obtain ⟨sa0, na1, rfl, pa0, pa1⟩ := I266 h
  refine SzF.of (af := a194) rfl rfl (fun d n => a194q ..) ?_
  refine sz_str h0 (by omega) (by assumption) fun m1 e1 q1 z1 => ?_
  simp only [e1]
  exact sz_ret q1 (by first | omega | (simp only [wtRow, wtD] at *; omega))
/- loop.example/g00119/laws.szWeighS -/
theorem f129 {l : Rows} (hl : SL E 266 l) (left : Int) (h0 : 0 ≤ left) (h1 : left ≤ big) : SzF fs 129 (.d (.s 2 l)) left (l.length + wtRows l) := by
  refine sz_rows (fun d n m i => l129x0 (TabD fs d) d n [.fz 2 l, .v (.int .i64 m), .v (.int .i64 i)]) (af := a129) rfl rfl (fun d m => a129q ..) hl.1 (fun d n m => ?_) (fun i x m Q hi hx hm0 hm1 k => ?_) left h0 h1
  · rw [l129x0s]
    simp -implicitDefEqProofs only [rdl, Ex.same, Nat.beq, Int.lt_irrefl, decide_false]
  · have h := hl.at hx
    have h' := h
    obtain ⟨sa0, na1, rfl, pa0, pa1⟩ := I266 h
    simp only [l129x0s]
    simp -implicitDefEqProofs only [rdl, Ex.same, Nat.beq, decide_eq_true (Int.ofNat_lt.2 hi), dec_nn, look_at hx, wrap_succ hi hl.1]
    refine sz_call (f194 (by assumption) m hm0 (by omega)) fun m1 q1 z1 => ?_
    exact k m1 q1 (by first | omega | (simp only [wtRow, wtD] at *; omega))
/- loop.example/g00119/laws.szWant -/
theorem f62 {row : Row} (h : ShL E (E 59) row) (left : Int) (h0 : 0 ≤ left) (h1 : left ≤ big) : SzF fs 62 (.g row) left (wtRow row) := by
  obtain ⟨na0, la1, la2, la3, rfl, pa0, pa1, pa2, pa3⟩ := I59 h
  refine SzF.of (af := a62) rfl rfl (fun d n => a62q ..) ?_
  refine sz_call (f128 (by assumption) left h0 (by omega)) fun m1 q1 z1 => ?_
  refine sz_call (f31 (by assumption) m1 q1 (by omega)) fun m2 q2 z2 => ?_
  refine sz_call (f129 (by assumption) m2 q2 (by omega)) fun m3 q3 z3 => ?_
  exact sz_ret q3 (by first | omega | (simp only [wtRow, wtD] at *; omega))
/- loop.example/g00119/laws.szValueS -/
mutual
theorem fr63 {row : Row} (h : ShL E (E 62) row) (left : Int) (h0 : 0 ≤ left) (h1 : left ≤ big) (W : Nat) (hW : 2 * wtRow row + 1 = W) : SzF fs 63 (.g row) left (wtRow row) := by
  obtain ⟨na0, sa1, na2, la3, la4, rfl, pa0, pa1, pa2, pa3, pa4⟩ := I62 h
  refine SzF.of (af := a63) rfl rfl (fun d n => a63q ..) ?_
  refine sz_str h0 (by omega) (by assumption) fun m1 e1 q1 z1 => ?_
  simp only [e1]
  refine sz_call (f31 (by assumption) m1 q1 (by omega)) fun m2 q2 z2 => ?_
  refine sz_call (fr130 (by assumption) m2 q2 (by omega) _ rfl) fun m3 q3 z3 => ?_
  exact sz_ret q3 (by first | omega | (simp only [wtRow, wtD] at *; omega))
termination_by W
decreasing_by all_goals (try have := wt_at hx); (try simp only [wtRow, wtD] at *); omega
theorem fr130 {l : Rows} (hl : SL E 62 l) (left : Int) (h0 : 0 ≤ left) (h1 : left ≤ big) (W : Nat) (hW : 2 * (l.length + wtRows l) = W) : SzF fs 130 (.d (.s 5 l)) left (l.length + wtRows l) := by
  refine sz_rows (fun d n m i => l130x0 (TabD fs d) d n [.fz 5 l, .v (.int .i64 m), .v (.int .i64 i)]) (af := a130) rfl rfl (fun d m => a130q ..) hl.1 (fun d n m => ?_) (fun i x m Q hi hx hm0 hm1 k => ?_) left h0 h1
  · rw [l130x0s]
    simp -implicitDefEqProofs only [rdl, Ex.same, Nat.beq, Int.lt_irrefl, decide_false]
  · have h := hl.at hx
    have h' := h
    obtain ⟨na0, sa1, na2, la3, la4, rfl, pa0, pa1, pa2, pa3, pa4⟩ := I62 h
    simp only [l130x0s]
    simp -implicitDefEqProofs only [rdl, Ex.same, Nat.beq, decide_eq_true (Int.ofNat_lt.2 hi), dec_nn, look_at hx, wrap_succ hi hl.1]
    refine sz_call (fr63 (by assumption) m hm0 (by omega) _ rfl) fun m1 q1 z1 => ?_
    exact k m1 q1 (by first | omega | (simp only [wtRow, wtD] at *; omega))
termination_by W
decreasing_by all_goals (try have := wt_at hx); (try simp only [wtRow, wtD] at *); omega
end
theorem f63 {row : Row} (h : ShL E (E 62) row) (left : Int) (h0 : 0 ≤ left) (h1 : left ≤ big) : SzF fs 63 (.g row) left (wtRow row) := fr63 h left h0 h1 _ rfl
theorem f130 {l : Rows} (hl : SL E 62 l) (left : Int) (h0 : 0 ≤ left) (h1 : left ≤ big) : SzF fs 130 (.d (.s 5 l)) left (l.length + wtRows l) := fr130 hl left h0 h1 _ rfl
/- loop.example/g00119/laws.szOp -/
theorem f234 {row : Row} (h : ShL E (E 304) row) (left : Int) (h0 : 0 ≤ left) (h1 : left ≤ big) : SzF fs 234 (.g row) left (wtRow row) := by
  obtain ⟨na0, la1, na2, sa3, na4, la5, la6, rfl, pa0, pa1, pa2, pa3, pa4, pa5, pa6⟩ := I304 h
  refine SzF.of (af := a234) rfl rfl (fun d n => a234q ..) ?_
  refine sz_call (f31 (by assumption) left h0 (by omega)) fun m1 q1 z1 => ?_
  refine sz_call (f63 (by rw [E62]; exact mk_i (by assumption) (mk_s (by assumption) (mk_i (by assumption) (mk_sl W9 (by assumption) (mk_sl W62 (by assumption) (ShL.nil)))))) m1 q1 (by omega)) fun m2 q2 z2 => ?_
  exact sz_ret q2 (by first | omega | (simp only [wtRow, wtD] at *; omega))
/- loop.example/g00119/laws.szOpS -/
theorem f195 {l : Rows} (hl : SL E 304 l) (left : Int) (h0 : 0 ≤ left) (h1 : left ≤ big) : SzF fs 195 (.d (.s 7 l)) left (l.length + wtRows l) := by
  refine sz_rows (fun d n m i => l195x0 (TabD fs d) d n [.fz 7 l, .v (.int .i64 m), .v (.int .i64 i)]) (af := a195) rfl rfl (fun d m => a195q ..) hl.1 (fun d n m => ?_) (fun i x m Q hi hx hm0 hm1 k => ?_) left h0 h1
  · rw [l195x0s]
    simp -implicitDefEqProofs only [rdl, Ex.same, Nat.beq, Int.lt_irrefl, decide_false]
  · have h := hl.at hx
    have h' := h
    obtain ⟨na0, la1, na2, sa3, na4, la5, la6, rfl, pa0, pa1, pa2, pa3, pa4, pa5, pa6⟩ := I304 h
    simp only [l195x0s]
    simp -implicitDefEqProofs only [rdl, Ex.same, Nat.beq, decide_eq_true (Int.ofNat_lt.2 hi), dec_nn, look_at hx, wrap_succ hi hl.1]
    refine sz_call (f234 (by assumption) m hm0 (by omega)) fun m1 q1 z1 => ?_
    exact k m1 q1 (by first | omega | (simp only [wtRow, wtD] at *; omega))
/- loop.example/g00119/laws.szOver -/
theorem f131 {row : Row} (h : ShL E (E 205) row) (left : Int) (h0 : 0 ≤ left) (h1 : left ≤ big) : SzF fs 131 (.g row) left (wtRow row) := by
  obtain ⟨sa0, la1, rfl, pa0, pa1⟩ := I205 h
  refine SzF.of (af := a131) rfl rfl (fun d n => a131q ..) ?_
  refine sz_str h0 (by omega) (by assumption) fun m1 e1 q1 z1 => ?_
  simp only [e1]
  refine sz_call (f195 (by assumption) m1 q1 (by omega)) fun m2 q2 z2 => ?_
  exact sz_ret q2 (by first | omega | (simp only [wtRow, wtD] at *; omega))
/- loop.example/g00119/laws.szOverS -/
theorem f64 {l : Rows} (hl : SL E 205 l) (left : Int) (h0 : 0 ≤ left) (h1 : left ≤ big) : SzF fs 64 (.d (.s 2 l)) left (l.length + wtRows l) := by
  refine sz_rows (fun d n m i => l64x0 (TabD fs d) d n [.fz 2 l, .v (.int .i64 m), .v (.int .i64 i)]) (af := a64) rfl rfl (fun d m => a64q ..) hl.1 (fun d n m => ?_) (fun i x m Q hi hx hm0 hm1 k => ?_) left h0 h1
  · rw [l64x0s]
    simp -implicitDefEqProofs only [rdl, Ex.same, Nat.beq, Int.lt_irrefl, decide_false]
  · have h := hl.at hx
    have h' := h
    obtain ⟨sa0, la1, rfl, pa0, pa1⟩ := I205 h
    simp only [l64x0s]
    simp -implicitDefEqProofs only [rdl, Ex.same, Nat.beq, decide_eq_true (Int.ofNat_lt.2 hi), dec_nn, look_at hx, wrap_succ hi hl.1]
    refine sz_call (f131 (by assumption) m hm0 (by omega)) fun m1 q1 z1 => ?_
    exact k m1 q1 (by first | omega | (simp only [wtRow, wtD] at *; omega))
/- loop.example/g00119/laws.szJob -/
theorem f111 {row : Row} (h : ShL E (E 174) row) (left : Int) (h0 : 0 ≤ left) (h1 : left ≤ big) : SzF fs 111 (.g row) left (wtRow row) := by
  obtain ⟨na0, sa1, na2, la3, la4, la5, na6, sa7, na8, la9, la10, la11, ba12, rfl, pa0, pa1, pa2, pa3, pa4, pa5, pa6, pa7, pa8, pa9, pa10, pa11⟩ := I174 h
  refine SzF.of (af := a111) rfl rfl (fun d n => a111q ..) ?_
  refine sz_str h0 (by omega) (by assumption) fun m1 e1 q1 z1 => ?_
  simp only [e1]
  refine sz_call (f62 (by rw [E59]; exact mk_i (by assumption) (mk_sl W264 (by assumption) (mk_sl W9 (by assumption) (mk_sl W266 (by assumption) (ShL.nil))))) m1 q1 (by omega)) fun m2 q2 z2 => ?_
  refine sz_call (f63 (by rw [E62]; exact mk_i (by assumption) (mk_s (by assumption) (mk_i (by assumption) (mk_sl W9 (by assumption) (mk_sl W62 (by assumption) (ShL.nil)))))) m2 q2 (by omega)) fun m3 q3 z3 => ?_
  refine sz_call (f64 (by assumption) m3 q3 (by omega)) fun m4 q4 z4 => ?_
  exact sz_ret q4 (by first | omega | (simp only [wtRow, wtD] at *; omega))
/- loop.example/g00119/laws.szJobS -/
theorem f44 {l : Rows} (hl : SL E 174 l) (left : Int) (h0 : 0 ≤ left) (h1 : left ≤ big) : SzF fs 44 (.d (.s 13 l)) left (l.length + wtRows l) := by
  refine sz_rows (fun d n m i => l44x0 (TabD fs d) d n [.fz 13 l, .v (.int .i64 m), .v (.int .i64 i)]) (af := a44) rfl rfl (fun d m => a44q ..) hl.1 (fun d n m => ?_) (fun i x m Q hi hx hm0 hm1 k => ?_) left h0 h1
  · rw [l44x0s]
    simp -implicitDefEqProofs only [rdl, Ex.same, Nat.beq, Int.lt_irrefl, decide_false]
  · have h := hl.at hx
    have h' := h
    obtain ⟨na0, sa1, na2, la3, la4, la5, na6, sa7, na8, la9, la10, la11, ba12, rfl, pa0, pa1, pa2, pa3, pa4, pa5, pa6, pa7, pa8, pa9, pa10, pa11⟩ := I174 h
    simp only [l44x0s]
    simp -implicitDefEqProofs only [rdl, Ex.same, Nat.beq, decide_eq_true (Int.ofNat_lt.2 hi), dec_nn, look_at hx, wrap_succ hi hl.1]
    refine sz_call (f111 (by assumption) m hm0 (by omega)) fun m1 q1 z1 => ?_
    exact k m1 q1 (by first | omega | (simp only [wtRow, wtD] at *; omega))
/- loop.example/g00119/laws.szLabel -/
theorem f196 {row : Row} (h : ShL E (E 269) row) (left : Int) (h0 : 0 ≤ left) (h1 : left ≤ big) : SzF fs 196 (.g row) left (wtRow row) := by
  obtain ⟨sa0, sa1, rfl, pa0, pa1⟩ := I269 h
  refine SzF.of (af := a196) rfl rfl (fun d n => a196q ..) ?_
  refine sz_str h0 (by omega) (by assumption) fun m1 e1 q1 z1 => ?_
  simp only [e1]
  refine sz_str q1 (by omega) (by assumption) fun m2 e2 q2 z2 => ?_
  simp only [e2]
  exact sz_ret q2 (by first | omega | (simp only [wtRow, wtD] at *; omega))
/- loop.example/g00119/laws.szLabelS -/
theorem f132 {l : Rows} (hl : SL E 269 l) (left : Int) (h0 : 0 ≤ left) (h1 : left ≤ big) : SzF fs 132 (.d (.s 2 l)) left (l.length + wtRows l) := by
  refine sz_rows (fun d n m i => l132x0 (TabD fs d) d n [.fz 2 l, .v (.int .i64 m), .v (.int .i64 i)]) (af := a132) rfl rfl (fun d m => a132q ..) hl.1 (fun d n m => ?_) (fun i x m Q hi hx hm0 hm1 k => ?_) left h0 h1
  · rw [l132x0s]
    simp -implicitDefEqProofs only [rdl, Ex.same, Nat.beq, Int.lt_irrefl, decide_false]
  · have h := hl.at hx
    have h' := h
    obtain ⟨sa0, sa1, rfl, pa0, pa1⟩ := I269 h
    simp only [l132x0s]
    simp -implicitDefEqProofs only [rdl, Ex.same, Nat.beq, decide_eq_true (Int.ofNat_lt.2 hi), dec_nn, look_at hx, wrap_succ hi hl.1]
    refine sz_call (f196 (by assumption) m hm0 (by omega)) fun m1 q1 z1 => ?_
    exact k m1 q1 (by first | omega | (simp only [wtRow, wtD] at *; omega))
/- loop.example/g00119/laws.szIsland -/
theorem f65 {row : Row} (h : ShL E (E 66) row) (left : Int) (h0 : 0 ≤ left) (h1 : left ≤ big) : SzF fs 65 (.g row) left (wtRow row) := by
  obtain ⟨sa0, la1, la2, na3, rfl, pa0, pa1, pa2, pa3⟩ := I66 h
  refine SzF.of (af := a65) rfl rfl (fun d n => a65q ..) ?_
  refine sz_str h0 (by omega) (by assumption) fun m1 e1 q1 z1 => ?_
  simp only [e1]
  refine sz_call (f132 (by assumption) m1 q1 (by omega)) fun m2 q2 z2 => ?_
  refine sz_call (f31 (by assumption) m2 q2 (by omega)) fun m3 q3 z3 => ?_
  exact sz_ret q3 (by first | omega | (simp only [wtRow, wtD] at *; omega))
/- loop.example/g00119/laws.szPost -/
theorem f112 {row : Row} (h : ShL E (E 177) row) (left : Int) (h0 : 0 ≤ left) (h1 : left ≤ big) : SzF fs 112 (.g row) left (wtRow row) := by
  obtain ⟨sa0, la1, la2, na3, na4, na5, rfl, pa0, pa1, pa2, pa3, pa4, pa5⟩ := I177 h
  refine SzF.of (af := a112) rfl rfl (fun d n => a112q ..) ?_
  refine sz_call (f65 (by rw [E66]; exact mk_s (by assumption) (mk_sl W269 (by assumption) (mk_sl W9 (by assumption) (mk_i (by assumption) (ShL.nil))))) left h0 (by omega)) fun m1 q1 z1 => ?_
  exact sz_ret q1 (by first | omega | (simp only [wtRow, wtD] at *; omega))
/- loop.example/g00119/laws.szPostS -/
theorem f45 {l : Rows} (hl : SL E 177 l) (left : Int) (h0 : 0 ≤ left) (h1 : left ≤ big) : SzF fs 45 (.d (.s 6 l)) left (l.length + wtRows l) := by
  refine sz_rows (fun d n m i => l45x0 (TabD fs d) d n [.fz 6 l, .v (.int .i64 m), .v (.int .i64 i)]) (af := a45) rfl rfl (fun d m => a45q ..) hl.1 (fun d n m => ?_) (fun i x m Q hi hx hm0 hm1 k => ?_) left h0 h1
  · rw [l45x0s]
    simp -implicitDefEqProofs only [rdl, Ex.same, Nat.beq, Int.lt_irrefl, decide_false]
  · have h := hl.at hx
    have h' := h
    obtain ⟨sa0, la1, la2, na3, na4, na5, rfl, pa0, pa1, pa2, pa3, pa4, pa5⟩ := I177 h
    simp only [l45x0s]
    simp -implicitDefEqProofs only [rdl, Ex.same, Nat.beq, decide_eq_true (Int.ofNat_lt.2 hi), dec_nn, look_at hx, wrap_succ hi hl.1]
    refine sz_call (f112 (by assumption) m hm0 (by omega)) fun m1 q1 z1 => ?_
    exact k m1 q1 (by first | omega | (simp only [wtRow, wtD] at *; omega))
/- loop.example/g00119/laws.szHold -/
theorem f113 {row : Row} (h : ShL E (E 180) row) (left : Int) (h0 : 0 ≤ left) (h1 : left ≤ big) : SzF fs 113 (.g row) left (wtRow row) := by
  obtain ⟨na0, sa1, na2, na3, na4, rfl, pa0, pa1, pa2, pa3, pa4⟩ := I180 h
  refine SzF.of (af := a113) rfl rfl (fun d n => a113q ..) ?_
  refine sz_str h0 (by omega) (by assumption) fun m1 e1 q1 z1 => ?_
  simp only [e1]
  exact sz_ret q1 (by first | omega | (simp only [wtRow, wtD] at *; omega))
/- loop.example/g00119/laws.szHoldS -/
theorem f46 {l : Rows} (hl : SL E 180 l) (left : Int) (h0 : 0 ≤ left) (h1 : left ≤ big) : SzF fs 46 (.d (.s 5 l)) left (l.length + wtRows l) := by
  refine sz_rows (fun d n m i => l46x0 (TabD fs d) d n [.fz 5 l, .v (.int .i64 m), .v (.int .i64 i)]) (af := a46) rfl rfl (fun d m => a46q ..) hl.1 (fun d n m => ?_) (fun i x m Q hi hx hm0 hm1 k => ?_) left h0 h1
  · rw [l46x0s]
    simp -implicitDefEqProofs only [rdl, Ex.same, Nat.beq, Int.lt_irrefl, decide_false]
  · have h := hl.at hx
    have h' := h
    obtain ⟨na0, sa1, na2, na3, na4, rfl, pa0, pa1, pa2, pa3, pa4⟩ := I180 h
    simp only [l46x0s]
    simp -implicitDefEqProofs only [rdl, Ex.same, Nat.beq, decide_eq_true (Int.ofNat_lt.2 hi), dec_nn, look_at hx, wrap_succ hi hl.1]
    refine sz_call (f113 (by assumption) m hm0 (by omega)) fun m1 q1 z1 => ?_
    exact k m1 q1 (by first | omega | (simp only [wtRow, wtD] at *; omega))
/- loop.example/g00119/laws.szHub -/
theorem f12 {row : Row} (h : ShL E (E 27) row) (left : Int) (h0 : 0 ≤ left) (h1 : left ≤ big) : SzF fs 12 (.g row) left (wtRow row) := by
  obtain ⟨na0, na1, na2, la3, la4, la5, la6, rfl, pa0, pa1, pa2, pa3, pa4, pa5, pa6⟩ := I27 h
  refine SzF.of (af := a12) rfl rfl (fun d n => a12q ..) ?_
  refine sz_call (f44 (by assumption) left h0 (by omega)) fun m1 q1 z1 => ?_
  refine sz_call (f45 (by assumption) m1 q1 (by omega)) fun m2 q2 z2 => ?_
  refine sz_call (f46 (by assumption) m2 q2 (by omega)) fun m3 q3 z3 => ?_
  refine sz_call (f31 (by assumption) m3 q3 (by omega)) fun m4 q4 z4 => ?_
  exact sz_ret q4 (by first | omega | (simp only [wtRow, wtD] at *; omega))
end Go.Am.Lk
