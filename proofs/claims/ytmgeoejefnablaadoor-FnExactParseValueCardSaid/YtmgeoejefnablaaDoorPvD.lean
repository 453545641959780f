/- What the functions of one family say in the end. Nothing is assumed. -/
import Derived.Test.YtmgeoejefnablaaDoorPvM
namespace Go.Am.Pv
set_option linter.unusedVariables false
set_option linter.unusedSimpArgs false
set_option maxRecDepth 8000
/- loop.example/g00119/laws.heldStringS -/
theorem f41 {l : Rows} (hl : SL E 9 l) (k : Int) (h0 : 0 ≤ k) (hk : k + (cnRows l : Nat) < K62) : Ev fs 41 [.d (.s 1 (mkRows l k)), .d (.v (.int .i64 k))] (io (k + (cnRows l : Nat))) := by
  refine Ev.of (af := a41) rfl rfl (Evt.congr (fun d n => a41q ..) ?_)
  refine ev_aft (L := fun d n => l41x0 (TabD fs d) d n [.fz 1 (mkRows l k), .v (.int .i64 k), .v (.int .i64 0)]) (held_loop (L := fun d n k' i => l41x0 (TabD fs d) d n [.fz 1 (mkRows l k), .v (.int .i64 k'), .v (.int .i64 i)]) (Y := fun k' => (.exit 0, [.v (.int .i64 k')])) h0 hk (fun d n k' => ?_) (fun i x k' res hi hx hm k0 k1 hk => ?_)) ?_
  · rw [l41x0s]
    simp -implicitDefEqProofs only [rdl, Ex.same, Nat.beq, mkRows_length, Int.lt_irrefl, decide_false]
  · have h := hl.at hx
    have h' := h
    obtain ⟨sa0, rfl, pa0⟩ := I9 h
    have hw := wrap_succ hi hl.1
    simp only [mkRow, mkV, cnRow, Nat.add_zero, Int.natCast_add, Int.cast_ofNat_Int, ← Int.add_assoc] at k1 hk hm
    try simp (disch := omega) only [wrap_v] at hm
    simp only [l41x0s]
    simp -implicitDefEqProofs only [rdl, Ex.same, Nat.beq, mkRows_length, decide_eq_true (Int.ofNat_lt.2 hi), dec_nn, look_at hm, hw, bne_self_eq_false, bytesEq_self, Bool.not_true, tst3]
    try simp (disch := omega) only [wrap_k, bne_self_eq_false, cond_false]
    try simp -implicitDefEqProofs only [rdl, Ex.same, Nat.beq, mkRows_length, decide_eq_true (Int.ofNat_lt.2 hi), dec_nn, look_at hm, hw, bne_self_eq_false, bytesEq_self, Bool.not_true, tst3]
    refine ev_call (f75 _ (by omega) (by omega)) ?_
    simp -implicitDefEqProofs only [rdl, Ex.same, Nat.beq, mkRows_length, decide_eq_true (Int.ofNat_lt.2 hi), dec_nn, look_at hm, hw, bne_self_eq_false, bytesEq_self, Bool.not_true, tst3]
    try simp (disch := omega) only [wrap_k, bne_self_eq_false, cond_false]
    try simp -implicitDefEqProofs only [rdl, Ex.same, Nat.beq, mkRows_length, decide_eq_true (Int.ofNat_lt.2 hi), dec_nn, look_at hm, hw, bne_self_eq_false, bytesEq_self, Bool.not_true, tst3]
    exact hk
  · simp -implicitDefEqProofs only [rdl, Ex.same, Nat.beq]
    exact Evt.ret
/- loop.example/g00119/laws.heldValueS -/
theorem fr42 {l : Rows} (hl : SL E 38 l) (k : Int) (h0 : 0 ≤ k) (hk : k + (cnRows l : Nat) < K62) (W : Nat) (hW : 2 * (l.length + wtRows l) = W) : Ev fs 42 [.d (.s 5 (mkRows l k)), .d (.v (.int .i64 k))] (io (k + (cnRows l : Nat))) := by
  refine Ev.of (af := a42) rfl rfl (Evt.congr (fun d n => a42q ..) ?_)
  refine ev_aft (L := fun d n => l42x0 (TabD fs d) d n [.fz 5 (mkRows l k), .v (.int .i64 k), .v (.int .i64 0)]) (held_loop (L := fun d n k' i => l42x0 (TabD fs d) d n [.fz 5 (mkRows l k), .v (.int .i64 k'), .v (.int .i64 i)]) (Y := fun k' => (.exit 0, [.v (.int .i64 k')])) h0 hk (fun d n k' => ?_) (fun i x k' res hi hx hm k0 k1 hk => ?_)) ?_
  · rw [l42x0s]
    simp -implicitDefEqProofs only [rdl, Ex.same, Nat.beq, mkRows_length, Int.lt_irrefl, decide_false]
  · have h := hl.at hx
    have h' := h
    obtain ⟨na0, sa1, na2, la3, la4, rfl, pa0, pa1, pa2, pa3, pa4⟩ := I38 h
    have hw := wrap_succ hi hl.1
    simp only [mkRow, mkV, cnRow, Nat.add_zero, Int.natCast_add, Int.cast_ofNat_Int, ← Int.add_assoc] at k1 hk hm
    try simp (disch := omega) only [wrap_v] at hm
    simp only [l42x0s]
    simp -implicitDefEqProofs only [rdl, Ex.same, Nat.beq, mkRows_length, decide_eq_true (Int.ofNat_lt.2 hi), dec_nn, look_at hm, hw, bne_self_eq_false, bytesEq_self, Bool.not_true, tst3]
    try simp (disch := omega) only [wrap_k, bne_self_eq_false, cond_false]
    try simp -implicitDefEqProofs only [rdl, Ex.same, Nat.beq, mkRows_length, decide_eq_true (Int.ofNat_lt.2 hi), dec_nn, look_at hm, hw, bne_self_eq_false, bytesEq_self, Bool.not_true, tst3]
    refine ev_call (f75 _ (by omega) (by omega)) ?_
    simp -implicitDefEqProofs only [rdl, Ex.same, Nat.beq, mkRows_length, decide_eq_true (Int.ofNat_lt.2 hi), dec_nn, look_at hm, hw, bne_self_eq_false, bytesEq_self, Bool.not_true, tst3]
    try simp (disch := omega) only [wrap_k, bne_self_eq_false, cond_false]
    try simp -implicitDefEqProofs only [rdl, Ex.same, Nat.beq, mkRows_length, decide_eq_true (Int.ofNat_lt.2 hi), dec_nn, look_at hm, hw, bne_self_eq_false, bytesEq_self, Bool.not_true, tst3]
    refine ev_call (f41 (by assumption) _ (by omega) (by omega)) ?_
    simp -implicitDefEqProofs only [rdl, Ex.same, Nat.beq, mkRows_length, decide_eq_true (Int.ofNat_lt.2 hi), dec_nn, look_at hm, hw, bne_self_eq_false, bytesEq_self, Bool.not_true, tst3]
    try simp (disch := omega) only [wrap_k, bne_self_eq_false, cond_false]
    try simp -implicitDefEqProofs only [rdl, Ex.same, Nat.beq, mkRows_length, decide_eq_true (Int.ofNat_lt.2 hi), dec_nn, look_at hm, hw, bne_self_eq_false, bytesEq_self, Bool.not_true, tst3]
    refine ev_if (fun hc => absurd (of_decide_eq_true hc) (by omega)) (fun _ => ?_)
    try simp -implicitDefEqProofs only [rdl, Ex.same, Nat.beq, mkRows_length, decide_eq_true (Int.ofNat_lt.2 hi), dec_nn, look_at hm, hw, bne_self_eq_false, bytesEq_self, Bool.not_true, tst3]
    try simp (disch := omega) only [wrap_k, bne_self_eq_false, cond_false]
    try simp -implicitDefEqProofs only [rdl, Ex.same, Nat.beq, mkRows_length, decide_eq_true (Int.ofNat_lt.2 hi), dec_nn, look_at hm, hw, bne_self_eq_false, bytesEq_self, Bool.not_true, tst3]
    refine ev_call (fr42 (by assumption) _ (by omega) (by omega) _ rfl) ?_
    simp -implicitDefEqProofs only [rdl, Ex.same, Nat.beq, mkRows_length, decide_eq_true (Int.ofNat_lt.2 hi), dec_nn, look_at hm, hw, bne_self_eq_false, bytesEq_self, Bool.not_true, tst3]
    try simp (disch := omega) only [wrap_k, bne_self_eq_false, cond_false]
    try simp -implicitDefEqProofs only [rdl, Ex.same, Nat.beq, mkRows_length, decide_eq_true (Int.ofNat_lt.2 hi), dec_nn, look_at hm, hw, bne_self_eq_false, bytesEq_self, Bool.not_true, tst3]
    refine ev_if (fun hc => absurd (of_decide_eq_true hc) (by omega)) (fun _ => ?_)
    try simp -implicitDefEqProofs only [rdl, Ex.same, Nat.beq, mkRows_length, decide_eq_true (Int.ofNat_lt.2 hi), dec_nn, look_at hm, hw, bne_self_eq_false, bytesEq_self, Bool.not_true, tst3]
    try simp (disch := omega) only [wrap_k, bne_self_eq_false, cond_false]
    try simp -implicitDefEqProofs only [rdl, Ex.same, Nat.beq, mkRows_length, decide_eq_true (Int.ofNat_lt.2 hi), dec_nn, look_at hm, hw, bne_self_eq_false, bytesEq_self, Bool.not_true, tst3]
    exact hk
  · simp -implicitDefEqProofs only [rdl, Ex.same, Nat.beq]
    exact Evt.ret
termination_by W
decreasing_by all_goals (try have := wt_at hx); (try simp only [wtRow, wtD] at *); omega
theorem f42 {l : Rows} (hl : SL E 38 l) (k : Int) (h0 : 0 ≤ k) (hk : k + (cnRows l : Nat) < K62) : Ev fs 42 [.d (.s 5 (mkRows l k)), .d (.v (.int .i64 k))] (io (k + (cnRows l : Nat))) := fr42 hl k h0 hk _ rfl
/- loop.example/g00119/laws.heldValue -/
theorem f15 {row : Row} (h : ShL E (E 38) row) (k : Int) (h0 : 0 ≤ k) (hk : k + (cnTop row : Nat) < K62) : Ev fs 15 [.g (mkTop row k), .d (.v (.int .i64 k))] (io (k + (cnTop row : Nat))) := by
  obtain ⟨na0, sa1, na2, la3, la4, rfl, pa0, pa1, pa2, pa3, pa4⟩ := I38 h
  simp only [mkTop, cnTop, Nat.add_zero, Int.natCast_add, ← Int.add_assoc] at hk ⊢
  refine Ev.of (af := a15) rfl rfl (Evt.congr (fun d n => a15q ..) ?_)
  refine ev_call (f41 (by assumption) _ (by omega) (by omega)) ?_
  simp -implicitDefEqProofs only [rdl, Ex.same, Nat.beq]
  refine ev_if (fun hc => absurd (of_decide_eq_true hc) (by omega)) (fun _ => ?_)
  refine ev_call (f42 (by assumption) _ (by omega) (by omega)) ?_
  simp -implicitDefEqProofs only [rdl, Ex.same, Nat.beq]
  refine ev_if (fun hc => absurd (of_decide_eq_true hc) (by omega)) (fun _ => ?_)
  exact Evt.ret
end Go.Am.Pv
