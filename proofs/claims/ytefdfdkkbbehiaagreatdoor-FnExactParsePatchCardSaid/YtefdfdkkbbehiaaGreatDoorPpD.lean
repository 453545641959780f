/- What the functions of one family say in the end. Nothing is assumed. -/
import Derived.Test.YtefdfdkkbbehiaaGreatDoorPpM
namespace Go.Am.Pp
set_option linter.unusedVariables false
set_option linter.unusedSimpArgs false
set_option maxRecDepth 8000
/- loop.example/g00119/laws.heldStringS -/
theorem f29 {l : Rows} (hl : SL E 9 l) (k : Int) (h0 : 0 ≤ k) (hk : k + (cnRows l : Nat) < K62) : Ev fs 29 [.d (.s 1 (mkRows l k)), .d (.v (.int .i64 k))] (io (k + (cnRows l : Nat))) := by
 refine Ev.of (af := a29) rfl rfl (Evt.congr (fun d n => a29q ..) ?_)
 refine ev_aft (L := fun d n => l29x0 (TabD fs d) d n [.fz 1 (mkRows l k), .v (.int .i64 k), .v (.int .i64 0)]) (held_loop (L := fun d n k' i => l29x0 (TabD fs d) d n [.fz 1 (mkRows l k), .v (.int .i64 k'), .v (.int .i64 i)]) (Y := fun k' => (.exit 0, [.v (.int .i64 k')])) h0 hk (fun d n k' => ?_) (fun i x k' res hi hx hm k0 k1 hk => ?_)) ?_
 ·rw [l29x0s]
  simp -implicitDefEqProofs only [rdl, Ex.same, Nat.beq, mkRows_length, Int.lt_irrefl, decide_false]
 ·have h := hl.at hx
  have h' := h
  obtain ⟨sa0, rfl, pa0⟩ := I9 h
  have hw := wrap_succ hi hl.1
  simp only [mkRow, mkV, cnRow, Nat.add_zero, Int.natCast_add, Int.cast_ofNat_Int, ← Int.add_assoc] at k1 hk hm
  try simp (disch := omega) only [wrap_v] at hm
  simp only [l29x0s]
  simp -implicitDefEqProofs only [rdl, Ex.same, Nat.beq, mkRows_length, decide_eq_true (Int.ofNat_lt.2 hi), dec_nn, look_at hm, hw, bne_self_eq_false, bytesEq_self, Bool.not_true, tst3]
  try simp (disch := omega) only [wrap_k, bne_self_eq_false, cond_false]
  try simp -implicitDefEqProofs only [rdl, Ex.same, Nat.beq, mkRows_length, decide_eq_true (Int.ofNat_lt.2 hi), dec_nn, look_at hm, hw, bne_self_eq_false, bytesEq_self, Bool.not_true, tst3]
  refine ev_call (f27 _ (by omega) (by omega)) ?_
  simp -implicitDefEqProofs only [rdl, Ex.same, Nat.beq, mkRows_length, decide_eq_true (Int.ofNat_lt.2 hi), dec_nn, look_at hm, hw, bne_self_eq_false, bytesEq_self, Bool.not_true, tst3]
  try simp (disch := omega) only [wrap_k, bne_self_eq_false, cond_false]
  try simp -implicitDefEqProofs only [rdl, Ex.same, Nat.beq, mkRows_length, decide_eq_true (Int.ofNat_lt.2 hi), dec_nn, look_at hm, hw, bne_self_eq_false, bytesEq_self, Bool.not_true, tst3]
  exact hk
 ·simp -implicitDefEqProofs only [rdl, Ex.same, Nat.beq]
  exact Evt.ret
/- loop.example/g00119/laws.heldValueS -/
theorem fr30 {l : Rows} (hl : SL E 33 l) (k : Int) (h0 : 0 ≤ k) (hk : k + (cnRows l : Nat) < K62) (W : Nat) (hW : 2 * (l.length + wtRows l) = W) : Ev fs 30 [.d (.s 5 (mkRows l k)), .d (.v (.int .i64 k))] (io (k + (cnRows l : Nat))) := by
 refine Ev.of (af := a30) rfl rfl (Evt.congr (fun d n => a30q ..) ?_)
 refine ev_aft (L := fun d n => l30x0 (TabD fs d) d n [.fz 5 (mkRows l k), .v (.int .i64 k), .v (.int .i64 0)]) (held_loop (L := fun d n k' i => l30x0 (TabD fs d) d n [.fz 5 (mkRows l k), .v (.int .i64 k'), .v (.int .i64 i)]) (Y := fun k' => (.exit 0, [.v (.int .i64 k')])) h0 hk (fun d n k' => ?_) (fun i x k' res hi hx hm k0 k1 hk => ?_)) ?_
 ·rw [l30x0s]
  simp -implicitDefEqProofs only [rdl, Ex.same, Nat.beq, mkRows_length, Int.lt_irrefl, decide_false]
 ·have h := hl.at hx
  have h' := h
  obtain ⟨na0, sa1, na2, la3, la4, rfl, pa0, pa1, pa2, pa3, pa4⟩ := I33 h
  have hw := wrap_succ hi hl.1
  simp only [mkRow, mkV, cnRow, Nat.add_zero, Int.natCast_add, Int.cast_ofNat_Int, ← Int.add_assoc] at k1 hk hm
  try simp (disch := omega) only [wrap_v] at hm
  simp only [l30x0s]
  simp -implicitDefEqProofs only [rdl, Ex.same, Nat.beq, mkRows_length, decide_eq_true (Int.ofNat_lt.2 hi), dec_nn, look_at hm, hw, bne_self_eq_false, bytesEq_self, Bool.not_true, tst3]
  try simp (disch := omega) only [wrap_k, bne_self_eq_false, cond_false]
  try simp -implicitDefEqProofs only [rdl, Ex.same, Nat.beq, mkRows_length, decide_eq_true (Int.ofNat_lt.2 hi), dec_nn, look_at hm, hw, bne_self_eq_false, bytesEq_self, Bool.not_true, tst3]
  refine ev_call (f27 _ (by omega) (by omega)) ?_
  simp -implicitDefEqProofs only [rdl, Ex.same, Nat.beq, mkRows_length, decide_eq_true (Int.ofNat_lt.2 hi), dec_nn, look_at hm, hw, bne_self_eq_false, bytesEq_self, Bool.not_true, tst3]
  try simp (disch := omega) only [wrap_k, bne_self_eq_false, cond_false]
  try simp -implicitDefEqProofs only [rdl, Ex.same, Nat.beq, mkRows_length, decide_eq_true (Int.ofNat_lt.2 hi), dec_nn, look_at hm, hw, bne_self_eq_false, bytesEq_self, Bool.not_true, tst3]
  refine ev_call (f29 (by assumption) _ (by omega) (by omega)) ?_
  simp -implicitDefEqProofs only [rdl, Ex.same, Nat.beq, mkRows_length, decide_eq_true (Int.ofNat_lt.2 hi), dec_nn, look_at hm, hw, bne_self_eq_false, bytesEq_self, Bool.not_true, tst3]
  try simp (disch := omega) only [wrap_k, bne_self_eq_false, cond_false]
  try simp -implicitDefEqProofs only [rdl, Ex.same, Nat.beq, mkRows_length, decide_eq_true (Int.ofNat_lt.2 hi), dec_nn, look_at hm, hw, bne_self_eq_false, bytesEq_self, Bool.not_true, tst3]
  refine ev_if (fun hc => absurd (of_decide_eq_true hc) (by omega)) (fun _ => ?_)
  try simp -implicitDefEqProofs only [rdl, Ex.same, Nat.beq, mkRows_length, decide_eq_true (Int.ofNat_lt.2 hi), dec_nn, look_at hm, hw, bne_self_eq_false, bytesEq_self, Bool.not_true, tst3]
  try simp (disch := omega) only [wrap_k, bne_self_eq_false, cond_false]
  try simp -implicitDefEqProofs only [rdl, Ex.same, Nat.beq, mkRows_length, decide_eq_true (Int.ofNat_lt.2 hi), dec_nn, look_at hm, hw, bne_self_eq_false, bytesEq_self, Bool.not_true, tst3]
  refine ev_call (fr30 (by assumption) _ (by omega) (by omega) _ rfl) ?_
  simp -implicitDefEqProofs only [rdl, Ex.same, Nat.beq, mkRows_length, decide_eq_true (Int.ofNat_lt.2 hi), dec_nn, look_at hm, hw, bne_self_eq_false, bytesEq_self, Bool.not_true, tst3]
  try simp (disch := omega) only [wrap_k, bne_self_eq_false, cond_false]
  try simp -implicitDefEqProofs only [rdl, Ex.same, Nat.beq, mkRows_length, decide_eq_true (Int.ofNat_lt.2 hi), dec_nn, look_at hm, hw, bne_self_eq_false, bytesEq_self, Bool.not_true, tst3]
  refine ev_if (fun hc => absurd (of_decide_eq_true hc) (by omega)) (fun _ => ?_)
  try simp -implicitDefEqProofs only [rdl, Ex.same, Nat.beq, mkRows_length, decide_eq_true (Int.ofNat_lt.2 hi), dec_nn, look_at hm, hw, bne_self_eq_false, bytesEq_self, Bool.not_true, tst3]
  try simp (disch := omega) only [wrap_k, bne_self_eq_false, cond_false]
  try simp -implicitDefEqProofs only [rdl, Ex.same, Nat.beq, mkRows_length, decide_eq_true (Int.ofNat_lt.2 hi), dec_nn, look_at hm, hw, bne_self_eq_false, bytesEq_self, Bool.not_true, tst3]
  exact hk
 ·simp -implicitDefEqProofs only [rdl, Ex.same, Nat.beq]
  exact Evt.ret
termination_by W
decreasing_by all_goals (try have := wt_at hx); (try simp only [wtRow, wtD] at *); omega
theorem f30 {l : Rows} (hl : SL E 33 l) (k : Int) (h0 : 0 ≤ k) (hk : k + (cnRows l : Nat) < K62) : Ev fs 30 [.d (.s 5 (mkRows l k)), .d (.v (.int .i64 k))] (io (k + (cnRows l : Nat))) := fr30 hl k h0 hk _ rfl
/- loop.example/g00119/laws.heldOpS -/
theorem f9 {l : Rows} (hl : SL E 44 l) (k : Int) (h0 : 0 ≤ k) (hk : k + (cnRows l : Nat) < K62) : Ev fs 9 [.d (.s 7 (mkRows l k)), .d (.v (.int .i64 k))] (io (k + (cnRows l : Nat))) := by
 refine Ev.of (af := a9) rfl rfl (Evt.congr (fun d n => a9q ..) ?_)
 refine ev_aft (L := fun d n => l9x0 (TabD fs d) d n [.fz 7 (mkRows l k), .v (.int .i64 k), .v (.int .i64 0)]) (held_loop (L := fun d n k' i => l9x0 (TabD fs d) d n [.fz 7 (mkRows l k), .v (.int .i64 k'), .v (.int .i64 i)]) (Y := fun k' => (.exit 0, [.v (.int .i64 k')])) h0 hk (fun d n k' => ?_) (fun i x k' res hi hx hm k0 k1 hk => ?_)) ?_
 ·rw [l9x0s]
  simp -implicitDefEqProofs only [rdl, Ex.same, Nat.beq, mkRows_length, Int.lt_irrefl, decide_false]
 ·have h := hl.at hx
  have h' := h
  obtain ⟨na0, la1, na2, sa3, na4, la5, la6, rfl, pa0, pa1, pa2, pa3, pa4, pa5, pa6⟩ := I44 h
  have hw := wrap_succ hi hl.1
  simp only [mkRow, mkV, cnRow, Nat.add_zero, Int.natCast_add, Int.cast_ofNat_Int, ← Int.add_assoc] at k1 hk hm
  try simp (disch := omega) only [wrap_v] at hm
  simp only [l9x0s]
  simp -implicitDefEqProofs only [rdl, Ex.same, Nat.beq, mkRows_length, decide_eq_true (Int.ofNat_lt.2 hi), dec_nn, look_at hm, hw, bne_self_eq_false, bytesEq_self, Bool.not_true, tst3]
  try simp (disch := omega) only [wrap_k, bne_self_eq_false, cond_false]
  try simp -implicitDefEqProofs only [rdl, Ex.same, Nat.beq, mkRows_length, decide_eq_true (Int.ofNat_lt.2 hi), dec_nn, look_at hm, hw, bne_self_eq_false, bytesEq_self, Bool.not_true, tst3]
  refine ev_call (f29 (by assumption) _ (by omega) (by omega)) ?_
  simp -implicitDefEqProofs only [rdl, Ex.same, Nat.beq, mkRows_length, decide_eq_true (Int.ofNat_lt.2 hi), dec_nn, look_at hm, hw, bne_self_eq_false, bytesEq_self, Bool.not_true, tst3]
  try simp (disch := omega) only [wrap_k, bne_self_eq_false, cond_false]
  try simp -implicitDefEqProofs only [rdl, Ex.same, Nat.beq, mkRows_length, decide_eq_true (Int.ofNat_lt.2 hi), dec_nn, look_at hm, hw, bne_self_eq_false, bytesEq_self, Bool.not_true, tst3]
  refine ev_if (fun hc => absurd (of_decide_eq_true hc) (by omega)) (fun _ => ?_)
  try simp -implicitDefEqProofs only [rdl, Ex.same, Nat.beq, mkRows_length, decide_eq_true (Int.ofNat_lt.2 hi), dec_nn, look_at hm, hw, bne_self_eq_false, bytesEq_self, Bool.not_true, tst3]
  try simp (disch := omega) only [wrap_k, bne_self_eq_false, cond_false]
  try simp -implicitDefEqProofs only [rdl, Ex.same, Nat.beq, mkRows_length, decide_eq_true (Int.ofNat_lt.2 hi), dec_nn, look_at hm, hw, bne_self_eq_false, bytesEq_self, Bool.not_true, tst3]
  refine ev_call (f27 _ (by omega) (by omega)) ?_
  simp -implicitDefEqProofs only [rdl, Ex.same, Nat.beq, mkRows_length, decide_eq_true (Int.ofNat_lt.2 hi), dec_nn, look_at hm, hw, bne_self_eq_false, bytesEq_self, Bool.not_true, tst3]
  try simp (disch := omega) only [wrap_k, bne_self_eq_false, cond_false]
  try simp -implicitDefEqProofs only [rdl, Ex.same, Nat.beq, mkRows_length, decide_eq_true (Int.ofNat_lt.2 hi), dec_nn, look_at hm, hw, bne_self_eq_false, bytesEq_self, Bool.not_true, tst3]
  refine ev_call (f29 (by assumption) _ (by omega) (by omega)) ?_
  simp -implicitDefEqProofs only [rdl, Ex.same, Nat.beq, mkRows_length, decide_eq_true (Int.ofNat_lt.2 hi), dec_nn, look_at hm, hw, bne_self_eq_false, bytesEq_self, Bool.not_true, tst3]
  try simp (disch := omega) only [wrap_k, bne_self_eq_false, cond_false]
  try simp -implicitDefEqProofs only [rdl, Ex.same, Nat.beq, mkRows_length, decide_eq_true (Int.ofNat_lt.2 hi), dec_nn, look_at hm, hw, bne_self_eq_false, bytesEq_self, Bool.not_true, tst3]
  refine ev_if (fun hc => absurd (of_decide_eq_true hc) (by omega)) (fun _ => ?_)
  try simp -implicitDefEqProofs only [rdl, Ex.same, Nat.beq, mkRows_length, decide_eq_true (Int.ofNat_lt.2 hi), dec_nn, look_at hm, hw, bne_self_eq_false, bytesEq_self, Bool.not_true, tst3]
  try simp (disch := omega) only [wrap_k, bne_self_eq_false, cond_false]
  try simp -implicitDefEqProofs only [rdl, Ex.same, Nat.beq, mkRows_length, decide_eq_true (Int.ofNat_lt.2 hi), dec_nn, look_at hm, hw, bne_self_eq_false, bytesEq_self, Bool.not_true, tst3]
  refine ev_call (f30 (by assumption) _ (by omega) (by omega)) ?_
  simp -implicitDefEqProofs only [rdl, Ex.same, Nat.beq, mkRows_length, decide_eq_true (Int.ofNat_lt.2 hi), dec_nn, look_at hm, hw, bne_self_eq_false, bytesEq_self, Bool.not_true, tst3]
  try simp (disch := omega) only [wrap_k, bne_self_eq_false, cond_false]
  try simp -implicitDefEqProofs only [rdl, Ex.same, Nat.beq, mkRows_length, decide_eq_true (Int.ofNat_lt.2 hi), dec_nn, look_at hm, hw, bne_self_eq_false, bytesEq_self, Bool.not_true, tst3]
  refine ev_if (fun hc => absurd (of_decide_eq_true hc) (by omega)) (fun _ => ?_)
  try simp -implicitDefEqProofs only [rdl, Ex.same, Nat.beq, mkRows_length, decide_eq_true (Int.ofNat_lt.2 hi), dec_nn, look_at hm, hw, bne_self_eq_false, bytesEq_self, Bool.not_true, tst3]
  try simp (disch := omega) only [wrap_k, bne_self_eq_false, cond_false]
  try simp -implicitDefEqProofs only [rdl, Ex.same, Nat.beq, mkRows_length, decide_eq_true (Int.ofNat_lt.2 hi), dec_nn, look_at hm, hw, bne_self_eq_false, bytesEq_self, Bool.not_true, tst3]
  exact hk
 ·simp -implicitDefEqProofs only [rdl, Ex.same, Nat.beq]
  exact Evt.ret
end Go.Am.Pp
