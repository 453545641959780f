/- What the functions of one family say in the end. Nothing is assumed. -/
import Derived.Test.YtmgeoejefnablaaGreatLkM
namespace Go.Am.Lk
set_option linter.unusedVariables false
set_option linter.unusedSimpArgs false
set_option maxRecDepth 8000
/- loop.example/g00119/laws.heldIntS -/
theorem f20 {l : Rows} (hl : SL E 3 l) (k : Int) (h0 : 0 ≤ k) (hk : k + (cnRows l : Nat) < K62) : Ev fs 20 [.d (.s 1 (mkRows l k)), .d (.v (.int .i64 k))] (io (k + (cnRows l : Nat))) := by
  refine Ev.of (af := a20) rfl rfl (Evt.congr (fun d n => a20q ..) ?_)
  refine ev_aft (L := fun d n => l20x0 (TabD fs d) d n [.fz 1 (mkRows l k), .v (.int .i64 k), .v (.int .i64 0)]) (held_loop (L := fun d n k' i => l20x0 (TabD fs d) d n [.fz 1 (mkRows l k), .v (.int .i64 k'), .v (.int .i64 i)]) (Y := fun k' => (.exit 0, [.v (.int .i64 k')])) h0 hk (fun d n k' => ?_) (fun i x k' res hi hx hm k0 k1 hk => ?_)) ?_
  · rw [l20x0s]
    simp -implicitDefEqProofs only [rdl, Ex.same, Nat.beq, mkRows_length, Int.lt_irrefl, decide_false]
  · have h := hl.at hx
    have h' := h
    obtain ⟨na0, rfl, pa0⟩ := I3 h
    have hw := wrap_succ hi hl.1
    simp only [mkRow, mkV, cnRow, Nat.add_zero, Int.natCast_add, Int.cast_ofNat_Int, ← Int.add_assoc] at k1 hk hm
    try simp (disch := omega) only [wrap_v] at hm
    simp only [l20x0s]
    simp -implicitDefEqProofs only [rdl, Ex.same, Nat.beq, mkRows_length, decide_eq_true (Int.ofNat_lt.2 hi), dec_nn, look_at hm, hw, bne_self_eq_false, bytesEq_self, Bool.not_true, tst3]
    try simp (disch := omega) only [wrap_k, bne_self_eq_false, cond_false]
    try simp -implicitDefEqProofs only [rdl, Ex.same, Nat.beq, mkRows_length, decide_eq_true (Int.ofNat_lt.2 hi), dec_nn, look_at hm, hw, bne_self_eq_false, bytesEq_self, Bool.not_true, tst3]
    exact hk
  · simp -implicitDefEqProofs only [rdl, Ex.same, Nat.beq]
    exact Evt.ret
end Go.Am.Lk
