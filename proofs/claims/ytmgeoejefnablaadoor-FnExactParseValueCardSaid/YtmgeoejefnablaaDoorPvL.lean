/- What FnExactParseValue says in the end: yes, whatever it is given. Nothing is assumed. -/
import Derived.Test.YtmgeoejefnablaaDoorPvQ
import Derived.Test.YtmgeoejefnablaaDoorPvM
import Derived.Test.YtmgeoejefnablaaDoorPvD
import Derived.Test.YtmgeoejefnablaaDoorPvE
namespace Go.Am.Pv
set_option linter.unusedVariables false
set_option linter.unusedSimpArgs false
set_option maxRecDepth 8000
theorem f4 {u0 : ByteArray} (h0 : u0.size ≤ maxLen) : Ev fs 4 [.d (.v (.string u0))] (bo true) := by
  refine Ev.of (af := a4) rfl rfl (Evt.congr (fun d n => a4q ..) ?_)
  refine ev_if (fun _ => Evt.ret) (fun hlen => ?_)
  have hs9 : u0.size ≤ 1048576 := by have := of_decide_eq_false hlen; omega
  obtain ⟨o0, o1, o2, o3, o4, bb, go, co, e1, e2⟩ := both9 hs9
  refine ev_call e1 ?_
  simp -implicitDefEqProofs only [rdl, Ex.same, Nat.beq, Bool.not_true, bne_self_eq_false, beq_f, beq_t, Bool.not_false, bytesEq_self, beq_self_eq_true, Bool.and_self, mkTop, go.refl]
  refine ev_call e2 ?_
  simp -implicitDefEqProofs only [rdl, Ex.same, Nat.beq, Bool.not_true, bne_self_eq_false, beq_f, beq_t, Bool.not_false, bytesEq_self, beq_self_eq_true, Bool.and_self, mkTop, go.refl]
  refine ev_call (f13 (by assumption) (by assumption)) ?_
  simp -implicitDefEqProofs only [rdl, Ex.same, Nat.beq, Bool.not_true, bne_self_eq_false, beq_f, beq_t, Bool.not_false, bytesEq_self, beq_self_eq_true, Bool.and_self, mkTop, go.refl]
  refine ev_call (f14 (by assumption) _ (by omega) (by simp only [K62]; omega)) ?_
  simp -implicitDefEqProofs only [rdl, Ex.same, Nat.beq, Bool.not_true, bne_self_eq_false, beq_f, beq_t, Bool.not_false, bytesEq_self, beq_self_eq_true, Bool.and_self, mkTop, go.refl]
  -- held
  have eh0 := f15 go 1 (by omega) (by simp only [K62]; omega)
  simp only [mkTop] at eh0
  refine ev_call eh0 ?_
  simp -implicitDefEqProofs only [rdl, Ex.same, Nat.beq, Bool.not_true, bne_self_eq_false, beq_f, beq_t, Bool.not_false, bytesEq_self, beq_self_eq_true, Bool.and_self, mkTop, go.refl]
  refine ev_if (fun hc => absurd (of_decide_eq_true hc) (by omega)) (fun _ => ?_)
  try simp -implicitDefEqProofs only [rdl, Ex.same, Nat.beq, Bool.not_true, bne_self_eq_false, beq_f, beq_t, Bool.not_false, bytesEq_self, beq_self_eq_true, Bool.and_self, mkTop, go.refl]
  refine ev_call e2 ?_
  simp -implicitDefEqProofs only [rdl, Ex.same, Nat.beq, Bool.not_true, bne_self_eq_false, beq_f, beq_t, Bool.not_false, bytesEq_self, beq_self_eq_true, Bool.and_self, mkTop, go.refl]
  refine ev_call (f13 (by assumption) (by assumption)) ?_
  simp -implicitDefEqProofs only [rdl, Ex.same, Nat.beq, Bool.not_true, bne_self_eq_false, beq_f, beq_t, Bool.not_false, bytesEq_self, beq_self_eq_true, Bool.and_self, mkTop, go.refl]
  -- held
  have eh1 := f15 go 1 (by omega) (by simp only [K62]; omega)
  simp only [mkTop] at eh1
  refine ev_call eh1 ?_
  simp -implicitDefEqProofs only [rdl, Ex.same, Nat.beq, Bool.not_true, bne_self_eq_false, beq_f, beq_t, Bool.not_false, bytesEq_self, beq_self_eq_true, Bool.and_self, mkTop, go.refl]
  refine ev_if (fun hc => absurd (of_decide_eq_true hc) (by omega)) (fun _ => ?_)
  try simp -implicitDefEqProofs only [rdl, Ex.same, Nat.beq, Bool.not_true, bne_self_eq_false, beq_f, beq_t, Bool.not_false, bytesEq_self, beq_self_eq_true, Bool.and_self, mkTop, go.refl]
  exact Evt.ret
end Go.Am.Pv
