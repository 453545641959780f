/- What FnExactParsePatch says in the end: yes, whatever it is given. Nothing is assumed. -/
import Derived.Test.YtefdfdkkbbehiaaGreatDoorPpQ
import Derived.Test.YtefdfdkkbbehiaaGreatDoorPpM
import Derived.Test.YtefdfdkkbbehiaaGreatDoorPpD
import Derived.Test.YtefdfdkkbbehiaaGreatDoorPpS9
namespace Go.Am.Pp
set_option linter.unusedVariables false
set_option linter.unusedSimpArgs false
set_option maxRecDepth 8000
theorem f3 {u0 : ByteArray} (h0 : u0.size ≤ maxLen) : Ev fs 3 [.d (.v (.string u0))] (bo true) := by
 refine Ev.of (af := a3) rfl rfl (Evt.congr (fun d n => a3q ..) ?_)
 refine ev_if (fun _ => Evt.ret) (fun hlen => ?_)
 have hs9 : u0.size ≤ 1048576 := by have := of_decide_eq_false hlen; omega
 obtain ⟨ws, bb, go, co, e1, e2⟩ := bothP hs9
 refine ev_call e1 ?_
 simp -implicitDefEqProofs only [rdl, Ex.same, Nat.beq, Bool.not_true, bne_self_eq_false, beq_f, beq_t, Bool.not_false, bytesEq_self, beq_self_eq_true, Bool.and_self, mkTop, go.2.refl]
 refine ev_call e2 ?_
 simp -implicitDefEqProofs only [rdl, Ex.same, Nat.beq, Bool.not_true, bne_self_eq_false, beq_f, beq_t, Bool.not_false, bytesEq_self, beq_self_eq_true, Bool.and_self, mkTop, go.2.refl]
 refine ev_call (f7 (by assumption) (by assumption)) ?_
 simp -implicitDefEqProofs only [rdl, Ex.same, Nat.beq, Bool.not_true, bne_self_eq_false, beq_f, beq_t, Bool.not_false, bytesEq_self, beq_self_eq_true, Bool.and_self, mkTop, go.2.refl]
 refine ev_call (f8 (by assumption) _ (by omega) (by simp only [K62]; omega)) ?_
 simp -implicitDefEqProofs only [rdl, Ex.same, Nat.beq, Bool.not_true, bne_self_eq_false, beq_f, beq_t, Bool.not_false, bytesEq_self, beq_self_eq_true, Bool.and_self, mkTop, go.2.refl]
 -- held
 have eh0 := f9 go 1 (by omega) (by simp only [K62]; omega)
 refine ev_call eh0 ?_
 simp -implicitDefEqProofs only [rdl, Ex.same, Nat.beq, Bool.not_true, bne_self_eq_false, beq_f, beq_t, Bool.not_false, bytesEq_self, beq_self_eq_true, Bool.and_self, mkTop, go.2.refl]
 refine ev_if (fun hc => absurd (of_decide_eq_true hc) (by omega)) (fun _ => ?_)
 try simp -implicitDefEqProofs only [rdl, Ex.same, Nat.beq, Bool.not_true, bne_self_eq_false, beq_f, beq_t, Bool.not_false, bytesEq_self, beq_self_eq_true, Bool.and_self, mkTop, go.2.refl]
 refine ev_call e2 ?_
 simp -implicitDefEqProofs only [rdl, Ex.same, Nat.beq, Bool.not_true, bne_self_eq_false, beq_f, beq_t, Bool.not_false, bytesEq_self, beq_self_eq_true, Bool.and_self, mkTop, go.2.refl]
 refine ev_call (f7 (by assumption) (by assumption)) ?_
 simp -implicitDefEqProofs only [rdl, Ex.same, Nat.beq, Bool.not_true, bne_self_eq_false, beq_f, beq_t, Bool.not_false, bytesEq_self, beq_self_eq_true, Bool.and_self, mkTop, go.2.refl]
 -- held
 have eh1 := f9 go 1 (by omega) (by simp only [K62]; omega)
 refine ev_call eh1 ?_
 simp -implicitDefEqProofs only [rdl, Ex.same, Nat.beq, Bool.not_true, bne_self_eq_false, beq_f, beq_t, Bool.not_false, bytesEq_self, beq_self_eq_true, Bool.and_self, mkTop, go.2.refl]
 refine ev_if (fun hc => absurd (of_decide_eq_true hc) (by omega)) (fun _ => ?_)
 try simp -implicitDefEqProofs only [rdl, Ex.same, Nat.beq, Bool.not_true, bne_self_eq_false, beq_f, beq_t, Bool.not_false, bytesEq_self, beq_self_eq_true, Bool.and_self, mkTop, go.2.refl]
 exact Evt.ret
end Go.Am.Pp
