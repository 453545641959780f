/- What FnExactParseMsg says in the end: yes, whatever it is given. Nothing is assumed. -/
import Derived.Test.YtmgeoejefnablaaGreatDoorPmQ
import Derived.Test.YtmgeoejefnablaaGreatDoorPmM
import Derived.Test.YtmgeoejefnablaaGreatDoorPmD
import Derived.Test.YtmgeoejefnablaaGreatDoorPmS7
namespace Go.Am.Pm
set_option linter.unusedVariables false
set_option linter.unusedSimpArgs false
set_option maxRecDepth 8000
theorem f4 {u0 : ByteArray} (h0 : u0.size ≤ maxLen) : Ev fs 4 [.d (.v (.string u0))] (bo true) := by
 refine Ev.of (af := a4) rfl rfl (Evt.congr (fun d n => a4q ..) ?_)
 refine D6 (fun _ => Evt.ret) (fun hlen => ?_)
 have hs9 : u0.size ≤ 1048576 := by have := of_decide_eq_false hlen; omega
 obtain ⟨o0, o1, o2, o3, o4, bb, go, co, e1, e2⟩ := D30 hs9
 refine A7 e1 ?_
 simp -implicitDefEqProofs only [rdl, Ex.same, Nat.beq, Bool.not_true, bne_self_eq_false, P6, O6, Bool.not_false, E8, beq_self_eq_true, Bool.and_self, Z5, go.refl]
 refine A7 e2 ?_
 simp -implicitDefEqProofs only [rdl, Ex.same, Nat.beq, Bool.not_true, bne_self_eq_false, P6, O6, Bool.not_false, E8, beq_self_eq_true, Bool.and_self, Z5, go.refl]
 refine A7 (f13 (by assumption) (by assumption)) ?_
 simp -implicitDefEqProofs only [rdl, Ex.same, Nat.beq, Bool.not_true, bne_self_eq_false, P6, O6, Bool.not_false, E8, beq_self_eq_true, Bool.and_self, Z5, go.refl]
 refine A7 (f14 (by assumption) _ (by omega) (by simp only [K62]; omega)) ?_
 simp -implicitDefEqProofs only [rdl, Ex.same, Nat.beq, Bool.not_true, bne_self_eq_false, P6, O6, Bool.not_false, E8, beq_self_eq_true, Bool.and_self, Z5, go.refl]
 -- held
 have eh0 := f15 go 1 (by omega) (by simp only [K62]; omega)
 simp only [Z5] at eh0
 refine A7 eh0 ?_
 simp -implicitDefEqProofs only [rdl, Ex.same, Nat.beq, Bool.not_true, bne_self_eq_false, P6, O6, Bool.not_false, E8, beq_self_eq_true, Bool.and_self, Z5, go.refl]
 refine D6 (fun hc => absurd (of_decide_eq_true hc) (by omega)) (fun _ => ?_)
 try simp -implicitDefEqProofs only [rdl, Ex.same, Nat.beq, Bool.not_true, bne_self_eq_false, P6, O6, Bool.not_false, E8, beq_self_eq_true, Bool.and_self, Z5, go.refl]
 refine A7 e2 ?_
 simp -implicitDefEqProofs only [rdl, Ex.same, Nat.beq, Bool.not_true, bne_self_eq_false, P6, O6, Bool.not_false, E8, beq_self_eq_true, Bool.and_self, Z5, go.refl]
 refine A7 (f13 (by assumption) (by assumption)) ?_
 simp -implicitDefEqProofs only [rdl, Ex.same, Nat.beq, Bool.not_true, bne_self_eq_false, P6, O6, Bool.not_false, E8, beq_self_eq_true, Bool.and_self, Z5, go.refl]
 -- held
 have eh1 := f15 go 1 (by omega) (by simp only [K62]; omega)
 simp only [Z5] at eh1
 refine A7 eh1 ?_
 simp -implicitDefEqProofs only [rdl, Ex.same, Nat.beq, Bool.not_true, bne_self_eq_false, P6, O6, Bool.not_false, E8, beq_self_eq_true, Bool.and_self, Z5, go.refl]
 refine D6 (fun hc => absurd (of_decide_eq_true hc) (by omega)) (fun _ => ?_)
 try simp -implicitDefEqProofs only [rdl, Ex.same, Nat.beq, Bool.not_true, bne_self_eq_false, P6, O6, Bool.not_false, E8, beq_self_eq_true, Bool.and_self, Z5, go.refl]
 exact Evt.ret
end Go.Am.Pm
