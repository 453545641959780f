/- What FnExactMsgText says in the end: yes, whatever it is given. Nothing is assumed. -/
import Derived.Test.YtmgeoejefnablaaDoorMtS
import Derived.Test.YtmgeoejefnablaaDoorMtC
import Derived.Test.YtmgeoejefnablaaDoorMtQ
import Derived.Test.YtmgeoejefnablaaDoorMtJ
namespace Go.Am.Mt
set_option linter.unusedVariables false
set_option linter.unusedSimpArgs false
set_option maxRecDepth 8000
def sm : TypeId → TypeId := fun t => if t = 25 then 31 else if t = 83 then 57 else if t = 81 then 38 else if t = 90 then 55 else t
theorem sm_ok : ∀ t ∈ ([83, 90, 9, 81] : List TypeId), E (sm t) = (E t).map (Sh.mp sm) ∧ slIn [83, 90, 9, 81] (E t) = true := by
  intro t ht
  simp only [List.mem_cons, List.not_mem_nil, or_false] at ht
  rcases ht with rfl | rfl | rfl | rfl
  · rw [show sm 83 = 57 from rfl, E57, E83]; exact ⟨rfl, rfl⟩
  · rw [show sm 90 = 55 from rfl, E55, E90]; exact ⟨rfl, rfl⟩
  · rw [show sm 9 = 9 from rfl, E9]; exact ⟨rfl, rfl⟩
  · rw [show sm 81 = 38 from rfl, E38, E81]; exact ⟨rfl, rfl⟩
theorem conv25 {r : Row} (h : ShL E (E 25) r) : ShL E (E 31) r := by
  have := h.conv sm_ok (by rw [E25]; rfl)
  rw [E25] at this
  rw [E31]
  exact this
theorem cn_ok : ∀ t ∈ ([9, 38, 55, 57] : List TypeId), (E t).length ≤ 64 ∧ slIn [9, 38, 55, 57] (E t) = true := by
  intro t ht
  simp only [List.mem_cons, List.not_mem_nil, or_false] at ht
  rcases ht with rfl | rfl | rfl | rfl
  · rw [E9]; exact ⟨by decide, rfl⟩
  · rw [E38]; exact ⟨by decide, rfl⟩
  · rw [E55]; exact ⟨by decide, rfl⟩
  · rw [E57]; exact ⟨by decide, rfl⟩
theorem f3 {r0 : Row} (h0 : ShL E (E 25) r0) : Ev fs 3 [.g r0] (bo true) := by
  have k0 := h0
  have g0 := conv25 h0
  obtain ⟨na0, sa1, na2, la3, la4, rfl, pa0, pa1, pa2, pa3, pa4⟩ := I25 h0
  refine Ev.of (af := a3) rfl rfl (Evt.congr (fun d n => a3q ..) ?_)
  rcases f6 k0 1048576 (by decide) (by first | decide | (show (_ : Int) ≤ 1048576; omega)) with q | ⟨m0, m0a, m0b, q⟩
  · refine ev_call q ?_
    simp -implicitDefEqProofs only [rdl, Ex.same, Nat.beq]
    simp only [show decide ((-1 : Int) < 0) = true from rfl, cond_true]
    exact Evt.ret
  refine ev_call q ?_
  simp -implicitDefEqProofs only [rdl, Ex.same, Nat.beq]
  refine ev_if (fun hc => absurd (of_decide_eq_true hc) (by omega)) (fun _ => ?_)
  have w0 : wtRow ([.v (.int .i64 na0), .v (.string sa1), .v (.int .i64 na2), .s 7 la3, .s 2 la4] : Row) ≤ 1048576 := by omega
  have t0 := f8 k0 w0
  have e1 := f7 g0
  have e2 := f9 g0
  first | refine ev_call t0 ?_
  simp -implicitDefEqProofs only [rdl, Ex.same, Nat.beq, g0.refl, Bool.not_true, bne_self_eq_false, beq_f, beq_t, Bool.not_false, bytesEq_self, beq_self_eq_true, Bool.and_self, mkTop]
  refine ev_call e1 ?_
  simp -implicitDefEqProofs only [rdl, Ex.same, Nat.beq, g0.refl, Bool.not_true, bne_self_eq_false, beq_f, beq_t, Bool.not_false, bytesEq_self, beq_self_eq_true, Bool.and_self, mkTop]
  first | refine ev_call t0 ?_
  simp -implicitDefEqProofs only [rdl, Ex.same, Nat.beq, g0.refl, Bool.not_true, bne_self_eq_false, beq_f, beq_t, Bool.not_false, bytesEq_self, beq_self_eq_true, Bool.and_self, mkTop]
  refine ev_call e2 ?_
  simp -implicitDefEqProofs only [rdl, Ex.same, Nat.beq, g0.refl, Bool.not_true, bne_self_eq_false, beq_f, beq_t, Bool.not_false, bytesEq_self, beq_self_eq_true, Bool.and_self, mkTop]
  first | refine ev_call t0 ?_
  simp -implicitDefEqProofs only [rdl, Ex.same, Nat.beq, g0.refl, Bool.not_true, bne_self_eq_false, beq_f, beq_t, Bool.not_false, bytesEq_self, beq_self_eq_true, Bool.and_self, mkTop]
  refine ev_call (f10 (by assumption) (by assumption)) ?_
  simp -implicitDefEqProofs only [rdl, Ex.same, Nat.beq, g0.refl, Bool.not_true, bne_self_eq_false, beq_f, beq_t, Bool.not_false, bytesEq_self, beq_self_eq_true, Bool.and_self, mkTop]
  exact Evt.ret
end Go.Am.Mt
