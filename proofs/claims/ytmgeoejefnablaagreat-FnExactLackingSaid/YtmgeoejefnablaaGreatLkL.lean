/- What FnExactLacking says in the end: yes, whatever it is given. Nothing is assumed. -/
import Derived.Test.YtmgeoejefnablaaGreatLkS
import Derived.Test.YtmgeoejefnablaaGreatLkC
import Derived.Test.YtmgeoejefnablaaGreatLkQ
import Derived.Test.YtmgeoejefnablaaGreatLkM
import Derived.Test.YtmgeoejefnablaaGreatLkD
import Derived.Test.YtmgeoejefnablaaGreatLkX
namespace Go.Am.Lk
set_option linter.unusedVariables false
set_option linter.unusedSimpArgs false
set_option maxRecDepth 8000
def sm : TypeId → TypeId := fun t => if t = 27 then 39 else if t = 174 then 113 else if t = 264 then 259 else if t = 266 then 209 else if t = 62 then 78 else if t = 205 then 216 else if t = 304 then 276 else if t = 177 then 184 else if t = 269 then 262 else if t = 180 then 181 else t
theorem sm_ok : ∀ t ∈ ([174, 177, 180, 9, 264, 266, 62, 205, 304, 269] : List TypeId), E (sm t) = (E t).map (Sh.mp sm) ∧ slIn [174, 177, 180, 9, 264, 266, 62, 205, 304, 269] (E t) = true := by
  intro t ht
  simp only [List.mem_cons, List.not_mem_nil, or_false] at ht
  rcases ht with rfl | rfl | rfl | rfl | rfl | rfl | rfl | rfl | rfl | rfl
  · rw [show sm 174 = 113 from rfl, E113, E174]; exact ⟨rfl, rfl⟩
  · rw [show sm 177 = 184 from rfl, E184, E177]; exact ⟨rfl, rfl⟩
  · rw [show sm 180 = 181 from rfl, E181, E180]; exact ⟨rfl, rfl⟩
  · rw [show sm 9 = 9 from rfl, E9]; exact ⟨rfl, rfl⟩
  · rw [show sm 264 = 259 from rfl, E259, E264]; exact ⟨rfl, rfl⟩
  · rw [show sm 266 = 209 from rfl, E209, E266]; exact ⟨rfl, rfl⟩
  · rw [show sm 62 = 78 from rfl, E78, E62]; exact ⟨rfl, rfl⟩
  · rw [show sm 205 = 216 from rfl, E216, E205]; exact ⟨rfl, rfl⟩
  · rw [show sm 304 = 276 from rfl, E276, E304]; exact ⟨rfl, rfl⟩
  · rw [show sm 269 = 262 from rfl, E262, E269]; exact ⟨rfl, rfl⟩
theorem conv27 {r : Row} (h : ShL E (E 27) r) : ShL E (E 39) r := by
  have := h.conv sm_ok (by rw [E27]; rfl)
  rw [E27] at this
  rw [E39]
  exact this
theorem cn_ok : ∀ t ∈ ([9, 78, 113, 181, 184, 209, 216, 259, 262, 276] : List TypeId), (E t).length ≤ 64 ∧ slIn [9, 78, 113, 181, 184, 209, 216, 259, 262, 276] (E t) = true := by
  intro t ht
  simp only [List.mem_cons, List.not_mem_nil, or_false] at ht
  rcases ht with rfl | rfl | rfl | rfl | rfl | rfl | rfl | rfl | rfl | rfl
  · rw [E9]; exact ⟨by decide, rfl⟩
  · rw [E78]; exact ⟨by decide, rfl⟩
  · rw [E113]; exact ⟨by decide, rfl⟩
  · rw [E181]; exact ⟨by decide, rfl⟩
  · rw [E184]; exact ⟨by decide, rfl⟩
  · rw [E209]; exact ⟨by decide, rfl⟩
  · rw [E216]; exact ⟨by decide, rfl⟩
  · rw [E259]; exact ⟨by decide, rfl⟩
  · rw [E262]; exact ⟨by decide, rfl⟩
  · rw [E276]; exact ⟨by decide, rfl⟩
theorem f4 {r0 : Row} (h0 : ShL E (E 27) r0) : Ev fs 4 [.g r0] (bo true) := by
  have k0 := h0
  have g0 := conv27 h0
  obtain ⟨na0, na1, na2, la3, la4, la5, la6, rfl, pa0, pa1, pa2, pa3, pa4, pa5, pa6⟩ := I27 h0
  refine Ev.of (af := a4) rfl rfl (Evt.congr (fun d n => a4q ..) ?_)
  rcases f12 k0 1048576 (by decide) (by first | decide | (show (_ : Int) ≤ 1048576; omega)) with q | ⟨m0, m0a, m0b, q⟩
  · refine ev_call q ?_
    simp -implicitDefEqProofs only [rdl, Ex.same, Nat.beq]
    simp only [show decide ((-1 : Int) < 0) = true from rfl, cond_true]
    exact Evt.ret
  refine ev_call q ?_
  simp -implicitDefEqProofs only [rdl, Ex.same, Nat.beq]
  refine ev_if (fun hc => absurd (of_decide_eq_true hc) (by omega)) (fun _ => ?_)
  have w0 : wtRow ([.v (.int .i64 na0), .v (.int .i64 na1), .v (.int .i64 na2), .s 13 la3, .s 6 la4, .s 5 la5, .s 1 la6] : Row) ≤ 1048576 := by omega
  have t0 := f14 k0 w0
  have hsz : la3.length ≤ 1048576 := by simp only [wtRow, wtD] at w0; omega
  have gg := I39 g0
  obtain ⟨_, _, _, _, _, _, _, eg, _, _, _, pz3, _⟩ := gg
  cases eg
  obtain ⟨go, gl⟩ := sl_lack (h := la5) pz3 hsz
  have co := cn_ints fun x hx => go.2.mem x hx
  have e1 := f13 g0 hsz
  have e2 := f15 g0 hsz
  simp only [cN, cT, cR, cE, List.getElem?_cons_zero, List.getElem?_cons_succ] at e1 e2
  generalize lack la5 la3 = ws at go gl co e1 e2
  first | refine ev_call t0 ?_
  simp -implicitDefEqProofs only [rdl, Ex.same, Nat.beq, g0.refl, Bool.not_true, bne_self_eq_false, beq_f, beq_t, Bool.not_false, bytesEq_self, beq_self_eq_true, Bool.and_self, mkTop, go.2.refl]
  refine ev_call e1 ?_
  simp -implicitDefEqProofs only [rdl, Ex.same, Nat.beq, g0.refl, Bool.not_true, bne_self_eq_false, beq_f, beq_t, Bool.not_false, bytesEq_self, beq_self_eq_true, Bool.and_self, mkTop, go.2.refl]
  first | refine ev_call t0 ?_
  simp -implicitDefEqProofs only [rdl, Ex.same, Nat.beq, g0.refl, Bool.not_true, bne_self_eq_false, beq_f, beq_t, Bool.not_false, bytesEq_self, beq_self_eq_true, Bool.and_self, mkTop, go.2.refl]
  refine ev_call e2 ?_
  simp -implicitDefEqProofs only [rdl, Ex.same, Nat.beq, g0.refl, Bool.not_true, bne_self_eq_false, beq_f, beq_t, Bool.not_false, bytesEq_self, beq_self_eq_true, Bool.and_self, mkTop, go.2.refl]
  refine ev_call (f16 (by assumption) (by assumption)) ?_
  simp -implicitDefEqProofs only [rdl, Ex.same, Nat.beq, g0.refl, Bool.not_true, bne_self_eq_false, beq_f, beq_t, Bool.not_false, bytesEq_self, beq_self_eq_true, Bool.and_self, mkTop, go.2.refl]
  first | refine ev_call t0 ?_
  simp -implicitDefEqProofs only [rdl, Ex.same, Nat.beq, g0.refl, Bool.not_true, bne_self_eq_false, beq_f, beq_t, Bool.not_false, bytesEq_self, beq_self_eq_true, Bool.and_self, mkTop, go.2.refl]
  refine ev_call (f17 (by assumption) (by assumption)) ?_
  simp -implicitDefEqProofs only [rdl, Ex.same, Nat.beq, g0.refl, Bool.not_true, bne_self_eq_false, beq_f, beq_t, Bool.not_false, bytesEq_self, beq_self_eq_true, Bool.and_self, mkTop, go.2.refl]
  have c0 := cnTop_le (r := ([.v (.int .i64 na0), .v (.int .i64 na1), .v (.int .i64 na2), .s 13 la3, .s 6 la4, .s 5 la5, .s 1 la6] : Row))
  have d0 := cnRow_le cn_ok g0 (by rw [E39]; rfl)
  rw [E39] at d0
  simp only [List.length_cons, List.length_nil] at d0
  refine ev_call (f18 (by assumption) _ (by omega) (by simp only [K62]; omega)) ?_
  simp -implicitDefEqProofs only [rdl, Ex.same, Nat.beq, g0.refl, Bool.not_true, bne_self_eq_false, beq_f, beq_t, Bool.not_false, bytesEq_self, beq_self_eq_true, Bool.and_self, mkTop, go.2.refl]
  refine ev_if (fun _ => ?_) (fun hc => absurd (by simpa using hc) (by omega))
  try simp -implicitDefEqProofs only [rdl, Ex.same, Nat.beq, g0.refl, Bool.not_true, bne_self_eq_false, beq_f, beq_t, Bool.not_false, bytesEq_self, beq_self_eq_true, Bool.and_self, mkTop, go.2.refl]
  refine ev_call (f16 (by assumption) (by assumption)) ?_
  simp -implicitDefEqProofs only [rdl, Ex.same, Nat.beq, g0.refl, Bool.not_true, bne_self_eq_false, beq_f, beq_t, Bool.not_false, bytesEq_self, beq_self_eq_true, Bool.and_self, mkTop, go.2.refl]
  refine ev_call (f19 (by assumption) _ (by omega) (by simp only [K62]; omega)) ?_
  simp -implicitDefEqProofs only [rdl, Ex.same, Nat.beq, g0.refl, Bool.not_true, bne_self_eq_false, beq_f, beq_t, Bool.not_false, bytesEq_self, beq_self_eq_true, Bool.and_self, mkTop, go.2.refl]
  -- held
  have eh0 := f20 go 1 (by omega) (by simp only [K62]; omega)
  refine ev_call eh0 ?_
  simp -implicitDefEqProofs only [rdl, Ex.same, Nat.beq, g0.refl, Bool.not_true, bne_self_eq_false, beq_f, beq_t, Bool.not_false, bytesEq_self, beq_self_eq_true, Bool.and_self, mkTop, go.2.refl]
  refine ev_if (fun hc => absurd (of_decide_eq_true hc) (by omega)) (fun _ => ?_)
  try simp -implicitDefEqProofs only [rdl, Ex.same, Nat.beq, g0.refl, Bool.not_true, bne_self_eq_false, beq_f, beq_t, Bool.not_false, bytesEq_self, beq_self_eq_true, Bool.and_self, mkTop, go.2.refl]
  first | refine ev_call t0 ?_
  simp -implicitDefEqProofs only [rdl, Ex.same, Nat.beq, g0.refl, Bool.not_true, bne_self_eq_false, beq_f, beq_t, Bool.not_false, bytesEq_self, beq_self_eq_true, Bool.and_self, mkTop, go.2.refl]
  refine ev_call e2 ?_
  simp -implicitDefEqProofs only [rdl, Ex.same, Nat.beq, g0.refl, Bool.not_true, bne_self_eq_false, beq_f, beq_t, Bool.not_false, bytesEq_self, beq_self_eq_true, Bool.and_self, mkTop, go.2.refl]
  refine ev_call (f16 (by assumption) (by assumption)) ?_
  simp -implicitDefEqProofs only [rdl, Ex.same, Nat.beq, g0.refl, Bool.not_true, bne_self_eq_false, beq_f, beq_t, Bool.not_false, bytesEq_self, beq_self_eq_true, Bool.and_self, mkTop, go.2.refl]
  -- held
  have eh1 := f20 go 1 (by omega) (by simp only [K62]; omega)
  refine ev_call eh1 ?_
  simp -implicitDefEqProofs only [rdl, Ex.same, Nat.beq, g0.refl, Bool.not_true, bne_self_eq_false, beq_f, beq_t, Bool.not_false, bytesEq_self, beq_self_eq_true, Bool.and_self, mkTop, go.2.refl]
  refine ev_if (fun hc => absurd (of_decide_eq_true hc) (by omega)) (fun _ => ?_)
  try simp -implicitDefEqProofs only [rdl, Ex.same, Nat.beq, g0.refl, Bool.not_true, bne_self_eq_false, beq_f, beq_t, Bool.not_false, bytesEq_self, beq_self_eq_true, Bool.and_self, mkTop, go.2.refl]
  exact Evt.ret
end Go.Am.Lk
