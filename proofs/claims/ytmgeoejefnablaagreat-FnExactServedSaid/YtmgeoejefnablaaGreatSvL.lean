/- What FnExactServed says in the end: yes, whatever it is given. Nothing is assumed. -/
import Derived.Test.YtmgeoejefnablaaGreatSvS
import Derived.Test.YtmgeoejefnablaaGreatSvC
import Derived.Test.YtmgeoejefnablaaGreatSvQ
import Derived.Test.YtmgeoejefnablaaGreatSvX
namespace Go.Am.Sv
set_option linter.unusedVariables false
set_option linter.unusedSimpArgs false
set_option maxRecDepth 8000
def sm : TypeId → TypeId := fun t => if t = 32 then 43 else if t = 174 then 113 else if t = 264 then 259 else if t = 266 then 209 else if t = 62 then 78 else if t = 205 then 216 else if t = 304 then 276 else if t = 177 then 184 else if t = 269 then 262 else if t = 180 then 181 else if t = 161 then 99 else if t = 293 then 288 else if t = 224 then 166 else if t = 164 then 156 else t
theorem sm_ok : ∀ t ∈ ([174, 177, 180, 9, 5, 161, 164, 264, 266, 62, 205, 304, 269, 293, 224] : List TypeId), E (sm t) = (E t).map (Sh.mp sm) ∧ slIn [174, 177, 180, 9, 5, 161, 164, 264, 266, 62, 205, 304, 269, 293, 224] (E t) = true := by
  intro t ht
  simp only [List.mem_cons, List.not_mem_nil, or_false] at ht
  rcases ht with rfl | rfl | rfl | rfl | rfl | rfl | rfl | rfl | rfl | rfl | rfl | rfl | rfl | rfl | rfl
  · rw [show sm 174 = 113 from rfl, E113, E174]; exact ⟨rfl, rfl⟩
  · rw [show sm 177 = 184 from rfl, E184, E177]; exact ⟨rfl, rfl⟩
  · rw [show sm 180 = 181 from rfl, E181, E180]; exact ⟨rfl, rfl⟩
  · rw [show sm 9 = 9 from rfl, E9]; exact ⟨rfl, rfl⟩
  · rw [show sm 5 = 5 from rfl, E5]; exact ⟨rfl, rfl⟩
  · rw [show sm 161 = 99 from rfl, E99, E161]; exact ⟨rfl, rfl⟩
  · rw [show sm 164 = 156 from rfl, E156, E164]; exact ⟨rfl, rfl⟩
  · rw [show sm 264 = 259 from rfl, E259, E264]; exact ⟨rfl, rfl⟩
  · rw [show sm 266 = 209 from rfl, E209, E266]; exact ⟨rfl, rfl⟩
  · rw [show sm 62 = 78 from rfl, E78, E62]; exact ⟨rfl, rfl⟩
  · rw [show sm 205 = 216 from rfl, E216, E205]; exact ⟨rfl, rfl⟩
  · rw [show sm 304 = 276 from rfl, E276, E304]; exact ⟨rfl, rfl⟩
  · rw [show sm 269 = 262 from rfl, E262, E269]; exact ⟨rfl, rfl⟩
  · rw [show sm 293 = 288 from rfl, E288, E293]; exact ⟨rfl, rfl⟩
  · rw [show sm 224 = 166 from rfl, E166, E224]; exact ⟨rfl, rfl⟩
theorem conv32 {r : Row} (h : ShL E (E 32) r) : ShL E (E 43) r := by
  have := h.conv sm_ok (by rw [E32]; rfl)
  rw [E32] at this
  rw [E43]
  exact this
theorem cn_ok : ∀ t ∈ ([5, 9, 78, 99, 113, 156, 166, 181, 184, 209, 216, 259, 262, 276, 288] : List TypeId), (E t).length ≤ 64 ∧ slIn [5, 9, 78, 99, 113, 156, 166, 181, 184, 209, 216, 259, 262, 276, 288] (E t) = true := by
  intro t ht
  simp only [List.mem_cons, List.not_mem_nil, or_false] at ht
  rcases ht with rfl | rfl | rfl | rfl | rfl | rfl | rfl | rfl | rfl | rfl | rfl | rfl | rfl | rfl | rfl
  · rw [E5]; exact ⟨by decide, rfl⟩
  · rw [E9]; exact ⟨by decide, rfl⟩
  · rw [E78]; exact ⟨by decide, rfl⟩
  · rw [E99]; exact ⟨by decide, rfl⟩
  · rw [E113]; exact ⟨by decide, rfl⟩
  · rw [E156]; exact ⟨by decide, rfl⟩
  · rw [E166]; exact ⟨by decide, rfl⟩
  · rw [E181]; exact ⟨by decide, rfl⟩
  · rw [E184]; exact ⟨by decide, rfl⟩
  · rw [E209]; exact ⟨by decide, rfl⟩
  · rw [E216]; exact ⟨by decide, rfl⟩
  · rw [E259]; exact ⟨by decide, rfl⟩
  · rw [E262]; exact ⟨by decide, rfl⟩
  · rw [E276]; exact ⟨by decide, rfl⟩
  · rw [E288]; exact ⟨by decide, rfl⟩
theorem f3 {r0 : Row} (h0 : ShL E (E 32) r0) {u1 : Int} (h1 : Fits u1) : Ev fs 3 [.g r0, .d (.v (.int .i64 u1))] (bo true) := by
  have k0 := h0
  have g0 := conv32 h0
  obtain ⟨na0, na1, na2, la3, la4, la5, la6, ba7, la8, la9, la10, la11, rfl, pa0, pa1, pa2, pa3, pa4, pa5, pa6, pa8, pa9, pa10, pa11⟩ := I32 h0
  refine Ev.of (af := a3) rfl rfl (Evt.congr (fun d n => a3q ..) ?_)
  rcases f7 k0 1048576 (by decide) (by first | decide | (show (_ : Int) ≤ 1048576; omega)) with q | ⟨m0, m0a, m0b, q⟩
  · refine ev_call q ?_
    simp -implicitDefEqProofs only [rdl, Ex.same, Nat.beq]
    simp only [show decide ((-1 : Int) < 0) = true from rfl, cond_true]
    exact Evt.ret
  refine ev_call q ?_
  simp -implicitDefEqProofs only [rdl, Ex.same, Nat.beq]
  refine ev_if (fun hc => absurd (of_decide_eq_true hc) (by omega)) (fun _ => ?_)
  have w0 : wtRow ([.v (.int .i64 na0), .v (.int .i64 na1), .v (.int .i64 na2), .s 13 la3, .s 6 la4, .s 5 la5, .s 1 la6, .v (.bool ba7), .s 1 la8, .s 5 la9, .s 5 la10, .s 1 la11] : Row) ≤ 1048576 := by omega
  have t0 := f9 k0 w0
  first | refine ev_call t0 ?_
  simp -implicitDefEqProofs only [rdl, Ex.same, Nat.beq, g0.refl, Bool.not_true, bne_self_eq_false, beq_f, beq_t, Bool.not_false, bytesEq_self, beq_self_eq_true, Bool.and_self, mkTop]
  refine ev_call (f8 g0 _) ?_
  simp -implicitDefEqProofs only [rdl, Ex.same, Nat.beq, g0.refl, Bool.not_true, bne_self_eq_false, beq_f, beq_t, Bool.not_false, bytesEq_self, beq_self_eq_true, Bool.and_self, mkTop]
  first | refine ev_call t0 ?_
  simp -implicitDefEqProofs only [rdl, Ex.same, Nat.beq, g0.refl, Bool.not_true, bne_self_eq_false, beq_f, beq_t, Bool.not_false, bytesEq_self, beq_self_eq_true, Bool.and_self, mkTop]
  refine ev_call (f10 g0 _) ?_
  simp -implicitDefEqProofs only [rdl, Ex.same, Nat.beq, g0.refl, Bool.not_true, bne_self_eq_false, beq_f, beq_t, Bool.not_false, bytesEq_self, beq_self_eq_true, Bool.and_self, mkTop]
  first | refine ev_call t0 ?_
  simp -implicitDefEqProofs only [rdl, Ex.same, Nat.beq, g0.refl, Bool.not_true, bne_self_eq_false, beq_f, beq_t, Bool.not_false, bytesEq_self, beq_self_eq_true, Bool.and_self, mkTop]
  refine ev_call (f11 (by assumption) (by assumption)) ?_
  simp -implicitDefEqProofs only [rdl, Ex.same, Nat.beq, g0.refl, Bool.not_true, bne_self_eq_false, beq_f, beq_t, Bool.not_false, bytesEq_self, beq_self_eq_true, Bool.and_self, mkTop]
  exact Evt.ret
end Go.Am.Sv
