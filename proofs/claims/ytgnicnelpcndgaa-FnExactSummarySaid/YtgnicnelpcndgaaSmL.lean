/- What FnExactSummary says in the end: yes, whatever it is given. Nothing is assumed. -/
import Derived.Test.YtgnicnelpcndgaaSmS
import Derived.Test.YtgnicnelpcndgaaSmC
import Derived.Test.YtgnicnelpcndgaaSmQ
import Derived.Test.YtgnicnelpcndgaaSmP
namespace Go.Am.Sm
set_option linter.unusedVariables false
set_option linter.unusedSimpArgs false
set_option maxRecDepth 8000
def sm : TypeId → TypeId := fun t => if t = 177 then 120 else if t = 183 then 126 else if t = 185 then 96 else if t = 267 then 239 else if t = 269 then 234 else if t = 150 then 117 else if t = 257 then 207 else if t = 272 then 210 else if t = 282 then 236 else t
theorem sm_ok : ∀ t ∈ ([177, 183, 185, 9, 267, 269, 150, 257, 272, 282] : List TypeId), E (sm t) = (E t).map (Sh.mp sm) ∧ slIn [177, 183, 185, 9, 267, 269, 150, 257, 272, 282] (E t) = true := by
  intro t ht
  simp only [List.mem_cons, List.not_mem_nil, or_false] at ht
  rcases ht with rfl | rfl | rfl | rfl | rfl | rfl | rfl | rfl | rfl | rfl
  · rw [show sm 177 = 120 from rfl, E120, E177]; exact ⟨rfl, rfl⟩
  · rw [show sm 183 = 126 from rfl, E126, E183]; exact ⟨rfl, rfl⟩
  · rw [show sm 185 = 96 from rfl, E96, E185]; exact ⟨rfl, rfl⟩
  · rw [show sm 9 = 9 from rfl, E9]; exact ⟨rfl, rfl⟩
  · rw [show sm 267 = 239 from rfl, E239, E267]; exact ⟨rfl, rfl⟩
  · rw [show sm 269 = 234 from rfl, E234, E269]; exact ⟨rfl, rfl⟩
  · rw [show sm 150 = 117 from rfl, E117, E150]; exact ⟨rfl, rfl⟩
  · rw [show sm 257 = 207 from rfl, E207, E257]; exact ⟨rfl, rfl⟩
  · rw [show sm 272 = 210 from rfl, E210, E272]; exact ⟨rfl, rfl⟩
  · rw [show sm 282 = 236 from rfl, E236, E282]; exact ⟨rfl, rfl⟩
theorem conv50 {r : Row} (h : ShL E (E 50) r) : ShL E (E 57) r := by
  have := h.conv sm_ok (by rw [E50]; rfl)
  rw [E50] at this
  rw [E57]
  exact this
theorem f6 {r : Row} (h : ShL E (E 50) r) : Ev fs 6 [.g r] (bo true) := by
  have k := h
  have g := conv50 h
  rw [E50] at h
  obtain ⟨na0, ra0, rfl, pa0, h_a0⟩ := inv_i h
  obtain ⟨na1, ra1, rfl, pa1, h_a1⟩ := inv_i h_a0
  obtain ⟨na2, ra2, rfl, pa2, h_a2⟩ := inv_i h_a1
  obtain ⟨la3, ra3, rfl, pa3, h_a3⟩ := inv_sl W177 h_a2
  obtain ⟨la4, ra4, rfl, pa4, h_a4⟩ := inv_sl W183 h_a3
  obtain ⟨la5, ra5, rfl, pa5, h_a5⟩ := inv_sl W185 h_a4
  obtain ⟨la6, ra6, rfl, pa6, h_a6⟩ := inv_sl W9 h_a5
  cases inv_nil h_a6
  refine Ev.of (af := a6) rfl rfl (Evt.congr (fun d n => a6q ..) ?_)
  rcases f21 k 1048576 (by decide) (by decide) with q | ⟨m, m0, m1, q⟩
  · refine ev_call q ?_
    simp only [cI, cB, cS, cL, oD_d, oG_g, oT_t, oP_p, dI_v, dB_v, dS_v, dL_s, cell_z, cell_s, nth_z, nth_s, aV_z, aV_s, aI_v, aB_v, aS_v, aL_f, aO_o, aX_b, tst_t, cond_true, cond_false, Ex.same, Nat.beq, List.length_cons, List.length_nil, Int.toNat_natCast, show decide ((-1 : Int) < 0) = true from rfl]
    exact Evt.ret
  refine ev_call q ?_
  simp only [cI, cB, cS, cL, oD_d, oG_g, oT_t, oP_p, dI_v, dB_v, dS_v, dL_s, cell_z, cell_s, nth_z, nth_s, aV_z, aV_s, aI_v, aB_v, aS_v, aL_f, aO_o, aX_b, tst_t, cond_true, cond_false, Ex.same, Nat.beq, List.length_cons, List.length_nil, Int.toNat_natCast, show decide (m < 0) = false from by simp; omega]
  have hw : wtRow [.v (.int .i64 na0), .v (.int .i64 na1), .v (.int .i64 na2), .s 13 la3, .s 6 la4, .s 5 la5, .s 1 la6] ≤ 1048576 := by omega
  have t := f23 k hw
  refine ev_call t ?_
  simp only [cI, cB, cS, cL, oD_d, oG_g, oT_t, oP_p, dI_v, dB_v, dS_v, dL_s, cell_z, cell_s, nth_z, nth_s, aV_z, aV_s, aI_v, aB_v, aS_v, aL_f, aO_o, aX_b, tst_t, cond_true, cond_false, Ex.same, Nat.beq, List.length_cons, List.length_nil, Int.toNat_natCast]
  refine ev_call (f29 g hw rfl rfl rfl) ?_
  simp only [cI, cB, cS, cL, oD_d, oG_g, oT_t, oP_p, dI_v, dB_v, dS_v, dL_s, cell_z, cell_s, nth_z, nth_s, aV_z, aV_s, aI_v, aB_v, aS_v, aL_f, aO_o, aX_b, tst_t, cond_true, cond_false, Ex.same, Nat.beq, List.length_cons, List.length_nil, Int.toNat_natCast]
  refine ev_call t ?_
  simp only [cI, cB, cS, cL, oD_d, oG_g, oT_t, oP_p, dI_v, dB_v, dS_v, dL_s, cell_z, cell_s, nth_z, nth_s, aV_z, aV_s, aI_v, aB_v, aS_v, aL_f, aO_o, aX_b, tst_t, cond_true, cond_false, Ex.same, Nat.beq, List.length_cons, List.length_nil, Int.toNat_natCast]
  refine ev_call (f30 g hw rfl rfl rfl) ?_
  simp only [cI, cB, cS, cL, oD_d, oG_g, oT_t, oP_p, dI_v, dB_v, dS_v, dL_s, cell_z, cell_s, nth_z, nth_s, aV_z, aV_s, aI_v, aB_v, aS_v, aL_f, aO_o, aX_b, tst_t, cond_true, cond_false, Ex.same, Nat.beq, List.length_cons, List.length_nil, Int.toNat_natCast, show bytesEq (summary la5 la3 la4) (summary la5 la3 la4) = true from by simp [bytesEq], Bool.not_true]
  refine ev_call t ?_
  simp only [cI, cB, cS, cL, oD_d, oG_g, oT_t, oP_p, dI_v, dB_v, dS_v, dL_s, cell_z, cell_s, nth_z, nth_s, aV_z, aV_s, aI_v, aB_v, aS_v, aL_f, aO_o, aX_b, tst_t, cond_true, cond_false, Ex.same, Nat.beq, List.length_cons, List.length_nil, Int.toNat_natCast]
  refine ev_call (f25 g g) ?_
  simp only [cI, cB, cS, cL, oD_d, oG_g, oT_t, oP_p, dI_v, dB_v, dS_v, dL_s, cell_z, cell_s, nth_z, nth_s, aV_z, aV_s, aI_v, aB_v, aS_v, aL_f, aO_o, aX_b, tst_t, cond_true, cond_false, Ex.same, Nat.beq, List.length_cons, List.length_nil, Int.toNat_natCast, g.refl, Bool.not_true]
  exact Evt.ret
end Go.Am.Sm
