/- What the functions of one family say in the end. Nothing is assumed. -/
import Derived.Test.YtmgeoejefnablaaDoorMtH
namespace Go.Am.Mt
set_option linter.unusedVariables false
set_option linter.unusedSimpArgs false
set_option maxRecDepth 8000
/- loop.example/g00119/laws.toStringS -/
theorem f105 {l : Rows} (hl : SL E 9 l) (hw : l.length + wtRows l ≤ 1048576) : Ev fs 105 [.d (.s 1 l)] ⟨.d (.s 1 l), []⟩ := by
  refine to_rows (fun d n acc i => l105x0 (TabD fs d) d n [.fz 1 l, .o 1 acc, .v (.int .i64 i)]) (af := a105) (z := [.v (.string ByteArray.empty)]) rfl rfl (fun d => a105q ..) (by omega) (by decide) (fun d n acc => ?_) (fun pre x post res ha hp k => ?_)
  · rw [l105x0s]
    simp -implicitDefEqProofs only [rdl, Ex.same, Nat.beq, Int.lt_irrefl, decide_false]
  · have hwx := wt_mid (pre := pre) (x := x) (post := post)
    have hwr := wrap_succ hp hl.1
    subst ha
    have h := hl.mid
    have h' := h
    obtain ⟨sa0, rfl, pa0⟩ := I9 h
    simp only [l105x0s]
    simp -implicitDefEqProofs only [rdl, Ex.same, Nat.beq, mid_lt, mid_lt', dec_nn, look_mid, hwr, Bool.and_self]
    simp only [wtRow, wtD] at hwx
    simp only [setD_mid, List.set_cons_zero, List.set_cons_succ]
    exact k
/- loop.example/g00119/laws.toValueS -/
mutual
theorem fr84 {row : Row} (h : ShL E (E 81) row) (hw : wtRow row ≤ 1048576) (W : Nat) (hW : 2 * wtRow row + 1 = W) : Ev fs 84 [.g row] ⟨.g row, []⟩ := by
  obtain ⟨na0, sa1, na2, la3, la4, rfl, pa0, pa1, pa2, pa3, pa4⟩ := I81 h
  simp only [wtRow, wtD] at hw
  refine Ev.of (af := a84) rfl rfl (Evt.congr (fun d n => a84q ..) ?_)
  refine ev_call (f105 (by assumption) (by first | omega | (simp only [wtRow, wtD]; omega))) ?_
  simp -implicitDefEqProofs only [rdl, Ex.same, Nat.beq]
  refine ev_call (fr106 (by assumption) (by first | omega | (simp only [wtRow, wtD]; omega)) _ rfl) ?_
  simp -implicitDefEqProofs only [rdl, Ex.same, Nat.beq]
  exact Evt.ret
termination_by W
decreasing_by all_goals (try have := hwx); (try simp only [wtRow, wtD] at *); omega
theorem fr106 {l : Rows} (hl : SL E 81 l) (hw : l.length + wtRows l ≤ 1048576) (W : Nat) (hW : 2 * (l.length + wtRows l) = W) : Ev fs 106 [.d (.s 5 l)] ⟨.d (.s 5 l), []⟩ := by
  refine to_rows (fun d n acc i => l106x0 (TabD fs d) d n [.fz 5 l, .o 5 acc, .v (.int .i64 i)]) (af := a106) (z := [.v (.int .i64 0), .v (.string ByteArray.empty), .v (.int .i64 0), .s 1 [], .s 5 []]) rfl rfl (fun d => a106q ..) (by omega) (by decide) (fun d n acc => ?_) (fun pre x post res ha hp k => ?_)
  · rw [l106x0s]
    simp -implicitDefEqProofs only [rdl, Ex.same, Nat.beq, Int.lt_irrefl, decide_false]
  · have hwx := wt_mid (pre := pre) (x := x) (post := post)
    have hwr := wrap_succ hp hl.1
    subst ha
    have h := hl.mid
    have h' := h
    obtain ⟨na0, sa1, na2, la3, la4, rfl, pa0, pa1, pa2, pa3, pa4⟩ := I81 h
    simp only [l106x0s]
    simp -implicitDefEqProofs only [rdl, Ex.same, Nat.beq, mid_lt, mid_lt', dec_nn, look_mid, hwr, Bool.and_self]
    simp only [wtRow, wtD] at hwx
    refine ev_call (fr84 (by assumption) (by first | omega | (simp only [wtRow, wtD]; omega)) _ rfl) ?_
    simp -implicitDefEqProofs only [rdl, Ex.same, Nat.beq, mid_lt, mid_lt', dec_nn, hwr, Bool.and_self]
    simp only [setD_mid, List.set_cons_zero, List.set_cons_succ]
    exact k
termination_by W
decreasing_by all_goals (try have := hwx); (try simp only [wtRow, wtD] at *); omega
end
theorem f84 {row : Row} (h : ShL E (E 81) row) (hw : wtRow row ≤ 1048576) : Ev fs 84 [.g row] ⟨.g row, []⟩ := fr84 h hw _ rfl
theorem f106 {l : Rows} (hl : SL E 81 l) (hw : l.length + wtRows l ≤ 1048576) : Ev fs 106 [.d (.s 5 l)] ⟨.d (.s 5 l), []⟩ := fr106 hl hw _ rfl
/- loop.example/g00119/laws.toWork -/
theorem f56 {row : Row} (h : ShL E (E 83) row) (hw : wtRow row ≤ 1048576) : Ev fs 56 [.g row] ⟨.g row, []⟩ := by
  obtain ⟨na0, na1, na2, sa3, na4, la5, la6, rfl, pa0, pa1, pa2, pa3, pa4, pa5, pa6⟩ := I83 h
  simp only [wtRow, wtD] at hw
  refine Ev.of (af := a56) rfl rfl (Evt.congr (fun d n => a56q ..) ?_)
  refine ev_call (f84 (by rw [E81]; exact mk_i (by assumption) (mk_s (by assumption) (mk_i (by assumption) (mk_sl W9 (by assumption) (mk_sl W81 (by assumption) (ShL.nil)))))) (by first | omega | (simp only [wtRow, wtD]; omega))) ?_
  simp -implicitDefEqProofs only [rdl, Ex.same, Nat.beq]
  exact Evt.ret
/- loop.example/g00119/laws.toWorkS -/
theorem f28 {l : Rows} (hl : SL E 83 l) (hw : l.length + wtRows l ≤ 1048576) : Ev fs 28 [.d (.s 7 l)] ⟨.d (.s 7 l), []⟩ := by
  refine to_rows (fun d n acc i => l28x0 (TabD fs d) d n [.fz 7 l, .o 7 acc, .v (.int .i64 i)]) (af := a28) (z := [.v (.int .i64 0), .v (.int .i64 0), .v (.int .i64 0), .v (.string ByteArray.empty), .v (.int .i64 0), .s 1 [], .s 5 []]) rfl rfl (fun d => a28q ..) (by omega) (by decide) (fun d n acc => ?_) (fun pre x post res ha hp k => ?_)
  · rw [l28x0s]
    simp -implicitDefEqProofs only [rdl, Ex.same, Nat.beq, Int.lt_irrefl, decide_false]
  · have hwx := wt_mid (pre := pre) (x := x) (post := post)
    have hwr := wrap_succ hp hl.1
    subst ha
    have h := hl.mid
    have h' := h
    obtain ⟨na0, na1, na2, sa3, na4, la5, la6, rfl, pa0, pa1, pa2, pa3, pa4, pa5, pa6⟩ := I83 h
    simp only [l28x0s]
    simp -implicitDefEqProofs only [rdl, Ex.same, Nat.beq, mid_lt, mid_lt', dec_nn, look_mid, hwr, Bool.and_self]
    simp only [wtRow, wtD] at hwx
    refine ev_call (f56 (by assumption) (by first | omega | (simp only [wtRow, wtD]; omega))) ?_
    simp -implicitDefEqProofs only [rdl, Ex.same, Nat.beq, mid_lt, mid_lt', dec_nn, hwr, Bool.and_self]
    simp only [setD_mid, List.set_cons_zero, List.set_cons_succ]
    exact k
/- loop.example/g00119/laws.toRun -/
theorem f57 {row : Row} (h : ShL E (E 90) row) (hw : wtRow row ≤ 1048576) : Ev fs 57 [.g row] ⟨.g row, []⟩ := by
  obtain ⟨na0, na1, rfl, pa0, pa1⟩ := I90 h
  refine Ev.of (af := a57) rfl rfl (Evt.congr (fun d n => a57q ..) ?_)
  exact Evt.ret
/- loop.example/g00119/laws.toRunS -/
theorem f29 {l : Rows} (hl : SL E 90 l) (hw : l.length + wtRows l ≤ 1048576) : Ev fs 29 [.d (.s 2 l)] ⟨.d (.s 2 l), []⟩ := by
  refine to_rows (fun d n acc i => l29x0 (TabD fs d) d n [.fz 2 l, .o 2 acc, .v (.int .i64 i)]) (af := a29) (z := [.v (.int .i64 0), .v (.int .i64 0)]) rfl rfl (fun d => a29q ..) (by omega) (by decide) (fun d n acc => ?_) (fun pre x post res ha hp k => ?_)
  · rw [l29x0s]
    simp -implicitDefEqProofs only [rdl, Ex.same, Nat.beq, Int.lt_irrefl, decide_false]
  · have hwx := wt_mid (pre := pre) (x := x) (post := post)
    have hwr := wrap_succ hp hl.1
    subst ha
    have h := hl.mid
    have h' := h
    obtain ⟨na0, na1, rfl, pa0, pa1⟩ := I90 h
    simp only [l29x0s]
    simp -implicitDefEqProofs only [rdl, Ex.same, Nat.beq, mid_lt, mid_lt', dec_nn, look_mid, hwr, Bool.and_self]
    simp only [wtRow, wtD] at hwx
    refine ev_call (f57 (by assumption) (by first | omega | (simp only [wtRow, wtD]; omega))) ?_
    simp -implicitDefEqProofs only [rdl, Ex.same, Nat.beq, mid_lt, mid_lt', dec_nn, hwr, Bool.and_self]
    simp only [setD_mid, List.set_cons_zero, List.set_cons_succ]
    exact k
/- loop.example/g00119/laws.toMsg -/
theorem f8 {row : Row} (h : ShL E (E 25) row) (hw : wtRow row ≤ 1048576) : Ev fs 8 [.g row] ⟨.g row, []⟩ := by
  obtain ⟨na0, sa1, na2, la3, la4, rfl, pa0, pa1, pa2, pa3, pa4⟩ := I25 h
  simp only [wtRow, wtD] at hw
  refine Ev.of (af := a8) rfl rfl (Evt.congr (fun d n => a8q ..) ?_)
  refine ev_call (f28 (by assumption) (by first | omega | (simp only [wtRow, wtD]; omega))) ?_
  simp -implicitDefEqProofs only [rdl, Ex.same, Nat.beq]
  refine ev_call (f29 (by assumption) (by first | omega | (simp only [wtRow, wtD]; omega))) ?_
  simp -implicitDefEqProofs only [rdl, Ex.same, Nat.beq]
  exact Evt.ret
end Go.Am.Mt
