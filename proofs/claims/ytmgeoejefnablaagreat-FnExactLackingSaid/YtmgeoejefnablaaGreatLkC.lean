/- What the functions of one family say in the end. Nothing is assumed. -/
import Derived.Test.YtmgeoejefnablaaGreatLkH
namespace Go.Am.Lk
set_option linter.unusedVariables false
set_option linter.unusedSimpArgs false
set_option maxRecDepth 8000
/- loop.example/g00119/laws.toStringS -/
theorem f37 {l : Rows} (hl : SL E 9 l) (hw : l.length + wtRows l ≤ 1048576) : Ev fs 37 [.d (.s 1 l)] ⟨.d (.s 1 l), []⟩ := by
  refine to_rows (fun d n acc i => l37x0 (TabD fs d) d n [.fz 1 l, .o 1 acc, .v (.int .i64 i)]) (af := a37) (z := [.v (.string ByteArray.empty)]) rfl rfl (fun d => a37q ..) (by omega) (by decide) (fun d n acc => ?_) (fun pre x post res ha hp k => ?_)
  · rw [l37x0s]
    simp -implicitDefEqProofs only [rdl, Ex.same, Nat.beq, Int.lt_irrefl, decide_false]
  · have hwx := wt_mid (pre := pre) (x := x) (post := post)
    have hwr := wrap_succ hp hl.1
    subst ha
    have h := hl.mid
    have h' := h
    obtain ⟨sa0, rfl, pa0⟩ := I9 h
    simp only [l37x0s]
    simp -implicitDefEqProofs only [rdl, Ex.same, Nat.beq, mid_lt, mid_lt', dec_nn, look_mid, hwr, Bool.and_self]
    simp only [wtRow, wtD] at hwx
    simp only [setD_mid, List.set_cons_zero, List.set_cons_succ]
    exact k
/- loop.example/g00119/laws.toTerm -/
theorem f203 {row : Row} (h : ShL E (E 264) row) (hw : wtRow row ≤ 1048576) : Ev fs 203 [.g row] ⟨.g row, []⟩ := by
  obtain ⟨na0, sa1, la2, rfl, pa0, pa1, pa2⟩ := I264 h
  simp only [wtRow, wtD] at hw
  refine Ev.of (af := a203) rfl rfl (Evt.congr (fun d n => a203q ..) ?_)
  refine ev_call (f37 (by assumption) (by first | omega | (simp only [wtRow, wtD]; omega))) ?_
  simp -implicitDefEqProofs only [rdl, Ex.same, Nat.beq]
  exact Evt.ret
/- loop.example/g00119/laws.toTermS -/
theorem f141 {l : Rows} (hl : SL E 264 l) (hw : l.length + wtRows l ≤ 1048576) : Ev fs 141 [.d (.s 3 l)] ⟨.d (.s 3 l), []⟩ := by
  refine to_rows (fun d n acc i => l141x0 (TabD fs d) d n [.fz 3 l, .o 3 acc, .v (.int .i64 i)]) (af := a141) (z := [.v (.int .i64 0), .v (.string ByteArray.empty), .s 1 []]) rfl rfl (fun d => a141q ..) (by omega) (by decide) (fun d n acc => ?_) (fun pre x post res ha hp k => ?_)
  · rw [l141x0s]
    simp -implicitDefEqProofs only [rdl, Ex.same, Nat.beq, Int.lt_irrefl, decide_false]
  · have hwx := wt_mid (pre := pre) (x := x) (post := post)
    have hwr := wrap_succ hp hl.1
    subst ha
    have h := hl.mid
    have h' := h
    obtain ⟨na0, sa1, la2, rfl, pa0, pa1, pa2⟩ := I264 h
    simp only [l141x0s]
    simp -implicitDefEqProofs only [rdl, Ex.same, Nat.beq, mid_lt, mid_lt', dec_nn, look_mid, hwr, Bool.and_self]
    simp only [wtRow, wtD] at hwx
    refine ev_call (f203 (by assumption) (by first | omega | (simp only [wtRow, wtD]; omega))) ?_
    simp -implicitDefEqProofs only [rdl, Ex.same, Nat.beq, mid_lt, mid_lt', dec_nn, hwr, Bool.and_self]
    simp only [setD_mid, List.set_cons_zero, List.set_cons_succ]
    exact k
/- loop.example/g00119/laws.toWeigh -/
theorem f204 {row : Row} (h : ShL E (E 266) row) (hw : wtRow row ≤ 1048576) : Ev fs 204 [.g row] ⟨.g row, []⟩ := by
  obtain ⟨sa0, na1, rfl, pa0, pa1⟩ := I266 h
  simp only [wtRow, wtD] at hw
  refine Ev.of (af := a204) rfl rfl (Evt.congr (fun d n => a204q ..) ?_)
  exact Evt.ret
/- loop.example/g00119/laws.toWeighS -/
theorem f142 {l : Rows} (hl : SL E 266 l) (hw : l.length + wtRows l ≤ 1048576) : Ev fs 142 [.d (.s 2 l)] ⟨.d (.s 2 l), []⟩ := by
  refine to_rows (fun d n acc i => l142x0 (TabD fs d) d n [.fz 2 l, .o 2 acc, .v (.int .i64 i)]) (af := a142) (z := [.v (.string ByteArray.empty), .v (.int .i64 0)]) rfl rfl (fun d => a142q ..) (by omega) (by decide) (fun d n acc => ?_) (fun pre x post res ha hp k => ?_)
  · rw [l142x0s]
    simp -implicitDefEqProofs only [rdl, Ex.same, Nat.beq, Int.lt_irrefl, decide_false]
  · have hwx := wt_mid (pre := pre) (x := x) (post := post)
    have hwr := wrap_succ hp hl.1
    subst ha
    have h := hl.mid
    have h' := h
    obtain ⟨sa0, na1, rfl, pa0, pa1⟩ := I266 h
    simp only [l142x0s]
    simp -implicitDefEqProofs only [rdl, Ex.same, Nat.beq, mid_lt, mid_lt', dec_nn, look_mid, hwr, Bool.and_self]
    simp only [wtRow, wtD] at hwx
    refine ev_call (f204 (by assumption) (by first | omega | (simp only [wtRow, wtD]; omega))) ?_
    simp -implicitDefEqProofs only [rdl, Ex.same, Nat.beq, mid_lt, mid_lt', dec_nn, hwr, Bool.and_self]
    simp only [setD_mid, List.set_cons_zero, List.set_cons_succ]
    exact k
/- loop.example/g00119/laws.toWant -/
theorem f75 {row : Row} (h : ShL E (E 59) row) (hw : wtRow row ≤ 1048576) : Ev fs 75 [.g row] ⟨.g row, []⟩ := by
  obtain ⟨na0, la1, la2, la3, rfl, pa0, pa1, pa2, pa3⟩ := I59 h
  simp only [wtRow, wtD] at hw
  refine Ev.of (af := a75) rfl rfl (Evt.congr (fun d n => a75q ..) ?_)
  refine ev_call (f141 (by assumption) (by first | omega | (simp only [wtRow, wtD]; omega))) ?_
  simp -implicitDefEqProofs only [rdl, Ex.same, Nat.beq]
  refine ev_call (f37 (by assumption) (by first | omega | (simp only [wtRow, wtD]; omega))) ?_
  simp -implicitDefEqProofs only [rdl, Ex.same, Nat.beq]
  refine ev_call (f142 (by assumption) (by first | omega | (simp only [wtRow, wtD]; omega))) ?_
  simp -implicitDefEqProofs only [rdl, Ex.same, Nat.beq]
  exact Evt.ret
/- loop.example/g00119/laws.toValueS -/
mutual
theorem fr76 {row : Row} (h : ShL E (E 62) row) (hw : wtRow row ≤ 1048576) (W : Nat) (hW : 2 * wtRow row + 1 = W) : Ev fs 76 [.g row] ⟨.g row, []⟩ := by
  obtain ⟨na0, sa1, na2, la3, la4, rfl, pa0, pa1, pa2, pa3, pa4⟩ := I62 h
  simp only [wtRow, wtD] at hw
  refine Ev.of (af := a76) rfl rfl (Evt.congr (fun d n => a76q ..) ?_)
  refine ev_call (f37 (by assumption) (by first | omega | (simp only [wtRow, wtD]; omega))) ?_
  simp -implicitDefEqProofs only [rdl, Ex.same, Nat.beq]
  refine ev_call (fr143 (by assumption) (by first | omega | (simp only [wtRow, wtD]; omega)) _ rfl) ?_
  simp -implicitDefEqProofs only [rdl, Ex.same, Nat.beq]
  exact Evt.ret
termination_by W
decreasing_by all_goals (try have := hwx); (try simp only [wtRow, wtD] at *); omega
theorem fr143 {l : Rows} (hl : SL E 62 l) (hw : l.length + wtRows l ≤ 1048576) (W : Nat) (hW : 2 * (l.length + wtRows l) = W) : Ev fs 143 [.d (.s 5 l)] ⟨.d (.s 5 l), []⟩ := by
  refine to_rows (fun d n acc i => l143x0 (TabD fs d) d n [.fz 5 l, .o 5 acc, .v (.int .i64 i)]) (af := a143) (z := [.v (.int .i64 0), .v (.string ByteArray.empty), .v (.int .i64 0), .s 1 [], .s 5 []]) rfl rfl (fun d => a143q ..) (by omega) (by decide) (fun d n acc => ?_) (fun pre x post res ha hp k => ?_)
  · rw [l143x0s]
    simp -implicitDefEqProofs only [rdl, Ex.same, Nat.beq, Int.lt_irrefl, decide_false]
  · have hwx := wt_mid (pre := pre) (x := x) (post := post)
    have hwr := wrap_succ hp hl.1
    subst ha
    have h := hl.mid
    have h' := h
    obtain ⟨na0, sa1, na2, la3, la4, rfl, pa0, pa1, pa2, pa3, pa4⟩ := I62 h
    simp only [l143x0s]
    simp -implicitDefEqProofs only [rdl, Ex.same, Nat.beq, mid_lt, mid_lt', dec_nn, look_mid, hwr, Bool.and_self]
    simp only [wtRow, wtD] at hwx
    refine ev_call (fr76 (by assumption) (by first | omega | (simp only [wtRow, wtD]; omega)) _ rfl) ?_
    simp -implicitDefEqProofs only [rdl, Ex.same, Nat.beq, mid_lt, mid_lt', dec_nn, hwr, Bool.and_self]
    simp only [setD_mid, List.set_cons_zero, List.set_cons_succ]
    exact k
termination_by W
decreasing_by all_goals (try have := hwx); (try simp only [wtRow, wtD] at *); omega
end
theorem f76 {row : Row} (h : ShL E (E 62) row) (hw : wtRow row ≤ 1048576) : Ev fs 76 [.g row] ⟨.g row, []⟩ := fr76 h hw _ rfl
theorem f143 {l : Rows} (hl : SL E 62 l) (hw : l.length + wtRows l ≤ 1048576) : Ev fs 143 [.d (.s 5 l)] ⟨.d (.s 5 l), []⟩ := fr143 hl hw _ rfl
/- loop.example/g00119/laws.toOp -/
theorem f239 {row : Row} (h : ShL E (E 304) row) (hw : wtRow row ≤ 1048576) : Ev fs 239 [.g row] ⟨.g row, []⟩ := by
  obtain ⟨na0, la1, na2, sa3, na4, la5, la6, rfl, pa0, pa1, pa2, pa3, pa4, pa5, pa6⟩ := I304 h
  simp only [wtRow, wtD] at hw
  refine Ev.of (af := a239) rfl rfl (Evt.congr (fun d n => a239q ..) ?_)
  refine ev_call (f37 (by assumption) (by first | omega | (simp only [wtRow, wtD]; omega))) ?_
  simp -implicitDefEqProofs only [rdl, Ex.same, Nat.beq]
  refine ev_call (f76 (by rw [E62]; exact mk_i (by assumption) (mk_s (by assumption) (mk_i (by assumption) (mk_sl W9 (by assumption) (mk_sl W62 (by assumption) (ShL.nil)))))) (by first | omega | (simp only [wtRow, wtD]; omega))) ?_
  simp -implicitDefEqProofs only [rdl, Ex.same, Nat.beq]
  exact Evt.ret
/- loop.example/g00119/laws.toOpS -/
theorem f205 {l : Rows} (hl : SL E 304 l) (hw : l.length + wtRows l ≤ 1048576) : Ev fs 205 [.d (.s 7 l)] ⟨.d (.s 7 l), []⟩ := by
  refine to_rows (fun d n acc i => l205x0 (TabD fs d) d n [.fz 7 l, .o 7 acc, .v (.int .i64 i)]) (af := a205) (z := [.v (.int .i64 0), .s 1 [], .v (.int .i64 0), .v (.string ByteArray.empty), .v (.int .i64 0), .s 1 [], .s 5 []]) rfl rfl (fun d => a205q ..) (by omega) (by decide) (fun d n acc => ?_) (fun pre x post res ha hp k => ?_)
  · rw [l205x0s]
    simp -implicitDefEqProofs only [rdl, Ex.same, Nat.beq, Int.lt_irrefl, decide_false]
  · have hwx := wt_mid (pre := pre) (x := x) (post := post)
    have hwr := wrap_succ hp hl.1
    subst ha
    have h := hl.mid
    have h' := h
    obtain ⟨na0, la1, na2, sa3, na4, la5, la6, rfl, pa0, pa1, pa2, pa3, pa4, pa5, pa6⟩ := I304 h
    simp only [l205x0s]
    simp -implicitDefEqProofs only [rdl, Ex.same, Nat.beq, mid_lt, mid_lt', dec_nn, look_mid, hwr, Bool.and_self]
    simp only [wtRow, wtD] at hwx
    refine ev_call (f239 (by assumption) (by first | omega | (simp only [wtRow, wtD]; omega))) ?_
    simp -implicitDefEqProofs only [rdl, Ex.same, Nat.beq, mid_lt, mid_lt', dec_nn, hwr, Bool.and_self]
    simp only [setD_mid, List.set_cons_zero, List.set_cons_succ]
    exact k
/- loop.example/g00119/laws.toOver -/
theorem f144 {row : Row} (h : ShL E (E 205) row) (hw : wtRow row ≤ 1048576) : Ev fs 144 [.g row] ⟨.g row, []⟩ := by
  obtain ⟨sa0, la1, rfl, pa0, pa1⟩ := I205 h
  simp only [wtRow, wtD] at hw
  refine Ev.of (af := a144) rfl rfl (Evt.congr (fun d n => a144q ..) ?_)
  refine ev_call (f205 (by assumption) (by first | omega | (simp only [wtRow, wtD]; omega))) ?_
  simp -implicitDefEqProofs only [rdl, Ex.same, Nat.beq]
  exact Evt.ret
/- loop.example/g00119/laws.toOverS -/
theorem f77 {l : Rows} (hl : SL E 205 l) (hw : l.length + wtRows l ≤ 1048576) : Ev fs 77 [.d (.s 2 l)] ⟨.d (.s 2 l), []⟩ := by
  refine to_rows (fun d n acc i => l77x0 (TabD fs d) d n [.fz 2 l, .o 2 acc, .v (.int .i64 i)]) (af := a77) (z := [.v (.string ByteArray.empty), .s 7 []]) rfl rfl (fun d => a77q ..) (by omega) (by decide) (fun d n acc => ?_) (fun pre x post res ha hp k => ?_)
  · rw [l77x0s]
    simp -implicitDefEqProofs only [rdl, Ex.same, Nat.beq, Int.lt_irrefl, decide_false]
  · have hwx := wt_mid (pre := pre) (x := x) (post := post)
    have hwr := wrap_succ hp hl.1
    subst ha
    have h := hl.mid
    have h' := h
    obtain ⟨sa0, la1, rfl, pa0, pa1⟩ := I205 h
    simp only [l77x0s]
    simp -implicitDefEqProofs only [rdl, Ex.same, Nat.beq, mid_lt, mid_lt', dec_nn, look_mid, hwr, Bool.and_self]
    simp only [wtRow, wtD] at hwx
    refine ev_call (f144 (by assumption) (by first | omega | (simp only [wtRow, wtD]; omega))) ?_
    simp -implicitDefEqProofs only [rdl, Ex.same, Nat.beq, mid_lt, mid_lt', dec_nn, hwr, Bool.and_self]
    simp only [setD_mid, List.set_cons_zero, List.set_cons_succ]
    exact k
/- loop.example/g00119/laws.toJob -/
theorem f114 {row : Row} (h : ShL E (E 174) row) (hw : wtRow row ≤ 1048576) : Ev fs 114 [.g row] ⟨.g row, []⟩ := by
  obtain ⟨na0, sa1, na2, la3, la4, la5, na6, sa7, na8, la9, la10, la11, ba12, rfl, pa0, pa1, pa2, pa3, pa4, pa5, pa6, pa7, pa8, pa9, pa10, pa11⟩ := I174 h
  simp only [wtRow, wtD] at hw
  refine Ev.of (af := a114) rfl rfl (Evt.congr (fun d n => a114q ..) ?_)
  refine ev_call (f75 (by rw [E59]; exact mk_i (by assumption) (mk_sl W264 (by assumption) (mk_sl W9 (by assumption) (mk_sl W266 (by assumption) (ShL.nil))))) (by first | omega | (simp only [wtRow, wtD]; omega))) ?_
  simp -implicitDefEqProofs only [rdl, Ex.same, Nat.beq]
  refine ev_call (f76 (by rw [E62]; exact mk_i (by assumption) (mk_s (by assumption) (mk_i (by assumption) (mk_sl W9 (by assumption) (mk_sl W62 (by assumption) (ShL.nil)))))) (by first | omega | (simp only [wtRow, wtD]; omega))) ?_
  simp -implicitDefEqProofs only [rdl, Ex.same, Nat.beq]
  refine ev_call (f77 (by assumption) (by first | omega | (simp only [wtRow, wtD]; omega))) ?_
  simp -implicitDefEqProofs only [rdl, Ex.same, Nat.beq]
  exact Evt.ret
/- loop.example/g00119/laws.toJobS -/
theorem f49 {l : Rows} (hl : SL E 174 l) (hw : l.length + wtRows l ≤ 1048576) : Ev fs 49 [.d (.s 13 l)] ⟨.d (.s 13 l), []⟩ := by
  refine to_rows (fun d n acc i => l49x0 (TabD fs d) d n [.fz 13 l, .o 13 acc, .v (.int .i64 i)]) (af := a49) (z := [.v (.int .i64 0), .v (.string ByteArray.empty), .v (.int .i64 0), .s 3 [], .s 1 [], .s 2 [], .v (.int .i64 0), .v (.string ByteArray.empty), .v (.int .i64 0), .s 1 [], .s 5 [], .s 2 [], .v (.bool false)]) rfl rfl (fun d => a49q ..) (by omega) (by decide) (fun d n acc => ?_) (fun pre x post res ha hp k => ?_)
  · rw [l49x0s]
    simp -implicitDefEqProofs only [rdl, Ex.same, Nat.beq, Int.lt_irrefl, decide_false]
  · have hwx := wt_mid (pre := pre) (x := x) (post := post)
    have hwr := wrap_succ hp hl.1
    subst ha
    have h := hl.mid
    have h' := h
    obtain ⟨na0, sa1, na2, la3, la4, la5, na6, sa7, na8, la9, la10, la11, ba12, rfl, pa0, pa1, pa2, pa3, pa4, pa5, pa6, pa7, pa8, pa9, pa10, pa11⟩ := I174 h
    simp only [l49x0s]
    simp -implicitDefEqProofs only [rdl, Ex.same, Nat.beq, mid_lt, mid_lt', dec_nn, look_mid, hwr, Bool.and_self]
    simp only [wtRow, wtD] at hwx
    refine ev_call (f114 (by assumption) (by first | omega | (simp only [wtRow, wtD]; omega))) ?_
    simp -implicitDefEqProofs only [rdl, Ex.same, Nat.beq, mid_lt, mid_lt', dec_nn, hwr, Bool.and_self]
    simp only [setD_mid, List.set_cons_zero, List.set_cons_succ]
    exact k
/- loop.example/g00119/laws.toLabel -/
theorem f206 {row : Row} (h : ShL E (E 269) row) (hw : wtRow row ≤ 1048576) : Ev fs 206 [.g row] ⟨.g row, []⟩ := by
  obtain ⟨sa0, sa1, rfl, pa0, pa1⟩ := I269 h
  simp only [wtRow, wtD] at hw
  refine Ev.of (af := a206) rfl rfl (Evt.congr (fun d n => a206q ..) ?_)
  exact Evt.ret
/- loop.example/g00119/laws.toLabelS -/
theorem f145 {l : Rows} (hl : SL E 269 l) (hw : l.length + wtRows l ≤ 1048576) : Ev fs 145 [.d (.s 2 l)] ⟨.d (.s 2 l), []⟩ := by
  refine to_rows (fun d n acc i => l145x0 (TabD fs d) d n [.fz 2 l, .o 2 acc, .v (.int .i64 i)]) (af := a145) (z := [.v (.string ByteArray.empty), .v (.string ByteArray.empty)]) rfl rfl (fun d => a145q ..) (by omega) (by decide) (fun d n acc => ?_) (fun pre x post res ha hp k => ?_)
  · rw [l145x0s]
    simp -implicitDefEqProofs only [rdl, Ex.same, Nat.beq, Int.lt_irrefl, decide_false]
  · have hwx := wt_mid (pre := pre) (x := x) (post := post)
    have hwr := wrap_succ hp hl.1
    subst ha
    have h := hl.mid
    have h' := h
    obtain ⟨sa0, sa1, rfl, pa0, pa1⟩ := I269 h
    simp only [l145x0s]
    simp -implicitDefEqProofs only [rdl, Ex.same, Nat.beq, mid_lt, mid_lt', dec_nn, look_mid, hwr, Bool.and_self]
    simp only [wtRow, wtD] at hwx
    refine ev_call (f206 (by assumption) (by first | omega | (simp only [wtRow, wtD]; omega))) ?_
    simp -implicitDefEqProofs only [rdl, Ex.same, Nat.beq, mid_lt, mid_lt', dec_nn, hwr, Bool.and_self]
    simp only [setD_mid, List.set_cons_zero, List.set_cons_succ]
    exact k
/- loop.example/g00119/laws.toIsland -/
theorem f78 {row : Row} (h : ShL E (E 66) row) (hw : wtRow row ≤ 1048576) : Ev fs 78 [.g row] ⟨.g row, []⟩ := by
  obtain ⟨sa0, la1, la2, na3, rfl, pa0, pa1, pa2, pa3⟩ := I66 h
  simp only [wtRow, wtD] at hw
  refine Ev.of (af := a78) rfl rfl (Evt.congr (fun d n => a78q ..) ?_)
  refine ev_call (f145 (by assumption) (by first | omega | (simp only [wtRow, wtD]; omega))) ?_
  simp -implicitDefEqProofs only [rdl, Ex.same, Nat.beq]
  refine ev_call (f37 (by assumption) (by first | omega | (simp only [wtRow, wtD]; omega))) ?_
  simp -implicitDefEqProofs only [rdl, Ex.same, Nat.beq]
  exact Evt.ret
/- loop.example/g00119/laws.toPost -/
theorem f115 {row : Row} (h : ShL E (E 177) row) (hw : wtRow row ≤ 1048576) : Ev fs 115 [.g row] ⟨.g row, []⟩ := by
  obtain ⟨sa0, la1, la2, na3, na4, na5, rfl, pa0, pa1, pa2, pa3, pa4, pa5⟩ := I177 h
  simp only [wtRow, wtD] at hw
  refine Ev.of (af := a115) rfl rfl (Evt.congr (fun d n => a115q ..) ?_)
  refine ev_call (f78 (by rw [E66]; exact mk_s (by assumption) (mk_sl W269 (by assumption) (mk_sl W9 (by assumption) (mk_i (by assumption) (ShL.nil))))) (by first | omega | (simp only [wtRow, wtD]; omega))) ?_
  simp -implicitDefEqProofs only [rdl, Ex.same, Nat.beq]
  exact Evt.ret
/- loop.example/g00119/laws.toPostS -/
theorem f50 {l : Rows} (hl : SL E 177 l) (hw : l.length + wtRows l ≤ 1048576) : Ev fs 50 [.d (.s 6 l)] ⟨.d (.s 6 l), []⟩ := by
  refine to_rows (fun d n acc i => l50x0 (TabD fs d) d n [.fz 6 l, .o 6 acc, .v (.int .i64 i)]) (af := a50) (z := [.v (.string ByteArray.empty), .s 2 [], .s 1 [], .v (.int .i64 0), .v (.int .i64 0), .v (.int .i64 0)]) rfl rfl (fun d => a50q ..) (by omega) (by decide) (fun d n acc => ?_) (fun pre x post res ha hp k => ?_)
  · rw [l50x0s]
    simp -implicitDefEqProofs only [rdl, Ex.same, Nat.beq, Int.lt_irrefl, decide_false]
  · have hwx := wt_mid (pre := pre) (x := x) (post := post)
    have hwr := wrap_succ hp hl.1
    subst ha
    have h := hl.mid
    have h' := h
    obtain ⟨sa0, la1, la2, na3, na4, na5, rfl, pa0, pa1, pa2, pa3, pa4, pa5⟩ := I177 h
    simp only [l50x0s]
    simp -implicitDefEqProofs only [rdl, Ex.same, Nat.beq, mid_lt, mid_lt', dec_nn, look_mid, hwr, Bool.and_self]
    simp only [wtRow, wtD] at hwx
    refine ev_call (f115 (by assumption) (by first | omega | (simp only [wtRow, wtD]; omega))) ?_
    simp -implicitDefEqProofs only [rdl, Ex.same, Nat.beq, mid_lt, mid_lt', dec_nn, hwr, Bool.and_self]
    simp only [setD_mid, List.set_cons_zero, List.set_cons_succ]
    exact k
/- loop.example/g00119/laws.toHold -/
theorem f116 {row : Row} (h : ShL E (E 180) row) (hw : wtRow row ≤ 1048576) : Ev fs 116 [.g row] ⟨.g row, []⟩ := by
  obtain ⟨na0, sa1, na2, na3, na4, rfl, pa0, pa1, pa2, pa3, pa4⟩ := I180 h
  simp only [wtRow, wtD] at hw
  refine Ev.of (af := a116) rfl rfl (Evt.congr (fun d n => a116q ..) ?_)
  exact Evt.ret
/- loop.example/g00119/laws.toHoldS -/
theorem f51 {l : Rows} (hl : SL E 180 l) (hw : l.length + wtRows l ≤ 1048576) : Ev fs 51 [.d (.s 5 l)] ⟨.d (.s 5 l), []⟩ := by
  refine to_rows (fun d n acc i => l51x0 (TabD fs d) d n [.fz 5 l, .o 5 acc, .v (.int .i64 i)]) (af := a51) (z := [.v (.int .i64 0), .v (.string ByteArray.empty), .v (.int .i64 0), .v (.int .i64 0), .v (.int .i64 0)]) rfl rfl (fun d => a51q ..) (by omega) (by decide) (fun d n acc => ?_) (fun pre x post res ha hp k => ?_)
  · rw [l51x0s]
    simp -implicitDefEqProofs only [rdl, Ex.same, Nat.beq, Int.lt_irrefl, decide_false]
  · have hwx := wt_mid (pre := pre) (x := x) (post := post)
    have hwr := wrap_succ hp hl.1
    subst ha
    have h := hl.mid
    have h' := h
    obtain ⟨na0, sa1, na2, na3, na4, rfl, pa0, pa1, pa2, pa3, pa4⟩ := I180 h
    simp only [l51x0s]
    simp -implicitDefEqProofs only [rdl, Ex.same, Nat.beq, mid_lt, mid_lt', dec_nn, look_mid, hwr, Bool.and_self]
    simp only [wtRow, wtD] at hwx
    refine ev_call (f116 (by assumption) (by first | omega | (simp only [wtRow, wtD]; omega))) ?_
    simp -implicitDefEqProofs only [rdl, Ex.same, Nat.beq, mid_lt, mid_lt', dec_nn, hwr, Bool.and_self]
    simp only [setD_mid, List.set_cons_zero, List.set_cons_succ]
    exact k
/- loop.example/g00119/laws.toHub -/
theorem f14 {row : Row} (h : ShL E (E 27) row) (hw : wtRow row ≤ 1048576) : Ev fs 14 [.g row] ⟨.g row, []⟩ := by
  obtain ⟨na0, na1, na2, la3, la4, la5, la6, rfl, pa0, pa1, pa2, pa3, pa4, pa5, pa6⟩ := I27 h
  simp only [wtRow, wtD] at hw
  refine Ev.of (af := a14) rfl rfl (Evt.congr (fun d n => a14q ..) ?_)
  refine ev_call (f49 (by assumption) (by first | omega | (simp only [wtRow, wtD]; omega))) ?_
  simp -implicitDefEqProofs only [rdl, Ex.same, Nat.beq]
  refine ev_call (f50 (by assumption) (by first | omega | (simp only [wtRow, wtD]; omega))) ?_
  simp -implicitDefEqProofs only [rdl, Ex.same, Nat.beq]
  refine ev_call (f51 (by assumption) (by first | omega | (simp only [wtRow, wtD]; omega))) ?_
  simp -implicitDefEqProofs only [rdl, Ex.same, Nat.beq]
  refine ev_call (f37 (by assumption) (by first | omega | (simp only [wtRow, wtD]; omega))) ?_
  simp -implicitDefEqProofs only [rdl, Ex.same, Nat.beq]
  exact Evt.ret
end Go.Am.Lk
