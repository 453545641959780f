/- The table, and the shapes of the types. Nothing is assumed. -/
import Derived.Test.YtmgeoejefnablaaDoorPvT0
import Derived.Test.YtmgeoejefnablaaDoorAmG
import Derived.Test.YtmgeoejefnablaaDoorProg
namespace Go.Am.Pv
set_option linter.unusedVariables false
set_option linter.unusedSimpArgs false
set_option maxRecDepth 8000
def fs : Fns := ⟨[(51, a51), (80, a80), (50, a50), (81, a81), (45, a45), (19, a19), (54, a54), (55, a55), (27, a27), (64, a64), (86, a86), (65, a65), (87, a87), (66, a66), (67, a67), (34, a34), (11, a11), (59, a59), (58, a58), (102, a102), (82, a82), (46, a46), (20, a20), (68, a68), (69, a69), (71, a71), (89, a89), (70, a70), (31, a31), (72, a72), (35, a35), (73, a73), (36, a36), (12, a12), (37, a37), (38, a38), (13, a13), (75, a75), (39, a39), (40, a40), (14, a14), (41, a41), (42, a42), (15, a15), (4, a4)], fun _ fn is => ((((natF 92 fReplace fn is).or (natF 74 fJoin fn is)).or (natF 88 fCut fn is)).or (natF 91 fTrim fn is)).or (natF 90 fAny fn is)⟩
@[irreducible] noncomputable def E : TypeId → List Sh := shE Go.Proofs.Tryd.prog
theorem E9 : E 9 = [.s] := by kernel_rfl
theorem W9 : (E 9).length = 1 := by rw [E9]; rfl
theorem E35 : E 35 = [.sl 9] := by kernel_rfl
theorem W35 : (E 35).length = 1 := by rw [E35]; rfl
theorem E36 : E 36 = [.sl 38] := by kernel_rfl
theorem W36 : (E 36).length = 1 := by rw [E36]; rfl
theorem E38 : E 38 = [.i .i64, .s, .i .i64, .sl 9, .sl 38] := by kernel_rfl
theorem W38 : (E 38).length = 5 := by rw [E38]; rfl
theorem I9 {r : Row} (h : ShL E (E 9) r) : ∃ (s0 : ByteArray), r = [.v (.string s0)] ∧ s0.size ≤ maxLen := by
  rw [E9] at h
  obtain ⟨s0, r0, rfl, p0, h0⟩ := inv_s h
  cases inv_nil h0
  exact ⟨s0, rfl, p0⟩
theorem I35 {r : Row} (h : ShL E (E 35) r) : ∃ (l0 : Rows), r = [.s 1 l0] ∧ SL E 9 l0 := by
  rw [E35] at h
  obtain ⟨l0, r0, rfl, p0, h0⟩ := inv_sl W9 h
  cases inv_nil h0
  exact ⟨l0, rfl, p0⟩
theorem I36 {r : Row} (h : ShL E (E 36) r) : ∃ (l0 : Rows), r = [.s 5 l0] ∧ SL E 38 l0 := by
  rw [E36] at h
  obtain ⟨l0, r0, rfl, p0, h0⟩ := inv_sl W38 h
  cases inv_nil h0
  exact ⟨l0, rfl, p0⟩
theorem I38 {r : Row} (h : ShL E (E 38) r) : ∃ (n0 : Int) (s1 : ByteArray) (n2 : Int) (l3 : Rows) (l4 : Rows), r = [.v (.int .i64 n0), .v (.string s1), .v (.int .i64 n2), .s 1 l3, .s 5 l4] ∧ (IntKind.i64.min ≤ n0 ∧ n0 ≤ IntKind.i64.max) ∧ s1.size ≤ maxLen ∧ (IntKind.i64.min ≤ n2 ∧ n2 ≤ IntKind.i64.max) ∧ SL E 9 l3 ∧ SL E 38 l4 := by
  rw [E38] at h
  obtain ⟨n0, r0, rfl, p0, h0⟩ := inv_i h
  obtain ⟨s1, r1, rfl, p1, h1⟩ := inv_s h0
  obtain ⟨n2, r2, rfl, p2, h2⟩ := inv_i h1
  obtain ⟨l3, r3, rfl, p3, h3⟩ := inv_sl W9 h2
  obtain ⟨l4, r4, rfl, p4, h4⟩ := inv_sl W38 h3
  cases inv_nil h4
  exact ⟨n0, s1, n2, l3, l4, rfl, p0, p1, p2, p3, p4⟩
end Go.Am.Pv
