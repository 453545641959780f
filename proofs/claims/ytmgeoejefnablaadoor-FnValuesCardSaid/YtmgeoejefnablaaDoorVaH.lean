/- The table, and the shapes of the types. Nothing is assumed. -/
import Derived.Test.YtmgeoejefnablaaDoorVaT0
import Derived.Test.YtmgeoejefnablaaDoorAmG
import Derived.Test.YtmgeoejefnablaaDoorProg
namespace Go.Am.Va
variable {SK : Src}
set_option linter.unusedVariables false
set_option linter.unusedSimpArgs false
set_option maxRecDepth 8000
noncomputable def fs (SK : Src) : Fns := ⟨[(59, a59), (58, a58), (102, a102), (82, a82), (46, a46), (20, a20), (68, a68), (69, a69), (71, a71), (89, a89), (70, a70), (31, a31), (72, a72), (35, a35), (73, a73), (36, a36), (12, a12), (16, a16), (43, a43), (101, a101), (79, a79), (96, a96), (97, a97), (51, a51), (50, a50), (128, a128), (129, a129), (130, a130), (116, a116), (117, a117), (98, a98), (76, a76), (77, a77), (99, a99), (100, a100), (78, a78), (44, a44), (17, a17), (18, a18), (80, a80), (81, a81), (45, a45), (19, a19), (21, a21), (47, a47), (48, a48), (22, a22), (5, a5)], fun _ fn is => (((((natF 92 fReplace fn is).or (natF 74 fJoin fn is)).or (natF 88 fCut fn is)).or (natF 91 fTrim fn is)).or (natF 90 fAny fn is)).or (natCode SK 101 fn is)⟩
@[irreducible] noncomputable def E : TypeId → List Sh := shE Go.Proofs.Tryd.prog
theorem E5 : E 5 = [.i .u8] := by kernel_rfl
theorem W5 : (E 5).length = 1 := by rw [E5]; rfl
theorem E9 : E 9 = [.s] := by kernel_rfl
theorem W9 : (E 9).length = 1 := by rw [E9]; rfl
theorem E35 : E 35 = [.sl 9] := by kernel_rfl
theorem W35 : (E 35).length = 1 := by rw [E35]; rfl
theorem E36 : E 36 = [.sl 38] := by kernel_rfl
theorem W36 : (E 36).length = 1 := by rw [E36]; rfl
theorem E38 : E 38 = [.i .i64, .s, .i .i64, .sl 9, .sl 38] := by kernel_rfl
theorem W38 : (E 38).length = 5 := by rw [E38]; rfl
theorem E44 : E 44 = [.sl 5] := by kernel_rfl
theorem W44 : (E 44).length = 1 := by rw [E44]; rfl
theorem I5 {r : Row} (h : ShL E (E 5) r) : ∃ (n0 : Int), r = [.v (.int .u8 n0)] ∧ (IntKind.u8.min ≤ n0 ∧ n0 ≤ IntKind.u8.max) := by
  rw [E5] at h
  obtain ⟨n0, r0, rfl, p0, h0⟩ := inv_i h
  cases inv_nil h0
  exact ⟨n0, rfl, p0⟩
theorem I9 {r : Row} (h : ShL E (E 9) r) : ∃ (s0 : ByteArray), r = [.v (.string s0)] ∧ s0.size ≤ maxLen := by
  rw [E9] at h
  obtain ⟨s0, r0, rfl, p0, h0⟩ := inv_s h
  cases inv_nil h0
  exact ⟨s0, rfl, p0⟩
theorem I35 {r : Row} (h : ShL E (E 35) r) : ∃ (l0 : Rows), r = [.s 1 l0] ∧ SL E 9 l0 := by
  rw [E35] at h
  obtain ⟨l0, r0, rfl, p0, h0⟩ := inv_sl W9 h
  cases inv_nil h0
  exact ⟨l0, rfl, p0⟩
theorem I36 {r : Row} (h : ShL E (E 36) r) : ∃ (l0 : Rows), r = [.s 5 l0] ∧ SL E 38 l0 := by
  rw [E36] at h
  obtain ⟨l0, r0, rfl, p0, h0⟩ := inv_sl W38 h
  cases inv_nil h0
  exact ⟨l0, rfl, p0⟩
theorem I38 {r : Row} (h : ShL E (E 38) r) : ∃ (n0 : Int) (s1 : ByteArray) (n2 : Int) (l3 : Rows) (l4 : Rows), r = [.v (.int .i64 n0), .v (.string s1), .v (.int .i64 n2), .s 1 l3, .s 5 l4] ∧ (IntKind.i64.min ≤ n0 ∧ n0 ≤ IntKind.i64.max) ∧ s1.size ≤ maxLen ∧ (IntKind.i64.min ≤ n2 ∧ n2 ≤ IntKind.i64.max) ∧ SL E 9 l3 ∧ SL E 38 l4 := by
  rw [E38] at h
  obtain ⟨n0, r0, rfl, p0, h0⟩ := inv_i h
  obtain ⟨s1, r1, rfl, p1, h1⟩ := inv_s h0
  obtain ⟨n2, r2, rfl, p2, h2⟩ := inv_i h1
  obtain ⟨l3, r3, rfl, p3, h3⟩ := inv_sl W9 h2
  obtain ⟨l4, r4, rfl, p4, h4⟩ := inv_sl W38 h3
  cases inv_nil h4
  exact ⟨n0, s1, n2, l3, l4, rfl, p0, p1, p2, p3, p4⟩
theorem I44 {r : Row} (h : ShL E (E 44) r) : ∃ (l0 : Rows), r = [.s 1 l0] ∧ SL E 5 l0 := by
  rw [E44] at h
  obtain ⟨l0, r0, rfl, p0, h0⟩ := inv_sl W5 h
  cases inv_nil h0
  exact ⟨l0, rfl, p0⟩
end Go.Am.Va
