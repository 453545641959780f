/- The table, and the shapes of the types. Nothing is assumed. -/
import Derived.Test.YtefdfdkkbbehiaaGreatDoorPpT1
import Derived.Test.YtefdfdkkbbehiaaGreatDoorAmG
import Derived.Test.YtefdfdkkbbehiaaGreatDoorProg
namespace Go.Am.Pp
set_option linter.unusedVariables false
set_option linter.unusedSimpArgs false
set_option maxRecDepth 8000
def fs : Fns := ⟨[(46, a46), (110, a110), (78, a78), (111, a111), (73, a73), (40, a40), (79, a79), (47, a47), (48, a48), (17, a17), (19, a19), (87, a87), (88, a88), (53, a53), (118, a118), (144, a144), (119, a119), (145, a145), (120, a120), (121, a121), (86, a86), (52, a52), (20, a20), (21, a21), (5, a5), (80, a80), (49, a49), (43, a43), (44, a44), (15, a15), (81, a81), (84, a84), (115, a115), (77, a77), (45, a45), (16, a16), (116, a116), (82, a82), (143, a143), (117, a117), (85, a85), (83, a83), (51, a51), (50, a50), (18, a18), (105, a105), (106, a106), (69, a69), (37, a37), (12, a12), (57, a57), (126, a126), (127, a127), (129, a129), (152, a152), (128, a128), (130, a130), (94, a94), (58, a58), (24, a24), (6, a6), (59, a59), (95, a95), (60, a60), (25, a25), (7, a7), (27, a27), (26, a26), (28, a28), (8, a8), (29, a29), (30, a30), (9, a9), (3, a3)], fun _ fn is => (((((((natF 137 fReplace fn is).or (natF 36 fJoin fn is)).or (natF 151 fCut fn is)).or (natF 154 fTrim fn is)).or (natF 153 fAny fn is)).or (natF 22 fSplit fn is)).or (natF 56 fCut3 fn is)).or (natF 23 fSuf fn is)⟩
@[irreducible] noncomputable def E : TypeId → List Sh := shE Go.Proofs.Tryz.prog
theorem E9 : E 9 = [.s] := by kernel_rfl
theorem W9 : (E 9).length = 1 := by rw [E9]; rfl
theorem E33 : E 33 = [.i .i64, .s, .i .i64, .sl 9, .sl 33] := by kernel_rfl
theorem W33 : (E 33).length = 5 := by rw [E33]; rfl
theorem E44 : E 44 = [.i .i64, .sl 9, .i .i64, .s, .i .i64, .sl 9, .sl 33] := by kernel_rfl
theorem I9 {r : Row} (h : ShL E (E 9) r) : ∃ (s0 : ByteArray), r = [.v (.string s0)] ∧ s0.size ≤ maxLen := by
 rw [E9] at h
 obtain ⟨s0, r0, rfl, p0, h0⟩ := inv_s h
 cases inv_nil h0
 exact ⟨s0, rfl, p0⟩
theorem I33 {r : Row} (h : ShL E (E 33) r) : ∃ (n0 : Int) (s1 : ByteArray) (n2 : Int) (l3 : Rows) (l4 : Rows), r = [.v (.int .i64 n0), .v (.string s1), .v (.int .i64 n2), .s 1 l3, .s 5 l4] ∧ (IntKind.i64.min ≤ n0 ∧ n0 ≤ IntKind.i64.max) ∧ s1.size ≤ maxLen ∧ (IntKind.i64.min ≤ n2 ∧ n2 ≤ IntKind.i64.max) ∧ SL E 9 l3 ∧ SL E 33 l4 := by
 rw [E33] at h
 obtain ⟨n0, r0, rfl, p0, h0⟩ := inv_i h
 obtain ⟨s1, r1, rfl, p1, h1⟩ := inv_s h0
 obtain ⟨n2, r2, rfl, p2, h2⟩ := inv_i h1
 obtain ⟨l3, r3, rfl, p3, h3⟩ := inv_sl W9 h2
 obtain ⟨l4, r4, rfl, p4, h4⟩ := inv_sl W33 h3
 cases inv_nil h4
 exact ⟨n0, s1, n2, l3, l4, rfl, p0, p1, p2, p3, p4⟩
theorem I44 {r : Row} (h : ShL E (E 44) r) : ∃ (n0 : Int) (l1 : Rows) (n2 : Int) (s3 : ByteArray) (n4 : Int) (l5 : Rows) (l6 : Rows), r = [.v (.int .i64 n0), .s 1 l1, .v (.int .i64 n2), .v (.string s3), .v (.int .i64 n4), .s 1 l5, .s 5 l6] ∧ (IntKind.i64.min ≤ n0 ∧ n0 ≤ IntKind.i64.max) ∧ SL E 9 l1 ∧ (IntKind.i64.min ≤ n2 ∧ n2 ≤ IntKind.i64.max) ∧ s3.size ≤ maxLen ∧ (IntKind.i64.min ≤ n4 ∧ n4 ≤ IntKind.i64.max) ∧ SL E 9 l5 ∧ SL E 33 l6 := by
 rw [E44] at h
 obtain ⟨n0, r0, rfl, p0, h0⟩ := inv_i h
 obtain ⟨l1, r1, rfl, p1, h1⟩ := inv_sl W9 h0
 obtain ⟨n2, r2, rfl, p2, h2⟩ := inv_i h1
 obtain ⟨s3, r3, rfl, p3, h3⟩ := inv_s h2
 obtain ⟨n4, r4, rfl, p4, h4⟩ := inv_i h3
 obtain ⟨l5, r5, rfl, p5, h5⟩ := inv_sl W9 h4
 obtain ⟨l6, r6, rfl, p6, h6⟩ := inv_sl W33 h5
 cases inv_nil h6
 exact ⟨n0, l1, n2, s3, n4, l5, l6, rfl, p0, p1, p2, p3, p4, p5, p6⟩
end Go.Am.Pp
