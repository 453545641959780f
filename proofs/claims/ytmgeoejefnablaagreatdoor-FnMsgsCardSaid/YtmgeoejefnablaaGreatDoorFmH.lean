/- The table, and the shapes of the types. Nothing is assumed. -/
import Derived.Test.YtmgeoejefnablaaGreatDoorFmT1
import Derived.Test.YtmgeoejefnablaaGreatDoorAnG
import Derived.Test.YtmgeoejefnablaaGreatDoorProg
namespace Go.Am.Fm
variable {SK : Src}
set_option linter.unusedVariables false
set_option linter.unusedSimpArgs false
set_option maxRecDepth 8000
noncomputable def fs (SK : Src) : Fns := ⟨[(5, a5), (16, a16), (71, a71), (44, a44), (70, a70), (43, a43), (46, a46), (49, a49), (78, a78), (21, a21), (20, a20), (145, a145), (146, a146), (147, a147), (129, a129), (100, a100), (72, a72), (45, a45), (22, a22), (112, a112), (113, a113), (82, a82), (53, a53), (23, a23), (101, a101), (73, a73), (102, a102), (74, a74), (47, a47), (75, a75), (130, a130), (104, a104), (103, a103), (76, a76), (131, a131), (105, a105), (106, a106), (77, a77), (48, a48), (50, a50), (17, a17), (6, a6), (25, a25), (24, a24), (54, a54), (26, a26), (132, a132), (107, a107), (79, a79), (51, a51), (27, a27), (9, a9), (18, a18), (80, a80), (52, a52), (19, a19), (7, a7), (8, a8), (58, a58), (31, a31), (88, a88), (89, a89), (91, a91), (122, a122), (90, a90), (92, a92), (59, a59), (32, a32), (10, a10), (11, a11), (3, a3)], fun _ fn is => ((((((((natF 108 fReplace fn is).or (natF 81 fJoin fn is)).or (natF 121 fCut fn is)).or (natF 124 fTrim fn is)).or (natF 123 fAny fn is)).or (natF 28 fSplit fn is)).or (natF 30 fCut3 fn is)).or (natF 29 fSuf fn is)).or (natCode SK 71 fn is)⟩
@[irreducible] noncomputable def E : TypeId → List Sh := shE Go.Proofs.Tryz.prog
theorem E9 : E 9 = [.s] := by kernel_rfl
theorem W9 : (E 9).length = 1 := by rw [E9]; rfl
theorem E27 : E 27 = [.i .i64, .s, .i .i64, .sl 48, .sl 42] := by kernel_rfl
theorem E42 : E 42 = [.i .i64, .i .i64] := by kernel_rfl
theorem W42 : (E 42).length = 2 := by rw [E42]; rfl
theorem E46 : E 46 = [.i .i64, .s, .i .i64, .sl 9, .sl 46] := by kernel_rfl
theorem W46 : (E 46).length = 5 := by rw [E46]; rfl
theorem E48 : E 48 = [.i .i64, .i .i64, .i .i64, .s, .i .i64, .sl 9, .sl 46] := by kernel_rfl
theorem W48 : (E 48).length = 7 := by rw [E48]; rfl
theorem E75 : E 75 = [.s, .i .i64, .i .i64, .sl 48, .sl 42] := by kernel_rfl
theorem I9 {r : Row} (h : ShL E (E 9) r) : ∃ (s0 : ByteArray), r = [.v (.string s0)] ∧ s0.size ≤ maxLen := by
 rw [E9] at h
 obtain ⟨s0, r0, rfl, p0, h0⟩ := inv_s h
 cases inv_nil h0
 exact ⟨s0, rfl, p0⟩
theorem I27 {r : Row} (h : ShL E (E 27) r) : ∃ (n0 : Int) (s1 : ByteArray) (n2 : Int) (l3 : Rows) (l4 : Rows), r = [.v (.int .i64 n0), .v (.string s1), .v (.int .i64 n2), .s 7 l3, .s 2 l4] ∧ (IntKind.i64.min ≤ n0 ∧ n0 ≤ IntKind.i64.max) ∧ s1.size ≤ maxLen ∧ (IntKind.i64.min ≤ n2 ∧ n2 ≤ IntKind.i64.max) ∧ SL E 48 l3 ∧ SL E 42 l4 := by
 rw [E27] at h
 obtain ⟨n0, r0, rfl, p0, h0⟩ := inv_i h
 obtain ⟨s1, r1, rfl, p1, h1⟩ := inv_s h0
 obtain ⟨n2, r2, rfl, p2, h2⟩ := inv_i h1
 obtain ⟨l3, r3, rfl, p3, h3⟩ := inv_sl W48 h2
 obtain ⟨l4, r4, rfl, p4, h4⟩ := inv_sl W42 h3
 cases inv_nil h4
 exact ⟨n0, s1, n2, l3, l4, rfl, p0, p1, p2, p3, p4⟩
theorem I42 {r : Row} (h : ShL E (E 42) r) : ∃ (n0 : Int) (n1 : Int), r = [.v (.int .i64 n0), .v (.int .i64 n1)] ∧ (IntKind.i64.min ≤ n0 ∧ n0 ≤ IntKind.i64.max) ∧ (IntKind.i64.min ≤ n1 ∧ n1 ≤ IntKind.i64.max) := by
 rw [E42] at h
 obtain ⟨n0, r0, rfl, p0, h0⟩ := inv_i h
 obtain ⟨n1, r1, rfl, p1, h1⟩ := inv_i h0
 cases inv_nil h1
 exact ⟨n0, n1, rfl, p0, p1⟩
theorem I46 {r : Row} (h : ShL E (E 46) r) : ∃ (n0 : Int) (s1 : ByteArray) (n2 : Int) (l3 : Rows) (l4 : Rows), r = [.v (.int .i64 n0), .v (.string s1), .v (.int .i64 n2), .s 1 l3, .s 5 l4] ∧ (IntKind.i64.min ≤ n0 ∧ n0 ≤ IntKind.i64.max) ∧ s1.size ≤ maxLen ∧ (IntKind.i64.min ≤ n2 ∧ n2 ≤ IntKind.i64.max) ∧ SL E 9 l3 ∧ SL E 46 l4 := by
 rw [E46] at h
 obtain ⟨n0, r0, rfl, p0, h0⟩ := inv_i h
 obtain ⟨s1, r1, rfl, p1, h1⟩ := inv_s h0
 obtain ⟨n2, r2, rfl, p2, h2⟩ := inv_i h1
 obtain ⟨l3, r3, rfl, p3, h3⟩ := inv_sl W9 h2
 obtain ⟨l4, r4, rfl, p4, h4⟩ := inv_sl W46 h3
 cases inv_nil h4
 exact ⟨n0, s1, n2, l3, l4, rfl, p0, p1, p2, p3, p4⟩
theorem I48 {r : Row} (h : ShL E (E 48) r) : ∃ (n0 : Int) (n1 : Int) (n2 : Int) (s3 : ByteArray) (n4 : Int) (l5 : Rows) (l6 : Rows), r = [.v (.int .i64 n0), .v (.int .i64 n1), .v (.int .i64 n2), .v (.string s3), .v (.int .i64 n4), .s 1 l5, .s 5 l6] ∧ (IntKind.i64.min ≤ n0 ∧ n0 ≤ IntKind.i64.max) ∧ (IntKind.i64.min ≤ n1 ∧ n1 ≤ IntKind.i64.max) ∧ (IntKind.i64.min ≤ n2 ∧ n2 ≤ IntKind.i64.max) ∧ s3.size ≤ maxLen ∧ (IntKind.i64.min ≤ n4 ∧ n4 ≤ IntKind.i64.max) ∧ SL E 9 l5 ∧ SL E 46 l6 := by
 rw [E48] at h
 obtain ⟨n0, r0, rfl, p0, h0⟩ := inv_i h
 obtain ⟨n1, r1, rfl, p1, h1⟩ := inv_i h0
 obtain ⟨n2, r2, rfl, p2, h2⟩ := inv_i h1
 obtain ⟨s3, r3, rfl, p3, h3⟩ := inv_s h2
 obtain ⟨n4, r4, rfl, p4, h4⟩ := inv_i h3
 obtain ⟨l5, r5, rfl, p5, h5⟩ := inv_sl W9 h4
 obtain ⟨l6, r6, rfl, p6, h6⟩ := inv_sl W46 h5
 cases inv_nil h6
 exact ⟨n0, n1, n2, s3, n4, l5, l6, rfl, p0, p1, p2, p3, p4, p5, p6⟩
theorem I75 {r : Row} (h : ShL E (E 75) r) : ∃ (s0 : ByteArray) (n1 : Int) (n2 : Int) (l3 : Rows) (l4 : Rows), r = [.v (.string s0), .v (.int .i64 n1), .v (.int .i64 n2), .s 7 l3, .s 2 l4] ∧ s0.size ≤ maxLen ∧ (IntKind.i64.min ≤ n1 ∧ n1 ≤ IntKind.i64.max) ∧ (IntKind.i64.min ≤ n2 ∧ n2 ≤ IntKind.i64.max) ∧ SL E 48 l3 ∧ SL E 42 l4 := by
 rw [E75] at h
 obtain ⟨s0, r0, rfl, p0, h0⟩ := inv_s h
 obtain ⟨n1, r1, rfl, p1, h1⟩ := inv_i h0
 obtain ⟨n2, r2, rfl, p2, h2⟩ := inv_i h1
 obtain ⟨l3, r3, rfl, p3, h3⟩ := inv_sl W48 h2
 obtain ⟨l4, r4, rfl, p4, h4⟩ := inv_sl W42 h3
 cases inv_nil h4
 exact ⟨s0, n1, n2, l3, l4, rfl, p0, p1, p2, p3, p4⟩
end Go.Am.Fm
