/- The table, and the shapes of the types. Nothing is assumed. -/
import Derived.Test.YtmgeoejefnablaaGreatDoorPmT1
import Derived.Test.YtmgeoejefnablaaGreatDoorAmG
import Derived.Test.YtmgeoejefnablaaGreatDoorProg
namespace Go.Am.Pm
set_option linter.unusedVariables false
set_option linter.unusedSimpArgs false
set_option maxRecDepth 8000
def fs : Fns := ⟨[(25, a25), (24, a24), (54, a54), (26, a26), (132, D0k), (107, a107), (79, a79), (51, a51), (27, a27), (9, a9), (18, a18), (80, a80), (52, a52), (19, a19), (7, a7), (58, a58), (31, a31), (88, a88), (89, a89), (91, a91), (122, D0n), (90, a90), (92, a92), (59, a59), (32, a32), (10, a10), (21, a21), (20, a20), (22, a22), (112, D0o), (113, D0p), (82, a82), (53, a53), (23, a23), (8, a8), (33, a33), (34, a34), (93, a93), (125, D0q), (94, a94), (126, D0r), (95, a95), (96, a96), (60, a60), (97, a97), (98, a98), (61, a61), (35, a35), (62, a62), (36, a36), (12, a12), (127, a127), (128, D0s), (99, a99), (63, a63), (37, a37), (64, a64), (38, a38), (13, a13), (65, a65), (66, a66), (67, a67), (39, a39), (40, a40), (14, a14), (68, a68), (69, a69), (41, a41), (42, a42), (15, a15), (4, a4)], fun _ fn is => (((((((J6 108 V4 fn is).or (J6 81 A4j fn is)).or (J6 121 A9e fn is)).or (J6 124 A4k fn is)).or (J6 123 A9f fn is)).or (J6 28 A1k fn is)).or (J6 30 A4l fn is)).or (J6 29 A9g fn is)⟩
@[irreducible] noncomputable def E : TypeId → List Sh := shE Go.Proofs.Tryz.prog
theorem E9 : E 9 = [.s] := by kernel_rfl
theorem W9 : (E 9).length = 1 := by rw [E9]; rfl
theorem E27 : E 27 = [.i .i64, .s, .i .i64, .sl 48, .sl 42] := by kernel_rfl
theorem E42 : E 42 = [.i .i64, .i .i64] := by kernel_rfl
theorem W42 : (E 42).length = 2 := by rw [E42]; rfl
theorem E46 : E 46 = [.i .i64, .s, .i .i64, .sl 9, .sl 46] := by kernel_rfl
theorem W46 : (E 46).length = 5 := by rw [E46]; rfl
theorem E48 : E 48 = [.i .i64, .i .i64, .i .i64, .s, .i .i64, .sl 9, .sl 46] := by kernel_rfl
theorem W48 : (E 48).length = 7 := by rw [E48]; rfl
theorem I9 {r : Row} (h : ShL E (E 9) r) : ∃ (s0 : ByteArray), r = [.v (.string s0)] ∧ s0.size ≤ maxLen := by
 rw [E9] at h
 obtain ⟨s0, r0, rfl, p0, h0⟩ := B9p h
 cases A7k h0
 exact ⟨s0, rfl, p0⟩
theorem I27 {r : Row} (h : ShL E (E 27) r) : ∃ (n0 : Int) (s1 : ByteArray) (n2 : Int) (l3 : Rows) (l4 : Rows), r = [.v (.int .i64 n0), .v (.string s1), .v (.int .i64 n2), .s 7 l3, .s 2 l4] ∧ (IntKind.i64.min ≤ n0 ∧ n0 ≤ IntKind.i64.max) ∧ s1.size ≤ maxLen ∧ (IntKind.i64.min ≤ n2 ∧ n2 ≤ IntKind.i64.max) ∧ SL E 48 l3 ∧ SL E 42 l4 := by
 rw [E27] at h
 obtain ⟨n0, r0, rfl, p0, h0⟩ := A69 h
 obtain ⟨s1, r1, rfl, p1, h1⟩ := B9p h0
 obtain ⟨n2, r2, rfl, p2, h2⟩ := A69 h1
 obtain ⟨l3, r3, rfl, p3, h3⟩ := A8e W48 h2
 obtain ⟨l4, r4, rfl, p4, h4⟩ := A8e W42 h3
 cases A7k h4
 exact ⟨n0, s1, n2, l3, l4, rfl, p0, p1, p2, p3, p4⟩
theorem I42 {r : Row} (h : ShL E (E 42) r) : ∃ (n0 : Int) (n1 : Int), r = [.v (.int .i64 n0), .v (.int .i64 n1)] ∧ (IntKind.i64.min ≤ n0 ∧ n0 ≤ IntKind.i64.max) ∧ (IntKind.i64.min ≤ n1 ∧ n1 ≤ IntKind.i64.max) := by
 rw [E42] at h
 obtain ⟨n0, r0, rfl, p0, h0⟩ := A69 h
 obtain ⟨n1, r1, rfl, p1, h1⟩ := A69 h0
 cases A7k h1
 exact ⟨n0, n1, rfl, p0, p1⟩
theorem I46 {r : Row} (h : ShL E (E 46) r) : ∃ (n0 : Int) (s1 : ByteArray) (n2 : Int) (l3 : Rows) (l4 : Rows), r = [.v (.int .i64 n0), .v (.string s1), .v (.int .i64 n2), .s 1 l3, .s 5 l4] ∧ (IntKind.i64.min ≤ n0 ∧ n0 ≤ IntKind.i64.max) ∧ s1.size ≤ maxLen ∧ (IntKind.i64.min ≤ n2 ∧ n2 ≤ IntKind.i64.max) ∧ SL E 9 l3 ∧ SL E 46 l4 := by
 rw [E46] at h
 obtain ⟨n0, r0, rfl, p0, h0⟩ := A69 h
 obtain ⟨s1, r1, rfl, p1, h1⟩ := B9p h0
 obtain ⟨n2, r2, rfl, p2, h2⟩ := A69 h1
 obtain ⟨l3, r3, rfl, p3, h3⟩ := A8e W9 h2
 obtain ⟨l4, r4, rfl, p4, h4⟩ := A8e W46 h3
 cases A7k h4
 exact ⟨n0, s1, n2, l3, l4, rfl, p0, p1, p2, p3, p4⟩
theorem I48 {r : Row} (h : ShL E (E 48) r) : ∃ (n0 : Int) (n1 : Int) (n2 : Int) (s3 : ByteArray) (n4 : Int) (l5 : Rows) (l6 : Rows), r = [.v (.int .i64 n0), .v (.int .i64 n1), .v (.int .i64 n2), .v (.string s3), .v (.int .i64 n4), .s 1 l5, .s 5 l6] ∧ (IntKind.i64.min ≤ n0 ∧ n0 ≤ IntKind.i64.max) ∧ (IntKind.i64.min ≤ n1 ∧ n1 ≤ IntKind.i64.max) ∧ (IntKind.i64.min ≤ n2 ∧ n2 ≤ IntKind.i64.max) ∧ s3.size ≤ maxLen ∧ (IntKind.i64.min ≤ n4 ∧ n4 ≤ IntKind.i64.max) ∧ SL E 9 l5 ∧ SL E 46 l6 := by
 rw [E48] at h
 obtain ⟨n0, r0, rfl, p0, h0⟩ := A69 h
 obtain ⟨n1, r1, rfl, p1, h1⟩ := A69 h0
 obtain ⟨n2, r2, rfl, p2, h2⟩ := A69 h1
 obtain ⟨s3, r3, rfl, p3, h3⟩ := B9p h2
 obtain ⟨n4, r4, rfl, p4, h4⟩ := A69 h3
 obtain ⟨l5, r5, rfl, p5, h5⟩ := A8e W9 h4
 obtain ⟨l6, r6, rfl, p6, h6⟩ := A8e W46 h5
 cases A7k h6
 exact ⟨n0, n1, n2, s3, n4, l5, l6, rfl, p0, p1, p2, p3, p4, p5, p6⟩
end Go.Am.Pm
