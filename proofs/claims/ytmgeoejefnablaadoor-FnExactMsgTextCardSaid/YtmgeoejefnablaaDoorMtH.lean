/- The table, and the shapes of the types. Nothing is assumed. -/
import Derived.Test.YtmgeoejefnablaaDoorMtT0
import Derived.Test.YtmgeoejefnablaaDoorAmG
import Derived.Test.YtmgeoejefnablaaDoorProg
namespace Go.Am.Mt
set_option linter.unusedVariables false
set_option linter.unusedSimpArgs false
set_option maxRecDepth 8000
def fs : Fns := ⟨[(103, a103), (104, a104), (83, a83), (49, a49), (23, a23), (24, a24), (6, a6), (51, a51), (50, a50), (52, a52), (80, a80), (81, a81), (45, a45), (19, a19), (53, a53), (25, a25), (26, a26), (54, a54), (55, a55), (27, a27), (7, a7), (105, a105), (106, a106), (84, a84), (56, a56), (28, a28), (57, a57), (29, a29), (8, a8), (59, a59), (58, a58), (102, a102), (82, a82), (46, a46), (20, a20), (31, a31), (73, a73), (36, a36), (18, a18), (85, a85), (60, a60), (61, a61), (30, a30), (9, a9), (37, a37), (38, a38), (13, a13), (62, a62), (32, a32), (63, a63), (33, a33), (10, a10), (3, a3)], fun _ fn is => (natF 92 fReplace fn is).or (natF 74 fJoin fn is)⟩
@[irreducible] noncomputable def E : TypeId → List Sh := shE Go.Proofs.Tryd.prog
theorem E9 : E 9 = [.s] := by kernel_rfl
theorem W9 : (E 9).length = 1 := by rw [E9]; rfl
theorem E22 : E 22 = [.sl 83] := by kernel_rfl
theorem W22 : (E 22).length = 1 := by rw [E22]; rfl
theorem E23 : E 23 = [.sl 90] := by kernel_rfl
theorem W23 : (E 23).length = 1 := by rw [E23]; rfl
theorem E25 : E 25 = [.i .i64, .s, .i .i64, .sl 83, .sl 90] := by kernel_rfl
theorem W25 : (E 25).length = 5 := by rw [E25]; rfl
theorem E28 : E 28 = [.sl 57] := by kernel_rfl
theorem W28 : (E 28).length = 1 := by rw [E28]; rfl
theorem E29 : E 29 = [.sl 55] := by kernel_rfl
theorem W29 : (E 29).length = 1 := by rw [E29]; rfl
theorem E31 : E 31 = [.i .i64, .s, .i .i64, .sl 57, .sl 55] := by kernel_rfl
theorem W31 : (E 31).length = 5 := by rw [E31]; rfl
theorem E35 : E 35 = [.sl 9] := by kernel_rfl
theorem W35 : (E 35).length = 1 := by rw [E35]; rfl
theorem E36 : E 36 = [.sl 38] := by kernel_rfl
theorem W36 : (E 36).length = 1 := by rw [E36]; rfl
theorem E38 : E 38 = [.i .i64, .s, .i .i64, .sl 9, .sl 38] := by kernel_rfl
theorem W38 : (E 38).length = 5 := by rw [E38]; rfl
theorem E55 : E 55 = [.i .i64, .i .i64] := by kernel_rfl
theorem W55 : (E 55).length = 2 := by rw [E55]; rfl
theorem E57 : E 57 = [.i .i64, .i .i64, .i .i64, .s, .i .i64, .sl 9, .sl 38] := by kernel_rfl
theorem W57 : (E 57).length = 7 := by rw [E57]; rfl
theorem E79 : E 79 = [.sl 81] := by kernel_rfl
theorem W79 : (E 79).length = 1 := by rw [E79]; rfl
theorem E81 : E 81 = [.i .i64, .s, .i .i64, .sl 9, .sl 81] := by kernel_rfl
theorem W81 : (E 81).length = 5 := by rw [E81]; rfl
theorem E83 : E 83 = [.i .i64, .i .i64, .i .i64, .s, .i .i64, .sl 9, .sl 81] := by kernel_rfl
theorem W83 : (E 83).length = 7 := by rw [E83]; rfl
theorem E90 : E 90 = [.i .i64, .i .i64] := by kernel_rfl
theorem W90 : (E 90).length = 2 := by rw [E90]; rfl
theorem I9 {r : Row} (h : ShL E (E 9) r) : ∃ (s0 : ByteArray), r = [.v (.string s0)] ∧ s0.size ≤ maxLen := by
  rw [E9] at h
  obtain ⟨s0, r0, rfl, p0, h0⟩ := inv_s h
  cases inv_nil h0
  exact ⟨s0, rfl, p0⟩
theorem I22 {r : Row} (h : ShL E (E 22) r) : ∃ (l0 : Rows), r = [.s 7 l0] ∧ SL E 83 l0 := by
  rw [E22] at h
  obtain ⟨l0, r0, rfl, p0, h0⟩ := inv_sl W83 h
  cases inv_nil h0
  exact ⟨l0, rfl, p0⟩
theorem I23 {r : Row} (h : ShL E (E 23) r) : ∃ (l0 : Rows), r = [.s 2 l0] ∧ SL E 90 l0 := by
  rw [E23] at h
  obtain ⟨l0, r0, rfl, p0, h0⟩ := inv_sl W90 h
  cases inv_nil h0
  exact ⟨l0, rfl, p0⟩
theorem I25 {r : Row} (h : ShL E (E 25) r) : ∃ (n0 : Int) (s1 : ByteArray) (n2 : Int) (l3 : Rows) (l4 : Rows), r = [.v (.int .i64 n0), .v (.string s1), .v (.int .i64 n2), .s 7 l3, .s 2 l4] ∧ (IntKind.i64.min ≤ n0 ∧ n0 ≤ IntKind.i64.max) ∧ s1.size ≤ maxLen ∧ (IntKind.i64.min ≤ n2 ∧ n2 ≤ IntKind.i64.max) ∧ SL E 83 l3 ∧ SL E 90 l4 := by
  rw [E25] at h
  obtain ⟨n0, r0, rfl, p0, h0⟩ := inv_i h
  obtain ⟨s1, r1, rfl, p1, h1⟩ := inv_s h0
  obtain ⟨n2, r2, rfl, p2, h2⟩ := inv_i h1
  obtain ⟨l3, r3, rfl, p3, h3⟩ := inv_sl W83 h2
  obtain ⟨l4, r4, rfl, p4, h4⟩ := inv_sl W90 h3
  cases inv_nil h4
  exact ⟨n0, s1, n2, l3, l4, rfl, p0, p1, p2, p3, p4⟩
theorem I28 {r : Row} (h : ShL E (E 28) r) : ∃ (l0 : Rows), r = [.s 7 l0] ∧ SL E 57 l0 := by
  rw [E28] at h
  obtain ⟨l0, r0, rfl, p0, h0⟩ := inv_sl W57 h
  cases inv_nil h0
  exact ⟨l0, rfl, p0⟩
theorem I29 {r : Row} (h : ShL E (E 29) r) : ∃ (l0 : Rows), r = [.s 2 l0] ∧ SL E 55 l0 := by
  rw [E29] at h
  obtain ⟨l0, r0, rfl, p0, h0⟩ := inv_sl W55 h
  cases inv_nil h0
  exact ⟨l0, rfl, p0⟩
theorem I31 {r : Row} (h : ShL E (E 31) r) : ∃ (n0 : Int) (s1 : ByteArray) (n2 : Int) (l3 : Rows) (l4 : Rows), r = [.v (.int .i64 n0), .v (.string s1), .v (.int .i64 n2), .s 7 l3, .s 2 l4] ∧ (IntKind.i64.min ≤ n0 ∧ n0 ≤ IntKind.i64.max) ∧ s1.size ≤ maxLen ∧ (IntKind.i64.min ≤ n2 ∧ n2 ≤ IntKind.i64.max) ∧ SL E 57 l3 ∧ SL E 55 l4 := by
  rw [E31] at h
  obtain ⟨n0, r0, rfl, p0, h0⟩ := inv_i h
  obtain ⟨s1, r1, rfl, p1, h1⟩ := inv_s h0
  obtain ⟨n2, r2, rfl, p2, h2⟩ := inv_i h1
  obtain ⟨l3, r3, rfl, p3, h3⟩ := inv_sl W57 h2
  obtain ⟨l4, r4, rfl, p4, h4⟩ := inv_sl W55 h3
  cases inv_nil h4
  exact ⟨n0, s1, n2, l3, l4, rfl, p0, p1, p2, p3, p4⟩
theorem I35 {r : Row} (h : ShL E (E 35) r) : ∃ (l0 : Rows), r = [.s 1 l0] ∧ SL E 9 l0 := by
  rw [E35] at h
  obtain ⟨l0, r0, rfl, p0, h0⟩ := inv_sl W9 h
  cases inv_nil h0
  exact ⟨l0, rfl, p0⟩
theorem I36 {r : Row} (h : ShL E (E 36) r) : ∃ (l0 : Rows), r = [.s 5 l0] ∧ SL E 38 l0 := by
  rw [E36] at h
  obtain ⟨l0, r0, rfl, p0, h0⟩ := inv_sl W38 h
  cases inv_nil h0
  exact ⟨l0, rfl, p0⟩
theorem I38 {r : Row} (h : ShL E (E 38) r) : ∃ (n0 : Int) (s1 : ByteArray) (n2 : Int) (l3 : Rows) (l4 : Rows), r = [.v (.int .i64 n0), .v (.string s1), .v (.int .i64 n2), .s 1 l3, .s 5 l4] ∧ (IntKind.i64.min ≤ n0 ∧ n0 ≤ IntKind.i64.max) ∧ s1.size ≤ maxLen ∧ (IntKind.i64.min ≤ n2 ∧ n2 ≤ IntKind.i64.max) ∧ SL E 9 l3 ∧ SL E 38 l4 := by
  rw [E38] at h
  obtain ⟨n0, r0, rfl, p0, h0⟩ := inv_i h
  obtain ⟨s1, r1, rfl, p1, h1⟩ := inv_s h0
  obtain ⟨n2, r2, rfl, p2, h2⟩ := inv_i h1
  obtain ⟨l3, r3, rfl, p3, h3⟩ := inv_sl W9 h2
  obtain ⟨l4, r4, rfl, p4, h4⟩ := inv_sl W38 h3
  cases inv_nil h4
  exact ⟨n0, s1, n2, l3, l4, rfl, p0, p1, p2, p3, p4⟩
theorem I55 {r : Row} (h : ShL E (E 55) r) : ∃ (n0 : Int) (n1 : Int), r = [.v (.int .i64 n0), .v (.int .i64 n1)] ∧ (IntKind.i64.min ≤ n0 ∧ n0 ≤ IntKind.i64.max) ∧ (IntKind.i64.min ≤ n1 ∧ n1 ≤ IntKind.i64.max) := by
  rw [E55] at h
  obtain ⟨n0, r0, rfl, p0, h0⟩ := inv_i h
  obtain ⟨n1, r1, rfl, p1, h1⟩ := inv_i h0
  cases inv_nil h1
  exact ⟨n0, n1, rfl, p0, p1⟩
theorem I57 {r : Row} (h : ShL E (E 57) r) : ∃ (n0 : Int) (n1 : Int) (n2 : Int) (s3 : ByteArray) (n4 : Int) (l5 : Rows) (l6 : Rows), r = [.v (.int .i64 n0), .v (.int .i64 n1), .v (.int .i64 n2), .v (.string s3), .v (.int .i64 n4), .s 1 l5, .s 5 l6] ∧ (IntKind.i64.min ≤ n0 ∧ n0 ≤ IntKind.i64.max) ∧ (IntKind.i64.min ≤ n1 ∧ n1 ≤ IntKind.i64.max) ∧ (IntKind.i64.min ≤ n2 ∧ n2 ≤ IntKind.i64.max) ∧ s3.size ≤ maxLen ∧ (IntKind.i64.min ≤ n4 ∧ n4 ≤ IntKind.i64.max) ∧ SL E 9 l5 ∧ SL E 38 l6 := by
  rw [E57] at h
  obtain ⟨n0, r0, rfl, p0, h0⟩ := inv_i h
  obtain ⟨n1, r1, rfl, p1, h1⟩ := inv_i h0
  obtain ⟨n2, r2, rfl, p2, h2⟩ := inv_i h1
  obtain ⟨s3, r3, rfl, p3, h3⟩ := inv_s h2
  obtain ⟨n4, r4, rfl, p4, h4⟩ := inv_i h3
  obtain ⟨l5, r5, rfl, p5, h5⟩ := inv_sl W9 h4
  obtain ⟨l6, r6, rfl, p6, h6⟩ := inv_sl W38 h5
  cases inv_nil h6
  exact ⟨n0, n1, n2, s3, n4, l5, l6, rfl, p0, p1, p2, p3, p4, p5, p6⟩
theorem I79 {r : Row} (h : ShL E (E 79) r) : ∃ (l0 : Rows), r = [.s 5 l0] ∧ SL E 81 l0 := by
  rw [E79] at h
  obtain ⟨l0, r0, rfl, p0, h0⟩ := inv_sl W81 h
  cases inv_nil h0
  exact ⟨l0, rfl, p0⟩
theorem I81 {r : Row} (h : ShL E (E 81) r) : ∃ (n0 : Int) (s1 : ByteArray) (n2 : Int) (l3 : Rows) (l4 : Rows), r = [.v (.int .i64 n0), .v (.string s1), .v (.int .i64 n2), .s 1 l3, .s 5 l4] ∧ (IntKind.i64.min ≤ n0 ∧ n0 ≤ IntKind.i64.max) ∧ s1.size ≤ maxLen ∧ (IntKind.i64.min ≤ n2 ∧ n2 ≤ IntKind.i64.max) ∧ SL E 9 l3 ∧ SL E 81 l4 := by
  rw [E81] at h
  obtain ⟨n0, r0, rfl, p0, h0⟩ := inv_i h
  obtain ⟨s1, r1, rfl, p1, h1⟩ := inv_s h0
  obtain ⟨n2, r2, rfl, p2, h2⟩ := inv_i h1
  obtain ⟨l3, r3, rfl, p3, h3⟩ := inv_sl W9 h2
  obtain ⟨l4, r4, rfl, p4, h4⟩ := inv_sl W81 h3
  cases inv_nil h4
  exact ⟨n0, s1, n2, l3, l4, rfl, p0, p1, p2, p3, p4⟩
theorem I83 {r : Row} (h : ShL E (E 83) r) : ∃ (n0 : Int) (n1 : Int) (n2 : Int) (s3 : ByteArray) (n4 : Int) (l5 : Rows) (l6 : Rows), r = [.v (.int .i64 n0), .v (.int .i64 n1), .v (.int .i64 n2), .v (.string s3), .v (.int .i64 n4), .s 1 l5, .s 5 l6] ∧ (IntKind.i64.min ≤ n0 ∧ n0 ≤ IntKind.i64.max) ∧ (IntKind.i64.min ≤ n1 ∧ n1 ≤ IntKind.i64.max) ∧ (IntKind.i64.min ≤ n2 ∧ n2 ≤ IntKind.i64.max) ∧ s3.size ≤ maxLen ∧ (IntKind.i64.min ≤ n4 ∧ n4 ≤ IntKind.i64.max) ∧ SL E 9 l5 ∧ SL E 81 l6 := by
  rw [E83] at h
  obtain ⟨n0, r0, rfl, p0, h0⟩ := inv_i h
  obtain ⟨n1, r1, rfl, p1, h1⟩ := inv_i h0
  obtain ⟨n2, r2, rfl, p2, h2⟩ := inv_i h1
  obtain ⟨s3, r3, rfl, p3, h3⟩ := inv_s h2
  obtain ⟨n4, r4, rfl, p4, h4⟩ := inv_i h3
  obtain ⟨l5, r5, rfl, p5, h5⟩ := inv_sl W9 h4
  obtain ⟨l6, r6, rfl, p6, h6⟩ := inv_sl W81 h5
  cases inv_nil h6
  exact ⟨n0, n1, n2, s3, n4, l5, l6, rfl, p0, p1, p2, p3, p4, p5, p6⟩
theorem I90 {r : Row} (h : ShL E (E 90) r) : ∃ (n0 : Int) (n1 : Int), r = [.v (.int .i64 n0), .v (.int .i64 n1)] ∧ (IntKind.i64.min ≤ n0 ∧ n0 ≤ IntKind.i64.max) ∧ (IntKind.i64.min ≤ n1 ∧ n1 ≤ IntKind.i64.max) := by
  rw [E90] at h
  obtain ⟨n0, r0, rfl, p0, h0⟩ := inv_i h
  obtain ⟨n1, r1, rfl, p1, h1⟩ := inv_i h0
  cases inv_nil h1
  exact ⟨n0, n1, rfl, p0, p1⟩
end Go.Am.Mt
