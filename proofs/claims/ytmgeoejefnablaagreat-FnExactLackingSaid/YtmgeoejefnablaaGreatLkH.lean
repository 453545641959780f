/- The table, and the shapes of the types. Nothing is assumed. -/
import Derived.Test.YtmgeoejefnablaaGreatLkT1
import Derived.Test.YtmgeoejefnablaaGreatAmD
import Derived.Test.YtmgeoejefnablaaGreatProg
namespace Go.Am.Lk
set_option linter.unusedVariables false
set_option linter.unusedSimpArgs false
set_option maxRecDepth 8000
def fs : Fns := ⟨[(31, a31), (193, a193), (128, a128), (194, a194), (129, a129), (62, a62), (130, a130), (63, a63), (234, a234), (195, a195), (131, a131), (64, a64), (111, a111), (44, a44), (196, a196), (132, a132), (65, a65), (112, a112), (45, a45), (113, a113), (46, a46), (12, a12), (47, a47), (48, a48), (13, a13), (37, a37), (203, a203), (141, a141), (204, a204), (142, a142), (75, a75), (143, a143), (76, a76), (239, a239), (205, a205), (144, a144), (77, a77), (114, a114), (49, a49), (206, a206), (145, a145), (78, a78), (115, a115), (50, a50), (116, a116), (51, a51), (14, a14), (52, a52), (233, a233), (187, a187), (181, a181), (228, a228), (182, a182), (191, a191), (118, a118), (229, a229), (230, a230), (183, a183), (256, a256), (232, a232), (231, a231), (184, a184), (185, a185), (186, a186), (188, a188), (189, a189), (117, a117), (53, a53), (54, a54), (15, a15), (16, a16), (43, a43), (215, a215), (157, a157), (216, a216), (158, a158), (89, a89), (159, a159), (90, a90), (248, a248), (217, a217), (160, a160), (91, a91), (119, a119), (55, a55), (218, a218), (161, a161), (92, a92), (120, a120), (56, a56), (121, a121), (57, a57), (17, a17), (122, a122), (61, a61), (123, a123), (124, a124), (125, a125), (192, a192), (126, a126), (58, a58), (127, a127), (59, a59), (60, a60), (18, a18), (19, a19), (20, a20), (4, a4)], fun _ _ _ => none⟩
@[irreducible] noncomputable def E : TypeId → List Sh := shE Go.Proofs.Tryz.prog
theorem E3 : E 3 = [.i .i64] := by kernel_rfl
theorem W3 : (E 3).length = 1 := by rw [E3]; rfl
theorem E9 : E 9 = [.s] := by kernel_rfl
theorem W9 : (E 9).length = 1 := by rw [E9]; rfl
theorem E22 : E 22 = [.sl 174] := by kernel_rfl
theorem W22 : (E 22).length = 1 := by rw [E22]; rfl
theorem E23 : E 23 = [.sl 177] := by kernel_rfl
theorem W23 : (E 23).length = 1 := by rw [E23]; rfl
theorem E24 : E 24 = [.sl 180] := by kernel_rfl
theorem W24 : (E 24).length = 1 := by rw [E24]; rfl
theorem E25 : E 25 = [.sl 9] := by kernel_rfl
theorem W25 : (E 25).length = 1 := by rw [E25]; rfl
theorem E27 : E 27 = [.i .i64, .i .i64, .i .i64, .sl 174, .sl 177, .sl 180, .sl 9] := by kernel_rfl
theorem W27 : (E 27).length = 7 := by rw [E27]; rfl
theorem E35 : E 35 = [.sl 113] := by kernel_rfl
theorem W35 : (E 35).length = 1 := by rw [E35]; rfl
theorem E36 : E 36 = [.sl 184] := by kernel_rfl
theorem W36 : (E 36).length = 1 := by rw [E36]; rfl
theorem E37 : E 37 = [.sl 181] := by kernel_rfl
theorem W37 : (E 37).length = 1 := by rw [E37]; rfl
theorem E39 : E 39 = [.i .i64, .i .i64, .i .i64, .sl 113, .sl 184, .sl 181, .sl 9] := by kernel_rfl
theorem W39 : (E 39).length = 7 := by rw [E39]; rfl
theorem E48 : E 48 = [.sl 3] := by kernel_rfl
theorem W48 : (E 48).length = 1 := by rw [E48]; rfl
theorem E56 : E 56 = [.sl 264] := by kernel_rfl
theorem W56 : (E 56).length = 1 := by rw [E56]; rfl
theorem E57 : E 57 = [.sl 266] := by kernel_rfl
theorem W57 : (E 57).length = 1 := by rw [E57]; rfl
theorem E59 : E 59 = [.i .i64, .sl 264, .sl 9, .sl 266] := by kernel_rfl
theorem W59 : (E 59).length = 4 := by rw [E59]; rfl
theorem E60 : E 60 = [.sl 62] := by kernel_rfl
theorem W60 : (E 60).length = 1 := by rw [E60]; rfl
theorem E62 : E 62 = [.i .i64, .s, .i .i64, .sl 9, .sl 62] := by kernel_rfl
theorem W62 : (E 62).length = 5 := by rw [E62]; rfl
theorem E63 : E 63 = [.sl 205] := by kernel_rfl
theorem W63 : (E 63).length = 1 := by rw [E63]; rfl
theorem E64 : E 64 = [.sl 269] := by kernel_rfl
theorem W64 : (E 64).length = 1 := by rw [E64]; rfl
theorem E66 : E 66 = [.s, .sl 269, .sl 9, .i .i64] := by kernel_rfl
theorem W66 : (E 66).length = 4 := by rw [E66]; rfl
theorem E72 : E 72 = [.sl 259] := by kernel_rfl
theorem W72 : (E 72).length = 1 := by rw [E72]; rfl
theorem E73 : E 73 = [.sl 209] := by kernel_rfl
theorem W73 : (E 73).length = 1 := by rw [E73]; rfl
theorem E75 : E 75 = [.i .i64, .sl 259, .sl 9, .sl 209] := by kernel_rfl
theorem W75 : (E 75).length = 4 := by rw [E75]; rfl
theorem E76 : E 76 = [.sl 78] := by kernel_rfl
theorem W76 : (E 76).length = 1 := by rw [E76]; rfl
theorem E78 : E 78 = [.i .i64, .s, .i .i64, .sl 9, .sl 78] := by kernel_rfl
theorem W78 : (E 78).length = 5 := by rw [E78]; rfl
theorem E79 : E 79 = [.sl 216] := by kernel_rfl
theorem W79 : (E 79).length = 1 := by rw [E79]; rfl
theorem E80 : E 80 = [.sl 262] := by kernel_rfl
theorem W80 : (E 80).length = 1 := by rw [E80]; rfl
theorem E82 : E 82 = [.s, .sl 262, .sl 9, .i .i64] := by kernel_rfl
theorem W82 : (E 82).length = 4 := by rw [E82]; rfl
theorem E113 : E 113 = [.i .i64, .s, .i .i64, .sl 259, .sl 9, .sl 209, .i .i64, .s, .i .i64, .sl 9, .sl 78, .sl 216, .b] := by kernel_rfl
theorem W113 : (E 113).length = 13 := by rw [E113]; rfl
theorem E174 : E 174 = [.i .i64, .s, .i .i64, .sl 264, .sl 9, .sl 266, .i .i64, .s, .i .i64, .sl 9, .sl 62, .sl 205, .b] := by kernel_rfl
theorem W174 : (E 174).length = 13 := by rw [E174]; rfl
theorem E177 : E 177 = [.s, .sl 269, .sl 9, .i .i64, .i .i64, .i .i64] := by kernel_rfl
theorem W177 : (E 177).length = 6 := by rw [E177]; rfl
theorem E180 : E 180 = [.i .i64, .s, .i .i64, .i .i64, .i .i64] := by kernel_rfl
theorem W180 : (E 180).length = 5 := by rw [E180]; rfl
theorem E181 : E 181 = [.i .i64, .s, .i .i64, .i .i64, .i .i64] := by kernel_rfl
theorem W181 : (E 181).length = 5 := by rw [E181]; rfl
theorem E184 : E 184 = [.s, .sl 262, .sl 9, .i .i64, .i .i64, .i .i64] := by kernel_rfl
theorem W184 : (E 184).length = 6 := by rw [E184]; rfl
theorem E203 : E 203 = [.sl 304] := by kernel_rfl
theorem W203 : (E 203).length = 1 := by rw [E203]; rfl
theorem E205 : E 205 = [.s, .sl 304] := by kernel_rfl
theorem W205 : (E 205).length = 2 := by rw [E205]; rfl
theorem E209 : E 209 = [.s, .i .i64] := by kernel_rfl
theorem W209 : (E 209).length = 2 := by rw [E209]; rfl
theorem E214 : E 214 = [.sl 276] := by kernel_rfl
theorem W214 : (E 214).length = 1 := by rw [E214]; rfl
theorem E216 : E 216 = [.s, .sl 276] := by kernel_rfl
theorem W216 : (E 216).length = 2 := by rw [E216]; rfl
theorem E259 : E 259 = [.i .i64, .s, .sl 9] := by kernel_rfl
theorem W259 : (E 259).length = 3 := by rw [E259]; rfl
theorem E262 : E 262 = [.s, .s] := by kernel_rfl
theorem W262 : (E 262).length = 2 := by rw [E262]; rfl
theorem E264 : E 264 = [.i .i64, .s, .sl 9] := by kernel_rfl
theorem W264 : (E 264).length = 3 := by rw [E264]; rfl
theorem E266 : E 266 = [.s, .i .i64] := by kernel_rfl
theorem W266 : (E 266).length = 2 := by rw [E266]; rfl
theorem E269 : E 269 = [.s, .s] := by kernel_rfl
theorem W269 : (E 269).length = 2 := by rw [E269]; rfl
theorem E276 : E 276 = [.i .i64, .sl 9, .i .i64, .s, .i .i64, .sl 9, .sl 78] := by kernel_rfl
theorem W276 : (E 276).length = 7 := by rw [E276]; rfl
theorem E304 : E 304 = [.i .i64, .sl 9, .i .i64, .s, .i .i64, .sl 9, .sl 62] := by kernel_rfl
theorem W304 : (E 304).length = 7 := by rw [E304]; rfl
theorem I3 {r : Row} (h : ShL E (E 3) r) : ∃ (n0 : Int), r = [.v (.int .i64 n0)] ∧ (IntKind.i64.min ≤ n0 ∧ n0 ≤ IntKind.i64.max) := by
  rw [E3] at h
  obtain ⟨n0, r0, rfl, p0, h0⟩ := inv_i h
  cases inv_nil h0
  exact ⟨n0, rfl, p0⟩
theorem I9 {r : Row} (h : ShL E (E 9) r) : ∃ (s0 : ByteArray), r = [.v (.string s0)] ∧ s0.size ≤ maxLen := by
  rw [E9] at h
  obtain ⟨s0, r0, rfl, p0, h0⟩ := inv_s h
  cases inv_nil h0
  exact ⟨s0, rfl, p0⟩
theorem I22 {r : Row} (h : ShL E (E 22) r) : ∃ (l0 : Rows), r = [.s 13 l0] ∧ SL E 174 l0 := by
  rw [E22] at h
  obtain ⟨l0, r0, rfl, p0, h0⟩ := inv_sl W174 h
  cases inv_nil h0
  exact ⟨l0, rfl, p0⟩
theorem I23 {r : Row} (h : ShL E (E 23) r) : ∃ (l0 : Rows), r = [.s 6 l0] ∧ SL E 177 l0 := by
  rw [E23] at h
  obtain ⟨l0, r0, rfl, p0, h0⟩ := inv_sl W177 h
  cases inv_nil h0
  exact ⟨l0, rfl, p0⟩
theorem I24 {r : Row} (h : ShL E (E 24) r) : ∃ (l0 : Rows), r = [.s 5 l0] ∧ SL E 180 l0 := by
  rw [E24] at h
  obtain ⟨l0, r0, rfl, p0, h0⟩ := inv_sl W180 h
  cases inv_nil h0
  exact ⟨l0, rfl, p0⟩
theorem I25 {r : Row} (h : ShL E (E 25) r) : ∃ (l0 : Rows), r = [.s 1 l0] ∧ SL E 9 l0 := by
  rw [E25] at h
  obtain ⟨l0, r0, rfl, p0, h0⟩ := inv_sl W9 h
  cases inv_nil h0
  exact ⟨l0, rfl, p0⟩
theorem I27 {r : Row} (h : ShL E (E 27) r) : ∃ (n0 : Int) (n1 : Int) (n2 : Int) (l3 : Rows) (l4 : Rows) (l5 : Rows) (l6 : Rows), r = [.v (.int .i64 n0), .v (.int .i64 n1), .v (.int .i64 n2), .s 13 l3, .s 6 l4, .s 5 l5, .s 1 l6] ∧ (IntKind.i64.min ≤ n0 ∧ n0 ≤ IntKind.i64.max) ∧ (IntKind.i64.min ≤ n1 ∧ n1 ≤ IntKind.i64.max) ∧ (IntKind.i64.min ≤ n2 ∧ n2 ≤ IntKind.i64.max) ∧ SL E 174 l3 ∧ SL E 177 l4 ∧ SL E 180 l5 ∧ SL E 9 l6 := by
  rw [E27] at h
  obtain ⟨n0, r0, rfl, p0, h0⟩ := inv_i h
  obtain ⟨n1, r1, rfl, p1, h1⟩ := inv_i h0
  obtain ⟨n2, r2, rfl, p2, h2⟩ := inv_i h1
  obtain ⟨l3, r3, rfl, p3, h3⟩ := inv_sl W174 h2
  obtain ⟨l4, r4, rfl, p4, h4⟩ := inv_sl W177 h3
  obtain ⟨l5, r5, rfl, p5, h5⟩ := inv_sl W180 h4
  obtain ⟨l6, r6, rfl, p6, h6⟩ := inv_sl W9 h5
  cases inv_nil h6
  exact ⟨n0, n1, n2, l3, l4, l5, l6, rfl, p0, p1, p2, p3, p4, p5, p6⟩
theorem I35 {r : Row} (h : ShL E (E 35) r) : ∃ (l0 : Rows), r = [.s 13 l0] ∧ SL E 113 l0 := by
  rw [E35] at h
  obtain ⟨l0, r0, rfl, p0, h0⟩ := inv_sl W113 h
  cases inv_nil h0
  exact ⟨l0, rfl, p0⟩
theorem I36 {r : Row} (h : ShL E (E 36) r) : ∃ (l0 : Rows), r = [.s 6 l0] ∧ SL E 184 l0 := by
  rw [E36] at h
  obtain ⟨l0, r0, rfl, p0, h0⟩ := inv_sl W184 h
  cases inv_nil h0
  exact ⟨l0, rfl, p0⟩
theorem I37 {r : Row} (h : ShL E (E 37) r) : ∃ (l0 : Rows), r = [.s 5 l0] ∧ SL E 181 l0 := by
  rw [E37] at h
  obtain ⟨l0, r0, rfl, p0, h0⟩ := inv_sl W181 h
  cases inv_nil h0
  exact ⟨l0, rfl, p0⟩
theorem I39 {r : Row} (h : ShL E (E 39) r) : ∃ (n0 : Int) (n1 : Int) (n2 : Int) (l3 : Rows) (l4 : Rows) (l5 : Rows) (l6 : Rows), r = [.v (.int .i64 n0), .v (.int .i64 n1), .v (.int .i64 n2), .s 13 l3, .s 6 l4, .s 5 l5, .s 1 l6] ∧ (IntKind.i64.min ≤ n0 ∧ n0 ≤ IntKind.i64.max) ∧ (IntKind.i64.min ≤ n1 ∧ n1 ≤ IntKind.i64.max) ∧ (IntKind.i64.min ≤ n2 ∧ n2 ≤ IntKind.i64.max) ∧ SL E 113 l3 ∧ SL E 184 l4 ∧ SL E 181 l5 ∧ SL E 9 l6 := by
  rw [E39] at h
  obtain ⟨n0, r0, rfl, p0, h0⟩ := inv_i h
  obtain ⟨n1, r1, rfl, p1, h1⟩ := inv_i h0
  obtain ⟨n2, r2, rfl, p2, h2⟩ := inv_i h1
  obtain ⟨l3, r3, rfl, p3, h3⟩ := inv_sl W113 h2
  obtain ⟨l4, r4, rfl, p4, h4⟩ := inv_sl W184 h3
  obtain ⟨l5, r5, rfl, p5, h5⟩ := inv_sl W181 h4
  obtain ⟨l6, r6, rfl, p6, h6⟩ := inv_sl W9 h5
  cases inv_nil h6
  exact ⟨n0, n1, n2, l3, l4, l5, l6, rfl, p0, p1, p2, p3, p4, p5, p6⟩
theorem I48 {r : Row} (h : ShL E (E 48) r) : ∃ (l0 : Rows), r = [.s 1 l0] ∧ SL E 3 l0 := by
  rw [E48] at h
  obtain ⟨l0, r0, rfl, p0, h0⟩ := inv_sl W3 h
  cases inv_nil h0
  exact ⟨l0, rfl, p0⟩
theorem I56 {r : Row} (h : ShL E (E 56) r) : ∃ (l0 : Rows), r = [.s 3 l0] ∧ SL E 264 l0 := by
  rw [E56] at h
  obtain ⟨l0, r0, rfl, p0, h0⟩ := inv_sl W264 h
  cases inv_nil h0
  exact ⟨l0, rfl, p0⟩
theorem I57 {r : Row} (h : ShL E (E 57) r) : ∃ (l0 : Rows), r = [.s 2 l0] ∧ SL E 266 l0 := by
  rw [E57] at h
  obtain ⟨l0, r0, rfl, p0, h0⟩ := inv_sl W266 h
  cases inv_nil h0
  exact ⟨l0, rfl, p0⟩
theorem I59 {r : Row} (h : ShL E (E 59) r) : ∃ (n0 : Int) (l1 : Rows) (l2 : Rows) (l3 : Rows), r = [.v (.int .i64 n0), .s 3 l1, .s 1 l2, .s 2 l3] ∧ (IntKind.i64.min ≤ n0 ∧ n0 ≤ IntKind.i64.max) ∧ SL E 264 l1 ∧ SL E 9 l2 ∧ SL E 266 l3 := by
  rw [E59] at h
  obtain ⟨n0, r0, rfl, p0, h0⟩ := inv_i h
  obtain ⟨l1, r1, rfl, p1, h1⟩ := inv_sl W264 h0
  obtain ⟨l2, r2, rfl, p2, h2⟩ := inv_sl W9 h1
  obtain ⟨l3, r3, rfl, p3, h3⟩ := inv_sl W266 h2
  cases inv_nil h3
  exact ⟨n0, l1, l2, l3, rfl, p0, p1, p2, p3⟩
theorem I60 {r : Row} (h : ShL E (E 60) r) : ∃ (l0 : Rows), r = [.s 5 l0] ∧ SL E 62 l0 := by
  rw [E60] at h
  obtain ⟨l0, r0, rfl, p0, h0⟩ := inv_sl W62 h
  cases inv_nil h0
  exact ⟨l0, rfl, p0⟩
theorem I62 {r : Row} (h : ShL E (E 62) r) : ∃ (n0 : Int) (s1 : ByteArray) (n2 : Int) (l3 : Rows) (l4 : Rows), r = [.v (.int .i64 n0), .v (.string s1), .v (.int .i64 n2), .s 1 l3, .s 5 l4] ∧ (IntKind.i64.min ≤ n0 ∧ n0 ≤ IntKind.i64.max) ∧ s1.size ≤ maxLen ∧ (IntKind.i64.min ≤ n2 ∧ n2 ≤ IntKind.i64.max) ∧ SL E 9 l3 ∧ SL E 62 l4 := by
  rw [E62] at h
  obtain ⟨n0, r0, rfl, p0, h0⟩ := inv_i h
  obtain ⟨s1, r1, rfl, p1, h1⟩ := inv_s h0
  obtain ⟨n2, r2, rfl, p2, h2⟩ := inv_i h1
  obtain ⟨l3, r3, rfl, p3, h3⟩ := inv_sl W9 h2
  obtain ⟨l4, r4, rfl, p4, h4⟩ := inv_sl W62 h3
  cases inv_nil h4
  exact ⟨n0, s1, n2, l3, l4, rfl, p0, p1, p2, p3, p4⟩
theorem I63 {r : Row} (h : ShL E (E 63) r) : ∃ (l0 : Rows), r = [.s 2 l0] ∧ SL E 205 l0 := by
  rw [E63] at h
  obtain ⟨l0, r0, rfl, p0, h0⟩ := inv_sl W205 h
  cases inv_nil h0
  exact ⟨l0, rfl, p0⟩
theorem I64 {r : Row} (h : ShL E (E 64) r) : ∃ (l0 : Rows), r = [.s 2 l0] ∧ SL E 269 l0 := by
  rw [E64] at h
  obtain ⟨l0, r0, rfl, p0, h0⟩ := inv_sl W269 h
  cases inv_nil h0
  exact ⟨l0, rfl, p0⟩
theorem I66 {r : Row} (h : ShL E (E 66) r) : ∃ (s0 : ByteArray) (l1 : Rows) (l2 : Rows) (n3 : Int), r = [.v (.string s0), .s 2 l1, .s 1 l2, .v (.int .i64 n3)] ∧ s0.size ≤ maxLen ∧ SL E 269 l1 ∧ SL E 9 l2 ∧ (IntKind.i64.min ≤ n3 ∧ n3 ≤ IntKind.i64.max) := by
  rw [E66] at h
  obtain ⟨s0, r0, rfl, p0, h0⟩ := inv_s h
  obtain ⟨l1, r1, rfl, p1, h1⟩ := inv_sl W269 h0
  obtain ⟨l2, r2, rfl, p2, h2⟩ := inv_sl W9 h1
  obtain ⟨n3, r3, rfl, p3, h3⟩ := inv_i h2
  cases inv_nil h3
  exact ⟨s0, l1, l2, n3, rfl, p0, p1, p2, p3⟩
theorem I72 {r : Row} (h : ShL E (E 72) r) : ∃ (l0 : Rows), r = [.s 3 l0] ∧ SL E 259 l0 := by
  rw [E72] at h
  obtain ⟨l0, r0, rfl, p0, h0⟩ := inv_sl W259 h
  cases inv_nil h0
  exact ⟨l0, rfl, p0⟩
theorem I73 {r : Row} (h : ShL E (E 73) r) : ∃ (l0 : Rows), r = [.s 2 l0] ∧ SL E 209 l0 := by
  rw [E73] at h
  obtain ⟨l0, r0, rfl, p0, h0⟩ := inv_sl W209 h
  cases inv_nil h0
  exact ⟨l0, rfl, p0⟩
theorem I75 {r : Row} (h : ShL E (E 75) r) : ∃ (n0 : Int) (l1 : Rows) (l2 : Rows) (l3 : Rows), r = [.v (.int .i64 n0), .s 3 l1, .s 1 l2, .s 2 l3] ∧ (IntKind.i64.min ≤ n0 ∧ n0 ≤ IntKind.i64.max) ∧ SL E 259 l1 ∧ SL E 9 l2 ∧ SL E 209 l3 := by
  rw [E75] at h
  obtain ⟨n0, r0, rfl, p0, h0⟩ := inv_i h
  obtain ⟨l1, r1, rfl, p1, h1⟩ := inv_sl W259 h0
  obtain ⟨l2, r2, rfl, p2, h2⟩ := inv_sl W9 h1
  obtain ⟨l3, r3, rfl, p3, h3⟩ := inv_sl W209 h2
  cases inv_nil h3
  exact ⟨n0, l1, l2, l3, rfl, p0, p1, p2, p3⟩
theorem I76 {r : Row} (h : ShL E (E 76) r) : ∃ (l0 : Rows), r = [.s 5 l0] ∧ SL E 78 l0 := by
  rw [E76] at h
  obtain ⟨l0, r0, rfl, p0, h0⟩ := inv_sl W78 h
  cases inv_nil h0
  exact ⟨l0, rfl, p0⟩
theorem I78 {r : Row} (h : ShL E (E 78) r) : ∃ (n0 : Int) (s1 : ByteArray) (n2 : Int) (l3 : Rows) (l4 : Rows), r = [.v (.int .i64 n0), .v (.string s1), .v (.int .i64 n2), .s 1 l3, .s 5 l4] ∧ (IntKind.i64.min ≤ n0 ∧ n0 ≤ IntKind.i64.max) ∧ s1.size ≤ maxLen ∧ (IntKind.i64.min ≤ n2 ∧ n2 ≤ IntKind.i64.max) ∧ SL E 9 l3 ∧ SL E 78 l4 := by
  rw [E78] at h
  obtain ⟨n0, r0, rfl, p0, h0⟩ := inv_i h
  obtain ⟨s1, r1, rfl, p1, h1⟩ := inv_s h0
  obtain ⟨n2, r2, rfl, p2, h2⟩ := inv_i h1
  obtain ⟨l3, r3, rfl, p3, h3⟩ := inv_sl W9 h2
  obtain ⟨l4, r4, rfl, p4, h4⟩ := inv_sl W78 h3
  cases inv_nil h4
  exact ⟨n0, s1, n2, l3, l4, rfl, p0, p1, p2, p3, p4⟩
theorem I79 {r : Row} (h : ShL E (E 79) r) : ∃ (l0 : Rows), r = [.s 2 l0] ∧ SL E 216 l0 := by
  rw [E79] at h
  obtain ⟨l0, r0, rfl, p0, h0⟩ := inv_sl W216 h
  cases inv_nil h0
  exact ⟨l0, rfl, p0⟩
theorem I80 {r : Row} (h : ShL E (E 80) r) : ∃ (l0 : Rows), r = [.s 2 l0] ∧ SL E 262 l0 := by
  rw [E80] at h
  obtain ⟨l0, r0, rfl, p0, h0⟩ := inv_sl W262 h
  cases inv_nil h0
  exact ⟨l0, rfl, p0⟩
theorem I82 {r : Row} (h : ShL E (E 82) r) : ∃ (s0 : ByteArray) (l1 : Rows) (l2 : Rows) (n3 : Int), r = [.v (.string s0), .s 2 l1, .s 1 l2, .v (.int .i64 n3)] ∧ s0.size ≤ maxLen ∧ SL E 262 l1 ∧ SL E 9 l2 ∧ (IntKind.i64.min ≤ n3 ∧ n3 ≤ IntKind.i64.max) := by
  rw [E82] at h
  obtain ⟨s0, r0, rfl, p0, h0⟩ := inv_s h
  obtain ⟨l1, r1, rfl, p1, h1⟩ := inv_sl W262 h0
  obtain ⟨l2, r2, rfl, p2, h2⟩ := inv_sl W9 h1
  obtain ⟨n3, r3, rfl, p3, h3⟩ := inv_i h2
  cases inv_nil h3
  exact ⟨s0, l1, l2, n3, rfl, p0, p1, p2, p3⟩
theorem I113 {r : Row} (h : ShL E (E 113) r) : ∃ (n0 : Int) (s1 : ByteArray) (n2 : Int) (l3 : Rows) (l4 : Rows) (l5 : Rows) (n6 : Int) (s7 : ByteArray) (n8 : Int) (l9 : Rows) (l10 : Rows) (l11 : Rows) (b12 : Bool), r = [.v (.int .i64 n0), .v (.string s1), .v (.int .i64 n2), .s 3 l3, .s 1 l4, .s 2 l5, .v (.int .i64 n6), .v (.string s7), .v (.int .i64 n8), .s 1 l9, .s 5 l10, .s 2 l11, .v (.bool b12)] ∧ (IntKind.i64.min ≤ n0 ∧ n0 ≤ IntKind.i64.max) ∧ s1.size ≤ maxLen ∧ (IntKind.i64.min ≤ n2 ∧ n2 ≤ IntKind.i64.max) ∧ SL E 259 l3 ∧ SL E 9 l4 ∧ SL E 209 l5 ∧ (IntKind.i64.min ≤ n6 ∧ n6 ≤ IntKind.i64.max) ∧ s7.size ≤ maxLen ∧ (IntKind.i64.min ≤ n8 ∧ n8 ≤ IntKind.i64.max) ∧ SL E 9 l9 ∧ SL E 78 l10 ∧ SL E 216 l11 := by
  rw [E113] at h
  obtain ⟨n0, r0, rfl, p0, h0⟩ := inv_i h
  obtain ⟨s1, r1, rfl, p1, h1⟩ := inv_s h0
  obtain ⟨n2, r2, rfl, p2, h2⟩ := inv_i h1
  obtain ⟨l3, r3, rfl, p3, h3⟩ := inv_sl W259 h2
  obtain ⟨l4, r4, rfl, p4, h4⟩ := inv_sl W9 h3
  obtain ⟨l5, r5, rfl, p5, h5⟩ := inv_sl W209 h4
  obtain ⟨n6, r6, rfl, p6, h6⟩ := inv_i h5
  obtain ⟨s7, r7, rfl, p7, h7⟩ := inv_s h6
  obtain ⟨n8, r8, rfl, p8, h8⟩ := inv_i h7
  obtain ⟨l9, r9, rfl, p9, h9⟩ := inv_sl W9 h8
  obtain ⟨l10, r10, rfl, p10, h10⟩ := inv_sl W78 h9
  obtain ⟨l11, r11, rfl, p11, h11⟩ := inv_sl W216 h10
  obtain ⟨b12, r12, rfl, h12⟩ := inv_b h11
  cases inv_nil h12
  exact ⟨n0, s1, n2, l3, l4, l5, n6, s7, n8, l9, l10, l11, b12, rfl, p0, p1, p2, p3, p4, p5, p6, p7, p8, p9, p10, p11⟩
theorem I174 {r : Row} (h : ShL E (E 174) r) : ∃ (n0 : Int) (s1 : ByteArray) (n2 : Int) (l3 : Rows) (l4 : Rows) (l5 : Rows) (n6 : Int) (s7 : ByteArray) (n8 : Int) (l9 : Rows) (l10 : Rows) (l11 : Rows) (b12 : Bool), r = [.v (.int .i64 n0), .v (.string s1), .v (.int .i64 n2), .s 3 l3, .s 1 l4, .s 2 l5, .v (.int .i64 n6), .v (.string s7), .v (.int .i64 n8), .s 1 l9, .s 5 l10, .s 2 l11, .v (.bool b12)] ∧ (IntKind.i64.min ≤ n0 ∧ n0 ≤ IntKind.i64.max) ∧ s1.size ≤ maxLen ∧ (IntKind.i64.min ≤ n2 ∧ n2 ≤ IntKind.i64.max) ∧ SL E 264 l3 ∧ SL E 9 l4 ∧ SL E 266 l5 ∧ (IntKind.i64.min ≤ n6 ∧ n6 ≤ IntKind.i64.max) ∧ s7.size ≤ maxLen ∧ (IntKind.i64.min ≤ n8 ∧ n8 ≤ IntKind.i64.max) ∧ SL E 9 l9 ∧ SL E 62 l10 ∧ SL E 205 l11 := by
  rw [E174] at h
  obtain ⟨n0, r0, rfl, p0, h0⟩ := inv_i h
  obtain ⟨s1, r1, rfl, p1, h1⟩ := inv_s h0
  obtain ⟨n2, r2, rfl, p2, h2⟩ := inv_i h1
  obtain ⟨l3, r3, rfl, p3, h3⟩ := inv_sl W264 h2
  obtain ⟨l4, r4, rfl, p4, h4⟩ := inv_sl W9 h3
  obtain ⟨l5, r5, rfl, p5, h5⟩ := inv_sl W266 h4
  obtain ⟨n6, r6, rfl, p6, h6⟩ := inv_i h5
  obtain ⟨s7, r7, rfl, p7, h7⟩ := inv_s h6
  obtain ⟨n8, r8, rfl, p8, h8⟩ := inv_i h7
  obtain ⟨l9, r9, rfl, p9, h9⟩ := inv_sl W9 h8
  obtain ⟨l10, r10, rfl, p10, h10⟩ := inv_sl W62 h9
  obtain ⟨l11, r11, rfl, p11, h11⟩ := inv_sl W205 h10
  obtain ⟨b12, r12, rfl, h12⟩ := inv_b h11
  cases inv_nil h12
  exact ⟨n0, s1, n2, l3, l4, l5, n6, s7, n8, l9, l10, l11, b12, rfl, p0, p1, p2, p3, p4, p5, p6, p7, p8, p9, p10, p11⟩
theorem I177 {r : Row} (h : ShL E (E 177) r) : ∃ (s0 : ByteArray) (l1 : Rows) (l2 : Rows) (n3 : Int) (n4 : Int) (n5 : Int), r = [.v (.string s0), .s 2 l1, .s 1 l2, .v (.int .i64 n3), .v (.int .i64 n4), .v (.int .i64 n5)] ∧ s0.size ≤ maxLen ∧ SL E 269 l1 ∧ SL E 9 l2 ∧ (IntKind.i64.min ≤ n3 ∧ n3 ≤ IntKind.i64.max) ∧ (IntKind.i64.min ≤ n4 ∧ n4 ≤ IntKind.i64.max) ∧ (IntKind.i64.min ≤ n5 ∧ n5 ≤ IntKind.i64.max) := by
  rw [E177] at h
  obtain ⟨s0, r0, rfl, p0, h0⟩ := inv_s h
  obtain ⟨l1, r1, rfl, p1, h1⟩ := inv_sl W269 h0
  obtain ⟨l2, r2, rfl, p2, h2⟩ := inv_sl W9 h1
  obtain ⟨n3, r3, rfl, p3, h3⟩ := inv_i h2
  obtain ⟨n4, r4, rfl, p4, h4⟩ := inv_i h3
  obtain ⟨n5, r5, rfl, p5, h5⟩ := inv_i h4
  cases inv_nil h5
  exact ⟨s0, l1, l2, n3, n4, n5, rfl, p0, p1, p2, p3, p4, p5⟩
theorem I180 {r : Row} (h : ShL E (E 180) r) : ∃ (n0 : Int) (s1 : ByteArray) (n2 : Int) (n3 : Int) (n4 : Int), r = [.v (.int .i64 n0), .v (.string s1), .v (.int .i64 n2), .v (.int .i64 n3), .v (.int .i64 n4)] ∧ (IntKind.i64.min ≤ n0 ∧ n0 ≤ IntKind.i64.max) ∧ s1.size ≤ maxLen ∧ (IntKind.i64.min ≤ n2 ∧ n2 ≤ IntKind.i64.max) ∧ (IntKind.i64.min ≤ n3 ∧ n3 ≤ IntKind.i64.max) ∧ (IntKind.i64.min ≤ n4 ∧ n4 ≤ IntKind.i64.max) := by
  rw [E180] at h
  obtain ⟨n0, r0, rfl, p0, h0⟩ := inv_i h
  obtain ⟨s1, r1, rfl, p1, h1⟩ := inv_s h0
  obtain ⟨n2, r2, rfl, p2, h2⟩ := inv_i h1
  obtain ⟨n3, r3, rfl, p3, h3⟩ := inv_i h2
  obtain ⟨n4, r4, rfl, p4, h4⟩ := inv_i h3
  cases inv_nil h4
  exact ⟨n0, s1, n2, n3, n4, rfl, p0, p1, p2, p3, p4⟩
theorem I181 {r : Row} (h : ShL E (E 181) r) : ∃ (n0 : Int) (s1 : ByteArray) (n2 : Int) (n3 : Int) (n4 : Int), r = [.v (.int .i64 n0), .v (.string s1), .v (.int .i64 n2), .v (.int .i64 n3), .v (.int .i64 n4)] ∧ (IntKind.i64.min ≤ n0 ∧ n0 ≤ IntKind.i64.max) ∧ s1.size ≤ maxLen ∧ (IntKind.i64.min ≤ n2 ∧ n2 ≤ IntKind.i64.max) ∧ (IntKind.i64.min ≤ n3 ∧ n3 ≤ IntKind.i64.max) ∧ (IntKind.i64.min ≤ n4 ∧ n4 ≤ IntKind.i64.max) := by
  rw [E181] at h
  obtain ⟨n0, r0, rfl, p0, h0⟩ := inv_i h
  obtain ⟨s1, r1, rfl, p1, h1⟩ := inv_s h0
  obtain ⟨n2, r2, rfl, p2, h2⟩ := inv_i h1
  obtain ⟨n3, r3, rfl, p3, h3⟩ := inv_i h2
  obtain ⟨n4, r4, rfl, p4, h4⟩ := inv_i h3
  cases inv_nil h4
  exact ⟨n0, s1, n2, n3, n4, rfl, p0, p1, p2, p3, p4⟩
theorem I184 {r : Row} (h : ShL E (E 184) r) : ∃ (s0 : ByteArray) (l1 : Rows) (l2 : Rows) (n3 : Int) (n4 : Int) (n5 : Int), r = [.v (.string s0), .s 2 l1, .s 1 l2, .v (.int .i64 n3), .v (.int .i64 n4), .v (.int .i64 n5)] ∧ s0.size ≤ maxLen ∧ SL E 262 l1 ∧ SL E 9 l2 ∧ (IntKind.i64.min ≤ n3 ∧ n3 ≤ IntKind.i64.max) ∧ (IntKind.i64.min ≤ n4 ∧ n4 ≤ IntKind.i64.max) ∧ (IntKind.i64.min ≤ n5 ∧ n5 ≤ IntKind.i64.max) := by
  rw [E184] at h
  obtain ⟨s0, r0, rfl, p0, h0⟩ := inv_s h
  obtain ⟨l1, r1, rfl, p1, h1⟩ := inv_sl W262 h0
  obtain ⟨l2, r2, rfl, p2, h2⟩ := inv_sl W9 h1
  obtain ⟨n3, r3, rfl, p3, h3⟩ := inv_i h2
  obtain ⟨n4, r4, rfl, p4, h4⟩ := inv_i h3
  obtain ⟨n5, r5, rfl, p5, h5⟩ := inv_i h4
  cases inv_nil h5
  exact ⟨s0, l1, l2, n3, n4, n5, rfl, p0, p1, p2, p3, p4, p5⟩
theorem I203 {r : Row} (h : ShL E (E 203) r) : ∃ (l0 : Rows), r = [.s 7 l0] ∧ SL E 304 l0 := by
  rw [E203] at h
  obtain ⟨l0, r0, rfl, p0, h0⟩ := inv_sl W304 h
  cases inv_nil h0
  exact ⟨l0, rfl, p0⟩
theorem I205 {r : Row} (h : ShL E (E 205) r) : ∃ (s0 : ByteArray) (l1 : Rows), r = [.v (.string s0), .s 7 l1] ∧ s0.size ≤ maxLen ∧ SL E 304 l1 := by
  rw [E205] at h
  obtain ⟨s0, r0, rfl, p0, h0⟩ := inv_s h
  obtain ⟨l1, r1, rfl, p1, h1⟩ := inv_sl W304 h0
  cases inv_nil h1
  exact ⟨s0, l1, rfl, p0, p1⟩
theorem I209 {r : Row} (h : ShL E (E 209) r) : ∃ (s0 : ByteArray) (n1 : Int), r = [.v (.string s0), .v (.int .i64 n1)] ∧ s0.size ≤ maxLen ∧ (IntKind.i64.min ≤ n1 ∧ n1 ≤ IntKind.i64.max) := by
  rw [E209] at h
  obtain ⟨s0, r0, rfl, p0, h0⟩ := inv_s h
  obtain ⟨n1, r1, rfl, p1, h1⟩ := inv_i h0
  cases inv_nil h1
  exact ⟨s0, n1, rfl, p0, p1⟩
theorem I214 {r : Row} (h : ShL E (E 214) r) : ∃ (l0 : Rows), r = [.s 7 l0] ∧ SL E 276 l0 := by
  rw [E214] at h
  obtain ⟨l0, r0, rfl, p0, h0⟩ := inv_sl W276 h
  cases inv_nil h0
  exact ⟨l0, rfl, p0⟩
theorem I216 {r : Row} (h : ShL E (E 216) r) : ∃ (s0 : ByteArray) (l1 : Rows), r = [.v (.string s0), .s 7 l1] ∧ s0.size ≤ maxLen ∧ SL E 276 l1 := by
  rw [E216] at h
  obtain ⟨s0, r0, rfl, p0, h0⟩ := inv_s h
  obtain ⟨l1, r1, rfl, p1, h1⟩ := inv_sl W276 h0
  cases inv_nil h1
  exact ⟨s0, l1, rfl, p0, p1⟩
theorem I259 {r : Row} (h : ShL E (E 259) r) : ∃ (n0 : Int) (s1 : ByteArray) (l2 : Rows), r = [.v (.int .i64 n0), .v (.string s1), .s 1 l2] ∧ (IntKind.i64.min ≤ n0 ∧ n0 ≤ IntKind.i64.max) ∧ s1.size ≤ maxLen ∧ SL E 9 l2 := by
  rw [E259] at h
  obtain ⟨n0, r0, rfl, p0, h0⟩ := inv_i h
  obtain ⟨s1, r1, rfl, p1, h1⟩ := inv_s h0
  obtain ⟨l2, r2, rfl, p2, h2⟩ := inv_sl W9 h1
  cases inv_nil h2
  exact ⟨n0, s1, l2, rfl, p0, p1, p2⟩
theorem I262 {r : Row} (h : ShL E (E 262) r) : ∃ (s0 : ByteArray) (s1 : ByteArray), r = [.v (.string s0), .v (.string s1)] ∧ s0.size ≤ maxLen ∧ s1.size ≤ maxLen := by
  rw [E262] at h
  obtain ⟨s0, r0, rfl, p0, h0⟩ := inv_s h
  obtain ⟨s1, r1, rfl, p1, h1⟩ := inv_s h0
  cases inv_nil h1
  exact ⟨s0, s1, rfl, p0, p1⟩
theorem I264 {r : Row} (h : ShL E (E 264) r) : ∃ (n0 : Int) (s1 : ByteArray) (l2 : Rows), r = [.v (.int .i64 n0), .v (.string s1), .s 1 l2] ∧ (IntKind.i64.min ≤ n0 ∧ n0 ≤ IntKind.i64.max) ∧ s1.size ≤ maxLen ∧ SL E 9 l2 := by
  rw [E264] at h
  obtain ⟨n0, r0, rfl, p0, h0⟩ := inv_i h
  obtain ⟨s1, r1, rfl, p1, h1⟩ := inv_s h0
  obtain ⟨l2, r2, rfl, p2, h2⟩ := inv_sl W9 h1
  cases inv_nil h2
  exact ⟨n0, s1, l2, rfl, p0, p1, p2⟩
theorem I266 {r : Row} (h : ShL E (E 266) r) : ∃ (s0 : ByteArray) (n1 : Int), r = [.v (.string s0), .v (.int .i64 n1)] ∧ s0.size ≤ maxLen ∧ (IntKind.i64.min ≤ n1 ∧ n1 ≤ IntKind.i64.max) := by
  rw [E266] at h
  obtain ⟨s0, r0, rfl, p0, h0⟩ := inv_s h
  obtain ⟨n1, r1, rfl, p1, h1⟩ := inv_i h0
  cases inv_nil h1
  exact ⟨s0, n1, rfl, p0, p1⟩
theorem I269 {r : Row} (h : ShL E (E 269) r) : ∃ (s0 : ByteArray) (s1 : ByteArray), r = [.v (.string s0), .v (.string s1)] ∧ s0.size ≤ maxLen ∧ s1.size ≤ maxLen := by
  rw [E269] at h
  obtain ⟨s0, r0, rfl, p0, h0⟩ := inv_s h
  obtain ⟨s1, r1, rfl, p1, h1⟩ := inv_s h0
  cases inv_nil h1
  exact ⟨s0, s1, rfl, p0, p1⟩
theorem I276 {r : Row} (h : ShL E (E 276) r) : ∃ (n0 : Int) (l1 : Rows) (n2 : Int) (s3 : ByteArray) (n4 : Int) (l5 : Rows) (l6 : Rows), r = [.v (.int .i64 n0), .s 1 l1, .v (.int .i64 n2), .v (.string s3), .v (.int .i64 n4), .s 1 l5, .s 5 l6] ∧ (IntKind.i64.min ≤ n0 ∧ n0 ≤ IntKind.i64.max) ∧ SL E 9 l1 ∧ (IntKind.i64.min ≤ n2 ∧ n2 ≤ IntKind.i64.max) ∧ s3.size ≤ maxLen ∧ (IntKind.i64.min ≤ n4 ∧ n4 ≤ IntKind.i64.max) ∧ SL E 9 l5 ∧ SL E 78 l6 := by
  rw [E276] at h
  obtain ⟨n0, r0, rfl, p0, h0⟩ := inv_i h
  obtain ⟨l1, r1, rfl, p1, h1⟩ := inv_sl W9 h0
  obtain ⟨n2, r2, rfl, p2, h2⟩ := inv_i h1
  obtain ⟨s3, r3, rfl, p3, h3⟩ := inv_s h2
  obtain ⟨n4, r4, rfl, p4, h4⟩ := inv_i h3
  obtain ⟨l5, r5, rfl, p5, h5⟩ := inv_sl W9 h4
  obtain ⟨l6, r6, rfl, p6, h6⟩ := inv_sl W78 h5
  cases inv_nil h6
  exact ⟨n0, l1, n2, s3, n4, l5, l6, rfl, p0, p1, p2, p3, p4, p5, p6⟩
theorem I304 {r : Row} (h : ShL E (E 304) r) : ∃ (n0 : Int) (l1 : Rows) (n2 : Int) (s3 : ByteArray) (n4 : Int) (l5 : Rows) (l6 : Rows), r = [.v (.int .i64 n0), .s 1 l1, .v (.int .i64 n2), .v (.string s3), .v (.int .i64 n4), .s 1 l5, .s 5 l6] ∧ (IntKind.i64.min ≤ n0 ∧ n0 ≤ IntKind.i64.max) ∧ SL E 9 l1 ∧ (IntKind.i64.min ≤ n2 ∧ n2 ≤ IntKind.i64.max) ∧ s3.size ≤ maxLen ∧ (IntKind.i64.min ≤ n4 ∧ n4 ≤ IntKind.i64.max) ∧ SL E 9 l5 ∧ SL E 62 l6 := by
  rw [E304] at h
  obtain ⟨n0, r0, rfl, p0, h0⟩ := inv_i h
  obtain ⟨l1, r1, rfl, p1, h1⟩ := inv_sl W9 h0
  obtain ⟨n2, r2, rfl, p2, h2⟩ := inv_i h1
  obtain ⟨s3, r3, rfl, p3, h3⟩ := inv_s h2
  obtain ⟨n4, r4, rfl, p4, h4⟩ := inv_i h3
  obtain ⟨l5, r5, rfl, p5, h5⟩ := inv_sl W9 h4
  obtain ⟨l6, r6, rfl, p6, h6⟩ := inv_sl W62 h5
  cases inv_nil h6
  exact ⟨n0, l1, n2, s3, n4, l5, l6, rfl, p0, p1, p2, p3, p4, p5, p6⟩
end Go.Am.Lk
