/- The table, and the shapes of the types. Nothing is assumed. -/
import Derived.Test.YtapjklbchbgiaaaGreatIsT1
import Derived.Test.YtapjklbchbgiaaaGreatAmD
import Derived.Test.YtapjklbchbgiaaaGreatProg
namespace Go.Am.Is
set_option linter.unusedVariables false
set_option linter.unusedSimpArgs false
set_option maxRecDepth 8000
def fs : Fns := ⟨[(50, a50), (275, a275), (173, a173), (276, a276), (174, a174), (67, a67), (175, a175), (68, a68), (344, a344), (277, a277), (176, a176), (69, a69), (156, a156), (47, a47), (278, a278), (177, a177), (70, a70), (157, a157), (48, a48), (158, a158), (49, a49), (9, a9), (99, a99), (71, a71), (357, a357), (299, a299), (208, a208), (100, a100), (209, a209), (101, a101), (23, a23), (102, a102), (226, a226), (210, a210), (103, a103), (24, a24), (56, a56), (284, a284), (186, a186), (285, a285), (187, a187), (80, a80), (188, a188), (81, a81), (348, a348), (286, a286), (189, a189), (82, a82), (159, a159), (53, a53), (287, a287), (190, a190), (83, a83), (160, a160), (54, a54), (161, a161), (55, a55), (11, a11), (104, a104), (191, a191), (84, a84), (358, a358), (300, a300), (211, a211), (105, a105), (212, a212), (106, a106), (25, a25), (243, a243), (245, a245), (213, a213), (214, a214), (107, a107), (26, a26), (207, a207), (98, a98), (62, a62), (204, a204), (95, a95), (215, a215), (108, a108), (27, a27), (295, a295), (202, a202), (296, a296), (203, a203), (94, a94), (356, a356), (297, a297), (205, a205), (96, a96), (164, a164), (59, a59), (298, a298), (206, a206), (97, a97), (165, a165), (60, a60), (166, a166), (61, a61), (14, a14), (109, a109), (110, a110), (216, a216), (111, a111), (28, a28), (167, a167), (66, a66), (168, a168), (169, a169), (170, a170), (274, a274), (171, a171), (63, a63), (172, a172), (64, a64), (65, a65), (15, a15), (112, a112), (115, a115), (116, a116), (113, a113), (114, a114), (29, a29), (30, a30), (217, a217), (218, a218), (117, a117), (118, a118), (31, a31), (5, a5)], fun _ _ _ => none⟩
@[irreducible] noncomputable def E : TypeId → List Sh := shE Go.Proofs.Tryz.prog
theorem E5 : E 5 = [.i .u8] := by kernel_rfl
theorem W5 : (E 5).length = 1 := by rw [E5]; rfl
theorem E9 : E 9 = [.s] := by kernel_rfl
theorem W9 : (E 9).length = 1 := by rw [E9]; rfl
theorem E22 : E 22 = [.sl 201] := by kernel_rfl
theorem W22 : (E 22).length = 1 := by rw [E22]; rfl
theorem E23 : E 23 = [.sl 204] := by kernel_rfl
theorem W23 : (E 23).length = 1 := by rw [E23]; rfl
theorem E24 : E 24 = [.sl 206] := by kernel_rfl
theorem W24 : (E 24).length = 1 := by rw [E24]; rfl
theorem E25 : E 25 = [.sl 9] := by kernel_rfl
theorem W25 : (E 25).length = 1 := by rw [E25]; rfl
theorem E27 : E 27 = [.i .i64, .i .i64, .i .i64, .sl 201, .sl 204, .sl 206, .sl 9] := by kernel_rfl
theorem W27 : (E 27).length = 7 := by rw [E27]; rfl
theorem E31 : E 31 = [.sl 101] := by kernel_rfl
theorem W31 : (E 31).length = 1 := by rw [E31]; rfl
theorem E32 : E 32 = [.sl 114] := by kernel_rfl
theorem W32 : (E 32).length = 1 := by rw [E32]; rfl
theorem E33 : E 33 = [.sl 111] := by kernel_rfl
theorem W33 : (E 33).length = 1 := by rw [E33]; rfl
theorem E35 : E 35 = [.i .i64, .i .i64, .i .i64, .sl 101, .sl 114, .sl 111, .sl 9] := by kernel_rfl
theorem W35 : (E 35).length = 7 := by rw [E35]; rfl
theorem E42 : E 42 = [.sl 318] := by kernel_rfl
theorem W42 : (E 42).length = 1 := by rw [E42]; rfl
theorem E43 : E 43 = [.sl 320] := by kernel_rfl
theorem W43 : (E 43).length = 1 := by rw [E43]; rfl
theorem E45 : E 45 = [.i .i64, .sl 318, .sl 9, .sl 320] := by kernel_rfl
theorem W45 : (E 45).length = 4 := by rw [E45]; rfl
theorem E46 : E 46 = [.sl 48] := by kernel_rfl
theorem W46 : (E 46).length = 1 := by rw [E46]; rfl
theorem E48 : E 48 = [.i .i64, .s, .i .i64, .sl 9, .sl 48] := by kernel_rfl
theorem W48 : (E 48).length = 5 := by rw [E48]; rfl
theorem E49 : E 49 = [.sl 225] := by kernel_rfl
theorem W49 : (E 49).length = 1 := by rw [E49]; rfl
theorem E50 : E 50 = [.sl 323] := by kernel_rfl
theorem W50 : (E 50).length = 1 := by rw [E50]; rfl
theorem E52 : E 52 = [.s, .sl 323, .sl 9, .i .i64] := by kernel_rfl
theorem W52 : (E 52).length = 4 := by rw [E52]; rfl
theorem E53 : E 53 = [.sl 245] := by kernel_rfl
theorem W53 : (E 53).length = 1 := by rw [E53]; rfl
theorem E58 : E 58 = [.sl 315] := by kernel_rfl
theorem W58 : (E 58).length = 1 := by rw [E58]; rfl
theorem E59 : E 59 = [.sl 228] := by kernel_rfl
theorem W59 : (E 59).length = 1 := by rw [E59]; rfl
theorem E61 : E 61 = [.i .i64, .sl 315, .sl 9, .sl 228] := by kernel_rfl
theorem W61 : (E 61).length = 4 := by rw [E61]; rfl
theorem E62 : E 62 = [.sl 64] := by kernel_rfl
theorem W62 : (E 62).length = 1 := by rw [E62]; rfl
theorem E64 : E 64 = [.i .i64, .s, .i .i64, .sl 9, .sl 64] := by kernel_rfl
theorem W64 : (E 64).length = 5 := by rw [E64]; rfl
theorem E65 : E 65 = [.sl 235] := by kernel_rfl
theorem W65 : (E 65).length = 1 := by rw [E65]; rfl
theorem E66 : E 66 = [.sl 299] := by kernel_rfl
theorem W66 : (E 66).length = 1 := by rw [E66]; rfl
theorem E68 : E 68 = [.s, .sl 299, .sl 9, .i .i64] := by kernel_rfl
theorem W68 : (E 68).length = 4 := by rw [E68]; rfl
theorem E69 : E 69 = [.sl 238] := by kernel_rfl
theorem W69 : (E 69).length = 1 := by rw [E69]; rfl
theorem E75 : E 75 = [.sl 5] := by kernel_rfl
theorem W75 : (E 75).length = 1 := by rw [E75]; rfl
theorem E76 : E 76 = [.sl 260] := by kernel_rfl
theorem W76 : (E 76).length = 1 := by rw [E76]; rfl
theorem E77 : E 77 = [.sl 263] := by kernel_rfl
theorem W77 : (E 77).length = 1 := by rw [E77]; rfl
theorem E79 : E 79 = [.i .i64, .i .i64, .i .i64, .sl 201, .sl 204, .sl 206, .sl 9, .b, .sl 5, .sl 260, .sl 263, .sl 9] := by kernel_rfl
theorem W79 : (E 79).length = 12 := by rw [E79]; rfl
theorem E81 : E 81 = [.sl 270] := by kernel_rfl
theorem W81 : (E 81).length = 1 := by rw [E81]; rfl
theorem E83 : E 83 = [.s, .i .i64, .i .i64, .sl 270, .sl 238] := by kernel_rfl
theorem W83 : (E 83).length = 5 := by rw [E83]; rfl
theorem E86 : E 86 = [.sl 83] := by kernel_rfl
theorem W86 : (E 86).length = 1 := by rw [E86]; rfl
theorem E87 : E 87 = [.sl 193] := by kernel_rfl
theorem W87 : (E 87).length = 1 := by rw [E87]; rfl
theorem E89 : E 89 = [.i .i64, .i .i64, .i .i64, .sl 101, .sl 114, .sl 111, .sl 9, .b, .sl 5, .sl 83, .sl 193, .sl 9] := by kernel_rfl
theorem W89 : (E 89).length = 12 := by rw [E89]; rfl
theorem E101 : E 101 = [.i .i64, .s, .i .i64, .sl 315, .sl 9, .sl 228, .i .i64, .s, .i .i64, .sl 9, .sl 64, .sl 235, .b] := by kernel_rfl
theorem W101 : (E 101).length = 13 := by rw [E101]; rfl
theorem E111 : E 111 = [.i .i64, .s, .i .i64, .i .i64, .i .i64] := by kernel_rfl
theorem W111 : (E 111).length = 5 := by rw [E111]; rfl
theorem E114 : E 114 = [.s, .sl 299, .sl 9, .i .i64, .i .i64, .i .i64] := by kernel_rfl
theorem W114 : (E 114).length = 6 := by rw [E114]; rfl
theorem E193 : E 193 = [.i .i64, .s, .i .i64, .sl 270, .sl 238] := by kernel_rfl
theorem W193 : (E 193).length = 5 := by rw [E193]; rfl
theorem E201 : E 201 = [.i .i64, .s, .i .i64, .sl 318, .sl 9, .sl 320, .i .i64, .s, .i .i64, .sl 9, .sl 48, .sl 225, .b] := by kernel_rfl
theorem W201 : (E 201).length = 13 := by rw [E201]; rfl
theorem E204 : E 204 = [.s, .sl 323, .sl 9, .i .i64, .i .i64, .i .i64] := by kernel_rfl
theorem W204 : (E 204).length = 6 := by rw [E204]; rfl
theorem E206 : E 206 = [.i .i64, .s, .i .i64, .i .i64, .i .i64] := by kernel_rfl
theorem W206 : (E 206).length = 5 := by rw [E206]; rfl
theorem E223 : E 223 = [.sl 376] := by kernel_rfl
theorem W223 : (E 223).length = 1 := by rw [E223]; rfl
theorem E225 : E 225 = [.s, .sl 376] := by kernel_rfl
theorem W225 : (E 225).length = 2 := by rw [E225]; rfl
theorem E228 : E 228 = [.s, .i .i64] := by kernel_rfl
theorem W228 : (E 228).length = 2 := by rw [E228]; rfl
theorem E233 : E 233 = [.sl 329] := by kernel_rfl
theorem W233 : (E 233).length = 1 := by rw [E233]; rfl
theorem E235 : E 235 = [.s, .sl 329] := by kernel_rfl
theorem W235 : (E 235).length = 2 := by rw [E235]; rfl
theorem E238 : E 238 = [.i .i64, .i .i64] := by kernel_rfl
theorem W238 : (E 238).length = 2 := by rw [E238]; rfl
theorem E245 : E 245 = [.i .i64, .i .i64] := by kernel_rfl
theorem W245 : (E 245).length = 2 := by rw [E245]; rfl
theorem E258 : E 258 = [.sl 388] := by kernel_rfl
theorem W258 : (E 258).length = 1 := by rw [E258]; rfl
theorem E260 : E 260 = [.s, .i .i64, .i .i64, .sl 388, .sl 245] := by kernel_rfl
theorem W260 : (E 260).length = 5 := by rw [E260]; rfl
theorem E263 : E 263 = [.i .i64, .s, .i .i64, .sl 388, .sl 245] := by kernel_rfl
theorem W263 : (E 263).length = 5 := by rw [E263]; rfl
theorem E270 : E 270 = [.i .i64, .i .i64, .i .i64, .s, .i .i64, .sl 9, .sl 64] := by kernel_rfl
theorem W270 : (E 270).length = 7 := by rw [E270]; rfl
theorem E299 : E 299 = [.s, .s] := by kernel_rfl
theorem W299 : (E 299).length = 2 := by rw [E299]; rfl
theorem E315 : E 315 = [.i .i64, .s, .sl 9] := by kernel_rfl
theorem W315 : (E 315).length = 3 := by rw [E315]; rfl
theorem E318 : E 318 = [.i .i64, .s, .sl 9] := by kernel_rfl
theorem W318 : (E 318).length = 3 := by rw [E318]; rfl
theorem E320 : E 320 = [.s, .i .i64] := by kernel_rfl
theorem W320 : (E 320).length = 2 := by rw [E320]; rfl
theorem E323 : E 323 = [.s, .s] := by kernel_rfl
theorem W323 : (E 323).length = 2 := by rw [E323]; rfl
theorem E329 : E 329 = [.i .i64, .sl 9, .i .i64, .s, .i .i64, .sl 9, .sl 64] := by kernel_rfl
theorem W329 : (E 329).length = 7 := by rw [E329]; rfl
theorem E376 : E 376 = [.i .i64, .sl 9, .i .i64, .s, .i .i64, .sl 9, .sl 48] := by kernel_rfl
theorem W376 : (E 376).length = 7 := by rw [E376]; rfl
theorem E388 : E 388 = [.i .i64, .i .i64, .i .i64, .s, .i .i64, .sl 9, .sl 48] := by kernel_rfl
theorem W388 : (E 388).length = 7 := by rw [E388]; rfl
end Go.Am.Is
