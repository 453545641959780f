/- The table, and the shapes of the types. Nothing is assumed. -/
import Derived.Test.YtapjklbchbgiaaaAsT1
import Derived.Test.YtapjklbchbgiaaaAmD
import Derived.Test.YtapjklbchbgiaaaProg
namespace Go.Am.As
set_option linter.unusedVariables false
set_option linter.unusedSimpArgs false
set_option maxRecDepth 8000
def fs : Fns := ⟨[(51, a51), (144, a144), (121, a121), (76, a76), (32, a32), (33, a33), (7, a7), (56, a56), (146, a146), (124, a124), (82, a82), (37, a37), (83, a83), (38, a38), (10, a10), (63, a63), (149, a149), (127, a127), (90, a90), (42, a42), (91, a91), (43, a43), (13, a13), (14, a14), (75, a75), (74, a74), (92, a92), (44, a44), (45, a45), (15, a15), (16, a16), (78, a78), (77, a77), (79, a79), (166, a166), (167, a167), (145, a145), (122, a122), (80, a80), (106, a106), (64, a64), (107, a107), (65, a65), (23, a23), (85, a85), (84, a84), (108, a108), (86, a86), (183, a183), (168, a168), (147, a147), (125, a125), (87, a87), (139, a139), (109, a109), (110, a110), (111, a111), (66, a66), (89, a89), (163, a163), (187, a187), (181, a181), (164, a164), (140, a140), (112, a112), (134, a134), (101, a101), (113, a113), (114, a114), (115, a115), (67, a67), (24, a24), (93, a93), (94, a94), (46, a46), (47, a47), (25, a25), (5, a5)], fun _ _ _ => none⟩
@[irreducible] noncomputable def E : TypeId → List Sh := shE Go.Proofs.Try.prog
theorem E9 : E 9 = [.s] := by kernel_rfl
theorem W9 : (E 9).length = 1 := by rw [E9]; rfl
theorem E22 : E 22 = [.sl 114] := by kernel_rfl
theorem W22 : (E 22).length = 1 := by rw [E22]; rfl
theorem E23 : E 23 = [.sl 129] := by kernel_rfl
theorem W23 : (E 23).length = 1 := by rw [E23]; rfl
theorem E25 : E 25 = [.s, .i .i64, .i .i64, .sl 114, .sl 129] := by kernel_rfl
theorem W25 : (E 25).length = 5 := by rw [E25]; rfl
theorem E30 : E 30 = [.sl 124] := by kernel_rfl
theorem W30 : (E 30).length = 1 := by rw [E30]; rfl
theorem E31 : E 31 = [.sl 127] := by kernel_rfl
theorem W31 : (E 31).length = 1 := by rw [E31]; rfl
theorem E33 : E 33 = [.s, .i .i64, .i .i64, .sl 124, .sl 127] := by kernel_rfl
theorem W33 : (E 33).length = 5 := by rw [E33]; rfl
theorem E38 : E 38 = [.i .i64, .s, .i .i64, .sl 124, .sl 127] := by kernel_rfl
theorem W38 : (E 38).length = 5 := by rw [E38]; rfl
theorem E48 : E 48 = [.sl 9] := by kernel_rfl
theorem W48 : (E 48).length = 1 := by rw [E48]; rfl
theorem E110 : E 110 = [.sl 112] := by kernel_rfl
theorem W110 : (E 110).length = 1 := by rw [E110]; rfl
theorem E112 : E 112 = [.i .i64, .s, .i .i64, .sl 9, .sl 112] := by kernel_rfl
theorem W112 : (E 112).length = 5 := by rw [E112]; rfl
theorem E114 : E 114 = [.i .i64, .i .i64, .i .i64, .s, .i .i64, .sl 9, .sl 112] := by kernel_rfl
theorem W114 : (E 114).length = 7 := by rw [E114]; rfl
theorem E120 : E 120 = [.sl 122] := by kernel_rfl
theorem W120 : (E 120).length = 1 := by rw [E120]; rfl
theorem E122 : E 122 = [.i .i64, .s, .i .i64, .sl 9, .sl 122] := by kernel_rfl
theorem W122 : (E 122).length = 5 := by rw [E122]; rfl
theorem E124 : E 124 = [.i .i64, .i .i64, .i .i64, .s, .i .i64, .sl 9, .sl 122] := by kernel_rfl
theorem W124 : (E 124).length = 7 := by rw [E124]; rfl
theorem E127 : E 127 = [.i .i64, .i .i64] := by kernel_rfl
theorem W127 : (E 127).length = 2 := by rw [E127]; rfl
theorem E129 : E 129 = [.i .i64, .i .i64] := by kernel_rfl
theorem W129 : (E 129).length = 2 := by rw [E129]; rfl
end Go.Am.As
