/- The table, and the shapes of the types. Nothing is assumed. -/
import Derived.Test.YtgnicnelpcndgaaSmT0
import Derived.Test.YtgnicnelpcndgaaAmConv
import Derived.Test.YtgnicnelpcndgaaProg
namespace Go.Am.Sm
set_option linter.unusedVariables false
set_option linter.unusedSimpArgs false
set_option maxRecDepth 8000
def fs : List (Nat × AFun) := [(63, a63), (207, a207), (173, a173), (233, a233), (213, a213), (234, a234), (214, a214), (180, a180), (248, a248), (235, a235), (215, a215), (181, a181), (136, a136), (60, a60), (236, a236), (216, a216), (182, a182), (137, a137), (61, a61), (138, a138), (62, a62), (21, a21), (68, a68), (209, a209), (176, a176), (237, a237), (217, a217), (238, a238), (218, a218), (183, a183), (249, a249), (239, a239), (219, a219), (184, a184), (139, a139), (65, a65), (240, a240), (220, a220), (185, a185), (140, a140), (66, a66), (141, a141), (67, a67), (23, a23), (75, a75), (212, a212), (179, a179), (241, a241), (222, a222), (242, a242), (223, a223), (188, a188), (250, a250), (243, a243), (224, a224), (189, a189), (144, a144), (72, a72), (244, a244), (225, a225), (190, a190), (145, a145), (73, a73), (146, a146), (74, a74), (25, a25), (80, a80), (81, a81), (82, a82), (29, a29), (83, a83), (84, a84), (85, a85), (86, a86), (87, a87), (30, a30), (6, a6)]
@[irreducible] noncomputable def E : TypeId → List Sh := shE Go.Proofs.Try.prog
theorem E9 : E 9 = [.s] := by kernel_rfl
theorem W9 : (E 9).length = 1 := by rw [E9]; rfl
theorem E45 : E 45 = [.sl 177] := by kernel_rfl
theorem W45 : (E 45).length = 1 := by rw [E45]; rfl
theorem E46 : E 46 = [.sl 183] := by kernel_rfl
theorem W46 : (E 46).length = 1 := by rw [E46]; rfl
theorem E47 : E 47 = [.sl 185] := by kernel_rfl
theorem W47 : (E 47).length = 1 := by rw [E47]; rfl
theorem E48 : E 48 = [.sl 9] := by kernel_rfl
theorem W48 : (E 48).length = 1 := by rw [E48]; rfl
theorem E50 : E 50 = [.i .i64, .i .i64, .i .i64, .sl 177, .sl 183, .sl 185, .sl 9] := by kernel_rfl
theorem W50 : (E 50).length = 7 := by rw [E50]; rfl
theorem E53 : E 53 = [.sl 120] := by kernel_rfl
theorem W53 : (E 53).length = 1 := by rw [E53]; rfl
theorem E54 : E 54 = [.sl 126] := by kernel_rfl
theorem W54 : (E 54).length = 1 := by rw [E54]; rfl
theorem E55 : E 55 = [.sl 96] := by kernel_rfl
theorem W55 : (E 55).length = 1 := by rw [E55]; rfl
theorem E57 : E 57 = [.i .i64, .i .i64, .i .i64, .sl 120, .sl 126, .sl 96, .sl 9] := by kernel_rfl
theorem W57 : (E 57).length = 7 := by rw [E57]; rfl
theorem E96 : E 96 = [.i .i64, .s, .i .i64, .i .i64, .i .i64] := by kernel_rfl
theorem W96 : (E 96).length = 5 := by rw [E96]; rfl
theorem E111 : E 111 = [.sl 239] := by kernel_rfl
theorem W111 : (E 111).length = 1 := by rw [E111]; rfl
theorem E112 : E 112 = [.sl 234] := by kernel_rfl
theorem W112 : (E 112).length = 1 := by rw [E112]; rfl
theorem E114 : E 114 = [.i .i64, .sl 239, .sl 9, .sl 234] := by kernel_rfl
theorem W114 : (E 114).length = 4 := by rw [E114]; rfl
theorem E115 : E 115 = [.sl 117] := by kernel_rfl
theorem W115 : (E 115).length = 1 := by rw [E115]; rfl
theorem E117 : E 117 = [.i .i64, .s, .i .i64, .sl 9, .sl 117] := by kernel_rfl
theorem W117 : (E 117).length = 5 := by rw [E117]; rfl
theorem E118 : E 118 = [.sl 207] := by kernel_rfl
theorem W118 : (E 118).length = 1 := by rw [E118]; rfl
theorem E120 : E 120 = [.i .i64, .s, .i .i64, .sl 239, .sl 9, .sl 234, .i .i64, .s, .i .i64, .sl 9, .sl 117, .sl 207, .b] := by kernel_rfl
theorem W120 : (E 120).length = 13 := by rw [E120]; rfl
theorem E122 : E 122 = [.sl 210] := by kernel_rfl
theorem W122 : (E 122).length = 1 := by rw [E122]; rfl
theorem E124 : E 124 = [.s, .sl 210, .sl 9, .i .i64] := by kernel_rfl
theorem W124 : (E 124).length = 4 := by rw [E124]; rfl
theorem E126 : E 126 = [.s, .sl 210, .sl 9, .i .i64, .i .i64, .i .i64] := by kernel_rfl
theorem W126 : (E 126).length = 6 := by rw [E126]; rfl
theorem E148 : E 148 = [.sl 150] := by kernel_rfl
theorem W148 : (E 148).length = 1 := by rw [E148]; rfl
theorem E150 : E 150 = [.i .i64, .s, .i .i64, .sl 9, .sl 150] := by kernel_rfl
theorem W150 : (E 150).length = 5 := by rw [E150]; rfl
theorem E171 : E 171 = [.sl 267] := by kernel_rfl
theorem W171 : (E 171).length = 1 := by rw [E171]; rfl
theorem E172 : E 172 = [.sl 269] := by kernel_rfl
theorem W172 : (E 172).length = 1 := by rw [E172]; rfl
theorem E174 : E 174 = [.i .i64, .sl 267, .sl 9, .sl 269] := by kernel_rfl
theorem W174 : (E 174).length = 4 := by rw [E174]; rfl
theorem E175 : E 175 = [.sl 257] := by kernel_rfl
theorem W175 : (E 175).length = 1 := by rw [E175]; rfl
theorem E177 : E 177 = [.i .i64, .s, .i .i64, .sl 267, .sl 9, .sl 269, .i .i64, .s, .i .i64, .sl 9, .sl 150, .sl 257, .b] := by kernel_rfl
theorem W177 : (E 177).length = 13 := by rw [E177]; rfl
theorem E179 : E 179 = [.sl 272] := by kernel_rfl
theorem W179 : (E 179).length = 1 := by rw [E179]; rfl
theorem E181 : E 181 = [.s, .sl 272, .sl 9, .i .i64] := by kernel_rfl
theorem W181 : (E 181).length = 4 := by rw [E181]; rfl
theorem E183 : E 183 = [.s, .sl 272, .sl 9, .i .i64, .i .i64, .i .i64] := by kernel_rfl
theorem W183 : (E 183).length = 6 := by rw [E183]; rfl
theorem E185 : E 185 = [.i .i64, .s, .i .i64, .i .i64, .i .i64] := by kernel_rfl
theorem W185 : (E 185).length = 5 := by rw [E185]; rfl
theorem E205 : E 205 = [.sl 236] := by kernel_rfl
theorem W205 : (E 205).length = 1 := by rw [E205]; rfl
theorem E207 : E 207 = [.s, .sl 236] := by kernel_rfl
theorem W207 : (E 207).length = 2 := by rw [E207]; rfl
theorem E210 : E 210 = [.s, .s] := by kernel_rfl
theorem W210 : (E 210).length = 2 := by rw [E210]; rfl
theorem E234 : E 234 = [.s, .i .i64] := by kernel_rfl
theorem W234 : (E 234).length = 2 := by rw [E234]; rfl
theorem E236 : E 236 = [.i .i64, .sl 9, .i .i64, .s, .i .i64, .sl 9, .sl 117] := by kernel_rfl
theorem W236 : (E 236).length = 7 := by rw [E236]; rfl
theorem E239 : E 239 = [.i .i64, .s, .sl 9] := by kernel_rfl
theorem W239 : (E 239).length = 3 := by rw [E239]; rfl
theorem E255 : E 255 = [.sl 282] := by kernel_rfl
theorem W255 : (E 255).length = 1 := by rw [E255]; rfl
theorem E257 : E 257 = [.s, .sl 282] := by kernel_rfl
theorem W257 : (E 257).length = 2 := by rw [E257]; rfl
theorem E267 : E 267 = [.i .i64, .s, .sl 9] := by kernel_rfl
theorem W267 : (E 267).length = 3 := by rw [E267]; rfl
theorem E269 : E 269 = [.s, .i .i64] := by kernel_rfl
theorem W269 : (E 269).length = 2 := by rw [E269]; rfl
theorem E272 : E 272 = [.s, .s] := by kernel_rfl
theorem W272 : (E 272).length = 2 := by rw [E272]; rfl
theorem E282 : E 282 = [.i .i64, .sl 9, .i .i64, .s, .i .i64, .sl 9, .sl 150] := by kernel_rfl
theorem W282 : (E 282).length = 7 := by rw [E282]; rfl
end Go.Am.Sm
