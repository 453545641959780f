/- The table, and the shapes of the types. Nothing is assumed. -/
import Derived.Test.YtapjklbchbgiaaaSpT1
import Derived.Test.YtapjklbchbgiaaaAmD
import Derived.Test.YtapjklbchbgiaaaProg
namespace Go.Am.Sp
set_option linter.unusedVariables false
set_option linter.unusedSimpArgs false
set_option maxRecDepth 8000
def fs : Fns := ⟨[(51, a51), (144, a144), (121, a121), (169, a169), (150, a150), (170, a170), (151, a151), (128, a128), (184, a184), (171, a171), (152, a152), (129, a129), (95, a95), (48, a48), (172, a172), (153, a153), (130, a130), (96, a96), (49, a49), (97, a97), (50, a50), (18, a18), (56, a56), (146, a146), (124, a124), (173, a173), (154, a154), (174, a174), (155, a155), (131, a131), (185, a185), (175, a175), (156, a156), (132, a132), (98, a98), (53, a53), (176, a176), (157, a157), (133, a133), (99, a99), (54, a54), (100, a100), (55, a55), (20, a20), (63, a63), (149, a149), (127, a127), (177, a177), (159, a159), (178, a178), (160, a160), (136, a136), (186, a186), (179, a179), (161, a161), (137, a137), (103, a103), (60, a60), (180, a180), (162, a162), (138, a138), (104, a104), (61, a61), (105, a105), (62, a62), (22, a22), (26, a26), (141, a141), (182, a182), (165, a165), (142, a142), (116, a116), (68, a68), (69, a69), (27, a27), (70, a70), (28, a28), (75, a75), (74, a74), (92, a92), (117, a117), (118, a118), (143, a143), (119, a119), (71, a71), (120, a120), (72, a72), (73, a73), (29, a29), (30, a30), (31, a31), (6, a6)], fun _ _ _ => none⟩
@[irreducible] noncomputable def E : TypeId → List Sh := shE Go.Proofs.Try.prog
theorem E3 : E 3 = [.i .i64] := by kernel_rfl
theorem W3 : (E 3).length = 1 := by rw [E3]; rfl
theorem E9 : E 9 = [.s] := by kernel_rfl
theorem W9 : (E 9).length = 1 := by rw [E9]; rfl
theorem E45 : E 45 = [.sl 142] := by kernel_rfl
theorem W45 : (E 45).length = 1 := by rw [E45]; rfl
theorem E46 : E 46 = [.sl 148] := by kernel_rfl
theorem W46 : (E 46).length = 1 := by rw [E46]; rfl
theorem E47 : E 47 = [.sl 150] := by kernel_rfl
theorem W47 : (E 47).length = 1 := by rw [E47]; rfl
theorem E48 : E 48 = [.sl 9] := by kernel_rfl
theorem W48 : (E 48).length = 1 := by rw [E48]; rfl
theorem E50 : E 50 = [.i .i64, .i .i64, .i .i64, .sl 142, .sl 148, .sl 150, .sl 9] := by kernel_rfl
theorem W50 : (E 50).length = 7 := by rw [E50]; rfl
theorem E53 : E 53 = [.sl 157] := by kernel_rfl
theorem W53 : (E 53).length = 1 := by rw [E53]; rfl
theorem E54 : E 54 = [.sl 163] := by kernel_rfl
theorem W54 : (E 54).length = 1 := by rw [E54]; rfl
theorem E55 : E 55 = [.sl 85] := by kernel_rfl
theorem W55 : (E 55).length = 1 := by rw [E55]; rfl
theorem E57 : E 57 = [.i .i64, .i .i64, .i .i64, .sl 157, .sl 163, .sl 85, .sl 9] := by kernel_rfl
theorem W57 : (E 57).length = 7 := by rw [E57]; rfl
theorem E63 : E 63 = [.sl 101] := by kernel_rfl
theorem W63 : (E 63).length = 1 := by rw [E63]; rfl
theorem E85 : E 85 = [.i .i64, .s, .i .i64, .i .i64, .i .i64] := by kernel_rfl
theorem W85 : (E 85).length = 5 := by rw [E85]; rfl
theorem E101 : E 101 = [.s, .i .i64] := by kernel_rfl
theorem W101 : (E 101).length = 2 := by rw [E101]; rfl
theorem E110 : E 110 = [.sl 112] := by kernel_rfl
theorem W110 : (E 110).length = 1 := by rw [E110]; rfl
theorem E112 : E 112 = [.i .i64, .s, .i .i64, .sl 9, .sl 112] := by kernel_rfl
theorem W112 : (E 112).length = 5 := by rw [E112]; rfl
theorem E120 : E 120 = [.sl 122] := by kernel_rfl
theorem W120 : (E 120).length = 1 := by rw [E120]; rfl
theorem E122 : E 122 = [.i .i64, .s, .i .i64, .sl 9, .sl 122] := by kernel_rfl
theorem W122 : (E 122).length = 5 := by rw [E122]; rfl
theorem E136 : E 136 = [.sl 239] := by kernel_rfl
theorem W136 : (E 136).length = 1 := by rw [E136]; rfl
theorem E137 : E 137 = [.sl 241] := by kernel_rfl
theorem W137 : (E 137).length = 1 := by rw [E137]; rfl
theorem E139 : E 139 = [.i .i64, .sl 239, .sl 9, .sl 241] := by kernel_rfl
theorem W139 : (E 139).length = 4 := by rw [E139]; rfl
theorem E140 : E 140 = [.sl 223] := by kernel_rfl
theorem W140 : (E 140).length = 1 := by rw [E140]; rfl
theorem E142 : E 142 = [.i .i64, .s, .i .i64, .sl 239, .sl 9, .sl 241, .i .i64, .s, .i .i64, .sl 9, .sl 112, .sl 223, .b] := by kernel_rfl
theorem W142 : (E 142).length = 13 := by rw [E142]; rfl
theorem E144 : E 144 = [.sl 244] := by kernel_rfl
theorem W144 : (E 144).length = 1 := by rw [E144]; rfl
theorem E146 : E 146 = [.s, .sl 244, .sl 9, .i .i64] := by kernel_rfl
theorem W146 : (E 146).length = 4 := by rw [E146]; rfl
theorem E148 : E 148 = [.s, .sl 244, .sl 9, .i .i64, .i .i64, .i .i64] := by kernel_rfl
theorem W148 : (E 148).length = 6 := by rw [E148]; rfl
theorem E150 : E 150 = [.i .i64, .s, .i .i64, .i .i64, .i .i64] := by kernel_rfl
theorem W150 : (E 150).length = 5 := by rw [E150]; rfl
theorem E151 : E 151 = [.sl 206] := by kernel_rfl
theorem W151 : (E 151).length = 1 := by rw [E151]; rfl
theorem E152 : E 152 = [.sl 207] := by kernel_rfl
theorem W152 : (E 152).length = 1 := by rw [E152]; rfl
theorem E154 : E 154 = [.i .i64, .sl 206, .sl 9, .sl 207] := by kernel_rfl
theorem W154 : (E 154).length = 4 := by rw [E154]; rfl
theorem E155 : E 155 = [.sl 210] := by kernel_rfl
theorem W155 : (E 155).length = 1 := by rw [E155]; rfl
theorem E157 : E 157 = [.i .i64, .s, .i .i64, .sl 206, .sl 9, .sl 207, .i .i64, .s, .i .i64, .sl 9, .sl 122, .sl 210, .b] := by kernel_rfl
theorem W157 : (E 157).length = 13 := by rw [E157]; rfl
theorem E159 : E 159 = [.sl 213] := by kernel_rfl
theorem W159 : (E 159).length = 1 := by rw [E159]; rfl
theorem E161 : E 161 = [.s, .sl 213, .sl 9, .i .i64] := by kernel_rfl
theorem W161 : (E 161).length = 4 := by rw [E161]; rfl
theorem E163 : E 163 = [.s, .sl 213, .sl 9, .i .i64, .i .i64, .i .i64] := by kernel_rfl
theorem W163 : (E 163).length = 6 := by rw [E163]; rfl
theorem E206 : E 206 = [.i .i64, .s, .sl 9] := by kernel_rfl
theorem W206 : (E 206).length = 3 := by rw [E206]; rfl
theorem E207 : E 207 = [.s, .i .i64] := by kernel_rfl
theorem W207 : (E 207).length = 2 := by rw [E207]; rfl
theorem E208 : E 208 = [.sl 237] := by kernel_rfl
theorem W208 : (E 208).length = 1 := by rw [E208]; rfl
theorem E210 : E 210 = [.s, .sl 237] := by kernel_rfl
theorem W210 : (E 210).length = 2 := by rw [E210]; rfl
theorem E213 : E 213 = [.s, .s] := by kernel_rfl
theorem W213 : (E 213).length = 2 := by rw [E213]; rfl
theorem E221 : E 221 = [.sl 256] := by kernel_rfl
theorem W221 : (E 221).length = 1 := by rw [E221]; rfl
theorem E223 : E 223 = [.s, .sl 256] := by kernel_rfl
theorem W223 : (E 223).length = 2 := by rw [E223]; rfl
theorem E237 : E 237 = [.i .i64, .sl 9, .i .i64, .s, .i .i64, .sl 9, .sl 122] := by kernel_rfl
theorem W237 : (E 237).length = 7 := by rw [E237]; rfl
theorem E239 : E 239 = [.i .i64, .s, .sl 9] := by kernel_rfl
theorem W239 : (E 239).length = 3 := by rw [E239]; rfl
theorem E241 : E 241 = [.s, .i .i64] := by kernel_rfl
theorem W241 : (E 241).length = 2 := by rw [E241]; rfl
theorem E244 : E 244 = [.s, .s] := by kernel_rfl
theorem W244 : (E 244).length = 2 := by rw [E244]; rfl
theorem E256 : E 256 = [.i .i64, .sl 9, .i .i64, .s, .i .i64, .sl 9, .sl 112] := by kernel_rfl
theorem W256 : (E 256).length = 7 := by rw [E256]; rfl
end Go.Am.Sp
