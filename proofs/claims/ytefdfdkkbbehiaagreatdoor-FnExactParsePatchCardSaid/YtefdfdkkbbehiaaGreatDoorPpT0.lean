/- What the functions come to, printed: equations by the kernel. Nothing is assumed. -/
import Derived.Test.YtefdfdkkbbehiaaGreatDoorAmA
import Derived.KernelRfl
namespace Go.Am.Pp
set_option linter.unusedVariables false
set_option linter.unusedSimpArgs false
set_option maxRecDepth 8000
/- loop.example/g00119/spec.l1In -/
def a46 : AFun := ⟨[.rd, .rd, .rd], false, [.t 6], (
 .seq (.g [oV 6 false]) (
 .seq (.g [oM 7 0, oM 8 1, oB 9 .geq 7 8, oM 10 9, oJ 11 10 true (.mv (.t 0)), oJ 12 10 true (.mv (.t 2)), oJ 13 10 true (.bin .leq (.t 11) (.t 12)), oQ 14 (.pick (.t 10) (.t 13) (.b false)), oM 6 14]) (
 .ret)))⟩
theorem a46q (T : Table) (k : Nat) (n1 n2 n3 : Int): evalF T k a46 [.d (.v (.int .i64 n1)), .d (.v (.int .i64 n2)), .d (.v (.int .i64 n3))] = (
 bif (decide (n1 ≥ n2)) == true then (
 some ⟨.d (.v (.bool (decide (n1 ≤ n3)))), []⟩) else (
 some ⟨.d (.v (.bool false)), []⟩)) := by kernel_rfl
/- loop.example/g00119/spec.l4Text -/
def b110x0 : ACode := (
 .seq (.seq (.g [oM 4 3, oM 5 0, oQ 6 (.len true (.t 5)), oB 7 .lss 4 6]) (
 .cond (.t 7) (.skip) (.exit 0))) (
 .seq (.block 1 (.seq (.g [oM 10 0, oM 11 3, oQ 12 (.idx (.t 10) (.t 11)), oQ 13 (.conv (.int .i64) (.t 12)), oQ 14 (.call (.f 46) [.rd, .rd, .rd] false [.c .b] [.t 13, .i 32, .i 126]), oN 15 14]) (
 .cond (.t 15) (.seq (.g [oV 2 false]) (
 .ret)) (.skip)))) (
 .g [oM 8 3, oBi 9 .add 8 1, oM 3 9])))
def e110x0 : Exits := [(.ret, [(2, .c .b)]), ((.exit 0), [(0, .c .s)])]
noncomputable def l110x0 (T : Table) (k : Nat) := loopN (evalC ⟨T, [], []⟩ k b110x0 (Ex × List AV)) [0, 3] e110x0
def a110 : AFun := ⟨[.rd], false, [.t 2], (
 .seq (.g [oV 2 false]) (
 .seq (.seq (.g [oK 3 0]) (
 .block 0 (.loop [0, 3] e110x0 b110x0))) (
 .seq (.g [oM 16 0, oQ 17 (.len true (.t 16)), oBi 18 .leq 17 100, oM 2 18]) (
 .ret))))⟩
theorem l110x0s (T : Table) (k n : Nat) (s2 : ByteArray) (n3 : Int): l110x0 T k (n + 1) [.v (.string s2), .v (.int .i64 n3)] = (
 bif (decide (n3 < (s2.size : Int))) then (
 tst (decide (0 ≤ n3)) (
 byteAt s2 (Int.toNat n3) fun c4 =>
 callT T 46 [.d (.v (.int .i64 (IntKind.wrap .i64 (c4.toNat : Int)))), .d (.v (.int .i64 32)), .d (.v (.int .i64 126))] fun o5 =>
 oD o5.res fun d6 =>
 dB d6 fun b7 =>
 bif (!b7) then (
 some (.ret, [.v (.bool false)])) else (
 l110x0 T k n [.v (.string s2), .v (.int .i64 (IntKind.wrap .i64 (n3 + 1)))]))) else (
 some ((.exit 0), [.v (.string s2)]))) := by kernel_rfl
theorem a110q (T : Table) (k : Nat) (s1 : ByteArray): evalF T k a110 [.d (.v (.string s1))] = (
 aft (l110x0 T k k [.v (.string s1), .v (.int .i64 0)]) fun e8 ys9 =>
 bif e8.same .ret then (
 aV ys9 0 fun x10 =>
 aB x10 fun b11 =>
 some ⟨.d (.v (.bool b11)), []⟩) else (
 bif e8.same (.exit 0) then (
 aV ys9 0 fun x12 =>
 aS x12 fun s13 =>
 some ⟨.d (.v (.bool (decide ((s13.size : Int) ≤ 100)))), []⟩) else (
 none))) := by kernel_rfl
/- loop.example/g00119/spec.NameOk -/
def b78x0 : ACode := (
 .seq (.seq (.g [oM 4 3, oM 5 0, oQ 6 (.len true (.t 5)), oB 7 .lss 4 6]) (
 .cond (.t 7) (.skip) (.exit 0))) (
 .seq (.block 1 (.seq (.g [oM 10 0, oM 11 3, oQ 12 (.idx (.t 10) (.t 11)), oQ 13 (.conv (.int .i64) (.t 12)), oQ 14 (.call (.f 46) [.rd, .rd, .rd] false [.c .b] [.t 13, .i 97, .i 122]), oN 15 14, oM 16 15, oJ 17 16 true (.mv (.t 0)), oJ 18 16 true (.mv (.t 3)), oJ 19 16 true (.idx (.t 17) (.t 18)), oJ 20 16 true (.conv (.int .i64) (.t 19)), oJ 21 16 true (.call (.f 46) [.rd, .rd, .rd] false [.c .b] [.t 20, .i 48, .i 57]), oJ 22 16 true (.un .not (.t 21)), oQ 23 (.pick (.t 16) (.t 22) (.b false)), oM 24 23, oJ 25 24 true (.mv (.t 0)), oJ 26 24 true (.mv (.t 3)), oJ 27 24 true (.idx (.t 25) (.t 26)), oJ 28 24 true (.bin .neq (.t 27) (.c (.v (.int .u8 45)))), oQ 29 (.pick (.t 24) (.t 28) (.b false))]) (
 .cond (.t 29) (.seq (.g [oV 2 false]) (
 .ret)) (.skip)))) (
 .g [oM 8 3, oBi 9 .add 8 1, oM 3 9])))
def e78x0 : Exits := [(.ret, [(2, .c .b)]), ((.exit 0), [(0, .c .s)])]
noncomputable def l78x0 (T : Table) (k : Nat) := loopN (evalC ⟨T, [], []⟩ k b78x0 (Ex × List AV)) [0, 3] e78x0
def a78 : AFun := ⟨[.rd], false, [.t 2], (
 .seq (.g [oV 2 false]) (
 .seq (.seq (.g [oK 3 0]) (
 .block 0 (.loop [0, 3] e78x0 b78x0))) (
 .seq (.g [oM 30 0, oQ 31 (.len true (.t 30)), oQ 32 (.call (.f 46) [.rd, .rd, .rd] false [.c .b] [.t 31, .i 1, .i 20]), oM 33 32, oJ 34 33 true (.mv (.t 0)), oJ 35 33 true (.idx (.t 34) (.i 0)), oJ 36 33 true (.bin .neq (.t 35) (.c (.v (.int .u8 45)))), oQ 37 (.pick (.t 33) (.t 36) (.b false)), oM 38 37, oJ 39 38 true (.mv (.t 0)), oJ 40 38 true (.mv (.t 0)), oJ 41 38 true (.len true (.t 40)), oJ 42 38 true (.bin .sub (.t 41) (.i 1)), oJ 43 38 true (.idx (.t 39) (.t 42)), oJ 44 38 true (.bin .neq (.t 43) (.c (.v (.int .u8 45)))), oQ 45 (.pick (.t 38) (.t 44) (.b false)), oM 2 45]) (
 .ret))))⟩
theorem l78x0s (T : Table) (k n : Nat) (s2 : ByteArray) (n3 : Int): l78x0 T k (n + 1) [.v (.string s2), .v (.int .i64 n3)] = (
 bif (decide (n3 < (s2.size : Int))) then (
 tst (decide (0 ≤ n3)) (
 byteAt s2 (Int.toNat n3) fun c4 =>
 callT T 46 [.d (.v (.int .i64 (IntKind.wrap .i64 (c4.toNat : Int)))), .d (.v (.int .i64 97)), .d (.v (.int .i64 122))] fun o5 =>
 oD o5.res fun d6 =>
 dB d6 fun b7 =>
 bif (!b7) == true then (
 tst (decide (0 ≤ n3)) (
 byteAt s2 (Int.toNat n3) fun c8 =>
 callT T 46 [.d (.v (.int .i64 (IntKind.wrap .i64 (c8.toNat : Int)))), .d (.v (.int .i64 48)), .d (.v (.int .i64 57))] fun o9 =>
 oD o9.res fun d10 =>
 dB d10 fun b11 =>
 bif (!b11) == true then (
 tst (decide (0 ≤ n3)) (
 byteAt s2 (Int.toNat n3) fun c12 =>
 bif ((c12.toNat : Int) != 45) then (
 some (.ret, [.v (.bool false)])) else (
 l78x0 T k n [.v (.string s2), .v (.int .i64 (IntKind.wrap .i64 (n3 + 1)))]))) else (
 l78x0 T k n [.v (.string s2), .v (.int .i64 (IntKind.wrap .i64 (n3 + 1)))]))) else (
 l78x0 T k n [.v (.string s2), .v (.int .i64 (IntKind.wrap .i64 (n3 + 1)))]))) else (
 some ((.exit 0), [.v (.string s2)]))) := by kernel_rfl
theorem a78q (T : Table) (k : Nat) (s1 : ByteArray): evalF T k a78 [.d (.v (.string s1))] = (
 aft (l78x0 T k k [.v (.string s1), .v (.int .i64 0)]) fun e13 ys14 =>
 bif e13.same .ret then (
 aV ys14 0 fun x15 =>
 aB x15 fun b16 =>
 some ⟨.d (.v (.bool b16)), []⟩) else (
 bif e13.same (.exit 0) then (
 aV ys14 0 fun x17 =>
 aS x17 fun s18 =>
 callT T 46 [.d (.v (.int .i64 (s18.size : Int))), .d (.v (.int .i64 1)), .d (.v (.int .i64 20))] fun o19 =>
 oD o19.res fun d20 =>
 dB d20 fun b21 =>
 bif b21 == true then (
 tst (decide (0 ≤ 0)) (
 byteAt s18 (Int.toNat 0) fun c22 =>
 bif ((c22.toNat : Int) != 45) == true then (
 tst (decide (0 ≤ (IntKind.wrap .i64 ((s18.size : Int) - 1)))) (
 byteAt s18 (Int.toNat (IntKind.wrap .i64 ((s18.size : Int) - 1))) fun c23 =>
 some ⟨.d (.v (.bool ((c23.toNat : Int) != 45))), []⟩)) else (
 some ⟨.d (.v (.bool false)), []⟩))) else (
 some ⟨.d (.v (.bool false)), []⟩)) else (
 none))) := by kernel_rfl
/- loop.example/g00119/spec.l4Keys -/
def b111x0 : ACode := (
 .seq (.seq (.g [oM 4 3, oF 5 3 1, oW 6 (.sl 1) 5, oZ 7 6, oB 8 .lss 4 7]) (
 .cond (.t 8) (.skip) (.exit 0))) (
 .seq (.block 1 (.seq (.dreg [] [(0, oF 11 3 1), (0, oW 12 (.sl 1) 11), (0, oM 13 3), (0, oI 14 1 12 13), (0, oW 15 .s 14), (1, oC 16 78 [.c .b] [15]), (0, oN 17 16), (0, oM 18 17), (0, oJ 19 18 false (.mv (.t 3))), (0, oJ 20 18 false (.bin .gtr (.t 19) (.i 0))), (0, oJ 21 18 false (.mv (.t 20))), (0, oJ 22 21 true (.fad 3 (.t 1))), (0, oJ 23 21 true (.load false [.sl 1] (.t 22))), (0, oJ 24 21 true (.mv (.t 3))), (0, oJ 25 21 true (.bin .sub (.t 24) (.i 1))), (0, oJ 26 21 true (.iad 1 (.t 23) (.t 25))), (0, oJ 27 21 true (.load false [.s] (.t 26))), (0, oJ 28 21 true (.fad 3 (.t 1))), (0, oJ 29 21 true (.load false [.sl 1] (.t 28))), (0, oJ 30 21 true (.mv (.t 3))), (0, oJ 31 21 true (.iad 1 (.t 29) (.t 30))), (0, oJ 32 21 true (.load false [.s] (.t 31)))] [oJ 33 21 true (.bin .geq (.t 27) (.t 32)), oJ 34 18 false (.pick (.t 21) (.t 33) (.b false)), oQ 35 (.pick (.t 18) (.b true) (.t 34))]) (
 .cond (.t 35) (.seq (.g [oV 2 false]) (
 .ret)) (.skip)))) (
 .g [oM 9 3, oBi 10 .add 9 1, oM 3 10])))
def e111x0 : Exits := [(.ret, [(2, .c .b)]), ((.exit 0), [(1, .b [.c kI, .c .s, .c kI, .c (.sl 1), .c (.sl 5)])])]
noncomputable def l111x0 (T : Table) (k : Nat) := loopN (evalC ⟨T, [], []⟩ k b111x0 (Ex × List AV)) [1, 3] e111x0
def a111 : AFun := ⟨[.rd], false, [.t 2], (
 .seq (.g [oQ 1 (.box (.t 0)), oV 2 false]) (
 .seq (.seq (.g [oK 3 0]) (
 .block 0 (.loop [1, 3] e111x0 b111x0))) (
 .seq (.g [oF 36 3 1, oW 37 (.sl 1) 36, oZ 38 37, oF 39 4 1, oW 40 (.sl 5) 39, oZ 41 40, oB 42 .eql 38 41, oM 2 42]) (
 .ret))))⟩
theorem l111x0s (T : Table) (k n : Nat) (n6 n8 n11 : Int) (s7 : ByteArray) (l9 l10 : Rows): l111x0 T k (n + 1) [.b [.v (.int .i64 n6), .v (.string s7), .v (.int .i64 n8), .fz 1 l9, .fz 5 l10], .v (.int .i64 n11)] = (
 bif (decide (n11 < (l9.length : Int))) then (
 tst (decide (0 ≤ n11)) (
 look l9 (Int.toNat n11) fun r12 =>
 cS r12 0 fun s13 =>
 callT T 78 [.d (.v (.string s13))] fun o14 =>
 oD o14.res fun d15 =>
 dB d15 fun b16 =>
 bif (!b16) == false then (
 bif (decide (n11 > 0)) == true then (
 tst (decide (0 ≤ (IntKind.wrap .i64 (n11 - 1)))) (
 look l9 (Int.toNat (IntKind.wrap .i64 (n11 - 1))) fun r17 =>
 cS r17 0 fun s18 =>
 tst (decide (0 ≤ n11)) (
 look l9 (Int.toNat n11) fun r19 =>
 cS r19 0 fun s20 =>
 bif (!(bytesLess s18 s20)) then (
 some (.ret, [.v (.bool false)])) else (
 l111x0 T k n [.b [.v (.int .i64 n6), .v (.string s7), .v (.int .i64 n8), .fz 1 l9, .fz 5 l10], .v (.int .i64 (IntKind.wrap .i64 (n11 + 1)))])))) else (
 l111x0 T k n [.b [.v (.int .i64 n6), .v (.string s7), .v (.int .i64 n8), .fz 1 l9, .fz 5 l10], .v (.int .i64 (IntKind.wrap .i64 (n11 + 1)))])) else (
 some (.ret, [.v (.bool false)])))) else (
 some ((.exit 0), [.b [.v (.int .i64 n6), .v (.string s7), .v (.int .i64 n8), .fz 1 l9, .fz 5 l10]]))) := by kernel_rfl
theorem a111q (T : Table) (k : Nat) (n1 n3 : Int) (s2 : ByteArray) (l4 l5 : Rows): evalF T k a111 [.g [.v (.int .i64 n1), .v (.string s2), .v (.int .i64 n3), .s 1 l4, .s 5 l5]] = (
 aft (l111x0 T k k [.b [.v (.int .i64 n1), .v (.string s2), .v (.int .i64 n3), .fz 1 l4, .fz 5 l5], .v (.int .i64 0)]) fun e21 ys22 =>
 bif e21.same .ret then (
 aV ys22 0 fun x23 =>
 aB x23 fun b24 =>
 some ⟨.d (.v (.bool b24)), []⟩) else (
 bif e21.same (.exit 0) then (
 aV ys22 0 fun x25 =>
 aX x25 fun xs26 =>
 aV xs26 0 fun x27 =>
 aI .i64 x27 fun n28 =>
 aV xs26 1 fun x29 =>
 aS x29 fun s30 =>
 aV xs26 2 fun x31 =>
 aI .i64 x31 fun n32 =>
 aV xs26 3 fun x33 =>
 aL 1 x33 fun l34 =>
 aV xs26 4 fun x35 =>
 aL 5 x35 fun l36 =>
 some ⟨.d (.v (.bool ((l34.length : Int) == (l36.length : Int)))), []⟩) else (
 none))) := by kernel_rfl
/- loop.example/g00119/spec.l4Look -/
def b73x0 : ACode := (
 .seq (.seq (.g [oM 12 6, oF 13 4 2, oW 14 (.sl 5) 13, oZ 15 14, oB 16 .lss 12 15]) (
 .cond (.t 16) (.skip) (.exit 0))) (
 .seq (.block 1 (.seq (.g [oF 19 4 2, oW 20 (.sl 5) 19, oM 21 6, oI 22 5 20 21, oL 23 [kI, .s, kI, .sl 1, .sl 5] 22, oM 24 1, oBi 25 .sub 24 1, oC 26 73 [.c kI] [23, 25], oM 7 26]) (
 .seq (.seq (.g [oM 27 7, oBi 28 .eql 27 0, oM 29 28, oJ 30 29 false (.mv (.t 5)), oJ 31 29 false (.mv (.t 7)), oJ 32 29 false (.bin .add (.t 30) (.t 31)), oJ 33 29 false (.bin .gtr (.t 32) (.i 300)), oQ 34 (.pick (.t 29) (.b true) (.t 33))]) (
 .cond (.t 34) (.seq (.g [oK 4 0]) (
 .ret)) (.skip))) (
 .g [oM 35 5, oM 36 7, oB 37 .add 35 36, oM 5 37])))) (
 .g [oM 17 6, oBi 18 .add 17 1, oM 6 18])))
def e73x0 : Exits := [(.ret, [(4, .c kI)]), ((.exit 0), [(2, .b [.c kI, .c .s, .c kI, .c (.sl 1), .c (.sl 5)]), (5, .c kI)])]
noncomputable def l73x0 (T : Table) (k : Nat) := loopN (evalC ⟨T, [], []⟩ k b73x0 (Ex × List AV)) [1, 2, 5, 6] e73x0
def a73 : AFun := ⟨[.rd, .rd], false, [.t 4], (
 .seq (.g [oQ 2 (.box (.t 0)), oK 4 0]) (
 .seq (.seq (.g [oM 10 1, oBi 11 .eql 10 0]) (
 .cond (.t 11) (.seq (.g [oK 4 0]) (
 .ret)) (.skip))) (
 .seq (.g [oK 5 1]) (
 .seq (.seq (.g [oK 6 0]) (
 .block 0 (.loop [1, 2, 5, 6] e73x0 b73x0))) (
 .seq (.g [oF 38 3 2, oW 39 (.sl 1) 38, oZ 40 39, oBi 41 .eql 40 0, oM 42 41, oJ 43 42 true (.fad 4 (.t 2)), oJ 44 42 true (.load false [.sl 5] (.t 43)), oJ 45 42 true (.len false (.t 44)), oJ 46 42 true (.bin .eql (.t 45) (.i 0)), oQ 47 (.pick (.t 42) (.t 46) (.b false)), oM 8 47]) (
 .seq (.g [oV 9 false]) (
 .seq (.seq (.g [oF 48 0 2, oW 49 kI 48]) (
 .block 2 (.seq (.g [oBi 51 .eql 49 1, oM 50 51]) (
 .cond (.t 50) (.g [oM 52 8, oM 53 52, oJ 54 53 true (.fad 2 (.t 2)), oJ 55 53 true (.load false [kI] (.t 54)), oJ 56 53 true (.bin .eql (.t 55) (.i 0)), oQ 57 (.pick (.t 53) (.t 56) (.b false)), oM 58 57, oJ 59 58 true (.fad 1 (.t 2)), oJ 60 58 true (.load false [.s] (.t 59)), oJ 61 58 true (.call (.f 110) [.rd] false [.c .b] [.t 60]), oQ 62 (.pick (.t 58) (.t 61) (.b false)), oM 9 62]) (.seq (.g [oBi 64 .eql 49 2, oM 63 64]) (
 .cond (.t 63) (.g [oM 65 8, oM 66 65, oJ 67 66 true (.fad 1 (.t 2)), oJ 68 66 true (.load false [.s] (.t 67)), oJ 69 66 true (.bin .eql (.t 68) (.c (.v (.string ({ data := #[] } : ByteArray))))), oQ 70 (.pick (.t 66) (.t 69) (.b false)), oM 9 70]) (.seq (.g [oBi 72 .eql 49 3, oM 71 72]) (
 .cond (.t 71) (.g [oM 73 8, oM 74 73, oJ 75 74 true (.fad 1 (.t 2)), oJ 76 74 true (.load false [.s] (.t 75)), oJ 77 74 true (.bin .eql (.t 76) (.c (.v (.string ({ data := #[] } : ByteArray))))), oQ 78 (.pick (.t 74) (.t 77) (.b false)), oM 79 78, oJ 80 79 true (.fad 2 (.t 2)), oJ 81 79 true (.load false [kI] (.t 80)), oJ 82 79 true (.call (.f 46) [.rd, .rd, .rd] false [.c .b] [.t 81, .i 0, .i 1]), oQ 83 (.pick (.t 79) (.t 82) (.b false)), oM 9 83]) (.seq (.g [oBi 85 .eql 49 4, oM 84 85]) (
 .cond (.t 84) (.g [oF 86 3 2, oW 87 (.sl 1) 86, oZ 88 87, oBi 89 .eql 88 0, oM 90 89, oJ 91 90 true (.fad 1 (.t 2)), oJ 92 90 true (.load false [.s] (.t 91)), oJ 93 90 true (.bin .eql (.t 92) (.c (.v (.string ({ data := #[] } : ByteArray))))), oQ 94 (.pick (.t 90) (.t 93) (.b false)), oM 95 94, oJ 96 95 true (.fad 2 (.t 2)), oJ 97 95 true (.load false [kI] (.t 96)), oJ 98 95 true (.bin .eql (.t 97) (.i 0)), oQ 99 (.pick (.t 95) (.t 98) (.b false)), oM 9 99]) (.seq (.g [oBi 101 .eql 49 5, oM 100 101]) (
 .cond (.t 100) (.g [oL 102 [kI, .s, kI, .sl 1, .sl 5] 2, oC 103 111 [.c .b] [102], oM 104 103, oJ 105 104 true (.fad 1 (.t 2)), oJ 106 104 true (.load false [.s] (.t 105)), oJ 107 104 true (.bin .eql (.t 106) (.c (.v (.string ({ data := #[] } : ByteArray))))), oQ 108 (.pick (.t 104) (.t 107) (.b false)), oM 109 108, oJ 110 109 true (.fad 2 (.t 2)), oJ 111 109 true (.load false [kI] (.t 110)), oJ 112 109 true (.bin .eql (.t 111) (.i 0)), oQ 113 (.pick (.t 109) (.t 112) (.b false)), oM 9 113]) (.skip))))))))))))) (
 .seq (.seq (.g [oM 114 9, oN 115 114]) (
 .cond (.t 115) (.seq (.g [oK 4 0]) (
 .ret)) (.skip))) (
 .seq (.g [oM 116 5, oM 4 116]) (
 .ret))))))))))⟩
theorem l73x0s (T : Table) (k n : Nat) (n7 n8 n10 n13 n14 : Int) (s9 : ByteArray) (l11 l12 : Rows): l73x0 T k (n + 1) [.v (.int .i64 n7), .b [.v (.int .i64 n8), .v (.string s9), .v (.int .i64 n10), .fz 1 l11, .fz 5 l12], .v (.int .i64 n13), .v (.int .i64 n14)] = (
 bif (decide (n14 < (l12.length : Int))) then (
 tst (decide (0 ≤ n14)) (
 look l12 (Int.toNat n14) fun r15 =>
 cI .i64 r15 0 fun n16 =>
 cS r15 1 fun s17 =>
 cI .i64 r15 2 fun n18 =>
 cL 1 r15 3 fun l19 =>
 cL 5 r15 4 fun l20 =>
 callT T 73 [.g [.v (.int .i64 n16), .v (.string s17), .v (.int .i64 n18), .s 1 l19, .s 5 l20], .d (.v (.int .i64 (IntKind.wrap .i64 (n7 - 1))))] fun o21 =>
 oD o21.res fun d22 =>
 dI .i64 d22 fun n23 =>
 bif (n23 == 0) == false then (
 bif (decide ((IntKind.wrap .i64 (n13 + n23)) > 300)) then (
 some (.ret, [.v (.int .i64 0)])) else (
 l73x0 T k n [.v (.int .i64 n7), .b [.v (.int .i64 n8), .v (.string s9), .v (.int .i64 n10), .fz 1 l11, .fz 5 l12], .v (.int .i64 (IntKind.wrap .i64 (n13 + n23))), .v (.int .i64 (IntKind.wrap .i64 (n14 + 1)))])) else (
 some (.ret, [.v (.int .i64 0)])))) else (
 some ((.exit 0), [.b [.v (.int .i64 n8), .v (.string s9), .v (.int .i64 n10), .fz 1 l11, .fz 5 l12], .v (.int .i64 n13)]))) := by kernel_rfl
theorem a73q (T : Table) (k : Nat) (n1 n3 n6 : Int) (s2 : ByteArray) (l4 l5 : Rows): evalF T k a73 [.g [.v (.int .i64 n1), .v (.string s2), .v (.int .i64 n3), .s 1 l4, .s 5 l5], .d (.v (.int .i64 n6))] = (
 bif (n6 == 0) then (
 some ⟨.d (.v (.int .i64 0)), []⟩) else (
 aft (l73x0 T k k [.v (.int .i64 n6), .b [.v (.int .i64 n1), .v (.string s2), .v (.int .i64 n3), .fz 1 l4, .fz 5 l5], .v (.int .i64 1), .v (.int .i64 0)]) fun e24 ys25 =>
 bif e24.same .ret then (
 aV ys25 0 fun x26 =>
 aI .i64 x26 fun n27 =>
 some ⟨.d (.v (.int .i64 n27)), []⟩) else (
 bif e24.same (.exit 0) then (
 aV ys25 0 fun x28 =>
 aX x28 fun xs29 =>
 aV xs29 0 fun x30 =>
 aI .i64 x30 fun n31 =>
 aV xs29 1 fun x32 =>
 aS x32 fun s33 =>
 aV xs29 2 fun x34 =>
 aI .i64 x34 fun n35 =>
 aV xs29 3 fun x36 =>
 aL 1 x36 fun l37 =>
 aV xs29 4 fun x38 =>
 aL 5 x38 fun l39 =>
 aV ys25 1 fun x40 =>
 aI .i64 x40 fun n41 =>
 bif ((l37.length : Int) == 0) == true then (
 bif (n31 == 1) then (
 bif ((l39.length : Int) == 0) == true then (
 bif (n35 == 0) == true then (
 callT T 110 [.d (.v (.string s33))] fun o42 =>
 oD o42.res fun d43 =>
 dB d43 fun b44 =>
 bif (!b44) then (
 some ⟨.d (.v (.int .i64 0)), []⟩) else (
 some ⟨.d (.v (.int .i64 n41)), []⟩)) else (
 bif (!false) then (
 some ⟨.d (.v (.int .i64 0)), []⟩) else (
 some ⟨.d (.v (.int .i64 n41)), []⟩))) else (
 bif (!false) then (
 some ⟨.d (.v (.int .i64 0)), []⟩) else (
 some ⟨.d (.v (.int .i64 n41)), []⟩))) else (
 bif (n31 == 2) then (
 bif ((l39.length : Int) == 0) == true then (
 bif (!(bytesEq s33 ({ data := #[] } : ByteArray))) then (
 some ⟨.d (.v (.int .i64 0)), []⟩) else (
 some ⟨.d (.v (.int .i64 n41)), []⟩)) else (
 bif (!false) then (
 some ⟨.d (.v (.int .i64 0)), []⟩) else (
 some ⟨.d (.v (.int .i64 n41)), []⟩))) else (
 bif (n31 == 3) then (
 bif ((l39.length : Int) == 0) == true then (
 bif (bytesEq s33 ({ data := #[] } : ByteArray)) == true then (
 callT T 46 [.d (.v (.int .i64 n35)), .d (.v (.int .i64 0)), .d (.v (.int .i64 1))] fun o45 =>
 oD o45.res fun d46 =>
 dB d46 fun b47 =>
 bif (!b47) then (
 some ⟨.d (.v (.int .i64 0)), []⟩) else (
 some ⟨.d (.v (.int .i64 n41)), []⟩)) else (
 bif (!false) then (
 some ⟨.d (.v (.int .i64 0)), []⟩) else (
 some ⟨.d (.v (.int .i64 n41)), []⟩))) else (
 bif (!false) then (
 some ⟨.d (.v (.int .i64 0)), []⟩) else (
 some ⟨.d (.v (.int .i64 n41)), []⟩))) else (
 bif (n31 == 4) then (
 bif ((l37.length : Int) == 0) == true then (
 bif (bytesEq s33 ({ data := #[] } : ByteArray)) == true then (
 bif (!(n35 == 0)) then (
 some ⟨.d (.v (.int .i64 0)), []⟩) else (
 some ⟨.d (.v (.int .i64 n41)), []⟩)) else (
 bif (!false) then (
 some ⟨.d (.v (.int .i64 0)), []⟩) else (
 some ⟨.d (.v (.int .i64 n41)), []⟩))) else (
 bif (!false) then (
 some ⟨.d (.v (.int .i64 0)), []⟩) else (
 some ⟨.d (.v (.int .i64 n41)), []⟩))) else (
 bif (n31 == 5) then (
 callT T 111 [.g [.v (.int .i64 n31), .v (.string s33), .v (.int .i64 n35), .s 1 l37, .s 5 l39]] fun o48 =>
 oD o48.res fun d49 =>
 dB d49 fun b50 =>
 bif b50 == true then (
 bif (bytesEq s33 ({ data := #[] } : ByteArray)) == true then (
 bif (!(n35 == 0)) then (
 some ⟨.d (.v (.int .i64 0)), []⟩) else (
 some ⟨.d (.v (.int .i64 n41)), []⟩)) else (
 bif (!false) then (
 some ⟨.d (.v (.int .i64 0)), []⟩) else (
 some ⟨.d (.v (.int .i64 n41)), []⟩))) else (
 bif (!false) then (
 some ⟨.d (.v (.int .i64 0)), []⟩) else (
 some ⟨.d (.v (.int .i64 n41)), []⟩))) else (
 bif (!false) then (
 some ⟨.d (.v (.int .i64 0)), []⟩) else (
 some ⟨.d (.v (.int .i64 n41)), []⟩))))))) else (
 bif (n31 == 1) then (
 bif (!false) then (
 some ⟨.d (.v (.int .i64 0)), []⟩) else (
 some ⟨.d (.v (.int .i64 n41)), []⟩)) else (
 bif (n31 == 2) then (
 bif (!false) then (
 some ⟨.d (.v (.int .i64 0)), []⟩) else (
 some ⟨.d (.v (.int .i64 n41)), []⟩)) else (
 bif (n31 == 3) then (
 bif (!false) then (
 some ⟨.d (.v (.int .i64 0)), []⟩) else (
 some ⟨.d (.v (.int .i64 n41)), []⟩)) else (
 bif (n31 == 4) then (
 bif ((l37.length : Int) == 0) == true then (
 bif (bytesEq s33 ({ data := #[] } : ByteArray)) == true then (
 bif (!(n35 == 0)) then (
 some ⟨.d (.v (.int .i64 0)), []⟩) else (
 some ⟨.d (.v (.int .i64 n41)), []⟩)) else (
 bif (!false) then (
 some ⟨.d (.v (.int .i64 0)), []⟩) else (
 some ⟨.d (.v (.int .i64 n41)), []⟩))) else (
 bif (!false) then (
 some ⟨.d (.v (.int .i64 0)), []⟩) else (
 some ⟨.d (.v (.int .i64 n41)), []⟩))) else (
 bif (n31 == 5) then (
 callT T 111 [.g [.v (.int .i64 n31), .v (.string s33), .v (.int .i64 n35), .s 1 l37, .s 5 l39]] fun o51 =>
 oD o51.res fun d52 =>
 dB d52 fun b53 =>
 bif b53 == true then (
 bif (bytesEq s33 ({ data := #[] } : ByteArray)) == true then (
 bif (!(n35 == 0)) then (
 some ⟨.d (.v (.int .i64 0)), []⟩) else (
 some ⟨.d (.v (.int .i64 n41)), []⟩)) else (
 bif (!false) then (
 some ⟨.d (.v (.int .i64 0)), []⟩) else (
 some ⟨.d (.v (.int .i64 n41)), []⟩))) else (
 bif (!false) then (
 some ⟨.d (.v (.int .i64 0)), []⟩) else (
 some ⟨.d (.v (.int .i64 n41)), []⟩))) else (
 bif (!false) then (
 some ⟨.d (.v (.int .i64 0)), []⟩) else (
 some ⟨.d (.v (.int .i64 n41)), []⟩)))))))) else (
 none)))) := by kernel_rfl
-- a74 "loop.example/g00119/spec.l4Reach": takeCell fz
/- loop.example/g00119/spec.ValueOk -/
def a40 : AFun := ⟨[.rd], false, [.t 2], (
 .seq (.g [oQ 1 (.box (.t 0)), oV 2 false]) (
 .seq (.g [oL 3 [kI, .s, kI, .sl 1, .sl 5] 1, oQ 4 (.call (.f 73) [.rd, .rd] false [.c kI] [.t 3, .i 6]), oBi 5 .gtr 4 0, oM 2 5]) (
 .ret)))⟩
theorem a40q (T : Table) (k : Nat) (n1 n3 : Int) (s2 : ByteArray) (l4 l5 : Rows): evalF T k a40 [.g [.v (.int .i64 n1), .v (.string s2), .v (.int .i64 n3), .s 1 l4, .s 5 l5]] = (
 callT T 73 [.g [.v (.int .i64 n1), .v (.string s2), .v (.int .i64 n3), .s 1 l4, .s 5 l5], .d (.v (.int .i64 6))] fun o6 =>
 oD o6.res fun d7 =>
 dI .i64 d7 fun n8 =>
 some ⟨.d (.v (.bool (decide (n8 > 0)))), []⟩) := by kernel_rfl
/- loop.example/g00119/spec.l4Number -/
def b79x0 : ACode := (
 .seq (.seq (.g [oM 19 4, oM 20 0, oQ 21 (.len true (.t 20)), oB 22 .lss 19 21]) (
 .cond (.t 22) (.skip) (.exit 0))) (
 .seq (.block 1 (.seq (.seq (.g [oM 25 0, oM 26 4, oQ 27 (.idx (.t 25) (.t 26)), oQ 28 (.conv (.int .i64) (.t 27)), oQ 29 (.call (.f 46) [.rd, .rd, .rd] false [.c .b] [.t 28, .i 48, .i 57]), oN 30 29]) (
 .cond (.t 30) (.seq (.g [oK 2 (-1)]) (
 .ret)) (.skip))) (
 .g [oM 31 3, oBi 32 .mul 31 10, oM 33 0, oM 34 4, oQ 35 (.idx (.t 33) (.t 34)), oQ 36 (.bin .sub (.t 35) (.c (.v (.int .u8 48)))), oQ 37 (.conv (.int .i64) (.t 36)), oB 38 .add 32 37, oM 3 38]))) (
 .g [oM 23 4, oBi 24 .add 23 1, oM 4 24])))
def e79x0 : Exits := [(.ret, [(2, .c kI)]), ((.exit 0), [(3, .c kI)])]
noncomputable def l79x0 (T : Table) (k : Nat) := loopN (evalC ⟨T, [], []⟩ k b79x0 (Ex × List AV)) [0, 3, 4] e79x0
def a79 : AFun := ⟨[.rd], false, [.t 2], (
 .seq (.g [oK 2 0]) (
 .seq (.g [oK 3 0]) (
 .seq (.seq (.g [oM 5 0, oQ 6 (.len true (.t 5)), oQ 7 (.call (.f 46) [.rd, .rd, .rd] false [.c .b] [.t 6, .i 1, .i 9]), oN 8 7, oM 9 8, oJ 10 9 false (.mv (.t 0)), oJ 11 9 false (.len true (.t 10)), oJ 12 9 false (.bin .gtr (.t 11) (.i 1)), oJ 13 9 false (.mv (.t 12)), oJ 14 13 true (.mv (.t 0)), oJ 15 13 true (.idx (.t 14) (.i 0)), oJ 16 13 true (.bin .eql (.t 15) (.c (.v (.int .u8 48)))), oJ 17 9 false (.pick (.t 13) (.t 16) (.b false)), oQ 18 (.pick (.t 9) (.b true) (.t 17))]) (
 .cond (.t 18) (.seq (.g [oK 2 (-1)]) (
 .ret)) (.skip))) (
 .seq (.seq (.g [oK 4 0]) (
 .block 0 (.loop [0, 3, 4] e79x0 b79x0))) (
 .seq (.g [oM 39 3, oM 2 39]) (
 .ret))))))⟩
theorem l79x0s (T : Table) (k n : Nat) (s6 : ByteArray) (n7 n8 : Int): l79x0 T k (n + 1) [.v (.string s6), .v (.int .i64 n7), .v (.int .i64 n8)] = (
 bif (decide (n8 < (s6.size : Int))) then (
 tst (decide (0 ≤ n8)) (
 byteAt s6 (Int.toNat n8) fun c9 =>
 callT T 46 [.d (.v (.int .i64 (IntKind.wrap .i64 (c9.toNat : Int)))), .d (.v (.int .i64 48)), .d (.v (.int .i64 57))] fun o10 =>
 oD o10.res fun d11 =>
 dB d11 fun b12 =>
 bif (!b12) then (
 some (.ret, [.v (.int .i64 (-1))])) else (
 tst (decide (0 ≤ n8)) (
 byteAt s6 (Int.toNat n8) fun c13 =>
 l79x0 T k n [.v (.string s6), .v (.int .i64 (IntKind.wrap .i64 ((IntKind.wrap .i64 (n7 * 10)) + (IntKind.wrap .i64 (IntKind.wrap .u8 ((c13.toNat : Int) - 48)))))), .v (.int .i64 (IntKind.wrap .i64 (n8 + 1)))])))) else (
 some ((.exit 0), [.v (.int .i64 n7)]))) := by kernel_rfl
theorem a79q (T : Table) (k : Nat) (s1 : ByteArray): evalF T k a79 [.d (.v (.string s1))] = (
 callT T 46 [.d (.v (.int .i64 (s1.size : Int))), .d (.v (.int .i64 1)), .d (.v (.int .i64 9))] fun o2 =>
 oD o2.res fun d3 =>
 dB d3 fun b4 =>
 bif (!b4) == false then (
 bif (decide ((s1.size : Int) > 1)) == true then (
 tst (decide (0 ≤ 0)) (
 byteAt s1 (Int.toNat 0) fun c5 =>
 bif ((c5.toNat : Int) == 48) then (
 some ⟨.d (.v (.int .i64 (-1))), []⟩) else (
 aft (l79x0 T k k [.v (.string s1), .v (.int .i64 0), .v (.int .i64 0)]) fun e14 ys15 =>
 bif e14.same .ret then (
 aV ys15 0 fun x16 =>
 aI .i64 x16 fun n17 =>
 some ⟨.d (.v (.int .i64 n17)), []⟩) else (
 bif e14.same (.exit 0) then (
 aV ys15 0 fun x18 =>
 aI .i64 x18 fun n19 =>
 some ⟨.d (.v (.int .i64 n19)), []⟩) else (
 none))))) else (
 aft (l79x0 T k k [.v (.string s1), .v (.int .i64 0), .v (.int .i64 0)]) fun e20 ys21 =>
 bif e20.same .ret then (
 aV ys21 0 fun x22 =>
 aI .i64 x22 fun n23 =>
 some ⟨.d (.v (.int .i64 n23)), []⟩) else (
 bif e20.same (.exit 0) then (
 aV ys21 0 fun x24 =>
 aI .i64 x24 fun n25 =>
 some ⟨.d (.v (.int .i64 n25)), []⟩) else (
 none)))) else (
 some ⟨.d (.v (.int .i64 (-1))), []⟩)) := by kernel_rfl
/- loop.example/g00119/spec.l5Path -/
def b47x0 : ACode := (
 .seq (.seq (.g [oM 4 3, oM 5 0, oZ 6 5, oB 7 .lss 4 6]) (
 .cond (.t 7) (.skip) (.exit 0))) (
 .seq (.block 1 (.seq (.g [oM 10 0, oM 11 3, oI 12 1 10 11, oW 13 .s 12, oC 14 78 [.c .b] [13], oN 15 14, oM 16 15, oJ 17 16 true (.mv (.t 0)), oJ 18 16 true (.mv (.t 3)), oJ 19 16 true (.iad 1 (.t 17) (.t 18)), oJ 20 16 true (.load false [.s] (.t 19)), oJ 21 16 true (.call (.f 79) [.rd] false [.c kI] [.t 20]), oJ 22 16 true (.bin .lss (.t 21) (.i 0)), oQ 23 (.pick (.t 16) (.t 22) (.b false))]) (
 .cond (.t 23) (.seq (.g [oV 2 false]) (
 .ret)) (.skip)))) (
 .g [oM 8 3, oBi 9 .add 8 1, oM 3 9])))
def e47x0 : Exits := [(.ret, [(2, .c .b)]), ((.exit 0), [(0, .c (.sl 1))])]
noncomputable def l47x0 (T : Table) (k : Nat) := loopN (evalC ⟨T, [], []⟩ k b47x0 (Ex × List AV)) [0, 3] e47x0
def a47 : AFun := ⟨[.rd], false, [.t 2], (
 .seq (.g [oV 2 false]) (
 .seq (.seq (.g [oK 3 0]) (
 .block 0 (.loop [0, 3] e47x0 b47x0))) (
 .seq (.g [oM 24 0, oZ 25 24, oQ 26 (.call (.f 46) [.rd, .rd, .rd] false [.c .b] [.t 25, .i 1, .i 5]), oM 2 26]) (
 .ret))))⟩
theorem l47x0s (T : Table) (k n : Nat) (l2 : Rows) (n3 : Int): l47x0 T k (n + 1) [.fz 1 l2, .v (.int .i64 n3)] = (
 bif (decide (n3 < (l2.length : Int))) then (
 tst (decide (0 ≤ n3)) (
 look l2 (Int.toNat n3) fun r4 =>
 cS r4 0 fun s5 =>
 callT T 78 [.d (.v (.string s5))] fun o6 =>
 oD o6.res fun d7 =>
 dB d7 fun b8 =>
 bif (!b8) == true then (
 tst (decide (0 ≤ n3)) (
 look l2 (Int.toNat n3) fun r9 =>
 cS r9 0 fun s10 =>
 callT T 79 [.d (.v (.string s10))] fun o11 =>
 oD o11.res fun d12 =>
 dI .i64 d12 fun n13 =>
 bif (decide (n13 < 0)) then (
 some (.ret, [.v (.bool false)])) else (
 l47x0 T k n [.fz 1 l2, .v (.int .i64 (IntKind.wrap .i64 (n3 + 1)))]))) else (
 l47x0 T k n [.fz 1 l2, .v (.int .i64 (IntKind.wrap .i64 (n3 + 1)))]))) else (
 some ((.exit 0), [.fz 1 l2]))) := by kernel_rfl
theorem a47q (T : Table) (k : Nat) (l1 : Rows): evalF T k a47 [.d (.s 1 l1)] = (
 aft (l47x0 T k k [.fz 1 l1, .v (.int .i64 0)]) fun e14 ys15 =>
 bif e14.same .ret then (
 aV ys15 0 fun x16 =>
 aB x16 fun b17 =>
 some ⟨.d (.v (.bool b17)), []⟩) else (
 bif e14.same (.exit 0) then (
 aV ys15 0 fun x18 =>
 aL 1 x18 fun l19 =>
 callT T 46 [.d (.v (.int .i64 (l19.length : Int))), .d (.v (.int .i64 1)), .d (.v (.int .i64 5))] fun o20 =>
 oD o20.res fun d21 =>
 dB d21 fun b22 =>
 some ⟨.d (.v (.bool b22)), []⟩) else (
 none))) := by kernel_rfl
/- loop.example/g00119/spec.l5Zero -/
def a48 : AFun := ⟨[.rd], false, [.t 2], (
 .seq (.g [oQ 1 (.box (.t 0)), oV 2 false]) (
 .seq (.g [oF 3 0 1, oW 4 kI 3, oBi 5 .eql 4 0, oM 6 5, oJ 7 6 true (.fad 1 (.t 1)), oJ 8 6 true (.load false [.s] (.t 7)), oJ 9 6 true (.bin .eql (.t 8) (.c (.v (.string ({ data := #[] } : ByteArray))))), oQ 10 (.pick (.t 6) (.t 9) (.b false)), oM 11 10, oJ 12 11 true (.fad 2 (.t 1)), oJ 13 11 true (.load false [kI] (.t 12)), oJ 14 11 true (.bin .eql (.t 13) (.i 0)), oQ 15 (.pick (.t 11) (.t 14) (.b false)), oM 16 15, oJ 17 16 true (.fad 3 (.t 1)), oJ 18 16 true (.load false [.sl 1] (.t 17)), oJ 19 16 true (.len false (.t 18)), oJ 20 16 true (.bin .eql (.t 19) (.i 0)), oQ 21 (.pick (.t 16) (.t 20) (.b false)), oM 22 21, oJ 23 22 true (.fad 4 (.t 1)), oJ 24 22 true (.load false [.sl 5] (.t 23)), oJ 25 22 true (.len false (.t 24)), oJ 26 22 true (.bin .eql (.t 25) (.i 0)), oQ 27 (.pick (.t 22) (.t 26) (.b false)), oM 2 27]) (
 .ret)))⟩
theorem a48q (T : Table) (k : Nat) (n1 n3 : Int) (s2 : ByteArray) (l4 l5 : Rows): evalF T k a48 [.g [.v (.int .i64 n1), .v (.string s2), .v (.int .i64 n3), .s 1 l4, .s 5 l5]] = (
 bif (n1 == 0) == true then (
 bif (bytesEq s2 ({ data := #[] } : ByteArray)) == true then (
 bif (n3 == 0) == true then (
 bif ((l4.length : Int) == 0) == true then (
 some ⟨.d (.v (.bool ((l5.length : Int) == 0))), []⟩) else (
 some ⟨.d (.v (.bool false)), []⟩)) else (
 some ⟨.d (.v (.bool false)), []⟩)) else (
 some ⟨.d (.v (.bool false)), []⟩)) else (
 some ⟨.d (.v (.bool false)), []⟩)) := by kernel_rfl
/- loop.example/g00119/spec.PatchOk -/
def b17x0 : ACode := (
 .seq (.seq (.g [oM 5 3, oM 6 0, oZ 7 6, oB 8 .lss 5 7]) (
 .cond (.t 8) (.skip) (.exit 0))) (
 .seq (.block 1 (.seq (.g [oM 11 0, oM 12 3, oI 13 7 11 12, oL 14 [kI, .sl 1, kI, .s, kI, .sl 1, .sl 5] 13, oQ 4 (.alloc [.v (.int .i64 0), .s 1 [], .v (.int .i64 0), .v (.string ByteArray.empty), .v (.int .i64 0), .s 1 [], .s 5 []]), oS (.store 7 (.t 4) (.t 14))]) (
 .seq (.seq (.g [oF 15 0 4, oW 16 kI 15, oQ 17 (.call (.f 46) [.rd, .rd, .rd] false [.c .b] [.t 16, .i 1, .i 3]), oN 18 17, oM 19 18, oJ 20 19 false (.fad 1 (.t 4)), oJ 21 19 false (.load false [.sl 1] (.t 20)), oJ 22 19 false (.call (.f 47) [.rd] false [.c .b] [.t 21]), oJ 23 19 false (.un .not (.t 22)), oQ 24 (.pick (.t 19) (.b true) (.t 23))]) (
 .cond (.t 24) (.seq (.g [oV 2 false]) (
 .ret)) (.skip))) (
 .seq (.g [oF 25 0 4, oW 26 kI 25, oBi 27 .eql 26 2, oM 28 27, oJ 29 28 true (.fad 2 (.t 4)), oJ 30 28 true (.load true [kI, .s, kI, .sl 1, .sl 5] (.t 29)), oJ 31 28 true (.call (.f 48) [.rd] false [.c .b] [.t 30]), oJ 32 28 true (.un .not (.t 31)), oQ 33 (.pick (.t 28) (.t 32) (.b false)), oM 34 33, oJ 35 34 false (.fad 0 (.t 4)), oJ 36 34 false (.load false [kI] (.t 35)), oJ 37 34 false (.bin .neq (.t 36) (.i 2)), oJ 38 34 false (.mv (.t 37)), oJ 39 38 true (.fad 2 (.t 4)), oJ 40 38 true (.load true [kI, .s, kI, .sl 1, .sl 5] (.t 39)), oJ 41 38 true (.call (.f 40) [.rd] false [.c .b] [.t 40]), oJ 42 38 true (.un .not (.t 41)), oJ 43 34 false (.pick (.t 38) (.t 42) (.b false)), oQ 44 (.pick (.t 34) (.b true) (.t 43))]) (
 .cond (.t 44) (.seq (.g [oV 2 false]) (
 .ret)) (.skip)))))) (
 .g [oM 9 3, oBi 10 .add 9 1, oM 3 10])))
def e17x0 : Exits := [(.ret, [(2, .c .b)]), ((.exit 0), [(0, .c (.sl 7))])]
noncomputable def l17x0 (T : Table) (k : Nat) := loopN (evalC ⟨T, [], []⟩ k b17x0 (Ex × List AV)) [0, 3] e17x0
def a17 : AFun := ⟨[.rd], false, [.t 2], (
 .seq (.g [oV 2 false]) (
 .seq (.seq (.g [oK 3 0]) (
 .block 0 (.loop [0, 3] e17x0 b17x0))) (
 .seq (.g [oM 45 0, oZ 46 45, oBi 47 .leq 46 20, oM 2 47]) (
 .ret))))⟩
theorem l17x0s (T : Table) (k n : Nat) (l2 : Rows) (n3 : Int): l17x0 T k (n + 1) [.fz 7 l2, .v (.int .i64 n3)] = (
 bif (decide (n3 < (l2.length : Int))) then (
 tst (decide (0 ≤ n3)) (
 look l2 (Int.toNat n3) fun r4 =>
 cI .i64 r4 0 fun n5 =>
 cL 1 r4 1 fun l6 =>
 cI .i64 r4 2 fun n7 =>
 cS r4 3 fun s8 =>
 cI .i64 r4 4 fun n9 =>
 cL 1 r4 5 fun l10 =>
 cL 5 r4 6 fun l11 =>
 callT T 46 [.d (.v (.int .i64 n5)), .d (.v (.int .i64 1)), .d (.v (.int .i64 3))] fun o12 =>
 oD o12.res fun d13 =>
 dB d13 fun b14 =>
 bif (!b14) == false then (
 callT T 47 [.d (.s 1 l6)] fun o15 =>
 oD o15.res fun d16 =>
 dB d16 fun b17 =>
 bif (!b17) then (
 some (.ret, [.v (.bool false)])) else (
 bif (n5 == 2) == true then (
 callT T 48 [.g [.v (.int .i64 n7), .v (.string s8), .v (.int .i64 n9), .s 1 l10, .s 5 l11]] fun o18 =>
 oD o18.res fun d19 =>
 dB d19 fun b20 =>
 bif (!b20) == false then (
 bif (n5 != 2) == true then (
 callT T 40 [.g [.v (.int .i64 n7), .v (.string s8), .v (.int .i64 n9), .s 1 l10, .s 5 l11]] fun o21 =>
 oD o21.res fun d22 =>
 dB d22 fun b23 =>
 bif (!b23) then (
 some (.ret, [.v (.bool false)])) else (
 l17x0 T k n [.fz 7 l2, .v (.int .i64 (IntKind.wrap .i64 (n3 + 1)))])) else (
 l17x0 T k n [.fz 7 l2, .v (.int .i64 (IntKind.wrap .i64 (n3 + 1)))])) else (
 some (.ret, [.v (.bool false)]))) else (
 bif (n5 != 2) == true then (
 callT T 40 [.g [.v (.int .i64 n7), .v (.string s8), .v (.int .i64 n9), .s 1 l10, .s 5 l11]] fun o24 =>
 oD o24.res fun d25 =>
 dB d25 fun b26 =>
 bif (!b26) then (
 some (.ret, [.v (.bool false)])) else (
 l17x0 T k n [.fz 7 l2, .v (.int .i64 (IntKind.wrap .i64 (n3 + 1)))])) else (
 l17x0 T k n [.fz 7 l2, .v (.int .i64 (IntKind.wrap .i64 (n3 + 1)))])))) else (
 some (.ret, [.v (.bool false)])))) else (
 some ((.exit 0), [.fz 7 l2]))) := by kernel_rfl
theorem a17q (T : Table) (k : Nat) (l1 : Rows): evalF T k a17 [.d (.s 7 l1)] = (
 aft (l17x0 T k k [.fz 7 l1, .v (.int .i64 0)]) fun e27 ys28 =>
 bif e27.same .ret then (
 aV ys28 0 fun x29 =>
 aB x29 fun b30 =>
 some ⟨.d (.v (.bool b30)), []⟩) else (
 bif e27.same (.exit 0) then (
 aV ys28 0 fun x31 =>
 aL 7 x31 fun l32 =>
 some ⟨.d (.v (.bool (decide ((l32.length : Int) ≤ 20)))), []⟩) else (
 none))) := by kernel_rfl
/- loop.example/g00119/spec.l1Split -/
def b19x0 : ACode := (
 .seq (.seq (.g [oM 9 7, oM 10 0, oQ 11 (.len true (.t 10)), oB 12 .leq 9 11]) (
 .cond (.t 12) (.skip) (.exit 0))) (
 .seq (.block 1 (.seq (.g [oM 15 7, oM 16 0, oQ 17 (.len true (.t 16)), oB 18 .eql 15 17, oM 19 18, oJ 20 19 false (.mv (.t 0)), oJ 21 19 false (.mv (.t 7)), oJ 22 19 false (.idx (.t 20) (.t 21)), oJ 23 19 false (.mv (.t 1)), oJ 24 19 false (.bin .eql (.t 22) (.t 23)), oQ 25 (.pick (.t 19) (.b true) (.t 24))]) (
 .cond (.t 25) (.seq (.g [oM 26 5, oM 27 0, oM 28 6, oM 29 7, oQ 30 (.slc none (.t 27) (some (.t 28)) (some (.t 29))), oQ 31 (.lit 1 ([[.v (.string ByteArray.empty)]] : Rows) [(0, (.t 30))]), oQ 32 (.app 1 16 (.t 26) (.t 31)), oM 5 32]) (
 .g [oM 33 7, oBi 34 .add 33 1, oM 6 34])) (.skip)))) (
 .g [oM 13 7, oBi 14 .add 13 1, oM 7 14])))
def e19x0 : Exits := [((.exit 0), [(5, .o 1)])]
noncomputable def l19x0 (T : Table) (k : Nat) := loopN (evalC ⟨T, [], []⟩ k b19x0 (Ex × List AV)) [0, 1, 5, 6, 7] e19x0
def a19 : AFun := ⟨[.rd, .rd], false, [.t 4], (
 .seq (.g [oQ 4 (.mv (.c (.o 1 [])))]) (
 .seq (.g [oQ 8 (.lit 1 ([] : Rows) []), oM 5 8]) (
 .seq (.g [oK 6 0]) (
 .seq (.seq (.g [oK 7 0]) (
 .block 0 (.loop [0, 1, 5, 6, 7] e19x0 b19x0))) (
 .seq (.g [oM 35 5, oM 4 35]) (
 .ret))))))⟩
theorem l19x0s (T : Table) (k n : Nat) (s3 : ByteArray) (n4 n6 n7 : Int) (l5 : Rows): l19x0 T k (n + 1) [.v (.string s3), .v (.int .u8 n4), .o 1 l5, .v (.int .i64 n6), .v (.int .i64 n7)] = (
 bif (decide (n7 ≤ (s3.size : Int))) then (
 bif (n7 == (s3.size : Int)) == false then (
 tst (decide (0 ≤ n7)) (
 byteAt s3 (Int.toNat n7) fun c8 =>
 bif ((c8.toNat : Int) == n4) then (
 tst (cutOk n6 n7 (s3.size)) (
 tst (decide ((l5.length + ([[.v (.string (s3.extract (Int.toNat n6) (Int.toNat n7)))]] : Rows).length) * 16 ≤ maxBytes)) (
 l19x0 T k n [.v (.string s3), .v (.int .u8 n4), .o 1 (l5 ++ ([[.v (.string (s3.extract (Int.toNat n6) (Int.toNat n7)))]] : Rows)), .v (.int .i64 (IntKind.wrap .i64 (n7 + 1))), .v (.int .i64 (IntKind.wrap .i64 (n7 + 1)))]))) else (
 l19x0 T k n [.v (.string s3), .v (.int .u8 n4), .o 1 l5, .v (.int .i64 n6), .v (.int .i64 (IntKind.wrap .i64 (n7 + 1)))]))) else (
 tst (cutOk n6 n7 (s3.size)) (
 tst (decide ((l5.length + ([[.v (.string (s3.extract (Int.toNat n6) (Int.toNat n7)))]] : Rows).length) * 16 ≤ maxBytes)) (
 l19x0 T k n [.v (.string s3), .v (.int .u8 n4), .o 1 (l5 ++ ([[.v (.string (s3.extract (Int.toNat n6) (Int.toNat n7)))]] : Rows)), .v (.int .i64 (IntKind.wrap .i64 (n7 + 1))), .v (.int .i64 (IntKind.wrap .i64 (n7 + 1)))])))) else (
 some ((.exit 0), [.o 1 l5]))) := by kernel_rfl
theorem a19q (T : Table) (k : Nat) (s1 : ByteArray) (n2 : Int): evalF T k a19 [.d (.v (.string s1)), .d (.v (.int .u8 n2))] = (
 aft (l19x0 T k k [.v (.string s1), .v (.int .u8 n2), .o 1 [], .v (.int .i64 0), .v (.int .i64 0)]) fun e9 ys10 =>
 bif e9.same (.exit 0) then (
 aV ys10 0 fun x11 =>
 aO 1 x11 fun l12 =>
 some ⟨.d (.s 1 l12), []⟩) else (
 none)) := by kernel_rfl
/- loop.example/g00119/spec.l4Quoted -/
def b87x0 : ACode := (
 .seq (.seq (.g [oM 6 4, oM 7 0, oQ 8 (.len true (.t 7)), oB 9 .lss 6 8]) (
 .cond (.t 9) (.skip) (.exit 0))) (
 .seq (.block 1 (.seq (.seq (.g [oM 12 0, oM 13 4, oQ 14 (.idx (.t 12) (.t 13)), oQ 15 (.bin .eql (.t 14) (.c (.v (.int .u8 34)))), oM 16 15, oJ 17 16 false (.mv (.t 0)), oJ 18 16 false (.mv (.t 4)), oJ 19 16 false (.idx (.t 17) (.t 18)), oJ 20 16 false (.bin .eql (.t 19) (.c (.v (.int .u8 92)))), oQ 21 (.pick (.t 16) (.b true) (.t 20))]) (
 .cond (.t 21) (.g [oM 22 3, oQ 23 (.lit 1 ([[.v (.int .u8 0)]] : Rows) [(0, (.c (.v (.int .u8 92))))]), oQ 24 (.app 1 1 (.t 22) (.t 23)), oM 3 24]) (.skip))) (
 .g [oM 25 3, oM 26 0, oM 27 4, oQ 28 (.idx (.t 26) (.t 27)), oQ 29 (.lit 1 ([[.v (.int .u8 0)]] : Rows) [(0, (.t 28))]), oQ 30 (.app 1 1 (.t 25) (.t 29)), oM 3 30]))) (
 .g [oM 10 4, oBi 11 .add 10 1, oM 4 11])))
def e87x0 : Exits := [((.exit 0), [(3, .o 1)])]
noncomputable def l87x0 (T : Table) (k : Nat) := loopN (evalC ⟨T, [], []⟩ k b87x0 (Ex × List AV)) [0, 3, 4] e87x0
def a87 : AFun := ⟨[.rd], false, [.t 2], (
 .seq (.g [oQ 2 (.mv (.c (.v (.string ({ data := #[] } : ByteArray)))))]) (
 .seq (.g [oQ 5 (.lit 1 ([[.v (.int .u8 0)]] : Rows) [(0, (.c (.v (.int .u8 34))))]), oM 3 5]) (
 .seq (.seq (.g [oK 4 0]) (
 .block 0 (.loop [0, 3, 4] e87x0 b87x0))) (
 .seq (.g [oM 31 3, oQ 32 (.lit 1 ([[.v (.int .u8 0)]] : Rows) [(0, (.c (.v (.int .u8 34))))]), oQ 33 (.app 1 1 (.t 31) (.t 32)), oQ 34 (.conv .bytesStr (.t 33)), oM 2 34]) (
 .ret)))))⟩
theorem l87x0s (T : Table) (k n : Nat) (s2 : ByteArray) (l3 : Rows) (n4 : Int): l87x0 T k (n + 1) [.v (.string s2), .o 1 l3, .v (.int .i64 n4)] = (
 bif (decide (n4 < (s2.size : Int))) then (
 tst (decide (0 ≤ n4)) (
 byteAt s2 (Int.toNat n4) fun c5 =>
 bif ((c5.toNat : Int) == 34) == false then (
 tst (decide (0 ≤ n4)) (
 byteAt s2 (Int.toNat n4) fun c6 =>
 bif ((c6.toNat : Int) == 92) then (
 tst (decide ((l3.length + ([[.v (.int .u8 92)]] : Rows).length) * 1 ≤ maxBytes)) (
 tst (decide (0 ≤ n4)) (
 byteAt s2 (Int.toNat n4) fun c7 =>
 tst (decide (((l3 ++ ([[.v (.int .u8 92)]] : Rows)).length + ([[.v (.int .u8 (c7.toNat : Int))]] : Rows).length) * 1 ≤ maxBytes)) (
 l87x0 T k n [.v (.string s2), .o 1 ((l3 ++ ([[.v (.int .u8 92)]] : Rows)) ++ ([[.v (.int .u8 (c7.toNat : Int))]] : Rows)), .v (.int .i64 (IntKind.wrap .i64 (n4 + 1)))])))) else (
 tst (decide (0 ≤ n4)) (
 byteAt s2 (Int.toNat n4) fun c8 =>
 tst (decide ((l3.length + ([[.v (.int .u8 (c8.toNat : Int))]] : Rows).length) * 1 ≤ maxBytes)) (
 l87x0 T k n [.v (.string s2), .o 1 (l3 ++ ([[.v (.int .u8 (c8.toNat : Int))]] : Rows)), .v (.int .i64 (IntKind.wrap .i64 (n4 + 1)))]))))) else (
 tst (decide ((l3.length + ([[.v (.int .u8 92)]] : Rows).length) * 1 ≤ maxBytes)) (
 tst (decide (0 ≤ n4)) (
 byteAt s2 (Int.toNat n4) fun c9 =>
 tst (decide (((l3 ++ ([[.v (.int .u8 92)]] : Rows)).length + ([[.v (.int .u8 (c9.toNat : Int))]] : Rows).length) * 1 ≤ maxBytes)) (
 l87x0 T k n [.v (.string s2), .o 1 ((l3 ++ ([[.v (.int .u8 92)]] : Rows)) ++ ([[.v (.int .u8 (c9.toNat : Int))]] : Rows)), .v (.int .i64 (IntKind.wrap .i64 (n4 + 1)))])))))) else (
 some ((.exit 0), [.o 1 l3]))) := by kernel_rfl
theorem a87q (T : Table) (k : Nat) (s1 : ByteArray): evalF T k a87 [.d (.v (.string s1))] = (
 aft (l87x0 T k k [.v (.string s1), .o 1 ([[.v (.int .u8 34)]] : Rows), .v (.int .i64 0)]) fun e10 ys11 =>
 bif e10.same (.exit 0) then (
 aV ys11 0 fun x12 =>
 aO 1 x12 fun l13 =>
 tst (decide ((l13.length + ([[.v (.int .u8 34)]] : Rows).length) * 1 ≤ maxBytes)) (
 tst (allBytes (l13 ++ ([[.v (.int .u8 34)]] : Rows))) (
 some ⟨.d (.v (.string (bytesOfRows (l13 ++ ([[.v (.int .u8 34)]] : Rows))))), []⟩))) else (
 none)) := by kernel_rfl
/- loop.example/g00119/spec.l4Int -/
def b88x0 : ACode := (
 .seq (.seq (.g [oM 15 3, oQ 16 (.bin .geq (.t 15) (.c (.v (.int .u64 10))))]) (
 .cond (.t 16) (.skip) (.exit 0))) (
 .block 1 (.seq (.g [oM 17 3, oQ 18 (.bin .rem (.t 17) (.c (.v (.int .u64 10)))), oQ 19 (.bin .add (.c (.v (.int .u64 48))) (.t 18)), oQ 20 (.conv (.int .u8) (.t 19)), oQ 21 (.lit 1 ([[.v (.int .u8 0)]] : Rows) [(0, (.t 20))]), oQ 22 (.conv .bytesStr (.t 21)), oM 23 5, oB 24 .add 22 23, oM 5 24]) (
 .g [oM 25 3, oQ 26 (.bin .quo (.t 25) (.c (.v (.int .u64 10)))), oM 3 26]))))
def e88x0 : Exits := [((.exit 0), [(3, .c (.i .u64)), (4, .c .s), (5, .c .s)])]
noncomputable def l88x0 (T : Table) (k : Nat) := loopN (evalC ⟨T, [], []⟩ k b88x0 (Ex × List AV)) [3, 4, 5] e88x0
def a88 : AFun := ⟨[.rd], false, [.t 2], (
 .seq (.g [oQ 2 (.mv (.c (.v (.string ({ data := #[] } : ByteArray)))))]) (
 .seq (.g [oM 6 0, oQ 7 (.conv (.int .u64) (.t 6)), oM 3 7]) (
 .seq (.g [oQ 4 (.mv (.c (.v (.string ({ data := #[] } : ByteArray)))))]) (
 .seq (.seq (.g [oM 8 0, oBi 9 .lss 8 0]) (
 .cond (.t 9) (.seq (.g [oM 10 0, oBi 11 .add 10 1, oQ 12 (.un .neg (.t 11)), oQ 13 (.conv (.int .u64) (.t 12)), oQ 14 (.bin .add (.t 13) (.c (.v (.int .u64 1)))), oM 3 14]) (
 .g [oQ 4 (.mv (.c (.v (.string ({ data := #[45] } : ByteArray)))))])) (.skip))) (
 .seq (.g [oQ 5 (.mv (.c (.v (.string ({ data := #[] } : ByteArray)))))]) (
 .seq (.block 0 (.loop [3, 4, 5] e88x0 b88x0)) (
 .seq (.g [oM 27 4, oM 28 3, oQ 29 (.bin .add (.c (.v (.int .u64 48))) (.t 28)), oQ 30 (.conv (.int .u8) (.t 29)), oQ 31 (.lit 1 ([[.v (.int .u8 0)]] : Rows) [(0, (.t 30))]), oQ 32 (.conv .bytesStr (.t 31)), oB 33 .add 27 32, oM 34 5, oB 35 .add 33 34, oM 2 35]) (
 .ret))))))))⟩
theorem l88x0s (T : Table) (k n : Nat) (n2 : Int) (s3 s4 : ByteArray): l88x0 T k (n + 1) [.v (.int .u64 n2), .v (.string s3), .v (.string s4)] = (
 bif (decide (n2 ≥ 10)) then (
 tst (decide (10 ≠ 0)) (
 tst (allBytes ([[.v (.int .u8 (IntKind.wrap .u8 (IntKind.wrap .u64 (48 + (Int.tmod n2 10)))))]] : Rows)) (
 tst (decide ((bytesOfRows ([[.v (.int .u8 (IntKind.wrap .u8 (IntKind.wrap .u64 (48 + (Int.tmod n2 10)))))]] : Rows)).size + s4.size ≤ maxLen)) (
 tst (decide (10 ≠ 0)) (
 l88x0 T k n [.v (.int .u64 (IntKind.wrap .u64 (Int.tdiv n2 10))), .v (.string s3), .v (.string ((bytesOfRows ([[.v (.int .u8 (IntKind.wrap .u8 (IntKind.wrap .u64 (48 + (Int.tmod n2 10)))))]] : Rows)) ++ s4))]))))) else (
 some ((.exit 0), [.v (.int .u64 n2), .v (.string s3), .v (.string s4)]))) := by kernel_rfl
theorem a88q (T : Table) (k : Nat) (n1 : Int): evalF T k a88 [.d (.v (.int .i64 n1))] = (
 bif (decide (n1 < 0)) then (
 aft (l88x0 T k k [.v (.int .u64 (IntKind.wrap .u64 ((IntKind.wrap .u64 (IntKind.wrap .i64 (0 - (IntKind.wrap .i64 (n1 + 1))))) + 1))), .v (.string ({ data := #[45] } : ByteArray)), .v (.string ({ data := #[] } : ByteArray))]) fun e5 ys6 =>
 bif e5.same (.exit 0) then (
 aV ys6 0 fun x7 =>
 aI .u64 x7 fun n8 =>
 aV ys6 1 fun x9 =>
 aS x9 fun s10 =>
 aV ys6 2 fun x11 =>
 aS x11 fun s12 =>
 tst (allBytes ([[.v (.int .u8 (IntKind.wrap .u8 (IntKind.wrap .u64 (48 + n8))))]] : Rows)) (
 tst (decide (s10.size + (bytesOfRows ([[.v (.int .u8 (IntKind.wrap .u8 (IntKind.wrap .u64 (48 + n8))))]] : Rows)).size ≤ maxLen)) (
 tst (decide ((s10 ++ (bytesOfRows ([[.v (.int .u8 (IntKind.wrap .u8 (IntKind.wrap .u64 (48 + n8))))]] : Rows))).size + s12.size ≤ maxLen)) (
 some ⟨.d (.v (.string ((s10 ++ (bytesOfRows ([[.v (.int .u8 (IntKind.wrap .u8 (IntKind.wrap .u64 (48 + n8))))]] : Rows))) ++ s12))), []⟩)))) else (
 none)) else (
 aft (l88x0 T k k [.v (.int .u64 (IntKind.wrap .u64 n1)), .v (.string ({ data := #[] } : ByteArray)), .v (.string ({ data := #[] } : ByteArray))]) fun e13 ys14 =>
 bif e13.same (.exit 0) then (
 aV ys14 0 fun x15 =>
 aI .u64 x15 fun n16 =>
 aV ys14 1 fun x17 =>
 aS x17 fun s18 =>
 aV ys14 2 fun x19 =>
 aS x19 fun s20 =>
 tst (allBytes ([[.v (.int .u8 (IntKind.wrap .u8 (IntKind.wrap .u64 (48 + n16))))]] : Rows)) (
 tst (decide (s18.size + (bytesOfRows ([[.v (.int .u8 (IntKind.wrap .u8 (IntKind.wrap .u64 (48 + n16))))]] : Rows)).size ≤ maxLen)) (
 tst (decide ((s18 ++ (bytesOfRows ([[.v (.int .u8 (IntKind.wrap .u8 (IntKind.wrap .u64 (48 + n16))))]] : Rows))).size + s20.size ≤ maxLen)) (
 some ⟨.d (.v (.string ((s18 ++ (bytesOfRows ([[.v (.int .u8 (IntKind.wrap .u8 (IntKind.wrap .u64 (48 + n16))))]] : Rows))) ++ s20))), []⟩)))) else (
 none))) := by kernel_rfl
/- loop.example/g00119/spec.l4Print -/
def b53x0 : ACode := (
 .seq (.seq (.g [oM 26 5, oF 27 4 1, oW 28 (.sl 5) 27, oZ 29 28, oB 30 .lss 26 29]) (
 .cond (.t 30) (.skip) (.exit 1))) (
 .seq (.block 2 (.seq (.seq (.g [oM 33 5, oBi 34 .gtr 33 0]) (
 .cond (.t 34) (.g [oM 35 3, oQ 36 (.bin .add (.t 35) (.c (.v (.string ({ data := #[44] } : ByteArray))))), oM 3 36]) (.skip))) (
 .seq (.seq (.g [oF 37 0 1, oW 38 kI 37, oBi 39 .eql 38 5]) (
 .cond (.t 39) (.g [oM 40 3, oF 41 3 1, oW 42 (.sl 1) 41, oM 43 5, oI 44 1 42 43, oW 45 .s 44, oB 46 .add 40 45, oQ 47 (.bin .add (.t 46) (.c (.v (.string ({ data := #[58] } : ByteArray))))), oM 3 47]) (.skip))) (
 .g [oM 48 3, oF 49 4 1, oW 50 (.sl 5) 49, oM 51 5, oI 52 5 50 51, oL 53 [kI, .s, kI, .sl 1, .sl 5] 52, oC 54 53 [.c .s] [53], oB 55 .add 48 54, oM 3 55])))) (
 .g [oM 31 5, oBi 32 .add 31 1, oM 5 32])))
def e53x0 : Exits := [((.exit 1), [(3, .c .s), (4, .c .s)])]
noncomputable def l53x0 (T : Table) (k : Nat) := loopN (evalC ⟨T, [], []⟩ k b53x0 (Ex × List AV)) [1, 3, 4, 5] e53x0
def a53 : AFun := ⟨[.rd], false, [.t 2], (
 .seq (.g [oQ 1 (.box (.t 0)), oQ 2 (.mv (.c (.v (.string ({ data := #[] } : ByteArray)))))]) (
 .seq (.seq (.g [oF 6 0 1, oW 7 kI 6]) (
 .block 0 (.seq (.g [oBi 9 .eql 7 1, oM 8 9]) (
 .cond (.t 8) (.seq (.g [oF 10 1 1, oW 11 .s 10, oC 12 87 [.c .s] [11], oM 2 12]) (
 .ret)) (.seq (.g [oBi 14 .eql 7 2, oM 13 14]) (
 .cond (.t 13) (.seq (.g [oF 15 2 1, oW 16 kI 15, oC 17 88 [.c .s] [16], oM 2 17]) (
 .ret)) (.seq (.g [oBi 19 .eql 7 3, oM 18 19]) (
 .cond (.t 18) (.seq (.seq (.g [oF 20 2 1, oW 21 kI 20, oBi 22 .eql 21 1]) (
 .cond (.t 22) (.seq (.g [oQ 2 (.mv (.c (.v (.string ({ data := #[116, 114, 117, 101] } : ByteArray)))))]) (
 .ret)) (.skip))) (
 .seq (.g [oQ 2 (.mv (.c (.v (.string ({ data := #[102, 97, 108, 115, 101] } : ByteArray)))))]) (
 .ret))) (.skip))))))))) (
 .seq (.g [oQ 3 (.mv (.c (.v (.string ({ data := #[91] } : ByteArray)))))]) (
 .seq (.g [oQ 4 (.mv (.c (.v (.string ({ data := #[93] } : ByteArray)))))]) (
 .seq (.seq (.g [oF 23 0 1, oW 24 kI 23, oBi 25 .eql 24 5]) (
 .cond (.t 25) (.seq (.g [oQ 3 (.mv (.c (.v (.string ({ data := #[123] } : ByteArray)))))]) (
 .g [oQ 4 (.mv (.c (.v (.string ({ data := #[125] } : ByteArray)))))])) (.skip))) (
 .seq (.seq (.g [oK 5 0]) (
 .block 1 (.loop [1, 3, 4, 5] e53x0 b53x0))) (
 .seq (.g [oM 56 3, oM 57 4, oB 58 .add 56 57, oM 2 58]) (
 .ret))))))))⟩
theorem l53x0s (T : Table) (k n : Nat) (n12 n14 n19 : Int) (s13 s17 s18 : ByteArray) (l15 l16 : Rows): l53x0 T k (n + 1) [.b [.v (.int .i64 n12), .v (.string s13), .v (.int .i64 n14), .fz 1 l15, .fz 5 l16], .v (.string s17), .v (.string s18), .v (.int .i64 n19)] = (
 bif (decide (n19 < (l16.length : Int))) then (
 bif (decide (n19 > 0)) then (
 tst (decide (s17.size + ({ data := #[44] } : ByteArray).size ≤ maxLen)) (
 bif (n12 == 5) then (
 tst (decide (0 ≤ n19)) (
 look l15 (Int.toNat n19) fun r20 =>
 cS r20 0 fun s21 =>
 tst (decide ((s17 ++ ({ data := #[44] } : ByteArray)).size + s21.size ≤ maxLen)) (
 tst (decide (((s17 ++ ({ data := #[44] } : ByteArray)) ++ s21).size + ({ data := #[58] } : ByteArray).size ≤ maxLen)) (
 tst (decide (0 ≤ n19)) (
 look l16 (Int.toNat n19) fun r22 =>
 cI .i64 r22 0 fun n23 =>
 cS r22 1 fun s24 =>
 cI .i64 r22 2 fun n25 =>
 cL 1 r22 3 fun l26 =>
 cL 5 r22 4 fun l27 =>
 callT T 53 [.g [.v (.int .i64 n23), .v (.string s24), .v (.int .i64 n25), .s 1 l26, .s 5 l27]] fun o28 =>
 oD o28.res fun d29 =>
 dS d29 fun s30 =>
 tst (decide ((((s17 ++ ({ data := #[44] } : ByteArray)) ++ s21) ++ ({ data := #[58] } : ByteArray)).size + s30.size ≤ maxLen)) (
 l53x0 T k n [.b [.v (.int .i64 n12), .v (.string s13), .v (.int .i64 n14), .fz 1 l15, .fz 5 l16], .v (.string ((((s17 ++ ({ data := #[44] } : ByteArray)) ++ s21) ++ ({ data := #[58] } : ByteArray)) ++ s30)), .v (.string s18), .v (.int .i64 (IntKind.wrap .i64 (n19 + 1)))])))))) else (
 tst (decide (0 ≤ n19)) (
 look l16 (Int.toNat n19) fun r31 =>
 cI .i64 r31 0 fun n32 =>
 cS r31 1 fun s33 =>
 cI .i64 r31 2 fun n34 =>
 cL 1 r31 3 fun l35 =>
 cL 5 r31 4 fun l36 =>
 callT T 53 [.g [.v (.int .i64 n32), .v (.string s33), .v (.int .i64 n34), .s 1 l35, .s 5 l36]] fun o37 =>
 oD o37.res fun d38 =>
 dS d38 fun s39 =>
 tst (decide ((s17 ++ ({ data := #[44] } : ByteArray)).size + s39.size ≤ maxLen)) (
 l53x0 T k n [.b [.v (.int .i64 n12), .v (.string s13), .v (.int .i64 n14), .fz 1 l15, .fz 5 l16], .v (.string ((s17 ++ ({ data := #[44] } : ByteArray)) ++ s39)), .v (.string s18), .v (.int .i64 (IntKind.wrap .i64 (n19 + 1)))]))))) else (
 bif (n12 == 5) then (
 tst (decide (0 ≤ n19)) (
 look l15 (Int.toNat n19) fun r40 =>
 cS r40 0 fun s41 =>
 tst (decide (s17.size + s41.size ≤ maxLen)) (
 tst (decide ((s17 ++ s41).size + ({ data := #[58] } : ByteArray).size ≤ maxLen)) (
 tst (decide (0 ≤ n19)) (
 look l16 (Int.toNat n19) fun r42 =>
 cI .i64 r42 0 fun n43 =>
 cS r42 1 fun s44 =>
 cI .i64 r42 2 fun n45 =>
 cL 1 r42 3 fun l46 =>
 cL 5 r42 4 fun l47 =>
 callT T 53 [.g [.v (.int .i64 n43), .v (.string s44), .v (.int .i64 n45), .s 1 l46, .s 5 l47]] fun o48 =>
 oD o48.res fun d49 =>
 dS d49 fun s50 =>
 tst (decide (((s17 ++ s41) ++ ({ data := #[58] } : ByteArray)).size + s50.size ≤ maxLen)) (
 l53x0 T k n [.b [.v (.int .i64 n12), .v (.string s13), .v (.int .i64 n14), .fz 1 l15, .fz 5 l16], .v (.string (((s17 ++ s41) ++ ({ data := #[58] } : ByteArray)) ++ s50)), .v (.string s18), .v (.int .i64 (IntKind.wrap .i64 (n19 + 1)))])))))) else (
 tst (decide (0 ≤ n19)) (
 look l16 (Int.toNat n19) fun r51 =>
 cI .i64 r51 0 fun n52 =>
 cS r51 1 fun s53 =>
 cI .i64 r51 2 fun n54 =>
 cL 1 r51 3 fun l55 =>
 cL 5 r51 4 fun l56 =>
 callT T 53 [.g [.v (.int .i64 n52), .v (.string s53), .v (.int .i64 n54), .s 1 l55, .s 5 l56]] fun o57 =>
 oD o57.res fun d58 =>
 dS d58 fun s59 =>
 tst (decide (s17.size + s59.size ≤ maxLen)) (
 l53x0 T k n [.b [.v (.int .i64 n12), .v (.string s13), .v (.int .i64 n14), .fz 1 l15, .fz 5 l16], .v (.string (s17 ++ s59)), .v (.string s18), .v (.int .i64 (IntKind.wrap .i64 (n19 + 1)))]))))) else (
 some ((.exit 1), [.v (.string s17), .v (.string s18)]))) := by kernel_rfl
theorem a53q (T : Table) (k : Nat) (n1 n3 : Int) (s2 : ByteArray) (l4 l5 : Rows): evalF T k a53 [.g [.v (.int .i64 n1), .v (.string s2), .v (.int .i64 n3), .s 1 l4, .s 5 l5]] = (
 bif (n1 == 1) then (
 callT T 87 [.d (.v (.string s2))] fun o6 =>
 oD o6.res fun d7 =>
 dS d7 fun s8 =>
 some ⟨.d (.v (.string s8)), []⟩) else (
 bif (n1 == 2) then (
 callT T 88 [.d (.v (.int .i64 n3))] fun o9 =>
 oD o9.res fun d10 =>
 dS d10 fun s11 =>
 some ⟨.d (.v (.string s11)), []⟩) else (
 bif (n1 == 3) then (
 bif (n3 == 1) then (
 some ⟨.d (.v (.string ({ data := #[116, 114, 117, 101] } : ByteArray))), []⟩) else (
 some ⟨.d (.v (.string ({ data := #[102, 97, 108, 115, 101] } : ByteArray))), []⟩)) else (
 bif (n1 == 5) then (
 aft (l53x0 T k k [.b [.v (.int .i64 n1), .v (.string s2), .v (.int .i64 n3), .fz 1 l4, .fz 5 l5], .v (.string ({ data := #[123] } : ByteArray)), .v (.string ({ data := #[125] } : ByteArray)), .v (.int .i64 0)]) fun e60 ys61 =>
 bif e60.same (.exit 1) then (
 aV ys61 0 fun x62 =>
 aS x62 fun s63 =>
 aV ys61 1 fun x64 =>
 aS x64 fun s65 =>
 tst (decide (s63.size + s65.size ≤ maxLen)) (
 some ⟨.d (.v (.string (s63 ++ s65))), []⟩)) else (
 none)) else (
 aft (l53x0 T k k [.b [.v (.int .i64 n1), .v (.string s2), .v (.int .i64 n3), .fz 1 l4, .fz 5 l5], .v (.string ({ data := #[91] } : ByteArray)), .v (.string ({ data := #[93] } : ByteArray)), .v (.int .i64 0)]) fun e66 ys67 =>
 bif e66.same (.exit 1) then (
 aV ys67 0 fun x68 =>
 aS x68 fun s69 =>
 aV ys67 1 fun x70 =>
 aS x70 fun s71 =>
 tst (decide (s69.size + s71.size ≤ maxLen)) (
 some ⟨.d (.v (.string (s69 ++ s71))), []⟩)) else (
 none)))))) := by kernel_rfl
/- loop.example/g00119/spec.l4Take -/
def a118 : AFun := ⟨[.lent, .rd], false, [.t 4], (
 .seq (.g [oV 4 false]) (
 .seq (.seq (.dreg [] [(0, oM 5 0), (0, oQ 6 (.more (.nck (.t 5)))), (0, oF 7 2 6), (0, oW 8 .b 7), (0, oM 9 8), (0, oJ 10 9 false (.mv (.t 0))), (0, oJ 11 9 false (.more (.nck (.t 10)))), (0, oJ 12 9 false (.fad 0 (.t 11))), (0, oJ 13 9 false (.load false [.s] (.t 12))), (0, oJ 14 9 false (.len true (.t 13))), (0, oJ 15 9 false (.mv (.t 0))), (0, oJ 16 9 false (.more (.nck (.t 15)))), (0, oJ 17 9 false (.fad 1 (.t 16))), (0, oJ 18 9 false (.load false [kI] (.t 17))), (0, oJ 19 9 false (.bin .sub (.t 14) (.t 18))), (0, oJ 20 9 false (.mv (.t 1))), (0, oJ 21 9 false (.len true (.t 20))), (0, oJ 22 9 false (.bin .lss (.t 19) (.t 21))), (0, oQ 23 (.pick (.t 9) (.b true) (.t 22))), (0, oM 24 23), (0, oJ 25 24 false (.mv (.t 0))), (0, oJ 26 24 false (.more (.nck (.t 25)))), (0, oJ 27 24 false (.fad 0 (.t 26))), (0, oJ 28 24 false (.load false [.s] (.t 27))), (0, oJ 29 24 false (.mv (.t 0))), (0, oJ 30 24 false (.more (.nck (.t 29)))), (0, oJ 31 24 false (.fad 1 (.t 30))), (0, oJ 32 24 false (.load false [kI] (.t 31))), (0, oJ 33 24 false (.mv (.t 0))), (0, oJ 34 24 false (.more (.nck (.t 33)))), (0, oJ 35 24 false (.fad 1 (.t 34))), (0, oJ 36 24 false (.load false [kI] (.t 35))), (0, oJ 37 24 false (.mv (.t 1))), (0, oJ 38 24 false (.len true (.t 37))), (0, oJ 39 24 false (.bin .add (.t 36) (.t 38))), (0, oJ 40 24 false (.slc none (.t 28) (some (.t 32)) (some (.t 39)))), (0, oJ 41 24 false (.mv (.t 1)))] [oJ 42 24 false (.bin .neq (.t 40) (.t 41)), oQ 43 (.pick (.t 24) (.b true) (.t 42))]) (
 .cond (.t 43) (.seq (.g [oV 4 false]) (
 .ret)) (.skip))) (
 .seq (.g [oM 44 0, oM 45 0, oQ 46 (.more (.nck (.t 45))), oF 47 1 46, oW 48 kI 47, oM 49 1, oQ 50 (.len true (.t 49)), oB 51 .add 48 50, oQ 52 (.more (.nck (.t 44))), oF 53 1 52, oS (.store 1 (.t 53) (.t 51))]) (
 .seq (.g [oV 4 true]) (
 .ret)))))⟩
theorem a118q (T : Table) (k : Nat) (s1 s4 : ByteArray) (n2 : Int) (b3 : Bool): evalF T k a118 [.p [.v (.string s1), .v (.int .i64 n2), .v (.bool b3)], .d (.v (.string s4))] = (
 bif b3 == false then (
 bif (decide ((IntKind.wrap .i64 ((s1.size : Int) - n2)) < (s4.size : Int))) == false then (
 tst (cutOk n2 (IntKind.wrap .i64 (n2 + (s4.size : Int))) (s1.size)) (
 bif (!(bytesEq (s1.extract (Int.toNat n2) (Int.toNat (IntKind.wrap .i64 (n2 + (s4.size : Int))))) s4)) then (
 some ⟨.d (.v (.bool false)), [.p [.v (.string s1), .v (.int .i64 n2), .v (.bool b3)]]⟩) else (
 some ⟨.d (.v (.bool true)), [.p [.v (.string s1), .v (.int .i64 (IntKind.wrap .i64 (n2 + (s4.size : Int)))), .v (.bool b3)]]⟩))) else (
 some ⟨.d (.v (.bool false)), [.p [.v (.string s1), .v (.int .i64 n2), .v (.bool b3)]]⟩)) else (
 some ⟨.d (.v (.bool false)), [.p [.v (.string s1), .v (.int .i64 n2), .v (.bool b3)]]⟩)) := by kernel_rfl
/- loop.example/g00119/spec.l4Peek -/
def a144 : AFun := ⟨[.lent], false, [.t 2], (
 .seq (.g [oQ 2 (.mv (.c (.v (.int .u8 0))))]) (
 .seq (.seq (.dreg [] [(0, oM 3 0), (0, oQ 4 (.more (.nck (.t 3)))), (0, oF 5 2 4), (0, oW 6 .b 5), (0, oM 7 6), (0, oJ 8 7 false (.mv (.t 0))), (0, oJ 9 7 false (.more (.nck (.t 8)))), (0, oJ 10 7 false (.fad 1 (.t 9))), (0, oJ 11 7 false (.load false [kI] (.t 10))), (0, oJ 12 7 false (.mv (.t 0))), (0, oJ 13 7 false (.more (.nck (.t 12)))), (0, oJ 14 7 false (.fad 0 (.t 13))), (0, oJ 15 7 false (.load false [.s] (.t 14))), (0, oJ 16 7 false (.len true (.t 15)))] [oJ 17 7 false (.bin .geq (.t 11) (.t 16)), oQ 18 (.pick (.t 7) (.b true) (.t 17))]) (
 .cond (.t 18) (.seq (.g [oQ 2 (.mv (.c (.v (.int .u8 0))))]) (
 .ret)) (.skip))) (
 .seq (.dreg [] [(0, oM 19 0), (0, oQ 20 (.more (.nck (.t 19)))), (0, oF 21 0 20), (0, oW 22 .s 21), (0, oM 23 0), (0, oQ 24 (.more (.nck (.t 23)))), (0, oF 25 1 24), (0, oW 26 kI 25)] [oQ 27 (.idx (.t 22) (.t 26)), oM 2 27]) (
 .ret))))⟩
theorem a144q (T : Table) (k : Nat) (s1 : ByteArray) (n2 : Int) (b3 : Bool): evalF T k a144 [.p [.v (.string s1), .v (.int .i64 n2), .v (.bool b3)]] = (
 bif b3 == false then (
 bif (decide (n2 ≥ (s1.size : Int))) then (
 some ⟨.d (.v (.int .u8 0)), [.p [.v (.string s1), .v (.int .i64 n2), .v (.bool b3)]]⟩) else (
 tst (decide (0 ≤ n2)) (
 byteAt s1 (Int.toNat n2) fun c4 =>
 some ⟨.d (.v (.int .u8 (c4.toNat : Int))), [.p [.v (.string s1), .v (.int .i64 n2), .v (.bool b3)]]⟩))) else (
 some ⟨.d (.v (.int .u8 0)), [.p [.v (.string s1), .v (.int .i64 n2), .v (.bool b3)]]⟩)) := by kernel_rfl
/- loop.example/g00119/spec.l4ReadText -/
def b119x0 : ACode := (
 .seq (.seq (.g [oM 5 0, oQ 6 (.call (.f 144) [.lent] false [.c (.i .u8)] [.t 5]), oQ 7 (.bin .neq (.t 6) (.c (.v (.int .u8 34))))]) (
 .cond (.t 7) (.skip) (.exit 0))) (
 .block 1 (.seq (.seq (.g [oM 8 0, oQ 9 (.call (.f 144) [.lent] false [.c (.i .u8)] [.t 8]), oQ 10 (.bin .eql (.t 9) (.c (.v (.int .u8 92))))]) (
 .cond (.t 10) (.g [oM 11 0, oM 12 0, oQ 13 (.more (.nck (.t 12))), oF 14 1 13, oW 15 kI 14, oBi 16 .add 15 1, oQ 17 (.more (.nck (.t 11))), oF 18 1 17, oS (.store 1 (.t 18) (.t 16))]) (.skip))) (
 .seq (.seq (.g [oM 19 0, oQ 20 (.call (.f 144) [.lent] false [.c (.i .u8)] [.t 19]), oQ 21 (.bin .eql (.t 20) (.c (.v (.int .u8 0))))]) (
 .cond (.t 21) (.seq (.g [oM 22 0, oQ 23 (.more (.nck (.t 22))), oF 24 2 23, oS (.store 1 (.t 24) (.b true))]) (
 .seq (.g [oQ 2 (.mv (.c (.v (.string ({ data := #[] } : ByteArray)))))]) (
 .ret))) (.skip))) (
 .seq (.dreg [] [(3, oM 25 3), (0, oM 26 0), (0, oQ 27 (.more (.nck (.t 26)))), (0, oF 28 0 27), (0, oW 29 .s 28), (0, oM 30 0), (0, oQ 31 (.more (.nck (.t 30)))), (0, oF 32 1 31), (0, oW 33 kI 32)] [oQ 34 (.idx (.t 29) (.t 33)), oQ 35 (.lit 1 ([[.v (.int .u8 0)]] : Rows) [(0, (.t 34))]), oQ 36 (.app 1 1 (.t 25) (.t 35)), oM 3 36]) (
 .g [oM 37 0, oM 38 0, oQ 39 (.more (.nck (.t 38))), oF 40 1 39, oW 41 kI 40, oBi 42 .add 41 1, oQ 43 (.more (.nck (.t 37))), oF 44 1 43, oS (.store 1 (.t 44) (.t 42))]))))))
def e119x0 : Exits := [(.ret, [(0, .b [.c .s, .c kI, .c .b]), (2, .c .s)]), ((.exit 0), [(0, .b [.c .s, .c kI, .c .b]), (3, .o 1)])]
noncomputable def l119x0 (T : Table) (k : Nat) := loopN (evalC ⟨T, [0], []⟩ k b119x0 (Ex × List AV)) [0, 3] e119x0
def a119 : AFun := ⟨[.lent], false, [.t 2], (
 .seq (.g [oQ 2 (.mv (.c (.v (.string ({ data := #[] } : ByteArray)))))]) (
 .seq (.g [oQ 4 (.lit 1 ([] : Rows) []), oM 3 4]) (
 .seq (.block 0 (.loop [0, 3] e119x0 b119x0)) (
 .seq (.g [oM 45 0, oM 46 0, oQ 47 (.more (.nck (.t 46))), oF 48 1 47, oW 49 kI 48, oBi 50 .add 49 1, oQ 51 (.more (.nck (.t 45))), oF 52 1 51, oS (.store 1 (.t 52) (.t 50))]) (
 .seq (.g [oM 53 3, oQ 54 (.conv .bytesStr (.t 53)), oM 2 54]) (
 .ret))))))⟩
theorem l119x0s (T : Table) (k n : Nat) (s4 : ByteArray) (n5 : Int) (b6 : Bool) (l7 : Rows): l119x0 T k (n + 1) [.b [.v (.string s4), .v (.int .i64 n5), .v (.bool b6)], .o 1 l7] = (
 callT T 144 [.p [.v (.string s4), .v (.int .i64 n5), .v (.bool b6)]] fun o8 =>
 nth o8.back 0 fun i9 =>
 oP i9 fun r10 =>
 tst (Nat.beq r10.length 3) (
 cS r10 0 fun s11 =>
 cI .i64 r10 1 fun n12 =>
 cB r10 2 fun b13 =>
 oD o8.res fun d14 =>
 dI .u8 d14 fun n15 =>
 bif (n15 != 34) then (
 callT T 144 [.p [.v (.string s11), .v (.int .i64 n12), .v (.bool b13)]] fun o16 =>
 nth o16.back 0 fun i17 =>
 oP i17 fun r18 =>
 tst (Nat.beq r18.length 3) (
 cS r18 0 fun s19 =>
 cI .i64 r18 1 fun n20 =>
 cB r18 2 fun b21 =>
 oD o16.res fun d22 =>
 dI .u8 d22 fun n23 =>
 bif (n23 == 92) then (
 callT T 144 [.p [.v (.string s19), .v (.int .i64 (IntKind.wrap .i64 (n20 + 1))), .v (.bool b21)]] fun o24 =>
 nth o24.back 0 fun i25 =>
 oP i25 fun r26 =>
 tst (Nat.beq r26.length 3) (
 cS r26 0 fun s27 =>
 cI .i64 r26 1 fun n28 =>
 cB r26 2 fun b29 =>
 oD o24.res fun d30 =>
 dI .u8 d30 fun n31 =>
 bif (n31 == 0) then (
 some (.ret, [.b [.v (.string s27), .v (.int .i64 n28), .v (.bool true)], .v (.string ({ data := #[] } : ByteArray))])) else (
 tst (decide (0 ≤ n28)) (
 byteAt s27 (Int.toNat n28) fun c32 =>
 tst (decide ((l7.length + ([[.v (.int .u8 (c32.toNat : Int))]] : Rows).length) * 1 ≤ maxBytes)) (
 l119x0 T k n [.b [.v (.string s27), .v (.int .i64 (IntKind.wrap .i64 (n28 + 1))), .v (.bool b29)], .o 1 (l7 ++ ([[.v (.int .u8 (c32.toNat : Int))]] : Rows))]))))) else (
 callT T 144 [.p [.v (.string s19), .v (.int .i64 n20), .v (.bool b21)]] fun o33 =>
 nth o33.back 0 fun i34 =>
 oP i34 fun r35 =>
 tst (Nat.beq r35.length 3) (
 cS r35 0 fun s36 =>
 cI .i64 r35 1 fun n37 =>
 cB r35 2 fun b38 =>
 oD o33.res fun d39 =>
 dI .u8 d39 fun n40 =>
 bif (n40 == 0) then (
 some (.ret, [.b [.v (.string s36), .v (.int .i64 n37), .v (.bool true)], .v (.string ({ data := #[] } : ByteArray))])) else (
 tst (decide (0 ≤ n37)) (
 byteAt s36 (Int.toNat n37) fun c41 =>
 tst (decide ((l7.length + ([[.v (.int .u8 (c41.toNat : Int))]] : Rows).length) * 1 ≤ maxBytes)) (
 l119x0 T k n [.b [.v (.string s36), .v (.int .i64 (IntKind.wrap .i64 (n37 + 1))), .v (.bool b38)], .o 1 (l7 ++ ([[.v (.int .u8 (c41.toNat : Int))]] : Rows))]))))))) else (
 some ((.exit 0), [.b [.v (.string s11), .v (.int .i64 n12), .v (.bool b13)], .o 1 l7])))) := by kernel_rfl
theorem a119q (T : Table) (k : Nat) (s1 : ByteArray) (n2 : Int) (b3 : Bool): evalF T k a119 [.p [.v (.string s1), .v (.int .i64 n2), .v (.bool b3)]] = (
 aft (l119x0 T k k [.b [.v (.string s1), .v (.int .i64 n2), .v (.bool b3)], .o 1 []]) fun e42 ys43 =>
 bif e42.same .ret then (
 aV ys43 0 fun x44 =>
 aX x44 fun xs45 =>
 aV xs45 0 fun x46 =>
 aS x46 fun s47 =>
 aV xs45 1 fun x48 =>
 aI .i64 x48 fun n49 =>
 aV xs45 2 fun x50 =>
 aB x50 fun b51 =>
 aV ys43 1 fun x52 =>
 aS x52 fun s53 =>
 some ⟨.d (.v (.string s53)), [.p [.v (.string s47), .v (.int .i64 n49), .v (.bool b51)]]⟩) else (
 bif e42.same (.exit 0) then (
 aV ys43 0 fun x54 =>
 aX x54 fun xs55 =>
 aV xs55 0 fun x56 =>
 aS x56 fun s57 =>
 aV xs55 1 fun x58 =>
 aI .i64 x58 fun n59 =>
 aV xs55 2 fun x60 =>
 aB x60 fun b61 =>
 aV ys43 1 fun x62 =>
 aO 1 x62 fun l63 =>
 tst (allBytes l63) (
 some ⟨.d (.v (.string (bytesOfRows l63))), [.p [.v (.string s57), .v (.int .i64 (IntKind.wrap .i64 (n59 + 1))), .v (.bool b61)]]⟩)) else (
 none))) := by kernel_rfl
/- loop.example/g00119/spec.l4ReadWord -/
def b145x0 : ACode := (
 .seq (.seq (.g [oM 8 0, oQ 9 (.more (.nck (.t 8))), oF 10 2 9, oW 11 .b 10, oN 12 11, oM 13 12, oJ 14 13 true (.mv (.t 0)), oJ 15 13 true (.call (.f 144) [.lent] false [.c (.i .u8)] [.t 14]), oJ 16 13 true (.bin .neq (.t 15) (.c (.v (.int .u8 58)))), oQ 17 (.pick (.t 13) (.t 16) (.b false)), oM 18 17, oJ 19 18 true (.mv (.t 0)), oJ 20 18 true (.call (.f 144) [.lent] false [.c (.i .u8)] [.t 19]), oJ 21 18 true (.bin .neq (.t 20) (.c (.v (.int .u8 0)))), oQ 22 (.pick (.t 18) (.t 21) (.b false))]) (
 .cond (.t 22) (.skip) (.exit 0))) (
 .block 1 (.g [oM 23 0, oM 24 0, oQ 25 (.more (.nck (.t 24))), oF 26 1 25, oW 27 kI 26, oBi 28 .add 27 1, oQ 29 (.more (.nck (.t 23))), oF 30 1 29, oS (.store 1 (.t 30) (.t 28))])))
def e145x0 : Exits := [((.exit 0), [(0, .b [.c .s, .c kI, .c .b]), (3, .c kI)])]
noncomputable def l145x0 (T : Table) (k : Nat) := loopN (evalC ⟨T, [0], []⟩ k b145x0 (Ex × List AV)) [0, 3] e145x0
def a145 : AFun := ⟨[.lent], false, [.t 2], (
 .seq (.g [oQ 2 (.mv (.c (.v (.string ({ data := #[] } : ByteArray)))))]) (
 .seq (.g [oM 4 0, oQ 5 (.more (.nck (.t 4))), oF 6 1 5, oW 7 kI 6, oM 3 7]) (
 .seq (.block 0 (.loop [0, 3] e145x0 b145x0)) (
 .seq (.dreg [] [(0, oM 31 0), (0, oQ 32 (.more (.nck (.t 31)))), (0, oF 33 0 32), (0, oW 34 .s 33), (0, oM 35 3), (0, oM 36 0), (0, oQ 37 (.more (.nck (.t 36)))), (0, oF 38 1 37), (0, oW 39 kI 38)] [oQ 40 (.slc none (.t 34) (some (.t 35)) (some (.t 39))), oM 2 40]) (
 .ret)))))⟩
theorem l145x0s (T : Table) (k n : Nat) (s4 : ByteArray) (n5 n7 : Int) (b6 : Bool): l145x0 T k (n + 1) [.b [.v (.string s4), .v (.int .i64 n5), .v (.bool b6)], .v (.int .i64 n7)] = (
 bif (!b6) == true then (
 callT T 144 [.p [.v (.string s4), .v (.int .i64 n5), .v (.bool b6)]] fun o8 =>
 nth o8.back 0 fun i9 =>
 oP i9 fun r10 =>
 tst (Nat.beq r10.length 3) (
 cS r10 0 fun s11 =>
 cI .i64 r10 1 fun n12 =>
 cB r10 2 fun b13 =>
 oD o8.res fun d14 =>
 dI .u8 d14 fun n15 =>
 bif (n15 != 58) == true then (
 callT T 144 [.p [.v (.string s11), .v (.int .i64 n12), .v (.bool b13)]] fun o16 =>
 nth o16.back 0 fun i17 =>
 oP i17 fun r18 =>
 tst (Nat.beq r18.length 3) (
 cS r18 0 fun s19 =>
 cI .i64 r18 1 fun n20 =>
 cB r18 2 fun b21 =>
 oD o16.res fun d22 =>
 dI .u8 d22 fun n23 =>
 bif (n23 != 0) then (
 l145x0 T k n [.b [.v (.string s19), .v (.int .i64 (IntKind.wrap .i64 (n20 + 1))), .v (.bool b21)], .v (.int .i64 n7)]) else (
 some ((.exit 0), [.b [.v (.string s19), .v (.int .i64 n20), .v (.bool b21)], .v (.int .i64 n7)])))) else (
 some ((.exit 0), [.b [.v (.string s11), .v (.int .i64 n12), .v (.bool b13)], .v (.int .i64 n7)])))) else (
 some ((.exit 0), [.b [.v (.string s4), .v (.int .i64 n5), .v (.bool b6)], .v (.int .i64 n7)]))) := by kernel_rfl
theorem a145q (T : Table) (k : Nat) (s1 : ByteArray) (n2 : Int) (b3 : Bool): evalF T k a145 [.p [.v (.string s1), .v (.int .i64 n2), .v (.bool b3)]] = (
 aft (l145x0 T k k [.b [.v (.string s1), .v (.int .i64 n2), .v (.bool b3)], .v (.int .i64 n2)]) fun e24 ys25 =>
 bif e24.same (.exit 0) then (
 aV ys25 0 fun x26 =>
 aX x26 fun xs27 =>
 aV xs27 0 fun x28 =>
 aS x28 fun s29 =>
 aV xs27 1 fun x30 =>
 aI .i64 x30 fun n31 =>
 aV xs27 2 fun x32 =>
 aB x32 fun b33 =>
 aV ys25 1 fun x34 =>
 aI .i64 x34 fun n35 =>
 tst (cutOk n35 n31 (s29.size)) (
 some ⟨.d (.v (.string (s29.extract (Int.toNat n35) (Int.toNat n31)))), [.p [.v (.string s29), .v (.int .i64 n31), .v (.bool b33)]]⟩)) else (
 none)) := by kernel_rfl
-- a146 "unicode/utf8.decodeRuneInStringSlow": indexAddr of an array
/- loop.example/g00119/spec.l4ReadKids -/
def b120x0 : ACode := (
 .seq (.seq (.g [oM 12 0, oQ 13 (.more (.nck (.t 12))), oF 14 2 13, oW 15 .b 14, oN 16 15, oM 17 16, oJ 18 17 true (.mv (.t 0)), oJ 19 17 true (.mv (.t 2)), oJ 20 17 true (.call (.f 118) [.lent, .rd] false [.c .b] [.t 18, .t 19]), oJ 21 17 true (.un .not (.t 20)), oQ 22 (.pick (.t 17) (.t 21) (.b false))]) (
 .cond (.t 22) (.skip) (.exit 0))) (
 .block 1 (.seq (.seq (.g [oF 23 4 9, oW 24 (.sl 5) 23, oZ 25 24, oBi 26 .gtr 25 0, oM 27 26, oJ 28 27 true (.mv (.t 0)), oJ 29 27 true (.call (.f 118) [.lent, .rd] false [.c .b] [.t 28, .c (.v (.string ({ data := #[44] } : ByteArray)))]), oJ 30 27 true (.un .not (.t 29)), oQ 31 (.pick (.t 27) (.t 30) (.b false))]) (
 .cond (.t 31) (.g [oM 32 0, oQ 33 (.more (.nck (.t 32))), oF 34 2 33, oS (.store 1 (.t 34) (.b true))]) (.skip))) (
 .seq (.seq (.g [oM 35 1, oBi 36 .eql 35 5]) (
 .cond (.t 36) (.seq (.dreg [(0, 0, []), (9, 3, [.sl 1])] [(0, oF 37 3 9), (0, oW 38 (.sl 1) 37), (0, oM 39 0), (1, oQ 40 (.call (.f 145) [.lent] false [.c .s] [.t 39])), (1, oQ 41 (.lit 1 ([[.v (.string ByteArray.empty)]] : Rows) [(0, (.t 40))]))] [oQ 42 (.app 1 16 (.t 38) (.t 41)), oF 43 3 9, oS (.store 1 (.t 43) (.t 42))]) (
 .g [oM 44 0, oM 45 0, oQ 46 (.more (.nck (.t 45))), oF 47 2 46, oW 48 .b 47, oM 49 48, oJ 50 49 false (.mv (.t 0)), oJ 51 49 false (.call (.f 118) [.lent, .rd] false [.c .b] [.t 50, .c (.v (.string ({ data := #[58] } : ByteArray)))]), oJ 52 49 false (.un .not (.t 51)), oQ 53 (.pick (.t 49) (.b true) (.t 52)), oQ 54 (.more (.nck (.t 44))), oF 55 2 54, oS (.store 1 (.t 55) (.t 53))])) (.skip))) (
 .seq (.dreg [(0, 0, [])] [(0, oF 56 4 9), (0, oW 57 (.sl 5) 56), (0, oM 58 0), (0, oM 59 3), (0, oBi 60 .sub 59 1), (1, oQ 61 (.call (.f 86) [.lent, .rd] false [.g [kI, .s, kI, .sl 1, .sl 5]] [.t 58, .t 60])), (1, oQ 62 (.lit 5 ([[.v (.int .i64 0), .v (.string ByteArray.empty), .v (.int .i64 0), .s 1 [], .s 5 []]] : Rows) [(0, (.t 61))]))] [oQ 63 (.app 5 80 (.t 57) (.t 62)), oF 64 4 9, oS (.store 1 (.t 64) (.t 63))]) (
 .g [oM 65 0, oM 66 0, oQ 67 (.more (.nck (.t 66))), oF 68 2 67, oW 69 .b 68, oM 70 69, oJ 71 70 false (.fad 4 (.t 9)), oJ 72 70 false (.load false [.sl 5] (.t 71)), oJ 73 70 false (.len false (.t 72)), oJ 74 70 false (.bin .gtr (.t 73) (.i 300)), oQ 75 (.pick (.t 70) (.b true) (.t 74)), oQ 76 (.more (.nck (.t 65))), oF 77 2 76, oS (.store 1 (.t 77) (.t 75))]))))))
def e120x0 : Exits := [((.exit 0), [(0, .b [.c .s, .c kI, .c .b]), (8, .b [.c kI, .c .s, .c kI, .o 1, .o 5]), (9, .b [.c kI, .c .s, .c kI, .o 1, .o 5])])]
noncomputable def l120x0 (T : Table) (k : Nat) := loopN (evalC ⟨T, [0], []⟩ k b120x0 (Ex × List AV)) [0, 1, 2, 3, 8, 9] e120x0
def a120 : AFun := ⟨[.lent, .rd, .rd, .rd], false, [.c 8 true [kI, .s, kI, .sl 1, .sl 5]], (
 .seq (.g [oQ 8 (.alloc [.v (.int .i64 0), .v (.string ByteArray.empty), .v (.int .i64 0), .s 1 [], .s 5 []])]) (
 .seq (.g [oM 10 1, oQ 11 (.build [.v (.int .i64 0), .v (.string ByteArray.empty), .v (.int .i64 0), .s 1 [], .s 5 []] [(0, 1, (.t 10))]), oQ 9 (.alloc [.v (.int .i64 0), .v (.string ByteArray.empty), .v (.int .i64 0), .s 1 [], .s 5 []]), oS (.store 5 (.t 9) (.t 11))]) (
 .seq (.block 0 (.loop [0, 1, 2, 3, 8, 9] e120x0 b120x0)) (
 .seq (.g [oL 78 [kI, .s, kI, .sl 1, .sl 5] 9, oS (.store 5 (.t 8) (.t 78))]) (
 .ret)))))⟩
theorem l120x0s (T : Table) (k n : Nat) (s7 s11 s14 s19 : ByteArray) (n8 n10 n12 n13 n15 n18 n20 : Int) (b9 : Bool) (l16 l17 l21 l22 : Rows): l120x0 T k (n + 1) [.b [.v (.string s7), .v (.int .i64 n8), .v (.bool b9)], .v (.int .i64 n10), .v (.string s11), .v (.int .i64 n12), .b [.v (.int .i64 n13), .v (.string s14), .v (.int .i64 n15), .o 1 l16, .o 5 l17], .b [.v (.int .i64 n18), .v (.string s19), .v (.int .i64 n20), .o 1 l21, .o 5 l22]] = (
 bif (!b9) == true then (
 callT T 118 [.p [.v (.string s7), .v (.int .i64 n8), .v (.bool b9)], .d (.v (.string s11))] fun o23 =>
 nth o23.back 0 fun i24 =>
 oP i24 fun r25 =>
 tst (Nat.beq r25.length 3) (
 cS r25 0 fun s26 =>
 cI .i64 r25 1 fun n27 =>
 cB r25 2 fun b28 =>
 oD o23.res fun d29 =>
 dB d29 fun b30 =>
 bif (!b30) then (
 bif (decide ((l22.length : Int) > 0)) == true then (
 callT T 118 [.p [.v (.string s26), .v (.int .i64 n27), .v (.bool b28)], .d (.v (.string ({ data := #[44] } : ByteArray)))] fun o31 =>
 nth o31.back 0 fun i32 =>
 oP i32 fun r33 =>
 tst (Nat.beq r33.length 3) (
 cS r33 0 fun s34 =>
 cI .i64 r33 1 fun n35 =>
 cB r33 2 fun b36 =>
 oD o31.res fun d37 =>
 dB d37 fun b38 =>
 bif (!b38) then (
 bif (n10 == 5) then (
 callT T 145 [.p [.v (.string s34), .v (.int .i64 n35), .v (.bool true)]] fun o39 =>
 nth o39.back 0 fun i40 =>
 oP i40 fun r41 =>
 tst (Nat.beq r41.length 3) (
 cS r41 0 fun s42 =>
 cI .i64 r41 1 fun n43 =>
 cB r41 2 fun b44 =>
 oD o39.res fun d45 =>
 dS d45 fun s46 =>
 tst (decide ((l21.length + ([[.v (.string s46)]] : Rows).length) * 16 ≤ maxBytes)) (
 bif b44 == false then (
 callT T 118 [.p [.v (.string s42), .v (.int .i64 n43), .v (.bool b44)], .d (.v (.string ({ data := #[58] } : ByteArray)))] fun o47 =>
 nth o47.back 0 fun i48 =>
 oP i48 fun r49 =>
 tst (Nat.beq r49.length 3) (
 cS r49 0 fun s50 =>
 cI .i64 r49 1 fun n51 =>
 cB r49 2 fun b52 =>
 oD o47.res fun d53 =>
 dB d53 fun b54 =>
 callT T 86 [.p [.v (.string s50), .v (.int .i64 n51), .v (.bool (!b54))], .d (.v (.int .i64 (IntKind.wrap .i64 (n12 - 1))))] fun o55 =>
 nth o55.back 0 fun i56 =>
 oP i56 fun r57 =>
 tst (Nat.beq r57.length 3) (
 cS r57 0 fun s58 =>
 cI .i64 r57 1 fun n59 =>
 cB r57 2 fun b60 =>
 oG o55.res fun r61 =>
 tst (Nat.beq r61.length 5) (
 cI .i64 r61 0 fun n62 =>
 cS r61 1 fun s63 =>
 cI .i64 r61 2 fun n64 =>
 cL 1 r61 3 fun l65 =>
 cL 5 r61 4 fun l66 =>
 tst (decide ((l22.length + ([[.v (.int .i64 n62), .v (.string s63), .v (.int .i64 n64), hole, hole]] : Rows).length) * 80 ≤ maxBytes)) (
 bif b60 == false then (
 l120x0 T k n [.b [.v (.string s58), .v (.int .i64 n59), .v (.bool (decide (((l22 ++ ([[.v (.int .i64 n62), .v (.string s63), .v (.int .i64 n64), hole, hole]] : Rows)).length : Int) > 300)))], .v (.int .i64 n10), .v (.string s11), .v (.int .i64 n12), .b [.v (.int .i64 n13), .v (.string s14), .v (.int .i64 n15), .o 1 l16, .o 5 l17], .b [.v (.int .i64 n18), .v (.string s19), .v (.int .i64 n20), .o 1 (l21 ++ ([[.v (.string s46)]] : Rows)), .o 5 (setD (setD (l22 ++ ([[.v (.int .i64 n62), .v (.string s63), .v (.int .i64 n64), hole, hole]] : Rows)) (0 + l22.length) 4 (.s 5 l66)) (0 + l22.length) 3 (.s 1 l65))]]) else (
 l120x0 T k n [.b [.v (.string s58), .v (.int .i64 n59), .v (.bool true)], .v (.int .i64 n10), .v (.string s11), .v (.int .i64 n12), .b [.v (.int .i64 n13), .v (.string s14), .v (.int .i64 n15), .o 1 l16, .o 5 l17], .b [.v (.int .i64 n18), .v (.string s19), .v (.int .i64 n20), .o 1 (l21 ++ ([[.v (.string s46)]] : Rows)), .o 5 (setD (setD (l22 ++ ([[.v (.int .i64 n62), .v (.string s63), .v (.int .i64 n64), hole, hole]] : Rows)) (0 + l22.length) 4 (.s 5 l66)) (0 + l22.length) 3 (.s 1 l65))]])))))) else (
 callT T 86 [.p [.v (.string s42), .v (.int .i64 n43), .v (.bool true)], .d (.v (.int .i64 (IntKind.wrap .i64 (n12 - 1))))] fun o67 =>
 nth o67.back 0 fun i68 =>
 oP i68 fun r69 =>
 tst (Nat.beq r69.length 3) (
 cS r69 0 fun s70 =>
 cI .i64 r69 1 fun n71 =>
 cB r69 2 fun b72 =>
 oG o67.res fun r73 =>
 tst (Nat.beq r73.length 5) (
 cI .i64 r73 0 fun n74 =>
 cS r73 1 fun s75 =>
 cI .i64 r73 2 fun n76 =>
 cL 1 r73 3 fun l77 =>
 cL 5 r73 4 fun l78 =>
 tst (decide ((l22.length + ([[.v (.int .i64 n74), .v (.string s75), .v (.int .i64 n76), hole, hole]] : Rows).length) * 80 ≤ maxBytes)) (
 bif b72 == false then (
 l120x0 T k n [.b [.v (.string s70), .v (.int .i64 n71), .v (.bool (decide (((l22 ++ ([[.v (.int .i64 n74), .v (.string s75), .v (.int .i64 n76), hole, hole]] : Rows)).length : Int) > 300)))], .v (.int .i64 n10), .v (.string s11), .v (.int .i64 n12), .b [.v (.int .i64 n13), .v (.string s14), .v (.int .i64 n15), .o 1 l16, .o 5 l17], .b [.v (.int .i64 n18), .v (.string s19), .v (.int .i64 n20), .o 1 (l21 ++ ([[.v (.string s46)]] : Rows)), .o 5 (setD (setD (l22 ++ ([[.v (.int .i64 n74), .v (.string s75), .v (.int .i64 n76), hole, hole]] : Rows)) (0 + l22.length) 4 (.s 5 l78)) (0 + l22.length) 3 (.s 1 l77))]]) else (
 l120x0 T k n [.b [.v (.string s70), .v (.int .i64 n71), .v (.bool true)], .v (.int .i64 n10), .v (.string s11), .v (.int .i64 n12), .b [.v (.int .i64 n13), .v (.string s14), .v (.int .i64 n15), .o 1 l16, .o 5 l17], .b [.v (.int .i64 n18), .v (.string s19), .v (.int .i64 n20), .o 1 (l21 ++ ([[.v (.string s46)]] : Rows)), .o 5 (setD (setD (l22 ++ ([[.v (.int .i64 n74), .v (.string s75), .v (.int .i64 n76), hole, hole]] : Rows)) (0 + l22.length) 4 (.s 5 l78)) (0 + l22.length) 3 (.s 1 l77))]])))))))) else (
 callT T 86 [.p [.v (.string s34), .v (.int .i64 n35), .v (.bool true)], .d (.v (.int .i64 (IntKind.wrap .i64 (n12 - 1))))] fun o79 =>
 nth o79.back 0 fun i80 =>
 oP i80 fun r81 =>
 tst (Nat.beq r81.length 3) (
 cS r81 0 fun s82 =>
 cI .i64 r81 1 fun n83 =>
 cB r81 2 fun b84 =>
 oG o79.res fun r85 =>
 tst (Nat.beq r85.length 5) (
 cI .i64 r85 0 fun n86 =>
 cS r85 1 fun s87 =>
 cI .i64 r85 2 fun n88 =>
 cL 1 r85 3 fun l89 =>
 cL 5 r85 4 fun l90 =>
 tst (decide ((l22.length + ([[.v (.int .i64 n86), .v (.string s87), .v (.int .i64 n88), hole, hole]] : Rows).length) * 80 ≤ maxBytes)) (
 bif b84 == false then (
 l120x0 T k n [.b [.v (.string s82), .v (.int .i64 n83), .v (.bool (decide (((l22 ++ ([[.v (.int .i64 n86), .v (.string s87), .v (.int .i64 n88), hole, hole]] : Rows)).length : Int) > 300)))], .v (.int .i64 n10), .v (.string s11), .v (.int .i64 n12), .b [.v (.int .i64 n13), .v (.string s14), .v (.int .i64 n15), .o 1 l16, .o 5 l17], .b [.v (.int .i64 n18), .v (.string s19), .v (.int .i64 n20), .o 1 l21, .o 5 (setD (setD (l22 ++ ([[.v (.int .i64 n86), .v (.string s87), .v (.int .i64 n88), hole, hole]] : Rows)) (0 + l22.length) 4 (.s 5 l90)) (0 + l22.length) 3 (.s 1 l89))]]) else (
 l120x0 T k n [.b [.v (.string s82), .v (.int .i64 n83), .v (.bool true)], .v (.int .i64 n10), .v (.string s11), .v (.int .i64 n12), .b [.v (.int .i64 n13), .v (.string s14), .v (.int .i64 n15), .o 1 l16, .o 5 l17], .b [.v (.int .i64 n18), .v (.string s19), .v (.int .i64 n20), .o 1 l21, .o 5 (setD (setD (l22 ++ ([[.v (.int .i64 n86), .v (.string s87), .v (.int .i64 n88), hole, hole]] : Rows)) (0 + l22.length) 4 (.s 5 l90)) (0 + l22.length) 3 (.s 1 l89))]])))))) else (
 bif (n10 == 5) then (
 callT T 145 [.p [.v (.string s34), .v (.int .i64 n35), .v (.bool b36)]] fun o91 =>
 nth o91.back 0 fun i92 =>
 oP i92 fun r93 =>
 tst (Nat.beq r93.length 3) (
 cS r93 0 fun s94 =>
 cI .i64 r93 1 fun n95 =>
 cB r93 2 fun b96 =>
 oD o91.res fun d97 =>
 dS d97 fun s98 =>
 tst (decide ((l21.length + ([[.v (.string s98)]] : Rows).length) * 16 ≤ maxBytes)) (
 bif b96 == false then (
 callT T 118 [.p [.v (.string s94), .v (.int .i64 n95), .v (.bool b96)], .d (.v (.string ({ data := #[58] } : ByteArray)))] fun o99 =>
 nth o99.back 0 fun i100 =>
 oP i100 fun r101 =>
 tst (Nat.beq r101.length 3) (
 cS r101 0 fun s102 =>
 cI .i64 r101 1 fun n103 =>
 cB r101 2 fun b104 =>
 oD o99.res fun d105 =>
 dB d105 fun b106 =>
 callT T 86 [.p [.v (.string s102), .v (.int .i64 n103), .v (.bool (!b106))], .d (.v (.int .i64 (IntKind.wrap .i64 (n12 - 1))))] fun o107 =>
 nth o107.back 0 fun i108 =>
 oP i108 fun r109 =>
 tst (Nat.beq r109.length 3) (
 cS r109 0 fun s110 =>
 cI .i64 r109 1 fun n111 =>
 cB r109 2 fun b112 =>
 oG o107.res fun r113 =>
 tst (Nat.beq r113.length 5) (
 cI .i64 r113 0 fun n114 =>
 cS r113 1 fun s115 =>
 cI .i64 r113 2 fun n116 =>
 cL 1 r113 3 fun l117 =>
 cL 5 r113 4 fun l118 =>
 tst (decide ((l22.length + ([[.v (.int .i64 n114), .v (.string s115), .v (.int .i64 n116), hole, hole]] : Rows).length) * 80 ≤ maxBytes)) (
 bif b112 == false then (
 l120x0 T k n [.b [.v (.string s110), .v (.int .i64 n111), .v (.bool (decide (((l22 ++ ([[.v (.int .i64 n114), .v (.string s115), .v (.int .i64 n116), hole, hole]] : Rows)).length : Int) > 300)))], .v (.int .i64 n10), .v (.string s11), .v (.int .i64 n12), .b [.v (.int .i64 n13), .v (.string s14), .v (.int .i64 n15), .o 1 l16, .o 5 l17], .b [.v (.int .i64 n18), .v (.string s19), .v (.int .i64 n20), .o 1 (l21 ++ ([[.v (.string s98)]] : Rows)), .o 5 (setD (setD (l22 ++ ([[.v (.int .i64 n114), .v (.string s115), .v (.int .i64 n116), hole, hole]] : Rows)) (0 + l22.length) 4 (.s 5 l118)) (0 + l22.length) 3 (.s 1 l117))]]) else (
 l120x0 T k n [.b [.v (.string s110), .v (.int .i64 n111), .v (.bool true)], .v (.int .i64 n10), .v (.string s11), .v (.int .i64 n12), .b [.v (.int .i64 n13), .v (.string s14), .v (.int .i64 n15), .o 1 l16, .o 5 l17], .b [.v (.int .i64 n18), .v (.string s19), .v (.int .i64 n20), .o 1 (l21 ++ ([[.v (.string s98)]] : Rows)), .o 5 (setD (setD (l22 ++ ([[.v (.int .i64 n114), .v (.string s115), .v (.int .i64 n116), hole, hole]] : Rows)) (0 + l22.length) 4 (.s 5 l118)) (0 + l22.length) 3 (.s 1 l117))]])))))) else (
 callT T 86 [.p [.v (.string s94), .v (.int .i64 n95), .v (.bool true)], .d (.v (.int .i64 (IntKind.wrap .i64 (n12 - 1))))] fun o119 =>
 nth o119.back 0 fun i120 =>
 oP i120 fun r121 =>
 tst (Nat.beq r121.length 3) (
 cS r121 0 fun s122 =>
 cI .i64 r121 1 fun n123 =>
 cB r121 2 fun b124 =>
 oG o119.res fun r125 =>
 tst (Nat.beq r125.length 5) (
 cI .i64 r125 0 fun n126 =>
 cS r125 1 fun s127 =>
 cI .i64 r125 2 fun n128 =>
 cL 1 r125 3 fun l129 =>
 cL 5 r125 4 fun l130 =>
 tst (decide ((l22.length + ([[.v (.int .i64 n126), .v (.string s127), .v (.int .i64 n128), hole, hole]] : Rows).length) * 80 ≤ maxBytes)) (
 bif b124 == false then (
 l120x0 T k n [.b [.v (.string s122), .v (.int .i64 n123), .v (.bool (decide (((l22 ++ ([[.v (.int .i64 n126), .v (.string s127), .v (.int .i64 n128), hole, hole]] : Rows)).length : Int) > 300)))], .v (.int .i64 n10), .v (.string s11), .v (.int .i64 n12), .b [.v (.int .i64 n13), .v (.string s14), .v (.int .i64 n15), .o 1 l16, .o 5 l17], .b [.v (.int .i64 n18), .v (.string s19), .v (.int .i64 n20), .o 1 (l21 ++ ([[.v (.string s98)]] : Rows)), .o 5 (setD (setD (l22 ++ ([[.v (.int .i64 n126), .v (.string s127), .v (.int .i64 n128), hole, hole]] : Rows)) (0 + l22.length) 4 (.s 5 l130)) (0 + l22.length) 3 (.s 1 l129))]]) else (
 l120x0 T k n [.b [.v (.string s122), .v (.int .i64 n123), .v (.bool true)], .v (.int .i64 n10), .v (.string s11), .v (.int .i64 n12), .b [.v (.int .i64 n13), .v (.string s14), .v (.int .i64 n15), .o 1 l16, .o 5 l17], .b [.v (.int .i64 n18), .v (.string s19), .v (.int .i64 n20), .o 1 (l21 ++ ([[.v (.string s98)]] : Rows)), .o 5 (setD (setD (l22 ++ ([[.v (.int .i64 n126), .v (.string s127), .v (.int .i64 n128), hole, hole]] : Rows)) (0 + l22.length) 4 (.s 5 l130)) (0 + l22.length) 3 (.s 1 l129))]])))))))) else (
 callT T 86 [.p [.v (.string s34), .v (.int .i64 n35), .v (.bool b36)], .d (.v (.int .i64 (IntKind.wrap .i64 (n12 - 1))))] fun o131 =>
 nth o131.back 0 fun i132 =>
 oP i132 fun r133 =>
 tst (Nat.beq r133.length 3) (
 cS r133 0 fun s134 =>
 cI .i64 r133 1 fun n135 =>
 cB r133 2 fun b136 =>
 oG o131.res fun r137 =>
 tst (Nat.beq r137.length 5) (
 cI .i64 r137 0 fun n138 =>
 cS r137 1 fun s139 =>
 cI .i64 r137 2 fun n140 =>
 cL 1 r137 3 fun l141 =>
 cL 5 r137 4 fun l142 =>
 tst (decide ((l22.length + ([[.v (.int .i64 n138), .v (.string s139), .v (.int .i64 n140), hole, hole]] : Rows).length) * 80 ≤ maxBytes)) (
 bif b136 == false then (
 l120x0 T k n [.b [.v (.string s134), .v (.int .i64 n135), .v (.bool (decide (((l22 ++ ([[.v (.int .i64 n138), .v (.string s139), .v (.int .i64 n140), hole, hole]] : Rows)).length : Int) > 300)))], .v (.int .i64 n10), .v (.string s11), .v (.int .i64 n12), .b [.v (.int .i64 n13), .v (.string s14), .v (.int .i64 n15), .o 1 l16, .o 5 l17], .b [.v (.int .i64 n18), .v (.string s19), .v (.int .i64 n20), .o 1 l21, .o 5 (setD (setD (l22 ++ ([[.v (.int .i64 n138), .v (.string s139), .v (.int .i64 n140), hole, hole]] : Rows)) (0 + l22.length) 4 (.s 5 l142)) (0 + l22.length) 3 (.s 1 l141))]]) else (
 l120x0 T k n [.b [.v (.string s134), .v (.int .i64 n135), .v (.bool true)], .v (.int .i64 n10), .v (.string s11), .v (.int .i64 n12), .b [.v (.int .i64 n13), .v (.string s14), .v (.int .i64 n15), .o 1 l16, .o 5 l17], .b [.v (.int .i64 n18), .v (.string s19), .v (.int .i64 n20), .o 1 l21, .o 5 (setD (setD (l22 ++ ([[.v (.int .i64 n138), .v (.string s139), .v (.int .i64 n140), hole, hole]] : Rows)) (0 + l22.length) 4 (.s 5 l142)) (0 + l22.length) 3 (.s 1 l141))]])))))))) else (
 bif (n10 == 5) then (
 callT T 145 [.p [.v (.string s26), .v (.int .i64 n27), .v (.bool b28)]] fun o143 =>
 nth o143.back 0 fun i144 =>
 oP i144 fun r145 =>
 tst (Nat.beq r145.length 3) (
 cS r145 0 fun s146 =>
 cI .i64 r145 1 fun n147 =>
 cB r145 2 fun b148 =>
 oD o143.res fun d149 =>
 dS d149 fun s150 =>
 tst (decide ((l21.length + ([[.v (.string s150)]] : Rows).length) * 16 ≤ maxBytes)) (
 bif b148 == false then (
 callT T 118 [.p [.v (.string s146), .v (.int .i64 n147), .v (.bool b148)], .d (.v (.string ({ data := #[58] } : ByteArray)))] fun o151 =>
 nth o151.back 0 fun i152 =>
 oP i152 fun r153 =>
 tst (Nat.beq r153.length 3) (
 cS r153 0 fun s154 =>
 cI .i64 r153 1 fun n155 =>
 cB r153 2 fun b156 =>
 oD o151.res fun d157 =>
 dB d157 fun b158 =>
 callT T 86 [.p [.v (.string s154), .v (.int .i64 n155), .v (.bool (!b158))], .d (.v (.int .i64 (IntKind.wrap .i64 (n12 - 1))))] fun o159 =>
 nth o159.back 0 fun i160 =>
 oP i160 fun r161 =>
 tst (Nat.beq r161.length 3) (
 cS r161 0 fun s162 =>
 cI .i64 r161 1 fun n163 =>
 cB r161 2 fun b164 =>
 oG o159.res fun r165 =>
 tst (Nat.beq r165.length 5) (
 cI .i64 r165 0 fun n166 =>
 cS r165 1 fun s167 =>
 cI .i64 r165 2 fun n168 =>
 cL 1 r165 3 fun l169 =>
 cL 5 r165 4 fun l170 =>
 tst (decide ((l22.length + ([[.v (.int .i64 n166), .v (.string s167), .v (.int .i64 n168), hole, hole]] : Rows).length) * 80 ≤ maxBytes)) (
 bif b164 == false then (
 l120x0 T k n [.b [.v (.string s162), .v (.int .i64 n163), .v (.bool (decide (((l22 ++ ([[.v (.int .i64 n166), .v (.string s167), .v (.int .i64 n168), hole, hole]] : Rows)).length : Int) > 300)))], .v (.int .i64 n10), .v (.string s11), .v (.int .i64 n12), .b [.v (.int .i64 n13), .v (.string s14), .v (.int .i64 n15), .o 1 l16, .o 5 l17], .b [.v (.int .i64 n18), .v (.string s19), .v (.int .i64 n20), .o 1 (l21 ++ ([[.v (.string s150)]] : Rows)), .o 5 (setD (setD (l22 ++ ([[.v (.int .i64 n166), .v (.string s167), .v (.int .i64 n168), hole, hole]] : Rows)) (0 + l22.length) 4 (.s 5 l170)) (0 + l22.length) 3 (.s 1 l169))]]) else (
 l120x0 T k n [.b [.v (.string s162), .v (.int .i64 n163), .v (.bool true)], .v (.int .i64 n10), .v (.string s11), .v (.int .i64 n12), .b [.v (.int .i64 n13), .v (.string s14), .v (.int .i64 n15), .o 1 l16, .o 5 l17], .b [.v (.int .i64 n18), .v (.string s19), .v (.int .i64 n20), .o 1 (l21 ++ ([[.v (.string s150)]] : Rows)), .o 5 (setD (setD (l22 ++ ([[.v (.int .i64 n166), .v (.string s167), .v (.int .i64 n168), hole, hole]] : Rows)) (0 + l22.length) 4 (.s 5 l170)) (0 + l22.length) 3 (.s 1 l169))]])))))) else (
 callT T 86 [.p [.v (.string s146), .v (.int .i64 n147), .v (.bool true)], .d (.v (.int .i64 (IntKind.wrap .i64 (n12 - 1))))] fun o171 =>
 nth o171.back 0 fun i172 =>
 oP i172 fun r173 =>
 tst (Nat.beq r173.length 3) (
 cS r173 0 fun s174 =>
 cI .i64 r173 1 fun n175 =>
 cB r173 2 fun b176 =>
 oG o171.res fun r177 =>
 tst (Nat.beq r177.length 5) (
 cI .i64 r177 0 fun n178 =>
 cS r177 1 fun s179 =>
 cI .i64 r177 2 fun n180 =>
 cL 1 r177 3 fun l181 =>
 cL 5 r177 4 fun l182 =>
 tst (decide ((l22.length + ([[.v (.int .i64 n178), .v (.string s179), .v (.int .i64 n180), hole, hole]] : Rows).length) * 80 ≤ maxBytes)) (
 bif b176 == false then (
 l120x0 T k n [.b [.v (.string s174), .v (.int .i64 n175), .v (.bool (decide (((l22 ++ ([[.v (.int .i64 n178), .v (.string s179), .v (.int .i64 n180), hole, hole]] : Rows)).length : Int) > 300)))], .v (.int .i64 n10), .v (.string s11), .v (.int .i64 n12), .b [.v (.int .i64 n13), .v (.string s14), .v (.int .i64 n15), .o 1 l16, .o 5 l17], .b [.v (.int .i64 n18), .v (.string s19), .v (.int .i64 n20), .o 1 (l21 ++ ([[.v (.string s150)]] : Rows)), .o 5 (setD (setD (l22 ++ ([[.v (.int .i64 n178), .v (.string s179), .v (.int .i64 n180), hole, hole]] : Rows)) (0 + l22.length) 4 (.s 5 l182)) (0 + l22.length) 3 (.s 1 l181))]]) else (
 l120x0 T k n [.b [.v (.string s174), .v (.int .i64 n175), .v (.bool true)], .v (.int .i64 n10), .v (.string s11), .v (.int .i64 n12), .b [.v (.int .i64 n13), .v (.string s14), .v (.int .i64 n15), .o 1 l16, .o 5 l17], .b [.v (.int .i64 n18), .v (.string s19), .v (.int .i64 n20), .o 1 (l21 ++ ([[.v (.string s150)]] : Rows)), .o 5 (setD (setD (l22 ++ ([[.v (.int .i64 n178), .v (.string s179), .v (.int .i64 n180), hole, hole]] : Rows)) (0 + l22.length) 4 (.s 5 l182)) (0 + l22.length) 3 (.s 1 l181))]])))))))) else (
 callT T 86 [.p [.v (.string s26), .v (.int .i64 n27), .v (.bool b28)], .d (.v (.int .i64 (IntKind.wrap .i64 (n12 - 1))))] fun o183 =>
 nth o183.back 0 fun i184 =>
 oP i184 fun r185 =>
 tst (Nat.beq r185.length 3) (
 cS r185 0 fun s186 =>
 cI .i64 r185 1 fun n187 =>
 cB r185 2 fun b188 =>
 oG o183.res fun r189 =>
 tst (Nat.beq r189.length 5) (
 cI .i64 r189 0 fun n190 =>
 cS r189 1 fun s191 =>
 cI .i64 r189 2 fun n192 =>
 cL 1 r189 3 fun l193 =>
 cL 5 r189 4 fun l194 =>
 tst (decide ((l22.length + ([[.v (.int .i64 n190), .v (.string s191), .v (.int .i64 n192), hole, hole]] : Rows).length) * 80 ≤ maxBytes)) (
 bif b188 == false then (
 l120x0 T k n [.b [.v (.string s186), .v (.int .i64 n187), .v (.bool (decide (((l22 ++ ([[.v (.int .i64 n190), .v (.string s191), .v (.int .i64 n192), hole, hole]] : Rows)).length : Int) > 300)))], .v (.int .i64 n10), .v (.string s11), .v (.int .i64 n12), .b [.v (.int .i64 n13), .v (.string s14), .v (.int .i64 n15), .o 1 l16, .o 5 l17], .b [.v (.int .i64 n18), .v (.string s19), .v (.int .i64 n20), .o 1 l21, .o 5 (setD (setD (l22 ++ ([[.v (.int .i64 n190), .v (.string s191), .v (.int .i64 n192), hole, hole]] : Rows)) (0 + l22.length) 4 (.s 5 l194)) (0 + l22.length) 3 (.s 1 l193))]]) else (
 l120x0 T k n [.b [.v (.string s186), .v (.int .i64 n187), .v (.bool true)], .v (.int .i64 n10), .v (.string s11), .v (.int .i64 n12), .b [.v (.int .i64 n13), .v (.string s14), .v (.int .i64 n15), .o 1 l16, .o 5 l17], .b [.v (.int .i64 n18), .v (.string s19), .v (.int .i64 n20), .o 1 l21, .o 5 (setD (setD (l22 ++ ([[.v (.int .i64 n190), .v (.string s191), .v (.int .i64 n192), hole, hole]] : Rows)) (0 + l22.length) 4 (.s 5 l194)) (0 + l22.length) 3 (.s 1 l193))]]))))))) else (
 some ((.exit 0), [.b [.v (.string s26), .v (.int .i64 n27), .v (.bool b28)], .b [.v (.int .i64 n13), .v (.string s14), .v (.int .i64 n15), .o 1 l16, .o 5 l17], .b [.v (.int .i64 n18), .v (.string s19), .v (.int .i64 n20), .o 1 l21, .o 5 l22]])))) else (
 some ((.exit 0), [.b [.v (.string s7), .v (.int .i64 n8), .v (.bool b9)], .b [.v (.int .i64 n13), .v (.string s14), .v (.int .i64 n15), .o 1 l16, .o 5 l17], .b [.v (.int .i64 n18), .v (.string s19), .v (.int .i64 n20), .o 1 l21, .o 5 l22]]))) := by kernel_rfl
theorem a120q (T : Table) (k : Nat) (s1 s5 : ByteArray) (n2 n4 n6 : Int) (b3 : Bool): evalF T k a120 [.p [.v (.string s1), .v (.int .i64 n2), .v (.bool b3)], .d (.v (.int .i64 n4)), .d (.v (.string s5)), .d (.v (.int .i64 n6))] = (
 aft (l120x0 T k k [.b [.v (.string s1), .v (.int .i64 n2), .v (.bool b3)], .v (.int .i64 n4), .v (.string s5), .v (.int .i64 n6), .b [.v (.int .i64 0), .v (.string ByteArray.empty), .v (.int .i64 0), .o 1 [], .o 5 []], .b [.v (.int .i64 n4), .v (.string ByteArray.empty), .v (.int .i64 0), .o 1 [], .o 5 []]]) fun e195 ys196 =>
 bif e195.same (.exit 0) then (
 aV ys196 0 fun x197 =>
 aX x197 fun xs198 =>
 aV xs198 0 fun x199 =>
 aS x199 fun s200 =>
 aV xs198 1 fun x201 =>
 aI .i64 x201 fun n202 =>
 aV xs198 2 fun x203 =>
 aB x203 fun b204 =>
 aV ys196 1 fun x205 =>
 aX x205 fun xs206 =>
 aV xs206 0 fun x207 =>
 aI .i64 x207 fun n208 =>
 aV xs206 1 fun x209 =>
 aS x209 fun s210 =>
 aV xs206 2 fun x211 =>
 aI .i64 x211 fun n212 =>
 aV xs206 3 fun x213 =>
 aO 1 x213 fun l214 =>
 aV xs206 4 fun x215 =>
 aO 5 x215 fun l216 =>
 aV ys196 2 fun x217 =>
 aX x217 fun xs218 =>
 aV xs218 0 fun x219 =>
 aI .i64 x219 fun n220 =>
 aV xs218 1 fun x221 =>
 aS x221 fun s222 =>
 aV xs218 2 fun x223 =>
 aI .i64 x223 fun n224 =>
 aV xs218 3 fun x225 =>
 aO 1 x225 fun l226 =>
 aV xs218 4 fun x227 =>
 aO 5 x227 fun l228 =>
 some ⟨.g [.v (.int .i64 n220), .v (.string s222), .v (.int .i64 n224), .s 1 l226, .s 5 l228], [.p [.v (.string s200), .v (.int .i64 n202), .v (.bool b204)]]⟩) else (
 none)) := by kernel_rfl
/- loop.example/g00119/spec.l4ReadInt -/
def b121x0 : ACode := (
 .seq (.seq (.g [oM 8 0, oQ 9 (.call (.f 144) [.lent] false [.c (.i .u8)] [.t 8]), oQ 10 (.conv (.int .i64) (.t 9)), oQ 11 (.call (.f 46) [.rd, .rd, .rd] false [.c .b] [.t 10, .i 48, .i 57]), oM 12 11, oJ 13 12 true (.mv (.t 5)), oJ 14 12 true (.bin .lss (.t 13) (.i 19)), oQ 15 (.pick (.t 12) (.t 14) (.b false))]) (
 .cond (.t 15) (.skip) (.exit 0))) (
 .block 1 (.seq (.dreg [] [(3, oM 16 4), (3, oQ 17 (.bin .mul (.t 16) (.c (.v (.int .u64 10))))), (0, oM 18 0), (0, oQ 19 (.more (.nck (.t 18)))), (0, oF 20 0 19), (0, oW 21 .s 20), (0, oM 22 0), (0, oQ 23 (.more (.nck (.t 22)))), (0, oF 24 1 23), (0, oW 25 kI 24)] [oQ 26 (.idx (.t 21) (.t 25)), oQ 27 (.bin .sub (.t 26) (.c (.v (.int .u8 48)))), oQ 28 (.conv (.int .u64) (.t 27)), oB 29 .add 17 28, oM 4 29]) (
 .seq (.g [oM 30 0, oM 31 0, oQ 32 (.more (.nck (.t 31))), oF 33 1 32, oW 34 kI 33, oBi 35 .add 34 1, oQ 36 (.more (.nck (.t 30))), oF 37 1 36, oS (.store 1 (.t 37) (.t 35))]) (
 .g [oM 38 5, oBi 39 .add 38 1, oM 5 39])))))
def e121x0 : Exits := [((.exit 0), [(0, .b [.c .s, .c kI, .c .b]), (3, .c .b), (4, .c (.i .u64)), (5, .c kI)])]
noncomputable def l121x0 (T : Table) (k : Nat) := loopN (evalC ⟨T, [0], []⟩ k b121x0 (Ex × List AV)) [0, 3, 4, 5] e121x0
def a121 : AFun := ⟨[.lent], false, [.t 2], (
 .seq (.g [oK 2 0]) (
 .seq (.g [oM 6 0, oQ 7 (.call (.f 118) [.lent, .rd] false [.c .b] [.t 6, .c (.v (.string ({ data := #[45] } : ByteArray)))]), oM 3 7]) (
 .seq (.g [oQ 4 (.mv (.c (.v (.int .u64 0))))]) (
 .seq (.g [oK 5 0]) (
 .seq (.block 0 (.loop [0, 3, 4, 5] e121x0 b121x0)) (
 .seq (.g [oM 40 0, oM 41 0, oQ 42 (.more (.nck (.t 41))), oF 43 2 42, oW 44 .b 43, oM 45 44, oJ 46 45 false (.mv (.t 5)), oJ 47 45 false (.bin .eql (.t 46) (.i 0)), oQ 48 (.pick (.t 45) (.b true) (.t 47)), oM 49 48, oJ 50 49 false (.mv (.t 4)), oJ 51 49 false (.bin .gtr (.t 50) (.c (.v (.int .u64 9223372036854775808)))), oQ 52 (.pick (.t 49) (.b true) (.t 51)), oM 53 52, oJ 54 53 false (.mv (.t 3)), oJ 55 53 false (.un .not (.t 54)), oJ 56 53 false (.mv (.t 55)), oJ 57 56 true (.mv (.t 4)), oJ 58 56 true (.bin .eql (.t 57) (.c (.v (.int .u64 9223372036854775808)))), oJ 59 53 false (.pick (.t 56) (.t 58) (.b false)), oQ 60 (.pick (.t 53) (.b true) (.t 59)), oQ 61 (.more (.nck (.t 40))), oF 62 2 61, oS (.store 1 (.t 62) (.t 60))]) (
 .seq (.seq (.g [oM 63 3, oM 64 63, oJ 65 64 true (.mv (.t 4)), oJ 66 64 true (.bin .gtr (.t 65) (.c (.v (.int .u64 0)))), oQ 67 (.pick (.t 64) (.t 66) (.b false))]) (
 .cond (.t 67) (.seq (.g [oM 68 4, oQ 69 (.bin .sub (.t 68) (.c (.v (.int .u64 1)))), oQ 70 (.conv (.int .i64) (.t 69)), oQ 71 (.un .neg (.t 70)), oBi 72 .sub 71 1, oM 2 72]) (
 .ret)) (.skip))) (
 .seq (.g [oM 73 4, oQ 74 (.conv (.int .i64) (.t 73)), oM 2 74]) (
 .ret)))))))))⟩
theorem l121x0s (T : Table) (k n : Nat) (s12 : ByteArray) (n13 n16 n17 : Int) (b14 b15 : Bool): l121x0 T k (n + 1) [.b [.v (.string s12), .v (.int .i64 n13), .v (.bool b14)], .v (.bool b15), .v (.int .u64 n16), .v (.int .i64 n17)] = (
 callT T 144 [.p [.v (.string s12), .v (.int .i64 n13), .v (.bool b14)]] fun o18 =>
 nth o18.back 0 fun i19 =>
 oP i19 fun r20 =>
 tst (Nat.beq r20.length 3) (
 cS r20 0 fun s21 =>
 cI .i64 r20 1 fun n22 =>
 cB r20 2 fun b23 =>
 oD o18.res fun d24 =>
 dI .u8 d24 fun n25 =>
 callT T 46 [.d (.v (.int .i64 (IntKind.wrap .i64 n25))), .d (.v (.int .i64 48)), .d (.v (.int .i64 57))] fun o26 =>
 oD o26.res fun d27 =>
 dB d27 fun b28 =>
 bif b28 == true then (
 bif (decide (n17 < 19)) then (
 tst (decide (0 ≤ n22)) (
 byteAt s21 (Int.toNat n22) fun c29 =>
 l121x0 T k n [.b [.v (.string s21), .v (.int .i64 (IntKind.wrap .i64 (n22 + 1))), .v (.bool b23)], .v (.bool b15), .v (.int .u64 (IntKind.wrap .u64 ((IntKind.wrap .u64 (n16 * 10)) + (IntKind.wrap .u64 (IntKind.wrap .u8 ((c29.toNat : Int) - 48)))))), .v (.int .i64 (IntKind.wrap .i64 (n17 + 1)))])) else (
 some ((.exit 0), [.b [.v (.string s21), .v (.int .i64 n22), .v (.bool b23)], .v (.bool b15), .v (.int .u64 n16), .v (.int .i64 n17)]))) else (
 some ((.exit 0), [.b [.v (.string s21), .v (.int .i64 n22), .v (.bool b23)], .v (.bool b15), .v (.int .u64 n16), .v (.int .i64 n17)])))) := by kernel_rfl
theorem a121q (T : Table) (k : Nat) (s1 : ByteArray) (n2 : Int) (b3 : Bool): evalF T k a121 [.p [.v (.string s1), .v (.int .i64 n2), .v (.bool b3)]] = (
 callT T 118 [.p [.v (.string s1), .v (.int .i64 n2), .v (.bool b3)], .d (.v (.string ({ data := #[45] } : ByteArray)))] fun o4 =>
 nth o4.back 0 fun i5 =>
 oP i5 fun r6 =>
 tst (Nat.beq r6.length 3) (
 cS r6 0 fun s7 =>
 cI .i64 r6 1 fun n8 =>
 cB r6 2 fun b9 =>
 oD o4.res fun d10 =>
 dB d10 fun b11 =>
 aft (l121x0 T k k [.b [.v (.string s7), .v (.int .i64 n8), .v (.bool b9)], .v (.bool b11), .v (.int .u64 0), .v (.int .i64 0)]) fun e30 ys31 =>
 bif e30.same (.exit 0) then (
 aV ys31 0 fun x32 =>
 aX x32 fun xs33 =>
 aV xs33 0 fun x34 =>
 aS x34 fun s35 =>
 aV xs33 1 fun x36 =>
 aI .i64 x36 fun n37 =>
 aV xs33 2 fun x38 =>
 aB x38 fun b39 =>
 aV ys31 1 fun x40 =>
 aB x40 fun b41 =>
 aV ys31 2 fun x42 =>
 aI .u64 x42 fun n43 =>
 aV ys31 3 fun x44 =>
 aI .i64 x44 fun n45 =>
 bif b39 == false then (
 bif (n45 == 0) == false then (
 bif (decide (n43 > 9223372036854775808)) == false then (
 bif (!b41) == true then (
 bif b41 == true then (
 bif (decide (n43 > 0)) then (
 some ⟨.d (.v (.int .i64 (IntKind.wrap .i64 ((IntKind.wrap .i64 (0 - (IntKind.wrap .i64 (IntKind.wrap .u64 (n43 - 1))))) - 1)))), [.p [.v (.string s35), .v (.int .i64 n37), .v (.bool (n43 == 9223372036854775808))]]⟩) else (
 some ⟨.d (.v (.int .i64 (IntKind.wrap .i64 n43))), [.p [.v (.string s35), .v (.int .i64 n37), .v (.bool (n43 == 9223372036854775808))]]⟩)) else (
 some ⟨.d (.v (.int .i64 (IntKind.wrap .i64 n43))), [.p [.v (.string s35), .v (.int .i64 n37), .v (.bool (n43 == 9223372036854775808))]]⟩)) else (
 bif b41 == true then (
 bif (decide (n43 > 0)) then (
 some ⟨.d (.v (.int .i64 (IntKind.wrap .i64 ((IntKind.wrap .i64 (0 - (IntKind.wrap .i64 (IntKind.wrap .u64 (n43 - 1))))) - 1)))), [.p [.v (.string s35), .v (.int .i64 n37), .v (.bool false)]]⟩) else (
 some ⟨.d (.v (.int .i64 (IntKind.wrap .i64 n43))), [.p [.v (.string s35), .v (.int .i64 n37), .v (.bool false)]]⟩)) else (
 some ⟨.d (.v (.int .i64 (IntKind.wrap .i64 n43))), [.p [.v (.string s35), .v (.int .i64 n37), .v (.bool false)]]⟩))) else (
 bif b41 == true then (
 bif (decide (n43 > 0)) then (
 some ⟨.d (.v (.int .i64 (IntKind.wrap .i64 ((IntKind.wrap .i64 (0 - (IntKind.wrap .i64 (IntKind.wrap .u64 (n43 - 1))))) - 1)))), [.p [.v (.string s35), .v (.int .i64 n37), .v (.bool true)]]⟩) else (
 some ⟨.d (.v (.int .i64 (IntKind.wrap .i64 n43))), [.p [.v (.string s35), .v (.int .i64 n37), .v (.bool true)]]⟩)) else (
 some ⟨.d (.v (.int .i64 (IntKind.wrap .i64 n43))), [.p [.v (.string s35), .v (.int .i64 n37), .v (.bool true)]]⟩))) else (
 bif b41 == true then (
 bif (decide (n43 > 0)) then (
 some ⟨.d (.v (.int .i64 (IntKind.wrap .i64 ((IntKind.wrap .i64 (0 - (IntKind.wrap .i64 (IntKind.wrap .u64 (n43 - 1))))) - 1)))), [.p [.v (.string s35), .v (.int .i64 n37), .v (.bool true)]]⟩) else (
 some ⟨.d (.v (.int .i64 (IntKind.wrap .i64 n43))), [.p [.v (.string s35), .v (.int .i64 n37), .v (.bool true)]]⟩)) else (
 some ⟨.d (.v (.int .i64 (IntKind.wrap .i64 n43))), [.p [.v (.string s35), .v (.int .i64 n37), .v (.bool true)]]⟩))) else (
 bif b41 == true then (
 bif (decide (n43 > 0)) then (
 some ⟨.d (.v (.int .i64 (IntKind.wrap .i64 ((IntKind.wrap .i64 (0 - (IntKind.wrap .i64 (IntKind.wrap .u64 (n43 - 1))))) - 1)))), [.p [.v (.string s35), .v (.int .i64 n37), .v (.bool true)]]⟩) else (
 some ⟨.d (.v (.int .i64 (IntKind.wrap .i64 n43))), [.p [.v (.string s35), .v (.int .i64 n37), .v (.bool true)]]⟩)) else (
 some ⟨.d (.v (.int .i64 (IntKind.wrap .i64 n43))), [.p [.v (.string s35), .v (.int .i64 n37), .v (.bool true)]]⟩))) else (
 none))) := by kernel_rfl
-- a122 "unicode/utf8.RuneCountInString": op range
/- loop.example/g00119/spec.l4Read -/
def a86 : AFun := ⟨[.lent, .rd], false, [.c 4 true [kI, .s, kI, .sl 1, .sl 5]], (
 .seq (.g [oQ 4 (.alloc [.v (.int .i64 0), .v (.string ByteArray.empty), .v (.int .i64 0), .s 1 [], .s 5 []])]) (
 .seq (.seq (.g [oM 5 1, oBi 6 .eql 5 0]) (
 .cond (.t 6) (.g [oM 7 0, oQ 8 (.more (.nck (.t 7))), oF 9 2 8, oS (.store 1 (.t 9) (.b true))]) (.skip))) (
 .seq (.block 0 (.seq (.g [oM 11 0, oQ 12 (.more (.nck (.t 11))), oF 13 2 12, oW 14 .b 13, oM 10 14]) (
 .cond (.t 10) (.seq (.g [oQ 15 (.build [.v (.int .i64 0), .v (.string ByteArray.empty), .v (.int .i64 0), .s 1 [], .s 5 []] []), oS (.store 5 (.t 4) (.t 15))]) (
 .ret)) (.seq (.g [oM 17 0, oQ 18 (.call (.f 118) [.lent, .rd] false [.c .b] [.t 17, .c (.v (.string ({ data := #[34] } : ByteArray)))]), oM 16 18]) (
 .cond (.t 16) (.seq (.g [oM 19 0, oQ 20 (.call (.f 119) [.lent] false [.c .s] [.t 19]), oQ 21 (.build [.v (.int .i64 0), .v (.string ByteArray.empty), .v (.int .i64 0), .s 1 [], .s 5 []] [(0, 1, (.i 1)), (1, 1, (.t 20))]), oS (.store 5 (.t 4) (.t 21))]) (
 .ret)) (.seq (.g [oM 23 0, oQ 24 (.call (.f 118) [.lent, .rd] false [.c .b] [.t 23, .c (.v (.string ({ data := #[116, 114, 117, 101] } : ByteArray)))]), oM 22 24]) (
 .cond (.t 22) (.seq (.g [oQ 25 (.build [.v (.int .i64 0), .v (.string ByteArray.empty), .v (.int .i64 0), .s 1 [], .s 5 []] [(0, 1, (.i 3)), (2, 1, (.i 1))]), oS (.store 5 (.t 4) (.t 25))]) (
 .ret)) (.seq (.g [oM 27 0, oQ 28 (.call (.f 118) [.lent, .rd] false [.c .b] [.t 27, .c (.v (.string ({ data := #[102, 97, 108, 115, 101] } : ByteArray)))]), oM 26 28]) (
 .cond (.t 26) (.seq (.g [oQ 29 (.build [.v (.int .i64 0), .v (.string ByteArray.empty), .v (.int .i64 0), .s 1 [], .s 5 []] [(0, 1, (.i 3))]), oS (.store 5 (.t 4) (.t 29))]) (
 .ret)) (.seq (.g [oM 31 0, oQ 32 (.call (.f 118) [.lent, .rd] false [.c .b] [.t 31, .c (.v (.string ({ data := #[91] } : ByteArray)))]), oM 30 32]) (
 .cond (.t 30) (.seq (.g [oM 33 0, oM 34 1, oQ 35 (.call (.f 120) [.lent, .rd, .rd, .rd] false [.g [kI, .s, kI, .sl 1, .sl 5]] [.t 33, .i 4, .c (.v (.string ({ data := #[93] } : ByteArray))), .t 34]), oS (.store 5 (.t 4) (.t 35))]) (
 .ret)) (.seq (.g [oM 37 0, oQ 38 (.call (.f 118) [.lent, .rd] false [.c .b] [.t 37, .c (.v (.string ({ data := #[123] } : ByteArray)))]), oM 36 38]) (
 .cond (.t 36) (.seq (.g [oM 39 0, oM 40 1, oQ 41 (.call (.f 120) [.lent, .rd, .rd, .rd] false [.g [kI, .s, kI, .sl 1, .sl 5]] [.t 39, .i 5, .c (.v (.string ({ data := #[125] } : ByteArray))), .t 40]), oS (.store 5 (.t 4) (.t 41))]) (
 .ret)) (.skip)))))))))))))) (
 .seq (.g [oM 42 0, oQ 43 (.call (.f 121) [.lent] false [.c kI] [.t 42]), oQ 44 (.build [.v (.int .i64 0), .v (.string ByteArray.empty), .v (.int .i64 0), .s 1 [], .s 5 []] [(0, 1, (.i 2)), (2, 1, (.t 43))]), oS (.store 5 (.t 4) (.t 44))]) (
 .ret)))))⟩
theorem a86q (T : Table) (k : Nat) (s1 : ByteArray) (n2 n4 : Int) (b3 : Bool): evalF T k a86 [.p [.v (.string s1), .v (.int .i64 n2), .v (.bool b3)], .d (.v (.int .i64 n4))] = (
 bif (n4 == 0) then (
 some ⟨.g [.v (.int .i64 0), .v (.string ByteArray.empty), .v (.int .i64 0), .s 1 [], .s 5 []], [.p [.v (.string s1), .v (.int .i64 n2), .v (.bool true)]]⟩) else (
 bif b3 then (
 some ⟨.g [.v (.int .i64 0), .v (.string ByteArray.empty), .v (.int .i64 0), .s 1 [], .s 5 []], [.p [.v (.string s1), .v (.int .i64 n2), .v (.bool b3)]]⟩) else (
 callT T 118 [.p [.v (.string s1), .v (.int .i64 n2), .v (.bool b3)], .d (.v (.string ({ data := #[34] } : ByteArray)))] fun o5 =>
 nth o5.back 0 fun i6 =>
 oP i6 fun r7 =>
 tst (Nat.beq r7.length 3) (
 cS r7 0 fun s8 =>
 cI .i64 r7 1 fun n9 =>
 cB r7 2 fun b10 =>
 oD o5.res fun d11 =>
 dB d11 fun b12 =>
 bif b12 then (
 callT T 119 [.p [.v (.string s8), .v (.int .i64 n9), .v (.bool b10)]] fun o13 =>
 nth o13.back 0 fun i14 =>
 oP i14 fun r15 =>
 tst (Nat.beq r15.length 3) (
 cS r15 0 fun s16 =>
 cI .i64 r15 1 fun n17 =>
 cB r15 2 fun b18 =>
 oD o13.res fun d19 =>
 dS d19 fun s20 =>
 some ⟨.g [.v (.int .i64 1), .v (.string s20), .v (.int .i64 0), .s 1 [], .s 5 []], [.p [.v (.string s16), .v (.int .i64 n17), .v (.bool b18)]]⟩)) else (
 callT T 118 [.p [.v (.string s8), .v (.int .i64 n9), .v (.bool b10)], .d (.v (.string ({ data := #[116, 114, 117, 101] } : ByteArray)))] fun o21 =>
 nth o21.back 0 fun i22 =>
 oP i22 fun r23 =>
 tst (Nat.beq r23.length 3) (
 cS r23 0 fun s24 =>
 cI .i64 r23 1 fun n25 =>
 cB r23 2 fun b26 =>
 oD o21.res fun d27 =>
 dB d27 fun b28 =>
 bif b28 then (
 some ⟨.g [.v (.int .i64 3), .v (.string ByteArray.empty), .v (.int .i64 1), .s 1 [], .s 5 []], [.p [.v (.string s24), .v (.int .i64 n25), .v (.bool b26)]]⟩) else (
 callT T 118 [.p [.v (.string s24), .v (.int .i64 n25), .v (.bool b26)], .d (.v (.string ({ data := #[102, 97, 108, 115, 101] } : ByteArray)))] fun o29 =>
 nth o29.back 0 fun i30 =>
 oP i30 fun r31 =>
 tst (Nat.beq r31.length 3) (
 cS r31 0 fun s32 =>
 cI .i64 r31 1 fun n33 =>
 cB r31 2 fun b34 =>
 oD o29.res fun d35 =>
 dB d35 fun b36 =>
 bif b36 then (
 some ⟨.g [.v (.int .i64 3), .v (.string ByteArray.empty), .v (.int .i64 0), .s 1 [], .s 5 []], [.p [.v (.string s32), .v (.int .i64 n33), .v (.bool b34)]]⟩) else (
 callT T 118 [.p [.v (.string s32), .v (.int .i64 n33), .v (.bool b34)], .d (.v (.string ({ data := #[91] } : ByteArray)))] fun o37 =>
 nth o37.back 0 fun i38 =>
 oP i38 fun r39 =>
 tst (Nat.beq r39.length 3) (
 cS r39 0 fun s40 =>
 cI .i64 r39 1 fun n41 =>
 cB r39 2 fun b42 =>
 oD o37.res fun d43 =>
 dB d43 fun b44 =>
 bif b44 then (
 callT T 120 [.p [.v (.string s40), .v (.int .i64 n41), .v (.bool b42)], .d (.v (.int .i64 4)), .d (.v (.string ({ data := #[93] } : ByteArray))), .d (.v (.int .i64 n4))] fun o45 =>
 nth o45.back 0 fun i46 =>
 oP i46 fun r47 =>
 tst (Nat.beq r47.length 3) (
 cS r47 0 fun s48 =>
 cI .i64 r47 1 fun n49 =>
 cB r47 2 fun b50 =>
 oG o45.res fun r51 =>
 tst (Nat.beq r51.length 5) (
 cI .i64 r51 0 fun n52 =>
 cS r51 1 fun s53 =>
 cI .i64 r51 2 fun n54 =>
 cL 1 r51 3 fun l55 =>
 cL 5 r51 4 fun l56 =>
 some ⟨.g [.v (.int .i64 n52), .v (.string s53), .v (.int .i64 n54), .s 1 l55, .s 5 l56], [.p [.v (.string s48), .v (.int .i64 n49), .v (.bool b50)]]⟩))) else (
 callT T 118 [.p [.v (.string s40), .v (.int .i64 n41), .v (.bool b42)], .d (.v (.string ({ data := #[123] } : ByteArray)))] fun o57 =>
 nth o57.back 0 fun i58 =>
 oP i58 fun r59 =>
 tst (Nat.beq r59.length 3) (
 cS r59 0 fun s60 =>
 cI .i64 r59 1 fun n61 =>
 cB r59 2 fun b62 =>
 oD o57.res fun d63 =>
 dB d63 fun b64 =>
 bif b64 then (
 callT T 120 [.p [.v (.string s60), .v (.int .i64 n61), .v (.bool b62)], .d (.v (.int .i64 5)), .d (.v (.string ({ data := #[125] } : ByteArray))), .d (.v (.int .i64 n4))] fun o65 =>
 nth o65.back 0 fun i66 =>
 oP i66 fun r67 =>
 tst (Nat.beq r67.length 3) (
 cS r67 0 fun s68 =>
 cI .i64 r67 1 fun n69 =>
 cB r67 2 fun b70 =>
 oG o65.res fun r71 =>
 tst (Nat.beq r71.length 5) (
 cI .i64 r71 0 fun n72 =>
 cS r71 1 fun s73 =>
 cI .i64 r71 2 fun n74 =>
 cL 1 r71 3 fun l75 =>
 cL 5 r71 4 fun l76 =>
 some ⟨.g [.v (.int .i64 n72), .v (.string s73), .v (.int .i64 n74), .s 1 l75, .s 5 l76], [.p [.v (.string s68), .v (.int .i64 n69), .v (.bool b70)]]⟩))) else (
 callT T 121 [.p [.v (.string s60), .v (.int .i64 n61), .v (.bool b62)]] fun o77 =>
 nth o77.back 0 fun i78 =>
 oP i78 fun r79 =>
 tst (Nat.beq r79.length 3) (
 cS r79 0 fun s80 =>
 cI .i64 r79 1 fun n81 =>
 cB r79 2 fun b82 =>
 oD o77.res fun d83 =>
 dI .i64 d83 fun n84 =>
 some ⟨.g [.v (.int .i64 2), .v (.string ByteArray.empty), .v (.int .i64 n84), .s 1 [], .s 5 []], [.p [.v (.string s80), .v (.int .i64 n81), .v (.bool b82)]]⟩)))))))))))))) := by kernel_rfl
/- loop.example/g00119/spec.ParseValue -/
def a52 : AFun := ⟨[.rd], false, [.c 2 true [kI, .s, kI, .sl 1, .sl 5], .t 3], (
 .seq (.g [oQ 2 (.alloc [.v (.int .i64 0), .v (.string ByteArray.empty), .v (.int .i64 0), .s 1 [], .s 5 []]), oV 3 false]) (
 .seq (.g [oM 6 0, oQ 7 (.build [.v (.string ByteArray.empty), .v (.int .i64 0), .v (.bool false)] [(0, 1, (.t 6))]), oQ 8 (.box (.t 7)), oM 4 8]) (
 .seq (.g [oM 9 4, oQ 10 (.call (.f 86) [.lent, .rd] false [.g [kI, .s, kI, .sl 1, .sl 5]] [.t 9, .i 6]), oQ 5 (.alloc [.v (.int .i64 0), .v (.string ByteArray.empty), .v (.int .i64 0), .s 1 [], .s 5 []]), oS (.store 5 (.t 5) (.t 10))]) (
 .seq (.seq (.g [oM 11 4, oQ 12 (.more (.nck (.t 11))), oF 13 2 12, oW 14 .b 13, oM 15 14, oJ 16 15 false (.load true [kI, .s, kI, .sl 1, .sl 5] (.t 5)), oJ 17 15 false (.call (.f 40) [.rd] false [.c .b] [.t 16]), oJ 18 15 false (.un .not (.t 17)), oQ 19 (.pick (.t 15) (.b true) (.t 18)), oM 20 19, oJ 21 20 false (.load true [kI, .s, kI, .sl 1, .sl 5] (.t 5)), oJ 22 20 false (.call (.f 53) [.rd] false [.c .s] [.t 21]), oJ 23 20 false (.mv (.t 0)), oJ 24 20 false (.bin .neq (.t 22) (.t 23)), oQ 25 (.pick (.t 20) (.b true) (.t 24))]) (
 .cond (.t 25) (.seq (.g [oQ 26 (.build [.v (.int .i64 0), .v (.string ByteArray.empty), .v (.int .i64 0), .s 1 [], .s 5 []] []), oS (.store 5 (.t 2) (.t 26)), oV 3 false]) (
 .ret)) (.skip))) (
 .seq (.g [oL 27 [kI, .s, kI, .sl 1, .sl 5] 5, oS (.store 5 (.t 2) (.t 27)), oV 3 true]) (
 .ret))))))⟩
theorem a52q (T : Table) (k : Nat) (s1 : ByteArray): evalF T k a52 [.d (.v (.string s1))] = (
 callT T 86 [.p [.v (.string s1), .v (.int .i64 0), .v (.bool false)], .d (.v (.int .i64 6))] fun o2 =>
 nth o2.back 0 fun i3 =>
 oP i3 fun r4 =>
 tst (Nat.beq r4.length 3) (
 cS r4 0 fun s5 =>
 cI .i64 r4 1 fun n6 =>
 cB r4 2 fun b7 =>
 oG o2.res fun r8 =>
 tst (Nat.beq r8.length 5) (
 cI .i64 r8 0 fun n9 =>
 cS r8 1 fun s10 =>
 cI .i64 r8 2 fun n11 =>
 cL 1 r8 3 fun l12 =>
 cL 5 r8 4 fun l13 =>
 bif b7 == false then (
 callT T 40 [.g [.v (.int .i64 n9), .v (.string s10), .v (.int .i64 n11), .s 1 l12, .s 5 l13]] fun o14 =>
 oD o14.res fun d15 =>
 dB d15 fun b16 =>
 bif (!b16) == false then (
 callT T 53 [.g [.v (.int .i64 n9), .v (.string s10), .v (.int .i64 n11), .s 1 l12, .s 5 l13]] fun o17 =>
 oD o17.res fun d18 =>
 dS d18 fun s19 =>
 bif (!(bytesEq s19 s1)) then (
 some ⟨.t [.g [.v (.int .i64 0), .v (.string ByteArray.empty), .v (.int .i64 0), .s 1 [], .s 5 []], .d (.v (.bool false))], []⟩) else (
 some ⟨.t [.g [.v (.int .i64 n9), .v (.string s10), .v (.int .i64 n11), .s 1 l12, .s 5 l13], .d (.v (.bool true))], []⟩)) else (
 some ⟨.t [.g [.v (.int .i64 0), .v (.string ByteArray.empty), .v (.int .i64 0), .s 1 [], .s 5 []], .d (.v (.bool false))], []⟩)) else (
 some ⟨.t [.g [.v (.int .i64 0), .v (.string ByteArray.empty), .v (.int .i64 0), .s 1 [], .s 5 []], .d (.v (.bool false))], []⟩)))) := by kernel_rfl
/- loop.example/g00119/spec.l5Line -/
def b20x0 : ACode := (
 .seq (.seq (.g [oM 10 5, oBi 11 .lss 10 3]) (
 .cond (.t 11) (.skip) (.exit 0))) (
 .seq (.block 1 (.seq (.g [oM 14 4, oM 15 5, oI 16 1 14 15, oW 17 .s 16, oM 6 17]) (
 .seq (.g [oM 18 0, oQ 19 (.len true (.t 18)), oM 20 6, oQ 21 (.len true (.t 20)), oB 22 .gtr 19 21, oM 23 22, oJ 24 23 true (.mv (.t 0)), oJ 25 23 true (.mv (.t 6)), oJ 26 23 true (.len true (.t 25)), oJ 27 23 true (.slc none (.t 24) none (some (.t 26))), oJ 28 23 true (.mv (.t 6)), oJ 29 23 true (.bin .eql (.t 27) (.t 28)), oQ 30 (.pick (.t 23) (.t 29) (.b false))]) (
 .cond (.t 30) (.seq (.g [oM 31 5, oBi 32 .add 31 1, oF 33 0 3, oS (.store 1 (.t 33) (.t 32))]) (
 .seq (.g [oM 34 0, oM 35 6, oQ 36 (.len true (.t 35)), oQ 37 (.slc none (.t 34) (some (.t 36)) none), oM 0 37]) (
 .exit 0))) (.skip))))) (
 .g [oM 12 5, oBi 13 .add 12 1, oM 5 13])))
def e20x0 : Exits := [((.exit 0), [(0, .c .s), (2, .b [.c kI, .o 1, .c kI, .c .s, .c kI, .o 1, .o 5]), (3, .b [.c kI, .o 1, .c kI, .c .s, .c kI, .o 1, .o 5])])]
noncomputable def l20x0 (T : Table) (k : Nat) := loopN (evalC ⟨T, [], []⟩ k b20x0 (Ex × List AV)) [0, 2, 3, 4, 5] e20x0
def b20x1 : ACode := (
 .seq (.seq (.g [oM 38 7, oM 39 0, oQ 40 (.len true (.t 39)), oB 41 .lss 38 40, oM 42 41, oJ 43 42 true (.mv (.t 0)), oJ 44 42 true (.mv (.t 7)), oJ 45 42 true (.idx (.t 43) (.t 44)), oJ 46 42 true (.bin .neq (.t 45) (.c (.v (.int .u8 32)))), oQ 47 (.pick (.t 42) (.t 46) (.b false))]) (
 .cond (.t 47) (.skip) (.exit 2))) (
 .block 3 (.g [oM 48 7, oBi 49 .add 48 1, oM 7 49])))
def e20x1 : Exits := [((.exit 2), [(0, .c .s), (2, .b [.c kI, .o 1, .c kI, .c .s, .c kI, .o 1, .o 5]), (3, .b [.c kI, .o 1, .c kI, .c .s, .c kI, .o 1, .o 5]), (7, .c kI)])]
noncomputable def l20x1 (T : Table) (k : Nat) := loopN (evalC ⟨T, [], []⟩ k b20x1 (Ex × List AV)) [0, 2, 3, 7] e20x1
def a20 : AFun := ⟨[.rd], false, [.c 2 true [kI, .sl 1, kI, .s, kI, .sl 1, .sl 5]], (
 .seq (.g [oQ 2 (.alloc [.v (.int .i64 0), .s 1 [], .v (.int .i64 0), .v (.string ByteArray.empty), .v (.int .i64 0), .s 1 [], .s 5 []])]) (
 .seq (.g [oQ 8 (.build [.v (.int .i64 0), .s 1 [], .v (.int .i64 0), .v (.string ByteArray.empty), .v (.int .i64 0), .s 1 [], .s 5 []] []), oQ 3 (.alloc [.v (.int .i64 0), .s 1 [], .v (.int .i64 0), .v (.string ByteArray.empty), .v (.int .i64 0), .s 1 [], .s 5 []]), oS (.store 7 (.t 3) (.t 8))]) (
 .seq (.g [oQ 9 (.lit 1 ([[.v (.string ByteArray.empty)], [.v (.string ByteArray.empty)], [.v (.string ByteArray.empty)]] : Rows) [(0, (.c (.v (.string ({ data := #[115, 101, 116, 32] } : ByteArray))))), (1, (.c (.v (.string ({ data := #[100, 114, 111, 112, 32] } : ByteArray))))), (2, (.c (.v (.string ({ data := #[110, 101, 101, 100, 32] } : ByteArray)))))]), oM 4 9]) (
 .seq (.seq (.g [oK 5 0]) (
 .block 0 (.loop [0, 2, 3, 4, 5] e20x0 b20x0))) (
 .seq (.g [oK 7 0]) (
 .seq (.block 2 (.loop [0, 2, 3, 7] e20x1 b20x1)) (
 .seq (.g [oM 50 0, oM 51 7, oQ 52 (.slc none (.t 50) none (some (.t 51))), oQ 53 (.call (.f 19) [.rd, .rd] false [.c (.sl 1)] [.t 52, .c (.v (.int .u8 47))]), oF 54 1 3, oS (.store 1 (.t 54) (.t 53))]) (
 .seq (.seq (.g [oM 55 7, oM 56 0, oQ 57 (.len true (.t 56)), oB 58 .lss 55 57]) (
 .cond (.t 58) (.g [oM 60 0, oM 61 7, oBi 62 .add 61 1, oQ 63 (.slc none (.t 60) (some (.t 62)) none), oC 64 52 [.g [kI, .s, kI, .sl 1, .sl 5], .c .b] [63], oM 59 64, oX 65 59 0, oX 66 59 1, oF 67 2 3, oS (.store 5 (.t 67) (.t 65))]) (.skip))) (
 .seq (.g [oL 68 [kI, .sl 1, kI, .s, kI, .sl 1, .sl 5] 3, oS (.store 7 (.t 2) (.t 68))]) (
 .ret))))))))))⟩
theorem l20x0s (T : Table) (k n : Nat) (s2 s6 s13 : ByteArray) (n3 n5 n7 n10 n12 n14 n18 : Int) (l4 l8 l9 l11 l15 l16 l17 : Rows): l20x0 T k (n + 1) [.v (.string s2), .b [.v (.int .i64 n3), .o 1 l4, .v (.int .i64 n5), .v (.string s6), .v (.int .i64 n7), .o 1 l8, .o 5 l9], .b [.v (.int .i64 n10), .o 1 l11, .v (.int .i64 n12), .v (.string s13), .v (.int .i64 n14), .o 1 l15, .o 5 l16], .o 1 l17, .v (.int .i64 n18)] = (
 bif (decide (n18 < 3)) then (
 tst (decide (0 ≤ n18) && decide (Int.toNat n18 < l17.length)) (
 look l17 (Int.toNat n18) fun r19 =>
 cS r19 0 fun s20 =>
 bif (decide ((s2.size : Int) > (s20.size : Int))) == true then (
 tst (cutOk 0 (s20.size : Int) (s2.size)) (
 bif (bytesEq (s2.extract (Int.toNat 0) (Int.toNat (s20.size : Int))) s20) then (
 tst (cutOk (s20.size : Int) (s2.size : Int) (s2.size)) (
 some ((.exit 0), [.v (.string (s2.extract (Int.toNat (s20.size : Int)) (Int.toNat (s2.size : Int)))), .b [.v (.int .i64 n3), .o 1 l4, .v (.int .i64 n5), .v (.string s6), .v (.int .i64 n7), .o 1 l8, .o 5 l9], .b [.v (.int .i64 (IntKind.wrap .i64 (n18 + 1))), .o 1 l11, .v (.int .i64 n12), .v (.string s13), .v (.int .i64 n14), .o 1 l15, .o 5 l16]]))) else (
 l20x0 T k n [.v (.string s2), .b [.v (.int .i64 n3), .o 1 l4, .v (.int .i64 n5), .v (.string s6), .v (.int .i64 n7), .o 1 l8, .o 5 l9], .b [.v (.int .i64 n10), .o 1 l11, .v (.int .i64 n12), .v (.string s13), .v (.int .i64 n14), .o 1 l15, .o 5 l16], .o 1 l17, .v (.int .i64 (IntKind.wrap .i64 (n18 + 1)))]))) else (
 l20x0 T k n [.v (.string s2), .b [.v (.int .i64 n3), .o 1 l4, .v (.int .i64 n5), .v (.string s6), .v (.int .i64 n7), .o 1 l8, .o 5 l9], .b [.v (.int .i64 n10), .o 1 l11, .v (.int .i64 n12), .v (.string s13), .v (.int .i64 n14), .o 1 l15, .o 5 l16], .o 1 l17, .v (.int .i64 (IntKind.wrap .i64 (n18 + 1)))]))) else (
 some ((.exit 0), [.v (.string s2), .b [.v (.int .i64 n3), .o 1 l4, .v (.int .i64 n5), .v (.string s6), .v (.int .i64 n7), .o 1 l8, .o 5 l9], .b [.v (.int .i64 n10), .o 1 l11, .v (.int .i64 n12), .v (.string s13), .v (.int .i64 n14), .o 1 l15, .o 5 l16]]))) := by kernel_rfl
theorem l20x1s (T : Table) (k n : Nat) (s57 s61 s68 : ByteArray) (n58 n60 n62 n65 n67 n69 n72 : Int) (l59 l63 l64 l66 l70 l71 : Rows): l20x1 T k (n + 1) [.v (.string s57), .b [.v (.int .i64 n58), .o 1 l59, .v (.int .i64 n60), .v (.string s61), .v (.int .i64 n62), .o 1 l63, .o 5 l64], .b [.v (.int .i64 n65), .o 1 l66, .v (.int .i64 n67), .v (.string s68), .v (.int .i64 n69), .o 1 l70, .o 5 l71], .v (.int .i64 n72)] = (
 bif (decide (n72 < (s57.size : Int))) == true then (
 tst (decide (0 ≤ n72)) (
 byteAt s57 (Int.toNat n72) fun c73 =>
 bif ((c73.toNat : Int) != 32) then (
 l20x1 T k n [.v (.string s57), .b [.v (.int .i64 n58), .o 1 l59, .v (.int .i64 n60), .v (.string s61), .v (.int .i64 n62), .o 1 l63, .o 5 l64], .b [.v (.int .i64 n65), .o 1 l66, .v (.int .i64 n67), .v (.string s68), .v (.int .i64 n69), .o 1 l70, .o 5 l71], .v (.int .i64 (IntKind.wrap .i64 (n72 + 1)))]) else (
 some ((.exit 2), [.v (.string s57), .b [.v (.int .i64 n58), .o 1 l59, .v (.int .i64 n60), .v (.string s61), .v (.int .i64 n62), .o 1 l63, .o 5 l64], .b [.v (.int .i64 n65), .o 1 l66, .v (.int .i64 n67), .v (.string s68), .v (.int .i64 n69), .o 1 l70, .o 5 l71], .v (.int .i64 n72)])))) else (
 some ((.exit 2), [.v (.string s57), .b [.v (.int .i64 n58), .o 1 l59, .v (.int .i64 n60), .v (.string s61), .v (.int .i64 n62), .o 1 l63, .o 5 l64], .b [.v (.int .i64 n65), .o 1 l66, .v (.int .i64 n67), .v (.string s68), .v (.int .i64 n69), .o 1 l70, .o 5 l71], .v (.int .i64 n72)]))) := by kernel_rfl
theorem a20q (T : Table) (k : Nat) (s1 : ByteArray): evalF T k a20 [.d (.v (.string s1))] = (
 aft (l20x0 T k k [.v (.string s1), .b [.v (.int .i64 0), .o 1 [], .v (.int .i64 0), .v (.string ByteArray.empty), .v (.int .i64 0), .o 1 [], .o 5 []], .b [.v (.int .i64 0), .o 1 [], .v (.int .i64 0), .v (.string ByteArray.empty), .v (.int .i64 0), .o 1 [], .o 5 []], .o 1 ([[.v (.string ({ data := #[115, 101, 116, 32] } : ByteArray))], [.v (.string ({ data := #[100, 114, 111, 112, 32] } : ByteArray))], [.v (.string ({ data := #[110, 101, 101, 100, 32] } : ByteArray))]] : Rows), .v (.int .i64 0)]) fun e21 ys22 =>
 bif e21.same (.exit 0) then (
 aV ys22 0 fun x23 =>
 aS x23 fun s24 =>
 aV ys22 1 fun x25 =>
 aX x25 fun xs26 =>
 aV xs26 0 fun x27 =>
 aI .i64 x27 fun n28 =>
 aV xs26 1 fun x29 =>
 aO 1 x29 fun l30 =>
 aV xs26 2 fun x31 =>
 aI .i64 x31 fun n32 =>
 aV xs26 3 fun x33 =>
 aS x33 fun s34 =>
 aV xs26 4 fun x35 =>
 aI .i64 x35 fun n36 =>
 aV xs26 5 fun x37 =>
 aO 1 x37 fun l38 =>
 aV xs26 6 fun x39 =>
 aO 5 x39 fun l40 =>
 aV ys22 2 fun x41 =>
 aX x41 fun xs42 =>
 aV xs42 0 fun x43 =>
 aI .i64 x43 fun n44 =>
 aV xs42 1 fun x45 =>
 aO 1 x45 fun l46 =>
 aV xs42 2 fun x47 =>
 aI .i64 x47 fun n48 =>
 aV xs42 3 fun x49 =>
 aS x49 fun s50 =>
 aV xs42 4 fun x51 =>
 aI .i64 x51 fun n52 =>
 aV xs42 5 fun x53 =>
 aO 1 x53 fun l54 =>
 aV xs42 6 fun x55 =>
 aO 5 x55 fun l56 =>
 aft (l20x1 T k k [.v (.string s24), .b [.v (.int .i64 n28), .o 1 l30, .v (.int .i64 n32), .v (.string s34), .v (.int .i64 n36), .o 1 l38, .o 5 l40], .b [.v (.int .i64 n44), .o 1 l46, .v (.int .i64 n48), .v (.string s50), .v (.int .i64 n52), .o 1 l54, .o 5 l56], .v (.int .i64 0)]) fun e74 ys75 =>
 bif e74.same (.exit 2) then (
 aV ys75 0 fun x76 =>
 aS x76 fun s77 =>
 aV ys75 1 fun x78 =>
 aX x78 fun xs79 =>
 aV xs79 0 fun x80 =>
 aI .i64 x80 fun n81 =>
 aV xs79 1 fun x82 =>
 aO 1 x82 fun l83 =>
 aV xs79 2 fun x84 =>
 aI .i64 x84 fun n85 =>
 aV xs79 3 fun x86 =>
 aS x86 fun s87 =>
 aV xs79 4 fun x88 =>
 aI .i64 x88 fun n89 =>
 aV xs79 5 fun x90 =>
 aO 1 x90 fun l91 =>
 aV xs79 6 fun x92 =>
 aO 5 x92 fun l93 =>
 aV ys75 2 fun x94 =>
 aX x94 fun xs95 =>
 aV xs95 0 fun x96 =>
 aI .i64 x96 fun n97 =>
 aV xs95 1 fun x98 =>
 aO 1 x98 fun l99 =>
 aV xs95 2 fun x100 =>
 aI .i64 x100 fun n101 =>
 aV xs95 3 fun x102 =>
 aS x102 fun s103 =>
 aV xs95 4 fun x104 =>
 aI .i64 x104 fun n105 =>
 aV xs95 5 fun x106 =>
 aO 1 x106 fun l107 =>
 aV xs95 6 fun x108 =>
 aO 5 x108 fun l109 =>
 aV ys75 3 fun x110 =>
 aI .i64 x110 fun n111 =>
 tst (cutOk 0 n111 (s77.size)) (
 callT T 19 [.d (.v (.string (s77.extract (Int.toNat 0) (Int.toNat n111)))), .d (.v (.int .u8 47))] fun o112 =>
 oD o112.res fun d113 =>
 dL 1 d113 fun l114 =>
 bif (decide (n111 < (s77.size : Int))) then (
 tst (cutOk (IntKind.wrap .i64 (n111 + 1)) (s77.size : Int) (s77.size)) (
 callT T 52 [.d (.v (.string (s77.extract (Int.toNat (IntKind.wrap .i64 (n111 + 1))) (Int.toNat (s77.size : Int)))))] fun o115 =>
 oT o115.res fun is116 =>
 tst (Nat.beq is116.length 2) (
 nth is116 0 fun i117 =>
 oG i117 fun r118 =>
 tst (Nat.beq r118.length 5) (
 cI .i64 r118 0 fun n119 =>
 cS r118 1 fun s120 =>
 cI .i64 r118 2 fun n121 =>
 cL 1 r118 3 fun l122 =>
 cL 5 r118 4 fun l123 =>
 nth is116 1 fun i124 =>
 oD i124 fun d125 =>
 dB d125 fun b126 =>
 some ⟨.g [.v (.int .i64 n97), .s 1 l114, .v (.int .i64 n119), .v (.string s120), .v (.int .i64 n121), .s 1 l122, .s 5 l123], []⟩)))) else (
 some ⟨.g [.v (.int .i64 n97), .s 1 l114, .v (.int .i64 n101), .v (.string s103), .v (.int .i64 n105), .s 1 l107, .s 5 l109], []⟩))) else (
 none)) else (
 none)) := by kernel_rfl
/- loop.example/g00119/spec.PatchText -/
def b21x1 : ACode := (
 .seq (.seq (.g [oM 27 6, oM 28 0, oM 29 5, oI 30 7 28 29, oF 31 1 30, oW 32 (.sl 1) 31, oZ 33 32, oB 34 .lss 27 33]) (
 .cond (.t 34) (.skip) (.exit 2))) (
 .seq (.block 3 (.seq (.seq (.g [oM 37 6, oBi 38 .gtr 37 0]) (
 .cond (.t 38) (.g [oM 39 4, oQ 40 (.bin .add (.t 39) (.c (.v (.string ({ data := #[47] } : ByteArray))))), oM 4 40]) (.skip))) (
 .g [oM 41 4, oM 42 0, oM 43 5, oI 44 7 42 43, oF 45 1 44, oW 46 (.sl 1) 45, oM 47 6, oI 48 1 46 47, oW 49 .s 48, oB 50 .add 41 49, oM 4 50]))) (
 .g [oM 35 6, oBi 36 .add 35 1, oM 6 36])))
def e21x1 : Exits := [((.exit 2), [(0, .c (.sl 7)), (3, .o 1), (4, .c .s), (5, .c kI)])]
noncomputable def l21x1 (T : Table) (k : Nat) := loopN (evalC ⟨T, [], []⟩ k b21x1 (Ex × List AV)) [0, 3, 4, 5, 6] e21x1
def b21x0 : ACode := (
 .seq (.seq (.g [oM 11 5, oM 12 0, oZ 13 12, oB 14 .lss 11 13]) (
 .cond (.t 14) (.skip) (.exit 0))) (
 .seq (.block 1 (.seq (.g [oM 17 4, oM 18 3, oM 19 0, oM 20 5, oI 21 7 19 20, oF 22 0 21, oW 23 kI 22, oI 24 1 18 23, oW 25 .s 24, oB 26 .add 17 25, oM 4 26]) (
 .seq (.seq (.g [oK 6 0]) (
 .block 2 (.loop [0, 3, 4, 5, 6] e21x1 b21x1))) (
 .seq (.seq (.g [oM 51 0, oM 52 5, oI 53 7 51 52, oF 54 0 53, oW 55 kI 54, oBi 56 .neq 55 2]) (
 .cond (.t 56) (.g [oM 57 4, oQ 58 (.bin .add (.t 57) (.c (.v (.string ({ data := #[32] } : ByteArray))))), oM 59 0, oM 60 5, oI 61 7 59 60, oF 62 2 61, oL 63 [kI, .s, kI, .sl 1, .sl 5] 62, oC 64 53 [.c .s] [63], oB 65 .add 58 64, oM 4 65]) (.skip))) (
 .g [oM 66 4, oQ 67 (.bin .add (.t 66) (.c (.v (.string ({ data := #[10] } : ByteArray))))), oM 4 67]))))) (
 .g [oM 15 5, oBi 16 .add 15 1, oM 5 16])))
def e21x0 : Exits := [((.exit 0), [(4, .c .s)])]
noncomputable def l21x0 (T : Table) (k : Nat) := loopN (evalC ⟨T, [], []⟩ k b21x0 (Ex × List AV)) [0, 3, 4, 5] e21x0
def a21 : AFun := ⟨[.rd], false, [.t 2], (
 .seq (.g [oQ 2 (.mv (.c (.v (.string ({ data := #[] } : ByteArray)))))]) (
 .seq (.seq (.g [oM 7 0, oC 8 17 [.c .b] [7], oN 9 8]) (
 .cond (.t 9) (.seq (.g [oQ 2 (.mv (.c (.v (.string ({ data := #[] } : ByteArray)))))]) (
 .ret)) (.skip))) (
 .seq (.g [oQ 10 (.lit 1 ([[.v (.string ByteArray.empty)], [.v (.string ByteArray.empty)], [.v (.string ByteArray.empty)], [.v (.string ByteArray.empty)]] : Rows) [(0, (.c (.v (.string ({ data := #[] } : ByteArray))))), (1, (.c (.v (.string ({ data := #[115, 101, 116, 32] } : ByteArray))))), (2, (.c (.v (.string ({ data := #[100, 114, 111, 112, 32] } : ByteArray))))), (3, (.c (.v (.string ({ data := #[110, 101, 101, 100, 32] } : ByteArray)))))]), oM 3 10]) (
 .seq (.g [oQ 4 (.mv (.c (.v (.string ({ data := #[] } : ByteArray)))))]) (
 .seq (.seq (.g [oK 5 0]) (
 .block 0 (.loop [0, 3, 4, 5] e21x0 b21x0))) (
 .seq (.g [oM 68 4, oM 2 68]) (
 .ret)))))))⟩
theorem l21x1s (T : Table) (k n : Nat) (l13 l14 : Rows) (s15 : ByteArray) (n16 n17 : Int): l21x1 T k (n + 1) [.fz 7 l13, .o 1 l14, .v (.string s15), .v (.int .i64 n16), .v (.int .i64 n17)] = (
 tst (decide (0 ≤ n16)) (
 look l13 (Int.toNat n16) fun r18 =>
 cL 1 r18 1 fun l19 =>
 bif (decide (n17 < (l19.length : Int))) then (
 bif (decide (n17 > 0)) then (
 tst (decide (s15.size + ({ data := #[47] } : ByteArray).size ≤ maxLen)) (
 tst (decide (0 ≤ n16)) (
 look l13 (Int.toNat n16) fun r20 =>
 cL 1 r20 1 fun l21 =>
 tst (decide (0 ≤ n17)) (
 look l21 (Int.toNat n17) fun r22 =>
 cS r22 0 fun s23 =>
 tst (decide ((s15 ++ ({ data := #[47] } : ByteArray)).size + s23.size ≤ maxLen)) (
 l21x1 T k n [.fz 7 l13, .o 1 l14, .v (.string ((s15 ++ ({ data := #[47] } : ByteArray)) ++ s23)), .v (.int .i64 n16), .v (.int .i64 (IntKind.wrap .i64 (n17 + 1)))]))))) else (
 tst (decide (0 ≤ n16)) (
 look l13 (Int.toNat n16) fun r24 =>
 cL 1 r24 1 fun l25 =>
 tst (decide (0 ≤ n17)) (
 look l25 (Int.toNat n17) fun r26 =>
 cS r26 0 fun s27 =>
 tst (decide (s15.size + s27.size ≤ maxLen)) (
 l21x1 T k n [.fz 7 l13, .o 1 l14, .v (.string (s15 ++ s27)), .v (.int .i64 n16), .v (.int .i64 (IntKind.wrap .i64 (n17 + 1)))]))))) else (
 some ((.exit 2), [.fz 7 l13, .o 1 l14, .v (.string s15), .v (.int .i64 n16)])))) := by kernel_rfl
theorem l21x0s (T : Table) (k n : Nat) (l5 l6 : Rows) (s7 : ByteArray) (n8 : Int): l21x0 T k (n + 1) [.fz 7 l5, .o 1 l6, .v (.string s7), .v (.int .i64 n8)] = (
 bif (decide (n8 < (l5.length : Int))) then (
 tst (decide (0 ≤ n8)) (
 look l5 (Int.toNat n8) fun r9 =>
 cI .i64 r9 0 fun n10 =>
 tst (decide (0 ≤ n10) && decide (Int.toNat n10 < l6.length)) (
 look l6 (Int.toNat n10) fun r11 =>
 cS r11 0 fun s12 =>
 tst (decide (s7.size + s12.size ≤ maxLen)) (
 aft (l21x1 T k k [.fz 7 l5, .o 1 l6, .v (.string (s7 ++ s12)), .v (.int .i64 n8), .v (.int .i64 0)]) fun e28 ys29 =>
 bif e28.same (.exit 2) then (
 aV ys29 0 fun x30 =>
 aL 7 x30 fun l31 =>
 aV ys29 1 fun x32 =>
 aO 1 x32 fun l33 =>
 aV ys29 2 fun x34 =>
 aS x34 fun s35 =>
 aV ys29 3 fun x36 =>
 aI .i64 x36 fun n37 =>
 tst (decide (0 ≤ n37)) (
 look l31 (Int.toNat n37) fun r38 =>
 cI .i64 r38 0 fun n39 =>
 bif (n39 != 2) then (
 tst (decide (s35.size + ({ data := #[32] } : ByteArray).size ≤ maxLen)) (
 tst (decide (0 ≤ n37)) (
 look l31 (Int.toNat n37) fun r40 =>
 cI .i64 r40 2 fun n41 =>
 cS r40 3 fun s42 =>
 cI .i64 r40 4 fun n43 =>
 cL 1 r40 5 fun l44 =>
 cL 5 r40 6 fun l45 =>
 callT T 53 [.g [.v (.int .i64 n41), .v (.string s42), .v (.int .i64 n43), .s 1 l44, .s 5 l45]] fun o46 =>
 oD o46.res fun d47 =>
 dS d47 fun s48 =>
 tst (decide ((s35 ++ ({ data := #[32] } : ByteArray)).size + s48.size ≤ maxLen)) (
 tst (decide (((s35 ++ ({ data := #[32] } : ByteArray)) ++ s48).size + ({ data := #[10] } : ByteArray).size ≤ maxLen)) (
 l21x0 T k n [.fz 7 l31, .o 1 l33, .v (.string (((s35 ++ ({ data := #[32] } : ByteArray)) ++ s48) ++ ({ data := #[10] } : ByteArray))), .v (.int .i64 (IntKind.wrap .i64 (n37 + 1)))]))))) else (
 tst (decide (s35.size + ({ data := #[10] } : ByteArray).size ≤ maxLen)) (
 l21x0 T k n [.fz 7 l31, .o 1 l33, .v (.string (s35 ++ ({ data := #[10] } : ByteArray))), .v (.int .i64 (IntKind.wrap .i64 (n37 + 1)))])))) else (
 none))))) else (
 some ((.exit 0), [.v (.string s7)]))) := by kernel_rfl
theorem a21q (T : Table) (k : Nat) (l1 : Rows): evalF T k a21 [.d (.s 7 l1)] = (
 callT T 17 [.d (.s 7 l1)] fun o2 =>
 oD o2.res fun d3 =>
 dB d3 fun b4 =>
 bif (!b4) then (
 some ⟨.d (.v (.string ({ data := #[] } : ByteArray))), []⟩) else (
 aft (l21x0 T k k [.fz 7 l1, .o 1 ([[.v (.string ({ data := #[] } : ByteArray))], [.v (.string ({ data := #[115, 101, 116, 32] } : ByteArray))], [.v (.string ({ data := #[100, 114, 111, 112, 32] } : ByteArray))], [.v (.string ({ data := #[110, 101, 101, 100, 32] } : ByteArray))]] : Rows), .v (.string ({ data := #[] } : ByteArray)), .v (.int .i64 0)]) fun e49 ys50 =>
 bif e49.same (.exit 0) then (
 aV ys50 0 fun x51 =>
 aS x51 fun s52 =>
 some ⟨.d (.v (.string s52)), []⟩) else (
 none))) := by kernel_rfl
/- loop.example/g00119/spec.ParsePatch -/
def b5x0 : ACode := (
 .seq (.seq (.g [oM 13 6, oBi 14 .add 13 1, oM 15 5, oZ 16 15, oB 17 .lss 14 16, oM 18 17, oJ 19 18 true (.mv (.t 6)), oJ 20 18 true (.bin .leq (.t 19) (.i 20)), oQ 21 (.pick (.t 18) (.t 20) (.b false))]) (
 .cond (.t 21) (.skip) (.exit 0))) (
 .seq (.block 1 (.g [oM 24 4, oM 25 5, oM 26 6, oI 27 1 25 26, oW 28 .s 27, oC 29 20 [.g [kI, .sl 1, kI, .s, kI, .sl 1, .sl 5]] [28], oQ 30 (.lit 7 ([[.v (.int .i64 0), .s 1 [], .v (.int .i64 0), .v (.string ByteArray.empty), .v (.int .i64 0), .s 1 [], .s 5 []]] : Rows) [(0, (.t 29))]), oQ 31 (.app 7 112 (.t 24) (.t 30)), oM 4 31])) (
 .g [oM 22 6, oBi 23 .add 22 1, oM 6 23])))
def e5x0 : Exits := [((.exit 0), [(0, .c .s), (4, .o 7)])]
noncomputable def l5x0 (T : Table) (k : Nat) := loopN (evalC ⟨T, [], []⟩ k b5x0 (Ex × List AV)) [0, 4, 5, 6] e5x0
def a5 : AFun := ⟨[.rd], false, [.t 2, .t 3], (
 .seq (.g [oQ 2 (.mv (.c (.o 7 []))), oV 3 false]) (
 .seq (.g [oQ 7 (.lit 7 ([] : Rows) []), oM 4 7]) (
 .seq (.seq (.g [oM 8 0, oQ 9 (.bin .eql (.t 8) (.c (.v (.string ({ data := #[] } : ByteArray)))))]) (
 .cond (.t 9) (.seq (.g [oM 10 4, oM 2 10, oV 3 true]) (
 .ret)) (.skip))) (
 .seq (.g [oM 11 0, oQ 12 (.call (.f 19) [.rd, .rd] false [.c (.sl 1)] [.t 11, .c (.v (.int .u8 10))]), oM 5 12]) (
 .seq (.seq (.g [oK 6 0]) (
 .block 0 (.loop [0, 4, 5, 6] e5x0 b5x0))) (
 .seq (.seq (.g [oM 32 4, oC 33 17 [.c .b] [32], oN 34 33, oM 35 34, oJ 36 35 false (.mv (.t 4)), oJ 37 35 false (.call (.f 21) [.rd] false [.c .s] [.t 36]), oJ 38 35 false (.mv (.t 0)), oJ 39 35 false (.bin .neq (.t 37) (.t 38)), oQ 40 (.pick (.t 35) (.b true) (.t 39))]) (
 .cond (.t 40) (.seq (.g [oQ 41 (.lit 7 ([] : Rows) []), oM 2 41, oV 3 false]) (
 .ret)) (.skip))) (
 .seq (.g [oM 42 4, oM 2 42, oV 3 true]) (
 .ret))))))))⟩
theorem l5x0s (T : Table) (k n : Nat) (s5 : ByteArray) (l6 l7 : Rows) (n8 : Int): l5x0 T k (n + 1) [.v (.string s5), .o 7 l6, .o 1 l7, .v (.int .i64 n8)] = (
 bif (decide ((IntKind.wrap .i64 (n8 + 1)) < (l7.length : Int))) == true then (
 bif (decide (n8 ≤ 20)) then (
 tst (decide (0 ≤ n8) && decide (Int.toNat n8 < l7.length)) (
 look l7 (Int.toNat n8) fun r9 =>
 cS r9 0 fun s10 =>
 callT T 20 [.d (.v (.string s10))] fun o11 =>
 oG o11.res fun r12 =>
 tst (Nat.beq r12.length 7) (
 cI .i64 r12 0 fun n13 =>
 cL 1 r12 1 fun l14 =>
 cI .i64 r12 2 fun n15 =>
 cS r12 3 fun s16 =>
 cI .i64 r12 4 fun n17 =>
 cL 1 r12 5 fun l18 =>
 cL 5 r12 6 fun l19 =>
 tst (decide ((l6.length + ([[.v (.int .i64 n13), hole, .v (.int .i64 n15), .v (.string s16), .v (.int .i64 n17), hole, hole]] : Rows).length) * 112 ≤ maxBytes)) (
 l5x0 T k n [.v (.string s5), .o 7 (setD (setD (setD (l6 ++ ([[.v (.int .i64 n13), hole, .v (.int .i64 n15), .v (.string s16), .v (.int .i64 n17), hole, hole]] : Rows)) (0 + l6.length) 6 (.s 5 l19)) (0 + l6.length) 5 (.s 1 l18)) (0 + l6.length) 1 (.s 1 l14)), .o 1 l7, .v (.int .i64 (IntKind.wrap .i64 (n8 + 1)))])))) else (
 some ((.exit 0), [.v (.string s5), .o 7 l6]))) else (
 some ((.exit 0), [.v (.string s5), .o 7 l6]))) := by kernel_rfl
theorem a5q (T : Table) (k : Nat) (s1 : ByteArray): evalF T k a5 [.d (.v (.string s1))] = (
 bif (bytesEq s1 ({ data := #[] } : ByteArray)) then (
 some ⟨.t [.d (.s 7 []), .d (.v (.bool true))], []⟩) else (
 callT T 19 [.d (.v (.string s1)), .d (.v (.int .u8 10))] fun o2 =>
 oD o2.res fun d3 =>
 dL 1 d3 fun l4 =>
 aft (l5x0 T k k [.v (.string s1), .o 7 [], .o 1 l4, .v (.int .i64 0)]) fun e20 ys21 =>
 bif e20.same (.exit 0) then (
 aV ys21 0 fun x22 =>
 aS x22 fun s23 =>
 aV ys21 1 fun x24 =>
 aO 7 x24 fun l25 =>
 callT T 17 [.d (.s 7 l25)] fun o26 =>
 oD o26.res fun d27 =>
 dB d27 fun b28 =>
 bif (!b28) == false then (
 callT T 21 [.d (.s 7 l25)] fun o29 =>
 oD o29.res fun d30 =>
 dS d30 fun s31 =>
 bif (!(bytesEq s31 s23)) then (
 some ⟨.t [.d (.s 7 []), .d (.v (.bool false))], []⟩) else (
 some ⟨.t [.d (.s 7 l25), .d (.v (.bool true))], []⟩)) else (
 some ⟨.t [.d (.s 7 []), .d (.v (.bool false))], []⟩)) else (
 none))) := by kernel_rfl
/- slices.IndexFunc[[]loop.example/g00119/impl.Op,loop.example/g00119/impl.Op] -/
def b80x0 : ACode := (
 .seq (.g [oB 9 .lss 8 7]) (
 .seq (.cond (.t 9) (.skip) (.exit 0)) (
 .seq (.block 1 (.seq (.g [oM 10 8, oM 5 10]) (
 .seq (.g [oM 11 1, oM 12 0, oM 13 5, oI 14 7 12 13, oL 15 [kI, .sl 1, kI, .s, kI, .sl 1, .sl 5] 14, oQ 16 (.call (.t 11) [.rd] false [.c .b] [.t 15])]) (
 .cond (.t 16) (.seq (.g [oM 17 5, oM 4 17]) (
 .ret)) (.skip))))) (
 .g [oBi 18 .add 8 1, oM 8 18]))))
def e80x0 : Exits := [(.ret, [(4, .c kI)]), ((.exit 0), [])]
noncomputable def l80x0 (T : Table) (k : Nat) := loopN (evalC ⟨T, [], []⟩ k b80x0 (Ex × List AV)) [0, 1, 7, 8] e80x0
def a80 : AFun := ⟨[.rd, .rd], false, [.t 4], (
 .seq (.g [oK 4 0]) (
 .seq (.seq (.g [oM 6 0, oZ 7 6, oK 8 0]) (
 .block 0 (.loop [0, 1, 7, 8] e80x0 b80x0))) (
 .seq (.g [oK 4 (-1)]) (
 .ret))))⟩
theorem l80x0s (T : Table) (k n f5 : Nat) (l4 : Rows) (cs6 : List I) (n7 n8 : Int): l80x0 T k (n + 1) [.fz 7 l4, .ff f5 cs6, .v (.int .i64 n7), .v (.int .i64 n8)] = (
 bif (decide (n8 < n7)) then (
 tst (decide (0 ≤ n8)) (
 look l4 (Int.toNat n8) fun r9 =>
 cI .i64 r9 0 fun n10 =>
 cL 1 r9 1 fun l11 =>
 cI .i64 r9 2 fun n12 =>
 cS r9 3 fun s13 =>
 cI .i64 r9 4 fun n14 =>
 cL 1 r9 5 fun l15 =>
 cL 5 r9 6 fun l16 =>
 callT T f5 ([.g [.v (.int .i64 n10), .s 1 l11, .v (.int .i64 n12), .v (.string s13), .v (.int .i64 n14), .s 1 l15, .s 5 l16]] ++ cs6) fun o17 =>
 oD o17.res fun d18 =>
 dB d18 fun b19 =>
 bif b19 then (
 some (.ret, [.v (.int .i64 n8)])) else (
 l80x0 T k n [.fz 7 l4, .ff f5 cs6, .v (.int .i64 n7), .v (.int .i64 (IntKind.wrap .i64 (n8 + 1)))]))) else (
 some ((.exit 0), []))) := by kernel_rfl
theorem a80q (T : Table) (k f2 : Nat) (l1 : Rows) (cs3 : List I): evalF T k a80 [.d (.s 7 l1), .f f2 cs3] = (
 aft (l80x0 T k k [.fz 7 l1, .ff f2 cs3, .v (.int .i64 (l1.length : Int)), .v (.int .i64 0)]) fun e20 ys21 =>
 bif e20.same .ret then (
 aV ys21 0 fun x22 =>
 aI .i64 x22 fun n23 =>
 some ⟨.d (.v (.int .i64 n23)), []⟩) else (
 bif e20.same (.exit 0) then (
 some ⟨.d (.v (.int .i64 (-1))), []⟩) else (
 none))) := by kernel_rfl
/- slices.ContainsFunc[[]loop.example/g00119/impl.Op,loop.example/g00119/impl.Op] -/
def a49 : AFun := ⟨[.rd, .rd], false, [.t 4], (
 .seq (.g [oV 4 false]) (
 .seq (.g [oM 5 0, oM 6 1, oC 7 80 [.c kI] [5, 6], oBi 8 .geq 7 0, oM 4 8]) (
 .ret)))⟩
theorem a49q (T : Table) (k f2 : Nat) (l1 : Rows) (cs3 : List I): evalF T k a49 [.d (.s 7 l1), .f f2 cs3] = (
 callT T 80 [.d (.s 7 l1), .f f2 cs3] fun o4 =>
 oD o4.res fun d5 =>
 dI .i64 d5 fun n6 =>
 some ⟨.d (.v (.bool (decide (n6 ≥ 0)))), []⟩) := by kernel_rfl
/- slices.Equal[[]string,string] -/
def b43x0 : ACode := (
 .seq (.g [oB 14 .lss 13 12]) (
 .seq (.cond (.t 14) (.skip) (.exit 0)) (
 .seq (.block 1 (.seq (.g [oM 15 13, oM 5 15]) (
 .seq (.dreg [] [(0, oM 16 0), (0, oM 17 5), (0, oI 18 1 16 17), (0, oW 19 .s 18), (0, oM 20 1), (0, oM 21 5), (0, oI 22 1 20 21), (0, oW 23 .s 22)] [oB 24 .neq 19 23]) (
 .cond (.t 24) (.seq (.g [oV 4 false]) (
 .ret)) (.skip))))) (
 .g [oBi 25 .add 13 1, oM 13 25]))))
def e43x0 : Exits := [(.ret, [(4, .c .b)]), ((.exit 0), [])]
noncomputable def l43x0 (T : Table) (k : Nat) := loopN (evalC ⟨T, [], []⟩ k b43x0 (Ex × List AV)) [0, 1, 12, 13] e43x0
def a43 : AFun := ⟨[.rd, .rd], false, [.t 4], (
 .seq (.g [oV 4 false]) (
 .seq (.seq (.g [oM 6 0, oZ 7 6, oM 8 1, oZ 9 8, oB 10 .neq 7 9]) (
 .cond (.t 10) (.seq (.g [oV 4 false]) (
 .ret)) (.skip))) (
 .seq (.seq (.g [oM 11 0, oZ 12 11, oK 13 0]) (
 .block 0 (.loop [0, 1, 12, 13] e43x0 b43x0))) (
 .seq (.g [oV 4 true]) (
 .ret)))))⟩
theorem l43x0s (T : Table) (k n : Nat) (l3 l4 : Rows) (n5 n6 : Int): l43x0 T k (n + 1) [.fz 1 l3, .fz 1 l4, .v (.int .i64 n5), .v (.int .i64 n6)] = (
 bif (decide (n6 < n5)) then (
 tst (decide (0 ≤ n6)) (
 look l3 (Int.toNat n6) fun r7 =>
 cS r7 0 fun s8 =>
 tst (decide (0 ≤ n6)) (
 look l4 (Int.toNat n6) fun r9 =>
 cS r9 0 fun s10 =>
 bif (!(bytesEq s8 s10)) then (
 some (.ret, [.v (.bool false)])) else (
 l43x0 T k n [.fz 1 l3, .fz 1 l4, .v (.int .i64 n5), .v (.int .i64 (IntKind.wrap .i64 (n6 + 1)))])))) else (
 some ((.exit 0), []))) := by kernel_rfl
theorem a43q (T : Table) (k : Nat) (l1 l2 : Rows): evalF T k a43 [.d (.s 1 l1), .d (.s 1 l2)] = (
 bif ((l1.length : Int) != (l2.length : Int)) then (
 some ⟨.d (.v (.bool false)), []⟩) else (
 aft (l43x0 T k k [.fz 1 l1, .fz 1 l2, .v (.int .i64 (l1.length : Int)), .v (.int .i64 0)]) fun e11 ys12 =>
 bif e11.same .ret then (
 aV ys12 0 fun x13 =>
 aB x13 fun b14 =>
 some ⟨.d (.v (.bool b14)), []⟩) else (
 bif e11.same (.exit 0) then (
 some ⟨.d (.v (.bool true)), []⟩) else (
 none)))) := by kernel_rfl
/- slices.EqualFunc[[]loop.example/g00119/impl.Value,[]loop.example/g00119/impl.Value,loop.example/g00119/impl.Value,loop.example/g00119/impl.Value] -/
def b44x0 : ACode := (
 .seq (.g [oB 18 .lss 17 16]) (
 .seq (.cond (.t 18) (.skip) (.exit 0)) (
 .seq (.block 1 (.seq (.g [oM 19 17, oI 20 5 15 17, oL 21 [kI, .s, kI, .sl 1, .sl 5] 20, oQ 8 (.alloc [.v (.int .i64 0), .v (.string ByteArray.empty), .v (.int .i64 0), .s 1 [], .s 5 []]), oM 7 19, oS (.store 5 (.t 8) (.t 21))]) (
 .seq (.g [oM 22 1, oM 23 7, oI 24 5 22 23, oL 25 [kI, .s, kI, .sl 1, .sl 5] 24, oQ 9 (.alloc [.v (.int .i64 0), .v (.string ByteArray.empty), .v (.int .i64 0), .s 1 [], .s 5 []]), oS (.store 5 (.t 9) (.t 25))]) (
 .seq (.g [oM 26 2, oL 27 [kI, .s, kI, .sl 1, .sl 5] 8, oL 28 [kI, .s, kI, .sl 1, .sl 5] 9, oQ 29 (.call (.t 26) [.rd, .rd] false [.c .b] [.t 27, .t 28]), oN 30 29]) (
 .cond (.t 30) (.seq (.g [oV 6 false]) (
 .ret)) (.skip)))))) (
 .g [oBi 31 .add 17 1, oM 17 31]))))
def e44x0 : Exits := [(.ret, [(6, .c .b)]), ((.exit 0), [])]
noncomputable def l44x0 (T : Table) (k : Nat) := loopN (evalC ⟨T, [], []⟩ k b44x0 (Ex × List AV)) [1, 2, 15, 16, 17] e44x0
def a44 : AFun := ⟨[.rd, .rd, .rd], false, [.t 6], (
 .seq (.g [oV 6 false]) (
 .seq (.seq (.g [oM 10 0, oZ 11 10, oM 12 1, oZ 13 12, oB 14 .neq 11 13]) (
 .cond (.t 14) (.seq (.g [oV 6 false]) (
 .ret)) (.skip))) (
 .seq (.seq (.g [oM 15 0, oZ 16 15, oK 17 0]) (
 .block 0 (.loop [1, 2, 15, 16, 17] e44x0 b44x0))) (
 .seq (.g [oV 6 true]) (
 .ret)))))⟩
theorem l44x0s (T : Table) (k n f6 : Nat) (l5 l8 : Rows) (cs7 : List I) (n9 n10 : Int): l44x0 T k (n + 1) [.fz 5 l5, .ff f6 cs7, .fz 5 l8, .v (.int .i64 n9), .v (.int .i64 n10)] = (
 bif (decide (n10 < n9)) then (
 tst (decide (0 ≤ n10)) (
 look l8 (Int.toNat n10) fun r11 =>
 cI .i64 r11 0 fun n12 =>
 cS r11 1 fun s13 =>
 cI .i64 r11 2 fun n14 =>
 cL 1 r11 3 fun l15 =>
 cL 5 r11 4 fun l16 =>
 tst (decide (0 ≤ n10)) (
 look l5 (Int.toNat n10) fun r17 =>
 cI .i64 r17 0 fun n18 =>
 cS r17 1 fun s19 =>
 cI .i64 r17 2 fun n20 =>
 cL 1 r17 3 fun l21 =>
 cL 5 r17 4 fun l22 =>
 callT T f6 ([.g [.v (.int .i64 n12), .v (.string s13), .v (.int .i64 n14), .s 1 l15, .s 5 l16], .g [.v (.int .i64 n18), .v (.string s19), .v (.int .i64 n20), .s 1 l21, .s 5 l22]] ++ cs7) fun o23 =>
 oD o23.res fun d24 =>
 dB d24 fun b25 =>
 bif (!b25) then (
 some (.ret, [.v (.bool false)])) else (
 l44x0 T k n [.fz 5 l5, .ff f6 cs7, .fz 5 l8, .v (.int .i64 n9), .v (.int .i64 (IntKind.wrap .i64 (n10 + 1)))])))) else (
 some ((.exit 0), []))) := by kernel_rfl
theorem a44q (T : Table) (k f3 : Nat) (l1 l2 : Rows) (cs4 : List I): evalF T k a44 [.d (.s 5 l1), .d (.s 5 l2), .f f3 cs4] = (
 bif ((l1.length : Int) != (l2.length : Int)) then (
 some ⟨.d (.v (.bool false)), []⟩) else (
 aft (l44x0 T k k [.fz 5 l2, .ff f3 cs4, .fz 5 l1, .v (.int .i64 (l1.length : Int)), .v (.int .i64 0)]) fun e26 ys27 =>
 bif e26.same .ret then (
 aV ys27 0 fun x28 =>
 aB x28 fun b29 =>
 some ⟨.d (.v (.bool b29)), []⟩) else (
 bif e26.same (.exit 0) then (
 some ⟨.d (.v (.bool true)), []⟩) else (
 none)))) := by kernel_rfl
/- loop.example/g00119/impl.SameValue -/
def a15 : AFun := ⟨[.rd, .rd], false, [.t 4], (
 .seq (.g [oQ 2 (.box (.t 0)), oQ 3 (.box (.t 1)), oV 4 false]) (
 .seq (.g [oF 5 0 2, oW 6 kI 5, oF 7 0 3, oW 8 kI 7, oB 9 .eql 6 8, oM 10 9, oJ 11 10 true (.fad 1 (.t 2)), oJ 12 10 true (.load false [.s] (.t 11)), oJ 13 10 true (.fad 1 (.t 3)), oJ 14 10 true (.load false [.s] (.t 13)), oJ 15 10 true (.bin .eql (.t 12) (.t 14)), oQ 16 (.pick (.t 10) (.t 15) (.b false)), oM 17 16, oJ 18 17 true (.fad 2 (.t 2)), oJ 19 17 true (.load false [kI] (.t 18)), oJ 20 17 true (.fad 2 (.t 3)), oJ 21 17 true (.load false [kI] (.t 20)), oJ 22 17 true (.bin .eql (.t 19) (.t 21)), oQ 23 (.pick (.t 17) (.t 22) (.b false)), oM 24 23, oJ 25 24 true (.fad 3 (.t 2)), oJ 26 24 true (.load false [.sl 1] (.t 25)), oJ 27 24 true (.fad 3 (.t 3)), oJ 28 24 true (.load false [.sl 1] (.t 27)), oJ 29 24 true (.call (.f 43) [.rd, .rd] false [.c .b] [.t 26, .t 28]), oQ 30 (.pick (.t 24) (.t 29) (.b false)), oM 31 30, oJ 32 31 true (.fad 4 (.t 2)), oJ 33 31 true (.load false [.sl 5] (.t 32)), oJ 34 31 true (.fad 4 (.t 3)), oJ 35 31 true (.load false [.sl 5] (.t 34)), oJ 36 31 true (.call (.f 44) [.rd, .rd, .rd] false [.c .b] [.t 33, .t 35, .f 15]), oQ 37 (.pick (.t 31) (.t 36) (.b false)), oM 4 37]) (
 .ret)))⟩
theorem a15q (T : Table) (k : Nat) (n1 n3 n6 n8 : Int) (s2 s7 : ByteArray) (l4 l5 l9 l10 : Rows): evalF T k a15 [.g [.v (.int .i64 n1), .v (.string s2), .v (.int .i64 n3), .s 1 l4, .s 5 l5], .g [.v (.int .i64 n6), .v (.string s7), .v (.int .i64 n8), .s 1 l9, .s 5 l10]] = (
 bif (n1 == n6) == true then (
 bif (bytesEq s2 s7) == true then (
 bif (n3 == n8) == true then (
 callT T 43 [.d (.s 1 l4), .d (.s 1 l9)] fun o11 =>
 oD o11.res fun d12 =>
 dB d12 fun b13 =>
 bif b13 == true then (
 callT T 44 [.d (.s 5 l5), .d (.s 5 l10), .f 15 []] fun o14 =>
 oD o14.res fun d15 =>
 dB d15 fun b16 =>
 some ⟨.d (.v (.bool b16)), []⟩) else (
 some ⟨.d (.v (.bool false)), []⟩)) else (
 some ⟨.d (.v (.bool false)), []⟩)) else (
 some ⟨.d (.v (.bool false)), []⟩)) else (
 some ⟨.d (.v (.bool false)), []⟩)) := by kernel_rfl
/- loop.example/g00119/impl.within -/
def a81 : AFun := ⟨[.rd, .rd, .rd], false, [.t 6], (
 .seq (.g [oV 6 false]) (
 .seq (.g [oM 7 0, oM 8 1, oB 9 .geq 7 8, oM 10 9, oJ 11 10 true (.mv (.t 0)), oJ 12 10 true (.mv (.t 2)), oJ 13 10 true (.bin .leq (.t 11) (.t 12)), oQ 14 (.pick (.t 10) (.t 13) (.b false)), oM 6 14]) (
 .ret)))⟩
theorem a81q (T : Table) (k : Nat) (n1 n2 n3 : Int): evalF T k a81 [.d (.v (.int .i64 n1)), .d (.v (.int .i64 n2)), .d (.v (.int .i64 n3))] = (
 bif (decide (n1 ≥ n2)) == true then (
 some ⟨.d (.v (.bool (decide (n1 ≤ n3)))), []⟩) else (
 some ⟨.d (.v (.bool false)), []⟩)) := by kernel_rfl
/- loop.example/g00119/impl.NameOk -/
def b84x0 : ACode := (
 .seq (.g [oB 8 .lss 7 6]) (
 .seq (.cond (.t 8) (.skip) (.exit 0)) (
 .seq (.block 1 (.seq (.g [oM 9 7, oM 3 9]) (
 .seq (.g [oM 10 0, oM 11 3, oQ 12 (.idx (.t 10) (.t 11)), oM 4 12]) (
 .seq (.g [oM 13 4, oQ 14 (.bin .lss (.t 13) (.c (.v (.int .u8 97)))), oM 15 14, oJ 16 15 false (.mv (.t 4)), oJ 17 15 false (.bin .gtr (.t 16) (.c (.v (.int .u8 122)))), oQ 18 (.pick (.t 15) (.b true) (.t 17)), oM 19 18, oJ 20 19 true (.mv (.t 4)), oJ 21 19 true (.bin .lss (.t 20) (.c (.v (.int .u8 48)))), oJ 22 19 true (.mv (.t 21)), oJ 23 22 false (.mv (.t 4)), oJ 24 22 false (.bin .gtr (.t 23) (.c (.v (.int .u8 57)))), oJ 25 19 true (.pick (.t 22) (.b true) (.t 24)), oQ 26 (.pick (.t 19) (.t 25) (.b false)), oM 27 26, oJ 28 27 true (.mv (.t 4)), oJ 29 27 true (.bin .neq (.t 28) (.c (.v (.int .u8 45)))), oQ 30 (.pick (.t 27) (.t 29) (.b false))]) (
 .cond (.t 30) (.seq (.g [oV 2 false]) (
 .ret)) (.skip)))))) (
 .g [oBi 31 .add 7 1, oM 7 31]))))
def e84x0 : Exits := [(.ret, [(2, .c .b)]), ((.exit 0), [(0, .c .s)])]
noncomputable def l84x0 (T : Table) (k : Nat) := loopN (evalC ⟨T, [], []⟩ k b84x0 (Ex × List AV)) [0, 6, 7] e84x0
def a84 : AFun := ⟨[.rd], false, [.t 2], (
 .seq (.g [oV 2 false]) (
 .seq (.seq (.g [oM 5 0, oQ 6 (.len true (.t 5)), oK 7 0]) (
 .block 0 (.loop [0, 6, 7] e84x0 b84x0))) (
 .seq (.g [oM 32 0, oQ 33 (.len true (.t 32)), oQ 34 (.call (.f 81) [.rd, .rd, .rd] false [.c .b] [.t 33, .i 1, .i 20]), oM 35 34, oJ 36 35 true (.mv (.t 0)), oJ 37 35 true (.idx (.t 36) (.i 0)), oJ 38 35 true (.bin .neq (.t 37) (.c (.v (.int .u8 45)))), oQ 39 (.pick (.t 35) (.t 38) (.b false)), oM 40 39, oJ 41 40 true (.mv (.t 0)), oJ 42 40 true (.mv (.t 0)), oJ 43 40 true (.len true (.t 42)), oJ 44 40 true (.bin .sub (.t 43) (.i 1)), oJ 45 40 true (.idx (.t 41) (.t 44)), oJ 46 40 true (.bin .neq (.t 45) (.c (.v (.int .u8 45)))), oQ 47 (.pick (.t 40) (.t 46) (.b false)), oM 2 47]) (
 .ret))))⟩
theorem l84x0s (T : Table) (k n : Nat) (s2 : ByteArray) (n3 n4 : Int): l84x0 T k (n + 1) [.v (.string s2), .v (.int .i64 n3), .v (.int .i64 n4)] = (
 bif (decide (n4 < n3)) then (
 tst (decide (0 ≤ n4)) (
 byteAt s2 (Int.toNat n4) fun c5 =>
 bif (decide ((c5.toNat : Int) < 97)) == false then (
 bif (decide ((c5.toNat : Int) > 122)) == true then (
 bif (decide ((c5.toNat : Int) < 48)) == false then (
 bif (decide ((c5.toNat : Int) > 57)) == true then (
 bif ((c5.toNat : Int) != 45) then (
 some (.ret, [.v (.bool false)])) else (
 l84x0 T k n [.v (.string s2), .v (.int .i64 n3), .v (.int .i64 (IntKind.wrap .i64 (n4 + 1)))])) else (
 l84x0 T k n [.v (.string s2), .v (.int .i64 n3), .v (.int .i64 (IntKind.wrap .i64 (n4 + 1)))])) else (
 bif ((c5.toNat : Int) != 45) then (
 some (.ret, [.v (.bool false)])) else (
 l84x0 T k n [.v (.string s2), .v (.int .i64 n3), .v (.int .i64 (IntKind.wrap .i64 (n4 + 1)))]))) else (
 l84x0 T k n [.v (.string s2), .v (.int .i64 n3), .v (.int .i64 (IntKind.wrap .i64 (n4 + 1)))])) else (
 bif (decide ((c5.toNat : Int) < 48)) == false then (
 bif (decide ((c5.toNat : Int) > 57)) == true then (
 bif ((c5.toNat : Int) != 45) then (
 some (.ret, [.v (.bool false)])) else (
 l84x0 T k n [.v (.string s2), .v (.int .i64 n3), .v (.int .i64 (IntKind.wrap .i64 (n4 + 1)))])) else (
 l84x0 T k n [.v (.string s2), .v (.int .i64 n3), .v (.int .i64 (IntKind.wrap .i64 (n4 + 1)))])) else (
 bif ((c5.toNat : Int) != 45) then (
 some (.ret, [.v (.bool false)])) else (
 l84x0 T k n [.v (.string s2), .v (.int .i64 n3), .v (.int .i64 (IntKind.wrap .i64 (n4 + 1)))]))))) else (
 some ((.exit 0), [.v (.string s2)]))) := by kernel_rfl
theorem a84q (T : Table) (k : Nat) (s1 : ByteArray): evalF T k a84 [.d (.v (.string s1))] = (
 aft (l84x0 T k k [.v (.string s1), .v (.int .i64 (s1.size : Int)), .v (.int .i64 0)]) fun e6 ys7 =>
 bif e6.same .ret then (
 aV ys7 0 fun x8 =>
 aB x8 fun b9 =>
 some ⟨.d (.v (.bool b9)), []⟩) else (
 bif e6.same (.exit 0) then (
 aV ys7 0 fun x10 =>
 aS x10 fun s11 =>
 callT T 81 [.d (.v (.int .i64 (s11.size : Int))), .d (.v (.int .i64 1)), .d (.v (.int .i64 20))] fun o12 =>
 oD o12.res fun d13 =>
 dB d13 fun b14 =>
 bif b14 == true then (
 tst (decide (0 ≤ 0)) (
 byteAt s11 (Int.toNat 0) fun c15 =>
 bif ((c15.toNat : Int) != 45) == true then (
 tst (decide (0 ≤ (IntKind.wrap .i64 ((s11.size : Int) - 1)))) (
 byteAt s11 (Int.toNat (IntKind.wrap .i64 ((s11.size : Int) - 1))) fun c16 =>
 some ⟨.d (.v (.bool ((c16.toNat : Int) != 45))), []⟩)) else (
 some ⟨.d (.v (.bool false)), []⟩))) else (
 some ⟨.d (.v (.bool false)), []⟩)) else (
 none))) := by kernel_rfl
/- loop.example/g00119/impl.namesOk -/
def b115x0 : ACode := (
 .seq (.g [oB 10 .lss 9 8]) (
 .seq (.cond (.t 10) (.skip) (.exit 0)) (
 .seq (.block 1 (.seq (.g [oM 11 9, oI 12 1 7 9, oW 13 .s 12, oM 5 11, oM 6 13]) (
 .seq (.g [oM 14 6, oC 15 84 [.c .b] [14], oN 16 15, oM 17 16, oJ 18 17 false (.mv (.t 5)), oJ 19 17 false (.bin .gtr (.t 18) (.i 0)), oJ 20 17 false (.mv (.t 19)), oJ 21 20 true (.mv (.t 0)), oJ 22 20 true (.mv (.t 5)), oJ 23 20 true (.bin .sub (.t 22) (.i 1)), oJ 24 20 true (.iad 1 (.t 21) (.t 23)), oJ 25 20 true (.load false [.s] (.t 24)), oJ 26 20 true (.mv (.t 6)), oJ 27 20 true (.bin .geq (.t 25) (.t 26)), oJ 28 17 false (.pick (.t 20) (.t 27) (.b false)), oQ 29 (.pick (.t 17) (.b true) (.t 28))]) (
 .cond (.t 29) (.seq (.g [oV 4 false]) (
 .ret)) (.skip))))) (
 .g [oBi 30 .add 9 1, oM 9 30]))))
def e115x0 : Exits := [(.ret, [(4, .c .b)]), ((.exit 0), [(0, .c (.sl 1)), (1, .c kI)])]
noncomputable def l115x0 (T : Table) (k : Nat) := loopN (evalC ⟨T, [], []⟩ k b115x0 (Ex × List AV)) [0, 1, 7, 8, 9] e115x0
def a115 : AFun := ⟨[.rd, .rd], false, [.t 4], (
 .seq (.g [oV 4 false]) (
 .seq (.seq (.g [oM 7 0, oZ 8 7, oK 9 0]) (
 .block 0 (.loop [0, 1, 7, 8, 9] e115x0 b115x0))) (
 .seq (.g [oM 31 0, oZ 32 31, oM 33 1, oB 34 .leq 32 33, oM 4 34]) (
 .ret))))⟩
theorem l115x0s (T : Table) (k n : Nat) (l3 l5 : Rows) (n4 n6 n7 : Int): l115x0 T k (n + 1) [.fz 1 l3, .v (.int .i64 n4), .fz 1 l5, .v (.int .i64 n6), .v (.int .i64 n7)] = (
 bif (decide (n7 < n6)) then (
 tst (decide (0 ≤ n7)) (
 look l5 (Int.toNat n7) fun r8 =>
 cS r8 0 fun s9 =>
 callT T 84 [.d (.v (.string s9))] fun o10 =>
 oD o10.res fun d11 =>
 dB d11 fun b12 =>
 bif (!b12) == false then (
 bif (decide (n7 > 0)) == true then (
 tst (decide (0 ≤ (IntKind.wrap .i64 (n7 - 1)))) (
 look l3 (Int.toNat (IntKind.wrap .i64 (n7 - 1))) fun r13 =>
 cS r13 0 fun s14 =>
 bif (!(bytesLess s14 s9)) then (
 some (.ret, [.v (.bool false)])) else (
 l115x0 T k n [.fz 1 l3, .v (.int .i64 n4), .fz 1 l5, .v (.int .i64 n6), .v (.int .i64 (IntKind.wrap .i64 (n7 + 1)))]))) else (
 l115x0 T k n [.fz 1 l3, .v (.int .i64 n4), .fz 1 l5, .v (.int .i64 n6), .v (.int .i64 (IntKind.wrap .i64 (n7 + 1)))])) else (
 some (.ret, [.v (.bool false)])))) else (
 some ((.exit 0), [.fz 1 l3, .v (.int .i64 n4)]))) := by kernel_rfl
theorem a115q (T : Table) (k : Nat) (l1 : Rows) (n2 : Int): evalF T k a115 [.d (.s 1 l1), .d (.v (.int .i64 n2))] = (
 aft (l115x0 T k k [.fz 1 l1, .v (.int .i64 n2), .fz 1 l1, .v (.int .i64 (l1.length : Int)), .v (.int .i64 0)]) fun e15 ys16 =>
 bif e15.same .ret then (
 aV ys16 0 fun x17 =>
 aB x17 fun b18 =>
 some ⟨.d (.v (.bool b18)), []⟩) else (
 bif e15.same (.exit 0) then (
 aV ys16 0 fun x19 =>
 aL 1 x19 fun l20 =>
 aV ys16 1 fun x21 =>
 aI .i64 x21 fun n22 =>
 some ⟨.d (.v (.bool (decide ((l20.length : Int) ≤ n22)))), []⟩) else (
 none))) := by kernel_rfl
/- loop.example/g00119/impl.shapeOk -/
def b77x0 : ACode := (
 .seq (.g [oB 30 .lss 29 28]) (
 .seq (.cond (.t 30) (.skip) (.exit 1)) (
 .seq (.block 2 (.seq (.g [oM 31 29, oM 7 31]) (
 .seq (.g [oF 32 1 1, oW 33 .s 32, oM 34 7, oQ 35 (.idx (.t 33) (.t 34)), oQ 36 (.conv (.int .i64) (.t 35)), oQ 37 (.call (.f 81) [.rd, .rd, .rd] false [.c .b] [.t 36, .i 32, .i 126]), oN 38 37]) (
 .cond (.t 38) (.seq (.g [oV 2 false]) (
 .ret)) (.skip))))) (
 .g [oBi 39 .add 29 1, oM 29 39]))))
def e77x0 : Exits := [(.ret, [(2, .c .b)]), ((.exit 1), [(1, .b [.c kI, .c .s, .c kI, .c (.sl 1), .c (.sl 5)]), (4, .c .b), (5, .c .b), (6, .c .b)])]
noncomputable def l77x0 (T : Table) (k : Nat) := loopN (evalC ⟨T, [], []⟩ k b77x0 (Ex × List AV)) [1, 4, 5, 6, 28, 29] e77x0
def a77 : AFun := ⟨[.rd], false, [.t 2], (
 .seq (.g [oQ 1 (.box (.t 0)), oV 2 false]) (
 .seq (.dreg [] [(0, oF 8 1 1), (0, oW 9 .s 8), (0, oQ 10 (.bin .eql (.t 9) (.c (.v (.string ({ data := #[] } : ByteArray)))))), (0, oF 11 2 1), (0, oW 12 kI 11), (0, oBi 13 .eql 12 0), (0, oF 14 3 1), (0, oW 15 (.sl 1) 14), (0, oZ 16 15), (0, oBi 17 .eql 16 0), (0, oF 18 4 1), (0, oW 19 (.sl 5) 18), (0, oZ 20 19), (0, oBi 21 .eql 20 0), (0, oM 3 10), (0, oM 4 13), (0, oM 5 17)] [oM 6 21]) (
 .seq (.seq (.g [oF 22 0 1, oW 23 kI 22]) (
 .block 0 (.seq (.g [oBi 25 .eql 23 1, oM 24 25]) (
 .cond (.t 24) (.seq (.seq (.g [oF 26 1 1, oW 27 .s 26, oQ 28 (.len true (.t 27)), oK 29 0]) (
 .block 1 (.loop [1, 4, 5, 6, 28, 29] e77x0 b77x0))) (
 .g [oF 40 1 1, oW 41 .s 40, oQ 42 (.len true (.t 41)), oBi 43 .leq 42 100, oM 3 43])) (.seq (.g [oBi 45 .eql 23 2, oM 44 45]) (
 .cond (.t 44) (.g [oV 4 true]) (.seq (.g [oBi 47 .eql 23 3, oM 46 47]) (
 .cond (.t 46) (.g [oF 48 2 1, oW 49 kI 48, oQ 50 (.call (.f 81) [.rd, .rd, .rd] false [.c .b] [.t 49, .i 0, .i 1]), oM 4 50]) (.seq (.g [oBi 52 .eql 23 4, oM 51 52]) (
 .cond (.t 51) (.g [oV 6 true]) (.seq (.g [oBi 54 .eql 23 5, oM 53 54]) (
 .cond (.t 53) (.seq (.g [oF 55 3 1, oW 56 (.sl 1) 55, oQ 57 (.call (.f 115) [.rd, .rd] false [.c .b] [.t 56, .i 300]), oM 58 57, oJ 59 58 true (.fad 3 (.t 1)), oJ 60 58 true (.load false [.sl 1] (.t 59)), oJ 61 58 true (.len false (.t 60)), oJ 62 58 true (.fad 4 (.t 1)), oJ 63 58 true (.load false [.sl 5] (.t 62)), oJ 64 58 true (.len false (.t 63)), oJ 65 58 true (.bin .eql (.t 61) (.t 64)), oQ 66 (.pick (.t 58) (.t 65) (.b false)), oM 5 66]) (
 .g [oV 6 true])) (.seq (.g [oV 2 false]) (
 .ret)))))))))))))) (
 .seq (.g [oM 67 3, oM 68 67, oJ 69 68 true (.mv (.t 4)), oQ 70 (.pick (.t 68) (.t 69) (.b false)), oM 71 70, oJ 72 71 true (.mv (.t 5)), oQ 73 (.pick (.t 71) (.t 72) (.b false)), oM 74 73, oJ 75 74 true (.mv (.t 6)), oQ 76 (.pick (.t 74) (.t 75) (.b false)), oM 2 76]) (
 .ret)))))⟩
theorem l77x0s (T : Table) (k n : Nat) (n6 n8 n14 n15 : Int) (s7 : ByteArray) (l9 l10 : Rows) (b11 b12 b13 : Bool): l77x0 T k (n + 1) [.b [.v (.int .i64 n6), .v (.string s7), .v (.int .i64 n8), .fz 1 l9, .fz 5 l10], .v (.bool b11), .v (.bool b12), .v (.bool b13), .v (.int .i64 n14), .v (.int .i64 n15)] = (
 bif (decide (n15 < n14)) then (
 tst (decide (0 ≤ n15)) (
 byteAt s7 (Int.toNat n15) fun c16 =>
 callT T 81 [.d (.v (.int .i64 (IntKind.wrap .i64 (c16.toNat : Int)))), .d (.v (.int .i64 32)), .d (.v (.int .i64 126))] fun o17 =>
 oD o17.res fun d18 =>
 dB d18 fun b19 =>
 bif (!b19) then (
 some (.ret, [.v (.bool false)])) else (
 l77x0 T k n [.b [.v (.int .i64 n6), .v (.string s7), .v (.int .i64 n8), .fz 1 l9, .fz 5 l10], .v (.bool b11), .v (.bool b12), .v (.bool b13), .v (.int .i64 n14), .v (.int .i64 (IntKind.wrap .i64 (n15 + 1)))]))) else (
 some ((.exit 1), [.b [.v (.int .i64 n6), .v (.string s7), .v (.int .i64 n8), .fz 1 l9, .fz 5 l10], .v (.bool b11), .v (.bool b12), .v (.bool b13)]))) := by kernel_rfl
theorem a77q (T : Table) (k : Nat) (n1 n3 : Int) (s2 : ByteArray) (l4 l5 : Rows): evalF T k a77 [.g [.v (.int .i64 n1), .v (.string s2), .v (.int .i64 n3), .s 1 l4, .s 5 l5]] = (
 bif (n1 == 1) then (
 aft (l77x0 T k k [.b [.v (.int .i64 n1), .v (.string s2), .v (.int .i64 n3), .fz 1 l4, .fz 5 l5], .v (.bool (n3 == 0)), .v (.bool ((l4.length : Int) == 0)), .v (.bool ((l5.length : Int) == 0)), .v (.int .i64 (s2.size : Int)), .v (.int .i64 0)]) fun e20 ys21 =>
 bif e20.same .ret then (
 aV ys21 0 fun x22 =>
 aB x22 fun b23 =>
 some ⟨.d (.v (.bool b23)), []⟩) else (
 bif e20.same (.exit 1) then (
 aV ys21 0 fun x24 =>
 aX x24 fun xs25 =>
 aV xs25 0 fun x26 =>
 aI .i64 x26 fun n27 =>
 aV xs25 1 fun x28 =>
 aS x28 fun s29 =>
 aV xs25 2 fun x30 =>
 aI .i64 x30 fun n31 =>
 aV xs25 3 fun x32 =>
 aL 1 x32 fun l33 =>
 aV xs25 4 fun x34 =>
 aL 5 x34 fun l35 =>
 aV ys21 1 fun x36 =>
 aB x36 fun b37 =>
 aV ys21 2 fun x38 =>
 aB x38 fun b39 =>
 aV ys21 3 fun x40 =>
 aB x40 fun b41 =>
 bif (decide ((s29.size : Int) ≤ 100)) == true then (
 bif b37 == true then (
 bif b39 == true then (
 some ⟨.d (.v (.bool b41)), []⟩) else (
 some ⟨.d (.v (.bool false)), []⟩)) else (
 some ⟨.d (.v (.bool false)), []⟩)) else (
 some ⟨.d (.v (.bool false)), []⟩)) else (
 none))) else (
 bif (n1 == 2) then (
 bif (bytesEq s2 ({ data := #[] } : ByteArray)) == true then (
 bif ((l4.length : Int) == 0) == true then (
 some ⟨.d (.v (.bool ((l5.length : Int) == 0))), []⟩) else (
 some ⟨.d (.v (.bool false)), []⟩)) else (
 some ⟨.d (.v (.bool false)), []⟩)) else (
 bif (n1 == 3) then (
 callT T 81 [.d (.v (.int .i64 n3)), .d (.v (.int .i64 0)), .d (.v (.int .i64 1))] fun o42 =>
 oD o42.res fun d43 =>
 dB d43 fun b44 =>
 bif (bytesEq s2 ({ data := #[] } : ByteArray)) == true then (
 bif b44 == true then (
 bif ((l4.length : Int) == 0) == true then (
 some ⟨.d (.v (.bool ((l5.length : Int) == 0))), []⟩) else (
 some ⟨.d (.v (.bool false)), []⟩)) else (
 some ⟨.d (.v (.bool false)), []⟩)) else (
 some ⟨.d (.v (.bool false)), []⟩)) else (
 bif (n1 == 4) then (
 bif (bytesEq s2 ({ data := #[] } : ByteArray)) == true then (
 bif (n3 == 0) == true then (
 bif ((l4.length : Int) == 0) == true then (
 some ⟨.d (.v (.bool true)), []⟩) else (
 some ⟨.d (.v (.bool false)), []⟩)) else (
 some ⟨.d (.v (.bool false)), []⟩)) else (
 some ⟨.d (.v (.bool false)), []⟩)) else (
 bif (n1 == 5) then (
 callT T 115 [.d (.s 1 l4), .d (.v (.int .i64 300))] fun o45 =>
 oD o45.res fun d46 =>
 dB d46 fun b47 =>
 bif b47 == true then (
 bif (bytesEq s2 ({ data := #[] } : ByteArray)) == true then (
 bif (n3 == 0) == true then (
 bif ((l4.length : Int) == (l5.length : Int)) == true then (
 some ⟨.d (.v (.bool true)), []⟩) else (
 some ⟨.d (.v (.bool false)), []⟩)) else (
 some ⟨.d (.v (.bool false)), []⟩)) else (
 some ⟨.d (.v (.bool false)), []⟩)) else (
 bif (bytesEq s2 ({ data := #[] } : ByteArray)) == true then (
 bif (n3 == 0) == true then (
 some ⟨.d (.v (.bool false)), []⟩) else (
 some ⟨.d (.v (.bool false)), []⟩)) else (
 some ⟨.d (.v (.bool false)), []⟩))) else (
 some ⟨.d (.v (.bool false)), []⟩)))))) := by kernel_rfl
/- loop.example/g00119/impl.measured -/
def b45x0 : ACode := (
 .seq (.g [oB 19 .lss 18 17]) (
 .seq (.cond (.t 19) (.skip) (.exit 0)) (
 .seq (.block 1 (.seq (.g [oI 20 5 16 18, oL 21 [kI, .s, kI, .sl 1, .sl 5] 20, oQ 7 (.alloc [.v (.int .i64 0), .v (.string ByteArray.empty), .v (.int .i64 0), .s 1 [], .s 5 []]), oS (.store 5 (.t 7) (.t 21))]) (
 .seq (.g [oM 22 5, oL 23 [kI, .s, kI, .sl 1, .sl 5] 7, oM 24 1, oBi 25 .sub 24 1, oC 26 45 [.c kI] [23, 25], oB 27 .add 22 26, oM 5 27]) (
 .seq (.g [oM 28 5, oBi 29 .gtr 28 300]) (
 .cond (.t 29) (.seq (.g [oK 4 301]) (
 .ret)) (.skip)))))) (
 .g [oBi 30 .add 18 1, oM 18 30]))))
def e45x0 : Exits := [(.ret, [(4, .c kI)]), ((.exit 0), [(5, .c kI)])]
noncomputable def l45x0 (T : Table) (k : Nat) := loopN (evalC ⟨T, [], []⟩ k b45x0 (Ex × List AV)) [1, 5, 16, 17, 18] e45x0
def a45 : AFun := ⟨[.rd, .rd], false, [.t 4], (
 .seq (.g [oQ 2 (.box (.t 0)), oK 4 0]) (
 .seq (.seq (.g [oM 8 1, oBi 9 .eql 8 0, oM 10 9, oJ 11 10 false (.load true [kI, .s, kI, .sl 1, .sl 5] (.t 2)), oJ 12 10 false (.call (.f 77) [.rd] false [.c .b] [.t 11]), oJ 13 10 false (.un .not (.t 12)), oQ 14 (.pick (.t 10) (.b true) (.t 13))]) (
 .cond (.t 14) (.seq (.g [oK 4 301]) (
 .ret)) (.skip))) (
 .seq (.g [oK 5 1]) (
 .seq (.seq (.g [oF 15 4 2, oW 16 (.sl 5) 15, oZ 17 16, oK 18 0]) (
 .block 0 (.loop [1, 5, 16, 17, 18] e45x0 b45x0))) (
 .seq (.g [oM 31 5, oM 4 31]) (
 .ret))))))⟩
theorem l45x0s (T : Table) (k n : Nat) (n10 n11 n13 n14 : Int) (l12 : Rows): l45x0 T k (n + 1) [.v (.int .i64 n10), .v (.int .i64 n11), .fz 5 l12, .v (.int .i64 n13), .v (.int .i64 n14)] = (
 bif (decide (n14 < n13)) then (
 tst (decide (0 ≤ n14)) (
 look l12 (Int.toNat n14) fun r15 =>
 cI .i64 r15 0 fun n16 =>
 cS r15 1 fun s17 =>
 cI .i64 r15 2 fun n18 =>
 cL 1 r15 3 fun l19 =>
 cL 5 r15 4 fun l20 =>
 callT T 45 [.g [.v (.int .i64 n16), .v (.string s17), .v (.int .i64 n18), .s 1 l19, .s 5 l20], .d (.v (.int .i64 (IntKind.wrap .i64 (n10 - 1))))] fun o21 =>
 oD o21.res fun d22 =>
 dI .i64 d22 fun n23 =>
 bif (decide ((IntKind.wrap .i64 (n11 + n23)) > 300)) then (
 some (.ret, [.v (.int .i64 301)])) else (
 l45x0 T k n [.v (.int .i64 n10), .v (.int .i64 (IntKind.wrap .i64 (n11 + n23))), .fz 5 l12, .v (.int .i64 n13), .v (.int .i64 (IntKind.wrap .i64 (n14 + 1)))]))) else (
 some ((.exit 0), [.v (.int .i64 n11)]))) := by kernel_rfl
theorem a45q (T : Table) (k : Nat) (n1 n3 n6 : Int) (s2 : ByteArray) (l4 l5 : Rows): evalF T k a45 [.g [.v (.int .i64 n1), .v (.string s2), .v (.int .i64 n3), .s 1 l4, .s 5 l5], .d (.v (.int .i64 n6))] = (
 bif (n6 == 0) == false then (
 callT T 77 [.g [.v (.int .i64 n1), .v (.string s2), .v (.int .i64 n3), .s 1 l4, .s 5 l5]] fun o7 =>
 oD o7.res fun d8 =>
 dB d8 fun b9 =>
 bif (!b9) then (
 some ⟨.d (.v (.int .i64 301)), []⟩) else (
 aft (l45x0 T k k [.v (.int .i64 n6), .v (.int .i64 1), .fz 5 l5, .v (.int .i64 (l5.length : Int)), .v (.int .i64 0)]) fun e24 ys25 =>
 bif e24.same .ret then (
 aV ys25 0 fun x26 =>
 aI .i64 x26 fun n27 =>
 some ⟨.d (.v (.int .i64 n27)), []⟩) else (
 bif e24.same (.exit 0) then (
 aV ys25 0 fun x28 =>
 aI .i64 x28 fun n29 =>
 some ⟨.d (.v (.int .i64 n29)), []⟩) else (
 none)))) else (
 some ⟨.d (.v (.int .i64 301)), []⟩)) := by kernel_rfl
/- loop.example/g00119/impl.ValueOk -/
def a16 : AFun := ⟨[.rd], false, [.t 2], (
 .seq (.g [oQ 1 (.box (.t 0)), oV 2 false]) (
 .seq (.g [oL 3 [kI, .s, kI, .sl 1, .sl 5] 1, oQ 4 (.call (.f 45) [.rd, .rd] false [.c kI] [.t 3, .i 6]), oBi 5 .leq 4 300, oM 2 5]) (
 .ret)))⟩
theorem a16q (T : Table) (k : Nat) (n1 n3 : Int) (s2 : ByteArray) (l4 l5 : Rows): evalF T k a16 [.g [.v (.int .i64 n1), .v (.string s2), .v (.int .i64 n3), .s 1 l4, .s 5 l5]] = (
 callT T 45 [.g [.v (.int .i64 n1), .v (.string s2), .v (.int .i64 n3), .s 1 l4, .s 5 l5], .d (.v (.int .i64 6))] fun o6 =>
 oD o6.res fun d7 =>
 dI .i64 d7 fun n8 =>
 some ⟨.d (.v (.bool (decide (n8 ≤ 300)))), []⟩) := by kernel_rfl
/- slices.IndexFunc[[]string,string] -/
def b116x0 : ACode := (
 .seq (.g [oB 9 .lss 8 7]) (
 .seq (.cond (.t 9) (.skip) (.exit 0)) (
 .seq (.block 1 (.seq (.g [oM 10 8, oM 5 10]) (
 .seq (.g [oM 11 1, oM 12 0, oM 13 5, oI 14 1 12 13, oW 15 .s 14, oQ 16 (.call (.t 11) [.rd] false [.c .b] [.t 15])]) (
 .cond (.t 16) (.seq (.g [oM 17 5, oM 4 17]) (
 .ret)) (.skip))))) (
 .g [oBi 18 .add 8 1, oM 8 18]))))
def e116x0 : Exits := [(.ret, [(4, .c kI)]), ((.exit 0), [])]
noncomputable def l116x0 (T : Table) (k : Nat) := loopN (evalC ⟨T, [], []⟩ k b116x0 (Ex × List AV)) [0, 1, 7, 8] e116x0
def a116 : AFun := ⟨[.rd, .rd], false, [.t 4], (
 .seq (.g [oK 4 0]) (
 .seq (.seq (.g [oM 6 0, oZ 7 6, oK 8 0]) (
 .block 0 (.loop [0, 1, 7, 8] e116x0 b116x0))) (
 .seq (.g [oK 4 (-1)]) (
 .ret))))⟩
theorem l116x0s (T : Table) (k n f5 : Nat) (l4 : Rows) (cs6 : List I) (n7 n8 : Int): l116x0 T k (n + 1) [.fz 1 l4, .ff f5 cs6, .v (.int .i64 n7), .v (.int .i64 n8)] = (
 bif (decide (n8 < n7)) then (
 tst (decide (0 ≤ n8)) (
 look l4 (Int.toNat n8) fun r9 =>
 cS r9 0 fun s10 =>
 callT T f5 ([.d (.v (.string s10))] ++ cs6) fun o11 =>
 oD o11.res fun d12 =>
 dB d12 fun b13 =>
 bif b13 then (
 some (.ret, [.v (.int .i64 n8)])) else (
 l116x0 T k n [.fz 1 l4, .ff f5 cs6, .v (.int .i64 n7), .v (.int .i64 (IntKind.wrap .i64 (n8 + 1)))]))) else (
 some ((.exit 0), []))) := by kernel_rfl
theorem a116q (T : Table) (k f2 : Nat) (l1 : Rows) (cs3 : List I): evalF T k a116 [.d (.s 1 l1), .f f2 cs3] = (
 aft (l116x0 T k k [.fz 1 l1, .ff f2 cs3, .v (.int .i64 (l1.length : Int)), .v (.int .i64 0)]) fun e14 ys15 =>
 bif e14.same .ret then (
 aV ys15 0 fun x16 =>
 aI .i64 x16 fun n17 =>
 some ⟨.d (.v (.int .i64 n17)), []⟩) else (
 bif e14.same (.exit 0) then (
 some ⟨.d (.v (.int .i64 (-1))), []⟩) else (
 none))) := by kernel_rfl
/- slices.ContainsFunc[[]string,string] -/
def a82 : AFun := ⟨[.rd, .rd], false, [.t 4], (
 .seq (.g [oV 4 false]) (
 .seq (.g [oM 5 0, oM 6 1, oC 7 116 [.c kI] [5, 6], oBi 8 .geq 7 0, oM 4 8]) (
 .ret)))⟩
theorem a82q (T : Table) (k f2 : Nat) (l1 : Rows) (cs3 : List I): evalF T k a82 [.d (.s 1 l1), .f f2 cs3] = (
 callT T 116 [.d (.s 1 l1), .f f2 cs3] fun o4 =>
 oD o4.res fun d5 =>
 dI .i64 d5 fun n6 =>
 some ⟨.d (.v (.bool (decide (n6 ≥ 0)))), []⟩) := by kernel_rfl
/- loop.example/g00119/impl.digits -/
def b143x0 : ACode := (
 .seq (.g [oB 29 .lss 28 27]) (
 .seq (.cond (.t 29) (.skip) (.exit 0)) (
 .seq (.block 1 (.seq (.g [oM 30 28, oM 7 30]) (
 .seq (.seq (.g [oM 31 0, oM 32 7, oQ 33 (.idx (.t 31) (.t 32)), oQ 34 (.bin .lss (.t 33) (.c (.v (.int .u8 48)))), oM 35 34, oJ 36 35 false (.mv (.t 0)), oJ 37 35 false (.mv (.t 7)), oJ 38 35 false (.idx (.t 36) (.t 37)), oJ 39 35 false (.bin .gtr (.t 38) (.c (.v (.int .u8 57)))), oQ 40 (.pick (.t 35) (.b true) (.t 39))]) (
 .cond (.t 40) (.seq (.g [oK 4 0, oV 5 false]) (
 .ret)) (.skip))) (
 .g [oM 41 6, oQ 42 (.bin .mul (.i 10) (.t 41)), oM 43 0, oM 44 7, oQ 45 (.idx (.t 43) (.t 44)), oQ 46 (.bin .sub (.t 45) (.c (.v (.int .u8 48)))), oQ 47 (.conv (.int .i64) (.t 46)), oB 48 .add 42 47, oM 6 48])))) (
 .g [oBi 49 .add 28 1, oM 28 49]))))
def e143x0 : Exits := [(.ret, [(4, .c kI), (5, .c .b)]), ((.exit 0), [(6, .c kI)])]
noncomputable def l143x0 (T : Table) (k : Nat) := loopN (evalC ⟨T, [], []⟩ k b143x0 (Ex × List AV)) [0, 6, 27, 28] e143x0
def a143 : AFun := ⟨[.rd, .rd], false, [.t 4, .t 5], (
 .seq (.g [oK 4 0, oV 5 false]) (
 .seq (.seq (.g [oM 8 0, oQ 9 (.bin .eql (.t 8) (.c (.v (.string ({ data := #[] } : ByteArray))))), oM 10 9, oJ 11 10 false (.mv (.t 0)), oJ 12 10 false (.len true (.t 11)), oJ 13 10 false (.mv (.t 1)), oJ 14 10 false (.bin .gtr (.t 12) (.t 13)), oQ 15 (.pick (.t 10) (.b true) (.t 14)), oM 16 15, oJ 17 16 false (.mv (.t 0)), oJ 18 16 false (.idx (.t 17) (.i 0)), oJ 19 16 false (.bin .eql (.t 18) (.c (.v (.int .u8 48)))), oJ 20 16 false (.mv (.t 19)), oJ 21 20 true (.mv (.t 0)), oJ 22 20 true (.len true (.t 21)), oJ 23 20 true (.bin .gtr (.t 22) (.i 1)), oJ 24 16 false (.pick (.t 20) (.t 23) (.b false)), oQ 25 (.pick (.t 16) (.b true) (.t 24))]) (
 .cond (.t 25) (.seq (.g [oK 4 0, oV 5 false]) (
 .ret)) (.skip))) (
 .seq (.g [oK 6 0]) (
 .seq (.seq (.g [oM 26 0, oQ 27 (.len true (.t 26)), oK 28 0]) (
 .block 0 (.loop [0, 6, 27, 28] e143x0 b143x0))) (
 .seq (.g [oM 50 6, oM 4 50, oV 5 true]) (
 .ret))))))⟩
theorem l143x0s (T : Table) (k n : Nat) (s4 : ByteArray) (n5 n6 n7 : Int): l143x0 T k (n + 1) [.v (.string s4), .v (.int .i64 n5), .v (.int .i64 n6), .v (.int .i64 n7)] = (
 bif (decide (n7 < n6)) then (
 tst (decide (0 ≤ n7)) (
 byteAt s4 (Int.toNat n7) fun c8 =>
 bif (decide ((c8.toNat : Int) < 48)) == false then (
 tst (decide (0 ≤ n7)) (
 byteAt s4 (Int.toNat n7) fun c9 =>
 bif (decide ((c9.toNat : Int) > 57)) then (
 some (.ret, [.v (.int .i64 0), .v (.bool false)])) else (
 tst (decide (0 ≤ n7)) (
 byteAt s4 (Int.toNat n7) fun c10 =>
 l143x0 T k n [.v (.string s4), .v (.int .i64 (IntKind.wrap .i64 ((IntKind.wrap .i64 (10 * n5)) + (IntKind.wrap .i64 (IntKind.wrap .u8 ((c10.toNat : Int) - 48)))))), .v (.int .i64 n6), .v (.int .i64 (IntKind.wrap .i64 (n7 + 1)))])))) else (
 some (.ret, [.v (.int .i64 0), .v (.bool false)])))) else (
 some ((.exit 0), [.v (.int .i64 n5)]))) := by kernel_rfl
theorem a143q (T : Table) (k : Nat) (s1 : ByteArray) (n2 : Int): evalF T k a143 [.d (.v (.string s1)), .d (.v (.int .i64 n2))] = (
 bif (bytesEq s1 ({ data := #[] } : ByteArray)) == false then (
 bif (decide ((s1.size : Int) > n2)) == false then (
 tst (decide (0 ≤ 0)) (
 byteAt s1 (Int.toNat 0) fun c3 =>
 bif ((c3.toNat : Int) == 48) == true then (
 bif (decide ((s1.size : Int) > 1)) then (
 some ⟨.t [.d (.v (.int .i64 0)), .d (.v (.bool false))], []⟩) else (
 aft (l143x0 T k k [.v (.string s1), .v (.int .i64 0), .v (.int .i64 (s1.size : Int)), .v (.int .i64 0)]) fun e11 ys12 =>
 bif e11.same .ret then (
 aV ys12 0 fun x13 =>
 aI .i64 x13 fun n14 =>
 aV ys12 1 fun x15 =>
 aB x15 fun b16 =>
 some ⟨.t [.d (.v (.int .i64 n14)), .d (.v (.bool b16))], []⟩) else (
 bif e11.same (.exit 0) then (
 aV ys12 0 fun x17 =>
 aI .i64 x17 fun n18 =>
 some ⟨.t [.d (.v (.int .i64 n18)), .d (.v (.bool true))], []⟩) else (
 none)))) else (
 aft (l143x0 T k k [.v (.string s1), .v (.int .i64 0), .v (.int .i64 (s1.size : Int)), .v (.int .i64 0)]) fun e19 ys20 =>
 bif e19.same .ret then (
 aV ys20 0 fun x21 =>
 aI .i64 x21 fun n22 =>
 aV ys20 1 fun x23 =>
 aB x23 fun b24 =>
 some ⟨.t [.d (.v (.int .i64 n22)), .d (.v (.bool b24))], []⟩) else (
 bif e19.same (.exit 0) then (
 aV ys20 0 fun x25 =>
 aI .i64 x25 fun n26 =>
 some ⟨.t [.d (.v (.int .i64 n26)), .d (.v (.bool true))], []⟩) else (
 none))))) else (
 some ⟨.t [.d (.v (.int .i64 0)), .d (.v (.bool false))], []⟩)) else (
 some ⟨.t [.d (.v (.int .i64 0)), .d (.v (.bool false))], []⟩)) := by kernel_rfl
/- loop.example/g00119/impl.number -/
def a117 : AFun := ⟨[.rd], false, [.t 2, .t 3], (
 .seq (.g [oK 2 0, oV 3 false]) (
 .seq (.g [oM 4 0, oQ 5 (.call (.f 143) [.rd, .rd] false [.c kI, .c .b] [.t 4, .i 9]), oX 6 5 0, oX 7 5 1, oM 2 6, oM 3 7]) (
 .ret)))⟩
theorem a117q (T : Table) (k : Nat) (s1 : ByteArray): evalF T k a117 [.d (.v (.string s1))] = (
 callT T 143 [.d (.v (.string s1)), .d (.v (.int .i64 9))] fun o2 =>
 oT o2.res fun is3 =>
 tst (Nat.beq is3.length 2) (
 nth is3 0 fun i4 =>
 oD i4 fun d5 =>
 dI .i64 d5 fun n6 =>
 nth is3 1 fun i7 =>
 oD i7 fun d8 =>
 dB d8 fun b9 =>
 some ⟨.t [.d (.v (.int .i64 n6)), .d (.v (.bool b9))], []⟩)) := by kernel_rfl
/- loop.example/g00119/impl.isNumber -/
def a85 : AFun := ⟨[.rd], false, [.t 2], (
 .seq (.g [oV 2 false]) (
 .seq (.g [oM 6 0, oC 7 117 [.c kI, .c .b] [6], oM 5 7, oX 8 5 0, oX 9 5 1, oM 3 8, oM 4 9]) (
 .seq (.g [oM 10 4, oM 2 10]) (
 .ret))))⟩
theorem a85q (T : Table) (k : Nat) (s1 : ByteArray): evalF T k a85 [.d (.v (.string s1))] = (
 callT T 117 [.d (.v (.string s1))] fun o2 =>
 oT o2.res fun is3 =>
 tst (Nat.beq is3.length 2) (
 nth is3 0 fun i4 =>
 oD i4 fun d5 =>
 dI .i64 d5 fun n6 =>
 nth is3 1 fun i7 =>
 oD i7 fun d8 =>
 dB d8 fun b9 =>
 some ⟨.d (.v (.bool b9)), []⟩)) := by kernel_rfl
/- loop.example/g00119/impl.opOk$1 -/
def a83 : AFun := ⟨[.rd], false, [.t 2], (
 .seq (.g [oV 2 false]) (
 .seq (.g [oM 3 0, oC 4 84 [.c .b] [3], oN 5 4, oM 6 5, oJ 7 6 true (.mv (.t 0)), oJ 8 6 true (.call (.f 85) [.rd] false [.c .b] [.t 7]), oJ 9 6 true (.un .not (.t 8)), oQ 10 (.pick (.t 6) (.t 9) (.b false)), oM 2 10]) (
 .ret)))⟩
theorem a83q (T : Table) (k : Nat) (s1 : ByteArray): evalF T k a83 [.d (.v (.string s1))] = (
 callT T 84 [.d (.v (.string s1))] fun o2 =>
 oD o2.res fun d3 =>
 dB d3 fun b4 =>
 bif (!b4) == true then (
 callT T 85 [.d (.v (.string s1))] fun o5 =>
 oD o5.res fun d6 =>
 dB d6 fun b7 =>
 some ⟨.d (.v (.bool (!b7))), []⟩) else (
 some ⟨.d (.v (.bool false)), []⟩)) := by kernel_rfl
/- loop.example/g00119/impl.opOk -/
def a51 : AFun := ⟨[.rd], false, [.t 2], (
 .seq (.g [oQ 1 (.box (.t 0)), oV 2 false]) (
 .seq (.seq (.g [oF 3 1 1, oW 4 (.sl 1) 3, oZ 5 4, oQ 6 (.call (.f 81) [.rd, .rd, .rd] false [.c .b] [.t 5, .i 1, .i 5]), oN 7 6, oM 8 7, oJ 9 8 false (.fad 1 (.t 1)), oJ 10 8 false (.load false [.sl 1] (.t 9)), oJ 11 8 false (.call (.f 82) [.rd, .rd] false [.c .b] [.t 10, .f 83]), oQ 12 (.pick (.t 8) (.b true) (.t 11))]) (
 .cond (.t 12) (.seq (.g [oV 2 false]) (
 .ret)) (.skip))) (
 .seq (.seq (.g [oF 13 0 1, oW 14 kI 13]) (
 .block 0 (.seq (.seq (.g [oBi 16 .eql 14 1, oM 15 16]) (
 .cond (.t 15) (.skip) (.g [oBi 17 .eql 14 3, oM 15 17]))) (
 .cond (.t 15) (.seq (.g [oF 18 2 1, oL 19 [kI, .s, kI, .sl 1, .sl 5] 18, oC 20 16 [.c .b] [19], oM 2 20]) (
 .ret)) (.seq (.g [oBi 22 .eql 14 2, oM 21 22]) (
 .cond (.t 21) (.seq (.g [oF 23 2 1, oL 24 [kI, .s, kI, .sl 1, .sl 5] 23, oQ 25 (.build [.v (.int .i64 0), .v (.string ByteArray.empty), .v (.int .i64 0), .s 1 [], .s 5 []] []), oC 26 15 [.c .b] [24, 25], oM 2 26]) (
 .ret)) (.skip))))))) (
 .seq (.g [oV 2 false]) (
 .ret)))))⟩
theorem a51q (T : Table) (k : Nat) (n1 n3 n5 : Int) (l2 l6 l7 : Rows) (s4 : ByteArray): evalF T k a51 [.g [.v (.int .i64 n1), .s 1 l2, .v (.int .i64 n3), .v (.string s4), .v (.int .i64 n5), .s 1 l6, .s 5 l7]] = (
 callT T 81 [.d (.v (.int .i64 (l2.length : Int))), .d (.v (.int .i64 1)), .d (.v (.int .i64 5))] fun o8 =>
 oD o8.res fun d9 =>
 dB d9 fun b10 =>
 bif (!b10) == false then (
 callT T 82 [.d (.s 1 l2), .f 83 []] fun o11 =>
 oD o11.res fun d12 =>
 dB d12 fun b13 =>
 bif b13 then (
 some ⟨.d (.v (.bool false)), []⟩) else (
 bif (n1 == 1) then (
 bif (n1 == 1) then (
 callT T 16 [.g [.v (.int .i64 n3), .v (.string s4), .v (.int .i64 n5), .s 1 l6, .s 5 l7]] fun o14 =>
 oD o14.res fun d15 =>
 dB d15 fun b16 =>
 some ⟨.d (.v (.bool b16)), []⟩) else (
 bif (n1 == 2) then (
 callT T 15 [.g [.v (.int .i64 n3), .v (.string s4), .v (.int .i64 n5), .s 1 l6, .s 5 l7], .g [.v (.int .i64 0), .v (.string ByteArray.empty), .v (.int .i64 0), .s 1 [], .s 5 []]] fun o17 =>
 oD o17.res fun d18 =>
 dB d18 fun b19 =>
 some ⟨.d (.v (.bool b19)), []⟩) else (
 some ⟨.d (.v (.bool false)), []⟩))) else (
 bif (n1 == 3) then (
 callT T 16 [.g [.v (.int .i64 n3), .v (.string s4), .v (.int .i64 n5), .s 1 l6, .s 5 l7]] fun o20 =>
 oD o20.res fun d21 =>
 dB d21 fun b22 =>
 some ⟨.d (.v (.bool b22)), []⟩) else (
 bif (n1 == 2) then (
 callT T 15 [.g [.v (.int .i64 n3), .v (.string s4), .v (.int .i64 n5), .s 1 l6, .s 5 l7], .g [.v (.int .i64 0), .v (.string ByteArray.empty), .v (.int .i64 0), .s 1 [], .s 5 []]] fun o23 =>
 oD o23.res fun d24 =>
 dB d24 fun b25 =>
 some ⟨.d (.v (.bool b25)), []⟩) else (
 some ⟨.d (.v (.bool false)), []⟩))))) else (
 some ⟨.d (.v (.bool false)), []⟩)) := by kernel_rfl
/- loop.example/g00119/impl.PatchOk$1 -/
def a50 : AFun := ⟨[.rd], false, [.t 2], (
 .seq (.g [oQ 1 (.box (.t 0)), oV 2 false]) (
 .seq (.g [oL 3 [kI, .sl 1, kI, .s, kI, .sl 1, .sl 5] 1, oC 4 51 [.c .b] [3], oN 5 4, oM 2 5]) (
 .ret)))⟩
theorem a50q (T : Table) (k : Nat) (n1 n3 n5 : Int) (l2 l6 l7 : Rows) (s4 : ByteArray): evalF T k a50 [.g [.v (.int .i64 n1), .s 1 l2, .v (.int .i64 n3), .v (.string s4), .v (.int .i64 n5), .s 1 l6, .s 5 l7]] = (
 callT T 51 [.g [.v (.int .i64 n1), .s 1 l2, .v (.int .i64 n3), .v (.string s4), .v (.int .i64 n5), .s 1 l6, .s 5 l7]] fun o8 =>
 oD o8.res fun d9 =>
 dB d9 fun b10 =>
 some ⟨.d (.v (.bool (!b10))), []⟩) := by kernel_rfl
/- loop.example/g00119/impl.PatchOk -/
def a18 : AFun := ⟨[.rd], false, [.t 2], (
 .seq (.g [oV 2 false]) (
 .seq (.g [oM 3 0, oZ 4 3, oBi 5 .leq 4 20, oM 6 5, oJ 7 6 true (.mv (.t 0)), oJ 8 6 true (.call (.f 49) [.rd, .rd] false [.c .b] [.t 7, .f 50]), oJ 9 6 true (.un .not (.t 8)), oQ 10 (.pick (.t 6) (.t 9) (.b false)), oM 2 10]) (
 .ret)))⟩
theorem a18q (T : Table) (k : Nat) (l1 : Rows): evalF T k a18 [.d (.s 7 l1)] = (
 bif (decide ((l1.length : Int) ≤ 20)) == true then (
 callT T 49 [.d (.s 7 l1), .f 50 []] fun o2 =>
 oD o2.res fun d3 =>
 dB d3 fun b4 =>
 some ⟨.d (.v (.bool (!b4))), []⟩) else (
 some ⟨.d (.v (.bool false)), []⟩)) := by kernel_rfl
/- loop.example/g00119/impl.quoted -/
def a105 : AFun := ⟨[.rd], false, [.t 2], (
 .seq (.g [oQ 2 (.mv (.c (.v (.string ({ data := #[] } : ByteArray)))))]) (
 .seq (.g [oM 3 0, oQ 4 (.call (.f 137) [.rd, .rd, .rd] false [.c .s] [.t 3, .c (.v (.string ({ data := #[92] } : ByteArray))), .c (.v (.string ({ data := #[92, 92] } : ByteArray)))]), oQ 5 (.call (.f 137) [.rd, .rd, .rd] false [.c .s] [.t 4, .c (.v (.string ({ data := #[34] } : ByteArray))), .c (.v (.string ({ data := #[92, 34] } : ByteArray)))]), oQ 6 (.bin .add (.c (.v (.string ({ data := #[34] } : ByteArray)))) (.t 5)), oQ 7 (.bin .add (.t 6) (.c (.v (.string ({ data := #[34] } : ByteArray))))), oM 2 7]) (
 .ret)))⟩
theorem a105q (T : Table) (k : Nat) (s1 : ByteArray): evalF T k a105 [.d (.v (.string s1))] = (
 callT T 137 [.d (.v (.string s1)), .d (.v (.string ({ data := #[92] } : ByteArray))), .d (.v (.string ({ data := #[92, 92] } : ByteArray)))] fun o2 =>
 oD o2.res fun d3 =>
 dS d3 fun s4 =>
 callT T 137 [.d (.v (.string s4)), .d (.v (.string ({ data := #[34] } : ByteArray))), .d (.v (.string ({ data := #[92, 34] } : ByteArray)))] fun o5 =>
 oD o5.res fun d6 =>
 dS d6 fun s7 =>
 tst (decide (({ data := #[34] } : ByteArray).size + s7.size ≤ maxLen)) (
 tst (decide ((({ data := #[34] } : ByteArray) ++ s7).size + ({ data := #[34] } : ByteArray).size ≤ maxLen)) (
 some ⟨.d (.v (.string ((({ data := #[34] } : ByteArray) ++ s7) ++ ({ data := #[34] } : ByteArray)))), []⟩))) := by kernel_rfl
/- loop.example/g00119/impl.decimal -/
def a106 : AFun := ⟨[.rd], false, [.t 2], (
 .seq (.g [oQ 2 (.mv (.c (.v (.string ({ data := #[] } : ByteArray)))))]) (
 .seq (.block 0 (.seq (.g [oM 4 0, oBi 5 .lss 4 0, oM 6 5, oJ 7 6 true (.mv (.t 0)), oJ 8 6 true (.bin .gtr (.t 7) (.i (-10))), oQ 9 (.pick (.t 6) (.t 8) (.b false)), oM 3 9]) (
 .cond (.t 3) (.seq (.g [oM 10 0, oQ 11 (.un .neg (.t 10)), oC 12 106 [.c .s] [11], oQ 13 (.bin .add (.c (.v (.string ({ data := #[45] } : ByteArray)))) (.t 12)), oM 2 13]) (
 .ret)) (.seq (.g [oM 15 0, oBi 16 .lss 15 0, oM 14 16]) (
 .cond (.t 14) (.seq (.g [oM 17 0, oBi 18 .quo 17 10, oC 19 106 [.c .s] [18], oM 20 0, oBi 21 .rem 20 10, oQ 22 (.un .neg (.t 21)), oC 23 106 [.c .s] [22], oB 24 .add 19 23, oM 2 24]) (
 .ret)) (.seq (.g [oM 26 0, oBi 27 .lss 26 10, oM 25 27]) (
 .cond (.t 25) (.seq (.g [oM 28 0, oQ 29 (.bin .add (.i 48) (.t 28)), oQ 30 (.conv (.int .i32) (.t 29)), oQ 31 (.conv .intStr (.t 30)), oM 2 31]) (
 .ret)) (.skip)))))))) (
 .seq (.g [oM 32 0, oBi 33 .quo 32 10, oC 34 106 [.c .s] [33], oM 35 0, oBi 36 .rem 35 10, oQ 37 (.bin .add (.i 48) (.t 36)), oQ 38 (.conv (.int .i32) (.t 37)), oQ 39 (.conv .intStr (.t 38)), oB 40 .add 34 39, oM 2 40]) (
 .ret))))⟩
theorem a106q (T : Table) (k : Nat) (n1 : Int): evalF T k a106 [.d (.v (.int .i64 n1))] = (
 bif (decide (n1 < 0)) == true then (
 bif (decide (n1 > (-10))) then (
 callT T 106 [.d (.v (.int .i64 (IntKind.wrap .i64 (0 - n1))))] fun o2 =>
 oD o2.res fun d3 =>
 dS d3 fun s4 =>
 tst (decide (({ data := #[45] } : ByteArray).size + s4.size ≤ maxLen)) (
 some ⟨.d (.v (.string (({ data := #[45] } : ByteArray) ++ s4))), []⟩)) else (
 bif (decide (n1 < 0)) then (
 tst (decide (10 ≠ 0)) (
 callT T 106 [.d (.v (.int .i64 (IntKind.wrap .i64 (Int.tdiv n1 10))))] fun o5 =>
 oD o5.res fun d6 =>
 dS d6 fun s7 =>
 tst (decide (10 ≠ 0)) (
 callT T 106 [.d (.v (.int .i64 (IntKind.wrap .i64 (0 - (Int.tmod n1 10)))))] fun o8 =>
 oD o8.res fun d9 =>
 dS d9 fun s10 =>
 tst (decide (s7.size + s10.size ≤ maxLen)) (
 some ⟨.d (.v (.string (s7 ++ s10))), []⟩)))) else (
 bif (decide (n1 < 10)) then (
 some ⟨.d (.v (.string (Utf8.encode (IntKind.wrap .i32 (IntKind.wrap .i64 (48 + n1)))))), []⟩) else (
 tst (decide (10 ≠ 0)) (
 callT T 106 [.d (.v (.int .i64 (IntKind.wrap .i64 (Int.tdiv n1 10))))] fun o11 =>
 oD o11.res fun d12 =>
 dS d12 fun s13 =>
 tst (decide (10 ≠ 0)) (
 tst (decide (s13.size + (Utf8.encode (IntKind.wrap .i32 (IntKind.wrap .i64 (48 + (Int.tmod n1 10))))).size ≤ maxLen)) (
 some ⟨.d (.v (.string (s13 ++ (Utf8.encode (IntKind.wrap .i32 (IntKind.wrap .i64 (48 + (Int.tmod n1 10)))))))), []⟩))))))) else (
 bif (decide (n1 < 0)) then (
 tst (decide (10 ≠ 0)) (
 callT T 106 [.d (.v (.int .i64 (IntKind.wrap .i64 (Int.tdiv n1 10))))] fun o14 =>
 oD o14.res fun d15 =>
 dS d15 fun s16 =>
 tst (decide (10 ≠ 0)) (
 callT T 106 [.d (.v (.int .i64 (IntKind.wrap .i64 (0 - (Int.tmod n1 10)))))] fun o17 =>
 oD o17.res fun d18 =>
 dS d18 fun s19 =>
 tst (decide (s16.size + s19.size ≤ maxLen)) (
 some ⟨.d (.v (.string (s16 ++ s19))), []⟩)))) else (
 bif (decide (n1 < 10)) then (
 some ⟨.d (.v (.string (Utf8.encode (IntKind.wrap .i32 (IntKind.wrap .i64 (48 + n1)))))), []⟩) else (
 tst (decide (10 ≠ 0)) (
 callT T 106 [.d (.v (.int .i64 (IntKind.wrap .i64 (Int.tdiv n1 10))))] fun o20 =>
 oD o20.res fun d21 =>
 dS d21 fun s22 =>
 tst (decide (10 ≠ 0)) (
 tst (decide (s22.size + (Utf8.encode (IntKind.wrap .i32 (IntKind.wrap .i64 (48 + (Int.tmod n1 10))))).size ≤ maxLen)) (
 some ⟨.d (.v (.string (s22 ++ (Utf8.encode (IntKind.wrap .i32 (IntKind.wrap .i64 (48 + (Int.tmod n1 10)))))))), []⟩))))))) := by kernel_rfl
/- loop.example/g00119/impl.written -/
def b69x0 : ACode := (
 .seq (.g [oB 30 .lss 29 28]) (
 .seq (.cond (.t 30) (.skip) (.exit 1)) (
 .seq (.block 2 (.seq (.g [oM 31 29, oI 32 5 27 29, oL 33 [kI, .s, kI, .sl 1, .sl 5] 32, oQ 5 (.alloc [.v (.int .i64 0), .v (.string ByteArray.empty), .v (.int .i64 0), .s 1 [], .s 5 []]), oM 4 31, oS (.store 5 (.t 5) (.t 33))]) (
 .seq (.g [oL 34 [kI, .s, kI, .sl 1, .sl 5] 5, oC 35 69 [.c .s] [34], oM 6 35]) (
 .seq (.seq (.g [oF 36 0 1, oW 37 kI 36, oBi 38 .eql 37 5]) (
 .cond (.t 38) (.g [oF 39 3 1, oW 40 (.sl 1) 39, oM 41 4, oI 42 1 40 41, oW 43 .s 42, oQ 44 (.bin .add (.t 43) (.c (.v (.string ({ data := #[58] } : ByteArray))))), oM 45 6, oB 46 .add 44 45, oM 6 46]) (.skip))) (
 .g [oM 47 3, oM 48 6, oQ 49 (.lit 1 ([[.v (.string ByteArray.empty)]] : Rows) [(0, (.t 48))]), oQ 50 (.app 1 16 (.t 47) (.t 49)), oM 3 50]))))) (
 .g [oBi 51 .add 29 1, oM 29 51]))))
def e69x0 : Exits := [((.exit 1), [(1, .b [.c kI, .c .s, .c kI, .c (.sl 1), .c (.sl 5)]), (3, .o 1)])]
noncomputable def l69x0 (T : Table) (k : Nat) := loopN (evalC ⟨T, [], []⟩ k b69x0 (Ex × List AV)) [1, 3, 27, 28, 29] e69x0
def a69 : AFun := ⟨[.rd], false, [.t 2], (
 .seq (.g [oQ 1 (.box (.t 0)), oQ 2 (.mv (.c (.v (.string ({ data := #[] } : ByteArray)))))]) (
 .seq (.seq (.g [oF 8 0 1, oW 9 kI 8]) (
 .block 0 (.seq (.g [oBi 11 .eql 9 1, oM 10 11]) (
 .cond (.t 10) (.seq (.g [oF 12 1 1, oW 13 .s 12, oC 14 105 [.c .s] [13], oM 2 14]) (
 .ret)) (.seq (.g [oBi 16 .eql 9 2, oM 15 16]) (
 .cond (.t 15) (.seq (.g [oF 17 2 1, oW 18 kI 17, oC 19 106 [.c .s] [18], oM 2 19]) (
 .ret)) (.seq (.g [oBi 21 .eql 9 3, oM 20 21]) (
 .cond (.t 20) (.seq (.seq (.g [oF 22 2 1, oW 23 kI 22, oBi 24 .eql 23 1]) (
 .cond (.t 24) (.seq (.g [oQ 2 (.mv (.c (.v (.string ({ data := #[116, 114, 117, 101] } : ByteArray)))))]) (
 .ret)) (.skip))) (
 .seq (.g [oQ 2 (.mv (.c (.v (.string ({ data := #[102, 97, 108, 115, 101] } : ByteArray)))))]) (
 .ret))) (.skip))))))))) (
 .seq (.g [oQ 25 (.lit 1 ([] : Rows) []), oM 3 25]) (
 .seq (.seq (.g [oF 26 4 1, oW 27 (.sl 5) 26, oZ 28 27, oK 29 0]) (
 .block 1 (.loop [1, 3, 27, 28, 29] e69x0 b69x0))) (
 .seq (.g [oM 52 3, oQ 53 (.call (.f 36) [.rd, .rd] false [.c .s] [.t 52, .c (.v (.string ({ data := #[44] } : ByteArray)))]), oM 7 53]) (
 .seq (.seq (.g [oF 54 0 1, oW 55 kI 54, oBi 56 .eql 55 5]) (
 .cond (.t 56) (.seq (.g [oM 57 7, oQ 58 (.bin .add (.c (.v (.string ({ data := #[123] } : ByteArray)))) (.t 57)), oQ 59 (.bin .add (.t 58) (.c (.v (.string ({ data := #[125] } : ByteArray))))), oM 2 59]) (
 .ret)) (.skip))) (
 .seq (.g [oM 60 7, oQ 61 (.bin .add (.c (.v (.string ({ data := #[91] } : ByteArray)))) (.t 60)), oQ 62 (.bin .add (.t 61) (.c (.v (.string ({ data := #[93] } : ByteArray))))), oM 2 62]) (
 .ret))))))))⟩
theorem l69x0s (T : Table) (k n : Nat) (n12 n14 n19 n20 : Int) (s13 : ByteArray) (l15 l16 l17 l18 : Rows): l69x0 T k (n + 1) [.b [.v (.int .i64 n12), .v (.string s13), .v (.int .i64 n14), .fz 1 l15, .fz 5 l16], .o 1 l17, .fz 5 l18, .v (.int .i64 n19), .v (.int .i64 n20)] = (
 bif (decide (n20 < n19)) then (
 tst (decide (0 ≤ n20)) (
 look l18 (Int.toNat n20) fun r21 =>
 cI .i64 r21 0 fun n22 =>
 cS r21 1 fun s23 =>
 cI .i64 r21 2 fun n24 =>
 cL 1 r21 3 fun l25 =>
 cL 5 r21 4 fun l26 =>
 callT T 69 [.g [.v (.int .i64 n22), .v (.string s23), .v (.int .i64 n24), .s 1 l25, .s 5 l26]] fun o27 =>
 oD o27.res fun d28 =>
 dS d28 fun s29 =>
 bif (n12 == 5) then (
 tst (decide (0 ≤ n20)) (
 look l15 (Int.toNat n20) fun r30 =>
 cS r30 0 fun s31 =>
 tst (decide (s31.size + ({ data := #[58] } : ByteArray).size ≤ maxLen)) (
 tst (decide ((s31 ++ ({ data := #[58] } : ByteArray)).size + s29.size ≤ maxLen)) (
 tst (decide ((l17.length + ([[.v (.string ((s31 ++ ({ data := #[58] } : ByteArray)) ++ s29))]] : Rows).length) * 16 ≤ maxBytes)) (
 l69x0 T k n [.b [.v (.int .i64 n12), .v (.string s13), .v (.int .i64 n14), .fz 1 l15, .fz 5 l16], .o 1 (l17 ++ ([[.v (.string ((s31 ++ ({ data := #[58] } : ByteArray)) ++ s29))]] : Rows)), .fz 5 l18, .v (.int .i64 n19), .v (.int .i64 (IntKind.wrap .i64 (n20 + 1)))]))))) else (
 tst (decide ((l17.length + ([[.v (.string s29)]] : Rows).length) * 16 ≤ maxBytes)) (
 l69x0 T k n [.b [.v (.int .i64 n12), .v (.string s13), .v (.int .i64 n14), .fz 1 l15, .fz 5 l16], .o 1 (l17 ++ ([[.v (.string s29)]] : Rows)), .fz 5 l18, .v (.int .i64 n19), .v (.int .i64 (IntKind.wrap .i64 (n20 + 1)))])))) else (
 some ((.exit 1), [.b [.v (.int .i64 n12), .v (.string s13), .v (.int .i64 n14), .fz 1 l15, .fz 5 l16], .o 1 l17]))) := by kernel_rfl
theorem a69q (T : Table) (k : Nat) (n1 n3 : Int) (s2 : ByteArray) (l4 l5 : Rows): evalF T k a69 [.g [.v (.int .i64 n1), .v (.string s2), .v (.int .i64 n3), .s 1 l4, .s 5 l5]] = (
 bif (n1 == 1) then (
 callT T 105 [.d (.v (.string s2))] fun o6 =>
 oD o6.res fun d7 =>
 dS d7 fun s8 =>
 some ⟨.d (.v (.string s8)), []⟩) else (
 bif (n1 == 2) then (
 callT T 106 [.d (.v (.int .i64 n3))] fun o9 =>
 oD o9.res fun d10 =>
 dS d10 fun s11 =>
 some ⟨.d (.v (.string s11)), []⟩) else (
 bif (n1 == 3) then (
 bif (n3 == 1) then (
 some ⟨.d (.v (.string ({ data := #[116, 114, 117, 101] } : ByteArray))), []⟩) else (
 some ⟨.d (.v (.string ({ data := #[102, 97, 108, 115, 101] } : ByteArray))), []⟩)) else (
 aft (l69x0 T k k [.b [.v (.int .i64 n1), .v (.string s2), .v (.int .i64 n3), .fz 1 l4, .fz 5 l5], .o 1 [], .fz 5 l5, .v (.int .i64 (l5.length : Int)), .v (.int .i64 0)]) fun e32 ys33 =>
 bif e32.same (.exit 1) then (
 aV ys33 0 fun x34 =>
 aX x34 fun xs35 =>
 aV xs35 0 fun x36 =>
 aI .i64 x36 fun n37 =>
 aV xs35 1 fun x38 =>
 aS x38 fun s39 =>
 aV xs35 2 fun x40 =>
 aI .i64 x40 fun n41 =>
 aV xs35 3 fun x42 =>
 aL 1 x42 fun l43 =>
 aV xs35 4 fun x44 =>
 aL 5 x44 fun l45 =>
 aV ys33 1 fun x46 =>
 aO 1 x46 fun l47 =>
 callT T 36 [.d (.s 1 l47), .d (.v (.string ({ data := #[44] } : ByteArray)))] fun o48 =>
 oD o48.res fun d49 =>
 dS d49 fun s50 =>
 bif (n37 == 5) then (
 tst (decide (({ data := #[123] } : ByteArray).size + s50.size ≤ maxLen)) (
 tst (decide ((({ data := #[123] } : ByteArray) ++ s50).size + ({ data := #[125] } : ByteArray).size ≤ maxLen)) (
 some ⟨.d (.v (.string ((({ data := #[123] } : ByteArray) ++ s50) ++ ({ data := #[125] } : ByteArray)))), []⟩))) else (
 tst (decide (({ data := #[91] } : ByteArray).size + s50.size ≤ maxLen)) (
 tst (decide ((({ data := #[91] } : ByteArray) ++ s50).size + ({ data := #[93] } : ByteArray).size ≤ maxLen)) (
 some ⟨.d (.v (.string ((({ data := #[91] } : ByteArray) ++ s50) ++ ({ data := #[93] } : ByteArray)))), []⟩)))) else (
 none))))) := by kernel_rfl
/- loop.example/g00119/impl.ValueText -/
def a37 : AFun := ⟨[.rd], false, [.t 2], (
 .seq (.g [oQ 1 (.box (.t 0)), oQ 2 (.mv (.c (.v (.string ({ data := #[] } : ByteArray)))))]) (
 .seq (.seq (.g [oL 3 [kI, .s, kI, .sl 1, .sl 5] 1, oC 4 16 [.c .b] [3], oN 5 4]) (
 .cond (.t 5) (.seq (.g [oQ 2 (.mv (.c (.v (.string ({ data := #[] } : ByteArray)))))]) (
 .ret)) (.skip))) (
 .seq (.g [oL 6 [kI, .s, kI, .sl 1, .sl 5] 1, oC 7 69 [.c .s] [6], oM 2 7]) (
 .ret))))⟩
theorem a37q (T : Table) (k : Nat) (n1 n3 : Int) (s2 : ByteArray) (l4 l5 : Rows): evalF T k a37 [.g [.v (.int .i64 n1), .v (.string s2), .v (.int .i64 n3), .s 1 l4, .s 5 l5]] = (
 callT T 16 [.g [.v (.int .i64 n1), .v (.string s2), .v (.int .i64 n3), .s 1 l4, .s 5 l5]] fun o6 =>
 oD o6.res fun d7 =>
 dB d7 fun b8 =>
 bif (!b8) then (
 some ⟨.d (.v (.string ({ data := #[] } : ByteArray))), []⟩) else (
 callT T 69 [.g [.v (.int .i64 n1), .v (.string s2), .v (.int .i64 n3), .s 1 l4, .s 5 l5]] fun o9 =>
 oD o9.res fun d10 =>
 dS d10 fun s11 =>
 some ⟨.d (.v (.string s11)), []⟩)) := by kernel_rfl
/- loop.example/g00119/impl.PatchText -/
def b12x0 : ACode := (
 .seq (.g [oB 12 .lss 11 10]) (
 .seq (.cond (.t 12) (.skip) (.exit 0)) (
 .seq (.block 1 (.seq (.g [oI 13 7 9 11, oL 14 [kI, .sl 1, kI, .s, kI, .sl 1, .sl 5] 13, oQ 5 (.alloc [.v (.int .i64 0), .s 1 [], .v (.int .i64 0), .v (.string ByteArray.empty), .v (.int .i64 0), .s 1 [], .s 5 []]), oS (.store 7 (.t 5) (.t 14))]) (
 .seq (.dreg [(1, 999999, [])] [(3, oM 15 3), (1, oQ 16 (.lit 1 ([[.v (.string ByteArray.empty)], [.v (.string ByteArray.empty)], [.v (.string ByteArray.empty)]] : Rows) [(0, (.c (.v (.string ({ data := #[115, 101, 116, 32] } : ByteArray))))), (1, (.c (.v (.string ({ data := #[100, 114, 111, 112, 32] } : ByteArray))))), (2, (.c (.v (.string ({ data := #[110, 101, 101, 100, 32] } : ByteArray)))))])), (0, oF 17 0 5), (0, oW 18 kI 17), (0, oBi 19 .sub 18 1), (1, oI 20 1 16 19), (1, oW 21 .s 20), (0, oF 22 1 5), (0, oW 23 (.sl 1) 22), (0, oQ 24 (.call (.f 36) [.rd, .rd] false [.c .s] [.t 23, .c (.v (.string ({ data := #[47] } : ByteArray)))]))] [oB 25 .add 21 24, oB 26 .add 15 25, oM 3 26]) (
 .seq (.seq (.g [oF 27 0 5, oW 28 kI 27, oBi 29 .neq 28 2]) (
 .cond (.t 29) (.g [oM 30 3, oF 31 2 5, oL 32 [kI, .s, kI, .sl 1, .sl 5] 31, oC 33 37 [.c .s] [32], oQ 34 (.bin .add (.c (.v (.string ({ data := #[32] } : ByteArray)))) (.t 33)), oB 35 .add 30 34, oM 3 35]) (.skip))) (
 .g [oM 36 3, oQ 37 (.bin .add (.t 36) (.c (.v (.string ({ data := #[10] } : ByteArray))))), oM 3 37]))))) (
 .g [oBi 38 .add 11 1, oM 11 38]))))
def e12x0 : Exits := [((.exit 0), [(3, .c .s)])]
noncomputable def l12x0 (T : Table) (k : Nat) := loopN (evalC ⟨T, [], []⟩ k b12x0 (Ex × List AV)) [3, 9, 10, 11] e12x0
def a12 : AFun := ⟨[.rd], false, [.t 2], (
 .seq (.g [oQ 2 (.mv (.c (.v (.string ({ data := #[] } : ByteArray)))))]) (
 .seq (.seq (.g [oM 6 0, oC 7 18 [.c .b] [6], oN 8 7]) (
 .cond (.t 8) (.seq (.g [oQ 2 (.mv (.c (.v (.string ({ data := #[] } : ByteArray)))))]) (
 .ret)) (.skip))) (
 .seq (.g [oQ 3 (.mv (.c (.v (.string ({ data := #[] } : ByteArray)))))]) (
 .seq (.seq (.g [oM 9 0, oZ 10 9, oK 11 0]) (
 .block 0 (.loop [3, 9, 10, 11] e12x0 b12x0))) (
 .seq (.g [oM 39 3, oM 2 39]) (
 .ret))))))⟩
theorem l12x0s (T : Table) (k n : Nat) (s5 : ByteArray) (l6 : Rows) (n7 n8 : Int): l12x0 T k (n + 1) [.v (.string s5), .fz 7 l6, .v (.int .i64 n7), .v (.int .i64 n8)] = (
 bif (decide (n8 < n7)) then (
 tst (decide (0 ≤ n8)) (
 look l6 (Int.toNat n8) fun r9 =>
 cI .i64 r9 0 fun n10 =>
 cL 1 r9 1 fun l11 =>
 cI .i64 r9 2 fun n12 =>
 cS r9 3 fun s13 =>
 cI .i64 r9 4 fun n14 =>
 cL 1 r9 5 fun l15 =>
 cL 5 r9 6 fun l16 =>
 tst (decide (0 ≤ (IntKind.wrap .i64 (n10 - 1))) && decide (Int.toNat (IntKind.wrap .i64 (n10 - 1)) < ([[.v (.string ({ data := #[115, 101, 116, 32] } : ByteArray))], [.v (.string ({ data := #[100, 114, 111, 112, 32] } : ByteArray))], [.v (.string ({ data := #[110, 101, 101, 100, 32] } : ByteArray))]] : Rows).length)) (
 look ([[.v (.string ({ data := #[115, 101, 116, 32] } : ByteArray))], [.v (.string ({ data := #[100, 114, 111, 112, 32] } : ByteArray))], [.v (.string ({ data := #[110, 101, 101, 100, 32] } : ByteArray))]] : Rows) (Int.toNat (IntKind.wrap .i64 (n10 - 1))) fun r17 =>
 cS r17 0 fun s18 =>
 callT T 36 [.d (.s 1 l11), .d (.v (.string ({ data := #[47] } : ByteArray)))] fun o19 =>
 oD o19.res fun d20 =>
 dS d20 fun s21 =>
 tst (decide (s18.size + s21.size ≤ maxLen)) (
 tst (decide (s5.size + (s18 ++ s21).size ≤ maxLen)) (
 bif (n10 != 2) then (
 callT T 37 [.g [.v (.int .i64 n12), .v (.string s13), .v (.int .i64 n14), .s 1 l15, .s 5 l16]] fun o22 =>
 oD o22.res fun d23 =>
 dS d23 fun s24 =>
 tst (decide (({ data := #[32] } : ByteArray).size + s24.size ≤ maxLen)) (
 tst (decide ((s5 ++ (s18 ++ s21)).size + (({ data := #[32] } : ByteArray) ++ s24).size ≤ maxLen)) (
 tst (decide (((s5 ++ (s18 ++ s21)) ++ (({ data := #[32] } : ByteArray) ++ s24)).size + ({ data := #[10] } : ByteArray).size ≤ maxLen)) (
 l12x0 T k n [.v (.string (((s5 ++ (s18 ++ s21)) ++ (({ data := #[32] } : ByteArray) ++ s24)) ++ ({ data := #[10] } : ByteArray))), .fz 7 l6, .v (.int .i64 n7), .v (.int .i64 (IntKind.wrap .i64 (n8 + 1)))])))) else (
 tst (decide ((s5 ++ (s18 ++ s21)).size + ({ data := #[10] } : ByteArray).size ≤ maxLen)) (
 l12x0 T k n [.v (.string ((s5 ++ (s18 ++ s21)) ++ ({ data := #[10] } : ByteArray))), .fz 7 l6, .v (.int .i64 n7), .v (.int .i64 (IntKind.wrap .i64 (n8 + 1)))]))))))) else (
 some ((.exit 0), [.v (.string s5)]))) := by kernel_rfl
theorem a12q (T : Table) (k : Nat) (l1 : Rows): evalF T k a12 [.d (.s 7 l1)] = (
 callT T 18 [.d (.s 7 l1)] fun o2 =>
 oD o2.res fun d3 =>
 dB d3 fun b4 =>
 bif (!b4) then (
 some ⟨.d (.v (.string ({ data := #[] } : ByteArray))), []⟩) else (
 aft (l12x0 T k k [.v (.string ({ data := #[] } : ByteArray)), .fz 7 l1, .v (.int .i64 (l1.length : Int)), .v (.int .i64 0)]) fun e25 ys26 =>
 bif e25.same (.exit 0) then (
 aV ys26 0 fun x27 =>
 aS x27 fun s28 =>
 some ⟨.d (.v (.string s28)), []⟩) else (
 none))) := by kernel_rfl
/- slices.Index[[]string,string] -/
def b57x0 : ACode := (
 .seq (.g [oB 9 .lss 8 7]) (
 .seq (.cond (.t 9) (.skip) (.exit 0)) (
 .seq (.block 1 (.seq (.g [oM 10 8, oM 5 10]) (
 .seq (.g [oM 11 1, oM 12 0, oM 13 5, oI 14 1 12 13, oW 15 .s 14, oB 16 .eql 11 15]) (
 .cond (.t 16) (.seq (.g [oM 17 5, oM 4 17]) (
 .ret)) (.skip))))) (
 .g [oBi 18 .add 8 1, oM 8 18]))))
def e57x0 : Exits := [(.ret, [(4, .c kI)]), ((.exit 0), [])]
noncomputable def l57x0 (T : Table) (k : Nat) := loopN (evalC ⟨T, [], []⟩ k b57x0 (Ex × List AV)) [0, 1, 7, 8] e57x0
def a57 : AFun := ⟨[.rd, .rd], false, [.t 4], (
 .seq (.g [oK 4 0]) (
 .seq (.seq (.g [oM 6 0, oZ 7 6, oK 8 0]) (
 .block 0 (.loop [0, 1, 7, 8] e57x0 b57x0))) (
 .seq (.g [oK 4 (-1)]) (
 .ret))))⟩
theorem l57x0s (T : Table) (k n : Nat) (l3 : Rows) (s4 : ByteArray) (n5 n6 : Int): l57x0 T k (n + 1) [.fz 1 l3, .v (.string s4), .v (.int .i64 n5), .v (.int .i64 n6)] = (
 bif (decide (n6 < n5)) then (
 tst (decide (0 ≤ n6)) (
 look l3 (Int.toNat n6) fun r7 =>
 cS r7 0 fun s8 =>
 bif (bytesEq s4 s8) then (
 some (.ret, [.v (.int .i64 n6)])) else (
 l57x0 T k n [.fz 1 l3, .v (.string s4), .v (.int .i64 n5), .v (.int .i64 (IntKind.wrap .i64 (n6 + 1)))]))) else (
 some ((.exit 0), []))) := by kernel_rfl
theorem a57q (T : Table) (k : Nat) (l1 : Rows) (s2 : ByteArray): evalF T k a57 [.d (.s 1 l1), .d (.v (.string s2))] = (
 aft (l57x0 T k k [.fz 1 l1, .v (.string s2), .v (.int .i64 (l1.length : Int)), .v (.int .i64 0)]) fun e9 ys10 =>
 bif e9.same .ret then (
 aV ys10 0 fun x11 =>
 aI .i64 x11 fun n12 =>
 some ⟨.d (.v (.int .i64 n12)), []⟩) else (
 bif e9.same (.exit 0) then (
 some ⟨.d (.v (.int .i64 (-1))), []⟩) else (
 none))) := by kernel_rfl
/- (*loop.example/g00119/impl.parser).take -/
def a126 : AFun := ⟨[.lent, .rd], false, [.t 4], (
 .seq (.g [oV 4 false]) (
 .seq (.g [oM 8 0, oQ 9 (.more (.nck (.t 8))), oF 10 0 9, oW 11 .s 10, oM 12 1, oC 13 151 [.c .s, .c .b] [11, 12], oM 7 13, oX 14 7 0, oX 15 7 1, oM 5 14, oM 6 15]) (
 .seq (.g [oM 16 0, oM 17 5, oQ 18 (.more (.nck (.t 16))), oF 19 0 18, oS (.store 1 (.t 19) (.t 17))]) (
 .seq (.g [oM 20 6, oM 4 20]) (
 .ret)))))⟩
theorem a126q (T : Table) (k : Nat) (s1 s3 : ByteArray) (b2 : Bool): evalF T k a126 [.p [.v (.string s1), .v (.bool b2)], .d (.v (.string s3))] = (
 callT T 151 [.d (.v (.string s1)), .d (.v (.string s3))] fun o4 =>
 oT o4.res fun is5 =>
 tst (Nat.beq is5.length 2) (
 nth is5 0 fun i6 =>
 oD i6 fun d7 =>
 dS d7 fun s8 =>
 nth is5 1 fun i9 =>
 oD i9 fun d10 =>
 dB d10 fun b11 =>
 some ⟨.d (.v (.bool b11)), [.p [.v (.string s8), .v (.bool b2)]]⟩)) := by kernel_rfl
/- (*loop.example/g00119/impl.parser).text -/
def b127x0 : ACode := (
 .seq (.seq (.g [oM 6 0, oQ 7 (.more (.nck (.t 6))), oF 8 1 7, oW 9 .b 8, oM 10 9, oJ 11 10 true (.mv (.t 0)), oJ 12 10 true (.more (.nck (.t 11))), oJ 13 10 true (.fad 0 (.t 12)), oJ 14 10 true (.load false [.s] (.t 13)), oJ 15 10 true (.bin .neq (.t 14) (.c (.v (.string ({ data := #[] } : ByteArray))))), oQ 16 (.pick (.t 10) (.t 15) (.b false))]) (
 .cond (.t 16) (.skip) (.exit 0))) (
 .block 1 (.seq (.g [oM 17 0, oQ 18 (.more (.nck (.t 17))), oF 19 0 18, oW 20 .s 19, oQ 21 (.idx (.t 20) (.i 0)), oM 4 21]) (
 .seq (.g [oM 22 0, oM 23 0, oQ 24 (.more (.nck (.t 23))), oF 25 0 24, oW 26 .s 25, oQ 27 (.slc none (.t 26) (some (.i 1)) none), oQ 28 (.more (.nck (.t 22))), oF 29 0 28, oS (.store 1 (.t 29) (.t 27))]) (
 .seq (.seq (.g [oM 30 4, oQ 31 (.bin .eql (.t 30) (.c (.v (.int .u8 34))))]) (
 .cond (.t 31) (.seq (.g [oM 32 3, oQ 33 (.conv .bytesStr (.t 32)), oM 2 33]) (
 .ret)) (.skip))) (
 .seq (.seq (.g [oM 34 4, oQ 35 (.bin .eql (.t 34) (.c (.v (.int .u8 92)))), oM 36 35, oJ 37 36 true (.mv (.t 0)), oJ 38 36 true (.more (.nck (.t 37))), oJ 39 36 true (.fad 0 (.t 38)), oJ 40 36 true (.load false [.s] (.t 39)), oJ 41 36 true (.bin .neq (.t 40) (.c (.v (.string ({ data := #[] } : ByteArray))))), oQ 42 (.pick (.t 36) (.t 41) (.b false))]) (
 .cond (.t 42) (.seq (.g [oM 43 0, oQ 44 (.more (.nck (.t 43))), oF 45 0 44, oW 46 .s 45, oQ 47 (.idx (.t 46) (.i 0)), oM 4 47]) (
 .g [oM 48 0, oM 49 0, oQ 50 (.more (.nck (.t 49))), oF 51 0 50, oW 52 .s 51, oQ 53 (.slc none (.t 52) (some (.i 1)) none), oQ 54 (.more (.nck (.t 48))), oF 55 0 54, oS (.store 1 (.t 55) (.t 53))])) (.skip))) (
 .g [oM 56 3, oM 57 4, oQ 58 (.lit 1 ([[.v (.int .u8 0)]] : Rows) [(0, (.t 57))]), oQ 59 (.app 1 1 (.t 56) (.t 58)), oM 3 59])))))))
def e127x0 : Exits := [(.ret, [(0, .b [.c .s, .c .b]), (2, .c .s)]), ((.exit 0), [(0, .b [.c .s, .c .b])])]
noncomputable def l127x0 (T : Table) (k : Nat) := loopN (evalC ⟨T, [0], []⟩ k b127x0 (Ex × List AV)) [0, 3] e127x0
def a127 : AFun := ⟨[.lent], false, [.t 2], (
 .seq (.g [oQ 2 (.mv (.c (.v (.string ({ data := #[] } : ByteArray)))))]) (
 .seq (.g [oQ 5 (.lit 1 ([] : Rows) []), oM 3 5]) (
 .seq (.block 0 (.loop [0, 3] e127x0 b127x0)) (
 .seq (.g [oM 60 0, oQ 61 (.more (.nck (.t 60))), oF 62 1 61, oS (.store 1 (.t 62) (.b false))]) (
 .seq (.g [oQ 2 (.mv (.c (.v (.string ({ data := #[] } : ByteArray)))))]) (
 .ret))))))⟩
theorem l127x0s (T : Table) (k n : Nat) (s3 : ByteArray) (b4 : Bool) (l5 : Rows): l127x0 T k (n + 1) [.b [.v (.string s3), .v (.bool b4)], .o 1 l5] = (
 bif b4 == true then (
 bif (!(bytesEq s3 ({ data := #[] } : ByteArray))) then (
 tst (decide (0 ≤ 0)) (
 byteAt s3 (Int.toNat 0) fun c6 =>
 tst (cutOk 1 (s3.size : Int) (s3.size)) (
 bif ((c6.toNat : Int) == 34) then (
 tst (allBytes l5) (
 some (.ret, [.b [.v (.string (s3.extract (Int.toNat 1) (Int.toNat (s3.size : Int)))), .v (.bool b4)], .v (.string (bytesOfRows l5))]))) else (
 bif ((c6.toNat : Int) == 92) == true then (
 bif (!(bytesEq (s3.extract (Int.toNat 1) (Int.toNat (s3.size : Int))) ({ data := #[] } : ByteArray))) then (
 tst (decide (0 ≤ 0)) (
 byteAt (s3.extract (Int.toNat 1) (Int.toNat (s3.size : Int))) (Int.toNat 0) fun c7 =>
 tst (cutOk 1 ((s3.extract (Int.toNat 1) (Int.toNat (s3.size : Int))).size : Int) ((s3.extract (Int.toNat 1) (Int.toNat (s3.size : Int))).size)) (
 tst (decide ((l5.length + ([[.v (.int .u8 (c7.toNat : Int))]] : Rows).length) * 1 ≤ maxBytes)) (
 l127x0 T k n [.b [.v (.string ((s3.extract (Int.toNat 1) (Int.toNat (s3.size : Int))).extract (Int.toNat 1) (Int.toNat ((s3.extract (Int.toNat 1) (Int.toNat (s3.size : Int))).size : Int)))), .v (.bool b4)], .o 1 (l5 ++ ([[.v (.int .u8 (c7.toNat : Int))]] : Rows))])))) else (
 tst (decide ((l5.length + ([[.v (.int .u8 (c6.toNat : Int))]] : Rows).length) * 1 ≤ maxBytes)) (
 l127x0 T k n [.b [.v (.string (s3.extract (Int.toNat 1) (Int.toNat (s3.size : Int)))), .v (.bool b4)], .o 1 (l5 ++ ([[.v (.int .u8 (c6.toNat : Int))]] : Rows))]))) else (
 tst (decide ((l5.length + ([[.v (.int .u8 (c6.toNat : Int))]] : Rows).length) * 1 ≤ maxBytes)) (
 l127x0 T k n [.b [.v (.string (s3.extract (Int.toNat 1) (Int.toNat (s3.size : Int)))), .v (.bool b4)], .o 1 (l5 ++ ([[.v (.int .u8 (c6.toNat : Int))]] : Rows))])))))) else (
 some ((.exit 0), [.b [.v (.string s3), .v (.bool b4)]]))) else (
 some ((.exit 0), [.b [.v (.string s3), .v (.bool b4)]]))) := by kernel_rfl
theorem a127q (T : Table) (k : Nat) (s1 : ByteArray) (b2 : Bool): evalF T k a127 [.p [.v (.string s1), .v (.bool b2)]] = (
 aft (l127x0 T k k [.b [.v (.string s1), .v (.bool b2)], .o 1 []]) fun e8 ys9 =>
 bif e8.same .ret then (
 aV ys9 0 fun x10 =>
 aX x10 fun xs11 =>
 aV xs11 0 fun x12 =>
 aS x12 fun s13 =>
 aV xs11 1 fun x14 =>
 aB x14 fun b15 =>
 aV ys9 1 fun x16 =>
 aS x16 fun s17 =>
 some ⟨.d (.v (.string s17)), [.p [.v (.string s13), .v (.bool b15)]]⟩) else (
 bif e8.same (.exit 0) then (
 aV ys9 0 fun x18 =>
 aX x18 fun xs19 =>
 aV xs19 0 fun x20 =>
 aS x20 fun s21 =>
 aV xs19 1 fun x22 =>
 aB x22 fun b23 =>
 some ⟨.d (.v (.string ({ data := #[] } : ByteArray))), [.p [.v (.string s21), .v (.bool false)]]⟩) else (
 none))) := by kernel_rfl
/- (*loop.example/g00119/impl.parser).till -/
def a129 : AFun := ⟨[.lent, .rd], false, [.t 4], (
 .seq (.g [oQ 4 (.mv (.c (.v (.string ({ data := #[] } : ByteArray)))))]) (
 .seq (.g [oM 7 0, oQ 8 (.more (.nck (.t 7))), oF 9 0 8, oW 10 .s 9, oM 11 1, oC 12 153 [.c kI] [10, 11], oM 5 12]) (
 .seq (.seq (.g [oM 13 5, oBi 14 .lss 13 0]) (
 .cond (.t 14) (.g [oM 15 0, oQ 16 (.more (.nck (.t 15))), oF 17 0 16, oW 18 .s 17, oQ 19 (.len true (.t 18)), oM 5 19]) (.skip))) (
 .seq (.g [oM 20 0, oQ 21 (.more (.nck (.t 20))), oF 22 0 21, oW 23 .s 22, oM 24 5, oQ 25 (.slc none (.t 23) none (some (.t 24))), oM 6 25]) (
 .seq (.g [oM 26 0, oM 27 0, oQ 28 (.more (.nck (.t 27))), oF 29 0 28, oW 30 .s 29, oM 31 5, oQ 32 (.slc none (.t 30) (some (.t 31)) none), oQ 33 (.more (.nck (.t 26))), oF 34 0 33, oS (.store 1 (.t 34) (.t 32))]) (
 .seq (.g [oM 35 6, oM 4 35]) (
 .ret)))))))⟩
theorem a129q (T : Table) (k : Nat) (s1 s3 : ByteArray) (b2 : Bool): evalF T k a129 [.p [.v (.string s1), .v (.bool b2)], .d (.v (.string s3))] = (
 callT T 153 [.d (.v (.string s1)), .d (.v (.string s3))] fun o4 =>
 oD o4.res fun d5 =>
 dI .i64 d5 fun n6 =>
 bif (decide (n6 < 0)) then (
 tst (cutOk 0 (s1.size : Int) (s1.size)) (
 tst (cutOk (s1.size : Int) (s1.size : Int) (s1.size)) (
 some ⟨.d (.v (.string (s1.extract (Int.toNat 0) (Int.toNat (s1.size : Int))))), [.p [.v (.string (s1.extract (Int.toNat (s1.size : Int)) (Int.toNat (s1.size : Int)))), .v (.bool b2)]]⟩))) else (
 tst (cutOk 0 n6 (s1.size)) (
 tst (cutOk n6 (s1.size : Int) (s1.size)) (
 some ⟨.d (.v (.string (s1.extract (Int.toNat 0) (Int.toNat n6)))), [.p [.v (.string (s1.extract (Int.toNat n6) (Int.toNat (s1.size : Int)))), .v (.bool b2)]]⟩)))) := by kernel_rfl
/- (*loop.example/g00119/impl.parser).need -/
def a152 : AFun := ⟨[.lent, .rd], false, [], (
 .seq (.g [oM 4 0, oM 5 1, oQ 6 (.call (.f 126) [.lent, .rd] false [.c .b] [.t 4, .t 5]), oN 7 6]) (
 .cond (.t 7) (.g [oM 8 0, oQ 9 (.more (.nck (.t 8))), oF 10 1 9, oS (.store 1 (.t 10) (.b false))]) (.skip)))⟩
theorem a152q (T : Table) (k : Nat) (s1 s3 : ByteArray) (b2 : Bool): evalF T k a152 [.p [.v (.string s1), .v (.bool b2)], .d (.v (.string s3))] = (
 callT T 126 [.p [.v (.string s1), .v (.bool b2)], .d (.v (.string s3))] fun o4 =>
 nth o4.back 0 fun i5 =>
 oP i5 fun r6 =>
 tst (Nat.beq r6.length 2) (
 cS r6 0 fun s7 =>
 cB r6 1 fun b8 =>
 oD o4.res fun d9 =>
 dB d9 fun b10 =>
 bif (!b10) then (
 some ⟨.t [], [.p [.v (.string s7), .v (.bool false)]]⟩) else (
 some ⟨.t [], [.p [.v (.string s7), .v (.bool b8)]]⟩))) := by kernel_rfl
-- a153 "strings.IndexAny": op range
/- (*loop.example/g00119/impl.parser).kids -/
def b128x0 : ACode := (
 .seq (.seq (.g [oM 18 0, oQ 19 (.more (.nck (.t 18))), oF 20 1 19, oW 21 .b 20, oM 22 21, oJ 23 22 true (.fad 4 (.t 9)), oJ 24 22 true (.load false [.sl 5] (.t 23)), oJ 25 22 true (.len false (.t 24)), oJ 26 22 true (.bin .leq (.t 25) (.i 300)), oQ 27 (.pick (.t 22) (.t 26) (.b false))]) (
 .cond (.t 27) (.skip) (.exit 0))) (
 .block 1 (.seq (.seq (.g [oM 28 1, oBi 29 .eql 28 5]) (
 .cond (.t 29) (.seq (.g [oM 30 0, oQ 31 (.call (.f 129) [.lent, .rd] false [.c .s] [.t 30, .c (.v (.string ({ data := #[58] } : ByteArray)))]), oM 10 31]) (
 .seq (.g [oM 32 0, oQ 33 (.call (.f 152) [.lent, .rd] false [] [.t 32, .c (.v (.string ({ data := #[58] } : ByteArray)))])]) (
 .g [oF 34 3 9, oW 35 (.sl 1) 34, oM 36 10, oQ 37 (.lit 1 ([[.v (.string ByteArray.empty)]] : Rows) [(0, (.t 36))]), oQ 38 (.app 1 16 (.t 35) (.t 37)), oF 39 3 9, oS (.store 1 (.t 39) (.t 38))]))) (.skip))) (
 .seq (.g [oM 40 0, oM 41 3, oBi 42 .sub 41 1, oQ 43 (.call (.f 94) [.lent, .rd] false [.g [kI, .s, kI, .sl 1, .sl 5]] [.t 40, .t 42]), oQ 11 (.alloc [.v (.int .i64 0), .v (.string ByteArray.empty), .v (.int .i64 0), .s 1 [], .s 5 []]), oS (.store 5 (.t 11) (.t 43))]) (
 .seq (.g [oF 44 4 9, oW 45 (.sl 5) 44, oL 46 [kI, .s, kI, .sl 1, .sl 5] 11, oQ 47 (.lit 5 ([[.v (.int .i64 0), .v (.string ByteArray.empty), .v (.int .i64 0), .s 1 [], .s 5 []]] : Rows) [(0, (.t 46))]), oQ 48 (.app 5 80 (.t 45) (.t 47)), oF 49 4 9, oS (.store 1 (.t 49) (.t 48))]) (
 .seq (.g [oM 50 0, oQ 51 (.call (.f 126) [.lent, .rd] false [.c .b] [.t 50, .c (.v (.string ({ data := #[44] } : ByteArray)))]), oN 52 51]) (
 .cond (.t 52) (.exit 0) (.skip))))))))
def e128x0 : Exits := [((.exit 0), [(0, .b [.c .s, .c .b]), (2, .c .s), (8, .b [.c kI, .c .s, .c kI, .o 1, .o 5]), (9, .b [.c kI, .c .s, .c kI, .o 1, .o 5])])]
noncomputable def l128x0 (T : Table) (k : Nat) := loopN (evalC ⟨T, [0], []⟩ k b128x0 (Ex × List AV)) [0, 1, 2, 3, 8, 9] e128x0
def a128 : AFun := ⟨[.lent, .rd, .rd, .rd], false, [.c 8 true [kI, .s, kI, .sl 1, .sl 5]], (
 .seq (.g [oQ 8 (.alloc [.v (.int .i64 0), .v (.string ByteArray.empty), .v (.int .i64 0), .s 1 [], .s 5 []])]) (
 .seq (.g [oM 12 1, oQ 13 (.build [.v (.int .i64 0), .v (.string ByteArray.empty), .v (.int .i64 0), .s 1 [], .s 5 []] [(0, 1, (.t 12))]), oQ 9 (.alloc [.v (.int .i64 0), .v (.string ByteArray.empty), .v (.int .i64 0), .s 1 [], .s 5 []]), oS (.store 5 (.t 9) (.t 13))]) (
 .seq (.seq (.g [oM 14 0, oM 15 2, oQ 16 (.call (.f 126) [.lent, .rd] false [.c .b] [.t 14, .t 15])]) (
 .cond (.t 16) (.seq (.g [oL 17 [kI, .s, kI, .sl 1, .sl 5] 9, oS (.store 5 (.t 8) (.t 17))]) (
 .ret)) (.skip))) (
 .seq (.block 0 (.loop [0, 1, 2, 3, 8, 9] e128x0 b128x0)) (
 .seq (.g [oM 53 0, oM 54 2, oQ 55 (.call (.f 152) [.lent, .rd] false [] [.t 53, .t 54])]) (
 .seq (.g [oL 56 [kI, .s, kI, .sl 1, .sl 5] 9, oS (.store 5 (.t 8) (.t 56))]) (
 .ret)))))))⟩
theorem l128x0s (T : Table) (k n : Nat) (s13 s16 s19 s24 : ByteArray) (b14 : Bool) (n15 n17 n18 n20 n23 n25 : Int) (l21 l22 l26 l27 : Rows): l128x0 T k (n + 1) [.b [.v (.string s13), .v (.bool b14)], .v (.int .i64 n15), .v (.string s16), .v (.int .i64 n17), .b [.v (.int .i64 n18), .v (.string s19), .v (.int .i64 n20), .o 1 l21, .o 5 l22], .b [.v (.int .i64 n23), .v (.string s24), .v (.int .i64 n25), .o 1 l26, .o 5 l27]] = (
 bif b14 == true then (
 bif (decide ((l27.length : Int) ≤ 300)) then (
 bif (n15 == 5) then (
 callT T 129 [.p [.v (.string s13), .v (.bool b14)], .d (.v (.string ({ data := #[58] } : ByteArray)))] fun o28 =>
 nth o28.back 0 fun i29 =>
 oP i29 fun r30 =>
 tst (Nat.beq r30.length 2) (
 cS r30 0 fun s31 =>
 cB r30 1 fun b32 =>
 oD o28.res fun d33 =>
 dS d33 fun s34 =>
 callT T 152 [.p [.v (.string s31), .v (.bool b32)], .d (.v (.string ({ data := #[58] } : ByteArray)))] fun o35 =>
 nth o35.back 0 fun i36 =>
 oP i36 fun r37 =>
 tst (Nat.beq r37.length 2) (
 cS r37 0 fun s38 =>
 cB r37 1 fun b39 =>
 oT o35.res fun is40 =>
 tst (Nat.beq is40.length 0) (
 tst (decide ((l26.length + ([[.v (.string s34)]] : Rows).length) * 16 ≤ maxBytes)) (
 callT T 94 [.p [.v (.string s38), .v (.bool b39)], .d (.v (.int .i64 (IntKind.wrap .i64 (n17 - 1))))] fun o41 =>
 nth o41.back 0 fun i42 =>
 oP i42 fun r43 =>
 tst (Nat.beq r43.length 2) (
 cS r43 0 fun s44 =>
 cB r43 1 fun b45 =>
 oG o41.res fun r46 =>
 tst (Nat.beq r46.length 5) (
 cI .i64 r46 0 fun n47 =>
 cS r46 1 fun s48 =>
 cI .i64 r46 2 fun n49 =>
 cL 1 r46 3 fun l50 =>
 cL 5 r46 4 fun l51 =>
 tst (decide ((l27.length + ([[.v (.int .i64 n47), .v (.string s48), .v (.int .i64 n49), hole, hole]] : Rows).length) * 80 ≤ maxBytes)) (
 callT T 126 [.p [.v (.string s44), .v (.bool b45)], .d (.v (.string ({ data := #[44] } : ByteArray)))] fun o52 =>
 nth o52.back 0 fun i53 =>
 oP i53 fun r54 =>
 tst (Nat.beq r54.length 2) (
 cS r54 0 fun s55 =>
 cB r54 1 fun b56 =>
 oD o52.res fun d57 =>
 dB d57 fun b58 =>
 bif (!b58) then (
 some ((.exit 0), [.b [.v (.string s55), .v (.bool b56)], .v (.string s16), .b [.v (.int .i64 n18), .v (.string s19), .v (.int .i64 n20), .o 1 l21, .o 5 l22], .b [.v (.int .i64 n23), .v (.string s24), .v (.int .i64 n25), .o 1 (l26 ++ ([[.v (.string s34)]] : Rows)), .o 5 (setD (setD (l27 ++ ([[.v (.int .i64 n47), .v (.string s48), .v (.int .i64 n49), hole, hole]] : Rows)) (0 + l27.length) 4 (.s 5 l51)) (0 + l27.length) 3 (.s 1 l50))]])) else (
 l128x0 T k n [.b [.v (.string s55), .v (.bool b56)], .v (.int .i64 n15), .v (.string s16), .v (.int .i64 n17), .b [.v (.int .i64 n18), .v (.string s19), .v (.int .i64 n20), .o 1 l21, .o 5 l22], .b [.v (.int .i64 n23), .v (.string s24), .v (.int .i64 n25), .o 1 (l26 ++ ([[.v (.string s34)]] : Rows)), .o 5 (setD (setD (l27 ++ ([[.v (.int .i64 n47), .v (.string s48), .v (.int .i64 n49), hole, hole]] : Rows)) (0 + l27.length) 4 (.s 5 l51)) (0 + l27.length) 3 (.s 1 l50))]])))))))))) else (
 callT T 94 [.p [.v (.string s13), .v (.bool b14)], .d (.v (.int .i64 (IntKind.wrap .i64 (n17 - 1))))] fun o59 =>
 nth o59.back 0 fun i60 =>
 oP i60 fun r61 =>
 tst (Nat.beq r61.length 2) (
 cS r61 0 fun s62 =>
 cB r61 1 fun b63 =>
 oG o59.res fun r64 =>
 tst (Nat.beq r64.length 5) (
 cI .i64 r64 0 fun n65 =>
 cS r64 1 fun s66 =>
 cI .i64 r64 2 fun n67 =>
 cL 1 r64 3 fun l68 =>
 cL 5 r64 4 fun l69 =>
 tst (decide ((l27.length + ([[.v (.int .i64 n65), .v (.string s66), .v (.int .i64 n67), hole, hole]] : Rows).length) * 80 ≤ maxBytes)) (
 callT T 126 [.p [.v (.string s62), .v (.bool b63)], .d (.v (.string ({ data := #[44] } : ByteArray)))] fun o70 =>
 nth o70.back 0 fun i71 =>
 oP i71 fun r72 =>
 tst (Nat.beq r72.length 2) (
 cS r72 0 fun s73 =>
 cB r72 1 fun b74 =>
 oD o70.res fun d75 =>
 dB d75 fun b76 =>
 bif (!b76) then (
 some ((.exit 0), [.b [.v (.string s73), .v (.bool b74)], .v (.string s16), .b [.v (.int .i64 n18), .v (.string s19), .v (.int .i64 n20), .o 1 l21, .o 5 l22], .b [.v (.int .i64 n23), .v (.string s24), .v (.int .i64 n25), .o 1 l26, .o 5 (setD (setD (l27 ++ ([[.v (.int .i64 n65), .v (.string s66), .v (.int .i64 n67), hole, hole]] : Rows)) (0 + l27.length) 4 (.s 5 l69)) (0 + l27.length) 3 (.s 1 l68))]])) else (
 l128x0 T k n [.b [.v (.string s73), .v (.bool b74)], .v (.int .i64 n15), .v (.string s16), .v (.int .i64 n17), .b [.v (.int .i64 n18), .v (.string s19), .v (.int .i64 n20), .o 1 l21, .o 5 l22], .b [.v (.int .i64 n23), .v (.string s24), .v (.int .i64 n25), .o 1 l26, .o 5 (setD (setD (l27 ++ ([[.v (.int .i64 n65), .v (.string s66), .v (.int .i64 n67), hole, hole]] : Rows)) (0 + l27.length) 4 (.s 5 l69)) (0 + l27.length) 3 (.s 1 l68))]]))))))) else (
 some ((.exit 0), [.b [.v (.string s13), .v (.bool b14)], .v (.string s16), .b [.v (.int .i64 n18), .v (.string s19), .v (.int .i64 n20), .o 1 l21, .o 5 l22], .b [.v (.int .i64 n23), .v (.string s24), .v (.int .i64 n25), .o 1 l26, .o 5 l27]]))) else (
 some ((.exit 0), [.b [.v (.string s13), .v (.bool b14)], .v (.string s16), .b [.v (.int .i64 n18), .v (.string s19), .v (.int .i64 n20), .o 1 l21, .o 5 l22], .b [.v (.int .i64 n23), .v (.string s24), .v (.int .i64 n25), .o 1 l26, .o 5 l27]]))) := by kernel_rfl
theorem a128q (T : Table) (k : Nat) (s1 s4 : ByteArray) (b2 : Bool) (n3 n5 : Int): evalF T k a128 [.p [.v (.string s1), .v (.bool b2)], .d (.v (.int .i64 n3)), .d (.v (.string s4)), .d (.v (.int .i64 n5))] = (
 callT T 126 [.p [.v (.string s1), .v (.bool b2)], .d (.v (.string s4))] fun o6 =>
 nth o6.back 0 fun i7 =>
 oP i7 fun r8 =>
 tst (Nat.beq r8.length 2) (
 cS r8 0 fun s9 =>
 cB r8 1 fun b10 =>
 oD o6.res fun d11 =>
 dB d11 fun b12 =>
 bif b12 then (
 some ⟨.g [.v (.int .i64 n3), .v (.string ByteArray.empty), .v (.int .i64 0), .s 1 [], .s 5 []], [.p [.v (.string s9), .v (.bool b10)]]⟩) else (
 aft (l128x0 T k k [.b [.v (.string s9), .v (.bool b10)], .v (.int .i64 n3), .v (.string s4), .v (.int .i64 n5), .b [.v (.int .i64 0), .v (.string ByteArray.empty), .v (.int .i64 0), .o 1 [], .o 5 []], .b [.v (.int .i64 n3), .v (.string ByteArray.empty), .v (.int .i64 0), .o 1 [], .o 5 []]]) fun e77 ys78 =>
 bif e77.same (.exit 0) then (
 aV ys78 0 fun x79 =>
 aX x79 fun xs80 =>
 aV xs80 0 fun x81 =>
 aS x81 fun s82 =>
 aV xs80 1 fun x83 =>
 aB x83 fun b84 =>
 aV ys78 1 fun x85 =>
 aS x85 fun s86 =>
 aV ys78 2 fun x87 =>
 aX x87 fun xs88 =>
 aV xs88 0 fun x89 =>
 aI .i64 x89 fun n90 =>
 aV xs88 1 fun x91 =>
 aS x91 fun s92 =>
 aV xs88 2 fun x93 =>
 aI .i64 x93 fun n94 =>
 aV xs88 3 fun x95 =>
 aO 1 x95 fun l96 =>
 aV xs88 4 fun x97 =>
 aO 5 x97 fun l98 =>
 aV ys78 3 fun x99 =>
 aX x99 fun xs100 =>
 aV xs100 0 fun x101 =>
 aI .i64 x101 fun n102 =>
 aV xs100 1 fun x103 =>
 aS x103 fun s104 =>
 aV xs100 2 fun x105 =>
 aI .i64 x105 fun n106 =>
 aV xs100 3 fun x107 =>
 aO 1 x107 fun l108 =>
 aV xs100 4 fun x109 =>
 aO 5 x109 fun l110 =>
 callT T 152 [.p [.v (.string s82), .v (.bool b84)], .d (.v (.string s86))] fun o111 =>
 nth o111.back 0 fun i112 =>
 oP i112 fun r113 =>
 tst (Nat.beq r113.length 2) (
 cS r113 0 fun s114 =>
 cB r113 1 fun b115 =>
 oT o111.res fun is116 =>
 tst (Nat.beq is116.length 0) (
 some ⟨.g [.v (.int .i64 n102), .v (.string s104), .v (.int .i64 n106), .s 1 l108, .s 5 l110], [.p [.v (.string s114), .v (.bool b115)]]⟩))) else (
 none)))) := by kernel_rfl
/- loop.example/g00119/impl.integer -/
def b130x0 : ACode := (
 .seq (.g [oB 19 .lss 18 17]) (
 .seq (.cond (.t 19) (.skip) (.exit 0)) (
 .seq (.block 1 (.seq (.g [oM 20 18, oM 6 20]) (
 .seq (.seq (.g [oM 21 4, oM 22 6, oQ 23 (.idx (.t 21) (.t 22)), oQ 24 (.bin .lss (.t 23) (.c (.v (.int .u8 48)))), oM 25 24, oJ 26 25 false (.mv (.t 4)), oJ 27 25 false (.mv (.t 6)), oJ 28 25 false (.idx (.t 26) (.t 27)), oJ 29 25 false (.bin .gtr (.t 28) (.c (.v (.int .u8 57)))), oQ 30 (.pick (.t 25) (.b true) (.t 29))]) (
 .cond (.t 30) (.seq (.g [oK 2 0, oV 3 false]) (
 .ret)) (.skip))) (
 .g [oM 31 5, oQ 32 (.bin .mul (.i 10) (.t 31)), oM 33 4, oM 34 6, oQ 35 (.idx (.t 33) (.t 34)), oQ 36 (.bin .sub (.t 35) (.c (.v (.int .u8 48)))), oQ 37 (.conv (.int .i64) (.t 36)), oB 38 .sub 32 37, oM 5 38])))) (
 .g [oBi 39 .add 18 1, oM 18 39]))))
def e130x0 : Exits := [(.ret, [(2, .c kI), (3, .c .b)]), ((.exit 0), [(0, .c .s), (4, .c .s), (5, .c kI)])]
noncomputable def l130x0 (T : Table) (k : Nat) := loopN (evalC ⟨T, [], []⟩ k b130x0 (Ex × List AV)) [0, 4, 5, 17, 18] e130x0
def a130 : AFun := ⟨[.rd], false, [.t 2, .t 3], (
 .seq (.g [oK 2 0, oV 3 false]) (
 .seq (.g [oM 7 0, oQ 8 (.call (.f 154) [.rd, .rd] false [.c .s] [.t 7, .c (.v (.string ({ data := #[45] } : ByteArray)))]), oM 4 8]) (
 .seq (.seq (.g [oM 9 4, oQ 10 (.bin .eql (.t 9) (.c (.v (.string ({ data := #[] } : ByteArray))))), oM 11 10, oJ 12 11 false (.mv (.t 4)), oJ 13 11 false (.len true (.t 12)), oJ 14 11 false (.bin .gtr (.t 13) (.i 19)), oQ 15 (.pick (.t 11) (.b true) (.t 14))]) (
 .cond (.t 15) (.seq (.g [oK 2 0, oV 3 false]) (
 .ret)) (.skip))) (
 .seq (.g [oK 5 0]) (
 .seq (.seq (.g [oM 16 4, oQ 17 (.len true (.t 16)), oK 18 0]) (
 .block 0 (.loop [0, 4, 5, 17, 18] e130x0 b130x0))) (
 .seq (.seq (.g [oM 40 4, oQ 41 (.len true (.t 40)), oM 42 0, oQ 43 (.len true (.t 42)), oB 44 .eql 41 43]) (
 .cond (.t 44) (.g [oM 45 5, oQ 46 (.un .neg (.t 45)), oM 5 46]) (.skip))) (
 .seq (.g [oM 47 5, oM 48 5, oC 49 106 [.c .s] [48], oM 50 0, oB 51 .eql 49 50, oM 2 47, oM 3 51]) (
 .ret))))))))⟩
theorem l130x0s (T : Table) (k n : Nat) (s5 s6 : ByteArray) (n7 n8 n9 : Int): l130x0 T k (n + 1) [.v (.string s5), .v (.string s6), .v (.int .i64 n7), .v (.int .i64 n8), .v (.int .i64 n9)] = (
 bif (decide (n9 < n8)) then (
 tst (decide (0 ≤ n9)) (
 byteAt s6 (Int.toNat n9) fun c10 =>
 bif (decide ((c10.toNat : Int) < 48)) == false then (
 tst (decide (0 ≤ n9)) (
 byteAt s6 (Int.toNat n9) fun c11 =>
 bif (decide ((c11.toNat : Int) > 57)) then (
 some (.ret, [.v (.int .i64 0), .v (.bool false)])) else (
 tst (decide (0 ≤ n9)) (
 byteAt s6 (Int.toNat n9) fun c12 =>
 l130x0 T k n [.v (.string s5), .v (.string s6), .v (.int .i64 (IntKind.wrap .i64 ((IntKind.wrap .i64 (10 * n7)) - (IntKind.wrap .i64 (IntKind.wrap .u8 ((c12.toNat : Int) - 48)))))), .v (.int .i64 n8), .v (.int .i64 (IntKind.wrap .i64 (n9 + 1)))])))) else (
 some (.ret, [.v (.int .i64 0), .v (.bool false)])))) else (
 some ((.exit 0), [.v (.string s5), .v (.string s6), .v (.int .i64 n7)]))) := by kernel_rfl
theorem a130q (T : Table) (k : Nat) (s1 : ByteArray): evalF T k a130 [.d (.v (.string s1))] = (
 callT T 154 [.d (.v (.string s1)), .d (.v (.string ({ data := #[45] } : ByteArray)))] fun o2 =>
 oD o2.res fun d3 =>
 dS d3 fun s4 =>
 bif (bytesEq s4 ({ data := #[] } : ByteArray)) == false then (
 bif (decide ((s4.size : Int) > 19)) then (
 some ⟨.t [.d (.v (.int .i64 0)), .d (.v (.bool false))], []⟩) else (
 aft (l130x0 T k k [.v (.string s1), .v (.string s4), .v (.int .i64 0), .v (.int .i64 (s4.size : Int)), .v (.int .i64 0)]) fun e13 ys14 =>
 bif e13.same .ret then (
 aV ys14 0 fun x15 =>
 aI .i64 x15 fun n16 =>
 aV ys14 1 fun x17 =>
 aB x17 fun b18 =>
 some ⟨.t [.d (.v (.int .i64 n16)), .d (.v (.bool b18))], []⟩) else (
 bif e13.same (.exit 0) then (
 aV ys14 0 fun x19 =>
 aS x19 fun s20 =>
 aV ys14 1 fun x21 =>
 aS x21 fun s22 =>
 aV ys14 2 fun x23 =>
 aI .i64 x23 fun n24 =>
 bif ((s22.size : Int) == (s20.size : Int)) then (
 callT T 106 [.d (.v (.int .i64 (IntKind.wrap .i64 (0 - n24))))] fun o25 =>
 oD o25.res fun d26 =>
 dS d26 fun s27 =>
 some ⟨.t [.d (.v (.int .i64 (IntKind.wrap .i64 (0 - n24)))), .d (.v (.bool (bytesEq s27 s20)))], []⟩) else (
 callT T 106 [.d (.v (.int .i64 n24))] fun o28 =>
 oD o28.res fun d29 =>
 dS d29 fun s30 =>
 some ⟨.t [.d (.v (.int .i64 n24)), .d (.v (.bool (bytesEq s30 s20)))], []⟩)) else (
 none)))) else (
 some ⟨.t [.d (.v (.int .i64 0)), .d (.v (.bool false))], []⟩)) := by kernel_rfl
/- (*loop.example/g00119/impl.parser).value -/
def a94 : AFun := ⟨[.lent, .rd], false, [.c 4 true [kI, .s, kI, .sl 1, .sl 5]], (
 .seq (.g [oQ 4 (.alloc [.v (.int .i64 0), .v (.string ByteArray.empty), .v (.int .i64 0), .s 1 [], .s 5 []])]) (
 .seq (.block 0 (.seq (.g [oM 10 1, oBi 11 .eql 10 0, oM 9 11]) (
 .cond (.t 9) (.seq (.g [oM 12 0, oQ 13 (.more (.nck (.t 12))), oF 14 1 13, oS (.store 1 (.t 14) (.b false))]) (
 .seq (.g [oQ 15 (.build [.v (.int .i64 0), .v (.string ByteArray.empty), .v (.int .i64 0), .s 1 [], .s 5 []] []), oS (.store 5 (.t 4) (.t 15))]) (
 .ret))) (.seq (.g [oM 17 0, oQ 18 (.call (.f 126) [.lent, .rd] false [.c .b] [.t 17, .c (.v (.string ({ data := #[34] } : ByteArray)))]), oM 16 18]) (
 .cond (.t 16) (.seq (.g [oM 19 0, oQ 20 (.call (.f 127) [.lent] false [.c .s] [.t 19]), oM 5 20]) (
 .seq (.g [oM 21 5, oQ 22 (.build [.v (.int .i64 0), .v (.string ByteArray.empty), .v (.int .i64 0), .s 1 [], .s 5 []] [(0, 1, (.i 1)), (1, 1, (.t 21))]), oS (.store 5 (.t 4) (.t 22))]) (
 .ret))) (.seq (.g [oM 24 0, oQ 25 (.call (.f 126) [.lent, .rd] false [.c .b] [.t 24, .c (.v (.string ({ data := #[91] } : ByteArray)))]), oM 23 25]) (
 .cond (.t 23) (.seq (.g [oM 26 0, oM 27 1, oQ 28 (.call (.f 128) [.lent, .rd, .rd, .rd] false [.g [kI, .s, kI, .sl 1, .sl 5]] [.t 26, .i 4, .c (.v (.string ({ data := #[93] } : ByteArray))), .t 27]), oS (.store 5 (.t 4) (.t 28))]) (
 .ret)) (.seq (.g [oM 30 0, oQ 31 (.call (.f 126) [.lent, .rd] false [.c .b] [.t 30, .c (.v (.string ({ data := #[123] } : ByteArray)))]), oM 29 31]) (
 .cond (.t 29) (.seq (.g [oM 32 0, oM 33 1, oQ 34 (.call (.f 128) [.lent, .rd, .rd, .rd] false [.g [kI, .s, kI, .sl 1, .sl 5]] [.t 32, .i 5, .c (.v (.string ({ data := #[125] } : ByteArray))), .t 33]), oS (.store 5 (.t 4) (.t 34))]) (
 .ret)) (.skip)))))))))) (
 .seq (.g [oM 35 0, oQ 36 (.call (.f 129) [.lent, .rd] false [.c .s] [.t 35, .c (.v (.string ({ data := #[44, 93, 125] } : ByteArray)))]), oM 6 36]) (
 .seq (.seq (.g [oM 37 6]) (
 .block 1 (.seq (.g [oQ 39 (.bin .eql (.t 37) (.c (.v (.string ({ data := #[116, 114, 117, 101] } : ByteArray))))), oM 38 39]) (
 .cond (.t 38) (.seq (.g [oQ 40 (.build [.v (.int .i64 0), .v (.string ByteArray.empty), .v (.int .i64 0), .s 1 [], .s 5 []] [(0, 1, (.i 3)), (2, 1, (.i 1))]), oS (.store 5 (.t 4) (.t 40))]) (
 .ret)) (.seq (.g [oQ 42 (.bin .eql (.t 37) (.c (.v (.string ({ data := #[102, 97, 108, 115, 101] } : ByteArray))))), oM 41 42]) (
 .cond (.t 41) (.seq (.g [oQ 43 (.build [.v (.int .i64 0), .v (.string ByteArray.empty), .v (.int .i64 0), .s 1 [], .s 5 []] [(0, 1, (.i 3))]), oS (.store 5 (.t 4) (.t 43))]) (
 .ret)) (.skip))))))) (
 .seq (.g [oM 45 6, oC 46 130 [.c kI, .c .b] [45], oM 44 46, oX 47 44 0, oX 48 44 1, oM 7 47, oM 8 48]) (
 .seq (.g [oM 49 0, oM 50 0, oQ 51 (.more (.nck (.t 50))), oF 52 1 51, oW 53 .b 52, oM 54 53, oJ 55 54 true (.mv (.t 8)), oQ 56 (.pick (.t 54) (.t 55) (.b false)), oQ 57 (.more (.nck (.t 49))), oF 58 1 57, oS (.store 1 (.t 58) (.t 56))]) (
 .seq (.g [oM 59 7, oQ 60 (.build [.v (.int .i64 0), .v (.string ByteArray.empty), .v (.int .i64 0), .s 1 [], .s 5 []] [(0, 1, (.i 2)), (2, 1, (.t 59))]), oS (.store 5 (.t 4) (.t 60))]) (
 .ret))))))))⟩
theorem a94q (T : Table) (k : Nat) (s1 : ByteArray) (b2 : Bool) (n3 : Int): evalF T k a94 [.p [.v (.string s1), .v (.bool b2)], .d (.v (.int .i64 n3))] = (
 bif (n3 == 0) then (
 some ⟨.g [.v (.int .i64 0), .v (.string ByteArray.empty), .v (.int .i64 0), .s 1 [], .s 5 []], [.p [.v (.string s1), .v (.bool false)]]⟩) else (
 callT T 126 [.p [.v (.string s1), .v (.bool b2)], .d (.v (.string ({ data := #[34] } : ByteArray)))] fun o4 =>
 nth o4.back 0 fun i5 =>
 oP i5 fun r6 =>
 tst (Nat.beq r6.length 2) (
 cS r6 0 fun s7 =>
 cB r6 1 fun b8 =>
 oD o4.res fun d9 =>
 dB d9 fun b10 =>
 bif b10 then (
 callT T 127 [.p [.v (.string s7), .v (.bool b8)]] fun o11 =>
 nth o11.back 0 fun i12 =>
 oP i12 fun r13 =>
 tst (Nat.beq r13.length 2) (
 cS r13 0 fun s14 =>
 cB r13 1 fun b15 =>
 oD o11.res fun d16 =>
 dS d16 fun s17 =>
 some ⟨.g [.v (.int .i64 1), .v (.string s17), .v (.int .i64 0), .s 1 [], .s 5 []], [.p [.v (.string s14), .v (.bool b15)]]⟩)) else (
 callT T 126 [.p [.v (.string s7), .v (.bool b8)], .d (.v (.string ({ data := #[91] } : ByteArray)))] fun o18 =>
 nth o18.back 0 fun i19 =>
 oP i19 fun r20 =>
 tst (Nat.beq r20.length 2) (
 cS r20 0 fun s21 =>
 cB r20 1 fun b22 =>
 oD o18.res fun d23 =>
 dB d23 fun b24 =>
 bif b24 then (
 callT T 128 [.p [.v (.string s21), .v (.bool b22)], .d (.v (.int .i64 4)), .d (.v (.string ({ data := #[93] } : ByteArray))), .d (.v (.int .i64 n3))] fun o25 =>
 nth o25.back 0 fun i26 =>
 oP i26 fun r27 =>
 tst (Nat.beq r27.length 2) (
 cS r27 0 fun s28 =>
 cB r27 1 fun b29 =>
 oG o25.res fun r30 =>
 tst (Nat.beq r30.length 5) (
 cI .i64 r30 0 fun n31 =>
 cS r30 1 fun s32 =>
 cI .i64 r30 2 fun n33 =>
 cL 1 r30 3 fun l34 =>
 cL 5 r30 4 fun l35 =>
 some ⟨.g [.v (.int .i64 n31), .v (.string s32), .v (.int .i64 n33), .s 1 l34, .s 5 l35], [.p [.v (.string s28), .v (.bool b29)]]⟩))) else (
 callT T 126 [.p [.v (.string s21), .v (.bool b22)], .d (.v (.string ({ data := #[123] } : ByteArray)))] fun o36 =>
 nth o36.back 0 fun i37 =>
 oP i37 fun r38 =>
 tst (Nat.beq r38.length 2) (
 cS r38 0 fun s39 =>
 cB r38 1 fun b40 =>
 oD o36.res fun d41 =>
 dB d41 fun b42 =>
 bif b42 then (
 callT T 128 [.p [.v (.string s39), .v (.bool b40)], .d (.v (.int .i64 5)), .d (.v (.string ({ data := #[125] } : ByteArray))), .d (.v (.int .i64 n3))] fun o43 =>
 nth o43.back 0 fun i44 =>
 oP i44 fun r45 =>
 tst (Nat.beq r45.length 2) (
 cS r45 0 fun s46 =>
 cB r45 1 fun b47 =>
 oG o43.res fun r48 =>
 tst (Nat.beq r48.length 5) (
 cI .i64 r48 0 fun n49 =>
 cS r48 1 fun s50 =>
 cI .i64 r48 2 fun n51 =>
 cL 1 r48 3 fun l52 =>
 cL 5 r48 4 fun l53 =>
 some ⟨.g [.v (.int .i64 n49), .v (.string s50), .v (.int .i64 n51), .s 1 l52, .s 5 l53], [.p [.v (.string s46), .v (.bool b47)]]⟩))) else (
 callT T 129 [.p [.v (.string s39), .v (.bool b40)], .d (.v (.string ({ data := #[44, 93, 125] } : ByteArray)))] fun o54 =>
 nth o54.back 0 fun i55 =>
 oP i55 fun r56 =>
 tst (Nat.beq r56.length 2) (
 cS r56 0 fun s57 =>
 cB r56 1 fun b58 =>
 oD o54.res fun d59 =>
 dS d59 fun s60 =>
 bif (bytesEq s60 ({ data := #[116, 114, 117, 101] } : ByteArray)) then (
 some ⟨.g [.v (.int .i64 3), .v (.string ByteArray.empty), .v (.int .i64 1), .s 1 [], .s 5 []], [.p [.v (.string s57), .v (.bool b58)]]⟩) else (
 bif (bytesEq s60 ({ data := #[102, 97, 108, 115, 101] } : ByteArray)) then (
 some ⟨.g [.v (.int .i64 3), .v (.string ByteArray.empty), .v (.int .i64 0), .s 1 [], .s 5 []], [.p [.v (.string s57), .v (.bool b58)]]⟩) else (
 callT T 130 [.d (.v (.string s60))] fun o61 =>
 oT o61.res fun is62 =>
 tst (Nat.beq is62.length 2) (
 nth is62 0 fun i63 =>
 oD i63 fun d64 =>
 dI .i64 d64 fun n65 =>
 nth is62 1 fun i66 =>
 oD i66 fun d67 =>
 dB d67 fun b68 =>
 bif b58 == true then (
 some ⟨.g [.v (.int .i64 2), .v (.string ByteArray.empty), .v (.int .i64 n65), .s 1 [], .s 5 []], [.p [.v (.string s57), .v (.bool b68)]]⟩) else (
 some ⟨.g [.v (.int .i64 2), .v (.string ByteArray.empty), .v (.int .i64 n65), .s 1 [], .s 5 []], [.p [.v (.string s57), .v (.bool false)]]⟩))))))))))))) := by kernel_rfl
/- loop.example/g00119/impl.ParseValue -/
def a58 : AFun := ⟨[.rd], false, [.c 2 true [kI, .s, kI, .sl 1, .sl 5], .t 3], (
 .seq (.g [oQ 2 (.alloc [.v (.int .i64 0), .v (.string ByteArray.empty), .v (.int .i64 0), .s 1 [], .s 5 []]), oV 3 false]) (
 .seq (.g [oM 6 0, oQ 7 (.build [.v (.string ByteArray.empty), .v (.bool false)] [(0, 1, (.t 6)), (1, 1, (.b true))]), oQ 8 (.box (.t 7)), oM 4 8]) (
 .seq (.g [oM 9 4, oQ 10 (.call (.f 94) [.lent, .rd] false [.g [kI, .s, kI, .sl 1, .sl 5]] [.t 9, .i 6]), oQ 5 (.alloc [.v (.int .i64 0), .v (.string ByteArray.empty), .v (.int .i64 0), .s 1 [], .s 5 []]), oS (.store 5 (.t 5) (.t 10))]) (
 .seq (.seq (.g [oM 11 4, oQ 12 (.more (.nck (.t 11))), oF 13 1 12, oW 14 .b 13, oN 15 14, oM 16 15, oJ 17 16 false (.mv (.t 4)), oJ 18 16 false (.more (.nck (.t 17))), oJ 19 16 false (.fad 0 (.t 18)), oJ 20 16 false (.load false [.s] (.t 19)), oJ 21 16 false (.bin .neq (.t 20) (.c (.v (.string ({ data := #[] } : ByteArray))))), oQ 22 (.pick (.t 16) (.b true) (.t 21)), oM 23 22, oJ 24 23 false (.load true [kI, .s, kI, .sl 1, .sl 5] (.t 5)), oJ 25 23 false (.call (.f 16) [.rd] false [.c .b] [.t 24]), oJ 26 23 false (.un .not (.t 25)), oQ 27 (.pick (.t 23) (.b true) (.t 26)), oM 28 27, oJ 29 28 false (.load true [kI, .s, kI, .sl 1, .sl 5] (.t 5)), oJ 30 28 false (.call (.f 69) [.rd] false [.c .s] [.t 29]), oJ 31 28 false (.mv (.t 0)), oJ 32 28 false (.bin .neq (.t 30) (.t 31)), oQ 33 (.pick (.t 28) (.b true) (.t 32))]) (
 .cond (.t 33) (.seq (.g [oQ 34 (.build [.v (.int .i64 0), .v (.string ByteArray.empty), .v (.int .i64 0), .s 1 [], .s 5 []] []), oS (.store 5 (.t 2) (.t 34)), oV 3 false]) (
 .ret)) (.skip))) (
 .seq (.g [oL 35 [kI, .s, kI, .sl 1, .sl 5] 5, oS (.store 5 (.t 2) (.t 35)), oV 3 true]) (
 .ret))))))⟩
theorem a58q (T : Table) (k : Nat) (s1 : ByteArray): evalF T k a58 [.d (.v (.string s1))] = (
 callT T 94 [.p [.v (.string s1), .v (.bool true)], .d (.v (.int .i64 6))] fun o2 =>
 nth o2.back 0 fun i3 =>
 oP i3 fun r4 =>
 tst (Nat.beq r4.length 2) (
 cS r4 0 fun s5 =>
 cB r4 1 fun b6 =>
 oG o2.res fun r7 =>
 tst (Nat.beq r7.length 5) (
 cI .i64 r7 0 fun n8 =>
 cS r7 1 fun s9 =>
 cI .i64 r7 2 fun n10 =>
 cL 1 r7 3 fun l11 =>
 cL 5 r7 4 fun l12 =>
 bif (!b6) == false then (
 bif (!(bytesEq s5 ({ data := #[] } : ByteArray))) == false then (
 callT T 16 [.g [.v (.int .i64 n8), .v (.string s9), .v (.int .i64 n10), .s 1 l11, .s 5 l12]] fun o13 =>
 oD o13.res fun d14 =>
 dB d14 fun b15 =>
 bif (!b15) == false then (
 callT T 69 [.g [.v (.int .i64 n8), .v (.string s9), .v (.int .i64 n10), .s 1 l11, .s 5 l12]] fun o16 =>
 oD o16.res fun d17 =>
 dS d17 fun s18 =>
 bif (!(bytesEq s18 s1)) then (
 some ⟨.t [.g [.v (.int .i64 0), .v (.string ByteArray.empty), .v (.int .i64 0), .s 1 [], .s 5 []], .d (.v (.bool false))], []⟩) else (
 some ⟨.t [.g [.v (.int .i64 n8), .v (.string s9), .v (.int .i64 n10), .s 1 l11, .s 5 l12], .d (.v (.bool true))], []⟩)) else (
 some ⟨.t [.g [.v (.int .i64 0), .v (.string ByteArray.empty), .v (.int .i64 0), .s 1 [], .s 5 []], .d (.v (.bool false))], []⟩)) else (
 some ⟨.t [.g [.v (.int .i64 0), .v (.string ByteArray.empty), .v (.int .i64 0), .s 1 [], .s 5 []], .d (.v (.bool false))], []⟩)) else (
 some ⟨.t [.g [.v (.int .i64 0), .v (.string ByteArray.empty), .v (.int .i64 0), .s 1 [], .s 5 []], .d (.v (.bool false))], []⟩)))) := by kernel_rfl
/- loop.example/g00119/impl.parseOp -/
def a24 : AFun := ⟨[.rd], false, [.c 2 true [kI, .sl 1, kI, .s, kI, .sl 1, .sl 5], .t 3], (
 .seq (.g [oQ 2 (.alloc [.v (.int .i64 0), .s 1 [], .v (.int .i64 0), .v (.string ByteArray.empty), .v (.int .i64 0), .s 1 [], .s 5 []]), oV 3 false]) (
 .seq (.g [oM 14 0, oQ 15 (.call (.f 56) [.rd, .rd] false [.c .s, .c .s, .c .b] [.t 14, .c (.v (.string ({ data := #[32] } : ByteArray)))]), oM 13 15, oX 16 13 0, oX 17 13 1, oX 18 13 2, oM 4 16, oM 5 17, oM 6 18]) (
 .seq (.g [oM 20 5, oQ 21 (.call (.f 56) [.rd, .rd] false [.c .s, .c .s, .c .b] [.t 20, .c (.v (.string ({ data := #[32] } : ByteArray)))]), oM 19 21, oX 22 19 0, oX 23 19 1, oX 24 19 2, oM 7 22, oM 8 23, oM 9 24]) (
 .seq (.g [oQ 25 (.lit 1 ([[.v (.string ByteArray.empty)], [.v (.string ByteArray.empty)], [.v (.string ByteArray.empty)]] : Rows) [(0, (.c (.v (.string ({ data := #[115, 101, 116] } : ByteArray))))), (1, (.c (.v (.string ({ data := #[100, 114, 111, 112] } : ByteArray))))), (2, (.c (.v (.string ({ data := #[110, 101, 101, 100] } : ByteArray)))))]), oM 26 4, oC 27 57 [.c kI] [25, 26], oBi 28 .add 27 1, oM 29 7, oQ 30 (.call (.f 22) [.rd, .rd] false [.c (.sl 1)] [.t 29, .c (.v (.string ({ data := #[47] } : ByteArray)))]), oQ 31 (.build [.v (.int .i64 0), .s 1 [], .v (.int .i64 0), .v (.string ByteArray.empty), .v (.int .i64 0), .s 1 [], .s 5 []] [(0, 1, (.t 28)), (1, 1, (.t 30))]), oQ 10 (.alloc [.v (.int .i64 0), .s 1 [], .v (.int .i64 0), .v (.string ByteArray.empty), .v (.int .i64 0), .s 1 [], .s 5 []]), oS (.store 7 (.t 10) (.t 31))]) (
 .seq (.seq (.g [oM 32 4, oQ 33 (.bin .eql (.t 32) (.c (.v (.string ({ data := #[100, 114, 111, 112] } : ByteArray)))))]) (
 .cond (.t 33) (.seq (.g [oL 34 [kI, .sl 1, kI, .s, kI, .sl 1, .sl 5] 10, oM 35 9, oN 36 35, oS (.store 7 (.t 2) (.t 34)), oM 3 36]) (
 .ret)) (.skip))) (
 .seq (.g [oM 38 8, oC 39 58 [.g [kI, .s, kI, .sl 1, .sl 5], .c .b] [38], oM 37 39, oX 40 37 0, oX 41 37 1, oQ 11 (.alloc [.v (.int .i64 0), .v (.string ByteArray.empty), .v (.int .i64 0), .s 1 [], .s 5 []]), oS (.store 5 (.t 11) (.t 40)), oM 12 41]) (
 .seq (.g [oL 42 [kI, .s, kI, .sl 1, .sl 5] 11, oF 43 2 10, oS (.store 5 (.t 43) (.t 42))]) (
 .seq (.g [oL 44 [kI, .sl 1, kI, .s, kI, .sl 1, .sl 5] 10, oM 45 12, oS (.store 7 (.t 2) (.t 44)), oM 3 45]) (
 .ret)))))))))⟩
theorem a24q (T : Table) (k : Nat) (s1 : ByteArray): evalF T k a24 [.d (.v (.string s1))] = (
 callT T 56 [.d (.v (.string s1)), .d (.v (.string ({ data := #[32] } : ByteArray)))] fun o2 =>
 oT o2.res fun is3 =>
 tst (Nat.beq is3.length 3) (
 nth is3 0 fun i4 =>
 oD i4 fun d5 =>
 dS d5 fun s6 =>
 nth is3 1 fun i7 =>
 oD i7 fun d8 =>
 dS d8 fun s9 =>
 nth is3 2 fun i10 =>
 oD i10 fun d11 =>
 dB d11 fun b12 =>
 callT T 56 [.d (.v (.string s9)), .d (.v (.string ({ data := #[32] } : ByteArray)))] fun o13 =>
 oT o13.res fun is14 =>
 tst (Nat.beq is14.length 3) (
 nth is14 0 fun i15 =>
 oD i15 fun d16 =>
 dS d16 fun s17 =>
 nth is14 1 fun i18 =>
 oD i18 fun d19 =>
 dS d19 fun s20 =>
 nth is14 2 fun i21 =>
 oD i21 fun d22 =>
 dB d22 fun b23 =>
 callT T 57 [.d (.s 1 ([[.v (.string ({ data := #[115, 101, 116] } : ByteArray))], [.v (.string ({ data := #[100, 114, 111, 112] } : ByteArray))], [.v (.string ({ data := #[110, 101, 101, 100] } : ByteArray))]] : Rows)), .d (.v (.string s6))] fun o24 =>
 oD o24.res fun d25 =>
 dI .i64 d25 fun n26 =>
 callT T 22 [.d (.v (.string s17)), .d (.v (.string ({ data := #[47] } : ByteArray)))] fun o27 =>
 oD o27.res fun d28 =>
 dL 1 d28 fun l29 =>
 bif (bytesEq s6 ({ data := #[100, 114, 111, 112] } : ByteArray)) then (
 some ⟨.t [.g [.v (.int .i64 (IntKind.wrap .i64 (n26 + 1))), .s 1 l29, .v (.int .i64 0), .v (.string ByteArray.empty), .v (.int .i64 0), .s 1 [], .s 5 []], .d (.v (.bool (!b23)))], []⟩) else (
 callT T 58 [.d (.v (.string s20))] fun o30 =>
 oT o30.res fun is31 =>
 tst (Nat.beq is31.length 2) (
 nth is31 0 fun i32 =>
 oG i32 fun r33 =>
 tst (Nat.beq r33.length 5) (
 cI .i64 r33 0 fun n34 =>
 cS r33 1 fun s35 =>
 cI .i64 r33 2 fun n36 =>
 cL 1 r33 3 fun l37 =>
 cL 5 r33 4 fun l38 =>
 nth is31 1 fun i39 =>
 oD i39 fun d40 =>
 dB d40 fun b41 =>
 some ⟨.t [.g [.v (.int .i64 (IntKind.wrap .i64 (n26 + 1))), .s 1 l29, .v (.int .i64 n34), .v (.string s35), .v (.int .i64 n36), .s 1 l37, .s 5 l38], .d (.v (.bool b41))], []⟩)))))) := by kernel_rfl
/- loop.example/g00119/impl.ParsePatch -/
def b6x0 : ACode := (
 .seq (.g [oB 18 .lss 17 16]) (
 .seq (.cond (.t 18) (.skip) (.exit 0)) (
 .seq (.block 1 (.seq (.g [oI 19 1 15 17, oW 20 .s 19, oM 6 20]) (
 .seq (.g [oM 22 6, oC 23 24 [.g [kI, .sl 1, kI, .s, kI, .sl 1, .sl 5], .c .b] [22], oM 21 23, oX 24 21 0, oX 25 21 1, oQ 7 (.alloc [.v (.int .i64 0), .s 1 [], .v (.int .i64 0), .v (.string ByteArray.empty), .v (.int .i64 0), .s 1 [], .s 5 []]), oS (.store 7 (.t 7) (.t 24)), oM 8 25]) (
 .seq (.seq (.g [oM 26 8, oN 27 26]) (
 .cond (.t 27) (.seq (.g [oQ 2 (.mv (.c (.o 7 []))), oV 3 false]) (
 .ret)) (.skip))) (
 .g [oM 28 4, oL 29 [kI, .sl 1, kI, .s, kI, .sl 1, .sl 5] 7, oQ 30 (.lit 7 ([[.v (.int .i64 0), .s 1 [], .v (.int .i64 0), .v (.string ByteArray.empty), .v (.int .i64 0), .s 1 [], .s 5 []]] : Rows) [(0, (.t 29))]), oQ 31 (.app 7 112 (.t 28) (.t 30)), oM 4 31]))))) (
 .g [oBi 32 .add 17 1, oM 17 32]))))
def e6x0 : Exits := [(.ret, [(2, .o 7), (3, .c .b)]), ((.exit 0), [(0, .c .s), (4, .o 7)])]
noncomputable def l6x0 (T : Table) (k : Nat) := loopN (evalC ⟨T, [], []⟩ k b6x0 (Ex × List AV)) [0, 4, 15, 16, 17] e6x0
def a6 : AFun := ⟨[.rd], false, [.t 2, .t 3], (
 .seq (.g [oQ 2 (.mv (.c (.o 7 []))), oV 3 false]) (
 .seq (.g [oQ 9 (.lit 7 ([] : Rows) []), oM 4 9]) (
 .seq (.seq (.g [oM 10 0, oQ 11 (.bin .eql (.t 10) (.c (.v (.string ({ data := #[] } : ByteArray)))))]) (
 .cond (.t 11) (.seq (.g [oM 12 4, oM 2 12, oV 3 true]) (
 .ret)) (.skip))) (
 .seq (.seq (.g [oM 13 0, oQ 14 (.call (.f 23) [.rd, .rd] false [.c .s] [.t 13, .c (.v (.string ({ data := #[10] } : ByteArray)))]), oQ 15 (.call (.f 22) [.rd, .rd] false [.c (.sl 1)] [.t 14, .c (.v (.string ({ data := #[10] } : ByteArray)))]), oZ 16 15, oK 17 0]) (
 .block 0 (.loop [0, 4, 15, 16, 17] e6x0 b6x0))) (
 .seq (.seq (.g [oM 33 4, oC 34 12 [.c .s] [33], oM 35 0, oB 36 .neq 34 35]) (
 .cond (.t 36) (.seq (.g [oQ 2 (.mv (.c (.o 7 []))), oV 3 false]) (
 .ret)) (.skip))) (
 .seq (.g [oM 37 4, oM 2 37, oV 3 true]) (
 .ret)))))))⟩
theorem l6x0s (T : Table) (k n : Nat) (s8 : ByteArray) (l9 l10 : Rows) (n11 n12 : Int): l6x0 T k (n + 1) [.v (.string s8), .o 7 l9, .o 1 l10, .v (.int .i64 n11), .v (.int .i64 n12)] = (
 bif (decide (n12 < n11)) then (
 tst (decide (0 ≤ n12) && decide (Int.toNat n12 < l10.length)) (
 look l10 (Int.toNat n12) fun r13 =>
 cS r13 0 fun s14 =>
 callT T 24 [.d (.v (.string s14))] fun o15 =>
 oT o15.res fun is16 =>
 tst (Nat.beq is16.length 2) (
 nth is16 0 fun i17 =>
 oG i17 fun r18 =>
 tst (Nat.beq r18.length 7) (
 cI .i64 r18 0 fun n19 =>
 cL 1 r18 1 fun l20 =>
 cI .i64 r18 2 fun n21 =>
 cS r18 3 fun s22 =>
 cI .i64 r18 4 fun n23 =>
 cL 1 r18 5 fun l24 =>
 cL 5 r18 6 fun l25 =>
 nth is16 1 fun i26 =>
 oD i26 fun d27 =>
 dB d27 fun b28 =>
 bif (!b28) then (
 some (.ret, [.o 7 [], .v (.bool false)])) else (
 tst (decide ((l9.length + ([[.v (.int .i64 n19), hole, .v (.int .i64 n21), .v (.string s22), .v (.int .i64 n23), hole, hole]] : Rows).length) * 112 ≤ maxBytes)) (
 l6x0 T k n [.v (.string s8), .o 7 (setD (setD (setD (l9 ++ ([[.v (.int .i64 n19), hole, .v (.int .i64 n21), .v (.string s22), .v (.int .i64 n23), hole, hole]] : Rows)) (0 + l9.length) 6 (.s 5 l25)) (0 + l9.length) 5 (.s 1 l24)) (0 + l9.length) 1 (.s 1 l20)), .o 1 l10, .v (.int .i64 n11), .v (.int .i64 (IntKind.wrap .i64 (n12 + 1)))])))))) else (
 some ((.exit 0), [.v (.string s8), .o 7 l9]))) := by kernel_rfl
theorem a6q (T : Table) (k : Nat) (s1 : ByteArray): evalF T k a6 [.d (.v (.string s1))] = (
 bif (bytesEq s1 ({ data := #[] } : ByteArray)) then (
 some ⟨.t [.d (.s 7 []), .d (.v (.bool true))], []⟩) else (
 callT T 23 [.d (.v (.string s1)), .d (.v (.string ({ data := #[10] } : ByteArray)))] fun o2 =>
 oD o2.res fun d3 =>
 dS d3 fun s4 =>
 callT T 22 [.d (.v (.string s4)), .d (.v (.string ({ data := #[10] } : ByteArray)))] fun o5 =>
 oD o5.res fun d6 =>
 dL 1 d6 fun l7 =>
 aft (l6x0 T k k [.v (.string s1), .o 7 [], .o 1 l7, .v (.int .i64 (l7.length : Int)), .v (.int .i64 0)]) fun e29 ys30 =>
 bif e29.same .ret then (
 aV ys30 0 fun x31 =>
 aO 7 x31 fun l32 =>
 aV ys30 1 fun x33 =>
 aB x33 fun b34 =>
 some ⟨.t [.d (.s 7 l32), .d (.v (.bool b34))], []⟩) else (
 bif e29.same (.exit 0) then (
 aV ys30 0 fun x35 =>
 aS x35 fun s36 =>
 aV ys30 1 fun x37 =>
 aO 7 x37 fun l38 =>
 callT T 12 [.d (.s 7 l38)] fun o39 =>
 oD o39.res fun d40 =>
 dS d40 fun s41 =>
 bif (!(bytesEq s41 s36)) then (
 some ⟨.t [.d (.s 7 []), .d (.v (.bool false))], []⟩) else (
 some ⟨.t [.d (.s 7 l38), .d (.v (.bool true))], []⟩)) else (
 none)))) := by kernel_rfl
/- loop.example/g00119/laws.eqStringS -/
def b59x0 : ACode := (
 .seq (.seq (.g [oM 11 5, oM 12 0, oZ 13 12, oB 14 .lss 11 13]) (
 .cond (.t 14) (.skip) (.exit 0))) (
 .seq (.block 1 (.seq (.dreg [] [(0, oM 17 0), (0, oM 18 5), (0, oI 19 1 17 18), (0, oW 20 .s 19), (0, oM 21 1), (0, oM 22 5), (0, oI 23 1 21 22), (0, oW 24 .s 23)] [oB 25 .neq 20 24]) (
 .cond (.t 25) (.seq (.g [oV 4 false]) (
 .ret)) (.skip)))) (
 .g [oM 15 5, oBi 16 .add 15 1, oM 5 16])))
def e59x0 : Exits := [(.ret, [(4, .c .b)]), ((.exit 0), [])]
noncomputable def l59x0 (T : Table) (k : Nat) := loopN (evalC ⟨T, [], []⟩ k b59x0 (Ex × List AV)) [0, 1, 5] e59x0
def a59 : AFun := ⟨[.rd, .rd], false, [.t 4], (
 .seq (.g [oV 4 false]) (
 .seq (.seq (.g [oM 6 0, oZ 7 6, oM 8 1, oZ 9 8, oB 10 .neq 7 9]) (
 .cond (.t 10) (.seq (.g [oV 4 false]) (
 .ret)) (.skip))) (
 .seq (.seq (.g [oK 5 0]) (
 .block 0 (.loop [0, 1, 5] e59x0 b59x0))) (
 .seq (.g [oV 4 true]) (
 .ret)))))⟩
theorem l59x0s (T : Table) (k n : Nat) (l3 l4 : Rows) (n5 : Int): l59x0 T k (n + 1) [.fz 1 l3, .fz 1 l4, .v (.int .i64 n5)] = (
 bif (decide (n5 < (l3.length : Int))) then (
 tst (decide (0 ≤ n5)) (
 look l3 (Int.toNat n5) fun r6 =>
 cS r6 0 fun s7 =>
 tst (decide (0 ≤ n5)) (
 look l4 (Int.toNat n5) fun r8 =>
 cS r8 0 fun s9 =>
 bif (!(bytesEq s7 s9)) then (
 some (.ret, [.v (.bool false)])) else (
 l59x0 T k n [.fz 1 l3, .fz 1 l4, .v (.int .i64 (IntKind.wrap .i64 (n5 + 1)))])))) else (
 some ((.exit 0), []))) := by kernel_rfl
theorem a59q (T : Table) (k : Nat) (l1 l2 : Rows): evalF T k a59 [.d (.s 1 l1), .d (.s 1 l2)] = (
 bif ((l1.length : Int) != (l2.length : Int)) then (
 some ⟨.d (.v (.bool false)), []⟩) else (
 aft (l59x0 T k k [.fz 1 l1, .fz 1 l2, .v (.int .i64 0)]) fun e10 ys11 =>
 bif e10.same .ret then (
 aV ys11 0 fun x12 =>
 aB x12 fun b13 =>
 some ⟨.d (.v (.bool b13)), []⟩) else (
 bif e10.same (.exit 0) then (
 some ⟨.d (.v (.bool true)), []⟩) else (
 none)))) := by kernel_rfl
/- loop.example/g00119/laws.eqValueS -/
def b95x0 : ACode := (
 .seq (.seq (.g [oM 11 5, oM 12 0, oZ 13 12, oB 14 .lss 11 13]) (
 .cond (.t 14) (.skip) (.exit 0))) (
 .seq (.block 1 (.seq (.dreg [] [(0, oM 17 0), (0, oM 18 5), (0, oI 19 5 17 18), (0, oL 20 [kI, .s, kI, .sl 1, .sl 5] 19), (0, oM 21 1), (0, oM 22 5), (0, oI 23 5 21 22), (0, oL 24 [kI, .s, kI, .sl 1, .sl 5] 23)] [oC 25 60 [.c .b] [20, 24], oN 26 25]) (
 .cond (.t 26) (.seq (.g [oV 4 false]) (
 .ret)) (.skip)))) (
 .g [oM 15 5, oBi 16 .add 15 1, oM 5 16])))
def e95x0 : Exits := [(.ret, [(4, .c .b)]), ((.exit 0), [])]
noncomputable def l95x0 (T : Table) (k : Nat) := loopN (evalC ⟨T, [], []⟩ k b95x0 (Ex × List AV)) [0, 1, 5] e95x0
def a95 : AFun := ⟨[.rd, .rd], false, [.t 4], (
 .seq (.g [oV 4 false]) (
 .seq (.seq (.g [oM 6 0, oZ 7 6, oM 8 1, oZ 9 8, oB 10 .neq 7 9]) (
 .cond (.t 10) (.seq (.g [oV 4 false]) (
 .ret)) (.skip))) (
 .seq (.seq (.g [oK 5 0]) (
 .block 0 (.loop [0, 1, 5] e95x0 b95x0))) (
 .seq (.g [oV 4 true]) (
 .ret)))))⟩
theorem l95x0s (T : Table) (k n : Nat) (l3 l4 : Rows) (n5 : Int): l95x0 T k (n + 1) [.fz 5 l3, .fz 5 l4, .v (.int .i64 n5)] = (
 bif (decide (n5 < (l3.length : Int))) then (
 tst (decide (0 ≤ n5)) (
 look l3 (Int.toNat n5) fun r6 =>
 cI .i64 r6 0 fun n7 =>
 cS r6 1 fun s8 =>
 cI .i64 r6 2 fun n9 =>
 cL 1 r6 3 fun l10 =>
 cL 5 r6 4 fun l11 =>
 tst (decide (0 ≤ n5)) (
 look l4 (Int.toNat n5) fun r12 =>
 cI .i64 r12 0 fun n13 =>
 cS r12 1 fun s14 =>
 cI .i64 r12 2 fun n15 =>
 cL 1 r12 3 fun l16 =>
 cL 5 r12 4 fun l17 =>
 callT T 60 [.g [.v (.int .i64 n7), .v (.string s8), .v (.int .i64 n9), .s 1 l10, .s 5 l11], .g [.v (.int .i64 n13), .v (.string s14), .v (.int .i64 n15), .s 1 l16, .s 5 l17]] fun o18 =>
 oD o18.res fun d19 =>
 dB d19 fun b20 =>
 bif (!b20) then (
 some (.ret, [.v (.bool false)])) else (
 l95x0 T k n [.fz 5 l3, .fz 5 l4, .v (.int .i64 (IntKind.wrap .i64 (n5 + 1)))])))) else (
 some ((.exit 0), []))) := by kernel_rfl
theorem a95q (T : Table) (k : Nat) (l1 l2 : Rows): evalF T k a95 [.d (.s 5 l1), .d (.s 5 l2)] = (
 bif ((l1.length : Int) != (l2.length : Int)) then (
 some ⟨.d (.v (.bool false)), []⟩) else (
 aft (l95x0 T k k [.fz 5 l1, .fz 5 l2, .v (.int .i64 0)]) fun e21 ys22 =>
 bif e21.same .ret then (
 aV ys22 0 fun x23 =>
 aB x23 fun b24 =>
 some ⟨.d (.v (.bool b24)), []⟩) else (
 bif e21.same (.exit 0) then (
 some ⟨.d (.v (.bool true)), []⟩) else (
 none)))) := by kernel_rfl
/- loop.example/g00119/laws.eqValue -/
def a60 : AFun := ⟨[.rd, .rd], false, [.t 4], (
 .seq (.g [oQ 2 (.box (.t 0)), oQ 3 (.box (.t 1)), oV 4 false]) (
 .seq (.seq (.g [oF 5 0 2, oW 6 kI 5, oF 7 0 3, oW 8 kI 7, oB 9 .neq 6 8]) (
 .cond (.t 9) (.seq (.g [oV 4 false]) (
 .ret)) (.skip))) (
 .seq (.seq (.g [oF 10 1 2, oW 11 .s 10, oF 12 1 3, oW 13 .s 12, oB 14 .neq 11 13]) (
 .cond (.t 14) (.seq (.g [oV 4 false]) (
 .ret)) (.skip))) (
 .seq (.seq (.g [oF 15 2 2, oW 16 kI 15, oF 17 2 3, oW 18 kI 17, oB 19 .neq 16 18]) (
 .cond (.t 19) (.seq (.g [oV 4 false]) (
 .ret)) (.skip))) (
 .seq (.seq (.g [oF 20 3 2, oW 21 (.sl 1) 20, oF 22 3 3, oW 23 (.sl 1) 22, oC 24 59 [.c .b] [21, 23], oN 25 24]) (
 .cond (.t 25) (.seq (.g [oV 4 false]) (
 .ret)) (.skip))) (
 .seq (.seq (.g [oF 26 4 2, oW 27 (.sl 5) 26, oF 28 4 3, oW 29 (.sl 5) 28, oC 30 95 [.c .b] [27, 29], oN 31 30]) (
 .cond (.t 31) (.seq (.g [oV 4 false]) (
 .ret)) (.skip))) (
 .seq (.g [oV 4 true]) (
 .ret))))))))⟩
theorem a60q (T : Table) (k : Nat) (n1 n3 n6 n8 : Int) (s2 s7 : ByteArray) (l4 l5 l9 l10 : Rows): evalF T k a60 [.g [.v (.int .i64 n1), .v (.string s2), .v (.int .i64 n3), .s 1 l4, .s 5 l5], .g [.v (.int .i64 n6), .v (.string s7), .v (.int .i64 n8), .s 1 l9, .s 5 l10]] = (
 bif (n1 != n6) then (
 some ⟨.d (.v (.bool false)), []⟩) else (
 bif (!(bytesEq s2 s7)) then (
 some ⟨.d (.v (.bool false)), []⟩) else (
 bif (n3 != n8) then (
 some ⟨.d (.v (.bool false)), []⟩) else (
 callT T 59 [.d (.s 1 l4), .d (.s 1 l9)] fun o11 =>
 oD o11.res fun d12 =>
 dB d12 fun b13 =>
 bif (!b13) then (
 some ⟨.d (.v (.bool false)), []⟩) else (
 callT T 95 [.d (.s 5 l5), .d (.s 5 l10)] fun o14 =>
 oD o14.res fun d15 =>
 dB d15 fun b16 =>
 bif (!b16) then (
 some ⟨.d (.v (.bool false)), []⟩) else (
 some ⟨.d (.v (.bool true)), []⟩)))))) := by kernel_rfl
/- loop.example/g00119/laws.eqOp -/
def a25 : AFun := ⟨[.rd, .rd], false, [.t 4], (
 .seq (.g [oQ 2 (.box (.t 0)), oQ 3 (.box (.t 1)), oV 4 false]) (
 .seq (.seq (.g [oF 5 0 2, oW 6 kI 5, oF 7 0 3, oW 8 kI 7, oB 9 .neq 6 8]) (
 .cond (.t 9) (.seq (.g [oV 4 false]) (
 .ret)) (.skip))) (
 .seq (.seq (.g [oF 10 1 2, oW 11 (.sl 1) 10, oF 12 1 3, oW 13 (.sl 1) 12, oC 14 59 [.c .b] [11, 13], oN 15 14]) (
 .cond (.t 15) (.seq (.g [oV 4 false]) (
 .ret)) (.skip))) (
 .seq (.seq (.g [oF 16 2 2, oL 17 [kI, .s, kI, .sl 1, .sl 5] 16, oF 18 2 3, oL 19 [kI, .s, kI, .sl 1, .sl 5] 18, oC 20 60 [.c .b] [17, 19], oN 21 20]) (
 .cond (.t 21) (.seq (.g [oV 4 false]) (
 .ret)) (.skip))) (
 .seq (.g [oV 4 true]) (
 .ret))))))⟩
theorem a25q (T : Table) (k : Nat) (n1 n3 n5 n8 n10 n12 : Int) (l2 l6 l7 l9 l13 l14 : Rows) (s4 s11 : ByteArray): evalF T k a25 [.g [.v (.int .i64 n1), .s 1 l2, .v (.int .i64 n3), .v (.string s4), .v (.int .i64 n5), .s 1 l6, .s 5 l7], .g [.v (.int .i64 n8), .s 1 l9, .v (.int .i64 n10), .v (.string s11), .v (.int .i64 n12), .s 1 l13, .s 5 l14]] = (
 bif (n1 != n8) then (
 some ⟨.d (.v (.bool false)), []⟩) else (
 callT T 59 [.d (.s 1 l2), .d (.s 1 l9)] fun o15 =>
 oD o15.res fun d16 =>
 dB d16 fun b17 =>
 bif (!b17) then (
 some ⟨.d (.v (.bool false)), []⟩) else (
 callT T 60 [.g [.v (.int .i64 n3), .v (.string s4), .v (.int .i64 n5), .s 1 l6, .s 5 l7], .g [.v (.int .i64 n10), .v (.string s11), .v (.int .i64 n12), .s 1 l13, .s 5 l14]] fun o18 =>
 oD o18.res fun d19 =>
 dB d19 fun b20 =>
 bif (!b20) then (
 some ⟨.d (.v (.bool false)), []⟩) else (
 some ⟨.d (.v (.bool true)), []⟩)))) := by kernel_rfl
/- loop.example/g00119/laws.eqOpS -/
def b7x0 : ACode := (
 .seq (.seq (.g [oM 11 5, oM 12 0, oZ 13 12, oB 14 .lss 11 13]) (
 .cond (.t 14) (.skip) (.exit 0))) (
 .seq (.block 1 (.seq (.dreg [] [(0, oM 17 0), (0, oM 18 5), (0, oI 19 7 17 18), (0, oL 20 [kI, .sl 1, kI, .s, kI, .sl 1, .sl 5] 19), (0, oM 21 1), (0, oM 22 5), (0, oI 23 7 21 22), (0, oL 24 [kI, .sl 1, kI, .s, kI, .sl 1, .sl 5] 23)] [oC 25 25 [.c .b] [20, 24], oN 26 25]) (
 .cond (.t 26) (.seq (.g [oV 4 false]) (
 .ret)) (.skip)))) (
 .g [oM 15 5, oBi 16 .add 15 1, oM 5 16])))
def e7x0 : Exits := [(.ret, [(4, .c .b)]), ((.exit 0), [])]
noncomputable def l7x0 (T : Table) (k : Nat) := loopN (evalC ⟨T, [], []⟩ k b7x0 (Ex × List AV)) [0, 1, 5] e7x0
def a7 : AFun := ⟨[.rd, .rd], false, [.t 4], (
 .seq (.g [oV 4 false]) (
 .seq (.seq (.g [oM 6 0, oZ 7 6, oM 8 1, oZ 9 8, oB 10 .neq 7 9]) (
 .cond (.t 10) (.seq (.g [oV 4 false]) (
 .ret)) (.skip))) (
 .seq (.seq (.g [oK 5 0]) (
 .block 0 (.loop [0, 1, 5] e7x0 b7x0))) (
 .seq (.g [oV 4 true]) (
 .ret)))))⟩
theorem l7x0s (T : Table) (k n : Nat) (l3 l4 : Rows) (n5 : Int): l7x0 T k (n + 1) [.fz 7 l3, .fz 7 l4, .v (.int .i64 n5)] = (
 bif (decide (n5 < (l3.length : Int))) then (
 tst (decide (0 ≤ n5)) (
 look l3 (Int.toNat n5) fun r6 =>
 cI .i64 r6 0 fun n7 =>
 cL 1 r6 1 fun l8 =>
 cI .i64 r6 2 fun n9 =>
 cS r6 3 fun s10 =>
 cI .i64 r6 4 fun n11 =>
 cL 1 r6 5 fun l12 =>
 cL 5 r6 6 fun l13 =>
 tst (decide (0 ≤ n5)) (
 look l4 (Int.toNat n5) fun r14 =>
 cI .i64 r14 0 fun n15 =>
 cL 1 r14 1 fun l16 =>
 cI .i64 r14 2 fun n17 =>
 cS r14 3 fun s18 =>
 cI .i64 r14 4 fun n19 =>
 cL 1 r14 5 fun l20 =>
 cL 5 r14 6 fun l21 =>
 callT T 25 [.g [.v (.int .i64 n7), .s 1 l8, .v (.int .i64 n9), .v (.string s10), .v (.int .i64 n11), .s 1 l12, .s 5 l13], .g [.v (.int .i64 n15), .s 1 l16, .v (.int .i64 n17), .v (.string s18), .v (.int .i64 n19), .s 1 l20, .s 5 l21]] fun o22 =>
 oD o22.res fun d23 =>
 dB d23 fun b24 =>
 bif (!b24) then (
 some (.ret, [.v (.bool false)])) else (
 l7x0 T k n [.fz 7 l3, .fz 7 l4, .v (.int .i64 (IntKind.wrap .i64 (n5 + 1)))])))) else (
 some ((.exit 0), []))) := by kernel_rfl
theorem a7q (T : Table) (k : Nat) (l1 l2 : Rows): evalF T k a7 [.d (.s 7 l1), .d (.s 7 l2)] = (
 bif ((l1.length : Int) != (l2.length : Int)) then (
 some ⟨.d (.v (.bool false)), []⟩) else (
 aft (l7x0 T k k [.fz 7 l1, .fz 7 l2, .v (.int .i64 0)]) fun e25 ys26 =>
 bif e25.same .ret then (
 aV ys26 0 fun x27 =>
 aB x27 fun b28 =>
 some ⟨.d (.v (.bool b28)), []⟩) else (
 bif e25.same (.exit 0) then (
 some ⟨.d (.v (.bool true)), []⟩) else (
 none)))) := by kernel_rfl
/- loop.example/g00119/laws.markText -/
def b27x0 : ACode := (
 .seq (.seq (.g [oM 6 0, oBi 7 .gtr 6 0]) (
 .cond (.t 7) (.skip) (.exit 0))) (
 .block 1 (.seq (.g [oM 8 0, oBi 9 .rem 8 10, oQ 10 (.bin .add (.i 48) (.t 9)), oQ 11 (.conv (.int .u8) (.t 10)), oQ 12 (.lit 1 ([[.v (.int .u8 0)]] : Rows) [(0, (.t 11))]), oQ 13 (.conv .bytesStr (.t 12)), oM 14 3, oB 15 .add 13 14, oM 3 15]) (
 .g [oM 16 0, oBi 17 .quo 16 10, oM 0 17]))))
def e27x0 : Exits := [((.exit 0), [(3, .c .s)])]
noncomputable def l27x0 (T : Table) (k : Nat) := loopN (evalC ⟨T, [], []⟩ k b27x0 (Ex × List AV)) [0, 3] e27x0
def a27 : AFun := ⟨[.rd], false, [.t 2], (
 .seq (.g [oQ 2 (.mv (.c (.v (.string ({ data := #[] } : ByteArray)))))]) (
 .seq (.seq (.g [oM 4 0, oBi 5 .leq 4 0]) (
 .cond (.t 5) (.seq (.g [oQ 2 (.mv (.c (.v (.string ({ data := #[109, 48] } : ByteArray)))))]) (
 .ret)) (.skip))) (
 .seq (.g [oQ 3 (.mv (.c (.v (.string ({ data := #[] } : ByteArray)))))]) (
 .seq (.block 0 (.loop [0, 3] e27x0 b27x0)) (
 .seq (.g [oM 18 3, oQ 19 (.bin .add (.c (.v (.string ({ data := #[109] } : ByteArray)))) (.t 18)), oM 2 19]) (
 .ret))))))⟩
theorem l27x0s (T : Table) (k n : Nat) (n2 : Int) (s3 : ByteArray): l27x0 T k (n + 1) [.v (.int .i64 n2), .v (.string s3)] = (
 bif (decide (n2 > 0)) then (
 tst (decide (10 ≠ 0)) (
 tst (allBytes ([[.v (.int .u8 (IntKind.wrap .u8 (IntKind.wrap .i64 (48 + (Int.tmod n2 10)))))]] : Rows)) (
 tst (decide ((bytesOfRows ([[.v (.int .u8 (IntKind.wrap .u8 (IntKind.wrap .i64 (48 + (Int.tmod n2 10)))))]] : Rows)).size + s3.size ≤ maxLen)) (
 tst (decide (10 ≠ 0)) (
 l27x0 T k n [.v (.int .i64 (IntKind.wrap .i64 (Int.tdiv n2 10))), .v (.string ((bytesOfRows ([[.v (.int .u8 (IntKind.wrap .u8 (IntKind.wrap .i64 (48 + (Int.tmod n2 10)))))]] : Rows)) ++ s3))]))))) else (
 some ((.exit 0), [.v (.string s3)]))) := by kernel_rfl
theorem a27q (T : Table) (k : Nat) (n1 : Int): evalF T k a27 [.d (.v (.int .i64 n1))] = (
 bif (decide (n1 ≤ 0)) then (
 some ⟨.d (.v (.string ({ data := #[109, 48] } : ByteArray))), []⟩) else (
 aft (l27x0 T k k [.v (.int .i64 n1), .v (.string ({ data := #[] } : ByteArray))]) fun e4 ys5 =>
 bif e4.same (.exit 0) then (
 aV ys5 0 fun x6 =>
 aS x6 fun s7 =>
 tst (decide (({ data := #[109] } : ByteArray).size + s7.size ≤ maxLen)) (
 some ⟨.d (.v (.string (({ data := #[109] } : ByteArray) ++ s7))), []⟩)) else (
 none))) := by kernel_rfl
/- loop.example/g00119/laws.markStringS -/
def b26x0 : ACode := (
 .seq (.seq (.g [oM 6 5, oM 7 0, oZ 8 7, oB 9 .lss 6 8]) (
 .cond (.t 9) (.skip) (.exit 0))) (
 .seq (.block 1 (.seq (.g [oM 12 0, oM 13 5, oM 14 1, oC 15 27 [.c .s] [14], oI 16 1 12 13, oS (.store 1 (.t 16) (.t 15))]) (
 .g [oM 17 1, oBi 18 .add 17 1, oM 1 18]))) (
 .g [oM 10 5, oBi 11 .add 10 1, oM 5 11])))
def e26x0 : Exits := [((.exit 0), [(0, .o 1), (1, .c kI)])]
noncomputable def l26x0 (T : Table) (k : Nat) := loopN (evalC ⟨T, [0], []⟩ k b26x0 (Ex × List AV)) [0, 1, 5] e26x0
def a26 : AFun := ⟨[.lent, .rd], false, [.t 4], (
 .seq (.g [oK 4 0]) (
 .seq (.seq (.g [oK 5 0]) (
 .block 0 (.loop [0, 1, 5] e26x0 b26x0))) (
 .seq (.g [oM 19 1, oM 4 19]) (
 .ret))))⟩
theorem l26x0s (T : Table) (k n : Nat) (l3 : Rows) (n4 n5 : Int): l26x0 T k (n + 1) [.o 1 l3, .v (.int .i64 n4), .v (.int .i64 n5)] = (
 bif (decide (n5 < (l3.length : Int))) then (
 callT T 27 [.d (.v (.int .i64 n4))] fun o6 =>
 oD o6.res fun d7 =>
 dS d7 fun s8 =>
 tst (decide (0 ≤ n5) && decide (Int.toNat n5 < l3.length)) (
 l26x0 T k n [.o 1 (setD l3 (Int.toNat n5) 0 (.v (.string s8))), .v (.int .i64 (IntKind.wrap .i64 (n4 + 1))), .v (.int .i64 (IntKind.wrap .i64 (n5 + 1)))])) else (
 some ((.exit 0), [.o 1 l3, .v (.int .i64 n4)]))) := by kernel_rfl
theorem a26q (T : Table) (k : Nat) (l1 : Rows) (n2 : Int): evalF T k a26 [.d (.s 1 l1), .d (.v (.int .i64 n2))] = (
 aft (l26x0 T k k [.o 1 l1, .v (.int .i64 n2), .v (.int .i64 0)]) fun e9 ys10 =>
 bif e9.same (.exit 0) then (
 aV ys10 0 fun x11 =>
 aO 1 x11 fun l12 =>
 aV ys10 1 fun x13 =>
 aI .i64 x13 fun n14 =>
 some ⟨.d (.v (.int .i64 n14)), [.d (.s 1 l12)]⟩) else (
 none)) := by kernel_rfl
/- loop.example/g00119/laws.markValueS -/
def b28x0 : ACode := (
 .seq (.seq (.g [oM 6 5, oM 7 0, oZ 8 7, oB 9 .lss 6 8]) (
 .cond (.t 9) (.skip) (.exit 0))) (
 .seq (.block 1 (.seq (.g [oM 12 0, oM 13 5, oM 14 1, oI 15 5 12 13, oF 16 0 15, oS (.store 1 (.t 16) (.t 14))]) (
 .seq (.g [oM 17 1, oBi 18 .add 17 1, oM 1 18]) (
 .seq (.g [oM 19 0, oM 20 5, oM 21 1, oC 22 27 [.c .s] [21], oI 23 5 19 20, oF 24 1 23, oS (.store 1 (.t 24) (.t 22))]) (
 .seq (.g [oM 25 1, oBi 26 .add 25 1, oM 1 26]) (
 .seq (.g [oM 27 0, oM 28 5, oM 29 1, oI 30 5 27 28, oF 31 2 30, oS (.store 1 (.t 31) (.t 29))]) (
 .seq (.g [oM 32 1, oBi 33 .add 32 1, oM 1 33]) (
 .seq (.g [oM 34 0, oM 35 5, oI 36 5 34 35, oF 37 3 36, oW 38 (.sl 1) 37, oM 39 1, oQ 40 (.call (.f 26) [.lent, .rd] false [.c kI] [.t 38, .t 39]), oM 1 40]) (
 .g [oM 41 0, oM 42 5, oI 43 5 41 42, oF 44 4 43, oW 45 (.sl 5) 44, oM 46 1, oQ 47 (.call (.f 28) [.lent, .rd] false [.c kI] [.t 45, .t 46]), oM 1 47]))))))))) (
 .g [oM 10 5, oBi 11 .add 10 1, oM 5 11])))
def e28x0 : Exits := [((.exit 0), [(0, .o 5), (1, .c kI)])]
noncomputable def l28x0 (T : Table) (k : Nat) := loopN (evalC ⟨T, [0], []⟩ k b28x0 (Ex × List AV)) [0, 1, 5] e28x0
def a28 : AFun := ⟨[.lent, .rd], false, [.t 4], (
 .seq (.g [oK 4 0]) (
 .seq (.seq (.g [oK 5 0]) (
 .block 0 (.loop [0, 1, 5] e28x0 b28x0))) (
 .seq (.g [oM 48 1, oM 4 48]) (
 .ret))))⟩
theorem l28x0s (T : Table) (k n : Nat) (l3 : Rows) (n4 n5 : Int): l28x0 T k (n + 1) [.o 5 l3, .v (.int .i64 n4), .v (.int .i64 n5)] = (
 bif (decide (n5 < (l3.length : Int))) then (
 tst (decide (0 ≤ n5) && decide (Int.toNat n5 < l3.length)) (
 callT T 27 [.d (.v (.int .i64 (IntKind.wrap .i64 (n4 + 1))))] fun o6 =>
 oD o6.res fun d7 =>
 dS d7 fun s8 =>
 tst (decide (0 ≤ n5) && decide (Int.toNat n5 < (setD l3 (Int.toNat n5) 0 (.v (.int .i64 n4))).length)) (
 tst (decide (0 ≤ n5) && decide (Int.toNat n5 < (setD (setD l3 (Int.toNat n5) 0 (.v (.int .i64 n4))) (Int.toNat n5) 1 (.v (.string s8))).length)) (
 tst (decide (0 ≤ n5) && decide (Int.toNat n5 < (setD (setD (setD l3 (Int.toNat n5) 0 (.v (.int .i64 n4))) (Int.toNat n5) 1 (.v (.string s8))) (Int.toNat n5) 2 (.v (.int .i64 (IntKind.wrap .i64 ((IntKind.wrap .i64 (n4 + 1)) + 1))))).length)) (
 look (setD (setD (setD l3 (Int.toNat n5) 0 (.v (.int .i64 n4))) (Int.toNat n5) 1 (.v (.string s8))) (Int.toNat n5) 2 (.v (.int .i64 (IntKind.wrap .i64 ((IntKind.wrap .i64 (n4 + 1)) + 1))))) (Int.toNat n5) fun r9 =>
 cL 1 r9 3 fun l10 =>
 callT T 26 [.d (.s 1 l10), .d (.v (.int .i64 (IntKind.wrap .i64 ((IntKind.wrap .i64 ((IntKind.wrap .i64 (n4 + 1)) + 1)) + 1))))] fun o11 =>
 nth o11.back 0 fun i12 =>
 oD i12 fun d13 =>
 dL 1 d13 fun l14 =>
 oD o11.res fun d15 =>
 dI .i64 d15 fun n16 =>
 tst (decide (0 ≤ n5) && decide (Int.toNat n5 < (setD (setD (setD l3 (Int.toNat n5) 0 (.v (.int .i64 n4))) (Int.toNat n5) 1 (.v (.string s8))) (Int.toNat n5) 2 (.v (.int .i64 (IntKind.wrap .i64 ((IntKind.wrap .i64 (n4 + 1)) + 1))))).length)) (
 look (setD (setD (setD l3 (Int.toNat n5) 0 (.v (.int .i64 n4))) (Int.toNat n5) 1 (.v (.string s8))) (Int.toNat n5) 2 (.v (.int .i64 (IntKind.wrap .i64 ((IntKind.wrap .i64 (n4 + 1)) + 1))))) (Int.toNat n5) fun r17 =>
 cL 5 r17 4 fun l18 =>
 callT T 28 [.d (.s 5 l18), .d (.v (.int .i64 n16))] fun o19 =>
 nth o19.back 0 fun i20 =>
 oD i20 fun d21 =>
 dL 5 d21 fun l22 =>
 oD o19.res fun d23 =>
 dI .i64 d23 fun n24 =>
 l28x0 T k n [.o 5 (setD (setD (setD (setD (setD l3 (Int.toNat n5) 0 (.v (.int .i64 n4))) (Int.toNat n5) 1 (.v (.string s8))) (Int.toNat n5) 2 (.v (.int .i64 (IntKind.wrap .i64 ((IntKind.wrap .i64 (n4 + 1)) + 1))))) (Int.toNat n5) 4 (.s 5 l22)) (Int.toNat n5) 3 (.s 1 l14)), .v (.int .i64 n24), .v (.int .i64 (IntKind.wrap .i64 (n5 + 1)))])))))) else (
 some ((.exit 0), [.o 5 l3, .v (.int .i64 n4)]))) := by kernel_rfl
theorem a28q (T : Table) (k : Nat) (l1 : Rows) (n2 : Int): evalF T k a28 [.d (.s 5 l1), .d (.v (.int .i64 n2))] = (
 aft (l28x0 T k k [.o 5 l1, .v (.int .i64 n2), .v (.int .i64 0)]) fun e25 ys26 =>
 bif e25.same (.exit 0) then (
 aV ys26 0 fun x27 =>
 aO 5 x27 fun l28 =>
 aV ys26 1 fun x29 =>
 aI .i64 x29 fun n30 =>
 some ⟨.d (.v (.int .i64 n30)), [.d (.s 5 l28)]⟩) else (
 none)) := by kernel_rfl
/- loop.example/g00119/laws.markOpS -/
def b8x0 : ACode := (
 .seq (.seq (.g [oM 6 5, oM 7 0, oZ 8 7, oB 9 .lss 6 8]) (
 .cond (.t 9) (.skip) (.exit 0))) (
 .seq (.block 1 (.seq (.g [oM 12 0, oM 13 5, oM 14 1, oI 15 7 12 13, oF 16 0 15, oS (.store 1 (.t 16) (.t 14))]) (
 .seq (.g [oM 17 1, oBi 18 .add 17 1, oM 1 18]) (
 .seq (.g [oM 19 0, oM 20 5, oI 21 7 19 20, oF 22 1 21, oW 23 (.sl 1) 22, oM 24 1, oQ 25 (.call (.f 26) [.lent, .rd] false [.c kI] [.t 23, .t 24]), oM 1 25]) (
 .seq (.g [oM 26 0, oM 27 5, oM 28 1, oI 29 7 26 27, oF 30 2 29, oF 31 0 30, oS (.store 1 (.t 31) (.t 28))]) (
 .seq (.g [oM 32 1, oBi 33 .add 32 1, oM 1 33]) (
 .seq (.g [oM 34 0, oM 35 5, oM 36 1, oC 37 27 [.c .s] [36], oI 38 7 34 35, oF 39 2 38, oF 40 1 39, oS (.store 1 (.t 40) (.t 37))]) (
 .seq (.g [oM 41 1, oBi 42 .add 41 1, oM 1 42]) (
 .seq (.g [oM 43 0, oM 44 5, oM 45 1, oI 46 7 43 44, oF 47 2 46, oF 48 2 47, oS (.store 1 (.t 48) (.t 45))]) (
 .seq (.g [oM 49 1, oBi 50 .add 49 1, oM 1 50]) (
 .seq (.g [oM 51 0, oM 52 5, oI 53 7 51 52, oF 54 2 53, oF 55 3 54, oW 56 (.sl 1) 55, oM 57 1, oQ 58 (.call (.f 26) [.lent, .rd] false [.c kI] [.t 56, .t 57]), oM 1 58]) (
 .g [oM 59 0, oM 60 5, oI 61 7 59 60, oF 62 2 61, oF 63 4 62, oW 64 (.sl 5) 63, oM 65 1, oQ 66 (.call (.f 28) [.lent, .rd] false [.c kI] [.t 64, .t 65]), oM 1 66])))))))))))) (
 .g [oM 10 5, oBi 11 .add 10 1, oM 5 11])))
def e8x0 : Exits := [((.exit 0), [(0, .o 7), (1, .c kI)])]
noncomputable def l8x0 (T : Table) (k : Nat) := loopN (evalC ⟨T, [0], []⟩ k b8x0 (Ex × List AV)) [0, 1, 5] e8x0
def a8 : AFun := ⟨[.lent, .rd], false, [.t 4], (
 .seq (.g [oK 4 0]) (
 .seq (.seq (.g [oK 5 0]) (
 .block 0 (.loop [0, 1, 5] e8x0 b8x0))) (
 .seq (.g [oM 67 1, oM 4 67]) (
 .ret))))⟩
theorem l8x0s (T : Table) (k n : Nat) (l3 : Rows) (n4 n5 : Int): l8x0 T k (n + 1) [.o 7 l3, .v (.int .i64 n4), .v (.int .i64 n5)] = (
 bif (decide (n5 < (l3.length : Int))) then (
 tst (decide (0 ≤ n5) && decide (Int.toNat n5 < l3.length)) (
 tst (decide (0 ≤ n5) && decide (Int.toNat n5 < (setD l3 (Int.toNat n5) 0 (.v (.int .i64 n4))).length)) (
 look (setD l3 (Int.toNat n5) 0 (.v (.int .i64 n4))) (Int.toNat n5) fun r6 =>
 cL 1 r6 1 fun l7 =>
 callT T 26 [.d (.s 1 l7), .d (.v (.int .i64 (IntKind.wrap .i64 (n4 + 1))))] fun o8 =>
 nth o8.back 0 fun i9 =>
 oD i9 fun d10 =>
 dL 1 d10 fun l11 =>
 oD o8.res fun d12 =>
 dI .i64 d12 fun n13 =>
 tst (decide (0 ≤ n5) && decide (Int.toNat n5 < (setD l3 (Int.toNat n5) 0 (.v (.int .i64 n4))).length)) (
 callT T 27 [.d (.v (.int .i64 (IntKind.wrap .i64 (n13 + 1))))] fun o14 =>
 oD o14.res fun d15 =>
 dS d15 fun s16 =>
 tst (decide (0 ≤ n5) && decide (Int.toNat n5 < (setD (setD l3 (Int.toNat n5) 0 (.v (.int .i64 n4))) (Int.toNat n5) 2 (.v (.int .i64 n13))).length)) (
 tst (decide (0 ≤ n5) && decide (Int.toNat n5 < (setD (setD (setD l3 (Int.toNat n5) 0 (.v (.int .i64 n4))) (Int.toNat n5) 2 (.v (.int .i64 n13))) (Int.toNat n5) 3 (.v (.string s16))).length)) (
 tst (decide (0 ≤ n5) && decide (Int.toNat n5 < (setD (setD (setD (setD l3 (Int.toNat n5) 0 (.v (.int .i64 n4))) (Int.toNat n5) 2 (.v (.int .i64 n13))) (Int.toNat n5) 3 (.v (.string s16))) (Int.toNat n5) 4 (.v (.int .i64 (IntKind.wrap .i64 ((IntKind.wrap .i64 (n13 + 1)) + 1))))).length)) (
 look (setD (setD (setD (setD l3 (Int.toNat n5) 0 (.v (.int .i64 n4))) (Int.toNat n5) 2 (.v (.int .i64 n13))) (Int.toNat n5) 3 (.v (.string s16))) (Int.toNat n5) 4 (.v (.int .i64 (IntKind.wrap .i64 ((IntKind.wrap .i64 (n13 + 1)) + 1))))) (Int.toNat n5) fun r17 =>
 cL 1 r17 5 fun l18 =>
 callT T 26 [.d (.s 1 l18), .d (.v (.int .i64 (IntKind.wrap .i64 ((IntKind.wrap .i64 ((IntKind.wrap .i64 (n13 + 1)) + 1)) + 1))))] fun o19 =>
 nth o19.back 0 fun i20 =>
 oD i20 fun d21 =>
 dL 1 d21 fun l22 =>
 oD o19.res fun d23 =>
 dI .i64 d23 fun n24 =>
 tst (decide (0 ≤ n5) && decide (Int.toNat n5 < (setD (setD (setD (setD l3 (Int.toNat n5) 0 (.v (.int .i64 n4))) (Int.toNat n5) 2 (.v (.int .i64 n13))) (Int.toNat n5) 3 (.v (.string s16))) (Int.toNat n5) 4 (.v (.int .i64 (IntKind.wrap .i64 ((IntKind.wrap .i64 (n13 + 1)) + 1))))).length)) (
 look (setD (setD (setD (setD l3 (Int.toNat n5) 0 (.v (.int .i64 n4))) (Int.toNat n5) 2 (.v (.int .i64 n13))) (Int.toNat n5) 3 (.v (.string s16))) (Int.toNat n5) 4 (.v (.int .i64 (IntKind.wrap .i64 ((IntKind.wrap .i64 (n13 + 1)) + 1))))) (Int.toNat n5) fun r25 =>
 cL 5 r25 6 fun l26 =>
 callT T 28 [.d (.s 5 l26), .d (.v (.int .i64 n24))] fun o27 =>
 nth o27.back 0 fun i28 =>
 oD i28 fun d29 =>
 dL 5 d29 fun l30 =>
 oD o27.res fun d31 =>
 dI .i64 d31 fun n32 =>
 l8x0 T k n [.o 7 (setD (setD (setD (setD (setD (setD (setD l3 (Int.toNat n5) 0 (.v (.int .i64 n4))) (Int.toNat n5) 2 (.v (.int .i64 n13))) (Int.toNat n5) 3 (.v (.string s16))) (Int.toNat n5) 4 (.v (.int .i64 (IntKind.wrap .i64 ((IntKind.wrap .i64 (n13 + 1)) + 1))))) (Int.toNat n5) 6 (.s 5 l30)) (Int.toNat n5) 5 (.s 1 l22)) (Int.toNat n5) 1 (.s 1 l11)), .v (.int .i64 n32), .v (.int .i64 (IntKind.wrap .i64 (n5 + 1)))])))))))) else (
 some ((.exit 0), [.o 7 l3, .v (.int .i64 n4)]))) := by kernel_rfl
theorem a8q (T : Table) (k : Nat) (l1 : Rows) (n2 : Int): evalF T k a8 [.d (.s 7 l1), .d (.v (.int .i64 n2))] = (
 aft (l8x0 T k k [.o 7 l1, .v (.int .i64 n2), .v (.int .i64 0)]) fun e33 ys34 =>
 bif e33.same (.exit 0) then (
 aV ys34 0 fun x35 =>
 aO 7 x35 fun l36 =>
 aV ys34 1 fun x37 =>
 aI .i64 x37 fun n38 =>
 some ⟨.d (.v (.int .i64 n38)), [.d (.s 7 l36)]⟩) else (
 none)) := by kernel_rfl
/- loop.example/g00119/laws.heldStringS -/
def b29x0 : ACode := (
 .seq (.seq (.g [oM 6 5, oM 7 0, oZ 8 7, oB 9 .lss 6 8]) (
 .cond (.t 9) (.skip) (.exit 0))) (
 .seq (.block 1 (.seq (.seq (.dreg [] [(0, oM 12 0), (0, oM 13 5), (0, oI 14 1 12 13), (0, oW 15 .s 14), (0, oM 16 1), (1, oC 17 27 [.c .s] [16])] [oB 18 .neq 15 17]) (
 .cond (.t 18) (.seq (.g [oK 4 (-1)]) (
 .ret)) (.skip))) (
 .g [oM 19 1, oBi 20 .add 19 1, oM 1 20]))) (
 .g [oM 10 5, oBi 11 .add 10 1, oM 5 11])))
def e29x0 : Exits := [(.ret, [(4, .c kI)]), ((.exit 0), [(1, .c kI)])]
noncomputable def l29x0 (T : Table) (k : Nat) := loopN (evalC ⟨T, [], []⟩ k b29x0 (Ex × List AV)) [0, 1, 5] e29x0
def a29 : AFun := ⟨[.rd, .rd], false, [.t 4], (
 .seq (.g [oK 4 0]) (
 .seq (.seq (.g [oK 5 0]) (
 .block 0 (.loop [0, 1, 5] e29x0 b29x0))) (
 .seq (.g [oM 21 1, oM 4 21]) (
 .ret))))⟩
theorem l29x0s (T : Table) (k n : Nat) (l3 : Rows) (n4 n5 : Int): l29x0 T k (n + 1) [.fz 1 l3, .v (.int .i64 n4), .v (.int .i64 n5)] = (
 bif (decide (n5 < (l3.length : Int))) then (
 tst (decide (0 ≤ n5)) (
 look l3 (Int.toNat n5) fun r6 =>
 cS r6 0 fun s7 =>
 callT T 27 [.d (.v (.int .i64 n4))] fun o8 =>
 oD o8.res fun d9 =>
 dS d9 fun s10 =>
 bif (!(bytesEq s7 s10)) then (
 some (.ret, [.v (.int .i64 (-1))])) else (
 l29x0 T k n [.fz 1 l3, .v (.int .i64 (IntKind.wrap .i64 (n4 + 1))), .v (.int .i64 (IntKind.wrap .i64 (n5 + 1)))]))) else (
 some ((.exit 0), [.v (.int .i64 n4)]))) := by kernel_rfl
theorem a29q (T : Table) (k : Nat) (l1 : Rows) (n2 : Int): evalF T k a29 [.d (.s 1 l1), .d (.v (.int .i64 n2))] = (
 aft (l29x0 T k k [.fz 1 l1, .v (.int .i64 n2), .v (.int .i64 0)]) fun e11 ys12 =>
 bif e11.same .ret then (
 aV ys12 0 fun x13 =>
 aI .i64 x13 fun n14 =>
 some ⟨.d (.v (.int .i64 n14)), []⟩) else (
 bif e11.same (.exit 0) then (
 aV ys12 0 fun x15 =>
 aI .i64 x15 fun n16 =>
 some ⟨.d (.v (.int .i64 n16)), []⟩) else (
 none))) := by kernel_rfl
end Go.Am.Pp
