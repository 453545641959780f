/- What the functions come to, printed: equations by the kernel. Nothing is assumed. -/
import Derived.Test.YtmgeoejefnablaaGreatDoorAmA
import Derived.KernelRfl
namespace Go.Am.Pm
set_option linter.unusedVariables false
set_option linter.unusedSimpArgs false
set_option maxRecDepth 8000
/- loop.example/g00119/impl.within -/
def a25 : AFun := ⟨[.rd, .rd, .rd], false, [.t 6], (
 .seq (.g [oV 6 false]) (
 .seq (.g [oM 7 0, oM 8 1, oB 9 .geq 7 8, oM 10 9, oJ 11 10 true (.mv (.t 0)), oJ 12 10 true (.mv (.t 2)), oJ 13 10 true (.bin .leq (.t 11) (.t 12)), oQ 14 (.pick (.t 10) (.t 13) (.b false)), oM 6 14]) (
 .ret)))⟩
theorem D3b (T : Table) (k : Nat) (n1 n2 n3 : Int): H9 T k a25 [.d (.v (.int .i64 n1)), .d (.v (.int .i64 n2)), .d (.v (.int .i64 n3))] = (
 bif (decide (n1 ≥ n2)) == true then (
 some ⟨.d (.v (.bool (decide (n1 ≤ n3)))), []⟩) else (
 some ⟨.d (.v (.bool false)), []⟩)) := by kernel_rfl
/- loop.example/g00119/impl.NameOk -/
def C7k : ACode := (
 .seq (.g [oB 8 .lss 7 6]) (
 .seq (.cond (.t 8) (.skip) (.exit 0)) (
 .seq (.block 1 (.seq (.g [oM 9 7, oM 3 9]) (
 .seq (.g [oM 10 0, oM 11 3, oQ 12 (.idx (.t 10) (.t 11)), oM 4 12]) (
 .seq (.g [oM 13 4, oQ 14 (.bin .lss (.t 13) (.c (.v (.int .u8 97)))), oM 15 14, oJ 16 15 false (.mv (.t 4)), oJ 17 15 false (.bin .gtr (.t 16) (.c (.v (.int .u8 122)))), oQ 18 (.pick (.t 15) (.b true) (.t 17)), oM 19 18, oJ 20 19 true (.mv (.t 4)), oJ 21 19 true (.bin .lss (.t 20) (.c (.v (.int .u8 48)))), oJ 22 19 true (.mv (.t 21)), oJ 23 22 false (.mv (.t 4)), oJ 24 22 false (.bin .gtr (.t 23) (.c (.v (.int .u8 57)))), oJ 25 19 true (.pick (.t 22) (.b true) (.t 24)), oQ 26 (.pick (.t 19) (.t 25) (.b false)), oM 27 26, oJ 28 27 true (.mv (.t 4)), oJ 29 27 true (.bin .neq (.t 28) (.c (.v (.int .u8 45)))), oQ 30 (.pick (.t 27) (.t 29) (.b false))]) (
 .cond (.t 30) (.seq (.g [oV 2 false]) (
 .ret)) (.skip)))))) (
 .g [oBi 31 .add 7 1, oM 7 31]))))
def C7l : K4 := [(.ret, [(2, .c .b)]), ((.exit 0), [(0, .c .s)])]
noncomputable def A5a (T : Table) (k : Nat) := K7 (J5 ⟨T, [], []⟩ k C7k (Ex × List AV)) [0, 6, 7] C7l
def a24 : AFun := ⟨[.rd], false, [.t 2], (
 .seq (.g [oV 2 false]) (
 .seq (.seq (.g [oM 5 0, oQ 6 (.len true (.t 5)), oK 7 0]) (
 .block 0 (.loop [0, 6, 7] C7l C7k))) (
 .seq (.g [oM 32 0, oQ 33 (.len true (.t 32)), oQ 34 (.call (.f 25) [.rd, .rd, .rd] false [.c .b] [.t 33, .i 1, .i 20]), oM 35 34, oJ 36 35 true (.mv (.t 0)), oJ 37 35 true (.idx (.t 36) (.i 0)), oJ 38 35 true (.bin .neq (.t 37) (.c (.v (.int .u8 45)))), oQ 39 (.pick (.t 35) (.t 38) (.b false)), oM 40 39, oJ 41 40 true (.mv (.t 0)), oJ 42 40 true (.mv (.t 0)), oJ 43 40 true (.len true (.t 42)), oJ 44 40 true (.bin .sub (.t 43) (.i 1)), oJ 45 40 true (.idx (.t 41) (.t 44)), oJ 46 40 true (.bin .neq (.t 45) (.c (.v (.int .u8 45)))), oQ 47 (.pick (.t 40) (.t 46) (.b false)), oM 2 47]) (
 .ret))))⟩
theorem C42 (T : Table) (k n : Nat) (s2 : ByteArray) (n3 n4 : Int): A5a T k (n + 1) [.v (.string s2), .v (.int .i64 n3), .v (.int .i64 n4)] = (
 bif (decide (n4 < n3)) then (
 tst (decide (0 ≤ n4)) (
 K5 s2 (Int.toNat n4) fun c5 =>
 bif (decide ((c5.toNat : Int) < 97)) == false then (
 bif (decide ((c5.toNat : Int) > 122)) == true then (
 bif (decide ((c5.toNat : Int) < 48)) == false then (
 bif (decide ((c5.toNat : Int) > 57)) == true then (
 bif ((c5.toNat : Int) != 45) then (
 some (.ret, [.v (.bool false)])) else (
 A5a T k n [.v (.string s2), .v (.int .i64 n3), .v (.int .i64 (IntKind.wrap .i64 (n4 + 1)))])) else (
 A5a T k n [.v (.string s2), .v (.int .i64 n3), .v (.int .i64 (IntKind.wrap .i64 (n4 + 1)))])) else (
 bif ((c5.toNat : Int) != 45) then (
 some (.ret, [.v (.bool false)])) else (
 A5a T k n [.v (.string s2), .v (.int .i64 n3), .v (.int .i64 (IntKind.wrap .i64 (n4 + 1)))]))) else (
 A5a T k n [.v (.string s2), .v (.int .i64 n3), .v (.int .i64 (IntKind.wrap .i64 (n4 + 1)))])) else (
 bif (decide ((c5.toNat : Int) < 48)) == false then (
 bif (decide ((c5.toNat : Int) > 57)) == true then (
 bif ((c5.toNat : Int) != 45) then (
 some (.ret, [.v (.bool false)])) else (
 A5a T k n [.v (.string s2), .v (.int .i64 n3), .v (.int .i64 (IntKind.wrap .i64 (n4 + 1)))])) else (
 A5a T k n [.v (.string s2), .v (.int .i64 n3), .v (.int .i64 (IntKind.wrap .i64 (n4 + 1)))])) else (
 bif ((c5.toNat : Int) != 45) then (
 some (.ret, [.v (.bool false)])) else (
 A5a T k n [.v (.string s2), .v (.int .i64 n3), .v (.int .i64 (IntKind.wrap .i64 (n4 + 1)))]))))) else (
 some ((.exit 0), [.v (.string s2)]))) := by kernel_rfl
theorem D3c (T : Table) (k : Nat) (s1 : ByteArray): H9 T k a24 [.d (.v (.string s1))] = (
 aft (A5a T k k [.v (.string s1), .v (.int .i64 (s1.size : Int)), .v (.int .i64 0)]) fun e6 ys7 =>
 bif e6.same .ret then (
 aV ys7 0 fun x8 =>
 aB x8 fun b9 =>
 some ⟨.d (.v (.bool b9)), []⟩) else (
 bif e6.same (.exit 0) then (
 aV ys7 0 fun x10 =>
 aS x10 fun s11 =>
 C8 T 25 [.d (.v (.int .i64 (s11.size : Int))), .d (.v (.int .i64 1)), .d (.v (.int .i64 20))] fun o12 =>
 oD o12.res fun d13 =>
 dB d13 fun b14 =>
 bif b14 == true then (
 tst (decide (0 ≤ 0)) (
 K5 s11 (Int.toNat 0) fun c15 =>
 bif ((c15.toNat : Int) != 45) == true then (
 tst (decide (0 ≤ (IntKind.wrap .i64 ((s11.size : Int) - 1)))) (
 K5 s11 (Int.toNat (IntKind.wrap .i64 ((s11.size : Int) - 1))) fun c16 =>
 some ⟨.d (.v (.bool ((c16.toNat : Int) != 45))), []⟩)) else (
 some ⟨.d (.v (.bool false)), []⟩))) else (
 some ⟨.d (.v (.bool false)), []⟩)) else (
 none))) := by kernel_rfl
/- loop.example/g00119/impl.isCopies -/
def a54 : AFun := ⟨[.rd], false, [.t 2], (
 .seq (.g [oV 2 false]) (
 .seq (.g [oM 3 0, oQ 4 (.call (.f 25) [.rd, .rd, .rd] false [.c .b] [.t 3, .i 0, .i 10000]), oM 2 4]) (
 .ret)))⟩
theorem D3d (T : Table) (k : Nat) (n1 : Int): H9 T k a54 [.d (.v (.int .i64 n1))] = (
 C8 T 25 [.d (.v (.int .i64 n1)), .d (.v (.int .i64 0)), .d (.v (.int .i64 10000))] fun o2 =>
 oD o2.res fun d3 =>
 dB d3 fun b4 =>
 some ⟨.d (.v (.bool b4)), []⟩) := by kernel_rfl
/- loop.example/g00119/impl.runsOk -/
def C7m : ACode := (
 .seq (.g [oB 8 .lss 7 6]) (
 .seq (.cond (.t 8) (.skip) (.exit 0)) (
 .seq (.block 1 (.seq (.g [oM 9 7, oI 10 2 5 7, oL 11 [kI, kI] 10, oQ 4 (.alloc [.v (.int .i64 0), .v (.int .i64 0)]), oM 3 9, oS (.store 2 (.t 4) (.t 11))]) (
 .seq (.dreg [] [(0, oF 12 0 4), (0, oW 13 kI 12), (1, oQ 14 (.call (.f 25) [.rd, .rd, .rd] false [.c .b] [.t 13, .i 1, .i 1000000])), (0, oN 15 14), (0, oM 16 15), (0, oJ 17 16 false (.fad 1 (.t 4))), (0, oJ 18 16 false (.load false [kI] (.t 17))), (1, oJ 19 16 false (.call (.f 54) [.rd] false [.c .b] [.t 18])), (0, oJ 20 16 false (.un .not (.t 19))), (0, oQ 21 (.pick (.t 16) (.b true) (.t 20))), (0, oM 22 21), (0, oJ 23 22 false (.mv (.t 3))), (0, oJ 24 22 false (.bin .gtr (.t 23) (.i 0))), (0, oJ 25 22 false (.mv (.t 24))), (0, oJ 26 25 true (.mv (.t 0))), (0, oJ 27 25 true (.mv (.t 3))), (0, oJ 28 25 true (.bin .sub (.t 27) (.i 1))), (0, oJ 29 25 true (.iad 2 (.t 26) (.t 28))), (0, oJ 30 25 true (.fad 0 (.t 29))), (0, oJ 31 25 true (.load false [kI] (.t 30))), (0, oJ 32 25 true (.fad 0 (.t 4))), (0, oJ 33 25 true (.load false [kI] (.t 32)))] [oJ 34 25 true (.bin .geq (.t 31) (.t 33)), oJ 35 22 false (.pick (.t 25) (.t 34) (.b false)), oQ 36 (.pick (.t 22) (.b true) (.t 35))]) (
 .cond (.t 36) (.seq (.g [oV 2 false]) (
 .ret)) (.skip))))) (
 .g [oBi 37 .add 7 1, oM 7 37]))))
def C7n : K4 := [(.ret, [(2, .c .b)]), ((.exit 0), [(0, .c (.sl 2))])]
noncomputable def B30 (T : Table) (k : Nat) := K7 (J5 ⟨T, [], []⟩ k C7m (Ex × List AV)) [0, 5, 6, 7] C7n
def a26 : AFun := ⟨[.rd], false, [.t 2], (
 .seq (.g [oV 2 false]) (
 .seq (.seq (.g [oM 5 0, oZ 6 5, oK 7 0]) (
 .block 0 (.loop [0, 5, 6, 7] C7n C7m))) (
 .seq (.g [oM 38 0, oZ 39 38, oBi 40 .leq 39 80, oM 2 40]) (
 .ret))))⟩
theorem C43 (T : Table) (k n : Nat) (l2 l3 : Rows) (n4 n5 : Int): B30 T k (n + 1) [.fz 2 l2, .fz 2 l3, .v (.int .i64 n4), .v (.int .i64 n5)] = (
 bif (decide (n5 < n4)) then (
 tst (decide (0 ≤ n5)) (
 look l3 (Int.toNat n5) fun r6 =>
 cI .i64 r6 0 fun n7 =>
 cI .i64 r6 1 fun n8 =>
 C8 T 25 [.d (.v (.int .i64 n7)), .d (.v (.int .i64 1)), .d (.v (.int .i64 1000000))] fun o9 =>
 oD o9.res fun d10 =>
 dB d10 fun b11 =>
 bif (!b11) == false then (
 C8 T 54 [.d (.v (.int .i64 n8))] fun o12 =>
 oD o12.res fun d13 =>
 dB d13 fun b14 =>
 bif (!b14) == false then (
 bif (decide (n5 > 0)) == true then (
 tst (decide (0 ≤ (IntKind.wrap .i64 (n5 - 1)))) (
 look l2 (Int.toNat (IntKind.wrap .i64 (n5 - 1))) fun r15 =>
 cI .i64 r15 0 fun n16 =>
 bif (decide (n16 ≥ n7)) then (
 some (.ret, [.v (.bool false)])) else (
 B30 T k n [.fz 2 l2, .fz 2 l3, .v (.int .i64 n4), .v (.int .i64 (IntKind.wrap .i64 (n5 + 1)))]))) else (
 B30 T k n [.fz 2 l2, .fz 2 l3, .v (.int .i64 n4), .v (.int .i64 (IntKind.wrap .i64 (n5 + 1)))])) else (
 some (.ret, [.v (.bool false)]))) else (
 some (.ret, [.v (.bool false)])))) else (
 some ((.exit 0), [.fz 2 l2]))) := by kernel_rfl
theorem D3e (T : Table) (k : Nat) (l1 : Rows): H9 T k a26 [.d (.s 2 l1)] = (
 aft (B30 T k k [.fz 2 l1, .fz 2 l1, .v (.int .i64 (l1.length : Int)), .v (.int .i64 0)]) fun e17 ys18 =>
 bif e17.same .ret then (
 aV ys18 0 fun x19 =>
 aB x19 fun b20 =>
 some ⟨.d (.v (.bool b20)), []⟩) else (
 bif e17.same (.exit 0) then (
 aV ys18 0 fun x21 =>
 aL 2 x21 fun l22 =>
 some ⟨.d (.v (.bool (decide ((l22.length : Int) ≤ 80)))), []⟩) else (
 none))) := by kernel_rfl
/- loop.example/g00119/impl.namesOk -/
def C44 : ACode := (
 .seq (.g [oB 10 .lss 9 8]) (
 .seq (.cond (.t 10) (.skip) (.exit 0)) (
 .seq (.block 1 (.seq (.g [oM 11 9, oI 12 1 7 9, oW 13 .s 12, oM 5 11, oM 6 13]) (
 .seq (.g [oM 14 6, oC 15 24 [.c .b] [14], oN 16 15, oM 17 16, oJ 18 17 false (.mv (.t 5)), oJ 19 17 false (.bin .gtr (.t 18) (.i 0)), oJ 20 17 false (.mv (.t 19)), oJ 21 20 true (.mv (.t 0)), oJ 22 20 true (.mv (.t 5)), oJ 23 20 true (.bin .sub (.t 22) (.i 1)), oJ 24 20 true (.iad 1 (.t 21) (.t 23)), oJ 25 20 true (.load false [.s] (.t 24)), oJ 26 20 true (.mv (.t 6)), oJ 27 20 true (.bin .geq (.t 25) (.t 26)), oJ 28 17 false (.pick (.t 20) (.t 27) (.b false)), oQ 29 (.pick (.t 17) (.b true) (.t 28))]) (
 .cond (.t 29) (.seq (.g [oV 4 false]) (
 .ret)) (.skip))))) (
 .g [oBi 30 .add 9 1, oM 9 30]))))
def C45 : K4 := [(.ret, [(4, .c .b)]), ((.exit 0), [(0, .c (.sl 1)), (1, .c kI)])]
noncomputable def A8j (T : Table) (k : Nat) := K7 (J5 ⟨T, [], []⟩ k C44 (Ex × List AV)) [0, 1, 7, 8, 9] C45
def D0k : AFun := ⟨[.rd, .rd], false, [.t 4], (
 .seq (.g [oV 4 false]) (
 .seq (.seq (.g [oM 7 0, oZ 8 7, oK 9 0]) (
 .block 0 (.loop [0, 1, 7, 8, 9] C45 C44))) (
 .seq (.g [oM 31 0, oZ 32 31, oM 33 1, oB 34 .leq 32 33, oM 4 34]) (
 .ret))))⟩
theorem C05 (T : Table) (k n : Nat) (l3 l5 : Rows) (n4 n6 n7 : Int): A8j T k (n + 1) [.fz 1 l3, .v (.int .i64 n4), .fz 1 l5, .v (.int .i64 n6), .v (.int .i64 n7)] = (
 bif (decide (n7 < n6)) then (
 tst (decide (0 ≤ n7)) (
 look l5 (Int.toNat n7) fun r8 =>
 cS r8 0 fun s9 =>
 C8 T 24 [.d (.v (.string s9))] fun o10 =>
 oD o10.res fun d11 =>
 dB d11 fun b12 =>
 bif (!b12) == false then (
 bif (decide (n7 > 0)) == true then (
 tst (decide (0 ≤ (IntKind.wrap .i64 (n7 - 1)))) (
 look l3 (Int.toNat (IntKind.wrap .i64 (n7 - 1))) fun r13 =>
 cS r13 0 fun s14 =>
 bif (!(bytesLess s14 s9)) then (
 some (.ret, [.v (.bool false)])) else (
 A8j T k n [.fz 1 l3, .v (.int .i64 n4), .fz 1 l5, .v (.int .i64 n6), .v (.int .i64 (IntKind.wrap .i64 (n7 + 1)))]))) else (
 A8j T k n [.fz 1 l3, .v (.int .i64 n4), .fz 1 l5, .v (.int .i64 n6), .v (.int .i64 (IntKind.wrap .i64 (n7 + 1)))])) else (
 some (.ret, [.v (.bool false)])))) else (
 some ((.exit 0), [.fz 1 l3, .v (.int .i64 n4)]))) := by kernel_rfl
theorem D21 (T : Table) (k : Nat) (l1 : Rows) (n2 : Int): H9 T k D0k [.d (.s 1 l1), .d (.v (.int .i64 n2))] = (
 aft (A8j T k k [.fz 1 l1, .v (.int .i64 n2), .fz 1 l1, .v (.int .i64 (l1.length : Int)), .v (.int .i64 0)]) fun e15 ys16 =>
 bif e15.same .ret then (
 aV ys16 0 fun x17 =>
 aB x17 fun b18 =>
 some ⟨.d (.v (.bool b18)), []⟩) else (
 bif e15.same (.exit 0) then (
 aV ys16 0 fun x19 =>
 aL 1 x19 fun l20 =>
 aV ys16 1 fun x21 =>
 aI .i64 x21 fun n22 =>
 some ⟨.d (.v (.bool (decide ((l20.length : Int) ≤ n22)))), []⟩) else (
 none))) := by kernel_rfl
-- a133 "strings.Replace": kind of type 130 TypeDesc.pointer
-- a134 "(*strings.Builder).copyCheck": kind of type 130 TypeDesc.pointer
-- a135 "(*strings.Builder).grow": builtin cap
-- a136 "unicode/utf8.decodeRuneInStringSlow": indexAddr of an array
-- a137 "internal/bytealg.IndexByteString": IndexError('list index out of range')
/- loop.example/g00119/impl.shapeOk -/
def C46 : ACode := (
 .seq (.g [oB 30 .lss 29 28]) (
 .seq (.cond (.t 30) (.skip) (.exit 1)) (
 .seq (.block 2 (.seq (.g [oM 31 29, oM 7 31]) (
 .seq (.g [oF 32 1 1, oW 33 .s 32, oM 34 7, oQ 35 (.idx (.t 33) (.t 34)), oQ 36 (.conv (.int .i64) (.t 35)), oQ 37 (.call (.f 25) [.rd, .rd, .rd] false [.c .b] [.t 36, .i 32, .i 126]), oN 38 37]) (
 .cond (.t 38) (.seq (.g [oV 2 false]) (
 .ret)) (.skip))))) (
 .g [oBi 39 .add 29 1, oM 29 39]))))
def C47 : K4 := [(.ret, [(2, .c .b)]), ((.exit 1), [(1, .b [.c kI, .c .s, .c kI, .c (.sl 1), .c (.sl 5)]), (4, .c .b), (5, .c .b), (6, .c .b)])]
noncomputable def A8k (T : Table) (k : Nat) := K7 (J5 ⟨T, [], []⟩ k C46 (Ex × List AV)) [1, 4, 5, 6, 28, 29] C47
def a107 : AFun := ⟨[.rd], false, [.t 2], (
 .seq (.g [oQ 1 (.box (.t 0)), oV 2 false]) (
 .seq (.dreg [] [(0, oF 8 1 1), (0, oW 9 .s 8), (0, oQ 10 (.bin .eql (.t 9) (.c (.v (.string ({ data := #[] } : ByteArray)))))), (0, oF 11 2 1), (0, oW 12 kI 11), (0, oBi 13 .eql 12 0), (0, oF 14 3 1), (0, oW 15 (.sl 1) 14), (0, oZ 16 15), (0, oBi 17 .eql 16 0), (0, oF 18 4 1), (0, oW 19 (.sl 5) 18), (0, oZ 20 19), (0, oBi 21 .eql 20 0), (0, oM 3 10), (0, oM 4 13), (0, oM 5 17)] [oM 6 21]) (
 .seq (.seq (.g [oF 22 0 1, oW 23 kI 22]) (
 .block 0 (.seq (.g [oBi 25 .eql 23 1, oM 24 25]) (
 .cond (.t 24) (.seq (.seq (.g [oF 26 1 1, oW 27 .s 26, oQ 28 (.len true (.t 27)), oK 29 0]) (
 .block 1 (.loop [1, 4, 5, 6, 28, 29] C47 C46))) (
 .g [oF 40 1 1, oW 41 .s 40, oQ 42 (.len true (.t 41)), oBi 43 .leq 42 100, oM 3 43])) (.seq (.g [oBi 45 .eql 23 2, oM 44 45]) (
 .cond (.t 44) (.g [oV 4 true]) (.seq (.g [oBi 47 .eql 23 3, oM 46 47]) (
 .cond (.t 46) (.g [oF 48 2 1, oW 49 kI 48, oQ 50 (.call (.f 25) [.rd, .rd, .rd] false [.c .b] [.t 49, .i 0, .i 1]), oM 4 50]) (.seq (.g [oBi 52 .eql 23 4, oM 51 52]) (
 .cond (.t 51) (.g [oV 6 true]) (.seq (.g [oBi 54 .eql 23 5, oM 53 54]) (
 .cond (.t 53) (.seq (.g [oF 55 3 1, oW 56 (.sl 1) 55, oQ 57 (.call (.f 132) [.rd, .rd] false [.c .b] [.t 56, .i 300]), oM 58 57, oJ 59 58 true (.fad 3 (.t 1)), oJ 60 58 true (.load false [.sl 1] (.t 59)), oJ 61 58 true (.len false (.t 60)), oJ 62 58 true (.fad 4 (.t 1)), oJ 63 58 true (.load false [.sl 5] (.t 62)), oJ 64 58 true (.len false (.t 63)), oJ 65 58 true (.bin .eql (.t 61) (.t 64)), oQ 66 (.pick (.t 58) (.t 65) (.b false)), oM 5 66]) (
 .g [oV 6 true])) (.seq (.g [oV 2 false]) (
 .ret)))))))))))))) (
 .seq (.g [oM 67 3, oM 68 67, oJ 69 68 true (.mv (.t 4)), oQ 70 (.pick (.t 68) (.t 69) (.b false)), oM 71 70, oJ 72 71 true (.mv (.t 5)), oQ 73 (.pick (.t 71) (.t 72) (.b false)), oM 74 73, oJ 75 74 true (.mv (.t 6)), oQ 76 (.pick (.t 74) (.t 75) (.b false)), oM 2 76]) (
 .ret)))))⟩
theorem C06 (T : Table) (k n : Nat) (n6 n8 n14 n15 : Int) (s7 : ByteArray) (l9 l10 : Rows) (b11 b12 b13 : Bool): A8k T k (n + 1) [.b [.v (.int .i64 n6), .v (.string s7), .v (.int .i64 n8), .fz 1 l9, .fz 5 l10], .v (.bool b11), .v (.bool b12), .v (.bool b13), .v (.int .i64 n14), .v (.int .i64 n15)] = (
 bif (decide (n15 < n14)) then (
 tst (decide (0 ≤ n15)) (
 K5 s7 (Int.toNat n15) fun c16 =>
 C8 T 25 [.d (.v (.int .i64 (IntKind.wrap .i64 (c16.toNat : Int)))), .d (.v (.int .i64 32)), .d (.v (.int .i64 126))] fun o17 =>
 oD o17.res fun d18 =>
 dB d18 fun b19 =>
 bif (!b19) then (
 some (.ret, [.v (.bool false)])) else (
 A8k T k n [.b [.v (.int .i64 n6), .v (.string s7), .v (.int .i64 n8), .fz 1 l9, .fz 5 l10], .v (.bool b11), .v (.bool b12), .v (.bool b13), .v (.int .i64 n14), .v (.int .i64 (IntKind.wrap .i64 (n15 + 1)))]))) else (
 some ((.exit 1), [.b [.v (.int .i64 n6), .v (.string s7), .v (.int .i64 n8), .fz 1 l9, .fz 5 l10], .v (.bool b11), .v (.bool b12), .v (.bool b13)]))) := by kernel_rfl
theorem D22 (T : Table) (k : Nat) (n1 n3 : Int) (s2 : ByteArray) (l4 l5 : Rows): H9 T k a107 [.g [.v (.int .i64 n1), .v (.string s2), .v (.int .i64 n3), .s 1 l4, .s 5 l5]] = (
 bif (n1 == 1) then (
 aft (A8k T k k [.b [.v (.int .i64 n1), .v (.string s2), .v (.int .i64 n3), .fz 1 l4, .fz 5 l5], .v (.bool (n3 == 0)), .v (.bool ((l4.length : Int) == 0)), .v (.bool ((l5.length : Int) == 0)), .v (.int .i64 (s2.size : Int)), .v (.int .i64 0)]) fun e20 ys21 =>
 bif e20.same .ret then (
 aV ys21 0 fun x22 =>
 aB x22 fun b23 =>
 some ⟨.d (.v (.bool b23)), []⟩) else (
 bif e20.same (.exit 1) then (
 aV ys21 0 fun x24 =>
 aX x24 fun xs25 =>
 aV xs25 0 fun x26 =>
 aI .i64 x26 fun n27 =>
 aV xs25 1 fun x28 =>
 aS x28 fun s29 =>
 aV xs25 2 fun x30 =>
 aI .i64 x30 fun n31 =>
 aV xs25 3 fun x32 =>
 aL 1 x32 fun l33 =>
 aV xs25 4 fun x34 =>
 aL 5 x34 fun l35 =>
 aV ys21 1 fun x36 =>
 aB x36 fun b37 =>
 aV ys21 2 fun x38 =>
 aB x38 fun b39 =>
 aV ys21 3 fun x40 =>
 aB x40 fun b41 =>
 bif (decide ((s29.size : Int) ≤ 100)) == true then (
 bif b37 == true then (
 bif b39 == true then (
 some ⟨.d (.v (.bool b41)), []⟩) else (
 some ⟨.d (.v (.bool false)), []⟩)) else (
 some ⟨.d (.v (.bool false)), []⟩)) else (
 some ⟨.d (.v (.bool false)), []⟩)) else (
 none))) else (
 bif (n1 == 2) then (
 bif (D9 s2 ({ data := #[] } : ByteArray)) == true then (
 bif ((l4.length : Int) == 0) == true then (
 some ⟨.d (.v (.bool ((l5.length : Int) == 0))), []⟩) else (
 some ⟨.d (.v (.bool false)), []⟩)) else (
 some ⟨.d (.v (.bool false)), []⟩)) else (
 bif (n1 == 3) then (
 C8 T 25 [.d (.v (.int .i64 n3)), .d (.v (.int .i64 0)), .d (.v (.int .i64 1))] fun o42 =>
 oD o42.res fun d43 =>
 dB d43 fun b44 =>
 bif (D9 s2 ({ data := #[] } : ByteArray)) == true then (
 bif b44 == true then (
 bif ((l4.length : Int) == 0) == true then (
 some ⟨.d (.v (.bool ((l5.length : Int) == 0))), []⟩) else (
 some ⟨.d (.v (.bool false)), []⟩)) else (
 some ⟨.d (.v (.bool false)), []⟩)) else (
 some ⟨.d (.v (.bool false)), []⟩)) else (
 bif (n1 == 4) then (
 bif (D9 s2 ({ data := #[] } : ByteArray)) == true then (
 bif (n3 == 0) == true then (
 bif ((l4.length : Int) == 0) == true then (
 some ⟨.d (.v (.bool true)), []⟩) else (
 some ⟨.d (.v (.bool false)), []⟩)) else (
 some ⟨.d (.v (.bool false)), []⟩)) else (
 some ⟨.d (.v (.bool false)), []⟩)) else (
 bif (n1 == 5) then (
 C8 T 132 [.d (.s 1 l4), .d (.v (.int .i64 300))] fun o45 =>
 oD o45.res fun d46 =>
 dB d46 fun b47 =>
 bif b47 == true then (
 bif (D9 s2 ({ data := #[] } : ByteArray)) == true then (
 bif (n3 == 0) == true then (
 bif ((l4.length : Int) == (l5.length : Int)) == true then (
 some ⟨.d (.v (.bool true)), []⟩) else (
 some ⟨.d (.v (.bool false)), []⟩)) else (
 some ⟨.d (.v (.bool false)), []⟩)) else (
 some ⟨.d (.v (.bool false)), []⟩)) else (
 bif (D9 s2 ({ data := #[] } : ByteArray)) == true then (
 bif (n3 == 0) == true then (
 some ⟨.d (.v (.bool false)), []⟩) else (
 some ⟨.d (.v (.bool false)), []⟩)) else (
 some ⟨.d (.v (.bool false)), []⟩))) else (
 some ⟨.d (.v (.bool false)), []⟩)))))) := by kernel_rfl
/- loop.example/g00119/impl.measured -/
def C7o : ACode := (
 .seq (.g [oB 19 .lss 18 17]) (
 .seq (.cond (.t 19) (.skip) (.exit 0)) (
 .seq (.block 1 (.seq (.g [oI 20 5 16 18, oL 21 [kI, .s, kI, .sl 1, .sl 5] 20, oQ 7 (.alloc [.v (.int .i64 0), .v (.string ByteArray.empty), .v (.int .i64 0), .s 1 [], .s 5 []]), oS (.store 5 (.t 7) (.t 21))]) (
 .seq (.g [oM 22 5, oL 23 [kI, .s, kI, .sl 1, .sl 5] 7, oM 24 1, oBi 25 .sub 24 1, oC 26 79 [.c kI] [23, 25], oB 27 .add 22 26, oM 5 27]) (
 .seq (.g [oM 28 5, oBi 29 .gtr 28 300]) (
 .cond (.t 29) (.seq (.g [oK 4 301]) (
 .ret)) (.skip)))))) (
 .g [oBi 30 .add 18 1, oM 18 30]))))
def C7p : K4 := [(.ret, [(4, .c kI)]), ((.exit 0), [(5, .c kI)])]
noncomputable def B6v (T : Table) (k : Nat) := K7 (J5 ⟨T, [], []⟩ k C7o (Ex × List AV)) [1, 5, 16, 17, 18] C7p
def a79 : AFun := ⟨[.rd, .rd], false, [.t 4], (
 .seq (.g [oQ 2 (.box (.t 0)), oK 4 0]) (
 .seq (.seq (.g [oM 8 1, oBi 9 .eql 8 0, oM 10 9, oJ 11 10 false (.load true [kI, .s, kI, .sl 1, .sl 5] (.t 2)), oJ 12 10 false (.call (.f 107) [.rd] false [.c .b] [.t 11]), oJ 13 10 false (.un .not (.t 12)), oQ 14 (.pick (.t 10) (.b true) (.t 13))]) (
 .cond (.t 14) (.seq (.g [oK 4 301]) (
 .ret)) (.skip))) (
 .seq (.g [oK 5 1]) (
 .seq (.seq (.g [oF 15 4 2, oW 16 (.sl 5) 15, oZ 17 16, oK 18 0]) (
 .block 0 (.loop [1, 5, 16, 17, 18] C7p C7o))) (
 .seq (.g [oM 31 5, oM 4 31]) (
 .ret))))))⟩
theorem C48 (T : Table) (k n : Nat) (n10 n11 n13 n14 : Int) (l12 : Rows): B6v T k (n + 1) [.v (.int .i64 n10), .v (.int .i64 n11), .fz 5 l12, .v (.int .i64 n13), .v (.int .i64 n14)] = (
 bif (decide (n14 < n13)) then (
 tst (decide (0 ≤ n14)) (
 look l12 (Int.toNat n14) fun r15 =>
 cI .i64 r15 0 fun n16 =>
 cS r15 1 fun s17 =>
 cI .i64 r15 2 fun n18 =>
 cL 1 r15 3 fun l19 =>
 cL 5 r15 4 fun l20 =>
 C8 T 79 [.g [.v (.int .i64 n16), .v (.string s17), .v (.int .i64 n18), .s 1 l19, .s 5 l20], .d (.v (.int .i64 (IntKind.wrap .i64 (n10 - 1))))] fun o21 =>
 oD o21.res fun d22 =>
 dI .i64 d22 fun n23 =>
 bif (decide ((IntKind.wrap .i64 (n11 + n23)) > 300)) then (
 some (.ret, [.v (.int .i64 301)])) else (
 B6v T k n [.v (.int .i64 n10), .v (.int .i64 (IntKind.wrap .i64 (n11 + n23))), .fz 5 l12, .v (.int .i64 n13), .v (.int .i64 (IntKind.wrap .i64 (n14 + 1)))]))) else (
 some ((.exit 0), [.v (.int .i64 n11)]))) := by kernel_rfl
theorem D23 (T : Table) (k : Nat) (n1 n3 n6 : Int) (s2 : ByteArray) (l4 l5 : Rows): H9 T k a79 [.g [.v (.int .i64 n1), .v (.string s2), .v (.int .i64 n3), .s 1 l4, .s 5 l5], .d (.v (.int .i64 n6))] = (
 bif (n6 == 0) == false then (
 C8 T 107 [.g [.v (.int .i64 n1), .v (.string s2), .v (.int .i64 n3), .s 1 l4, .s 5 l5]] fun o7 =>
 oD o7.res fun d8 =>
 dB d8 fun b9 =>
 bif (!b9) then (
 some ⟨.d (.v (.int .i64 301)), []⟩) else (
 aft (B6v T k k [.v (.int .i64 n6), .v (.int .i64 1), .fz 5 l5, .v (.int .i64 (l5.length : Int)), .v (.int .i64 0)]) fun e24 ys25 =>
 bif e24.same .ret then (
 aV ys25 0 fun x26 =>
 aI .i64 x26 fun n27 =>
 some ⟨.d (.v (.int .i64 n27)), []⟩) else (
 bif e24.same (.exit 0) then (
 aV ys25 0 fun x28 =>
 aI .i64 x28 fun n29 =>
 some ⟨.d (.v (.int .i64 n29)), []⟩) else (
 none)))) else (
 some ⟨.d (.v (.int .i64 301)), []⟩)) := by kernel_rfl
/- loop.example/g00119/impl.ValueOk -/
def a51 : AFun := ⟨[.rd], false, [.t 2], (
 .seq (.g [oQ 1 (.box (.t 0)), oV 2 false]) (
 .seq (.g [oL 3 [kI, .s, kI, .sl 1, .sl 5] 1, oQ 4 (.call (.f 79) [.rd, .rd] false [.c kI] [.t 3, .i 6]), oBi 5 .leq 4 300, oM 2 5]) (
 .ret)))⟩
theorem D3f (T : Table) (k : Nat) (n1 n3 : Int) (s2 : ByteArray) (l4 l5 : Rows): H9 T k a51 [.g [.v (.int .i64 n1), .v (.string s2), .v (.int .i64 n3), .s 1 l4, .s 5 l5]] = (
 C8 T 79 [.g [.v (.int .i64 n1), .v (.string s2), .v (.int .i64 n3), .s 1 l4, .s 5 l5], .d (.v (.int .i64 6))] fun o6 =>
 oD o6.res fun d7 =>
 dI .i64 d7 fun n8 =>
 some ⟨.d (.v (.bool (decide (n8 ≤ 300)))), []⟩) := by kernel_rfl
/- loop.example/g00119/impl.WorksOk -/
def C7q : ACode := (
 .seq (.g [oB 8 .lss 7 6]) (
 .seq (.cond (.t 8) (.skip) (.exit 0)) (
 .seq (.block 1 (.seq (.g [oM 9 7, oI 10 7 5 7, oL 11 [kI, kI, kI, .s, kI, .sl 1, .sl 5] 10, oQ 4 (.alloc [.v (.int .i64 0), .v (.int .i64 0), .v (.int .i64 0), .v (.string ByteArray.empty), .v (.int .i64 0), .s 1 [], .s 5 []]), oM 3 9, oS (.store 7 (.t 4) (.t 11))]) (
 .seq (.dreg [] [(0, oF 12 0 4), (0, oW 13 kI 12), (1, oQ 14 (.call (.f 25) [.rd, .rd, .rd] false [.c .b] [.t 13, .i 1, .i 1000000])), (0, oN 15 14), (0, oM 16 15), (0, oJ 17 16 false (.fad 1 (.t 4))), (0, oJ 18 16 false (.load false [kI] (.t 17))), (1, oJ 19 16 false (.call (.f 25) [.rd, .rd, .rd] false [.c .b] [.t 18, .i 1, .i 10000])), (0, oJ 20 16 false (.un .not (.t 19))), (0, oQ 21 (.pick (.t 16) (.b true) (.t 20))), (0, oM 22 21), (0, oJ 23 22 false (.fad 2 (.t 4))), (0, oJ 24 22 false (.load true [kI, .s, kI, .sl 1, .sl 5] (.t 23))), (1, oJ 25 22 false (.call (.f 51) [.rd] false [.c .b] [.t 24])), (0, oJ 26 22 false (.un .not (.t 25))), (0, oQ 27 (.pick (.t 22) (.b true) (.t 26))), (0, oM 28 27), (0, oJ 29 28 false (.mv (.t 3))), (0, oJ 30 28 false (.bin .gtr (.t 29) (.i 0))), (0, oJ 31 28 false (.mv (.t 30))), (0, oJ 32 31 true (.mv (.t 0))), (0, oJ 33 31 true (.mv (.t 3))), (0, oJ 34 31 true (.bin .sub (.t 33) (.i 1))), (0, oJ 35 31 true (.iad 7 (.t 32) (.t 34))), (0, oJ 36 31 true (.fad 0 (.t 35))), (0, oJ 37 31 true (.load false [kI] (.t 36))), (0, oJ 38 31 true (.fad 0 (.t 4))), (0, oJ 39 31 true (.load false [kI] (.t 38)))] [oJ 40 31 true (.bin .geq (.t 37) (.t 39)), oJ 41 28 false (.pick (.t 31) (.t 40) (.b false)), oQ 42 (.pick (.t 28) (.b true) (.t 41))]) (
 .cond (.t 42) (.seq (.g [oV 2 false]) (
 .ret)) (.skip))))) (
 .g [oBi 43 .add 7 1, oM 7 43]))))
def C7r : K4 := [(.ret, [(2, .c .b)]), ((.exit 0), [(0, .c (.sl 7))])]
noncomputable def B31 (T : Table) (k : Nat) := K7 (J5 ⟨T, [], []⟩ k C7q (Ex × List AV)) [0, 5, 6, 7] C7r
def a27 : AFun := ⟨[.rd], false, [.t 2], (
 .seq (.g [oV 2 false]) (
 .seq (.seq (.g [oM 5 0, oZ 6 5, oK 7 0]) (
 .block 0 (.loop [0, 5, 6, 7] C7r C7q))) (
 .seq (.g [oM 44 0, oZ 45 44, oBi 46 .leq 45 40, oM 2 46]) (
 .ret))))⟩
theorem C49 (T : Table) (k n : Nat) (l2 l3 : Rows) (n4 n5 : Int): B31 T k (n + 1) [.fz 7 l2, .fz 7 l3, .v (.int .i64 n4), .v (.int .i64 n5)] = (
 bif (decide (n5 < n4)) then (
 tst (decide (0 ≤ n5)) (
 look l3 (Int.toNat n5) fun r6 =>
 cI .i64 r6 0 fun n7 =>
 cI .i64 r6 1 fun n8 =>
 cI .i64 r6 2 fun n9 =>
 cS r6 3 fun s10 =>
 cI .i64 r6 4 fun n11 =>
 cL 1 r6 5 fun l12 =>
 cL 5 r6 6 fun l13 =>
 C8 T 25 [.d (.v (.int .i64 n7)), .d (.v (.int .i64 1)), .d (.v (.int .i64 1000000))] fun o14 =>
 oD o14.res fun d15 =>
 dB d15 fun b16 =>
 bif (!b16) == false then (
 C8 T 25 [.d (.v (.int .i64 n8)), .d (.v (.int .i64 1)), .d (.v (.int .i64 10000))] fun o17 =>
 oD o17.res fun d18 =>
 dB d18 fun b19 =>
 bif (!b19) == false then (
 C8 T 51 [.g [.v (.int .i64 n9), .v (.string s10), .v (.int .i64 n11), .s 1 l12, .s 5 l13]] fun o20 =>
 oD o20.res fun d21 =>
 dB d21 fun b22 =>
 bif (!b22) == false then (
 bif (decide (n5 > 0)) == true then (
 tst (decide (0 ≤ (IntKind.wrap .i64 (n5 - 1)))) (
 look l2 (Int.toNat (IntKind.wrap .i64 (n5 - 1))) fun r23 =>
 cI .i64 r23 0 fun n24 =>
 bif (decide (n24 ≥ n7)) then (
 some (.ret, [.v (.bool false)])) else (
 B31 T k n [.fz 7 l2, .fz 7 l3, .v (.int .i64 n4), .v (.int .i64 (IntKind.wrap .i64 (n5 + 1)))]))) else (
 B31 T k n [.fz 7 l2, .fz 7 l3, .v (.int .i64 n4), .v (.int .i64 (IntKind.wrap .i64 (n5 + 1)))])) else (
 some (.ret, [.v (.bool false)]))) else (
 some (.ret, [.v (.bool false)]))) else (
 some (.ret, [.v (.bool false)])))) else (
 some ((.exit 0), [.fz 7 l2]))) := by kernel_rfl
theorem D3g (T : Table) (k : Nat) (l1 : Rows): H9 T k a27 [.d (.s 7 l1)] = (
 aft (B31 T k k [.fz 7 l1, .fz 7 l1, .v (.int .i64 (l1.length : Int)), .v (.int .i64 0)]) fun e25 ys26 =>
 bif e25.same .ret then (
 aV ys26 0 fun x27 =>
 aB x27 fun b28 =>
 some ⟨.d (.v (.bool b28)), []⟩) else (
 bif e25.same (.exit 0) then (
 aV ys26 0 fun x29 =>
 aL 7 x29 fun l30 =>
 some ⟨.d (.v (.bool (decide ((l30.length : Int) ≤ 40)))), []⟩) else (
 none))) := by kernel_rfl
/- loop.example/g00119/impl.MsgOk -/
def a9 : AFun := ⟨[.rd], false, [.t 2], (
 .seq (.g [oQ 1 (.box (.t 0)), oV 2 false]) (
 .seq (.seq (.g [oF 3 0 1, oW 4 kI 3]) (
 .block 0 (.seq (.g [oBi 6 .eql 4 1, oM 5 6]) (
 .cond (.t 5) (.seq (.g [oF 7 1 1, oW 8 .s 7, oC 9 24 [.c .b] [8], oM 10 9, oJ 11 10 true (.fad 2 (.t 1)), oJ 12 10 true (.load false [kI] (.t 11)), oJ 13 10 true (.call (.f 25) [.rd, .rd, .rd] false [.c .b] [.t 12, .i 0, .i 1000000]), oQ 14 (.pick (.t 10) (.t 13) (.b false)), oM 15 14, oJ 16 15 true (.fad 4 (.t 1)), oJ 17 15 true (.load false [.sl 2] (.t 16)), oJ 18 15 true (.call (.f 26) [.rd] false [.c .b] [.t 17]), oQ 19 (.pick (.t 15) (.t 18) (.b false)), oM 20 19, oJ 21 20 true (.fad 3 (.t 1)), oJ 22 20 true (.load false [.sl 7] (.t 21)), oJ 23 20 true (.len false (.t 22)), oJ 24 20 true (.bin .eql (.t 23) (.i 0)), oQ 25 (.pick (.t 20) (.t 24) (.b false)), oM 2 25]) (
 .ret)) (.seq (.g [oBi 27 .eql 4 2, oM 26 27]) (
 .cond (.t 26) (.seq (.g [oF 28 1 1, oW 29 .s 28, oC 30 24 [.c .b] [29], oM 31 30, oJ 32 31 true (.fad 2 (.t 1)), oJ 33 31 true (.load false [kI] (.t 32)), oJ 34 31 true (.call (.f 25) [.rd, .rd, .rd] false [.c .b] [.t 33, .i 1, .i 1000000]), oQ 35 (.pick (.t 31) (.t 34) (.b false)), oM 36 35, oJ 37 36 true (.fad 3 (.t 1)), oJ 38 36 true (.load false [.sl 7] (.t 37)), oJ 39 36 true (.call (.f 27) [.rd] false [.c .b] [.t 38]), oQ 40 (.pick (.t 36) (.t 39) (.b false)), oM 41 40, oJ 42 41 true (.fad 4 (.t 1)), oJ 43 41 true (.load false [.sl 2] (.t 42)), oJ 44 41 true (.len false (.t 43)), oJ 45 41 true (.bin .eql (.t 44) (.i 0)), oQ 46 (.pick (.t 41) (.t 45) (.b false)), oM 2 46]) (
 .ret)) (.skip))))))) (
 .seq (.g [oV 2 false]) (
 .ret))))⟩
theorem a9q (T : Table) (k : Nat) (n1 n3 : Int) (s2 : ByteArray) (l4 l5 : Rows): H9 T k a9 [.g [.v (.int .i64 n1), .v (.string s2), .v (.int .i64 n3), .s 7 l4, .s 2 l5]] = (
 bif (n1 == 1) then (
 C8 T 24 [.d (.v (.string s2))] fun o6 =>
 oD o6.res fun d7 =>
 dB d7 fun b8 =>
 bif b8 == true then (
 C8 T 25 [.d (.v (.int .i64 n3)), .d (.v (.int .i64 0)), .d (.v (.int .i64 1000000))] fun o9 =>
 oD o9.res fun d10 =>
 dB d10 fun b11 =>
 bif b11 == true then (
 C8 T 26 [.d (.s 2 l5)] fun o12 =>
 oD o12.res fun d13 =>
 dB d13 fun b14 =>
 bif b14 == true then (
 some ⟨.d (.v (.bool ((l4.length : Int) == 0))), []⟩) else (
 some ⟨.d (.v (.bool false)), []⟩)) else (
 some ⟨.d (.v (.bool false)), []⟩)) else (
 some ⟨.d (.v (.bool false)), []⟩)) else (
 bif (n1 == 2) then (
 C8 T 24 [.d (.v (.string s2))] fun o15 =>
 oD o15.res fun d16 =>
 dB d16 fun b17 =>
 bif b17 == true then (
 C8 T 25 [.d (.v (.int .i64 n3)), .d (.v (.int .i64 1)), .d (.v (.int .i64 1000000))] fun o18 =>
 oD o18.res fun d19 =>
 dB d19 fun b20 =>
 bif b20 == true then (
 C8 T 27 [.d (.s 7 l4)] fun o21 =>
 oD o21.res fun d22 =>
 dB d22 fun b23 =>
 bif b23 == true then (
 some ⟨.d (.v (.bool ((l5.length : Int) == 0))), []⟩) else (
 some ⟨.d (.v (.bool false)), []⟩)) else (
 some ⟨.d (.v (.bool false)), []⟩)) else (
 some ⟨.d (.v (.bool false)), []⟩)) else (
 some ⟨.d (.v (.bool false)), []⟩))) := by kernel_rfl
/- loop.example/g00119/impl.decimal -/
def a18 : AFun := ⟨[.rd], false, [.t 2], (
 .seq (.g [oQ 2 (.mv (.c (.v (.string ({ data := #[] } : ByteArray)))))]) (
 .seq (.block 0 (.seq (.g [oM 4 0, oBi 5 .lss 4 0, oM 6 5, oJ 7 6 true (.mv (.t 0)), oJ 8 6 true (.bin .gtr (.t 7) (.i (-10))), oQ 9 (.pick (.t 6) (.t 8) (.b false)), oM 3 9]) (
 .cond (.t 3) (.seq (.g [oM 10 0, oQ 11 (.un .neg (.t 10)), oC 12 18 [.c .s] [11], oQ 13 (.bin .add (.c (.v (.string ({ data := #[45] } : ByteArray)))) (.t 12)), oM 2 13]) (
 .ret)) (.seq (.g [oM 15 0, oBi 16 .lss 15 0, oM 14 16]) (
 .cond (.t 14) (.seq (.g [oM 17 0, oBi 18 .quo 17 10, oC 19 18 [.c .s] [18], oM 20 0, oBi 21 .rem 20 10, oQ 22 (.un .neg (.t 21)), oC 23 18 [.c .s] [22], oB 24 .add 19 23, oM 2 24]) (
 .ret)) (.seq (.g [oM 26 0, oBi 27 .lss 26 10, oM 25 27]) (
 .cond (.t 25) (.seq (.g [oM 28 0, oQ 29 (.bin .add (.i 48) (.t 28)), oQ 30 (.conv (.int .i32) (.t 29)), oQ 31 (.conv .intStr (.t 30)), oM 2 31]) (
 .ret)) (.skip)))))))) (
 .seq (.g [oM 32 0, oBi 33 .quo 32 10, oC 34 18 [.c .s] [33], oM 35 0, oBi 36 .rem 35 10, oQ 37 (.bin .add (.i 48) (.t 36)), oQ 38 (.conv (.int .i32) (.t 37)), oQ 39 (.conv .intStr (.t 38)), oB 40 .add 34 39, oM 2 40]) (
 .ret))))⟩
theorem D0l (T : Table) (k : Nat) (n1 : Int): H9 T k a18 [.d (.v (.int .i64 n1))] = (
 bif (decide (n1 < 0)) == true then (
 bif (decide (n1 > (-10))) then (
 C8 T 18 [.d (.v (.int .i64 (IntKind.wrap .i64 (0 - n1))))] fun o2 =>
 oD o2.res fun d3 =>
 dS d3 fun s4 =>
 tst (decide (({ data := #[45] } : ByteArray).size + s4.size ≤ maxLen)) (
 some ⟨.d (.v (.string (({ data := #[45] } : ByteArray) ++ s4))), []⟩)) else (
 bif (decide (n1 < 0)) then (
 tst (decide (10 ≠ 0)) (
 C8 T 18 [.d (.v (.int .i64 (IntKind.wrap .i64 (Int.tdiv n1 10))))] fun o5 =>
 oD o5.res fun d6 =>
 dS d6 fun s7 =>
 tst (decide (10 ≠ 0)) (
 C8 T 18 [.d (.v (.int .i64 (IntKind.wrap .i64 (0 - (Int.tmod n1 10)))))] fun o8 =>
 oD o8.res fun d9 =>
 dS d9 fun s10 =>
 tst (decide (s7.size + s10.size ≤ maxLen)) (
 some ⟨.d (.v (.string (s7 ++ s10))), []⟩)))) else (
 bif (decide (n1 < 10)) then (
 some ⟨.d (.v (.string (Utf8.encode (IntKind.wrap .i32 (IntKind.wrap .i64 (48 + n1)))))), []⟩) else (
 tst (decide (10 ≠ 0)) (
 C8 T 18 [.d (.v (.int .i64 (IntKind.wrap .i64 (Int.tdiv n1 10))))] fun o11 =>
 oD o11.res fun d12 =>
 dS d12 fun s13 =>
 tst (decide (10 ≠ 0)) (
 tst (decide (s13.size + (Utf8.encode (IntKind.wrap .i32 (IntKind.wrap .i64 (48 + (Int.tmod n1 10))))).size ≤ maxLen)) (
 some ⟨.d (.v (.string (s13 ++ (Utf8.encode (IntKind.wrap .i32 (IntKind.wrap .i64 (48 + (Int.tmod n1 10)))))))), []⟩))))))) else (
 bif (decide (n1 < 0)) then (
 tst (decide (10 ≠ 0)) (
 C8 T 18 [.d (.v (.int .i64 (IntKind.wrap .i64 (Int.tdiv n1 10))))] fun o14 =>
 oD o14.res fun d15 =>
 dS d15 fun s16 =>
 tst (decide (10 ≠ 0)) (
 C8 T 18 [.d (.v (.int .i64 (IntKind.wrap .i64 (0 - (Int.tmod n1 10)))))] fun o17 =>
 oD o17.res fun d18 =>
 dS d18 fun s19 =>
 tst (decide (s16.size + s19.size ≤ maxLen)) (
 some ⟨.d (.v (.string (s16 ++ s19))), []⟩)))) else (
 bif (decide (n1 < 10)) then (
 some ⟨.d (.v (.string (Utf8.encode (IntKind.wrap .i32 (IntKind.wrap .i64 (48 + n1)))))), []⟩) else (
 tst (decide (10 ≠ 0)) (
 C8 T 18 [.d (.v (.int .i64 (IntKind.wrap .i64 (Int.tdiv n1 10))))] fun o20 =>
 oD o20.res fun d21 =>
 dS d21 fun s22 =>
 tst (decide (10 ≠ 0)) (
 tst (decide (s22.size + (Utf8.encode (IntKind.wrap .i32 (IntKind.wrap .i64 (48 + (Int.tmod n1 10))))).size ≤ maxLen)) (
 some ⟨.d (.v (.string (s22 ++ (Utf8.encode (IntKind.wrap .i32 (IntKind.wrap .i64 (48 + (Int.tmod n1 10)))))))), []⟩))))))) := by kernel_rfl
/- loop.example/g00119/impl.quoted -/
def a80 : AFun := ⟨[.rd], false, [.t 2], (
 .seq (.g [oQ 2 (.mv (.c (.v (.string ({ data := #[] } : ByteArray)))))]) (
 .seq (.g [oM 3 0, oQ 4 (.call (.f 108) [.rd, .rd, .rd] false [.c .s] [.t 3, .c (.v (.string ({ data := #[92] } : ByteArray))), .c (.v (.string ({ data := #[92, 92] } : ByteArray)))]), oQ 5 (.call (.f 108) [.rd, .rd, .rd] false [.c .s] [.t 4, .c (.v (.string ({ data := #[34] } : ByteArray))), .c (.v (.string ({ data := #[92, 34] } : ByteArray)))]), oQ 6 (.bin .add (.c (.v (.string ({ data := #[34] } : ByteArray)))) (.t 5)), oQ 7 (.bin .add (.t 6) (.c (.v (.string ({ data := #[34] } : ByteArray))))), oM 2 7]) (
 .ret)))⟩
theorem D3h (T : Table) (k : Nat) (s1 : ByteArray): H9 T k a80 [.d (.v (.string s1))] = (
 C8 T 108 [.d (.v (.string s1)), .d (.v (.string ({ data := #[92] } : ByteArray))), .d (.v (.string ({ data := #[92, 92] } : ByteArray)))] fun o2 =>
 oD o2.res fun d3 =>
 dS d3 fun s4 =>
 C8 T 108 [.d (.v (.string s4)), .d (.v (.string ({ data := #[34] } : ByteArray))), .d (.v (.string ({ data := #[92, 34] } : ByteArray)))] fun o5 =>
 oD o5.res fun d6 =>
 dS d6 fun s7 =>
 tst (decide (({ data := #[34] } : ByteArray).size + s7.size ≤ maxLen)) (
 tst (decide ((({ data := #[34] } : ByteArray) ++ s7).size + ({ data := #[34] } : ByteArray).size ≤ maxLen)) (
 some ⟨.d (.v (.string ((({ data := #[34] } : ByteArray) ++ s7) ++ ({ data := #[34] } : ByteArray)))), []⟩))) := by kernel_rfl
-- a81 "strings.Join": op makeInterface
/- loop.example/g00119/impl.written -/
def C7s : ACode := (
 .seq (.g [oB 30 .lss 29 28]) (
 .seq (.cond (.t 30) (.skip) (.exit 1)) (
 .seq (.block 2 (.seq (.g [oM 31 29, oI 32 5 27 29, oL 33 [kI, .s, kI, .sl 1, .sl 5] 32, oQ 5 (.alloc [.v (.int .i64 0), .v (.string ByteArray.empty), .v (.int .i64 0), .s 1 [], .s 5 []]), oM 4 31, oS (.store 5 (.t 5) (.t 33))]) (
 .seq (.g [oL 34 [kI, .s, kI, .sl 1, .sl 5] 5, oC 35 52 [.c .s] [34], oM 6 35]) (
 .seq (.seq (.g [oF 36 0 1, oW 37 kI 36, oBi 38 .eql 37 5]) (
 .cond (.t 38) (.g [oF 39 3 1, oW 40 (.sl 1) 39, oM 41 4, oI 42 1 40 41, oW 43 .s 42, oQ 44 (.bin .add (.t 43) (.c (.v (.string ({ data := #[58] } : ByteArray))))), oM 45 6, oB 46 .add 44 45, oM 6 46]) (.skip))) (
 .g [oM 47 3, oM 48 6, oQ 49 (.lit 1 ([[.v (.string ByteArray.empty)]] : Rows) [(0, (.t 48))]), oQ 50 (.app 1 16 (.t 47) (.t 49)), oM 3 50]))))) (
 .g [oBi 51 .add 29 1, oM 29 51]))))
def C7t : K4 := [((.exit 1), [(1, .b [.c kI, .c .s, .c kI, .c (.sl 1), .c (.sl 5)]), (3, .o 1)])]
noncomputable def B32 (T : Table) (k : Nat) := K7 (J5 ⟨T, [], []⟩ k C7s (Ex × List AV)) [1, 3, 27, 28, 29] C7t
def a52 : AFun := ⟨[.rd], false, [.t 2], (
 .seq (.g [oQ 1 (.box (.t 0)), oQ 2 (.mv (.c (.v (.string ({ data := #[] } : ByteArray)))))]) (
 .seq (.seq (.g [oF 8 0 1, oW 9 kI 8]) (
 .block 0 (.seq (.g [oBi 11 .eql 9 1, oM 10 11]) (
 .cond (.t 10) (.seq (.g [oF 12 1 1, oW 13 .s 12, oC 14 80 [.c .s] [13], oM 2 14]) (
 .ret)) (.seq (.g [oBi 16 .eql 9 2, oM 15 16]) (
 .cond (.t 15) (.seq (.g [oF 17 2 1, oW 18 kI 17, oC 19 18 [.c .s] [18], oM 2 19]) (
 .ret)) (.seq (.g [oBi 21 .eql 9 3, oM 20 21]) (
 .cond (.t 20) (.seq (.seq (.g [oF 22 2 1, oW 23 kI 22, oBi 24 .eql 23 1]) (
 .cond (.t 24) (.seq (.g [oQ 2 (.mv (.c (.v (.string ({ data := #[116, 114, 117, 101] } : ByteArray)))))]) (
 .ret)) (.skip))) (
 .seq (.g [oQ 2 (.mv (.c (.v (.string ({ data := #[102, 97, 108, 115, 101] } : ByteArray)))))]) (
 .ret))) (.skip))))))))) (
 .seq (.g [oQ 25 (.lit 1 ([] : Rows) []), oM 3 25]) (
 .seq (.seq (.g [oF 26 4 1, oW 27 (.sl 5) 26, oZ 28 27, oK 29 0]) (
 .block 1 (.loop [1, 3, 27, 28, 29] C7t C7s))) (
 .seq (.g [oM 52 3, oQ 53 (.call (.f 81) [.rd, .rd] false [.c .s] [.t 52, .c (.v (.string ({ data := #[44] } : ByteArray)))]), oM 7 53]) (
 .seq (.seq (.g [oF 54 0 1, oW 55 kI 54, oBi 56 .eql 55 5]) (
 .cond (.t 56) (.seq (.g [oM 57 7, oQ 58 (.bin .add (.c (.v (.string ({ data := #[123] } : ByteArray)))) (.t 57)), oQ 59 (.bin .add (.t 58) (.c (.v (.string ({ data := #[125] } : ByteArray))))), oM 2 59]) (
 .ret)) (.skip))) (
 .seq (.g [oM 60 7, oQ 61 (.bin .add (.c (.v (.string ({ data := #[91] } : ByteArray)))) (.t 60)), oQ 62 (.bin .add (.t 61) (.c (.v (.string ({ data := #[93] } : ByteArray))))), oM 2 62]) (
 .ret))))))))⟩
theorem C4a (T : Table) (k n : Nat) (n12 n14 n19 n20 : Int) (s13 : ByteArray) (l15 l16 l17 l18 : Rows): B32 T k (n + 1) [.b [.v (.int .i64 n12), .v (.string s13), .v (.int .i64 n14), .fz 1 l15, .fz 5 l16], .o 1 l17, .fz 5 l18, .v (.int .i64 n19), .v (.int .i64 n20)] = (
 bif (decide (n20 < n19)) then (
 tst (decide (0 ≤ n20)) (
 look l18 (Int.toNat n20) fun r21 =>
 cI .i64 r21 0 fun n22 =>
 cS r21 1 fun s23 =>
 cI .i64 r21 2 fun n24 =>
 cL 1 r21 3 fun l25 =>
 cL 5 r21 4 fun l26 =>
 C8 T 52 [.g [.v (.int .i64 n22), .v (.string s23), .v (.int .i64 n24), .s 1 l25, .s 5 l26]] fun o27 =>
 oD o27.res fun d28 =>
 dS d28 fun s29 =>
 bif (n12 == 5) then (
 tst (decide (0 ≤ n20)) (
 look l15 (Int.toNat n20) fun r30 =>
 cS r30 0 fun s31 =>
 tst (decide (s31.size + ({ data := #[58] } : ByteArray).size ≤ maxLen)) (
 tst (decide ((s31 ++ ({ data := #[58] } : ByteArray)).size + s29.size ≤ maxLen)) (
 tst (decide ((l17.length + ([[.v (.string ((s31 ++ ({ data := #[58] } : ByteArray)) ++ s29))]] : Rows).length) * 16 ≤ D7)) (
 B32 T k n [.b [.v (.int .i64 n12), .v (.string s13), .v (.int .i64 n14), .fz 1 l15, .fz 5 l16], .o 1 (l17 ++ ([[.v (.string ((s31 ++ ({ data := #[58] } : ByteArray)) ++ s29))]] : Rows)), .fz 5 l18, .v (.int .i64 n19), .v (.int .i64 (IntKind.wrap .i64 (n20 + 1)))]))))) else (
 tst (decide ((l17.length + ([[.v (.string s29)]] : Rows).length) * 16 ≤ D7)) (
 B32 T k n [.b [.v (.int .i64 n12), .v (.string s13), .v (.int .i64 n14), .fz 1 l15, .fz 5 l16], .o 1 (l17 ++ ([[.v (.string s29)]] : Rows)), .fz 5 l18, .v (.int .i64 n19), .v (.int .i64 (IntKind.wrap .i64 (n20 + 1)))])))) else (
 some ((.exit 1), [.b [.v (.int .i64 n12), .v (.string s13), .v (.int .i64 n14), .fz 1 l15, .fz 5 l16], .o 1 l17]))) := by kernel_rfl
theorem D3i (T : Table) (k : Nat) (n1 n3 : Int) (s2 : ByteArray) (l4 l5 : Rows): H9 T k a52 [.g [.v (.int .i64 n1), .v (.string s2), .v (.int .i64 n3), .s 1 l4, .s 5 l5]] = (
 bif (n1 == 1) then (
 C8 T 80 [.d (.v (.string s2))] fun o6 =>
 oD o6.res fun d7 =>
 dS d7 fun s8 =>
 some ⟨.d (.v (.string s8)), []⟩) else (
 bif (n1 == 2) then (
 C8 T 18 [.d (.v (.int .i64 n3))] fun o9 =>
 oD o9.res fun d10 =>
 dS d10 fun s11 =>
 some ⟨.d (.v (.string s11)), []⟩) else (
 bif (n1 == 3) then (
 bif (n3 == 1) then (
 some ⟨.d (.v (.string ({ data := #[116, 114, 117, 101] } : ByteArray))), []⟩) else (
 some ⟨.d (.v (.string ({ data := #[102, 97, 108, 115, 101] } : ByteArray))), []⟩)) else (
 aft (B32 T k k [.b [.v (.int .i64 n1), .v (.string s2), .v (.int .i64 n3), .fz 1 l4, .fz 5 l5], .o 1 [], .fz 5 l5, .v (.int .i64 (l5.length : Int)), .v (.int .i64 0)]) fun e32 ys33 =>
 bif e32.same (.exit 1) then (
 aV ys33 0 fun x34 =>
 aX x34 fun xs35 =>
 aV xs35 0 fun x36 =>
 aI .i64 x36 fun n37 =>
 aV xs35 1 fun x38 =>
 aS x38 fun s39 =>
 aV xs35 2 fun x40 =>
 aI .i64 x40 fun n41 =>
 aV xs35 3 fun x42 =>
 aL 1 x42 fun l43 =>
 aV xs35 4 fun x44 =>
 aL 5 x44 fun l45 =>
 aV ys33 1 fun x46 =>
 aO 1 x46 fun l47 =>
 C8 T 81 [.d (.s 1 l47), .d (.v (.string ({ data := #[44] } : ByteArray)))] fun o48 =>
 oD o48.res fun d49 =>
 dS d49 fun s50 =>
 bif (n37 == 5) then (
 tst (decide (({ data := #[123] } : ByteArray).size + s50.size ≤ maxLen)) (
 tst (decide ((({ data := #[123] } : ByteArray) ++ s50).size + ({ data := #[125] } : ByteArray).size ≤ maxLen)) (
 some ⟨.d (.v (.string ((({ data := #[123] } : ByteArray) ++ s50) ++ ({ data := #[125] } : ByteArray)))), []⟩))) else (
 tst (decide (({ data := #[91] } : ByteArray).size + s50.size ≤ maxLen)) (
 tst (decide ((({ data := #[91] } : ByteArray) ++ s50).size + ({ data := #[93] } : ByteArray).size ≤ maxLen)) (
 some ⟨.d (.v (.string ((({ data := #[91] } : ByteArray) ++ s50) ++ ({ data := #[93] } : ByteArray)))), []⟩)))) else (
 none))))) := by kernel_rfl
/- loop.example/g00119/impl.ValueText -/
def a19 : AFun := ⟨[.rd], false, [.t 2], (
 .seq (.g [oQ 1 (.box (.t 0)), oQ 2 (.mv (.c (.v (.string ({ data := #[] } : ByteArray)))))]) (
 .seq (.seq (.g [oL 3 [kI, .s, kI, .sl 1, .sl 5] 1, oC 4 51 [.c .b] [3], oN 5 4]) (
 .cond (.t 5) (.seq (.g [oQ 2 (.mv (.c (.v (.string ({ data := #[] } : ByteArray)))))]) (
 .ret)) (.skip))) (
 .seq (.g [oL 6 [kI, .s, kI, .sl 1, .sl 5] 1, oC 7 52 [.c .s] [6], oM 2 7]) (
 .ret))))⟩
theorem D3j (T : Table) (k : Nat) (n1 n3 : Int) (s2 : ByteArray) (l4 l5 : Rows): H9 T k a19 [.g [.v (.int .i64 n1), .v (.string s2), .v (.int .i64 n3), .s 1 l4, .s 5 l5]] = (
 C8 T 51 [.g [.v (.int .i64 n1), .v (.string s2), .v (.int .i64 n3), .s 1 l4, .s 5 l5]] fun o6 =>
 oD o6.res fun d7 =>
 dB d7 fun b8 =>
 bif (!b8) then (
 some ⟨.d (.v (.string ({ data := #[] } : ByteArray))), []⟩) else (
 C8 T 52 [.g [.v (.int .i64 n1), .v (.string s2), .v (.int .i64 n3), .s 1 l4, .s 5 l5]] fun o9 =>
 oD o9.res fun d10 =>
 dS d10 fun s11 =>
 some ⟨.d (.v (.string s11)), []⟩)) := by kernel_rfl
/- loop.example/g00119/impl.MsgText -/
def D24 : ACode := (
 .seq (.g [oB 29 .lss 28 27]) (
 .seq (.cond (.t 29) (.skip) (.exit 0)) (
 .seq (.block 1 (.seq (.g [oI 30 2 26 28, oL 31 [kI, kI] 30, oQ 6 (.alloc [.v (.int .i64 0), .v (.int .i64 0)]), oS (.store 2 (.t 6) (.t 31))]) (
 .dreg [] [(3, oM 32 4), (0, oF 33 0 6), (0, oW 34 kI 33), (1, oC 35 18 [.c .s] [34]), (3, oQ 36 (.bin .add (.t 35) (.c (.v (.string ({ data := #[32] } : ByteArray)))))), (0, oF 37 1 6), (0, oW 38 kI 37)] [oC 39 18 [.c .s] [38], oB 40 .add 36 39, oQ 41 (.bin .add (.t 40) (.c (.v (.string ({ data := #[10] } : ByteArray))))), oB 42 .add 32 41, oM 4 42]))) (
 .g [oBi 43 .add 28 1, oM 28 43]))))
def D25 : K4 := [((.exit 0), [(1, .b [.c kI, .c .s, .c kI, .c (.sl 7), .c (.sl 2)]), (4, .c .s)])]
noncomputable def B6w (T : Table) (k : Nat) := K7 (J5 ⟨T, [], []⟩ k D24 (Ex × List AV)) [1, 4, 26, 27, 28] D25
def D26 : ACode := (
 .seq (.g [oB 48 .lss 47 46]) (
 .seq (.cond (.t 48) (.skip) (.exit 2)) (
 .seq (.block 3 (.seq (.g [oI 49 7 45 47, oL 50 [kI, kI, kI, .s, kI, .sl 1, .sl 5] 49, oQ 8 (.alloc [.v (.int .i64 0), .v (.int .i64 0), .v (.int .i64 0), .v (.string ByteArray.empty), .v (.int .i64 0), .s 1 [], .s 5 []]), oS (.store 7 (.t 8) (.t 50))]) (
 .dreg [] [(3, oM 51 4), (0, oF 52 0 8), (0, oW 53 kI 52), (1, oC 54 18 [.c .s] [53]), (3, oQ 55 (.bin .add (.t 54) (.c (.v (.string ({ data := #[32] } : ByteArray)))))), (0, oF 56 1 8), (0, oW 57 kI 56), (1, oC 58 18 [.c .s] [57]), (3, oB 59 .add 55 58), (3, oQ 60 (.bin .add (.t 59) (.c (.v (.string ({ data := #[32] } : ByteArray)))))), (0, oF 61 2 8), (0, oL 62 [kI, .s, kI, .sl 1, .sl 5] 61)] [oC 63 19 [.c .s] [62], oB 64 .add 60 63, oQ 65 (.bin .add (.t 64) (.c (.v (.string ({ data := #[10] } : ByteArray))))), oB 66 .add 51 65, oM 4 66]))) (
 .g [oBi 67 .add 47 1, oM 47 67]))))
def D27 : K4 := [((.exit 2), [(4, .c .s)])]
noncomputable def B4o (T : Table) (k : Nat) := K7 (J5 ⟨T, [], []⟩ k D26 (Ex × List AV)) [4, 45, 46, 47] D27
def a7 : AFun := ⟨[.rd], false, [.t 2], (
 .seq (.g [oQ 1 (.box (.t 0)), oQ 2 (.mv (.c (.v (.string ({ data := #[] } : ByteArray)))))]) (
 .seq (.seq (.g [oL 9 [kI, .s, kI, .sl 7, .sl 2] 1, oC 10 9 [.c .b] [9], oN 11 10]) (
 .cond (.t 11) (.seq (.g [oQ 2 (.mv (.c (.v (.string ({ data := #[] } : ByteArray)))))]) (
 .ret)) (.skip))) (
 .seq (.g [oQ 3 (.mv (.c (.v (.string ({ data := #[116, 101, 108, 108, 32] } : ByteArray)))))]) (
 .seq (.seq (.g [oF 12 0 1, oW 13 kI 12, oBi 14 .eql 13 2]) (
 .cond (.t 14) (.g [oQ 3 (.mv (.c (.v (.string ({ data := #[108, 105, 115, 116, 32] } : ByteArray)))))]) (.skip))) (
 .seq (.dreg [] [(0, oM 15 3), (0, oF 16 1 1), (0, oW 17 .s 16), (0, oB 18 .add 15 17), (0, oQ 19 (.bin .add (.t 18) (.c (.v (.string ({ data := #[32] } : ByteArray)))))), (0, oF 20 2 1), (0, oW 21 kI 20), (1, oC 22 18 [.c .s] [21])] [oB 23 .add 19 22, oQ 24 (.bin .add (.t 23) (.c (.v (.string ({ data := #[10] } : ByteArray))))), oM 4 24]) (
 .seq (.seq (.g [oF 25 4 1, oW 26 (.sl 2) 25, oZ 27 26, oK 28 0]) (
 .block 0 (.loop [1, 4, 26, 27, 28] D25 D24))) (
 .seq (.seq (.g [oF 44 3 1, oW 45 (.sl 7) 44, oZ 46 45, oK 47 0]) (
 .block 2 (.loop [4, 45, 46, 47] D27 D26))) (
 .seq (.g [oM 68 4, oM 2 68]) (
 .ret)))))))))⟩
theorem C7u (T : Table) (k n : Nat) (n12 n14 n19 n20 : Int) (s13 s17 : ByteArray) (l15 l16 l18 : Rows): B6w T k (n + 1) [.b [.v (.int .i64 n12), .v (.string s13), .v (.int .i64 n14), .fz 7 l15, .fz 2 l16], .v (.string s17), .fz 2 l18, .v (.int .i64 n19), .v (.int .i64 n20)] = (
 bif (decide (n20 < n19)) then (
 tst (decide (0 ≤ n20)) (
 look l18 (Int.toNat n20) fun r21 =>
 cI .i64 r21 0 fun n22 =>
 cI .i64 r21 1 fun n23 =>
 C8 T 18 [.d (.v (.int .i64 n22))] fun o24 =>
 oD o24.res fun d25 =>
 dS d25 fun s26 =>
 tst (decide (s26.size + ({ data := #[32] } : ByteArray).size ≤ maxLen)) (
 C8 T 18 [.d (.v (.int .i64 n23))] fun o27 =>
 oD o27.res fun d28 =>
 dS d28 fun s29 =>
 tst (decide ((s26 ++ ({ data := #[32] } : ByteArray)).size + s29.size ≤ maxLen)) (
 tst (decide (((s26 ++ ({ data := #[32] } : ByteArray)) ++ s29).size + ({ data := #[10] } : ByteArray).size ≤ maxLen)) (
 tst (decide (s17.size + (((s26 ++ ({ data := #[32] } : ByteArray)) ++ s29) ++ ({ data := #[10] } : ByteArray)).size ≤ maxLen)) (
 B6w T k n [.b [.v (.int .i64 n12), .v (.string s13), .v (.int .i64 n14), .fz 7 l15, .fz 2 l16], .v (.string (s17 ++ (((s26 ++ ({ data := #[32] } : ByteArray)) ++ s29) ++ ({ data := #[10] } : ByteArray)))), .fz 2 l18, .v (.int .i64 n19), .v (.int .i64 (IntKind.wrap .i64 (n20 + 1)))])))))) else (
 some ((.exit 0), [.b [.v (.int .i64 n12), .v (.string s13), .v (.int .i64 n14), .fz 7 l15, .fz 2 l16], .v (.string s17)]))) := by kernel_rfl
theorem C7v (T : Table) (k n : Nat) (s46 : ByteArray) (l47 : Rows) (n48 n49 : Int): B4o T k (n + 1) [.v (.string s46), .fz 7 l47, .v (.int .i64 n48), .v (.int .i64 n49)] = (
 bif (decide (n49 < n48)) then (
 tst (decide (0 ≤ n49)) (
 look l47 (Int.toNat n49) fun r50 =>
 cI .i64 r50 0 fun n51 =>
 cI .i64 r50 1 fun n52 =>
 cI .i64 r50 2 fun n53 =>
 cS r50 3 fun s54 =>
 cI .i64 r50 4 fun n55 =>
 cL 1 r50 5 fun l56 =>
 cL 5 r50 6 fun l57 =>
 C8 T 18 [.d (.v (.int .i64 n51))] fun o58 =>
 oD o58.res fun d59 =>
 dS d59 fun s60 =>
 tst (decide (s60.size + ({ data := #[32] } : ByteArray).size ≤ maxLen)) (
 C8 T 18 [.d (.v (.int .i64 n52))] fun o61 =>
 oD o61.res fun d62 =>
 dS d62 fun s63 =>
 tst (decide ((s60 ++ ({ data := #[32] } : ByteArray)).size + s63.size ≤ maxLen)) (
 tst (decide (((s60 ++ ({ data := #[32] } : ByteArray)) ++ s63).size + ({ data := #[32] } : ByteArray).size ≤ maxLen)) (
 C8 T 19 [.g [.v (.int .i64 n53), .v (.string s54), .v (.int .i64 n55), .s 1 l56, .s 5 l57]] fun o64 =>
 oD o64.res fun d65 =>
 dS d65 fun s66 =>
 tst (decide ((((s60 ++ ({ data := #[32] } : ByteArray)) ++ s63) ++ ({ data := #[32] } : ByteArray)).size + s66.size ≤ maxLen)) (
 tst (decide (((((s60 ++ ({ data := #[32] } : ByteArray)) ++ s63) ++ ({ data := #[32] } : ByteArray)) ++ s66).size + ({ data := #[10] } : ByteArray).size ≤ maxLen)) (
 tst (decide (s46.size + (((((s60 ++ ({ data := #[32] } : ByteArray)) ++ s63) ++ ({ data := #[32] } : ByteArray)) ++ s66) ++ ({ data := #[10] } : ByteArray)).size ≤ maxLen)) (
 B4o T k n [.v (.string (s46 ++ (((((s60 ++ ({ data := #[32] } : ByteArray)) ++ s63) ++ ({ data := #[32] } : ByteArray)) ++ s66) ++ ({ data := #[10] } : ByteArray)))), .fz 7 l47, .v (.int .i64 n48), .v (.int .i64 (IntKind.wrap .i64 (n49 + 1)))])))))))) else (
 some ((.exit 2), [.v (.string s46)]))) := by kernel_rfl
theorem a7q (T : Table) (k : Nat) (n1 n3 : Int) (s2 : ByteArray) (l4 l5 : Rows): H9 T k a7 [.g [.v (.int .i64 n1), .v (.string s2), .v (.int .i64 n3), .s 7 l4, .s 2 l5]] = (
 C8 T 9 [.g [.v (.int .i64 n1), .v (.string s2), .v (.int .i64 n3), .s 7 l4, .s 2 l5]] fun o6 =>
 oD o6.res fun d7 =>
 dB d7 fun b8 =>
 bif (!b8) then (
 some ⟨.d (.v (.string ({ data := #[] } : ByteArray))), []⟩) else (
 bif (n1 == 2) then (
 tst (decide (({ data := #[108, 105, 115, 116, 32] } : ByteArray).size + s2.size ≤ maxLen)) (
 tst (decide ((({ data := #[108, 105, 115, 116, 32] } : ByteArray) ++ s2).size + ({ data := #[32] } : ByteArray).size ≤ maxLen)) (
 C8 T 18 [.d (.v (.int .i64 n3))] fun o9 =>
 oD o9.res fun d10 =>
 dS d10 fun s11 =>
 tst (decide (((({ data := #[108, 105, 115, 116, 32] } : ByteArray) ++ s2) ++ ({ data := #[32] } : ByteArray)).size + s11.size ≤ maxLen)) (
 tst (decide ((((({ data := #[108, 105, 115, 116, 32] } : ByteArray) ++ s2) ++ ({ data := #[32] } : ByteArray)) ++ s11).size + ({ data := #[10] } : ByteArray).size ≤ maxLen)) (
 aft (B6w T k k [.b [.v (.int .i64 n1), .v (.string s2), .v (.int .i64 n3), .fz 7 l4, .fz 2 l5], .v (.string ((((({ data := #[108, 105, 115, 116, 32] } : ByteArray) ++ s2) ++ ({ data := #[32] } : ByteArray)) ++ s11) ++ ({ data := #[10] } : ByteArray))), .fz 2 l5, .v (.int .i64 (l5.length : Int)), .v (.int .i64 0)]) fun e30 ys31 =>
 bif e30.same (.exit 0) then (
 aV ys31 0 fun x32 =>
 aX x32 fun xs33 =>
 aV xs33 0 fun x34 =>
 aI .i64 x34 fun n35 =>
 aV xs33 1 fun x36 =>
 aS x36 fun s37 =>
 aV xs33 2 fun x38 =>
 aI .i64 x38 fun n39 =>
 aV xs33 3 fun x40 =>
 aL 7 x40 fun l41 =>
 aV xs33 4 fun x42 =>
 aL 2 x42 fun l43 =>
 aV ys31 1 fun x44 =>
 aS x44 fun s45 =>
 aft (B4o T k k [.v (.string s45), .fz 7 l41, .v (.int .i64 (l41.length : Int)), .v (.int .i64 0)]) fun e67 ys68 =>
 bif e67.same (.exit 2) then (
 aV ys68 0 fun x69 =>
 aS x69 fun s70 =>
 some ⟨.d (.v (.string s70)), []⟩) else (
 none)) else (
 none)))))) else (
 tst (decide (({ data := #[116, 101, 108, 108, 32] } : ByteArray).size + s2.size ≤ maxLen)) (
 tst (decide ((({ data := #[116, 101, 108, 108, 32] } : ByteArray) ++ s2).size + ({ data := #[32] } : ByteArray).size ≤ maxLen)) (
 C8 T 18 [.d (.v (.int .i64 n3))] fun o71 =>
 oD o71.res fun d72 =>
 dS d72 fun s73 =>
 tst (decide (((({ data := #[116, 101, 108, 108, 32] } : ByteArray) ++ s2) ++ ({ data := #[32] } : ByteArray)).size + s73.size ≤ maxLen)) (
 tst (decide ((((({ data := #[116, 101, 108, 108, 32] } : ByteArray) ++ s2) ++ ({ data := #[32] } : ByteArray)) ++ s73).size + ({ data := #[10] } : ByteArray).size ≤ maxLen)) (
 aft (B6w T k k [.b [.v (.int .i64 n1), .v (.string s2), .v (.int .i64 n3), .fz 7 l4, .fz 2 l5], .v (.string ((((({ data := #[116, 101, 108, 108, 32] } : ByteArray) ++ s2) ++ ({ data := #[32] } : ByteArray)) ++ s73) ++ ({ data := #[10] } : ByteArray))), .fz 2 l5, .v (.int .i64 (l5.length : Int)), .v (.int .i64 0)]) fun e74 ys75 =>
 bif e74.same (.exit 0) then (
 aV ys75 0 fun x76 =>
 aX x76 fun xs77 =>
 aV xs77 0 fun x78 =>
 aI .i64 x78 fun n79 =>
 aV xs77 1 fun x80 =>
 aS x80 fun s81 =>
 aV xs77 2 fun x82 =>
 aI .i64 x82 fun n83 =>
 aV xs77 3 fun x84 =>
 aL 7 x84 fun l85 =>
 aV xs77 4 fun x86 =>
 aL 2 x86 fun l87 =>
 aV ys75 1 fun x88 =>
 aS x88 fun s89 =>
 aft (B4o T k k [.v (.string s89), .fz 7 l85, .v (.int .i64 (l85.length : Int)), .v (.int .i64 0)]) fun e90 ys91 =>
 bif e90.same (.exit 2) then (
 aV ys91 0 fun x92 =>
 aS x92 fun s93 =>
 some ⟨.d (.v (.string s93)), []⟩) else (
 none)) else (
 none)))))))) := by kernel_rfl
/- loop.example/g00119/impl.digits -/
def C7w : ACode := (
 .seq (.g [oB 29 .lss 28 27]) (
 .seq (.cond (.t 29) (.skip) (.exit 0)) (
 .seq (.block 1 (.seq (.g [oM 30 28, oM 7 30]) (
 .seq (.seq (.g [oM 31 0, oM 32 7, oQ 33 (.idx (.t 31) (.t 32)), oQ 34 (.bin .lss (.t 33) (.c (.v (.int .u8 48)))), oM 35 34, oJ 36 35 false (.mv (.t 0)), oJ 37 35 false (.mv (.t 7)), oJ 38 35 false (.idx (.t 36) (.t 37)), oJ 39 35 false (.bin .gtr (.t 38) (.c (.v (.int .u8 57)))), oQ 40 (.pick (.t 35) (.b true) (.t 39))]) (
 .cond (.t 40) (.seq (.g [oK 4 0, oV 5 false]) (
 .ret)) (.skip))) (
 .g [oM 41 6, oQ 42 (.bin .mul (.i 10) (.t 41)), oM 43 0, oM 44 7, oQ 45 (.idx (.t 43) (.t 44)), oQ 46 (.bin .sub (.t 45) (.c (.v (.int .u8 48)))), oQ 47 (.conv (.int .i64) (.t 46)), oB 48 .add 42 47, oM 6 48])))) (
 .g [oBi 49 .add 28 1, oM 28 49]))))
def C7x : K4 := [(.ret, [(4, .c kI), (5, .c .b)]), ((.exit 0), [(6, .c kI)])]
noncomputable def A95 (T : Table) (k : Nat) := K7 (J5 ⟨T, [], []⟩ k C7w (Ex × List AV)) [0, 6, 27, 28] C7x
def a58 : AFun := ⟨[.rd, .rd], false, [.t 4, .t 5], (
 .seq (.g [oK 4 0, oV 5 false]) (
 .seq (.seq (.g [oM 8 0, oQ 9 (.bin .eql (.t 8) (.c (.v (.string ({ data := #[] } : ByteArray))))), oM 10 9, oJ 11 10 false (.mv (.t 0)), oJ 12 10 false (.len true (.t 11)), oJ 13 10 false (.mv (.t 1)), oJ 14 10 false (.bin .gtr (.t 12) (.t 13)), oQ 15 (.pick (.t 10) (.b true) (.t 14)), oM 16 15, oJ 17 16 false (.mv (.t 0)), oJ 18 16 false (.idx (.t 17) (.i 0)), oJ 19 16 false (.bin .eql (.t 18) (.c (.v (.int .u8 48)))), oJ 20 16 false (.mv (.t 19)), oJ 21 20 true (.mv (.t 0)), oJ 22 20 true (.len true (.t 21)), oJ 23 20 true (.bin .gtr (.t 22) (.i 1)), oJ 24 16 false (.pick (.t 20) (.t 23) (.b false)), oQ 25 (.pick (.t 16) (.b true) (.t 24))]) (
 .cond (.t 25) (.seq (.g [oK 4 0, oV 5 false]) (
 .ret)) (.skip))) (
 .seq (.g [oK 6 0]) (
 .seq (.seq (.g [oM 26 0, oQ 27 (.len true (.t 26)), oK 28 0]) (
 .block 0 (.loop [0, 6, 27, 28] C7x C7w))) (
 .seq (.g [oM 50 6, oM 4 50, oV 5 true]) (
 .ret))))))⟩
theorem C4b (T : Table) (k n : Nat) (s4 : ByteArray) (n5 n6 n7 : Int): A95 T k (n + 1) [.v (.string s4), .v (.int .i64 n5), .v (.int .i64 n6), .v (.int .i64 n7)] = (
 bif (decide (n7 < n6)) then (
 tst (decide (0 ≤ n7)) (
 K5 s4 (Int.toNat n7) fun c8 =>
 bif (decide ((c8.toNat : Int) < 48)) == false then (
 tst (decide (0 ≤ n7)) (
 K5 s4 (Int.toNat n7) fun c9 =>
 bif (decide ((c9.toNat : Int) > 57)) then (
 some (.ret, [.v (.int .i64 0), .v (.bool false)])) else (
 tst (decide (0 ≤ n7)) (
 K5 s4 (Int.toNat n7) fun c10 =>
 A95 T k n [.v (.string s4), .v (.int .i64 (IntKind.wrap .i64 ((IntKind.wrap .i64 (10 * n5)) + (IntKind.wrap .i64 (IntKind.wrap .u8 ((c10.toNat : Int) - 48)))))), .v (.int .i64 n6), .v (.int .i64 (IntKind.wrap .i64 (n7 + 1)))])))) else (
 some (.ret, [.v (.int .i64 0), .v (.bool false)])))) else (
 some ((.exit 0), [.v (.int .i64 n5)]))) := by kernel_rfl
theorem D3k (T : Table) (k : Nat) (s1 : ByteArray) (n2 : Int): H9 T k a58 [.d (.v (.string s1)), .d (.v (.int .i64 n2))] = (
 bif (D9 s1 ({ data := #[] } : ByteArray)) == false then (
 bif (decide ((s1.size : Int) > n2)) == false then (
 tst (decide (0 ≤ 0)) (
 K5 s1 (Int.toNat 0) fun c3 =>
 bif ((c3.toNat : Int) == 48) == true then (
 bif (decide ((s1.size : Int) > 1)) then (
 some ⟨.t [.d (.v (.int .i64 0)), .d (.v (.bool false))], []⟩) else (
 aft (A95 T k k [.v (.string s1), .v (.int .i64 0), .v (.int .i64 (s1.size : Int)), .v (.int .i64 0)]) fun e11 ys12 =>
 bif e11.same .ret then (
 aV ys12 0 fun x13 =>
 aI .i64 x13 fun n14 =>
 aV ys12 1 fun x15 =>
 aB x15 fun b16 =>
 some ⟨.t [.d (.v (.int .i64 n14)), .d (.v (.bool b16))], []⟩) else (
 bif e11.same (.exit 0) then (
 aV ys12 0 fun x17 =>
 aI .i64 x17 fun n18 =>
 some ⟨.t [.d (.v (.int .i64 n18)), .d (.v (.bool true))], []⟩) else (
 none)))) else (
 aft (A95 T k k [.v (.string s1), .v (.int .i64 0), .v (.int .i64 (s1.size : Int)), .v (.int .i64 0)]) fun e19 ys20 =>
 bif e19.same .ret then (
 aV ys20 0 fun x21 =>
 aI .i64 x21 fun n22 =>
 aV ys20 1 fun x23 =>
 aB x23 fun b24 =>
 some ⟨.t [.d (.v (.int .i64 n22)), .d (.v (.bool b24))], []⟩) else (
 bif e19.same (.exit 0) then (
 aV ys20 0 fun x25 =>
 aI .i64 x25 fun n26 =>
 some ⟨.t [.d (.v (.int .i64 n26)), .d (.v (.bool true))], []⟩) else (
 none))))) else (
 some ⟨.t [.d (.v (.int .i64 0)), .d (.v (.bool false))], []⟩)) else (
 some ⟨.t [.d (.v (.int .i64 0)), .d (.v (.bool false))], []⟩)) := by kernel_rfl
/- loop.example/g00119/impl.number -/
def a31 : AFun := ⟨[.rd], false, [.t 2, .t 3], (
 .seq (.g [oK 2 0, oV 3 false]) (
 .seq (.g [oM 4 0, oQ 5 (.call (.f 58) [.rd, .rd] false [.c kI, .c .b] [.t 4, .i 9]), oX 6 5 0, oX 7 5 1, oM 2 6, oM 3 7]) (
 .ret)))⟩
theorem D3l (T : Table) (k : Nat) (s1 : ByteArray): H9 T k a31 [.d (.v (.string s1))] = (
 C8 T 58 [.d (.v (.string s1)), .d (.v (.int .i64 9))] fun o2 =>
 oT o2.res fun is3 =>
 tst (Nat.beq is3.length 2) (
 nth is3 0 fun i4 =>
 oD i4 fun d5 =>
 dI .i64 d5 fun n6 =>
 nth is3 1 fun i7 =>
 oD i7 fun d8 =>
 dB d8 fun b9 =>
 some ⟨.t [.d (.v (.int .i64 n6)), .d (.v (.bool b9))], []⟩)) := by kernel_rfl
/- (*loop.example/g00119/impl.parser).take -/
def a88 : AFun := ⟨[.lent, .rd], false, [.t 4], (
 .seq (.g [oV 4 false]) (
 .seq (.g [oM 8 0, oQ 9 (.more (.nck (.t 8))), oF 10 0 9, oW 11 .s 10, oM 12 1, oC 13 121 [.c .s, .c .b] [11, 12], oM 7 13, oX 14 7 0, oX 15 7 1, oM 5 14, oM 6 15]) (
 .seq (.g [oM 16 0, oM 17 5, oQ 18 (.more (.nck (.t 16))), oF 19 0 18, oS (.store 1 (.t 19) (.t 17))]) (
 .seq (.g [oM 20 6, oM 4 20]) (
 .ret)))))⟩
theorem D3m (T : Table) (k : Nat) (s1 s3 : ByteArray) (b2 : Bool): H9 T k a88 [.p [.v (.string s1), .v (.bool b2)], .d (.v (.string s3))] = (
 C8 T 121 [.d (.v (.string s1)), .d (.v (.string s3))] fun o4 =>
 oT o4.res fun is5 =>
 tst (Nat.beq is5.length 2) (
 nth is5 0 fun i6 =>
 oD i6 fun d7 =>
 dS d7 fun s8 =>
 nth is5 1 fun i9 =>
 oD i9 fun d10 =>
 dB d10 fun b11 =>
 some ⟨.d (.v (.bool b11)), [.p [.v (.string s8), .v (.bool b2)]]⟩)) := by kernel_rfl
/- (*loop.example/g00119/impl.parser).text -/
def C7y : ACode := (
 .seq (.seq (.g [oM 6 0, oQ 7 (.more (.nck (.t 6))), oF 8 1 7, oW 9 .b 8, oM 10 9, oJ 11 10 true (.mv (.t 0)), oJ 12 10 true (.more (.nck (.t 11))), oJ 13 10 true (.fad 0 (.t 12)), oJ 14 10 true (.load false [.s] (.t 13)), oJ 15 10 true (.bin .neq (.t 14) (.c (.v (.string ({ data := #[] } : ByteArray))))), oQ 16 (.pick (.t 10) (.t 15) (.b false))]) (
 .cond (.t 16) (.skip) (.exit 0))) (
 .block 1 (.seq (.g [oM 17 0, oQ 18 (.more (.nck (.t 17))), oF 19 0 18, oW 20 .s 19, oQ 21 (.idx (.t 20) (.i 0)), oM 4 21]) (
 .seq (.g [oM 22 0, oM 23 0, oQ 24 (.more (.nck (.t 23))), oF 25 0 24, oW 26 .s 25, oQ 27 (.slc none (.t 26) (some (.i 1)) none), oQ 28 (.more (.nck (.t 22))), oF 29 0 28, oS (.store 1 (.t 29) (.t 27))]) (
 .seq (.seq (.g [oM 30 4, oQ 31 (.bin .eql (.t 30) (.c (.v (.int .u8 34))))]) (
 .cond (.t 31) (.seq (.g [oM 32 3, oQ 33 (.conv .bytesStr (.t 32)), oM 2 33]) (
 .ret)) (.skip))) (
 .seq (.seq (.g [oM 34 4, oQ 35 (.bin .eql (.t 34) (.c (.v (.int .u8 92)))), oM 36 35, oJ 37 36 true (.mv (.t 0)), oJ 38 36 true (.more (.nck (.t 37))), oJ 39 36 true (.fad 0 (.t 38)), oJ 40 36 true (.load false [.s] (.t 39)), oJ 41 36 true (.bin .neq (.t 40) (.c (.v (.string ({ data := #[] } : ByteArray))))), oQ 42 (.pick (.t 36) (.t 41) (.b false))]) (
 .cond (.t 42) (.seq (.g [oM 43 0, oQ 44 (.more (.nck (.t 43))), oF 45 0 44, oW 46 .s 45, oQ 47 (.idx (.t 46) (.i 0)), oM 4 47]) (
 .g [oM 48 0, oM 49 0, oQ 50 (.more (.nck (.t 49))), oF 51 0 50, oW 52 .s 51, oQ 53 (.slc none (.t 52) (some (.i 1)) none), oQ 54 (.more (.nck (.t 48))), oF 55 0 54, oS (.store 1 (.t 55) (.t 53))])) (.skip))) (
 .g [oM 56 3, oM 57 4, oQ 58 (.lit 1 ([[.v (.int .u8 0)]] : Rows) [(0, (.t 57))]), oQ 59 (.app 1 1 (.t 56) (.t 58)), oM 3 59])))))))
def C7z : K4 := [(.ret, [(0, .b [.c .s, .c .b]), (2, .c .s)]), ((.exit 0), [(0, .b [.c .s, .c .b])])]
noncomputable def A1n (T : Table) (k : Nat) := K7 (J5 ⟨T, [0], []⟩ k C7y (Ex × List AV)) [0, 3] C7z
def a89 : AFun := ⟨[.lent], false, [.t 2], (
 .seq (.g [oQ 2 (.mv (.c (.v (.string ({ data := #[] } : ByteArray)))))]) (
 .seq (.g [oQ 5 (.lit 1 ([] : Rows) []), oM 3 5]) (
 .seq (.block 0 (.loop [0, 3] C7z C7y)) (
 .seq (.g [oM 60 0, oQ 61 (.more (.nck (.t 60))), oF 62 1 61, oS (.store 1 (.t 62) (.b false))]) (
 .seq (.g [oQ 2 (.mv (.c (.v (.string ({ data := #[] } : ByteArray)))))]) (
 .ret))))))⟩
theorem A8l (T : Table) (k n : Nat) (s3 : ByteArray) (b4 : Bool) (l5 : Rows): A1n T k (n + 1) [.b [.v (.string s3), .v (.bool b4)], .o 1 l5] = (
 bif b4 == true then (
 bif (!(D9 s3 ({ data := #[] } : ByteArray))) then (
 tst (decide (0 ≤ 0)) (
 K5 s3 (Int.toNat 0) fun c6 =>
 tst (N9 1 (s3.size : Int) (s3.size)) (
 bif ((c6.toNat : Int) == 34) then (
 tst (P7 l5) (
 some (.ret, [.b [.v (.string (s3.extract (Int.toNat 1) (Int.toNat (s3.size : Int)))), .v (.bool b4)], .v (.string (H7 l5))]))) else (
 bif ((c6.toNat : Int) == 92) == true then (
 bif (!(D9 (s3.extract (Int.toNat 1) (Int.toNat (s3.size : Int))) ({ data := #[] } : ByteArray))) then (
 tst (decide (0 ≤ 0)) (
 K5 (s3.extract (Int.toNat 1) (Int.toNat (s3.size : Int))) (Int.toNat 0) fun c7 =>
 tst (N9 1 ((s3.extract (Int.toNat 1) (Int.toNat (s3.size : Int))).size : Int) ((s3.extract (Int.toNat 1) (Int.toNat (s3.size : Int))).size)) (
 tst (decide ((l5.length + ([[.v (.int .u8 (c7.toNat : Int))]] : Rows).length) * 1 ≤ D7)) (
 A1n T k n [.b [.v (.string ((s3.extract (Int.toNat 1) (Int.toNat (s3.size : Int))).extract (Int.toNat 1) (Int.toNat ((s3.extract (Int.toNat 1) (Int.toNat (s3.size : Int))).size : Int)))), .v (.bool b4)], .o 1 (l5 ++ ([[.v (.int .u8 (c7.toNat : Int))]] : Rows))])))) else (
 tst (decide ((l5.length + ([[.v (.int .u8 (c6.toNat : Int))]] : Rows).length) * 1 ≤ D7)) (
 A1n T k n [.b [.v (.string (s3.extract (Int.toNat 1) (Int.toNat (s3.size : Int)))), .v (.bool b4)], .o 1 (l5 ++ ([[.v (.int .u8 (c6.toNat : Int))]] : Rows))]))) else (
 tst (decide ((l5.length + ([[.v (.int .u8 (c6.toNat : Int))]] : Rows).length) * 1 ≤ D7)) (
 A1n T k n [.b [.v (.string (s3.extract (Int.toNat 1) (Int.toNat (s3.size : Int)))), .v (.bool b4)], .o 1 (l5 ++ ([[.v (.int .u8 (c6.toNat : Int))]] : Rows))])))))) else (
 some ((.exit 0), [.b [.v (.string s3), .v (.bool b4)]]))) else (
 some ((.exit 0), [.b [.v (.string s3), .v (.bool b4)]]))) := by kernel_rfl
theorem D0m (T : Table) (k : Nat) (s1 : ByteArray) (b2 : Bool): H9 T k a89 [.p [.v (.string s1), .v (.bool b2)]] = (
 aft (A1n T k k [.b [.v (.string s1), .v (.bool b2)], .o 1 []]) fun e8 ys9 =>
 bif e8.same .ret then (
 aV ys9 0 fun x10 =>
 aX x10 fun xs11 =>
 aV xs11 0 fun x12 =>
 aS x12 fun s13 =>
 aV xs11 1 fun x14 =>
 aB x14 fun b15 =>
 aV ys9 1 fun x16 =>
 aS x16 fun s17 =>
 some ⟨.d (.v (.string s17)), [.p [.v (.string s13), .v (.bool b15)]]⟩) else (
 bif e8.same (.exit 0) then (
 aV ys9 0 fun x18 =>
 aX x18 fun xs19 =>
 aV xs19 0 fun x20 =>
 aS x20 fun s21 =>
 aV xs19 1 fun x22 =>
 aB x22 fun b23 =>
 some ⟨.d (.v (.string ({ data := #[] } : ByteArray))), [.p [.v (.string s21), .v (.bool false)]]⟩) else (
 none))) := by kernel_rfl
/- (*loop.example/g00119/impl.parser).till -/
def a91 : AFun := ⟨[.lent, .rd], false, [.t 4], (
 .seq (.g [oQ 4 (.mv (.c (.v (.string ({ data := #[] } : ByteArray)))))]) (
 .seq (.g [oM 7 0, oQ 8 (.more (.nck (.t 7))), oF 9 0 8, oW 10 .s 9, oM 11 1, oC 12 123 [.c kI] [10, 11], oM 5 12]) (
 .seq (.seq (.g [oM 13 5, oBi 14 .lss 13 0]) (
 .cond (.t 14) (.g [oM 15 0, oQ 16 (.more (.nck (.t 15))), oF 17 0 16, oW 18 .s 17, oQ 19 (.len true (.t 18)), oM 5 19]) (.skip))) (
 .seq (.g [oM 20 0, oQ 21 (.more (.nck (.t 20))), oF 22 0 21, oW 23 .s 22, oM 24 5, oQ 25 (.slc none (.t 23) none (some (.t 24))), oM 6 25]) (
 .seq (.g [oM 26 0, oM 27 0, oQ 28 (.more (.nck (.t 27))), oF 29 0 28, oW 30 .s 29, oM 31 5, oQ 32 (.slc none (.t 30) (some (.t 31)) none), oQ 33 (.more (.nck (.t 26))), oF 34 0 33, oS (.store 1 (.t 34) (.t 32))]) (
 .seq (.g [oM 35 6, oM 4 35]) (
 .ret)))))))⟩
theorem D3n (T : Table) (k : Nat) (s1 s3 : ByteArray) (b2 : Bool): H9 T k a91 [.p [.v (.string s1), .v (.bool b2)], .d (.v (.string s3))] = (
 C8 T 123 [.d (.v (.string s1)), .d (.v (.string s3))] fun o4 =>
 oD o4.res fun d5 =>
 dI .i64 d5 fun n6 =>
 bif (decide (n6 < 0)) then (
 tst (N9 0 (s1.size : Int) (s1.size)) (
 tst (N9 (s1.size : Int) (s1.size : Int) (s1.size)) (
 some ⟨.d (.v (.string (s1.extract (Int.toNat 0) (Int.toNat (s1.size : Int))))), [.p [.v (.string (s1.extract (Int.toNat (s1.size : Int)) (Int.toNat (s1.size : Int)))), .v (.bool b2)]]⟩))) else (
 tst (N9 0 n6 (s1.size)) (
 tst (N9 n6 (s1.size : Int) (s1.size)) (
 some ⟨.d (.v (.string (s1.extract (Int.toNat 0) (Int.toNat n6)))), [.p [.v (.string (s1.extract (Int.toNat n6) (Int.toNat (s1.size : Int)))), .v (.bool b2)]]⟩)))) := by kernel_rfl
/- (*loop.example/g00119/impl.parser).need -/
def D0n : AFun := ⟨[.lent, .rd], false, [], (
 .seq (.g [oM 4 0, oM 5 1, oQ 6 (.call (.f 88) [.lent, .rd] false [.c .b] [.t 4, .t 5]), oN 7 6]) (
 .cond (.t 7) (.g [oM 8 0, oQ 9 (.more (.nck (.t 8))), oF 10 1 9, oS (.store 1 (.t 10) (.b false))]) (.skip)))⟩
theorem D28 (T : Table) (k : Nat) (s1 s3 : ByteArray) (b2 : Bool): H9 T k D0n [.p [.v (.string s1), .v (.bool b2)], .d (.v (.string s3))] = (
 C8 T 88 [.p [.v (.string s1), .v (.bool b2)], .d (.v (.string s3))] fun o4 =>
 nth o4.back 0 fun i5 =>
 oP i5 fun r6 =>
 tst (Nat.beq r6.length 2) (
 cS r6 0 fun s7 =>
 cB r6 1 fun b8 =>
 oD o4.res fun d9 =>
 dB d9 fun b10 =>
 bif (!b10) then (
 some ⟨.t [], [.p [.v (.string s7), .v (.bool false)]]⟩) else (
 some ⟨.t [], [.p [.v (.string s7), .v (.bool b8)]]⟩))) := by kernel_rfl
-- a123 "strings.IndexAny": op range
/- (*loop.example/g00119/impl.parser).kids -/
def C80 : ACode := (
 .seq (.seq (.g [oM 18 0, oQ 19 (.more (.nck (.t 18))), oF 20 1 19, oW 21 .b 20, oM 22 21, oJ 23 22 true (.fad 4 (.t 9)), oJ 24 22 true (.load false [.sl 5] (.t 23)), oJ 25 22 true (.len false (.t 24)), oJ 26 22 true (.bin .leq (.t 25) (.i 300)), oQ 27 (.pick (.t 22) (.t 26) (.b false))]) (
 .cond (.t 27) (.skip) (.exit 0))) (
 .block 1 (.seq (.seq (.g [oM 28 1, oBi 29 .eql 28 5]) (
 .cond (.t 29) (.seq (.g [oM 30 0, oQ 31 (.call (.f 91) [.lent, .rd] false [.c .s] [.t 30, .c (.v (.string ({ data := #[58] } : ByteArray)))]), oM 10 31]) (
 .seq (.g [oM 32 0, oQ 33 (.call (.f 122) [.lent, .rd] false [] [.t 32, .c (.v (.string ({ data := #[58] } : ByteArray)))])]) (
 .g [oF 34 3 9, oW 35 (.sl 1) 34, oM 36 10, oQ 37 (.lit 1 ([[.v (.string ByteArray.empty)]] : Rows) [(0, (.t 36))]), oQ 38 (.app 1 16 (.t 35) (.t 37)), oF 39 3 9, oS (.store 1 (.t 39) (.t 38))]))) (.skip))) (
 .seq (.g [oM 40 0, oM 41 3, oBi 42 .sub 41 1, oQ 43 (.call (.f 59) [.lent, .rd] false [.g [kI, .s, kI, .sl 1, .sl 5]] [.t 40, .t 42]), oQ 11 (.alloc [.v (.int .i64 0), .v (.string ByteArray.empty), .v (.int .i64 0), .s 1 [], .s 5 []]), oS (.store 5 (.t 11) (.t 43))]) (
 .seq (.g [oF 44 4 9, oW 45 (.sl 5) 44, oL 46 [kI, .s, kI, .sl 1, .sl 5] 11, oQ 47 (.lit 5 ([[.v (.int .i64 0), .v (.string ByteArray.empty), .v (.int .i64 0), .s 1 [], .s 5 []]] : Rows) [(0, (.t 46))]), oQ 48 (.app 5 80 (.t 45) (.t 47)), oF 49 4 9, oS (.store 1 (.t 49) (.t 48))]) (
 .seq (.g [oM 50 0, oQ 51 (.call (.f 88) [.lent, .rd] false [.c .b] [.t 50, .c (.v (.string ({ data := #[44] } : ByteArray)))]), oN 52 51]) (
 .cond (.t 52) (.exit 0) (.skip))))))))
def C81 : K4 := [((.exit 0), [(0, .b [.c .s, .c .b]), (2, .c .s), (8, .b [.c kI, .c .s, .c kI, .o 1, .o 5]), (9, .b [.c kI, .c .s, .c kI, .o 1, .o 5])])]
noncomputable def A96 (T : Table) (k : Nat) := K7 (J5 ⟨T, [0], []⟩ k C80 (Ex × List AV)) [0, 1, 2, 3, 8, 9] C81
def a90 : AFun := ⟨[.lent, .rd, .rd, .rd], false, [.c 8 true [kI, .s, kI, .sl 1, .sl 5]], (
 .seq (.g [oQ 8 (.alloc [.v (.int .i64 0), .v (.string ByteArray.empty), .v (.int .i64 0), .s 1 [], .s 5 []])]) (
 .seq (.g [oM 12 1, oQ 13 (.build [.v (.int .i64 0), .v (.string ByteArray.empty), .v (.int .i64 0), .s 1 [], .s 5 []] [(0, 1, (.t 12))]), oQ 9 (.alloc [.v (.int .i64 0), .v (.string ByteArray.empty), .v (.int .i64 0), .s 1 [], .s 5 []]), oS (.store 5 (.t 9) (.t 13))]) (
 .seq (.seq (.g [oM 14 0, oM 15 2, oQ 16 (.call (.f 88) [.lent, .rd] false [.c .b] [.t 14, .t 15])]) (
 .cond (.t 16) (.seq (.g [oL 17 [kI, .s, kI, .sl 1, .sl 5] 9, oS (.store 5 (.t 8) (.t 17))]) (
 .ret)) (.skip))) (
 .seq (.block 0 (.loop [0, 1, 2, 3, 8, 9] C81 C80)) (
 .seq (.g [oM 53 0, oM 54 2, oQ 55 (.call (.f 122) [.lent, .rd] false [] [.t 53, .t 54])]) (
 .seq (.g [oL 56 [kI, .s, kI, .sl 1, .sl 5] 9, oS (.store 5 (.t 8) (.t 56))]) (
 .ret)))))))⟩
theorem B8y (T : Table) (k n : Nat) (s13 s16 s19 s24 : ByteArray) (b14 : Bool) (n15 n17 n18 n20 n23 n25 : Int) (l21 l22 l26 l27 : Rows): A96 T k (n + 1) [.b [.v (.string s13), .v (.bool b14)], .v (.int .i64 n15), .v (.string s16), .v (.int .i64 n17), .b [.v (.int .i64 n18), .v (.string s19), .v (.int .i64 n20), .o 1 l21, .o 5 l22], .b [.v (.int .i64 n23), .v (.string s24), .v (.int .i64 n25), .o 1 l26, .o 5 l27]] = (
 bif b14 == true then (
 bif (decide ((l27.length : Int) ≤ 300)) then (
 bif (n15 == 5) then (
 C8 T 91 [.p [.v (.string s13), .v (.bool b14)], .d (.v (.string ({ data := #[58] } : ByteArray)))] fun o28 =>
 nth o28.back 0 fun i29 =>
 oP i29 fun r30 =>
 tst (Nat.beq r30.length 2) (
 cS r30 0 fun s31 =>
 cB r30 1 fun b32 =>
 oD o28.res fun d33 =>
 dS d33 fun s34 =>
 C8 T 122 [.p [.v (.string s31), .v (.bool b32)], .d (.v (.string ({ data := #[58] } : ByteArray)))] fun o35 =>
 nth o35.back 0 fun i36 =>
 oP i36 fun r37 =>
 tst (Nat.beq r37.length 2) (
 cS r37 0 fun s38 =>
 cB r37 1 fun b39 =>
 oT o35.res fun is40 =>
 tst (Nat.beq is40.length 0) (
 tst (decide ((l26.length + ([[.v (.string s34)]] : Rows).length) * 16 ≤ D7)) (
 C8 T 59 [.p [.v (.string s38), .v (.bool b39)], .d (.v (.int .i64 (IntKind.wrap .i64 (n17 - 1))))] fun o41 =>
 nth o41.back 0 fun i42 =>
 oP i42 fun r43 =>
 tst (Nat.beq r43.length 2) (
 cS r43 0 fun s44 =>
 cB r43 1 fun b45 =>
 oG o41.res fun r46 =>
 tst (Nat.beq r46.length 5) (
 cI .i64 r46 0 fun n47 =>
 cS r46 1 fun s48 =>
 cI .i64 r46 2 fun n49 =>
 cL 1 r46 3 fun l50 =>
 cL 5 r46 4 fun l51 =>
 tst (decide ((l27.length + ([[.v (.int .i64 n47), .v (.string s48), .v (.int .i64 n49), hole, hole]] : Rows).length) * 80 ≤ D7)) (
 C8 T 88 [.p [.v (.string s44), .v (.bool b45)], .d (.v (.string ({ data := #[44] } : ByteArray)))] fun o52 =>
 nth o52.back 0 fun i53 =>
 oP i53 fun r54 =>
 tst (Nat.beq r54.length 2) (
 cS r54 0 fun s55 =>
 cB r54 1 fun b56 =>
 oD o52.res fun d57 =>
 dB d57 fun b58 =>
 bif (!b58) then (
 some ((.exit 0), [.b [.v (.string s55), .v (.bool b56)], .v (.string s16), .b [.v (.int .i64 n18), .v (.string s19), .v (.int .i64 n20), .o 1 l21, .o 5 l22], .b [.v (.int .i64 n23), .v (.string s24), .v (.int .i64 n25), .o 1 (l26 ++ ([[.v (.string s34)]] : Rows)), .o 5 (G8 (G8 (l27 ++ ([[.v (.int .i64 n47), .v (.string s48), .v (.int .i64 n49), hole, hole]] : Rows)) (0 + l27.length) 4 (.s 5 l51)) (0 + l27.length) 3 (.s 1 l50))]])) else (
 A96 T k n [.b [.v (.string s55), .v (.bool b56)], .v (.int .i64 n15), .v (.string s16), .v (.int .i64 n17), .b [.v (.int .i64 n18), .v (.string s19), .v (.int .i64 n20), .o 1 l21, .o 5 l22], .b [.v (.int .i64 n23), .v (.string s24), .v (.int .i64 n25), .o 1 (l26 ++ ([[.v (.string s34)]] : Rows)), .o 5 (G8 (G8 (l27 ++ ([[.v (.int .i64 n47), .v (.string s48), .v (.int .i64 n49), hole, hole]] : Rows)) (0 + l27.length) 4 (.s 5 l51)) (0 + l27.length) 3 (.s 1 l50))]])))))))))) else (
 C8 T 59 [.p [.v (.string s13), .v (.bool b14)], .d (.v (.int .i64 (IntKind.wrap .i64 (n17 - 1))))] fun o59 =>
 nth o59.back 0 fun i60 =>
 oP i60 fun r61 =>
 tst (Nat.beq r61.length 2) (
 cS r61 0 fun s62 =>
 cB r61 1 fun b63 =>
 oG o59.res fun r64 =>
 tst (Nat.beq r64.length 5) (
 cI .i64 r64 0 fun n65 =>
 cS r64 1 fun s66 =>
 cI .i64 r64 2 fun n67 =>
 cL 1 r64 3 fun l68 =>
 cL 5 r64 4 fun l69 =>
 tst (decide ((l27.length + ([[.v (.int .i64 n65), .v (.string s66), .v (.int .i64 n67), hole, hole]] : Rows).length) * 80 ≤ D7)) (
 C8 T 88 [.p [.v (.string s62), .v (.bool b63)], .d (.v (.string ({ data := #[44] } : ByteArray)))] fun o70 =>
 nth o70.back 0 fun i71 =>
 oP i71 fun r72 =>
 tst (Nat.beq r72.length 2) (
 cS r72 0 fun s73 =>
 cB r72 1 fun b74 =>
 oD o70.res fun d75 =>
 dB d75 fun b76 =>
 bif (!b76) then (
 some ((.exit 0), [.b [.v (.string s73), .v (.bool b74)], .v (.string s16), .b [.v (.int .i64 n18), .v (.string s19), .v (.int .i64 n20), .o 1 l21, .o 5 l22], .b [.v (.int .i64 n23), .v (.string s24), .v (.int .i64 n25), .o 1 l26, .o 5 (G8 (G8 (l27 ++ ([[.v (.int .i64 n65), .v (.string s66), .v (.int .i64 n67), hole, hole]] : Rows)) (0 + l27.length) 4 (.s 5 l69)) (0 + l27.length) 3 (.s 1 l68))]])) else (
 A96 T k n [.b [.v (.string s73), .v (.bool b74)], .v (.int .i64 n15), .v (.string s16), .v (.int .i64 n17), .b [.v (.int .i64 n18), .v (.string s19), .v (.int .i64 n20), .o 1 l21, .o 5 l22], .b [.v (.int .i64 n23), .v (.string s24), .v (.int .i64 n25), .o 1 l26, .o 5 (G8 (G8 (l27 ++ ([[.v (.int .i64 n65), .v (.string s66), .v (.int .i64 n67), hole, hole]] : Rows)) (0 + l27.length) 4 (.s 5 l69)) (0 + l27.length) 3 (.s 1 l68))]]))))))) else (
 some ((.exit 0), [.b [.v (.string s13), .v (.bool b14)], .v (.string s16), .b [.v (.int .i64 n18), .v (.string s19), .v (.int .i64 n20), .o 1 l21, .o 5 l22], .b [.v (.int .i64 n23), .v (.string s24), .v (.int .i64 n25), .o 1 l26, .o 5 l27]]))) else (
 some ((.exit 0), [.b [.v (.string s13), .v (.bool b14)], .v (.string s16), .b [.v (.int .i64 n18), .v (.string s19), .v (.int .i64 n20), .o 1 l21, .o 5 l22], .b [.v (.int .i64 n23), .v (.string s24), .v (.int .i64 n25), .o 1 l26, .o 5 l27]]))) := by kernel_rfl
theorem D29 (T : Table) (k : Nat) (s1 s4 : ByteArray) (b2 : Bool) (n3 n5 : Int): H9 T k a90 [.p [.v (.string s1), .v (.bool b2)], .d (.v (.int .i64 n3)), .d (.v (.string s4)), .d (.v (.int .i64 n5))] = (
 C8 T 88 [.p [.v (.string s1), .v (.bool b2)], .d (.v (.string s4))] fun o6 =>
 nth o6.back 0 fun i7 =>
 oP i7 fun r8 =>
 tst (Nat.beq r8.length 2) (
 cS r8 0 fun s9 =>
 cB r8 1 fun b10 =>
 oD o6.res fun d11 =>
 dB d11 fun b12 =>
 bif b12 then (
 some ⟨.g [.v (.int .i64 n3), .v (.string ByteArray.empty), .v (.int .i64 0), .s 1 [], .s 5 []], [.p [.v (.string s9), .v (.bool b10)]]⟩) else (
 aft (A96 T k k [.b [.v (.string s9), .v (.bool b10)], .v (.int .i64 n3), .v (.string s4), .v (.int .i64 n5), .b [.v (.int .i64 0), .v (.string ByteArray.empty), .v (.int .i64 0), .o 1 [], .o 5 []], .b [.v (.int .i64 n3), .v (.string ByteArray.empty), .v (.int .i64 0), .o 1 [], .o 5 []]]) fun e77 ys78 =>
 bif e77.same (.exit 0) then (
 aV ys78 0 fun x79 =>
 aX x79 fun xs80 =>
 aV xs80 0 fun x81 =>
 aS x81 fun s82 =>
 aV xs80 1 fun x83 =>
 aB x83 fun b84 =>
 aV ys78 1 fun x85 =>
 aS x85 fun s86 =>
 aV ys78 2 fun x87 =>
 aX x87 fun xs88 =>
 aV xs88 0 fun x89 =>
 aI .i64 x89 fun n90 =>
 aV xs88 1 fun x91 =>
 aS x91 fun s92 =>
 aV xs88 2 fun x93 =>
 aI .i64 x93 fun n94 =>
 aV xs88 3 fun x95 =>
 aO 1 x95 fun l96 =>
 aV xs88 4 fun x97 =>
 aO 5 x97 fun l98 =>
 aV ys78 3 fun x99 =>
 aX x99 fun xs100 =>
 aV xs100 0 fun x101 =>
 aI .i64 x101 fun n102 =>
 aV xs100 1 fun x103 =>
 aS x103 fun s104 =>
 aV xs100 2 fun x105 =>
 aI .i64 x105 fun n106 =>
 aV xs100 3 fun x107 =>
 aO 1 x107 fun l108 =>
 aV xs100 4 fun x109 =>
 aO 5 x109 fun l110 =>
 C8 T 122 [.p [.v (.string s82), .v (.bool b84)], .d (.v (.string s86))] fun o111 =>
 nth o111.back 0 fun i112 =>
 oP i112 fun r113 =>
 tst (Nat.beq r113.length 2) (
 cS r113 0 fun s114 =>
 cB r113 1 fun b115 =>
 oT o111.res fun is116 =>
 tst (Nat.beq is116.length 0) (
 some ⟨.g [.v (.int .i64 n102), .v (.string s104), .v (.int .i64 n106), .s 1 l108, .s 5 l110], [.p [.v (.string s114), .v (.bool b115)]]⟩))) else (
 none)))) := by kernel_rfl
/- loop.example/g00119/impl.integer -/
def C82 : ACode := (
 .seq (.g [oB 19 .lss 18 17]) (
 .seq (.cond (.t 19) (.skip) (.exit 0)) (
 .seq (.block 1 (.seq (.g [oM 20 18, oM 6 20]) (
 .seq (.seq (.g [oM 21 4, oM 22 6, oQ 23 (.idx (.t 21) (.t 22)), oQ 24 (.bin .lss (.t 23) (.c (.v (.int .u8 48)))), oM 25 24, oJ 26 25 false (.mv (.t 4)), oJ 27 25 false (.mv (.t 6)), oJ 28 25 false (.idx (.t 26) (.t 27)), oJ 29 25 false (.bin .gtr (.t 28) (.c (.v (.int .u8 57)))), oQ 30 (.pick (.t 25) (.b true) (.t 29))]) (
 .cond (.t 30) (.seq (.g [oK 2 0, oV 3 false]) (
 .ret)) (.skip))) (
 .g [oM 31 5, oQ 32 (.bin .mul (.i 10) (.t 31)), oM 33 4, oM 34 6, oQ 35 (.idx (.t 33) (.t 34)), oQ 36 (.bin .sub (.t 35) (.c (.v (.int .u8 48)))), oQ 37 (.conv (.int .i64) (.t 36)), oB 38 .sub 32 37, oM 5 38])))) (
 .g [oBi 39 .add 18 1, oM 18 39]))))
def C83 : K4 := [(.ret, [(2, .c kI), (3, .c .b)]), ((.exit 0), [(0, .c .s), (4, .c .s), (5, .c kI)])]
noncomputable def A7t (T : Table) (k : Nat) := K7 (J5 ⟨T, [], []⟩ k C82 (Ex × List AV)) [0, 4, 5, 17, 18] C83
def a92 : AFun := ⟨[.rd], false, [.t 2, .t 3], (
 .seq (.g [oK 2 0, oV 3 false]) (
 .seq (.g [oM 7 0, oQ 8 (.call (.f 124) [.rd, .rd] false [.c .s] [.t 7, .c (.v (.string ({ data := #[45] } : ByteArray)))]), oM 4 8]) (
 .seq (.seq (.g [oM 9 4, oQ 10 (.bin .eql (.t 9) (.c (.v (.string ({ data := #[] } : ByteArray))))), oM 11 10, oJ 12 11 false (.mv (.t 4)), oJ 13 11 false (.len true (.t 12)), oJ 14 11 false (.bin .gtr (.t 13) (.i 19)), oQ 15 (.pick (.t 11) (.b true) (.t 14))]) (
 .cond (.t 15) (.seq (.g [oK 2 0, oV 3 false]) (
 .ret)) (.skip))) (
 .seq (.g [oK 5 0]) (
 .seq (.seq (.g [oM 16 4, oQ 17 (.len true (.t 16)), oK 18 0]) (
 .block 0 (.loop [0, 4, 5, 17, 18] C83 C82))) (
 .seq (.seq (.g [oM 40 4, oQ 41 (.len true (.t 40)), oM 42 0, oQ 43 (.len true (.t 42)), oB 44 .eql 41 43]) (
 .cond (.t 44) (.g [oM 45 5, oQ 46 (.un .neg (.t 45)), oM 5 46]) (.skip))) (
 .seq (.g [oM 47 5, oM 48 5, oC 49 18 [.c .s] [48], oM 50 0, oB 51 .eql 49 50, oM 2 47, oM 3 51]) (
 .ret))))))))⟩
theorem B4p (T : Table) (k n : Nat) (s5 s6 : ByteArray) (n7 n8 n9 : Int): A7t T k (n + 1) [.v (.string s5), .v (.string s6), .v (.int .i64 n7), .v (.int .i64 n8), .v (.int .i64 n9)] = (
 bif (decide (n9 < n8)) then (
 tst (decide (0 ≤ n9)) (
 K5 s6 (Int.toNat n9) fun c10 =>
 bif (decide ((c10.toNat : Int) < 48)) == false then (
 tst (decide (0 ≤ n9)) (
 K5 s6 (Int.toNat n9) fun c11 =>
 bif (decide ((c11.toNat : Int) > 57)) then (
 some (.ret, [.v (.int .i64 0), .v (.bool false)])) else (
 tst (decide (0 ≤ n9)) (
 K5 s6 (Int.toNat n9) fun c12 =>
 A7t T k n [.v (.string s5), .v (.string s6), .v (.int .i64 (IntKind.wrap .i64 ((IntKind.wrap .i64 (10 * n7)) - (IntKind.wrap .i64 (IntKind.wrap .u8 ((c12.toNat : Int) - 48)))))), .v (.int .i64 n8), .v (.int .i64 (IntKind.wrap .i64 (n9 + 1)))])))) else (
 some (.ret, [.v (.int .i64 0), .v (.bool false)])))) else (
 some ((.exit 0), [.v (.string s5), .v (.string s6), .v (.int .i64 n7)]))) := by kernel_rfl
theorem D2a (T : Table) (k : Nat) (s1 : ByteArray): H9 T k a92 [.d (.v (.string s1))] = (
 C8 T 124 [.d (.v (.string s1)), .d (.v (.string ({ data := #[45] } : ByteArray)))] fun o2 =>
 oD o2.res fun d3 =>
 dS d3 fun s4 =>
 bif (D9 s4 ({ data := #[] } : ByteArray)) == false then (
 bif (decide ((s4.size : Int) > 19)) then (
 some ⟨.t [.d (.v (.int .i64 0)), .d (.v (.bool false))], []⟩) else (
 aft (A7t T k k [.v (.string s1), .v (.string s4), .v (.int .i64 0), .v (.int .i64 (s4.size : Int)), .v (.int .i64 0)]) fun e13 ys14 =>
 bif e13.same .ret then (
 aV ys14 0 fun x15 =>
 aI .i64 x15 fun n16 =>
 aV ys14 1 fun x17 =>
 aB x17 fun b18 =>
 some ⟨.t [.d (.v (.int .i64 n16)), .d (.v (.bool b18))], []⟩) else (
 bif e13.same (.exit 0) then (
 aV ys14 0 fun x19 =>
 aS x19 fun s20 =>
 aV ys14 1 fun x21 =>
 aS x21 fun s22 =>
 aV ys14 2 fun x23 =>
 aI .i64 x23 fun n24 =>
 bif ((s22.size : Int) == (s20.size : Int)) then (
 C8 T 18 [.d (.v (.int .i64 (IntKind.wrap .i64 (0 - n24))))] fun o25 =>
 oD o25.res fun d26 =>
 dS d26 fun s27 =>
 some ⟨.t [.d (.v (.int .i64 (IntKind.wrap .i64 (0 - n24)))), .d (.v (.bool (D9 s27 s20)))], []⟩) else (
 C8 T 18 [.d (.v (.int .i64 n24))] fun o28 =>
 oD o28.res fun d29 =>
 dS d29 fun s30 =>
 some ⟨.t [.d (.v (.int .i64 n24)), .d (.v (.bool (D9 s30 s20)))], []⟩)) else (
 none)))) else (
 some ⟨.t [.d (.v (.int .i64 0)), .d (.v (.bool false))], []⟩)) := by kernel_rfl
/- (*loop.example/g00119/impl.parser).value -/
def a59 : AFun := ⟨[.lent, .rd], false, [.c 4 true [kI, .s, kI, .sl 1, .sl 5]], (
 .seq (.g [oQ 4 (.alloc [.v (.int .i64 0), .v (.string ByteArray.empty), .v (.int .i64 0), .s 1 [], .s 5 []])]) (
 .seq (.block 0 (.seq (.g [oM 10 1, oBi 11 .eql 10 0, oM 9 11]) (
 .cond (.t 9) (.seq (.g [oM 12 0, oQ 13 (.more (.nck (.t 12))), oF 14 1 13, oS (.store 1 (.t 14) (.b false))]) (
 .seq (.g [oQ 15 (.build [.v (.int .i64 0), .v (.string ByteArray.empty), .v (.int .i64 0), .s 1 [], .s 5 []] []), oS (.store 5 (.t 4) (.t 15))]) (
 .ret))) (.seq (.g [oM 17 0, oQ 18 (.call (.f 88) [.lent, .rd] false [.c .b] [.t 17, .c (.v (.string ({ data := #[34] } : ByteArray)))]), oM 16 18]) (
 .cond (.t 16) (.seq (.g [oM 19 0, oQ 20 (.call (.f 89) [.lent] false [.c .s] [.t 19]), oM 5 20]) (
 .seq (.g [oM 21 5, oQ 22 (.build [.v (.int .i64 0), .v (.string ByteArray.empty), .v (.int .i64 0), .s 1 [], .s 5 []] [(0, 1, (.i 1)), (1, 1, (.t 21))]), oS (.store 5 (.t 4) (.t 22))]) (
 .ret))) (.seq (.g [oM 24 0, oQ 25 (.call (.f 88) [.lent, .rd] false [.c .b] [.t 24, .c (.v (.string ({ data := #[91] } : ByteArray)))]), oM 23 25]) (
 .cond (.t 23) (.seq (.g [oM 26 0, oM 27 1, oQ 28 (.call (.f 90) [.lent, .rd, .rd, .rd] false [.g [kI, .s, kI, .sl 1, .sl 5]] [.t 26, .i 4, .c (.v (.string ({ data := #[93] } : ByteArray))), .t 27]), oS (.store 5 (.t 4) (.t 28))]) (
 .ret)) (.seq (.g [oM 30 0, oQ 31 (.call (.f 88) [.lent, .rd] false [.c .b] [.t 30, .c (.v (.string ({ data := #[123] } : ByteArray)))]), oM 29 31]) (
 .cond (.t 29) (.seq (.g [oM 32 0, oM 33 1, oQ 34 (.call (.f 90) [.lent, .rd, .rd, .rd] false [.g [kI, .s, kI, .sl 1, .sl 5]] [.t 32, .i 5, .c (.v (.string ({ data := #[125] } : ByteArray))), .t 33]), oS (.store 5 (.t 4) (.t 34))]) (
 .ret)) (.skip)))))))))) (
 .seq (.g [oM 35 0, oQ 36 (.call (.f 91) [.lent, .rd] false [.c .s] [.t 35, .c (.v (.string ({ data := #[44, 93, 125] } : ByteArray)))]), oM 6 36]) (
 .seq (.seq (.g [oM 37 6]) (
 .block 1 (.seq (.g [oQ 39 (.bin .eql (.t 37) (.c (.v (.string ({ data := #[116, 114, 117, 101] } : ByteArray))))), oM 38 39]) (
 .cond (.t 38) (.seq (.g [oQ 40 (.build [.v (.int .i64 0), .v (.string ByteArray.empty), .v (.int .i64 0), .s 1 [], .s 5 []] [(0, 1, (.i 3)), (2, 1, (.i 1))]), oS (.store 5 (.t 4) (.t 40))]) (
 .ret)) (.seq (.g [oQ 42 (.bin .eql (.t 37) (.c (.v (.string ({ data := #[102, 97, 108, 115, 101] } : ByteArray))))), oM 41 42]) (
 .cond (.t 41) (.seq (.g [oQ 43 (.build [.v (.int .i64 0), .v (.string ByteArray.empty), .v (.int .i64 0), .s 1 [], .s 5 []] [(0, 1, (.i 3))]), oS (.store 5 (.t 4) (.t 43))]) (
 .ret)) (.skip))))))) (
 .seq (.g [oM 45 6, oC 46 92 [.c kI, .c .b] [45], oM 44 46, oX 47 44 0, oX 48 44 1, oM 7 47, oM 8 48]) (
 .seq (.g [oM 49 0, oM 50 0, oQ 51 (.more (.nck (.t 50))), oF 52 1 51, oW 53 .b 52, oM 54 53, oJ 55 54 true (.mv (.t 8)), oQ 56 (.pick (.t 54) (.t 55) (.b false)), oQ 57 (.more (.nck (.t 49))), oF 58 1 57, oS (.store 1 (.t 58) (.t 56))]) (
 .seq (.g [oM 59 7, oQ 60 (.build [.v (.int .i64 0), .v (.string ByteArray.empty), .v (.int .i64 0), .s 1 [], .s 5 []] [(0, 1, (.i 2)), (2, 1, (.t 59))]), oS (.store 5 (.t 4) (.t 60))]) (
 .ret))))))))⟩
theorem D2b (T : Table) (k : Nat) (s1 : ByteArray) (b2 : Bool) (n3 : Int): H9 T k a59 [.p [.v (.string s1), .v (.bool b2)], .d (.v (.int .i64 n3))] = (
 bif (n3 == 0) then (
 some ⟨.g [.v (.int .i64 0), .v (.string ByteArray.empty), .v (.int .i64 0), .s 1 [], .s 5 []], [.p [.v (.string s1), .v (.bool false)]]⟩) else (
 C8 T 88 [.p [.v (.string s1), .v (.bool b2)], .d (.v (.string ({ data := #[34] } : ByteArray)))] fun o4 =>
 nth o4.back 0 fun i5 =>
 oP i5 fun r6 =>
 tst (Nat.beq r6.length 2) (
 cS r6 0 fun s7 =>
 cB r6 1 fun b8 =>
 oD o4.res fun d9 =>
 dB d9 fun b10 =>
 bif b10 then (
 C8 T 89 [.p [.v (.string s7), .v (.bool b8)]] fun o11 =>
 nth o11.back 0 fun i12 =>
 oP i12 fun r13 =>
 tst (Nat.beq r13.length 2) (
 cS r13 0 fun s14 =>
 cB r13 1 fun b15 =>
 oD o11.res fun d16 =>
 dS d16 fun s17 =>
 some ⟨.g [.v (.int .i64 1), .v (.string s17), .v (.int .i64 0), .s 1 [], .s 5 []], [.p [.v (.string s14), .v (.bool b15)]]⟩)) else (
 C8 T 88 [.p [.v (.string s7), .v (.bool b8)], .d (.v (.string ({ data := #[91] } : ByteArray)))] fun o18 =>
 nth o18.back 0 fun i19 =>
 oP i19 fun r20 =>
 tst (Nat.beq r20.length 2) (
 cS r20 0 fun s21 =>
 cB r20 1 fun b22 =>
 oD o18.res fun d23 =>
 dB d23 fun b24 =>
 bif b24 then (
 C8 T 90 [.p [.v (.string s21), .v (.bool b22)], .d (.v (.int .i64 4)), .d (.v (.string ({ data := #[93] } : ByteArray))), .d (.v (.int .i64 n3))] fun o25 =>
 nth o25.back 0 fun i26 =>
 oP i26 fun r27 =>
 tst (Nat.beq r27.length 2) (
 cS r27 0 fun s28 =>
 cB r27 1 fun b29 =>
 oG o25.res fun r30 =>
 tst (Nat.beq r30.length 5) (
 cI .i64 r30 0 fun n31 =>
 cS r30 1 fun s32 =>
 cI .i64 r30 2 fun n33 =>
 cL 1 r30 3 fun l34 =>
 cL 5 r30 4 fun l35 =>
 some ⟨.g [.v (.int .i64 n31), .v (.string s32), .v (.int .i64 n33), .s 1 l34, .s 5 l35], [.p [.v (.string s28), .v (.bool b29)]]⟩))) else (
 C8 T 88 [.p [.v (.string s21), .v (.bool b22)], .d (.v (.string ({ data := #[123] } : ByteArray)))] fun o36 =>
 nth o36.back 0 fun i37 =>
 oP i37 fun r38 =>
 tst (Nat.beq r38.length 2) (
 cS r38 0 fun s39 =>
 cB r38 1 fun b40 =>
 oD o36.res fun d41 =>
 dB d41 fun b42 =>
 bif b42 then (
 C8 T 90 [.p [.v (.string s39), .v (.bool b40)], .d (.v (.int .i64 5)), .d (.v (.string ({ data := #[125] } : ByteArray))), .d (.v (.int .i64 n3))] fun o43 =>
 nth o43.back 0 fun i44 =>
 oP i44 fun r45 =>
 tst (Nat.beq r45.length 2) (
 cS r45 0 fun s46 =>
 cB r45 1 fun b47 =>
 oG o43.res fun r48 =>
 tst (Nat.beq r48.length 5) (
 cI .i64 r48 0 fun n49 =>
 cS r48 1 fun s50 =>
 cI .i64 r48 2 fun n51 =>
 cL 1 r48 3 fun l52 =>
 cL 5 r48 4 fun l53 =>
 some ⟨.g [.v (.int .i64 n49), .v (.string s50), .v (.int .i64 n51), .s 1 l52, .s 5 l53], [.p [.v (.string s46), .v (.bool b47)]]⟩))) else (
 C8 T 91 [.p [.v (.string s39), .v (.bool b40)], .d (.v (.string ({ data := #[44, 93, 125] } : ByteArray)))] fun o54 =>
 nth o54.back 0 fun i55 =>
 oP i55 fun r56 =>
 tst (Nat.beq r56.length 2) (
 cS r56 0 fun s57 =>
 cB r56 1 fun b58 =>
 oD o54.res fun d59 =>
 dS d59 fun s60 =>
 bif (D9 s60 ({ data := #[116, 114, 117, 101] } : ByteArray)) then (
 some ⟨.g [.v (.int .i64 3), .v (.string ByteArray.empty), .v (.int .i64 1), .s 1 [], .s 5 []], [.p [.v (.string s57), .v (.bool b58)]]⟩) else (
 bif (D9 s60 ({ data := #[102, 97, 108, 115, 101] } : ByteArray)) then (
 some ⟨.g [.v (.int .i64 3), .v (.string ByteArray.empty), .v (.int .i64 0), .s 1 [], .s 5 []], [.p [.v (.string s57), .v (.bool b58)]]⟩) else (
 C8 T 92 [.d (.v (.string s60))] fun o61 =>
 oT o61.res fun is62 =>
 tst (Nat.beq is62.length 2) (
 nth is62 0 fun i63 =>
 oD i63 fun d64 =>
 dI .i64 d64 fun n65 =>
 nth is62 1 fun i66 =>
 oD i66 fun d67 =>
 dB d67 fun b68 =>
 bif b58 == true then (
 some ⟨.g [.v (.int .i64 2), .v (.string ByteArray.empty), .v (.int .i64 n65), .s 1 [], .s 5 []], [.p [.v (.string s57), .v (.bool b68)]]⟩) else (
 some ⟨.g [.v (.int .i64 2), .v (.string ByteArray.empty), .v (.int .i64 n65), .s 1 [], .s 5 []], [.p [.v (.string s57), .v (.bool false)]]⟩))))))))))))) := by kernel_rfl
/- loop.example/g00119/impl.ParseValue -/
def a32 : AFun := ⟨[.rd], false, [.c 2 true [kI, .s, kI, .sl 1, .sl 5], .t 3], (
 .seq (.g [oQ 2 (.alloc [.v (.int .i64 0), .v (.string ByteArray.empty), .v (.int .i64 0), .s 1 [], .s 5 []]), oV 3 false]) (
 .seq (.g [oM 6 0, oQ 7 (.build [.v (.string ByteArray.empty), .v (.bool false)] [(0, 1, (.t 6)), (1, 1, (.b true))]), oQ 8 (.box (.t 7)), oM 4 8]) (
 .seq (.g [oM 9 4, oQ 10 (.call (.f 59) [.lent, .rd] false [.g [kI, .s, kI, .sl 1, .sl 5]] [.t 9, .i 6]), oQ 5 (.alloc [.v (.int .i64 0), .v (.string ByteArray.empty), .v (.int .i64 0), .s 1 [], .s 5 []]), oS (.store 5 (.t 5) (.t 10))]) (
 .seq (.seq (.g [oM 11 4, oQ 12 (.more (.nck (.t 11))), oF 13 1 12, oW 14 .b 13, oN 15 14, oM 16 15, oJ 17 16 false (.mv (.t 4)), oJ 18 16 false (.more (.nck (.t 17))), oJ 19 16 false (.fad 0 (.t 18)), oJ 20 16 false (.load false [.s] (.t 19)), oJ 21 16 false (.bin .neq (.t 20) (.c (.v (.string ({ data := #[] } : ByteArray))))), oQ 22 (.pick (.t 16) (.b true) (.t 21)), oM 23 22, oJ 24 23 false (.load true [kI, .s, kI, .sl 1, .sl 5] (.t 5)), oJ 25 23 false (.call (.f 51) [.rd] false [.c .b] [.t 24]), oJ 26 23 false (.un .not (.t 25)), oQ 27 (.pick (.t 23) (.b true) (.t 26)), oM 28 27, oJ 29 28 false (.load true [kI, .s, kI, .sl 1, .sl 5] (.t 5)), oJ 30 28 false (.call (.f 52) [.rd] false [.c .s] [.t 29]), oJ 31 28 false (.mv (.t 0)), oJ 32 28 false (.bin .neq (.t 30) (.t 31)), oQ 33 (.pick (.t 28) (.b true) (.t 32))]) (
 .cond (.t 33) (.seq (.g [oQ 34 (.build [.v (.int .i64 0), .v (.string ByteArray.empty), .v (.int .i64 0), .s 1 [], .s 5 []] []), oS (.store 5 (.t 2) (.t 34)), oV 3 false]) (
 .ret)) (.skip))) (
 .seq (.g [oL 35 [kI, .s, kI, .sl 1, .sl 5] 5, oS (.store 5 (.t 2) (.t 35)), oV 3 true]) (
 .ret))))))⟩
theorem D2c (T : Table) (k : Nat) (s1 : ByteArray): H9 T k a32 [.d (.v (.string s1))] = (
 C8 T 59 [.p [.v (.string s1), .v (.bool true)], .d (.v (.int .i64 6))] fun o2 =>
 nth o2.back 0 fun i3 =>
 oP i3 fun r4 =>
 tst (Nat.beq r4.length 2) (
 cS r4 0 fun s5 =>
 cB r4 1 fun b6 =>
 oG o2.res fun r7 =>
 tst (Nat.beq r7.length 5) (
 cI .i64 r7 0 fun n8 =>
 cS r7 1 fun s9 =>
 cI .i64 r7 2 fun n10 =>
 cL 1 r7 3 fun l11 =>
 cL 5 r7 4 fun l12 =>
 bif (!b6) == false then (
 bif (!(D9 s5 ({ data := #[] } : ByteArray))) == false then (
 C8 T 51 [.g [.v (.int .i64 n8), .v (.string s9), .v (.int .i64 n10), .s 1 l11, .s 5 l12]] fun o13 =>
 oD o13.res fun d14 =>
 dB d14 fun b15 =>
 bif (!b15) == false then (
 C8 T 52 [.g [.v (.int .i64 n8), .v (.string s9), .v (.int .i64 n10), .s 1 l11, .s 5 l12]] fun o16 =>
 oD o16.res fun d17 =>
 dS d17 fun s18 =>
 bif (!(D9 s18 s1)) then (
 some ⟨.t [.g [.v (.int .i64 0), .v (.string ByteArray.empty), .v (.int .i64 0), .s 1 [], .s 5 []], .d (.v (.bool false))], []⟩) else (
 some ⟨.t [.g [.v (.int .i64 n8), .v (.string s9), .v (.int .i64 n10), .s 1 l11, .s 5 l12], .d (.v (.bool true))], []⟩)) else (
 some ⟨.t [.g [.v (.int .i64 0), .v (.string ByteArray.empty), .v (.int .i64 0), .s 1 [], .s 5 []], .d (.v (.bool false))], []⟩)) else (
 some ⟨.t [.g [.v (.int .i64 0), .v (.string ByteArray.empty), .v (.int .i64 0), .s 1 [], .s 5 []], .d (.v (.bool false))], []⟩)) else (
 some ⟨.t [.g [.v (.int .i64 0), .v (.string ByteArray.empty), .v (.int .i64 0), .s 1 [], .s 5 []], .d (.v (.bool false))], []⟩)))) := by kernel_rfl
/- loop.example/g00119/impl.ParseMsg -/
def C84 : ACode := (
 .seq (.g [oB 58 .lss 57 56]) (
 .seq (.cond (.t 58) (.skip) (.exit 0)) (
 .seq (.block 1 (.seq (.g [oQ 59 (.more (.iaw 1 (.t 55) (.t 57))), oW 60 .s 59, oM 13 60]) (
 .seq (.g [oM 62 13, oQ 63 (.call (.f 30) [.rd, .rd] false [.c .s, .c .s, .c .b] [.t 62, .c (.v (.string ({ data := #[32] } : ByteArray)))]), oM 61 63, oX 64 61 0, oX 65 61 1, oX 66 61 2, oM 14 64, oM 15 65, oM 16 66]) (
 .seq (.g [oM 68 14, oC 69 31 [.c kI, .c .b] [68], oM 67 69, oX 70 67 0, oX 71 67 1, oM 17 70, oM 18 71]) (
 .seq (.g [oM 73 15, oQ 74 (.call (.f 30) [.rd, .rd] false [.c .s, .c .s, .c .b] [.t 73, .c (.v (.string ({ data := #[32] } : ByteArray)))]), oM 72 74, oX 75 72 0, oX 76 72 1, oX 77 72 2, oM 19 75, oM 20 76, oM 21 77]) (
 .seq (.g [oM 79 19, oC 80 31 [.c kI, .c .b] [79], oM 78 80, oX 81 78 0, oX 82 78 1, oM 22 81, oM 23 82]) (
 .seq (.seq (.g [oF 83 0 11, oW 84 kI 83, oBi 85 .eql 84 1]) (
 .cond (.t 85) (.seq (.g [oF 86 4 11, oW 87 (.sl 2) 86, oM 88 17, oM 89 22, oQ 90 (.build [.v (.int .i64 0), .v (.int .i64 0)] [(0, 1, (.t 88)), (1, 1, (.t 89))]), oQ 91 (.lit 2 ([[.v (.int .i64 0), .v (.int .i64 0)]] : Rows) [(0, (.t 90))]), oQ 92 (.app 2 16 (.t 87) (.t 91)), oF 93 4 11, oS (.store 1 (.t 93) (.t 92))]) (
 .exit 1)) (.skip))) (
 .seq (.g [oM 95 20, oC 96 32 [.g [kI, .s, kI, .sl 1, .sl 5], .c .b] [95], oM 94 96, oX 97 94 0, oX 98 94 1, oQ 24 (.alloc [.v (.int .i64 0), .v (.string ByteArray.empty), .v (.int .i64 0), .s 1 [], .s 5 []]), oS (.store 5 (.t 24) (.t 97)), oM 25 98]) (
 .g [oF 99 3 11, oW 100 (.sl 7) 99, oM 101 17, oM 102 22, oL 103 [kI, .s, kI, .sl 1, .sl 5] 24, oQ 104 (.build [.v (.int .i64 0), .v (.int .i64 0), .v (.int .i64 0), .v (.string ByteArray.empty), .v (.int .i64 0), .s 1 [], .s 5 []] [(0, 1, (.t 101)), (1, 1, (.t 102)), (2, 5, (.t 103))]), oQ 105 (.lit 7 ([[.v (.int .i64 0), .v (.int .i64 0), .v (.int .i64 0), .v (.string ByteArray.empty), .v (.int .i64 0), .s 1 [], .s 5 []]] : Rows) [(0, (.t 104))]), oQ 106 (.app 7 96 (.t 100) (.t 105)), oF 107 3 11, oS (.store 1 (.t 107) (.t 106))]))))))))) (
 .g [oBi 108 .add 57 1, oM 57 108]))))
def C85 : K4 := [((.exit 0), [(0, .c .s), (2, .b [.c kI, .c .s, .c kI, .o 7, .o 2]), (11, .b [.c kI, .c .s, .c kI, .o 7, .o 2])])]
noncomputable def A97 (T : Table) (k : Nat) := K7 (J5 ⟨T, [], []⟩ k C84 (Ex × List AV)) [0, 2, 4, 11, 55, 56, 57] C85
def a10 : AFun := ⟨[.rd], false, [.c 2 true [kI, .s, kI, .sl 7, .sl 2], .t 3], (
 .seq (.g [oQ 2 (.alloc [.v (.int .i64 0), .v (.string ByteArray.empty), .v (.int .i64 0), .s 7 [], .s 2 []]), oV 3 false]) (
 .seq (.g [oM 26 0, oQ 27 (.call (.f 29) [.rd, .rd] false [.c .s] [.t 26, .c (.v (.string ({ data := #[10] } : ByteArray)))]), oQ 28 (.call (.f 28) [.rd, .rd] false [.c (.sl 1)] [.t 27, .c (.v (.string ({ data := #[10] } : ByteArray)))]), oM 4 28]) (
 .seq (.g [oM 30 4, oQ 31 (.iad 1 (.t 30) (.i 0)), oW 32 .s 31, oQ 33 (.call (.f 30) [.rd, .rd] false [.c .s, .c .s, .c .b] [.t 32, .c (.v (.string ({ data := #[32] } : ByteArray)))]), oM 29 33, oX 34 29 0, oX 35 29 1, oX 36 29 2, oM 5 34, oM 6 35, oM 7 36]) (
 .seq (.g [oM 38 6, oQ 39 (.call (.f 30) [.rd, .rd] false [.c .s, .c .s, .c .b] [.t 38, .c (.v (.string ({ data := #[32] } : ByteArray)))]), oM 37 39, oX 40 37 0, oX 41 37 1, oX 42 37 2, oM 8 40, oM 9 41, oM 10 42]) (
 .seq (.g [oM 43 8, oQ 44 (.build [.v (.int .i64 0), .v (.string ByteArray.empty), .v (.int .i64 0), .s 7 [], .s 2 []] [(0, 1, (.i 1)), (1, 1, (.t 43))]), oQ 11 (.alloc [.v (.int .i64 0), .v (.string ByteArray.empty), .v (.int .i64 0), .s 7 [], .s 2 []]), oS (.store 5 (.t 11) (.t 44))]) (
 .seq (.g [oM 46 9, oC 47 31 [.c kI, .c .b] [46], oM 45 47, oX 48 45 0, oX 49 45 1, oF 50 2 11, oS (.store 1 (.t 50) (.t 48))]) (
 .seq (.seq (.g [oM 51 5, oQ 52 (.bin .eql (.t 51) (.c (.v (.string ({ data := #[108, 105, 115, 116] } : ByteArray)))))]) (
 .cond (.t 52) (.g [oF 53 0 11, oS (.store 1 (.t 53) (.i 2))]) (.skip))) (
 .seq (.seq (.g [oM 54 4, oQ 55 (.more (.slo 1 (.t 54) (some (.i 1)) none)), oQ 56 (.more (.lnw (.t 55))), oK 57 0]) (
 .block 0 (.loop [0, 2, 4, 11, 55, 56, 57] C85 C84))) (
 .seq (.seq (.g [oM 109 0, oQ 110 (.bin .eql (.t 109) (.c (.v (.string ({ data := #[] } : ByteArray))))), oM 111 110, oJ 112 111 false (.load true [kI, .s, kI, .sl 7, .sl 2] (.t 11)), oJ 113 111 false (.call (.f 9) [.rd] false [.c .b] [.t 112]), oJ 114 111 false (.un .not (.t 113)), oQ 115 (.pick (.t 111) (.b true) (.t 114)), oM 116 115, oJ 117 116 false (.load true [kI, .s, kI, .sl 7, .sl 2] (.t 11)), oJ 118 116 false (.call (.f 7) [.rd] false [.c .s] [.t 117]), oJ 119 116 false (.mv (.t 0)), oJ 120 116 false (.bin .neq (.t 118) (.t 119)), oQ 121 (.pick (.t 116) (.b true) (.t 120))]) (
 .cond (.t 121) (.seq (.g [oQ 122 (.build [.v (.int .i64 0), .v (.string ByteArray.empty), .v (.int .i64 0), .s 7 [], .s 2 []] []), oS (.store 5 (.t 2) (.t 122)), oV 3 false]) (
 .ret)) (.skip))) (
 .seq (.g [oL 123 [kI, .s, kI, .sl 7, .sl 2] 11, oS (.store 5 (.t 2) (.t 123)), oV 3 true]) (
 .ret)))))))))))⟩
theorem C4c (T : Table) (k n m52 m53 : Nat) (s40 s42 s48 : ByteArray) (n41 n43 n47 n49 n54 n55 : Int) (l44 l45 l46 l50 l51 : Rows): A97 T k (n + 1) [.v (.string s40), .b [.v (.int .i64 n41), .v (.string s42), .v (.int .i64 n43), .o 7 l44, .o 2 l45], .o 1 l46, .b [.v (.int .i64 n47), .v (.string s48), .v (.int .i64 n49), .o 7 l50, .o 2 l51], .w 2 m52 m53, .v (.int .i64 n54), .v (.int .i64 n55)] = (
 bif (decide (n55 < n54)) then (
 tst (decide (0 ≤ n55) && decide (Int.toNat n55 < m53 - m52)) (
 look l46 (m52 + Int.toNat n55) fun r56 =>
 cS r56 0 fun s57 =>
 C8 T 30 [.d (.v (.string s57)), .d (.v (.string ({ data := #[32] } : ByteArray)))] fun o58 =>
 oT o58.res fun is59 =>
 tst (Nat.beq is59.length 3) (
 nth is59 0 fun i60 =>
 oD i60 fun d61 =>
 dS d61 fun s62 =>
 nth is59 1 fun i63 =>
 oD i63 fun d64 =>
 dS d64 fun s65 =>
 nth is59 2 fun i66 =>
 oD i66 fun d67 =>
 dB d67 fun b68 =>
 C8 T 31 [.d (.v (.string s62))] fun o69 =>
 oT o69.res fun is70 =>
 tst (Nat.beq is70.length 2) (
 nth is70 0 fun i71 =>
 oD i71 fun d72 =>
 dI .i64 d72 fun n73 =>
 nth is70 1 fun i74 =>
 oD i74 fun d75 =>
 dB d75 fun b76 =>
 C8 T 30 [.d (.v (.string s65)), .d (.v (.string ({ data := #[32] } : ByteArray)))] fun o77 =>
 oT o77.res fun is78 =>
 tst (Nat.beq is78.length 3) (
 nth is78 0 fun i79 =>
 oD i79 fun d80 =>
 dS d80 fun s81 =>
 nth is78 1 fun i82 =>
 oD i82 fun d83 =>
 dS d83 fun s84 =>
 nth is78 2 fun i85 =>
 oD i85 fun d86 =>
 dB d86 fun b87 =>
 C8 T 31 [.d (.v (.string s81))] fun o88 =>
 oT o88.res fun is89 =>
 tst (Nat.beq is89.length 2) (
 nth is89 0 fun i90 =>
 oD i90 fun d91 =>
 dI .i64 d91 fun n92 =>
 nth is89 1 fun i93 =>
 oD i93 fun d94 =>
 dB d94 fun b95 =>
 bif (n47 == 1) then (
 tst (decide ((l51.length + ([[.v (.int .i64 n73), .v (.int .i64 n92)]] : Rows).length) * 16 ≤ D7)) (
 A97 T k n [.v (.string s40), .b [.v (.int .i64 n41), .v (.string s42), .v (.int .i64 n43), .o 7 l44, .o 2 l45], .o 1 l46, .b [.v (.int .i64 n47), .v (.string s48), .v (.int .i64 n49), .o 7 l50, .o 2 (l51 ++ ([[.v (.int .i64 n73), .v (.int .i64 n92)]] : Rows))], .w 2 m52 m53, .v (.int .i64 n54), .v (.int .i64 (IntKind.wrap .i64 (n55 + 1)))])) else (
 C8 T 32 [.d (.v (.string s84))] fun o96 =>
 oT o96.res fun is97 =>
 tst (Nat.beq is97.length 2) (
 nth is97 0 fun i98 =>
 oG i98 fun r99 =>
 tst (Nat.beq r99.length 5) (
 cI .i64 r99 0 fun n100 =>
 cS r99 1 fun s101 =>
 cI .i64 r99 2 fun n102 =>
 cL 1 r99 3 fun l103 =>
 cL 5 r99 4 fun l104 =>
 nth is97 1 fun i105 =>
 oD i105 fun d106 =>
 dB d106 fun b107 =>
 tst (decide ((l50.length + ([[.v (.int .i64 n73), .v (.int .i64 n92), .v (.int .i64 n100), .v (.string s101), .v (.int .i64 n102), hole, hole]] : Rows).length) * 96 ≤ D7)) (
 A97 T k n [.v (.string s40), .b [.v (.int .i64 n41), .v (.string s42), .v (.int .i64 n43), .o 7 l44, .o 2 l45], .o 1 l46, .b [.v (.int .i64 n47), .v (.string s48), .v (.int .i64 n49), .o 7 (G8 (G8 (l50 ++ ([[.v (.int .i64 n73), .v (.int .i64 n92), .v (.int .i64 n100), .v (.string s101), .v (.int .i64 n102), hole, hole]] : Rows)) (0 + l50.length) 6 (.s 5 l104)) (0 + l50.length) 5 (.s 1 l103)), .o 2 l51], .w 2 m52 m53, .v (.int .i64 n54), .v (.int .i64 (IntKind.wrap .i64 (n55 + 1)))])))))))))) else (
 some ((.exit 0), [.v (.string s40), .b [.v (.int .i64 n41), .v (.string s42), .v (.int .i64 n43), .o 7 l44, .o 2 l45], .b [.v (.int .i64 n47), .v (.string s48), .v (.int .i64 n49), .o 7 l50, .o 2 l51]]))) := by kernel_rfl
theorem D3o (T : Table) (k : Nat) (s1 : ByteArray): H9 T k a10 [.d (.v (.string s1))] = (
 C8 T 29 [.d (.v (.string s1)), .d (.v (.string ({ data := #[10] } : ByteArray)))] fun o2 =>
 oD o2.res fun d3 =>
 dS d3 fun s4 =>
 C8 T 28 [.d (.v (.string s4)), .d (.v (.string ({ data := #[10] } : ByteArray)))] fun o5 =>
 oD o5.res fun d6 =>
 dL 1 d6 fun l7 =>
 tst (decide (0 ≤ 0) && decide (Int.toNat 0 < l7.length)) (
 look l7 0 fun r8 =>
 cS r8 0 fun s9 =>
 C8 T 30 [.d (.v (.string s9)), .d (.v (.string ({ data := #[32] } : ByteArray)))] fun o10 =>
 oT o10.res fun is11 =>
 tst (Nat.beq is11.length 3) (
 nth is11 0 fun i12 =>
 oD i12 fun d13 =>
 dS d13 fun s14 =>
 nth is11 1 fun i15 =>
 oD i15 fun d16 =>
 dS d16 fun s17 =>
 nth is11 2 fun i18 =>
 oD i18 fun d19 =>
 dB d19 fun b20 =>
 C8 T 30 [.d (.v (.string s17)), .d (.v (.string ({ data := #[32] } : ByteArray)))] fun o21 =>
 oT o21.res fun is22 =>
 tst (Nat.beq is22.length 3) (
 nth is22 0 fun i23 =>
 oD i23 fun d24 =>
 dS d24 fun s25 =>
 nth is22 1 fun i26 =>
 oD i26 fun d27 =>
 dS d27 fun s28 =>
 nth is22 2 fun i29 =>
 oD i29 fun d30 =>
 dB d30 fun b31 =>
 C8 T 31 [.d (.v (.string s28))] fun o32 =>
 oT o32.res fun is33 =>
 tst (Nat.beq is33.length 2) (
 nth is33 0 fun i34 =>
 oD i34 fun d35 =>
 dI .i64 d35 fun n36 =>
 nth is33 1 fun i37 =>
 oD i37 fun d38 =>
 dB d38 fun b39 =>
 bif (D9 s14 ({ data := #[108, 105, 115, 116] } : ByteArray)) then (
 tst (N9 1 (l7.length : Int) (l7.length)) (
 aft (A97 T k k [.v (.string s1), .b [.v (.int .i64 0), .v (.string ByteArray.empty), .v (.int .i64 0), .o 7 [], .o 2 []], .o 1 l7, .b [.v (.int .i64 2), .v (.string s25), .v (.int .i64 n36), .o 7 [], .o 2 []], .w 2 1 (Int.toNat (l7.length : Int)), .v (.int .i64 (((Int.toNat (l7.length : Int)) - 1 : Nat) : Int)), .v (.int .i64 0)]) fun e108 ys109 =>
 bif e108.same (.exit 0) then (
 aV ys109 0 fun x110 =>
 aS x110 fun s111 =>
 aV ys109 1 fun x112 =>
 aX x112 fun xs113 =>
 aV xs113 0 fun x114 =>
 aI .i64 x114 fun n115 =>
 aV xs113 1 fun x116 =>
 aS x116 fun s117 =>
 aV xs113 2 fun x118 =>
 aI .i64 x118 fun n119 =>
 aV xs113 3 fun x120 =>
 aO 7 x120 fun l121 =>
 aV xs113 4 fun x122 =>
 aO 2 x122 fun l123 =>
 aV ys109 2 fun x124 =>
 aX x124 fun xs125 =>
 aV xs125 0 fun x126 =>
 aI .i64 x126 fun n127 =>
 aV xs125 1 fun x128 =>
 aS x128 fun s129 =>
 aV xs125 2 fun x130 =>
 aI .i64 x130 fun n131 =>
 aV xs125 3 fun x132 =>
 aO 7 x132 fun l133 =>
 aV xs125 4 fun x134 =>
 aO 2 x134 fun l135 =>
 bif (D9 s111 ({ data := #[] } : ByteArray)) == false then (
 C8 T 9 [.g [.v (.int .i64 n127), .v (.string s129), .v (.int .i64 n131), .s 7 l133, .s 2 l135]] fun o136 =>
 oD o136.res fun d137 =>
 dB d137 fun b138 =>
 bif (!b138) == false then (
 C8 T 7 [.g [.v (.int .i64 n127), .v (.string s129), .v (.int .i64 n131), .s 7 l133, .s 2 l135]] fun o139 =>
 oD o139.res fun d140 =>
 dS d140 fun s141 =>
 bif (!(D9 s141 s111)) then (
 some ⟨.t [.g [.v (.int .i64 0), .v (.string ByteArray.empty), .v (.int .i64 0), .s 7 [], .s 2 []], .d (.v (.bool false))], []⟩) else (
 some ⟨.t [.g [.v (.int .i64 n127), .v (.string s129), .v (.int .i64 n131), .s 7 l133, .s 2 l135], .d (.v (.bool true))], []⟩)) else (
 some ⟨.t [.g [.v (.int .i64 0), .v (.string ByteArray.empty), .v (.int .i64 0), .s 7 [], .s 2 []], .d (.v (.bool false))], []⟩)) else (
 some ⟨.t [.g [.v (.int .i64 0), .v (.string ByteArray.empty), .v (.int .i64 0), .s 7 [], .s 2 []], .d (.v (.bool false))], []⟩)) else (
 none))) else (
 tst (N9 1 (l7.length : Int) (l7.length)) (
 aft (A97 T k k [.v (.string s1), .b [.v (.int .i64 0), .v (.string ByteArray.empty), .v (.int .i64 0), .o 7 [], .o 2 []], .o 1 l7, .b [.v (.int .i64 1), .v (.string s25), .v (.int .i64 n36), .o 7 [], .o 2 []], .w 2 1 (Int.toNat (l7.length : Int)), .v (.int .i64 (((Int.toNat (l7.length : Int)) - 1 : Nat) : Int)), .v (.int .i64 0)]) fun e142 ys143 =>
 bif e142.same (.exit 0) then (
 aV ys143 0 fun x144 =>
 aS x144 fun s145 =>
 aV ys143 1 fun x146 =>
 aX x146 fun xs147 =>
 aV xs147 0 fun x148 =>
 aI .i64 x148 fun n149 =>
 aV xs147 1 fun x150 =>
 aS x150 fun s151 =>
 aV xs147 2 fun x152 =>
 aI .i64 x152 fun n153 =>
 aV xs147 3 fun x154 =>
 aO 7 x154 fun l155 =>
 aV xs147 4 fun x156 =>
 aO 2 x156 fun l157 =>
 aV ys143 2 fun x158 =>
 aX x158 fun xs159 =>
 aV xs159 0 fun x160 =>
 aI .i64 x160 fun n161 =>
 aV xs159 1 fun x162 =>
 aS x162 fun s163 =>
 aV xs159 2 fun x164 =>
 aI .i64 x164 fun n165 =>
 aV xs159 3 fun x166 =>
 aO 7 x166 fun l167 =>
 aV xs159 4 fun x168 =>
 aO 2 x168 fun l169 =>
 bif (D9 s145 ({ data := #[] } : ByteArray)) == false then (
 C8 T 9 [.g [.v (.int .i64 n161), .v (.string s163), .v (.int .i64 n165), .s 7 l167, .s 2 l169]] fun o170 =>
 oD o170.res fun d171 =>
 dB d171 fun b172 =>
 bif (!b172) == false then (
 C8 T 7 [.g [.v (.int .i64 n161), .v (.string s163), .v (.int .i64 n165), .s 7 l167, .s 2 l169]] fun o173 =>
 oD o173.res fun d174 =>
 dS d174 fun s175 =>
 bif (!(D9 s175 s145)) then (
 some ⟨.t [.g [.v (.int .i64 0), .v (.string ByteArray.empty), .v (.int .i64 0), .s 7 [], .s 2 []], .d (.v (.bool false))], []⟩) else (
 some ⟨.t [.g [.v (.int .i64 n161), .v (.string s163), .v (.int .i64 n165), .s 7 l167, .s 2 l169], .d (.v (.bool true))], []⟩)) else (
 some ⟨.t [.g [.v (.int .i64 0), .v (.string ByteArray.empty), .v (.int .i64 0), .s 7 [], .s 2 []], .d (.v (.bool false))], []⟩)) else (
 some ⟨.t [.g [.v (.int .i64 0), .v (.string ByteArray.empty), .v (.int .i64 0), .s 7 [], .s 2 []], .d (.v (.bool false))], []⟩)) else (
 none)))))))) := by kernel_rfl
/- loop.example/g00119/spec.l1In -/
def a21 : AFun := ⟨[.rd, .rd, .rd], false, [.t 6], (
 .seq (.g [oV 6 false]) (
 .seq (.g [oM 7 0, oM 8 1, oB 9 .geq 7 8, oM 10 9, oJ 11 10 true (.mv (.t 0)), oJ 12 10 true (.mv (.t 2)), oJ 13 10 true (.bin .leq (.t 11) (.t 12)), oQ 14 (.pick (.t 10) (.t 13) (.b false)), oM 6 14]) (
 .ret)))⟩
theorem D3p (T : Table) (k : Nat) (n1 n2 n3 : Int): H9 T k a21 [.d (.v (.int .i64 n1)), .d (.v (.int .i64 n2)), .d (.v (.int .i64 n3))] = (
 bif (decide (n1 ≥ n2)) == true then (
 some ⟨.d (.v (.bool (decide (n1 ≤ n3)))), []⟩) else (
 some ⟨.d (.v (.bool false)), []⟩)) := by kernel_rfl
/- loop.example/g00119/spec.NameOk -/
def C86 : ACode := (
 .seq (.seq (.g [oM 4 3, oM 5 0, oQ 6 (.len true (.t 5)), oB 7 .lss 4 6]) (
 .cond (.t 7) (.skip) (.exit 0))) (
 .seq (.block 1 (.seq (.g [oM 10 0, oM 11 3, oQ 12 (.idx (.t 10) (.t 11)), oQ 13 (.conv (.int .i64) (.t 12)), oQ 14 (.call (.f 21) [.rd, .rd, .rd] false [.c .b] [.t 13, .i 97, .i 122]), oN 15 14, oM 16 15, oJ 17 16 true (.mv (.t 0)), oJ 18 16 true (.mv (.t 3)), oJ 19 16 true (.idx (.t 17) (.t 18)), oJ 20 16 true (.conv (.int .i64) (.t 19)), oJ 21 16 true (.call (.f 21) [.rd, .rd, .rd] false [.c .b] [.t 20, .i 48, .i 57]), oJ 22 16 true (.un .not (.t 21)), oQ 23 (.pick (.t 16) (.t 22) (.b false)), oM 24 23, oJ 25 24 true (.mv (.t 0)), oJ 26 24 true (.mv (.t 3)), oJ 27 24 true (.idx (.t 25) (.t 26)), oJ 28 24 true (.bin .neq (.t 27) (.c (.v (.int .u8 45)))), oQ 29 (.pick (.t 24) (.t 28) (.b false))]) (
 .cond (.t 29) (.seq (.g [oV 2 false]) (
 .ret)) (.skip)))) (
 .g [oM 8 3, oBi 9 .add 8 1, oM 3 9])))
def C87 : K4 := [(.ret, [(2, .c .b)]), ((.exit 0), [(0, .c .s)])]
noncomputable def B1e (T : Table) (k : Nat) := K7 (J5 ⟨T, [], []⟩ k C86 (Ex × List AV)) [0, 3] C87
def a20 : AFun := ⟨[.rd], false, [.t 2], (
 .seq (.g [oV 2 false]) (
 .seq (.seq (.g [oK 3 0]) (
 .block 0 (.loop [0, 3] C87 C86))) (
 .seq (.g [oM 30 0, oQ 31 (.len true (.t 30)), oQ 32 (.call (.f 21) [.rd, .rd, .rd] false [.c .b] [.t 31, .i 1, .i 20]), oM 33 32, oJ 34 33 true (.mv (.t 0)), oJ 35 33 true (.idx (.t 34) (.i 0)), oJ 36 33 true (.bin .neq (.t 35) (.c (.v (.int .u8 45)))), oQ 37 (.pick (.t 33) (.t 36) (.b false)), oM 38 37, oJ 39 38 true (.mv (.t 0)), oJ 40 38 true (.mv (.t 0)), oJ 41 38 true (.len true (.t 40)), oJ 42 38 true (.bin .sub (.t 41) (.i 1)), oJ 43 38 true (.idx (.t 39) (.t 42)), oJ 44 38 true (.bin .neq (.t 43) (.c (.v (.int .u8 45)))), oQ 45 (.pick (.t 38) (.t 44) (.b false)), oM 2 45]) (
 .ret))))⟩
theorem C4d (T : Table) (k n : Nat) (s2 : ByteArray) (n3 : Int): B1e T k (n + 1) [.v (.string s2), .v (.int .i64 n3)] = (
 bif (decide (n3 < (s2.size : Int))) then (
 tst (decide (0 ≤ n3)) (
 K5 s2 (Int.toNat n3) fun c4 =>
 C8 T 21 [.d (.v (.int .i64 (IntKind.wrap .i64 (c4.toNat : Int)))), .d (.v (.int .i64 97)), .d (.v (.int .i64 122))] fun o5 =>
 oD o5.res fun d6 =>
 dB d6 fun b7 =>
 bif (!b7) == true then (
 tst (decide (0 ≤ n3)) (
 K5 s2 (Int.toNat n3) fun c8 =>
 C8 T 21 [.d (.v (.int .i64 (IntKind.wrap .i64 (c8.toNat : Int)))), .d (.v (.int .i64 48)), .d (.v (.int .i64 57))] fun o9 =>
 oD o9.res fun d10 =>
 dB d10 fun b11 =>
 bif (!b11) == true then (
 tst (decide (0 ≤ n3)) (
 K5 s2 (Int.toNat n3) fun c12 =>
 bif ((c12.toNat : Int) != 45) then (
 some (.ret, [.v (.bool false)])) else (
 B1e T k n [.v (.string s2), .v (.int .i64 (IntKind.wrap .i64 (n3 + 1)))]))) else (
 B1e T k n [.v (.string s2), .v (.int .i64 (IntKind.wrap .i64 (n3 + 1)))]))) else (
 B1e T k n [.v (.string s2), .v (.int .i64 (IntKind.wrap .i64 (n3 + 1)))]))) else (
 some ((.exit 0), [.v (.string s2)]))) := by kernel_rfl
theorem D3q (T : Table) (k : Nat) (s1 : ByteArray): H9 T k a20 [.d (.v (.string s1))] = (
 aft (B1e T k k [.v (.string s1), .v (.int .i64 0)]) fun e13 ys14 =>
 bif e13.same .ret then (
 aV ys14 0 fun x15 =>
 aB x15 fun b16 =>
 some ⟨.d (.v (.bool b16)), []⟩) else (
 bif e13.same (.exit 0) then (
 aV ys14 0 fun x17 =>
 aS x17 fun s18 =>
 C8 T 21 [.d (.v (.int .i64 (s18.size : Int))), .d (.v (.int .i64 1)), .d (.v (.int .i64 20))] fun o19 =>
 oD o19.res fun d20 =>
 dB d20 fun b21 =>
 bif b21 == true then (
 tst (decide (0 ≤ 0)) (
 K5 s18 (Int.toNat 0) fun c22 =>
 bif ((c22.toNat : Int) != 45) == true then (
 tst (decide (0 ≤ (IntKind.wrap .i64 ((s18.size : Int) - 1)))) (
 K5 s18 (Int.toNat (IntKind.wrap .i64 ((s18.size : Int) - 1))) fun c23 =>
 some ⟨.d (.v (.bool ((c23.toNat : Int) != 45))), []⟩)) else (
 some ⟨.d (.v (.bool false)), []⟩))) else (
 some ⟨.d (.v (.bool false)), []⟩)) else (
 none))) := by kernel_rfl
/- loop.example/g00119/spec.l11Runs -/
def C88 : ACode := (
 .seq (.seq (.g [oM 6 5, oM 7 0, oZ 8 7, oB 9 .lss 6 8]) (
 .cond (.t 9) (.skip) (.exit 0))) (
 .seq (.block 1 (.seq (.dreg [] [(0, oM 12 0), (0, oM 13 5), (0, oI 14 2 12 13), (0, oF 15 0 14), (0, oW 16 kI 15), (1, oQ 17 (.call (.f 21) [.rd, .rd, .rd] false [.c .b] [.t 16, .i 1, .i 1000000])), (0, oN 18 17), (0, oM 19 18), (0, oJ 20 19 false (.mv (.t 0))), (0, oJ 21 19 false (.mv (.t 5))), (0, oJ 22 19 false (.iad 2 (.t 20) (.t 21))), (0, oJ 23 19 false (.fad 1 (.t 22))), (0, oJ 24 19 false (.load false [kI] (.t 23))), (0, oJ 25 19 false (.mv (.t 1))), (1, oJ 26 19 false (.call (.f 21) [.rd, .rd, .rd] false [.c .b] [.t 24, .t 25, .i 10000])), (0, oJ 27 19 false (.un .not (.t 26))), (0, oQ 28 (.pick (.t 19) (.b true) (.t 27))), (0, oM 29 28), (0, oJ 30 29 false (.mv (.t 5))), (0, oJ 31 29 false (.bin .gtr (.t 30) (.i 0))), (0, oJ 32 29 false (.mv (.t 31))), (0, oJ 33 32 true (.mv (.t 0))), (0, oJ 34 32 true (.mv (.t 5))), (0, oJ 35 32 true (.bin .sub (.t 34) (.i 1))), (0, oJ 36 32 true (.iad 2 (.t 33) (.t 35))), (0, oJ 37 32 true (.fad 0 (.t 36))), (0, oJ 38 32 true (.load false [kI] (.t 37))), (0, oJ 39 32 true (.mv (.t 0))), (0, oJ 40 32 true (.mv (.t 5))), (0, oJ 41 32 true (.iad 2 (.t 39) (.t 40))), (0, oJ 42 32 true (.fad 0 (.t 41))), (0, oJ 43 32 true (.load false [kI] (.t 42)))] [oJ 44 32 true (.bin .geq (.t 38) (.t 43)), oJ 45 29 false (.pick (.t 32) (.t 44) (.b false)), oQ 46 (.pick (.t 29) (.b true) (.t 45))]) (
 .cond (.t 46) (.seq (.g [oV 4 false]) (
 .ret)) (.skip)))) (
 .g [oM 10 5, oBi 11 .add 10 1, oM 5 11])))
def C89 : K4 := [(.ret, [(4, .c .b)]), ((.exit 0), [(0, .c (.sl 2))])]
noncomputable def B33 (T : Table) (k : Nat) := K7 (J5 ⟨T, [], []⟩ k C88 (Ex × List AV)) [0, 1, 5] C89
def a22 : AFun := ⟨[.rd, .rd], false, [.t 4], (
 .seq (.g [oV 4 false]) (
 .seq (.seq (.g [oK 5 0]) (
 .block 0 (.loop [0, 1, 5] C89 C88))) (
 .seq (.g [oM 47 0, oZ 48 47, oBi 49 .leq 48 80, oM 4 49]) (
 .ret))))⟩
theorem C4e (T : Table) (k n : Nat) (l3 : Rows) (n4 n5 : Int): B33 T k (n + 1) [.fz 2 l3, .v (.int .i64 n4), .v (.int .i64 n5)] = (
 bif (decide (n5 < (l3.length : Int))) then (
 tst (decide (0 ≤ n5)) (
 look l3 (Int.toNat n5) fun r6 =>
 cI .i64 r6 0 fun n7 =>
 C8 T 21 [.d (.v (.int .i64 n7)), .d (.v (.int .i64 1)), .d (.v (.int .i64 1000000))] fun o8 =>
 oD o8.res fun d9 =>
 dB d9 fun b10 =>
 bif (!b10) == false then (
 tst (decide (0 ≤ n5)) (
 look l3 (Int.toNat n5) fun r11 =>
 cI .i64 r11 1 fun n12 =>
 C8 T 21 [.d (.v (.int .i64 n12)), .d (.v (.int .i64 n4)), .d (.v (.int .i64 10000))] fun o13 =>
 oD o13.res fun d14 =>
 dB d14 fun b15 =>
 bif (!b15) == false then (
 bif (decide (n5 > 0)) == true then (
 tst (decide (0 ≤ (IntKind.wrap .i64 (n5 - 1)))) (
 look l3 (Int.toNat (IntKind.wrap .i64 (n5 - 1))) fun r16 =>
 cI .i64 r16 0 fun n17 =>
 tst (decide (0 ≤ n5)) (
 look l3 (Int.toNat n5) fun r18 =>
 cI .i64 r18 0 fun n19 =>
 bif (decide (n17 ≥ n19)) then (
 some (.ret, [.v (.bool false)])) else (
 B33 T k n [.fz 2 l3, .v (.int .i64 n4), .v (.int .i64 (IntKind.wrap .i64 (n5 + 1)))])))) else (
 B33 T k n [.fz 2 l3, .v (.int .i64 n4), .v (.int .i64 (IntKind.wrap .i64 (n5 + 1)))])) else (
 some (.ret, [.v (.bool false)])))) else (
 some (.ret, [.v (.bool false)])))) else (
 some ((.exit 0), [.fz 2 l3]))) := by kernel_rfl
theorem D3r (T : Table) (k : Nat) (l1 : Rows) (n2 : Int): H9 T k a22 [.d (.s 2 l1), .d (.v (.int .i64 n2))] = (
 aft (B33 T k k [.fz 2 l1, .v (.int .i64 n2), .v (.int .i64 0)]) fun e20 ys21 =>
 bif e20.same .ret then (
 aV ys21 0 fun x22 =>
 aB x22 fun b23 =>
 some ⟨.d (.v (.bool b23)), []⟩) else (
 bif e20.same (.exit 0) then (
 aV ys21 0 fun x24 =>
 aL 2 x24 fun l25 =>
 some ⟨.d (.v (.bool (decide ((l25.length : Int) ≤ 80)))), []⟩) else (
 none))) := by kernel_rfl
/- loop.example/g00119/spec.l4Text -/
def C4f : ACode := (
 .seq (.seq (.g [oM 4 3, oM 5 0, oQ 6 (.len true (.t 5)), oB 7 .lss 4 6]) (
 .cond (.t 7) (.skip) (.exit 0))) (
 .seq (.block 1 (.seq (.g [oM 10 0, oM 11 3, oQ 12 (.idx (.t 10) (.t 11)), oQ 13 (.conv (.int .i64) (.t 12)), oQ 14 (.call (.f 21) [.rd, .rd, .rd] false [.c .b] [.t 13, .i 32, .i 126]), oN 15 14]) (
 .cond (.t 15) (.seq (.g [oV 2 false]) (
 .ret)) (.skip)))) (
 .g [oM 8 3, oBi 9 .add 8 1, oM 3 9])))
def C4g : K4 := [(.ret, [(2, .c .b)]), ((.exit 0), [(0, .c .s)])]
noncomputable def B1f (T : Table) (k : Nat) := K7 (J5 ⟨T, [], []⟩ k C4f (Ex × List AV)) [0, 3] C4g
def D0o : AFun := ⟨[.rd], false, [.t 2], (
 .seq (.g [oV 2 false]) (
 .seq (.seq (.g [oK 3 0]) (
 .block 0 (.loop [0, 3] C4g C4f))) (
 .seq (.g [oM 16 0, oQ 17 (.len true (.t 16)), oBi 18 .leq 17 100, oM 2 18]) (
 .ret))))⟩
theorem C07 (T : Table) (k n : Nat) (s2 : ByteArray) (n3 : Int): B1f T k (n + 1) [.v (.string s2), .v (.int .i64 n3)] = (
 bif (decide (n3 < (s2.size : Int))) then (
 tst (decide (0 ≤ n3)) (
 K5 s2 (Int.toNat n3) fun c4 =>
 C8 T 21 [.d (.v (.int .i64 (IntKind.wrap .i64 (c4.toNat : Int)))), .d (.v (.int .i64 32)), .d (.v (.int .i64 126))] fun o5 =>
 oD o5.res fun d6 =>
 dB d6 fun b7 =>
 bif (!b7) then (
 some (.ret, [.v (.bool false)])) else (
 B1f T k n [.v (.string s2), .v (.int .i64 (IntKind.wrap .i64 (n3 + 1)))]))) else (
 some ((.exit 0), [.v (.string s2)]))) := by kernel_rfl
theorem D2d (T : Table) (k : Nat) (s1 : ByteArray): H9 T k D0o [.d (.v (.string s1))] = (
 aft (B1f T k k [.v (.string s1), .v (.int .i64 0)]) fun e8 ys9 =>
 bif e8.same .ret then (
 aV ys9 0 fun x10 =>
 aB x10 fun b11 =>
 some ⟨.d (.v (.bool b11)), []⟩) else (
 bif e8.same (.exit 0) then (
 aV ys9 0 fun x12 =>
 aS x12 fun s13 =>
 some ⟨.d (.v (.bool (decide ((s13.size : Int) ≤ 100)))), []⟩) else (
 none))) := by kernel_rfl
/- loop.example/g00119/spec.l4Keys -/
def C4h : ACode := (
 .seq (.seq (.g [oM 4 3, oF 5 3 1, oW 6 (.sl 1) 5, oZ 7 6, oB 8 .lss 4 7]) (
 .cond (.t 8) (.skip) (.exit 0))) (
 .seq (.block 1 (.seq (.dreg [] [(0, oF 11 3 1), (0, oW 12 (.sl 1) 11), (0, oM 13 3), (0, oI 14 1 12 13), (0, oW 15 .s 14), (1, oC 16 20 [.c .b] [15]), (0, oN 17 16), (0, oM 18 17), (0, oJ 19 18 false (.mv (.t 3))), (0, oJ 20 18 false (.bin .gtr (.t 19) (.i 0))), (0, oJ 21 18 false (.mv (.t 20))), (0, oJ 22 21 true (.fad 3 (.t 1))), (0, oJ 23 21 true (.load false [.sl 1] (.t 22))), (0, oJ 24 21 true (.mv (.t 3))), (0, oJ 25 21 true (.bin .sub (.t 24) (.i 1))), (0, oJ 26 21 true (.iad 1 (.t 23) (.t 25))), (0, oJ 27 21 true (.load false [.s] (.t 26))), (0, oJ 28 21 true (.fad 3 (.t 1))), (0, oJ 29 21 true (.load false [.sl 1] (.t 28))), (0, oJ 30 21 true (.mv (.t 3))), (0, oJ 31 21 true (.iad 1 (.t 29) (.t 30))), (0, oJ 32 21 true (.load false [.s] (.t 31)))] [oJ 33 21 true (.bin .geq (.t 27) (.t 32)), oJ 34 18 false (.pick (.t 21) (.t 33) (.b false)), oQ 35 (.pick (.t 18) (.b true) (.t 34))]) (
 .cond (.t 35) (.seq (.g [oV 2 false]) (
 .ret)) (.skip)))) (
 .g [oM 9 3, oBi 10 .add 9 1, oM 3 10])))
def C4i : K4 := [(.ret, [(2, .c .b)]), ((.exit 0), [(1, .b [.c kI, .c .s, .c kI, .c (.sl 1), .c (.sl 5)])])]
noncomputable def A8m (T : Table) (k : Nat) := K7 (J5 ⟨T, [], []⟩ k C4h (Ex × List AV)) [1, 3] C4i
def D0p : AFun := ⟨[.rd], false, [.t 2], (
 .seq (.g [oQ 1 (.box (.t 0)), oV 2 false]) (
 .seq (.seq (.g [oK 3 0]) (
 .block 0 (.loop [1, 3] C4i C4h))) (
 .seq (.g [oF 36 3 1, oW 37 (.sl 1) 36, oZ 38 37, oF 39 4 1, oW 40 (.sl 5) 39, oZ 41 40, oB 42 .eql 38 41, oM 2 42]) (
 .ret))))⟩
theorem C08 (T : Table) (k n : Nat) (n6 n8 n11 : Int) (s7 : ByteArray) (l9 l10 : Rows): A8m T k (n + 1) [.b [.v (.int .i64 n6), .v (.string s7), .v (.int .i64 n8), .fz 1 l9, .fz 5 l10], .v (.int .i64 n11)] = (
 bif (decide (n11 < (l9.length : Int))) then (
 tst (decide (0 ≤ n11)) (
 look l9 (Int.toNat n11) fun r12 =>
 cS r12 0 fun s13 =>
 C8 T 20 [.d (.v (.string s13))] fun o14 =>
 oD o14.res fun d15 =>
 dB d15 fun b16 =>
 bif (!b16) == false then (
 bif (decide (n11 > 0)) == true then (
 tst (decide (0 ≤ (IntKind.wrap .i64 (n11 - 1)))) (
 look l9 (Int.toNat (IntKind.wrap .i64 (n11 - 1))) fun r17 =>
 cS r17 0 fun s18 =>
 tst (decide (0 ≤ n11)) (
 look l9 (Int.toNat n11) fun r19 =>
 cS r19 0 fun s20 =>
 bif (!(bytesLess s18 s20)) then (
 some (.ret, [.v (.bool false)])) else (
 A8m T k n [.b [.v (.int .i64 n6), .v (.string s7), .v (.int .i64 n8), .fz 1 l9, .fz 5 l10], .v (.int .i64 (IntKind.wrap .i64 (n11 + 1)))])))) else (
 A8m T k n [.b [.v (.int .i64 n6), .v (.string s7), .v (.int .i64 n8), .fz 1 l9, .fz 5 l10], .v (.int .i64 (IntKind.wrap .i64 (n11 + 1)))])) else (
 some (.ret, [.v (.bool false)])))) else (
 some ((.exit 0), [.b [.v (.int .i64 n6), .v (.string s7), .v (.int .i64 n8), .fz 1 l9, .fz 5 l10]]))) := by kernel_rfl
theorem D2e (T : Table) (k : Nat) (n1 n3 : Int) (s2 : ByteArray) (l4 l5 : Rows): H9 T k D0p [.g [.v (.int .i64 n1), .v (.string s2), .v (.int .i64 n3), .s 1 l4, .s 5 l5]] = (
 aft (A8m T k k [.b [.v (.int .i64 n1), .v (.string s2), .v (.int .i64 n3), .fz 1 l4, .fz 5 l5], .v (.int .i64 0)]) fun e21 ys22 =>
 bif e21.same .ret then (
 aV ys22 0 fun x23 =>
 aB x23 fun b24 =>
 some ⟨.d (.v (.bool b24)), []⟩) else (
 bif e21.same (.exit 0) then (
 aV ys22 0 fun x25 =>
 aX x25 fun xs26 =>
 aV xs26 0 fun x27 =>
 aI .i64 x27 fun n28 =>
 aV xs26 1 fun x29 =>
 aS x29 fun s30 =>
 aV xs26 2 fun x31 =>
 aI .i64 x31 fun n32 =>
 aV xs26 3 fun x33 =>
 aL 1 x33 fun l34 =>
 aV xs26 4 fun x35 =>
 aL 5 x35 fun l36 =>
 some ⟨.d (.v (.bool ((l34.length : Int) == (l36.length : Int)))), []⟩) else (
 none))) := by kernel_rfl
-- a114 "unicode/utf8.RuneCountInString": op range
/- loop.example/g00119/spec.l4Look -/
def C8a : ACode := (
 .seq (.seq (.g [oM 12 6, oF 13 4 2, oW 14 (.sl 5) 13, oZ 15 14, oB 16 .lss 12 15]) (
 .cond (.t 16) (.skip) (.exit 0))) (
 .seq (.block 1 (.seq (.g [oF 19 4 2, oW 20 (.sl 5) 19, oM 21 6, oI 22 5 20 21, oL 23 [kI, .s, kI, .sl 1, .sl 5] 22, oM 24 1, oBi 25 .sub 24 1, oC 26 82 [.c kI] [23, 25], oM 7 26]) (
 .seq (.seq (.g [oM 27 7, oBi 28 .eql 27 0, oM 29 28, oJ 30 29 false (.mv (.t 5)), oJ 31 29 false (.mv (.t 7)), oJ 32 29 false (.bin .add (.t 30) (.t 31)), oJ 33 29 false (.bin .gtr (.t 32) (.i 300)), oQ 34 (.pick (.t 29) (.b true) (.t 33))]) (
 .cond (.t 34) (.seq (.g [oK 4 0]) (
 .ret)) (.skip))) (
 .g [oM 35 5, oM 36 7, oB 37 .add 35 36, oM 5 37])))) (
 .g [oM 17 6, oBi 18 .add 17 1, oM 6 18])))
def C8b : K4 := [(.ret, [(4, .c kI)]), ((.exit 0), [(2, .b [.c kI, .c .s, .c kI, .c (.sl 1), .c (.sl 5)]), (5, .c kI)])]
noncomputable def B6x (T : Table) (k : Nat) := K7 (J5 ⟨T, [], []⟩ k C8a (Ex × List AV)) [1, 2, 5, 6] C8b
def a82 : AFun := ⟨[.rd, .rd], false, [.t 4], (
 .seq (.g [oQ 2 (.box (.t 0)), oK 4 0]) (
 .seq (.seq (.g [oM 10 1, oBi 11 .eql 10 0]) (
 .cond (.t 11) (.seq (.g [oK 4 0]) (
 .ret)) (.skip))) (
 .seq (.g [oK 5 1]) (
 .seq (.seq (.g [oK 6 0]) (
 .block 0 (.loop [1, 2, 5, 6] C8b C8a))) (
 .seq (.g [oF 38 3 2, oW 39 (.sl 1) 38, oZ 40 39, oBi 41 .eql 40 0, oM 42 41, oJ 43 42 true (.fad 4 (.t 2)), oJ 44 42 true (.load false [.sl 5] (.t 43)), oJ 45 42 true (.len false (.t 44)), oJ 46 42 true (.bin .eql (.t 45) (.i 0)), oQ 47 (.pick (.t 42) (.t 46) (.b false)), oM 8 47]) (
 .seq (.g [oV 9 false]) (
 .seq (.seq (.g [oF 48 0 2, oW 49 kI 48]) (
 .block 2 (.seq (.g [oBi 51 .eql 49 1, oM 50 51]) (
 .cond (.t 50) (.g [oM 52 8, oM 53 52, oJ 54 53 true (.fad 2 (.t 2)), oJ 55 53 true (.load false [kI] (.t 54)), oJ 56 53 true (.bin .eql (.t 55) (.i 0)), oQ 57 (.pick (.t 53) (.t 56) (.b false)), oM 58 57, oJ 59 58 true (.fad 1 (.t 2)), oJ 60 58 true (.load false [.s] (.t 59)), oJ 61 58 true (.call (.f 112) [.rd] false [.c .b] [.t 60]), oQ 62 (.pick (.t 58) (.t 61) (.b false)), oM 9 62]) (.seq (.g [oBi 64 .eql 49 2, oM 63 64]) (
 .cond (.t 63) (.g [oM 65 8, oM 66 65, oJ 67 66 true (.fad 1 (.t 2)), oJ 68 66 true (.load false [.s] (.t 67)), oJ 69 66 true (.bin .eql (.t 68) (.c (.v (.string ({ data := #[] } : ByteArray))))), oQ 70 (.pick (.t 66) (.t 69) (.b false)), oM 9 70]) (.seq (.g [oBi 72 .eql 49 3, oM 71 72]) (
 .cond (.t 71) (.g [oM 73 8, oM 74 73, oJ 75 74 true (.fad 1 (.t 2)), oJ 76 74 true (.load false [.s] (.t 75)), oJ 77 74 true (.bin .eql (.t 76) (.c (.v (.string ({ data := #[] } : ByteArray))))), oQ 78 (.pick (.t 74) (.t 77) (.b false)), oM 79 78, oJ 80 79 true (.fad 2 (.t 2)), oJ 81 79 true (.load false [kI] (.t 80)), oJ 82 79 true (.call (.f 21) [.rd, .rd, .rd] false [.c .b] [.t 81, .i 0, .i 1]), oQ 83 (.pick (.t 79) (.t 82) (.b false)), oM 9 83]) (.seq (.g [oBi 85 .eql 49 4, oM 84 85]) (
 .cond (.t 84) (.g [oF 86 3 2, oW 87 (.sl 1) 86, oZ 88 87, oBi 89 .eql 88 0, oM 90 89, oJ 91 90 true (.fad 1 (.t 2)), oJ 92 90 true (.load false [.s] (.t 91)), oJ 93 90 true (.bin .eql (.t 92) (.c (.v (.string ({ data := #[] } : ByteArray))))), oQ 94 (.pick (.t 90) (.t 93) (.b false)), oM 95 94, oJ 96 95 true (.fad 2 (.t 2)), oJ 97 95 true (.load false [kI] (.t 96)), oJ 98 95 true (.bin .eql (.t 97) (.i 0)), oQ 99 (.pick (.t 95) (.t 98) (.b false)), oM 9 99]) (.seq (.g [oBi 101 .eql 49 5, oM 100 101]) (
 .cond (.t 100) (.g [oL 102 [kI, .s, kI, .sl 1, .sl 5] 2, oC 103 113 [.c .b] [102], oM 104 103, oJ 105 104 true (.fad 1 (.t 2)), oJ 106 104 true (.load false [.s] (.t 105)), oJ 107 104 true (.bin .eql (.t 106) (.c (.v (.string ({ data := #[] } : ByteArray))))), oQ 108 (.pick (.t 104) (.t 107) (.b false)), oM 109 108, oJ 110 109 true (.fad 2 (.t 2)), oJ 111 109 true (.load false [kI] (.t 110)), oJ 112 109 true (.bin .eql (.t 111) (.i 0)), oQ 113 (.pick (.t 109) (.t 112) (.b false)), oM 9 113]) (.skip))))))))))))) (
 .seq (.seq (.g [oM 114 9, oN 115 114]) (
 .cond (.t 115) (.seq (.g [oK 4 0]) (
 .ret)) (.skip))) (
 .seq (.g [oM 116 5, oM 4 116]) (
 .ret))))))))))⟩
theorem C4j (T : Table) (k n : Nat) (n7 n8 n10 n13 n14 : Int) (s9 : ByteArray) (l11 l12 : Rows): B6x T k (n + 1) [.v (.int .i64 n7), .b [.v (.int .i64 n8), .v (.string s9), .v (.int .i64 n10), .fz 1 l11, .fz 5 l12], .v (.int .i64 n13), .v (.int .i64 n14)] = (
 bif (decide (n14 < (l12.length : Int))) then (
 tst (decide (0 ≤ n14)) (
 look l12 (Int.toNat n14) fun r15 =>
 cI .i64 r15 0 fun n16 =>
 cS r15 1 fun s17 =>
 cI .i64 r15 2 fun n18 =>
 cL 1 r15 3 fun l19 =>
 cL 5 r15 4 fun l20 =>
 C8 T 82 [.g [.v (.int .i64 n16), .v (.string s17), .v (.int .i64 n18), .s 1 l19, .s 5 l20], .d (.v (.int .i64 (IntKind.wrap .i64 (n7 - 1))))] fun o21 =>
 oD o21.res fun d22 =>
 dI .i64 d22 fun n23 =>
 bif (n23 == 0) == false then (
 bif (decide ((IntKind.wrap .i64 (n13 + n23)) > 300)) then (
 some (.ret, [.v (.int .i64 0)])) else (
 B6x T k n [.v (.int .i64 n7), .b [.v (.int .i64 n8), .v (.string s9), .v (.int .i64 n10), .fz 1 l11, .fz 5 l12], .v (.int .i64 (IntKind.wrap .i64 (n13 + n23))), .v (.int .i64 (IntKind.wrap .i64 (n14 + 1)))])) else (
 some (.ret, [.v (.int .i64 0)])))) else (
 some ((.exit 0), [.b [.v (.int .i64 n8), .v (.string s9), .v (.int .i64 n10), .fz 1 l11, .fz 5 l12], .v (.int .i64 n13)]))) := by kernel_rfl
theorem D2f (T : Table) (k : Nat) (n1 n3 n6 : Int) (s2 : ByteArray) (l4 l5 : Rows): H9 T k a82 [.g [.v (.int .i64 n1), .v (.string s2), .v (.int .i64 n3), .s 1 l4, .s 5 l5], .d (.v (.int .i64 n6))] = (
 bif (n6 == 0) then (
 some ⟨.d (.v (.int .i64 0)), []⟩) else (
 aft (B6x T k k [.v (.int .i64 n6), .b [.v (.int .i64 n1), .v (.string s2), .v (.int .i64 n3), .fz 1 l4, .fz 5 l5], .v (.int .i64 1), .v (.int .i64 0)]) fun e24 ys25 =>
 bif e24.same .ret then (
 aV ys25 0 fun x26 =>
 aI .i64 x26 fun n27 =>
 some ⟨.d (.v (.int .i64 n27)), []⟩) else (
 bif e24.same (.exit 0) then (
 aV ys25 0 fun x28 =>
 aX x28 fun xs29 =>
 aV xs29 0 fun x30 =>
 aI .i64 x30 fun n31 =>
 aV xs29 1 fun x32 =>
 aS x32 fun s33 =>
 aV xs29 2 fun x34 =>
 aI .i64 x34 fun n35 =>
 aV xs29 3 fun x36 =>
 aL 1 x36 fun l37 =>
 aV xs29 4 fun x38 =>
 aL 5 x38 fun l39 =>
 aV ys25 1 fun x40 =>
 aI .i64 x40 fun n41 =>
 bif ((l37.length : Int) == 0) == true then (
 bif (n31 == 1) then (
 bif ((l39.length : Int) == 0) == true then (
 bif (n35 == 0) == true then (
 C8 T 112 [.d (.v (.string s33))] fun o42 =>
 oD o42.res fun d43 =>
 dB d43 fun b44 =>
 bif (!b44) then (
 some ⟨.d (.v (.int .i64 0)), []⟩) else (
 some ⟨.d (.v (.int .i64 n41)), []⟩)) else (
 bif (!false) then (
 some ⟨.d (.v (.int .i64 0)), []⟩) else (
 some ⟨.d (.v (.int .i64 n41)), []⟩))) else (
 bif (!false) then (
 some ⟨.d (.v (.int .i64 0)), []⟩) else (
 some ⟨.d (.v (.int .i64 n41)), []⟩))) else (
 bif (n31 == 2) then (
 bif ((l39.length : Int) == 0) == true then (
 bif (!(D9 s33 ({ data := #[] } : ByteArray))) then (
 some ⟨.d (.v (.int .i64 0)), []⟩) else (
 some ⟨.d (.v (.int .i64 n41)), []⟩)) else (
 bif (!false) then (
 some ⟨.d (.v (.int .i64 0)), []⟩) else (
 some ⟨.d (.v (.int .i64 n41)), []⟩))) else (
 bif (n31 == 3) then (
 bif ((l39.length : Int) == 0) == true then (
 bif (D9 s33 ({ data := #[] } : ByteArray)) == true then (
 C8 T 21 [.d (.v (.int .i64 n35)), .d (.v (.int .i64 0)), .d (.v (.int .i64 1))] fun o45 =>
 oD o45.res fun d46 =>
 dB d46 fun b47 =>
 bif (!b47) then (
 some ⟨.d (.v (.int .i64 0)), []⟩) else (
 some ⟨.d (.v (.int .i64 n41)), []⟩)) else (
 bif (!false) then (
 some ⟨.d (.v (.int .i64 0)), []⟩) else (
 some ⟨.d (.v (.int .i64 n41)), []⟩))) else (
 bif (!false) then (
 some ⟨.d (.v (.int .i64 0)), []⟩) else (
 some ⟨.d (.v (.int .i64 n41)), []⟩))) else (
 bif (n31 == 4) then (
 bif ((l37.length : Int) == 0) == true then (
 bif (D9 s33 ({ data := #[] } : ByteArray)) == true then (
 bif (!(n35 == 0)) then (
 some ⟨.d (.v (.int .i64 0)), []⟩) else (
 some ⟨.d (.v (.int .i64 n41)), []⟩)) else (
 bif (!false) then (
 some ⟨.d (.v (.int .i64 0)), []⟩) else (
 some ⟨.d (.v (.int .i64 n41)), []⟩))) else (
 bif (!false) then (
 some ⟨.d (.v (.int .i64 0)), []⟩) else (
 some ⟨.d (.v (.int .i64 n41)), []⟩))) else (
 bif (n31 == 5) then (
 C8 T 113 [.g [.v (.int .i64 n31), .v (.string s33), .v (.int .i64 n35), .s 1 l37, .s 5 l39]] fun o48 =>
 oD o48.res fun d49 =>
 dB d49 fun b50 =>
 bif b50 == true then (
 bif (D9 s33 ({ data := #[] } : ByteArray)) == true then (
 bif (!(n35 == 0)) then (
 some ⟨.d (.v (.int .i64 0)), []⟩) else (
 some ⟨.d (.v (.int .i64 n41)), []⟩)) else (
 bif (!false) then (
 some ⟨.d (.v (.int .i64 0)), []⟩) else (
 some ⟨.d (.v (.int .i64 n41)), []⟩))) else (
 bif (!false) then (
 some ⟨.d (.v (.int .i64 0)), []⟩) else (
 some ⟨.d (.v (.int .i64 n41)), []⟩))) else (
 bif (!false) then (
 some ⟨.d (.v (.int .i64 0)), []⟩) else (
 some ⟨.d (.v (.int .i64 n41)), []⟩))))))) else (
 bif (n31 == 1) then (
 bif (!false) then (
 some ⟨.d (.v (.int .i64 0)), []⟩) else (
 some ⟨.d (.v (.int .i64 n41)), []⟩)) else (
 bif (n31 == 2) then (
 bif (!false) then (
 some ⟨.d (.v (.int .i64 0)), []⟩) else (
 some ⟨.d (.v (.int .i64 n41)), []⟩)) else (
 bif (n31 == 3) then (
 bif (!false) then (
 some ⟨.d (.v (.int .i64 0)), []⟩) else (
 some ⟨.d (.v (.int .i64 n41)), []⟩)) else (
 bif (n31 == 4) then (
 bif ((l37.length : Int) == 0) == true then (
 bif (D9 s33 ({ data := #[] } : ByteArray)) == true then (
 bif (!(n35 == 0)) then (
 some ⟨.d (.v (.int .i64 0)), []⟩) else (
 some ⟨.d (.v (.int .i64 n41)), []⟩)) else (
 bif (!false) then (
 some ⟨.d (.v (.int .i64 0)), []⟩) else (
 some ⟨.d (.v (.int .i64 n41)), []⟩))) else (
 bif (!false) then (
 some ⟨.d (.v (.int .i64 0)), []⟩) else (
 some ⟨.d (.v (.int .i64 n41)), []⟩))) else (
 bif (n31 == 5) then (
 C8 T 113 [.g [.v (.int .i64 n31), .v (.string s33), .v (.int .i64 n35), .s 1 l37, .s 5 l39]] fun o51 =>
 oD o51.res fun d52 =>
 dB d52 fun b53 =>
 bif b53 == true then (
 bif (D9 s33 ({ data := #[] } : ByteArray)) == true then (
 bif (!(n35 == 0)) then (
 some ⟨.d (.v (.int .i64 0)), []⟩) else (
 some ⟨.d (.v (.int .i64 n41)), []⟩)) else (
 bif (!false) then (
 some ⟨.d (.v (.int .i64 0)), []⟩) else (
 some ⟨.d (.v (.int .i64 n41)), []⟩))) else (
 bif (!false) then (
 some ⟨.d (.v (.int .i64 0)), []⟩) else (
 some ⟨.d (.v (.int .i64 n41)), []⟩))) else (
 bif (!false) then (
 some ⟨.d (.v (.int .i64 0)), []⟩) else (
 some ⟨.d (.v (.int .i64 n41)), []⟩)))))))) else (
 none)))) := by kernel_rfl
/- loop.example/g00119/spec.ValueOk -/
def a53 : AFun := ⟨[.rd], false, [.t 2], (
 .seq (.g [oQ 1 (.box (.t 0)), oV 2 false]) (
 .seq (.g [oL 3 [kI, .s, kI, .sl 1, .sl 5] 1, oQ 4 (.call (.f 82) [.rd, .rd] false [.c kI] [.t 3, .i 6]), oBi 5 .gtr 4 0, oM 2 5]) (
 .ret)))⟩
theorem D3s (T : Table) (k : Nat) (n1 n3 : Int) (s2 : ByteArray) (l4 l5 : Rows): H9 T k a53 [.g [.v (.int .i64 n1), .v (.string s2), .v (.int .i64 n3), .s 1 l4, .s 5 l5]] = (
 C8 T 82 [.g [.v (.int .i64 n1), .v (.string s2), .v (.int .i64 n3), .s 1 l4, .s 5 l5], .d (.v (.int .i64 6))] fun o6 =>
 oD o6.res fun d7 =>
 dI .i64 d7 fun n8 =>
 some ⟨.d (.v (.bool (decide (n8 > 0)))), []⟩) := by kernel_rfl
/- loop.example/g00119/spec.WorksOk -/
def C8c : ACode := (
 .seq (.seq (.g [oM 5 3, oM 6 0, oZ 7 6, oB 8 .lss 5 7]) (
 .cond (.t 8) (.skip) (.exit 0))) (
 .seq (.block 1 (.seq (.g [oM 11 0, oM 12 3, oI 13 7 11 12, oL 14 [kI, kI, kI, .s, kI, .sl 1, .sl 5] 13, oQ 4 (.alloc [.v (.int .i64 0), .v (.int .i64 0), .v (.int .i64 0), .v (.string ByteArray.empty), .v (.int .i64 0), .s 1 [], .s 5 []]), oS (.store 7 (.t 4) (.t 14))]) (
 .seq (.dreg [] [(0, oF 15 0 4), (0, oW 16 kI 15), (1, oQ 17 (.call (.f 21) [.rd, .rd, .rd] false [.c .b] [.t 16, .i 1, .i 1000000])), (0, oN 18 17), (0, oM 19 18), (0, oJ 20 19 false (.fad 1 (.t 4))), (0, oJ 21 19 false (.load false [kI] (.t 20))), (1, oJ 22 19 false (.call (.f 21) [.rd, .rd, .rd] false [.c .b] [.t 21, .i 1, .i 10000])), (0, oJ 23 19 false (.un .not (.t 22))), (0, oQ 24 (.pick (.t 19) (.b true) (.t 23))), (0, oM 25 24), (0, oJ 26 25 false (.fad 2 (.t 4))), (0, oJ 27 25 false (.load true [kI, .s, kI, .sl 1, .sl 5] (.t 26))), (1, oJ 28 25 false (.call (.f 53) [.rd] false [.c .b] [.t 27])), (0, oJ 29 25 false (.un .not (.t 28))), (0, oQ 30 (.pick (.t 25) (.b true) (.t 29))), (0, oM 31 30), (0, oJ 32 31 false (.mv (.t 3))), (0, oJ 33 31 false (.bin .gtr (.t 32) (.i 0))), (0, oJ 34 31 false (.mv (.t 33))), (0, oJ 35 34 true (.mv (.t 0))), (0, oJ 36 34 true (.mv (.t 3))), (0, oJ 37 34 true (.bin .sub (.t 36) (.i 1))), (0, oJ 38 34 true (.iad 7 (.t 35) (.t 37))), (0, oJ 39 34 true (.fad 0 (.t 38))), (0, oJ 40 34 true (.load false [kI] (.t 39))), (0, oJ 41 34 true (.fad 0 (.t 4))), (0, oJ 42 34 true (.load false [kI] (.t 41)))] [oJ 43 34 true (.bin .geq (.t 40) (.t 42)), oJ 44 31 false (.pick (.t 34) (.t 43) (.b false)), oQ 45 (.pick (.t 31) (.b true) (.t 44))]) (
 .cond (.t 45) (.seq (.g [oV 2 false]) (
 .ret)) (.skip))))) (
 .g [oM 9 3, oBi 10 .add 9 1, oM 3 10])))
def C8d : K4 := [(.ret, [(2, .c .b)]), ((.exit 0), [(0, .c (.sl 7))])]
noncomputable def B34 (T : Table) (k : Nat) := K7 (J5 ⟨T, [], []⟩ k C8c (Ex × List AV)) [0, 3] C8d
def a23 : AFun := ⟨[.rd], false, [.t 2], (
 .seq (.g [oV 2 false]) (
 .seq (.seq (.g [oK 3 0]) (
 .block 0 (.loop [0, 3] C8d C8c))) (
 .seq (.g [oM 46 0, oZ 47 46, oBi 48 .leq 47 40, oM 2 48]) (
 .ret))))⟩
theorem C4k (T : Table) (k n : Nat) (l2 : Rows) (n3 : Int): B34 T k (n + 1) [.fz 7 l2, .v (.int .i64 n3)] = (
 bif (decide (n3 < (l2.length : Int))) then (
 tst (decide (0 ≤ n3)) (
 look l2 (Int.toNat n3) fun r4 =>
 cI .i64 r4 0 fun n5 =>
 cI .i64 r4 1 fun n6 =>
 cI .i64 r4 2 fun n7 =>
 cS r4 3 fun s8 =>
 cI .i64 r4 4 fun n9 =>
 cL 1 r4 5 fun l10 =>
 cL 5 r4 6 fun l11 =>
 C8 T 21 [.d (.v (.int .i64 n5)), .d (.v (.int .i64 1)), .d (.v (.int .i64 1000000))] fun o12 =>
 oD o12.res fun d13 =>
 dB d13 fun b14 =>
 bif (!b14) == false then (
 C8 T 21 [.d (.v (.int .i64 n6)), .d (.v (.int .i64 1)), .d (.v (.int .i64 10000))] fun o15 =>
 oD o15.res fun d16 =>
 dB d16 fun b17 =>
 bif (!b17) == false then (
 C8 T 53 [.g [.v (.int .i64 n7), .v (.string s8), .v (.int .i64 n9), .s 1 l10, .s 5 l11]] fun o18 =>
 oD o18.res fun d19 =>
 dB d19 fun b20 =>
 bif (!b20) == false then (
 bif (decide (n3 > 0)) == true then (
 tst (decide (0 ≤ (IntKind.wrap .i64 (n3 - 1)))) (
 look l2 (Int.toNat (IntKind.wrap .i64 (n3 - 1))) fun r21 =>
 cI .i64 r21 0 fun n22 =>
 bif (decide (n22 ≥ n5)) then (
 some (.ret, [.v (.bool false)])) else (
 B34 T k n [.fz 7 l2, .v (.int .i64 (IntKind.wrap .i64 (n3 + 1)))]))) else (
 B34 T k n [.fz 7 l2, .v (.int .i64 (IntKind.wrap .i64 (n3 + 1)))])) else (
 some (.ret, [.v (.bool false)]))) else (
 some (.ret, [.v (.bool false)]))) else (
 some (.ret, [.v (.bool false)])))) else (
 some ((.exit 0), [.fz 7 l2]))) := by kernel_rfl
theorem D3t (T : Table) (k : Nat) (l1 : Rows): H9 T k a23 [.d (.s 7 l1)] = (
 aft (B34 T k k [.fz 7 l1, .v (.int .i64 0)]) fun e23 ys24 =>
 bif e23.same .ret then (
 aV ys24 0 fun x25 =>
 aB x25 fun b26 =>
 some ⟨.d (.v (.bool b26)), []⟩) else (
 bif e23.same (.exit 0) then (
 aV ys24 0 fun x27 =>
 aL 7 x27 fun l28 =>
 some ⟨.d (.v (.bool (decide ((l28.length : Int) ≤ 40)))), []⟩) else (
 none))) := by kernel_rfl
/- loop.example/g00119/spec.MsgOk -/
def a8 : AFun := ⟨[.rd], false, [.t 2], (
 .seq (.g [oQ 1 (.box (.t 0)), oV 2 false]) (
 .seq (.block 0 (.seq (.g [oF 4 1 1, oW 5 .s 4, oC 6 20 [.c .b] [5], oN 7 6, oM 3 7]) (
 .cond (.t 3) (.seq (.g [oV 2 false]) (
 .ret)) (.seq (.g [oF 9 0 1, oW 10 kI 9, oBi 11 .eql 10 1, oM 8 11]) (
 .cond (.t 8) (.seq (.g [oF 12 2 1, oW 13 kI 12, oQ 14 (.call (.f 21) [.rd, .rd, .rd] false [.c .b] [.t 13, .i 0, .i 1000000]), oM 15 14, oJ 16 15 true (.fad 4 (.t 1)), oJ 17 15 true (.load false [.sl 2] (.t 16)), oJ 18 15 true (.call (.f 22) [.rd, .rd] false [.c .b] [.t 17, .i 0]), oQ 19 (.pick (.t 15) (.t 18) (.b false)), oM 20 19, oJ 21 20 true (.fad 3 (.t 1)), oJ 22 20 true (.load false [.sl 7] (.t 21)), oJ 23 20 true (.len false (.t 22)), oJ 24 20 true (.bin .eql (.t 23) (.i 0)), oQ 25 (.pick (.t 20) (.t 24) (.b false)), oM 2 25]) (
 .ret)) (.seq (.g [oF 27 0 1, oW 28 kI 27, oBi 29 .eql 28 2, oM 26 29]) (
 .cond (.t 26) (.seq (.g [oF 30 2 1, oW 31 kI 30, oQ 32 (.call (.f 21) [.rd, .rd, .rd] false [.c .b] [.t 31, .i 1, .i 1000000]), oM 33 32, oJ 34 33 true (.fad 3 (.t 1)), oJ 35 33 true (.load false [.sl 7] (.t 34)), oJ 36 33 true (.call (.f 23) [.rd] false [.c .b] [.t 35]), oQ 37 (.pick (.t 33) (.t 36) (.b false)), oM 38 37, oJ 39 38 true (.fad 4 (.t 1)), oJ 40 38 true (.load false [.sl 2] (.t 39)), oJ 41 38 true (.len false (.t 40)), oJ 42 38 true (.bin .eql (.t 41) (.i 0)), oQ 43 (.pick (.t 38) (.t 42) (.b false)), oM 2 43]) (
 .ret)) (.skip)))))))) (
 .seq (.g [oV 2 false]) (
 .ret))))⟩
theorem a8q (T : Table) (k : Nat) (n1 n3 : Int) (s2 : ByteArray) (l4 l5 : Rows): H9 T k a8 [.g [.v (.int .i64 n1), .v (.string s2), .v (.int .i64 n3), .s 7 l4, .s 2 l5]] = (
 C8 T 20 [.d (.v (.string s2))] fun o6 =>
 oD o6.res fun d7 =>
 dB d7 fun b8 =>
 bif (!b8) then (
 some ⟨.d (.v (.bool false)), []⟩) else (
 bif (n1 == 1) then (
 C8 T 21 [.d (.v (.int .i64 n3)), .d (.v (.int .i64 0)), .d (.v (.int .i64 1000000))] fun o9 =>
 oD o9.res fun d10 =>
 dB d10 fun b11 =>
 bif b11 == true then (
 C8 T 22 [.d (.s 2 l5), .d (.v (.int .i64 0))] fun o12 =>
 oD o12.res fun d13 =>
 dB d13 fun b14 =>
 bif b14 == true then (
 some ⟨.d (.v (.bool ((l4.length : Int) == 0))), []⟩) else (
 some ⟨.d (.v (.bool false)), []⟩)) else (
 some ⟨.d (.v (.bool false)), []⟩)) else (
 bif (n1 == 2) then (
 C8 T 21 [.d (.v (.int .i64 n3)), .d (.v (.int .i64 1)), .d (.v (.int .i64 1000000))] fun o15 =>
 oD o15.res fun d16 =>
 dB d16 fun b17 =>
 bif b17 == true then (
 C8 T 23 [.d (.s 7 l4)] fun o18 =>
 oD o18.res fun d19 =>
 dB d19 fun b20 =>
 bif b20 == true then (
 some ⟨.d (.v (.bool ((l5.length : Int) == 0))), []⟩) else (
 some ⟨.d (.v (.bool false)), []⟩)) else (
 some ⟨.d (.v (.bool false)), []⟩)) else (
 some ⟨.d (.v (.bool false)), []⟩)))) := by kernel_rfl
/- loop.example/g00119/spec.l1Split -/
def C8e : ACode := (
 .seq (.seq (.g [oM 9 7, oM 10 0, oQ 11 (.len true (.t 10)), oB 12 .leq 9 11]) (
 .cond (.t 12) (.skip) (.exit 0))) (
 .seq (.block 1 (.seq (.g [oM 15 7, oM 16 0, oQ 17 (.len true (.t 16)), oB 18 .eql 15 17, oM 19 18, oJ 20 19 false (.mv (.t 0)), oJ 21 19 false (.mv (.t 7)), oJ 22 19 false (.idx (.t 20) (.t 21)), oJ 23 19 false (.mv (.t 1)), oJ 24 19 false (.bin .eql (.t 22) (.t 23)), oQ 25 (.pick (.t 19) (.b true) (.t 24))]) (
 .cond (.t 25) (.seq (.g [oM 26 5, oM 27 0, oM 28 6, oM 29 7, oQ 30 (.slc none (.t 27) (some (.t 28)) (some (.t 29))), oQ 31 (.lit 1 ([[.v (.string ByteArray.empty)]] : Rows) [(0, (.t 30))]), oQ 32 (.app 1 16 (.t 26) (.t 31)), oM 5 32]) (
 .g [oM 33 7, oBi 34 .add 33 1, oM 6 34])) (.skip)))) (
 .g [oM 13 7, oBi 14 .add 13 1, oM 7 14])))
def C8f : K4 := [((.exit 0), [(5, .o 1)])]
noncomputable def B1g (T : Table) (k : Nat) := K7 (J5 ⟨T, [], []⟩ k C8e (Ex × List AV)) [0, 1, 5, 6, 7] C8f
def a33 : AFun := ⟨[.rd, .rd], false, [.t 4], (
 .seq (.g [oQ 4 (.mv (.c (.o 1 [])))]) (
 .seq (.g [oQ 8 (.lit 1 ([] : Rows) []), oM 5 8]) (
 .seq (.g [oK 6 0]) (
 .seq (.seq (.g [oK 7 0]) (
 .block 0 (.loop [0, 1, 5, 6, 7] C8f C8e))) (
 .seq (.g [oM 35 5, oM 4 35]) (
 .ret))))))⟩
theorem B8z (T : Table) (k n : Nat) (s3 : ByteArray) (n4 n6 n7 : Int) (l5 : Rows): B1g T k (n + 1) [.v (.string s3), .v (.int .u8 n4), .o 1 l5, .v (.int .i64 n6), .v (.int .i64 n7)] = (
 bif (decide (n7 ≤ (s3.size : Int))) then (
 bif (n7 == (s3.size : Int)) == false then (
 tst (decide (0 ≤ n7)) (
 K5 s3 (Int.toNat n7) fun c8 =>
 bif ((c8.toNat : Int) == n4) then (
 tst (N9 n6 n7 (s3.size)) (
 tst (decide ((l5.length + ([[.v (.string (s3.extract (Int.toNat n6) (Int.toNat n7)))]] : Rows).length) * 16 ≤ D7)) (
 B1g T k n [.v (.string s3), .v (.int .u8 n4), .o 1 (l5 ++ ([[.v (.string (s3.extract (Int.toNat n6) (Int.toNat n7)))]] : Rows)), .v (.int .i64 (IntKind.wrap .i64 (n7 + 1))), .v (.int .i64 (IntKind.wrap .i64 (n7 + 1)))]))) else (
 B1g T k n [.v (.string s3), .v (.int .u8 n4), .o 1 l5, .v (.int .i64 n6), .v (.int .i64 (IntKind.wrap .i64 (n7 + 1)))]))) else (
 tst (N9 n6 n7 (s3.size)) (
 tst (decide ((l5.length + ([[.v (.string (s3.extract (Int.toNat n6) (Int.toNat n7)))]] : Rows).length) * 16 ≤ D7)) (
 B1g T k n [.v (.string s3), .v (.int .u8 n4), .o 1 (l5 ++ ([[.v (.string (s3.extract (Int.toNat n6) (Int.toNat n7)))]] : Rows)), .v (.int .i64 (IntKind.wrap .i64 (n7 + 1))), .v (.int .i64 (IntKind.wrap .i64 (n7 + 1)))])))) else (
 some ((.exit 0), [.o 1 l5]))) := by kernel_rfl
theorem D3u (T : Table) (k : Nat) (s1 : ByteArray) (n2 : Int): H9 T k a33 [.d (.v (.string s1)), .d (.v (.int .u8 n2))] = (
 aft (B1g T k k [.v (.string s1), .v (.int .u8 n2), .o 1 [], .v (.int .i64 0), .v (.int .i64 0)]) fun e9 ys10 =>
 bif e9.same (.exit 0) then (
 aV ys10 0 fun x11 =>
 aO 1 x11 fun l12 =>
 some ⟨.d (.s 1 l12), []⟩) else (
 none)) := by kernel_rfl
/- loop.example/g00119/spec.l4Number -/
def C8g : ACode := (
 .seq (.seq (.g [oM 19 4, oM 20 0, oQ 21 (.len true (.t 20)), oB 22 .lss 19 21]) (
 .cond (.t 22) (.skip) (.exit 0))) (
 .seq (.block 1 (.seq (.seq (.g [oM 25 0, oM 26 4, oQ 27 (.idx (.t 25) (.t 26)), oQ 28 (.conv (.int .i64) (.t 27)), oQ 29 (.call (.f 21) [.rd, .rd, .rd] false [.c .b] [.t 28, .i 48, .i 57]), oN 30 29]) (
 .cond (.t 30) (.seq (.g [oK 2 (-1)]) (
 .ret)) (.skip))) (
 .g [oM 31 3, oBi 32 .mul 31 10, oM 33 0, oM 34 4, oQ 35 (.idx (.t 33) (.t 34)), oQ 36 (.bin .sub (.t 35) (.c (.v (.int .u8 48)))), oQ 37 (.conv (.int .i64) (.t 36)), oB 38 .add 32 37, oM 3 38]))) (
 .g [oM 23 4, oBi 24 .add 23 1, oM 4 24])))
def C8h : K4 := [(.ret, [(2, .c kI)]), ((.exit 0), [(3, .c kI)])]
noncomputable def A98 (T : Table) (k : Nat) := K7 (J5 ⟨T, [], []⟩ k C8g (Ex × List AV)) [0, 3, 4] C8h
def a34 : AFun := ⟨[.rd], false, [.t 2], (
 .seq (.g [oK 2 0]) (
 .seq (.g [oK 3 0]) (
 .seq (.seq (.g [oM 5 0, oQ 6 (.len true (.t 5)), oQ 7 (.call (.f 21) [.rd, .rd, .rd] false [.c .b] [.t 6, .i 1, .i 9]), oN 8 7, oM 9 8, oJ 10 9 false (.mv (.t 0)), oJ 11 9 false (.len true (.t 10)), oJ 12 9 false (.bin .gtr (.t 11) (.i 1)), oJ 13 9 false (.mv (.t 12)), oJ 14 13 true (.mv (.t 0)), oJ 15 13 true (.idx (.t 14) (.i 0)), oJ 16 13 true (.bin .eql (.t 15) (.c (.v (.int .u8 48)))), oJ 17 9 false (.pick (.t 13) (.t 16) (.b false)), oQ 18 (.pick (.t 9) (.b true) (.t 17))]) (
 .cond (.t 18) (.seq (.g [oK 2 (-1)]) (
 .ret)) (.skip))) (
 .seq (.seq (.g [oK 4 0]) (
 .block 0 (.loop [0, 3, 4] C8h C8g))) (
 .seq (.g [oM 39 3, oM 2 39]) (
 .ret))))))⟩
theorem C4l (T : Table) (k n : Nat) (s6 : ByteArray) (n7 n8 : Int): A98 T k (n + 1) [.v (.string s6), .v (.int .i64 n7), .v (.int .i64 n8)] = (
 bif (decide (n8 < (s6.size : Int))) then (
 tst (decide (0 ≤ n8)) (
 K5 s6 (Int.toNat n8) fun c9 =>
 C8 T 21 [.d (.v (.int .i64 (IntKind.wrap .i64 (c9.toNat : Int)))), .d (.v (.int .i64 48)), .d (.v (.int .i64 57))] fun o10 =>
 oD o10.res fun d11 =>
 dB d11 fun b12 =>
 bif (!b12) then (
 some (.ret, [.v (.int .i64 (-1))])) else (
 tst (decide (0 ≤ n8)) (
 K5 s6 (Int.toNat n8) fun c13 =>
 A98 T k n [.v (.string s6), .v (.int .i64 (IntKind.wrap .i64 ((IntKind.wrap .i64 (n7 * 10)) + (IntKind.wrap .i64 (IntKind.wrap .u8 ((c13.toNat : Int) - 48)))))), .v (.int .i64 (IntKind.wrap .i64 (n8 + 1)))])))) else (
 some ((.exit 0), [.v (.int .i64 n7)]))) := by kernel_rfl
theorem D3v (T : Table) (k : Nat) (s1 : ByteArray): H9 T k a34 [.d (.v (.string s1))] = (
 C8 T 21 [.d (.v (.int .i64 (s1.size : Int))), .d (.v (.int .i64 1)), .d (.v (.int .i64 9))] fun o2 =>
 oD o2.res fun d3 =>
 dB d3 fun b4 =>
 bif (!b4) == false then (
 bif (decide ((s1.size : Int) > 1)) == true then (
 tst (decide (0 ≤ 0)) (
 K5 s1 (Int.toNat 0) fun c5 =>
 bif ((c5.toNat : Int) == 48) then (
 some ⟨.d (.v (.int .i64 (-1))), []⟩) else (
 aft (A98 T k k [.v (.string s1), .v (.int .i64 0), .v (.int .i64 0)]) fun e14 ys15 =>
 bif e14.same .ret then (
 aV ys15 0 fun x16 =>
 aI .i64 x16 fun n17 =>
 some ⟨.d (.v (.int .i64 n17)), []⟩) else (
 bif e14.same (.exit 0) then (
 aV ys15 0 fun x18 =>
 aI .i64 x18 fun n19 =>
 some ⟨.d (.v (.int .i64 n19)), []⟩) else (
 none))))) else (
 aft (A98 T k k [.v (.string s1), .v (.int .i64 0), .v (.int .i64 0)]) fun e20 ys21 =>
 bif e20.same .ret then (
 aV ys21 0 fun x22 =>
 aI .i64 x22 fun n23 =>
 some ⟨.d (.v (.int .i64 n23)), []⟩) else (
 bif e20.same (.exit 0) then (
 aV ys21 0 fun x24 =>
 aI .i64 x24 fun n25 =>
 some ⟨.d (.v (.int .i64 n25)), []⟩) else (
 none)))) else (
 some ⟨.d (.v (.int .i64 (-1))), []⟩)) := by kernel_rfl
/- loop.example/g00119/spec.l4Take -/
def a93 : AFun := ⟨[.lent, .rd], false, [.t 4], (
 .seq (.g [oV 4 false]) (
 .seq (.seq (.dreg [] [(0, oM 5 0), (0, oQ 6 (.more (.nck (.t 5)))), (0, oF 7 2 6), (0, oW 8 .b 7), (0, oM 9 8), (0, oJ 10 9 false (.mv (.t 0))), (0, oJ 11 9 false (.more (.nck (.t 10)))), (0, oJ 12 9 false (.fad 0 (.t 11))), (0, oJ 13 9 false (.load false [.s] (.t 12))), (0, oJ 14 9 false (.len true (.t 13))), (0, oJ 15 9 false (.mv (.t 0))), (0, oJ 16 9 false (.more (.nck (.t 15)))), (0, oJ 17 9 false (.fad 1 (.t 16))), (0, oJ 18 9 false (.load false [kI] (.t 17))), (0, oJ 19 9 false (.bin .sub (.t 14) (.t 18))), (0, oJ 20 9 false (.mv (.t 1))), (0, oJ 21 9 false (.len true (.t 20))), (0, oJ 22 9 false (.bin .lss (.t 19) (.t 21))), (0, oQ 23 (.pick (.t 9) (.b true) (.t 22))), (0, oM 24 23), (0, oJ 25 24 false (.mv (.t 0))), (0, oJ 26 24 false (.more (.nck (.t 25)))), (0, oJ 27 24 false (.fad 0 (.t 26))), (0, oJ 28 24 false (.load false [.s] (.t 27))), (0, oJ 29 24 false (.mv (.t 0))), (0, oJ 30 24 false (.more (.nck (.t 29)))), (0, oJ 31 24 false (.fad 1 (.t 30))), (0, oJ 32 24 false (.load false [kI] (.t 31))), (0, oJ 33 24 false (.mv (.t 0))), (0, oJ 34 24 false (.more (.nck (.t 33)))), (0, oJ 35 24 false (.fad 1 (.t 34))), (0, oJ 36 24 false (.load false [kI] (.t 35))), (0, oJ 37 24 false (.mv (.t 1))), (0, oJ 38 24 false (.len true (.t 37))), (0, oJ 39 24 false (.bin .add (.t 36) (.t 38))), (0, oJ 40 24 false (.slc none (.t 28) (some (.t 32)) (some (.t 39)))), (0, oJ 41 24 false (.mv (.t 1)))] [oJ 42 24 false (.bin .neq (.t 40) (.t 41)), oQ 43 (.pick (.t 24) (.b true) (.t 42))]) (
 .cond (.t 43) (.seq (.g [oV 4 false]) (
 .ret)) (.skip))) (
 .seq (.g [oM 44 0, oM 45 0, oQ 46 (.more (.nck (.t 45))), oF 47 1 46, oW 48 kI 47, oM 49 1, oQ 50 (.len true (.t 49)), oB 51 .add 48 50, oQ 52 (.more (.nck (.t 44))), oF 53 1 52, oS (.store 1 (.t 53) (.t 51))]) (
 .seq (.g [oV 4 true]) (
 .ret)))))⟩
theorem D3w (T : Table) (k : Nat) (s1 s4 : ByteArray) (n2 : Int) (b3 : Bool): H9 T k a93 [.p [.v (.string s1), .v (.int .i64 n2), .v (.bool b3)], .d (.v (.string s4))] = (
 bif b3 == false then (
 bif (decide ((IntKind.wrap .i64 ((s1.size : Int) - n2)) < (s4.size : Int))) == false then (
 tst (N9 n2 (IntKind.wrap .i64 (n2 + (s4.size : Int))) (s1.size)) (
 bif (!(D9 (s1.extract (Int.toNat n2) (Int.toNat (IntKind.wrap .i64 (n2 + (s4.size : Int))))) s4)) then (
 some ⟨.d (.v (.bool false)), [.p [.v (.string s1), .v (.int .i64 n2), .v (.bool b3)]]⟩) else (
 some ⟨.d (.v (.bool true)), [.p [.v (.string s1), .v (.int .i64 (IntKind.wrap .i64 (n2 + (s4.size : Int)))), .v (.bool b3)]]⟩))) else (
 some ⟨.d (.v (.bool false)), [.p [.v (.string s1), .v (.int .i64 n2), .v (.bool b3)]]⟩)) else (
 some ⟨.d (.v (.bool false)), [.p [.v (.string s1), .v (.int .i64 n2), .v (.bool b3)]]⟩)) := by kernel_rfl
/- loop.example/g00119/spec.l4Peek -/
def D0q : AFun := ⟨[.lent], false, [.t 2], (
 .seq (.g [oQ 2 (.mv (.c (.v (.int .u8 0))))]) (
 .seq (.seq (.dreg [] [(0, oM 3 0), (0, oQ 4 (.more (.nck (.t 3)))), (0, oF 5 2 4), (0, oW 6 .b 5), (0, oM 7 6), (0, oJ 8 7 false (.mv (.t 0))), (0, oJ 9 7 false (.more (.nck (.t 8)))), (0, oJ 10 7 false (.fad 1 (.t 9))), (0, oJ 11 7 false (.load false [kI] (.t 10))), (0, oJ 12 7 false (.mv (.t 0))), (0, oJ 13 7 false (.more (.nck (.t 12)))), (0, oJ 14 7 false (.fad 0 (.t 13))), (0, oJ 15 7 false (.load false [.s] (.t 14))), (0, oJ 16 7 false (.len true (.t 15)))] [oJ 17 7 false (.bin .geq (.t 11) (.t 16)), oQ 18 (.pick (.t 7) (.b true) (.t 17))]) (
 .cond (.t 18) (.seq (.g [oQ 2 (.mv (.c (.v (.int .u8 0))))]) (
 .ret)) (.skip))) (
 .seq (.dreg [] [(0, oM 19 0), (0, oQ 20 (.more (.nck (.t 19)))), (0, oF 21 0 20), (0, oW 22 .s 21), (0, oM 23 0), (0, oQ 24 (.more (.nck (.t 23)))), (0, oF 25 1 24), (0, oW 26 kI 25)] [oQ 27 (.idx (.t 22) (.t 26)), oM 2 27]) (
 .ret))))⟩
theorem D2g (T : Table) (k : Nat) (s1 : ByteArray) (n2 : Int) (b3 : Bool): H9 T k D0q [.p [.v (.string s1), .v (.int .i64 n2), .v (.bool b3)]] = (
 bif b3 == false then (
 bif (decide (n2 ≥ (s1.size : Int))) then (
 some ⟨.d (.v (.int .u8 0)), [.p [.v (.string s1), .v (.int .i64 n2), .v (.bool b3)]]⟩) else (
 tst (decide (0 ≤ n2)) (
 K5 s1 (Int.toNat n2) fun c4 =>
 some ⟨.d (.v (.int .u8 (c4.toNat : Int))), [.p [.v (.string s1), .v (.int .i64 n2), .v (.bool b3)]]⟩))) else (
 some ⟨.d (.v (.int .u8 0)), [.p [.v (.string s1), .v (.int .i64 n2), .v (.bool b3)]]⟩)) := by kernel_rfl
/- loop.example/g00119/spec.l4ReadText -/
def C8i : ACode := (
 .seq (.seq (.g [oM 5 0, oQ 6 (.call (.f 125) [.lent] false [.c (.i .u8)] [.t 5]), oQ 7 (.bin .neq (.t 6) (.c (.v (.int .u8 34))))]) (
 .cond (.t 7) (.skip) (.exit 0))) (
 .block 1 (.seq (.seq (.g [oM 8 0, oQ 9 (.call (.f 125) [.lent] false [.c (.i .u8)] [.t 8]), oQ 10 (.bin .eql (.t 9) (.c (.v (.int .u8 92))))]) (
 .cond (.t 10) (.g [oM 11 0, oM 12 0, oQ 13 (.more (.nck (.t 12))), oF 14 1 13, oW 15 kI 14, oBi 16 .add 15 1, oQ 17 (.more (.nck (.t 11))), oF 18 1 17, oS (.store 1 (.t 18) (.t 16))]) (.skip))) (
 .seq (.seq (.g [oM 19 0, oQ 20 (.call (.f 125) [.lent] false [.c (.i .u8)] [.t 19]), oQ 21 (.bin .eql (.t 20) (.c (.v (.int .u8 0))))]) (
 .cond (.t 21) (.seq (.g [oM 22 0, oQ 23 (.more (.nck (.t 22))), oF 24 2 23, oS (.store 1 (.t 24) (.b true))]) (
 .seq (.g [oQ 2 (.mv (.c (.v (.string ({ data := #[] } : ByteArray)))))]) (
 .ret))) (.skip))) (
 .seq (.dreg [] [(3, oM 25 3), (0, oM 26 0), (0, oQ 27 (.more (.nck (.t 26)))), (0, oF 28 0 27), (0, oW 29 .s 28), (0, oM 30 0), (0, oQ 31 (.more (.nck (.t 30)))), (0, oF 32 1 31), (0, oW 33 kI 32)] [oQ 34 (.idx (.t 29) (.t 33)), oQ 35 (.lit 1 ([[.v (.int .u8 0)]] : Rows) [(0, (.t 34))]), oQ 36 (.app 1 1 (.t 25) (.t 35)), oM 3 36]) (
 .g [oM 37 0, oM 38 0, oQ 39 (.more (.nck (.t 38))), oF 40 1 39, oW 41 kI 40, oBi 42 .add 41 1, oQ 43 (.more (.nck (.t 37))), oF 44 1 43, oS (.store 1 (.t 44) (.t 42))]))))))
def C8j : K4 := [(.ret, [(0, .b [.c .s, .c kI, .c .b]), (2, .c .s)]), ((.exit 0), [(0, .b [.c .s, .c kI, .c .b]), (3, .o 1)])]
noncomputable def A3r (T : Table) (k : Nat) := K7 (J5 ⟨T, [0], []⟩ k C8i (Ex × List AV)) [0, 3] C8j
def a94 : AFun := ⟨[.lent], false, [.t 2], (
 .seq (.g [oQ 2 (.mv (.c (.v (.string ({ data := #[] } : ByteArray)))))]) (
 .seq (.g [oQ 4 (.lit 1 ([] : Rows) []), oM 3 4]) (
 .seq (.block 0 (.loop [0, 3] C8j C8i)) (
 .seq (.g [oM 45 0, oM 46 0, oQ 47 (.more (.nck (.t 46))), oF 48 1 47, oW 49 kI 48, oBi 50 .add 49 1, oQ 51 (.more (.nck (.t 45))), oF 52 1 51, oS (.store 1 (.t 52) (.t 50))]) (
 .seq (.g [oM 53 3, oQ 54 (.conv .bytesStr (.t 53)), oM 2 54]) (
 .ret))))))⟩
theorem A6p (T : Table) (k n : Nat) (s4 : ByteArray) (n5 : Int) (b6 : Bool) (l7 : Rows): A3r T k (n + 1) [.b [.v (.string s4), .v (.int .i64 n5), .v (.bool b6)], .o 1 l7] = (
 C8 T 125 [.p [.v (.string s4), .v (.int .i64 n5), .v (.bool b6)]] fun o8 =>
 nth o8.back 0 fun i9 =>
 oP i9 fun r10 =>
 tst (Nat.beq r10.length 3) (
 cS r10 0 fun s11 =>
 cI .i64 r10 1 fun n12 =>
 cB r10 2 fun b13 =>
 oD o8.res fun d14 =>
 dI .u8 d14 fun n15 =>
 bif (n15 != 34) then (
 C8 T 125 [.p [.v (.string s11), .v (.int .i64 n12), .v (.bool b13)]] fun o16 =>
 nth o16.back 0 fun i17 =>
 oP i17 fun r18 =>
 tst (Nat.beq r18.length 3) (
 cS r18 0 fun s19 =>
 cI .i64 r18 1 fun n20 =>
 cB r18 2 fun b21 =>
 oD o16.res fun d22 =>
 dI .u8 d22 fun n23 =>
 bif (n23 == 92) then (
 C8 T 125 [.p [.v (.string s19), .v (.int .i64 (IntKind.wrap .i64 (n20 + 1))), .v (.bool b21)]] fun o24 =>
 nth o24.back 0 fun i25 =>
 oP i25 fun r26 =>
 tst (Nat.beq r26.length 3) (
 cS r26 0 fun s27 =>
 cI .i64 r26 1 fun n28 =>
 cB r26 2 fun b29 =>
 oD o24.res fun d30 =>
 dI .u8 d30 fun n31 =>
 bif (n31 == 0) then (
 some (.ret, [.b [.v (.string s27), .v (.int .i64 n28), .v (.bool true)], .v (.string ({ data := #[] } : ByteArray))])) else (
 tst (decide (0 ≤ n28)) (
 K5 s27 (Int.toNat n28) fun c32 =>
 tst (decide ((l7.length + ([[.v (.int .u8 (c32.toNat : Int))]] : Rows).length) * 1 ≤ D7)) (
 A3r T k n [.b [.v (.string s27), .v (.int .i64 (IntKind.wrap .i64 (n28 + 1))), .v (.bool b29)], .o 1 (l7 ++ ([[.v (.int .u8 (c32.toNat : Int))]] : Rows))]))))) else (
 C8 T 125 [.p [.v (.string s19), .v (.int .i64 n20), .v (.bool b21)]] fun o33 =>
 nth o33.back 0 fun i34 =>
 oP i34 fun r35 =>
 tst (Nat.beq r35.length 3) (
 cS r35 0 fun s36 =>
 cI .i64 r35 1 fun n37 =>
 cB r35 2 fun b38 =>
 oD o33.res fun d39 =>
 dI .u8 d39 fun n40 =>
 bif (n40 == 0) then (
 some (.ret, [.b [.v (.string s36), .v (.int .i64 n37), .v (.bool true)], .v (.string ({ data := #[] } : ByteArray))])) else (
 tst (decide (0 ≤ n37)) (
 K5 s36 (Int.toNat n37) fun c41 =>
 tst (decide ((l7.length + ([[.v (.int .u8 (c41.toNat : Int))]] : Rows).length) * 1 ≤ D7)) (
 A3r T k n [.b [.v (.string s36), .v (.int .i64 (IntKind.wrap .i64 (n37 + 1))), .v (.bool b38)], .o 1 (l7 ++ ([[.v (.int .u8 (c41.toNat : Int))]] : Rows))]))))))) else (
 some ((.exit 0), [.b [.v (.string s11), .v (.int .i64 n12), .v (.bool b13)], .o 1 l7])))) := by kernel_rfl
theorem D2h (T : Table) (k : Nat) (s1 : ByteArray) (n2 : Int) (b3 : Bool): H9 T k a94 [.p [.v (.string s1), .v (.int .i64 n2), .v (.bool b3)]] = (
 aft (A3r T k k [.b [.v (.string s1), .v (.int .i64 n2), .v (.bool b3)], .o 1 []]) fun e42 ys43 =>
 bif e42.same .ret then (
 aV ys43 0 fun x44 =>
 aX x44 fun xs45 =>
 aV xs45 0 fun x46 =>
 aS x46 fun s47 =>
 aV xs45 1 fun x48 =>
 aI .i64 x48 fun n49 =>
 aV xs45 2 fun x50 =>
 aB x50 fun b51 =>
 aV ys43 1 fun x52 =>
 aS x52 fun s53 =>
 some ⟨.d (.v (.string s53)), [.p [.v (.string s47), .v (.int .i64 n49), .v (.bool b51)]]⟩) else (
 bif e42.same (.exit 0) then (
 aV ys43 0 fun x54 =>
 aX x54 fun xs55 =>
 aV xs55 0 fun x56 =>
 aS x56 fun s57 =>
 aV xs55 1 fun x58 =>
 aI .i64 x58 fun n59 =>
 aV xs55 2 fun x60 =>
 aB x60 fun b61 =>
 aV ys43 1 fun x62 =>
 aO 1 x62 fun l63 =>
 tst (P7 l63) (
 some ⟨.d (.v (.string (H7 l63))), [.p [.v (.string s57), .v (.int .i64 (IntKind.wrap .i64 (n59 + 1))), .v (.bool b61)]]⟩)) else (
 none))) := by kernel_rfl
/- loop.example/g00119/spec.l4ReadWord -/
def C4m : ACode := (
 .seq (.seq (.g [oM 8 0, oQ 9 (.more (.nck (.t 8))), oF 10 2 9, oW 11 .b 10, oN 12 11, oM 13 12, oJ 14 13 true (.mv (.t 0)), oJ 15 13 true (.call (.f 125) [.lent] false [.c (.i .u8)] [.t 14]), oJ 16 13 true (.bin .neq (.t 15) (.c (.v (.int .u8 58)))), oQ 17 (.pick (.t 13) (.t 16) (.b false)), oM 18 17, oJ 19 18 true (.mv (.t 0)), oJ 20 18 true (.call (.f 125) [.lent] false [.c (.i .u8)] [.t 19]), oJ 21 18 true (.bin .neq (.t 20) (.c (.v (.int .u8 0)))), oQ 22 (.pick (.t 18) (.t 21) (.b false))]) (
 .cond (.t 22) (.skip) (.exit 0))) (
 .block 1 (.g [oM 23 0, oM 24 0, oQ 25 (.more (.nck (.t 24))), oF 26 1 25, oW 27 kI 26, oBi 28 .add 27 1, oQ 29 (.more (.nck (.t 23))), oF 30 1 29, oS (.store 1 (.t 30) (.t 28))])))
def C4n : K4 := [((.exit 0), [(0, .b [.c .s, .c kI, .c .b]), (3, .c kI)])]
noncomputable def A5b (T : Table) (k : Nat) := K7 (J5 ⟨T, [0], []⟩ k C4m (Ex × List AV)) [0, 3] C4n
def D0r : AFun := ⟨[.lent], false, [.t 2], (
 .seq (.g [oQ 2 (.mv (.c (.v (.string ({ data := #[] } : ByteArray)))))]) (
 .seq (.g [oM 4 0, oQ 5 (.more (.nck (.t 4))), oF 6 1 5, oW 7 kI 6, oM 3 7]) (
 .seq (.block 0 (.loop [0, 3] C4n C4m)) (
 .seq (.dreg [] [(0, oM 31 0), (0, oQ 32 (.more (.nck (.t 31)))), (0, oF 33 0 32), (0, oW 34 .s 33), (0, oM 35 3), (0, oM 36 0), (0, oQ 37 (.more (.nck (.t 36)))), (0, oF 38 1 37), (0, oW 39 kI 38)] [oQ 40 (.slc none (.t 34) (some (.t 35)) (some (.t 39))), oM 2 40]) (
 .ret)))))⟩
theorem B4q (T : Table) (k n : Nat) (s4 : ByteArray) (n5 n7 : Int) (b6 : Bool): A5b T k (n + 1) [.b [.v (.string s4), .v (.int .i64 n5), .v (.bool b6)], .v (.int .i64 n7)] = (
 bif (!b6) == true then (
 C8 T 125 [.p [.v (.string s4), .v (.int .i64 n5), .v (.bool b6)]] fun o8 =>
 nth o8.back 0 fun i9 =>
 oP i9 fun r10 =>
 tst (Nat.beq r10.length 3) (
 cS r10 0 fun s11 =>
 cI .i64 r10 1 fun n12 =>
 cB r10 2 fun b13 =>
 oD o8.res fun d14 =>
 dI .u8 d14 fun n15 =>
 bif (n15 != 58) == true then (
 C8 T 125 [.p [.v (.string s11), .v (.int .i64 n12), .v (.bool b13)]] fun o16 =>
 nth o16.back 0 fun i17 =>
 oP i17 fun r18 =>
 tst (Nat.beq r18.length 3) (
 cS r18 0 fun s19 =>
 cI .i64 r18 1 fun n20 =>
 cB r18 2 fun b21 =>
 oD o16.res fun d22 =>
 dI .u8 d22 fun n23 =>
 bif (n23 != 0) then (
 A5b T k n [.b [.v (.string s19), .v (.int .i64 (IntKind.wrap .i64 (n20 + 1))), .v (.bool b21)], .v (.int .i64 n7)]) else (
 some ((.exit 0), [.b [.v (.string s19), .v (.int .i64 n20), .v (.bool b21)], .v (.int .i64 n7)])))) else (
 some ((.exit 0), [.b [.v (.string s11), .v (.int .i64 n12), .v (.bool b13)], .v (.int .i64 n7)])))) else (
 some ((.exit 0), [.b [.v (.string s4), .v (.int .i64 n5), .v (.bool b6)], .v (.int .i64 n7)]))) := by kernel_rfl
theorem D2i (T : Table) (k : Nat) (s1 : ByteArray) (n2 : Int) (b3 : Bool): H9 T k D0r [.p [.v (.string s1), .v (.int .i64 n2), .v (.bool b3)]] = (
 aft (A5b T k k [.b [.v (.string s1), .v (.int .i64 n2), .v (.bool b3)], .v (.int .i64 n2)]) fun e24 ys25 =>
 bif e24.same (.exit 0) then (
 aV ys25 0 fun x26 =>
 aX x26 fun xs27 =>
 aV xs27 0 fun x28 =>
 aS x28 fun s29 =>
 aV xs27 1 fun x30 =>
 aI .i64 x30 fun n31 =>
 aV xs27 2 fun x32 =>
 aB x32 fun b33 =>
 aV ys25 1 fun x34 =>
 aI .i64 x34 fun n35 =>
 tst (N9 n35 n31 (s29.size)) (
 some ⟨.d (.v (.string (s29.extract (Int.toNat n35) (Int.toNat n31)))), [.p [.v (.string s29), .v (.int .i64 n31), .v (.bool b33)]]⟩)) else (
 none)) := by kernel_rfl
/- loop.example/g00119/spec.l4ReadKids -/
def C8k : ACode := (
 .seq (.seq (.g [oM 12 0, oQ 13 (.more (.nck (.t 12))), oF 14 2 13, oW 15 .b 14, oN 16 15, oM 17 16, oJ 18 17 true (.mv (.t 0)), oJ 19 17 true (.mv (.t 2)), oJ 20 17 true (.call (.f 93) [.lent, .rd] false [.c .b] [.t 18, .t 19]), oJ 21 17 true (.un .not (.t 20)), oQ 22 (.pick (.t 17) (.t 21) (.b false))]) (
 .cond (.t 22) (.skip) (.exit 0))) (
 .block 1 (.seq (.seq (.g [oF 23 4 9, oW 24 (.sl 5) 23, oZ 25 24, oBi 26 .gtr 25 0, oM 27 26, oJ 28 27 true (.mv (.t 0)), oJ 29 27 true (.call (.f 93) [.lent, .rd] false [.c .b] [.t 28, .c (.v (.string ({ data := #[44] } : ByteArray)))]), oJ 30 27 true (.un .not (.t 29)), oQ 31 (.pick (.t 27) (.t 30) (.b false))]) (
 .cond (.t 31) (.g [oM 32 0, oQ 33 (.more (.nck (.t 32))), oF 34 2 33, oS (.store 1 (.t 34) (.b true))]) (.skip))) (
 .seq (.seq (.g [oM 35 1, oBi 36 .eql 35 5]) (
 .cond (.t 36) (.seq (.dreg [(0, 0, []), (9, 3, [.sl 1])] [(0, oF 37 3 9), (0, oW 38 (.sl 1) 37), (0, oM 39 0), (1, oQ 40 (.call (.f 126) [.lent] false [.c .s] [.t 39])), (1, oQ 41 (.lit 1 ([[.v (.string ByteArray.empty)]] : Rows) [(0, (.t 40))]))] [oQ 42 (.app 1 16 (.t 38) (.t 41)), oF 43 3 9, oS (.store 1 (.t 43) (.t 42))]) (
 .g [oM 44 0, oM 45 0, oQ 46 (.more (.nck (.t 45))), oF 47 2 46, oW 48 .b 47, oM 49 48, oJ 50 49 false (.mv (.t 0)), oJ 51 49 false (.call (.f 93) [.lent, .rd] false [.c .b] [.t 50, .c (.v (.string ({ data := #[58] } : ByteArray)))]), oJ 52 49 false (.un .not (.t 51)), oQ 53 (.pick (.t 49) (.b true) (.t 52)), oQ 54 (.more (.nck (.t 44))), oF 55 2 54, oS (.store 1 (.t 55) (.t 53))])) (.skip))) (
 .seq (.dreg [(0, 0, [])] [(0, oF 56 4 9), (0, oW 57 (.sl 5) 56), (0, oM 58 0), (0, oM 59 3), (0, oBi 60 .sub 59 1), (1, oQ 61 (.call (.f 60) [.lent, .rd] false [.g [kI, .s, kI, .sl 1, .sl 5]] [.t 58, .t 60])), (1, oQ 62 (.lit 5 ([[.v (.int .i64 0), .v (.string ByteArray.empty), .v (.int .i64 0), .s 1 [], .s 5 []]] : Rows) [(0, (.t 61))]))] [oQ 63 (.app 5 80 (.t 57) (.t 62)), oF 64 4 9, oS (.store 1 (.t 64) (.t 63))]) (
 .g [oM 65 0, oM 66 0, oQ 67 (.more (.nck (.t 66))), oF 68 2 67, oW 69 .b 68, oM 70 69, oJ 71 70 false (.fad 4 (.t 9)), oJ 72 70 false (.load false [.sl 5] (.t 71)), oJ 73 70 false (.len false (.t 72)), oJ 74 70 false (.bin .gtr (.t 73) (.i 300)), oQ 75 (.pick (.t 70) (.b true) (.t 74)), oQ 76 (.more (.nck (.t 65))), oF 77 2 76, oS (.store 1 (.t 77) (.t 75))]))))))
def C8l : K4 := [((.exit 0), [(0, .b [.c .s, .c kI, .c .b]), (8, .b [.c kI, .c .s, .c kI, .o 1, .o 5]), (9, .b [.c kI, .c .s, .c kI, .o 1, .o 5])])]
noncomputable def U7 (T : Table) (k : Nat) := K7 (J5 ⟨T, [0], []⟩ k C8k (Ex × List AV)) [0, 1, 2, 3, 8, 9] C8l
def a95 : AFun := ⟨[.lent, .rd, .rd, .rd], false, [.c 8 true [kI, .s, kI, .sl 1, .sl 5]], (
 .seq (.g [oQ 8 (.alloc [.v (.int .i64 0), .v (.string ByteArray.empty), .v (.int .i64 0), .s 1 [], .s 5 []])]) (
 .seq (.g [oM 10 1, oQ 11 (.build [.v (.int .i64 0), .v (.string ByteArray.empty), .v (.int .i64 0), .s 1 [], .s 5 []] [(0, 1, (.t 10))]), oQ 9 (.alloc [.v (.int .i64 0), .v (.string ByteArray.empty), .v (.int .i64 0), .s 1 [], .s 5 []]), oS (.store 5 (.t 9) (.t 11))]) (
 .seq (.block 0 (.loop [0, 1, 2, 3, 8, 9] C8l C8k)) (
 .seq (.g [oL 78 [kI, .s, kI, .sl 1, .sl 5] 9, oS (.store 5 (.t 8) (.t 78))]) (
 .ret)))))⟩
theorem B4r (T : Table) (k n : Nat) (s7 s11 s14 s19 : ByteArray) (n8 n10 n12 n13 n15 n18 n20 : Int) (b9 : Bool) (l16 l17 l21 l22 : Rows): U7 T k (n + 1) [.b [.v (.string s7), .v (.int .i64 n8), .v (.bool b9)], .v (.int .i64 n10), .v (.string s11), .v (.int .i64 n12), .b [.v (.int .i64 n13), .v (.string s14), .v (.int .i64 n15), .o 1 l16, .o 5 l17], .b [.v (.int .i64 n18), .v (.string s19), .v (.int .i64 n20), .o 1 l21, .o 5 l22]] = (
 bif (!b9) == true then (
 C8 T 93 [.p [.v (.string s7), .v (.int .i64 n8), .v (.bool b9)], .d (.v (.string s11))] fun o23 =>
 nth o23.back 0 fun i24 =>
 oP i24 fun r25 =>
 tst (Nat.beq r25.length 3) (
 cS r25 0 fun s26 =>
 cI .i64 r25 1 fun n27 =>
 cB r25 2 fun b28 =>
 oD o23.res fun d29 =>
 dB d29 fun b30 =>
 bif (!b30) then (
 bif (decide ((l22.length : Int) > 0)) == true then (
 C8 T 93 [.p [.v (.string s26), .v (.int .i64 n27), .v (.bool b28)], .d (.v (.string ({ data := #[44] } : ByteArray)))] fun o31 =>
 nth o31.back 0 fun i32 =>
 oP i32 fun r33 =>
 tst (Nat.beq r33.length 3) (
 cS r33 0 fun s34 =>
 cI .i64 r33 1 fun n35 =>
 cB r33 2 fun b36 =>
 oD o31.res fun d37 =>
 dB d37 fun b38 =>
 bif (!b38) then (
 bif (n10 == 5) then (
 C8 T 126 [.p [.v (.string s34), .v (.int .i64 n35), .v (.bool true)]] fun o39 =>
 nth o39.back 0 fun i40 =>
 oP i40 fun r41 =>
 tst (Nat.beq r41.length 3) (
 cS r41 0 fun s42 =>
 cI .i64 r41 1 fun n43 =>
 cB r41 2 fun b44 =>
 oD o39.res fun d45 =>
 dS d45 fun s46 =>
 tst (decide ((l21.length + ([[.v (.string s46)]] : Rows).length) * 16 ≤ D7)) (
 bif b44 == false then (
 C8 T 93 [.p [.v (.string s42), .v (.int .i64 n43), .v (.bool b44)], .d (.v (.string ({ data := #[58] } : ByteArray)))] fun o47 =>
 nth o47.back 0 fun i48 =>
 oP i48 fun r49 =>
 tst (Nat.beq r49.length 3) (
 cS r49 0 fun s50 =>
 cI .i64 r49 1 fun n51 =>
 cB r49 2 fun b52 =>
 oD o47.res fun d53 =>
 dB d53 fun b54 =>
 C8 T 60 [.p [.v (.string s50), .v (.int .i64 n51), .v (.bool (!b54))], .d (.v (.int .i64 (IntKind.wrap .i64 (n12 - 1))))] fun o55 =>
 nth o55.back 0 fun i56 =>
 oP i56 fun r57 =>
 tst (Nat.beq r57.length 3) (
 cS r57 0 fun s58 =>
 cI .i64 r57 1 fun n59 =>
 cB r57 2 fun b60 =>
 oG o55.res fun r61 =>
 tst (Nat.beq r61.length 5) (
 cI .i64 r61 0 fun n62 =>
 cS r61 1 fun s63 =>
 cI .i64 r61 2 fun n64 =>
 cL 1 r61 3 fun l65 =>
 cL 5 r61 4 fun l66 =>
 tst (decide ((l22.length + ([[.v (.int .i64 n62), .v (.string s63), .v (.int .i64 n64), hole, hole]] : Rows).length) * 80 ≤ D7)) (
 bif b60 == false then (
 U7 T k n [.b [.v (.string s58), .v (.int .i64 n59), .v (.bool (decide (((l22 ++ ([[.v (.int .i64 n62), .v (.string s63), .v (.int .i64 n64), hole, hole]] : Rows)).length : Int) > 300)))], .v (.int .i64 n10), .v (.string s11), .v (.int .i64 n12), .b [.v (.int .i64 n13), .v (.string s14), .v (.int .i64 n15), .o 1 l16, .o 5 l17], .b [.v (.int .i64 n18), .v (.string s19), .v (.int .i64 n20), .o 1 (l21 ++ ([[.v (.string s46)]] : Rows)), .o 5 (G8 (G8 (l22 ++ ([[.v (.int .i64 n62), .v (.string s63), .v (.int .i64 n64), hole, hole]] : Rows)) (0 + l22.length) 4 (.s 5 l66)) (0 + l22.length) 3 (.s 1 l65))]]) else (
 U7 T k n [.b [.v (.string s58), .v (.int .i64 n59), .v (.bool true)], .v (.int .i64 n10), .v (.string s11), .v (.int .i64 n12), .b [.v (.int .i64 n13), .v (.string s14), .v (.int .i64 n15), .o 1 l16, .o 5 l17], .b [.v (.int .i64 n18), .v (.string s19), .v (.int .i64 n20), .o 1 (l21 ++ ([[.v (.string s46)]] : Rows)), .o 5 (G8 (G8 (l22 ++ ([[.v (.int .i64 n62), .v (.string s63), .v (.int .i64 n64), hole, hole]] : Rows)) (0 + l22.length) 4 (.s 5 l66)) (0 + l22.length) 3 (.s 1 l65))]])))))) else (
 C8 T 60 [.p [.v (.string s42), .v (.int .i64 n43), .v (.bool true)], .d (.v (.int .i64 (IntKind.wrap .i64 (n12 - 1))))] fun o67 =>
 nth o67.back 0 fun i68 =>
 oP i68 fun r69 =>
 tst (Nat.beq r69.length 3) (
 cS r69 0 fun s70 =>
 cI .i64 r69 1 fun n71 =>
 cB r69 2 fun b72 =>
 oG o67.res fun r73 =>
 tst (Nat.beq r73.length 5) (
 cI .i64 r73 0 fun n74 =>
 cS r73 1 fun s75 =>
 cI .i64 r73 2 fun n76 =>
 cL 1 r73 3 fun l77 =>
 cL 5 r73 4 fun l78 =>
 tst (decide ((l22.length + ([[.v (.int .i64 n74), .v (.string s75), .v (.int .i64 n76), hole, hole]] : Rows).length) * 80 ≤ D7)) (
 bif b72 == false then (
 U7 T k n [.b [.v (.string s70), .v (.int .i64 n71), .v (.bool (decide (((l22 ++ ([[.v (.int .i64 n74), .v (.string s75), .v (.int .i64 n76), hole, hole]] : Rows)).length : Int) > 300)))], .v (.int .i64 n10), .v (.string s11), .v (.int .i64 n12), .b [.v (.int .i64 n13), .v (.string s14), .v (.int .i64 n15), .o 1 l16, .o 5 l17], .b [.v (.int .i64 n18), .v (.string s19), .v (.int .i64 n20), .o 1 (l21 ++ ([[.v (.string s46)]] : Rows)), .o 5 (G8 (G8 (l22 ++ ([[.v (.int .i64 n74), .v (.string s75), .v (.int .i64 n76), hole, hole]] : Rows)) (0 + l22.length) 4 (.s 5 l78)) (0 + l22.length) 3 (.s 1 l77))]]) else (
 U7 T k n [.b [.v (.string s70), .v (.int .i64 n71), .v (.bool true)], .v (.int .i64 n10), .v (.string s11), .v (.int .i64 n12), .b [.v (.int .i64 n13), .v (.string s14), .v (.int .i64 n15), .o 1 l16, .o 5 l17], .b [.v (.int .i64 n18), .v (.string s19), .v (.int .i64 n20), .o 1 (l21 ++ ([[.v (.string s46)]] : Rows)), .o 5 (G8 (G8 (l22 ++ ([[.v (.int .i64 n74), .v (.string s75), .v (.int .i64 n76), hole, hole]] : Rows)) (0 + l22.length) 4 (.s 5 l78)) (0 + l22.length) 3 (.s 1 l77))]])))))))) else (
 C8 T 60 [.p [.v (.string s34), .v (.int .i64 n35), .v (.bool true)], .d (.v (.int .i64 (IntKind.wrap .i64 (n12 - 1))))] fun o79 =>
 nth o79.back 0 fun i80 =>
 oP i80 fun r81 =>
 tst (Nat.beq r81.length 3) (
 cS r81 0 fun s82 =>
 cI .i64 r81 1 fun n83 =>
 cB r81 2 fun b84 =>
 oG o79.res fun r85 =>
 tst (Nat.beq r85.length 5) (
 cI .i64 r85 0 fun n86 =>
 cS r85 1 fun s87 =>
 cI .i64 r85 2 fun n88 =>
 cL 1 r85 3 fun l89 =>
 cL 5 r85 4 fun l90 =>
 tst (decide ((l22.length + ([[.v (.int .i64 n86), .v (.string s87), .v (.int .i64 n88), hole, hole]] : Rows).length) * 80 ≤ D7)) (
 bif b84 == false then (
 U7 T k n [.b [.v (.string s82), .v (.int .i64 n83), .v (.bool (decide (((l22 ++ ([[.v (.int .i64 n86), .v (.string s87), .v (.int .i64 n88), hole, hole]] : Rows)).length : Int) > 300)))], .v (.int .i64 n10), .v (.string s11), .v (.int .i64 n12), .b [.v (.int .i64 n13), .v (.string s14), .v (.int .i64 n15), .o 1 l16, .o 5 l17], .b [.v (.int .i64 n18), .v (.string s19), .v (.int .i64 n20), .o 1 l21, .o 5 (G8 (G8 (l22 ++ ([[.v (.int .i64 n86), .v (.string s87), .v (.int .i64 n88), hole, hole]] : Rows)) (0 + l22.length) 4 (.s 5 l90)) (0 + l22.length) 3 (.s 1 l89))]]) else (
 U7 T k n [.b [.v (.string s82), .v (.int .i64 n83), .v (.bool true)], .v (.int .i64 n10), .v (.string s11), .v (.int .i64 n12), .b [.v (.int .i64 n13), .v (.string s14), .v (.int .i64 n15), .o 1 l16, .o 5 l17], .b [.v (.int .i64 n18), .v (.string s19), .v (.int .i64 n20), .o 1 l21, .o 5 (G8 (G8 (l22 ++ ([[.v (.int .i64 n86), .v (.string s87), .v (.int .i64 n88), hole, hole]] : Rows)) (0 + l22.length) 4 (.s 5 l90)) (0 + l22.length) 3 (.s 1 l89))]])))))) else (
 bif (n10 == 5) then (
 C8 T 126 [.p [.v (.string s34), .v (.int .i64 n35), .v (.bool b36)]] fun o91 =>
 nth o91.back 0 fun i92 =>
 oP i92 fun r93 =>
 tst (Nat.beq r93.length 3) (
 cS r93 0 fun s94 =>
 cI .i64 r93 1 fun n95 =>
 cB r93 2 fun b96 =>
 oD o91.res fun d97 =>
 dS d97 fun s98 =>
 tst (decide ((l21.length + ([[.v (.string s98)]] : Rows).length) * 16 ≤ D7)) (
 bif b96 == false then (
 C8 T 93 [.p [.v (.string s94), .v (.int .i64 n95), .v (.bool b96)], .d (.v (.string ({ data := #[58] } : ByteArray)))] fun o99 =>
 nth o99.back 0 fun i100 =>
 oP i100 fun r101 =>
 tst (Nat.beq r101.length 3) (
 cS r101 0 fun s102 =>
 cI .i64 r101 1 fun n103 =>
 cB r101 2 fun b104 =>
 oD o99.res fun d105 =>
 dB d105 fun b106 =>
 C8 T 60 [.p [.v (.string s102), .v (.int .i64 n103), .v (.bool (!b106))], .d (.v (.int .i64 (IntKind.wrap .i64 (n12 - 1))))] fun o107 =>
 nth o107.back 0 fun i108 =>
 oP i108 fun r109 =>
 tst (Nat.beq r109.length 3) (
 cS r109 0 fun s110 =>
 cI .i64 r109 1 fun n111 =>
 cB r109 2 fun b112 =>
 oG o107.res fun r113 =>
 tst (Nat.beq r113.length 5) (
 cI .i64 r113 0 fun n114 =>
 cS r113 1 fun s115 =>
 cI .i64 r113 2 fun n116 =>
 cL 1 r113 3 fun l117 =>
 cL 5 r113 4 fun l118 =>
 tst (decide ((l22.length + ([[.v (.int .i64 n114), .v (.string s115), .v (.int .i64 n116), hole, hole]] : Rows).length) * 80 ≤ D7)) (
 bif b112 == false then (
 U7 T k n [.b [.v (.string s110), .v (.int .i64 n111), .v (.bool (decide (((l22 ++ ([[.v (.int .i64 n114), .v (.string s115), .v (.int .i64 n116), hole, hole]] : Rows)).length : Int) > 300)))], .v (.int .i64 n10), .v (.string s11), .v (.int .i64 n12), .b [.v (.int .i64 n13), .v (.string s14), .v (.int .i64 n15), .o 1 l16, .o 5 l17], .b [.v (.int .i64 n18), .v (.string s19), .v (.int .i64 n20), .o 1 (l21 ++ ([[.v (.string s98)]] : Rows)), .o 5 (G8 (G8 (l22 ++ ([[.v (.int .i64 n114), .v (.string s115), .v (.int .i64 n116), hole, hole]] : Rows)) (0 + l22.length) 4 (.s 5 l118)) (0 + l22.length) 3 (.s 1 l117))]]) else (
 U7 T k n [.b [.v (.string s110), .v (.int .i64 n111), .v (.bool true)], .v (.int .i64 n10), .v (.string s11), .v (.int .i64 n12), .b [.v (.int .i64 n13), .v (.string s14), .v (.int .i64 n15), .o 1 l16, .o 5 l17], .b [.v (.int .i64 n18), .v (.string s19), .v (.int .i64 n20), .o 1 (l21 ++ ([[.v (.string s98)]] : Rows)), .o 5 (G8 (G8 (l22 ++ ([[.v (.int .i64 n114), .v (.string s115), .v (.int .i64 n116), hole, hole]] : Rows)) (0 + l22.length) 4 (.s 5 l118)) (0 + l22.length) 3 (.s 1 l117))]])))))) else (
 C8 T 60 [.p [.v (.string s94), .v (.int .i64 n95), .v (.bool true)], .d (.v (.int .i64 (IntKind.wrap .i64 (n12 - 1))))] fun o119 =>
 nth o119.back 0 fun i120 =>
 oP i120 fun r121 =>
 tst (Nat.beq r121.length 3) (
 cS r121 0 fun s122 =>
 cI .i64 r121 1 fun n123 =>
 cB r121 2 fun b124 =>
 oG o119.res fun r125 =>
 tst (Nat.beq r125.length 5) (
 cI .i64 r125 0 fun n126 =>
 cS r125 1 fun s127 =>
 cI .i64 r125 2 fun n128 =>
 cL 1 r125 3 fun l129 =>
 cL 5 r125 4 fun l130 =>
 tst (decide ((l22.length + ([[.v (.int .i64 n126), .v (.string s127), .v (.int .i64 n128), hole, hole]] : Rows).length) * 80 ≤ D7)) (
 bif b124 == false then (
 U7 T k n [.b [.v (.string s122), .v (.int .i64 n123), .v (.bool (decide (((l22 ++ ([[.v (.int .i64 n126), .v (.string s127), .v (.int .i64 n128), hole, hole]] : Rows)).length : Int) > 300)))], .v (.int .i64 n10), .v (.string s11), .v (.int .i64 n12), .b [.v (.int .i64 n13), .v (.string s14), .v (.int .i64 n15), .o 1 l16, .o 5 l17], .b [.v (.int .i64 n18), .v (.string s19), .v (.int .i64 n20), .o 1 (l21 ++ ([[.v (.string s98)]] : Rows)), .o 5 (G8 (G8 (l22 ++ ([[.v (.int .i64 n126), .v (.string s127), .v (.int .i64 n128), hole, hole]] : Rows)) (0 + l22.length) 4 (.s 5 l130)) (0 + l22.length) 3 (.s 1 l129))]]) else (
 U7 T k n [.b [.v (.string s122), .v (.int .i64 n123), .v (.bool true)], .v (.int .i64 n10), .v (.string s11), .v (.int .i64 n12), .b [.v (.int .i64 n13), .v (.string s14), .v (.int .i64 n15), .o 1 l16, .o 5 l17], .b [.v (.int .i64 n18), .v (.string s19), .v (.int .i64 n20), .o 1 (l21 ++ ([[.v (.string s98)]] : Rows)), .o 5 (G8 (G8 (l22 ++ ([[.v (.int .i64 n126), .v (.string s127), .v (.int .i64 n128), hole, hole]] : Rows)) (0 + l22.length) 4 (.s 5 l130)) (0 + l22.length) 3 (.s 1 l129))]])))))))) else (
 C8 T 60 [.p [.v (.string s34), .v (.int .i64 n35), .v (.bool b36)], .d (.v (.int .i64 (IntKind.wrap .i64 (n12 - 1))))] fun o131 =>
 nth o131.back 0 fun i132 =>
 oP i132 fun r133 =>
 tst (Nat.beq r133.length 3) (
 cS r133 0 fun s134 =>
 cI .i64 r133 1 fun n135 =>
 cB r133 2 fun b136 =>
 oG o131.res fun r137 =>
 tst (Nat.beq r137.length 5) (
 cI .i64 r137 0 fun n138 =>
 cS r137 1 fun s139 =>
 cI .i64 r137 2 fun n140 =>
 cL 1 r137 3 fun l141 =>
 cL 5 r137 4 fun l142 =>
 tst (decide ((l22.length + ([[.v (.int .i64 n138), .v (.string s139), .v (.int .i64 n140), hole, hole]] : Rows).length) * 80 ≤ D7)) (
 bif b136 == false then (
 U7 T k n [.b [.v (.string s134), .v (.int .i64 n135), .v (.bool (decide (((l22 ++ ([[.v (.int .i64 n138), .v (.string s139), .v (.int .i64 n140), hole, hole]] : Rows)).length : Int) > 300)))], .v (.int .i64 n10), .v (.string s11), .v (.int .i64 n12), .b [.v (.int .i64 n13), .v (.string s14), .v (.int .i64 n15), .o 1 l16, .o 5 l17], .b [.v (.int .i64 n18), .v (.string s19), .v (.int .i64 n20), .o 1 l21, .o 5 (G8 (G8 (l22 ++ ([[.v (.int .i64 n138), .v (.string s139), .v (.int .i64 n140), hole, hole]] : Rows)) (0 + l22.length) 4 (.s 5 l142)) (0 + l22.length) 3 (.s 1 l141))]]) else (
 U7 T k n [.b [.v (.string s134), .v (.int .i64 n135), .v (.bool true)], .v (.int .i64 n10), .v (.string s11), .v (.int .i64 n12), .b [.v (.int .i64 n13), .v (.string s14), .v (.int .i64 n15), .o 1 l16, .o 5 l17], .b [.v (.int .i64 n18), .v (.string s19), .v (.int .i64 n20), .o 1 l21, .o 5 (G8 (G8 (l22 ++ ([[.v (.int .i64 n138), .v (.string s139), .v (.int .i64 n140), hole, hole]] : Rows)) (0 + l22.length) 4 (.s 5 l142)) (0 + l22.length) 3 (.s 1 l141))]])))))))) else (
 bif (n10 == 5) then (
 C8 T 126 [.p [.v (.string s26), .v (.int .i64 n27), .v (.bool b28)]] fun o143 =>
 nth o143.back 0 fun i144 =>
 oP i144 fun r145 =>
 tst (Nat.beq r145.length 3) (
 cS r145 0 fun s146 =>
 cI .i64 r145 1 fun n147 =>
 cB r145 2 fun b148 =>
 oD o143.res fun d149 =>
 dS d149 fun s150 =>
 tst (decide ((l21.length + ([[.v (.string s150)]] : Rows).length) * 16 ≤ D7)) (
 bif b148 == false then (
 C8 T 93 [.p [.v (.string s146), .v (.int .i64 n147), .v (.bool b148)], .d (.v (.string ({ data := #[58] } : ByteArray)))] fun o151 =>
 nth o151.back 0 fun i152 =>
 oP i152 fun r153 =>
 tst (Nat.beq r153.length 3) (
 cS r153 0 fun s154 =>
 cI .i64 r153 1 fun n155 =>
 cB r153 2 fun b156 =>
 oD o151.res fun d157 =>
 dB d157 fun b158 =>
 C8 T 60 [.p [.v (.string s154), .v (.int .i64 n155), .v (.bool (!b158))], .d (.v (.int .i64 (IntKind.wrap .i64 (n12 - 1))))] fun o159 =>
 nth o159.back 0 fun i160 =>
 oP i160 fun r161 =>
 tst (Nat.beq r161.length 3) (
 cS r161 0 fun s162 =>
 cI .i64 r161 1 fun n163 =>
 cB r161 2 fun b164 =>
 oG o159.res fun r165 =>
 tst (Nat.beq r165.length 5) (
 cI .i64 r165 0 fun n166 =>
 cS r165 1 fun s167 =>
 cI .i64 r165 2 fun n168 =>
 cL 1 r165 3 fun l169 =>
 cL 5 r165 4 fun l170 =>
 tst (decide ((l22.length + ([[.v (.int .i64 n166), .v (.string s167), .v (.int .i64 n168), hole, hole]] : Rows).length) * 80 ≤ D7)) (
 bif b164 == false then (
 U7 T k n [.b [.v (.string s162), .v (.int .i64 n163), .v (.bool (decide (((l22 ++ ([[.v (.int .i64 n166), .v (.string s167), .v (.int .i64 n168), hole, hole]] : Rows)).length : Int) > 300)))], .v (.int .i64 n10), .v (.string s11), .v (.int .i64 n12), .b [.v (.int .i64 n13), .v (.string s14), .v (.int .i64 n15), .o 1 l16, .o 5 l17], .b [.v (.int .i64 n18), .v (.string s19), .v (.int .i64 n20), .o 1 (l21 ++ ([[.v (.string s150)]] : Rows)), .o 5 (G8 (G8 (l22 ++ ([[.v (.int .i64 n166), .v (.string s167), .v (.int .i64 n168), hole, hole]] : Rows)) (0 + l22.length) 4 (.s 5 l170)) (0 + l22.length) 3 (.s 1 l169))]]) else (
 U7 T k n [.b [.v (.string s162), .v (.int .i64 n163), .v (.bool true)], .v (.int .i64 n10), .v (.string s11), .v (.int .i64 n12), .b [.v (.int .i64 n13), .v (.string s14), .v (.int .i64 n15), .o 1 l16, .o 5 l17], .b [.v (.int .i64 n18), .v (.string s19), .v (.int .i64 n20), .o 1 (l21 ++ ([[.v (.string s150)]] : Rows)), .o 5 (G8 (G8 (l22 ++ ([[.v (.int .i64 n166), .v (.string s167), .v (.int .i64 n168), hole, hole]] : Rows)) (0 + l22.length) 4 (.s 5 l170)) (0 + l22.length) 3 (.s 1 l169))]])))))) else (
 C8 T 60 [.p [.v (.string s146), .v (.int .i64 n147), .v (.bool true)], .d (.v (.int .i64 (IntKind.wrap .i64 (n12 - 1))))] fun o171 =>
 nth o171.back 0 fun i172 =>
 oP i172 fun r173 =>
 tst (Nat.beq r173.length 3) (
 cS r173 0 fun s174 =>
 cI .i64 r173 1 fun n175 =>
 cB r173 2 fun b176 =>
 oG o171.res fun r177 =>
 tst (Nat.beq r177.length 5) (
 cI .i64 r177 0 fun n178 =>
 cS r177 1 fun s179 =>
 cI .i64 r177 2 fun n180 =>
 cL 1 r177 3 fun l181 =>
 cL 5 r177 4 fun l182 =>
 tst (decide ((l22.length + ([[.v (.int .i64 n178), .v (.string s179), .v (.int .i64 n180), hole, hole]] : Rows).length) * 80 ≤ D7)) (
 bif b176 == false then (
 U7 T k n [.b [.v (.string s174), .v (.int .i64 n175), .v (.bool (decide (((l22 ++ ([[.v (.int .i64 n178), .v (.string s179), .v (.int .i64 n180), hole, hole]] : Rows)).length : Int) > 300)))], .v (.int .i64 n10), .v (.string s11), .v (.int .i64 n12), .b [.v (.int .i64 n13), .v (.string s14), .v (.int .i64 n15), .o 1 l16, .o 5 l17], .b [.v (.int .i64 n18), .v (.string s19), .v (.int .i64 n20), .o 1 (l21 ++ ([[.v (.string s150)]] : Rows)), .o 5 (G8 (G8 (l22 ++ ([[.v (.int .i64 n178), .v (.string s179), .v (.int .i64 n180), hole, hole]] : Rows)) (0 + l22.length) 4 (.s 5 l182)) (0 + l22.length) 3 (.s 1 l181))]]) else (
 U7 T k n [.b [.v (.string s174), .v (.int .i64 n175), .v (.bool true)], .v (.int .i64 n10), .v (.string s11), .v (.int .i64 n12), .b [.v (.int .i64 n13), .v (.string s14), .v (.int .i64 n15), .o 1 l16, .o 5 l17], .b [.v (.int .i64 n18), .v (.string s19), .v (.int .i64 n20), .o 1 (l21 ++ ([[.v (.string s150)]] : Rows)), .o 5 (G8 (G8 (l22 ++ ([[.v (.int .i64 n178), .v (.string s179), .v (.int .i64 n180), hole, hole]] : Rows)) (0 + l22.length) 4 (.s 5 l182)) (0 + l22.length) 3 (.s 1 l181))]])))))))) else (
 C8 T 60 [.p [.v (.string s26), .v (.int .i64 n27), .v (.bool b28)], .d (.v (.int .i64 (IntKind.wrap .i64 (n12 - 1))))] fun o183 =>
 nth o183.back 0 fun i184 =>
 oP i184 fun r185 =>
 tst (Nat.beq r185.length 3) (
 cS r185 0 fun s186 =>
 cI .i64 r185 1 fun n187 =>
 cB r185 2 fun b188 =>
 oG o183.res fun r189 =>
 tst (Nat.beq r189.length 5) (
 cI .i64 r189 0 fun n190 =>
 cS r189 1 fun s191 =>
 cI .i64 r189 2 fun n192 =>
 cL 1 r189 3 fun l193 =>
 cL 5 r189 4 fun l194 =>
 tst (decide ((l22.length + ([[.v (.int .i64 n190), .v (.string s191), .v (.int .i64 n192), hole, hole]] : Rows).length) * 80 ≤ D7)) (
 bif b188 == false then (
 U7 T k n [.b [.v (.string s186), .v (.int .i64 n187), .v (.bool (decide (((l22 ++ ([[.v (.int .i64 n190), .v (.string s191), .v (.int .i64 n192), hole, hole]] : Rows)).length : Int) > 300)))], .v (.int .i64 n10), .v (.string s11), .v (.int .i64 n12), .b [.v (.int .i64 n13), .v (.string s14), .v (.int .i64 n15), .o 1 l16, .o 5 l17], .b [.v (.int .i64 n18), .v (.string s19), .v (.int .i64 n20), .o 1 l21, .o 5 (G8 (G8 (l22 ++ ([[.v (.int .i64 n190), .v (.string s191), .v (.int .i64 n192), hole, hole]] : Rows)) (0 + l22.length) 4 (.s 5 l194)) (0 + l22.length) 3 (.s 1 l193))]]) else (
 U7 T k n [.b [.v (.string s186), .v (.int .i64 n187), .v (.bool true)], .v (.int .i64 n10), .v (.string s11), .v (.int .i64 n12), .b [.v (.int .i64 n13), .v (.string s14), .v (.int .i64 n15), .o 1 l16, .o 5 l17], .b [.v (.int .i64 n18), .v (.string s19), .v (.int .i64 n20), .o 1 l21, .o 5 (G8 (G8 (l22 ++ ([[.v (.int .i64 n190), .v (.string s191), .v (.int .i64 n192), hole, hole]] : Rows)) (0 + l22.length) 4 (.s 5 l194)) (0 + l22.length) 3 (.s 1 l193))]]))))))) else (
 some ((.exit 0), [.b [.v (.string s26), .v (.int .i64 n27), .v (.bool b28)], .b [.v (.int .i64 n13), .v (.string s14), .v (.int .i64 n15), .o 1 l16, .o 5 l17], .b [.v (.int .i64 n18), .v (.string s19), .v (.int .i64 n20), .o 1 l21, .o 5 l22]])))) else (
 some ((.exit 0), [.b [.v (.string s7), .v (.int .i64 n8), .v (.bool b9)], .b [.v (.int .i64 n13), .v (.string s14), .v (.int .i64 n15), .o 1 l16, .o 5 l17], .b [.v (.int .i64 n18), .v (.string s19), .v (.int .i64 n20), .o 1 l21, .o 5 l22]]))) := by kernel_rfl
theorem D2j (T : Table) (k : Nat) (s1 s5 : ByteArray) (n2 n4 n6 : Int) (b3 : Bool): H9 T k a95 [.p [.v (.string s1), .v (.int .i64 n2), .v (.bool b3)], .d (.v (.int .i64 n4)), .d (.v (.string s5)), .d (.v (.int .i64 n6))] = (
 aft (U7 T k k [.b [.v (.string s1), .v (.int .i64 n2), .v (.bool b3)], .v (.int .i64 n4), .v (.string s5), .v (.int .i64 n6), .b [.v (.int .i64 0), .v (.string ByteArray.empty), .v (.int .i64 0), .o 1 [], .o 5 []], .b [.v (.int .i64 n4), .v (.string ByteArray.empty), .v (.int .i64 0), .o 1 [], .o 5 []]]) fun e195 ys196 =>
 bif e195.same (.exit 0) then (
 aV ys196 0 fun x197 =>
 aX x197 fun xs198 =>
 aV xs198 0 fun x199 =>
 aS x199 fun s200 =>
 aV xs198 1 fun x201 =>
 aI .i64 x201 fun n202 =>
 aV xs198 2 fun x203 =>
 aB x203 fun b204 =>
 aV ys196 1 fun x205 =>
 aX x205 fun xs206 =>
 aV xs206 0 fun x207 =>
 aI .i64 x207 fun n208 =>
 aV xs206 1 fun x209 =>
 aS x209 fun s210 =>
 aV xs206 2 fun x211 =>
 aI .i64 x211 fun n212 =>
 aV xs206 3 fun x213 =>
 aO 1 x213 fun l214 =>
 aV xs206 4 fun x215 =>
 aO 5 x215 fun l216 =>
 aV ys196 2 fun x217 =>
 aX x217 fun xs218 =>
 aV xs218 0 fun x219 =>
 aI .i64 x219 fun n220 =>
 aV xs218 1 fun x221 =>
 aS x221 fun s222 =>
 aV xs218 2 fun x223 =>
 aI .i64 x223 fun n224 =>
 aV xs218 3 fun x225 =>
 aO 1 x225 fun l226 =>
 aV xs218 4 fun x227 =>
 aO 5 x227 fun l228 =>
 some ⟨.g [.v (.int .i64 n220), .v (.string s222), .v (.int .i64 n224), .s 1 l226, .s 5 l228], [.p [.v (.string s200), .v (.int .i64 n202), .v (.bool b204)]]⟩) else (
 none)) := by kernel_rfl
/- loop.example/g00119/spec.l4ReadInt -/
def C8m : ACode := (
 .seq (.seq (.g [oM 8 0, oQ 9 (.call (.f 125) [.lent] false [.c (.i .u8)] [.t 8]), oQ 10 (.conv (.int .i64) (.t 9)), oQ 11 (.call (.f 21) [.rd, .rd, .rd] false [.c .b] [.t 10, .i 48, .i 57]), oM 12 11, oJ 13 12 true (.mv (.t 5)), oJ 14 12 true (.bin .lss (.t 13) (.i 19)), oQ 15 (.pick (.t 12) (.t 14) (.b false))]) (
 .cond (.t 15) (.skip) (.exit 0))) (
 .block 1 (.seq (.dreg [] [(3, oM 16 4), (3, oQ 17 (.bin .mul (.t 16) (.c (.v (.int .u64 10))))), (0, oM 18 0), (0, oQ 19 (.more (.nck (.t 18)))), (0, oF 20 0 19), (0, oW 21 .s 20), (0, oM 22 0), (0, oQ 23 (.more (.nck (.t 22)))), (0, oF 24 1 23), (0, oW 25 kI 24)] [oQ 26 (.idx (.t 21) (.t 25)), oQ 27 (.bin .sub (.t 26) (.c (.v (.int .u8 48)))), oQ 28 (.conv (.int .u64) (.t 27)), oB 29 .add 17 28, oM 4 29]) (
 .seq (.g [oM 30 0, oM 31 0, oQ 32 (.more (.nck (.t 31))), oF 33 1 32, oW 34 kI 33, oBi 35 .add 34 1, oQ 36 (.more (.nck (.t 30))), oF 37 1 36, oS (.store 1 (.t 37) (.t 35))]) (
 .g [oM 38 5, oBi 39 .add 38 1, oM 5 39])))))
def C8n : K4 := [((.exit 0), [(0, .b [.c .s, .c kI, .c .b]), (3, .c .b), (4, .c (.i .u64)), (5, .c kI)])]
noncomputable def B35 (T : Table) (k : Nat) := K7 (J5 ⟨T, [0], []⟩ k C8m (Ex × List AV)) [0, 3, 4, 5] C8n
def a96 : AFun := ⟨[.lent], false, [.t 2], (
 .seq (.g [oK 2 0]) (
 .seq (.g [oM 6 0, oQ 7 (.call (.f 93) [.lent, .rd] false [.c .b] [.t 6, .c (.v (.string ({ data := #[45] } : ByteArray)))]), oM 3 7]) (
 .seq (.g [oQ 4 (.mv (.c (.v (.int .u64 0))))]) (
 .seq (.g [oK 5 0]) (
 .seq (.block 0 (.loop [0, 3, 4, 5] C8n C8m)) (
 .seq (.g [oM 40 0, oM 41 0, oQ 42 (.more (.nck (.t 41))), oF 43 2 42, oW 44 .b 43, oM 45 44, oJ 46 45 false (.mv (.t 5)), oJ 47 45 false (.bin .eql (.t 46) (.i 0)), oQ 48 (.pick (.t 45) (.b true) (.t 47)), oM 49 48, oJ 50 49 false (.mv (.t 4)), oJ 51 49 false (.bin .gtr (.t 50) (.c (.v (.int .u64 9223372036854775808)))), oQ 52 (.pick (.t 49) (.b true) (.t 51)), oM 53 52, oJ 54 53 false (.mv (.t 3)), oJ 55 53 false (.un .not (.t 54)), oJ 56 53 false (.mv (.t 55)), oJ 57 56 true (.mv (.t 4)), oJ 58 56 true (.bin .eql (.t 57) (.c (.v (.int .u64 9223372036854775808)))), oJ 59 53 false (.pick (.t 56) (.t 58) (.b false)), oQ 60 (.pick (.t 53) (.b true) (.t 59)), oQ 61 (.more (.nck (.t 40))), oF 62 2 61, oS (.store 1 (.t 62) (.t 60))]) (
 .seq (.seq (.g [oM 63 3, oM 64 63, oJ 65 64 true (.mv (.t 4)), oJ 66 64 true (.bin .gtr (.t 65) (.c (.v (.int .u64 0)))), oQ 67 (.pick (.t 64) (.t 66) (.b false))]) (
 .cond (.t 67) (.seq (.g [oM 68 4, oQ 69 (.bin .sub (.t 68) (.c (.v (.int .u64 1)))), oQ 70 (.conv (.int .i64) (.t 69)), oQ 71 (.un .neg (.t 70)), oBi 72 .sub 71 1, oM 2 72]) (
 .ret)) (.skip))) (
 .seq (.g [oM 73 4, oQ 74 (.conv (.int .i64) (.t 73)), oM 2 74]) (
 .ret)))))))))⟩
theorem C4o (T : Table) (k n : Nat) (s12 : ByteArray) (n13 n16 n17 : Int) (b14 b15 : Bool): B35 T k (n + 1) [.b [.v (.string s12), .v (.int .i64 n13), .v (.bool b14)], .v (.bool b15), .v (.int .u64 n16), .v (.int .i64 n17)] = (
 C8 T 125 [.p [.v (.string s12), .v (.int .i64 n13), .v (.bool b14)]] fun o18 =>
 nth o18.back 0 fun i19 =>
 oP i19 fun r20 =>
 tst (Nat.beq r20.length 3) (
 cS r20 0 fun s21 =>
 cI .i64 r20 1 fun n22 =>
 cB r20 2 fun b23 =>
 oD o18.res fun d24 =>
 dI .u8 d24 fun n25 =>
 C8 T 21 [.d (.v (.int .i64 (IntKind.wrap .i64 n25))), .d (.v (.int .i64 48)), .d (.v (.int .i64 57))] fun o26 =>
 oD o26.res fun d27 =>
 dB d27 fun b28 =>
 bif b28 == true then (
 bif (decide (n17 < 19)) then (
 tst (decide (0 ≤ n22)) (
 K5 s21 (Int.toNat n22) fun c29 =>
 B35 T k n [.b [.v (.string s21), .v (.int .i64 (IntKind.wrap .i64 (n22 + 1))), .v (.bool b23)], .v (.bool b15), .v (.int .u64 (IntKind.wrap .u64 ((IntKind.wrap .u64 (n16 * 10)) + (IntKind.wrap .u64 (IntKind.wrap .u8 ((c29.toNat : Int) - 48)))))), .v (.int .i64 (IntKind.wrap .i64 (n17 + 1)))])) else (
 some ((.exit 0), [.b [.v (.string s21), .v (.int .i64 n22), .v (.bool b23)], .v (.bool b15), .v (.int .u64 n16), .v (.int .i64 n17)]))) else (
 some ((.exit 0), [.b [.v (.string s21), .v (.int .i64 n22), .v (.bool b23)], .v (.bool b15), .v (.int .u64 n16), .v (.int .i64 n17)])))) := by kernel_rfl
theorem D3x (T : Table) (k : Nat) (s1 : ByteArray) (n2 : Int) (b3 : Bool): H9 T k a96 [.p [.v (.string s1), .v (.int .i64 n2), .v (.bool b3)]] = (
 C8 T 93 [.p [.v (.string s1), .v (.int .i64 n2), .v (.bool b3)], .d (.v (.string ({ data := #[45] } : ByteArray)))] fun o4 =>
 nth o4.back 0 fun i5 =>
 oP i5 fun r6 =>
 tst (Nat.beq r6.length 3) (
 cS r6 0 fun s7 =>
 cI .i64 r6 1 fun n8 =>
 cB r6 2 fun b9 =>
 oD o4.res fun d10 =>
 dB d10 fun b11 =>
 aft (B35 T k k [.b [.v (.string s7), .v (.int .i64 n8), .v (.bool b9)], .v (.bool b11), .v (.int .u64 0), .v (.int .i64 0)]) fun e30 ys31 =>
 bif e30.same (.exit 0) then (
 aV ys31 0 fun x32 =>
 aX x32 fun xs33 =>
 aV xs33 0 fun x34 =>
 aS x34 fun s35 =>
 aV xs33 1 fun x36 =>
 aI .i64 x36 fun n37 =>
 aV xs33 2 fun x38 =>
 aB x38 fun b39 =>
 aV ys31 1 fun x40 =>
 aB x40 fun b41 =>
 aV ys31 2 fun x42 =>
 aI .u64 x42 fun n43 =>
 aV ys31 3 fun x44 =>
 aI .i64 x44 fun n45 =>
 bif b39 == false then (
 bif (n45 == 0) == false then (
 bif (decide (n43 > 9223372036854775808)) == false then (
 bif (!b41) == true then (
 bif b41 == true then (
 bif (decide (n43 > 0)) then (
 some ⟨.d (.v (.int .i64 (IntKind.wrap .i64 ((IntKind.wrap .i64 (0 - (IntKind.wrap .i64 (IntKind.wrap .u64 (n43 - 1))))) - 1)))), [.p [.v (.string s35), .v (.int .i64 n37), .v (.bool (n43 == 9223372036854775808))]]⟩) else (
 some ⟨.d (.v (.int .i64 (IntKind.wrap .i64 n43))), [.p [.v (.string s35), .v (.int .i64 n37), .v (.bool (n43 == 9223372036854775808))]]⟩)) else (
 some ⟨.d (.v (.int .i64 (IntKind.wrap .i64 n43))), [.p [.v (.string s35), .v (.int .i64 n37), .v (.bool (n43 == 9223372036854775808))]]⟩)) else (
 bif b41 == true then (
 bif (decide (n43 > 0)) then (
 some ⟨.d (.v (.int .i64 (IntKind.wrap .i64 ((IntKind.wrap .i64 (0 - (IntKind.wrap .i64 (IntKind.wrap .u64 (n43 - 1))))) - 1)))), [.p [.v (.string s35), .v (.int .i64 n37), .v (.bool false)]]⟩) else (
 some ⟨.d (.v (.int .i64 (IntKind.wrap .i64 n43))), [.p [.v (.string s35), .v (.int .i64 n37), .v (.bool false)]]⟩)) else (
 some ⟨.d (.v (.int .i64 (IntKind.wrap .i64 n43))), [.p [.v (.string s35), .v (.int .i64 n37), .v (.bool false)]]⟩))) else (
 bif b41 == true then (
 bif (decide (n43 > 0)) then (
 some ⟨.d (.v (.int .i64 (IntKind.wrap .i64 ((IntKind.wrap .i64 (0 - (IntKind.wrap .i64 (IntKind.wrap .u64 (n43 - 1))))) - 1)))), [.p [.v (.string s35), .v (.int .i64 n37), .v (.bool true)]]⟩) else (
 some ⟨.d (.v (.int .i64 (IntKind.wrap .i64 n43))), [.p [.v (.string s35), .v (.int .i64 n37), .v (.bool true)]]⟩)) else (
 some ⟨.d (.v (.int .i64 (IntKind.wrap .i64 n43))), [.p [.v (.string s35), .v (.int .i64 n37), .v (.bool true)]]⟩))) else (
 bif b41 == true then (
 bif (decide (n43 > 0)) then (
 some ⟨.d (.v (.int .i64 (IntKind.wrap .i64 ((IntKind.wrap .i64 (0 - (IntKind.wrap .i64 (IntKind.wrap .u64 (n43 - 1))))) - 1)))), [.p [.v (.string s35), .v (.int .i64 n37), .v (.bool true)]]⟩) else (
 some ⟨.d (.v (.int .i64 (IntKind.wrap .i64 n43))), [.p [.v (.string s35), .v (.int .i64 n37), .v (.bool true)]]⟩)) else (
 some ⟨.d (.v (.int .i64 (IntKind.wrap .i64 n43))), [.p [.v (.string s35), .v (.int .i64 n37), .v (.bool true)]]⟩))) else (
 bif b41 == true then (
 bif (decide (n43 > 0)) then (
 some ⟨.d (.v (.int .i64 (IntKind.wrap .i64 ((IntKind.wrap .i64 (0 - (IntKind.wrap .i64 (IntKind.wrap .u64 (n43 - 1))))) - 1)))), [.p [.v (.string s35), .v (.int .i64 n37), .v (.bool true)]]⟩) else (
 some ⟨.d (.v (.int .i64 (IntKind.wrap .i64 n43))), [.p [.v (.string s35), .v (.int .i64 n37), .v (.bool true)]]⟩)) else (
 some ⟨.d (.v (.int .i64 (IntKind.wrap .i64 n43))), [.p [.v (.string s35), .v (.int .i64 n37), .v (.bool true)]]⟩))) else (
 none))) := by kernel_rfl
/- loop.example/g00119/spec.l4Read -/
def a60 : AFun := ⟨[.lent, .rd], false, [.c 4 true [kI, .s, kI, .sl 1, .sl 5]], (
 .seq (.g [oQ 4 (.alloc [.v (.int .i64 0), .v (.string ByteArray.empty), .v (.int .i64 0), .s 1 [], .s 5 []])]) (
 .seq (.seq (.g [oM 5 1, oBi 6 .eql 5 0]) (
 .cond (.t 6) (.g [oM 7 0, oQ 8 (.more (.nck (.t 7))), oF 9 2 8, oS (.store 1 (.t 9) (.b true))]) (.skip))) (
 .seq (.block 0 (.seq (.g [oM 11 0, oQ 12 (.more (.nck (.t 11))), oF 13 2 12, oW 14 .b 13, oM 10 14]) (
 .cond (.t 10) (.seq (.g [oQ 15 (.build [.v (.int .i64 0), .v (.string ByteArray.empty), .v (.int .i64 0), .s 1 [], .s 5 []] []), oS (.store 5 (.t 4) (.t 15))]) (
 .ret)) (.seq (.g [oM 17 0, oQ 18 (.call (.f 93) [.lent, .rd] false [.c .b] [.t 17, .c (.v (.string ({ data := #[34] } : ByteArray)))]), oM 16 18]) (
 .cond (.t 16) (.seq (.g [oM 19 0, oQ 20 (.call (.f 94) [.lent] false [.c .s] [.t 19]), oQ 21 (.build [.v (.int .i64 0), .v (.string ByteArray.empty), .v (.int .i64 0), .s 1 [], .s 5 []] [(0, 1, (.i 1)), (1, 1, (.t 20))]), oS (.store 5 (.t 4) (.t 21))]) (
 .ret)) (.seq (.g [oM 23 0, oQ 24 (.call (.f 93) [.lent, .rd] false [.c .b] [.t 23, .c (.v (.string ({ data := #[116, 114, 117, 101] } : ByteArray)))]), oM 22 24]) (
 .cond (.t 22) (.seq (.g [oQ 25 (.build [.v (.int .i64 0), .v (.string ByteArray.empty), .v (.int .i64 0), .s 1 [], .s 5 []] [(0, 1, (.i 3)), (2, 1, (.i 1))]), oS (.store 5 (.t 4) (.t 25))]) (
 .ret)) (.seq (.g [oM 27 0, oQ 28 (.call (.f 93) [.lent, .rd] false [.c .b] [.t 27, .c (.v (.string ({ data := #[102, 97, 108, 115, 101] } : ByteArray)))]), oM 26 28]) (
 .cond (.t 26) (.seq (.g [oQ 29 (.build [.v (.int .i64 0), .v (.string ByteArray.empty), .v (.int .i64 0), .s 1 [], .s 5 []] [(0, 1, (.i 3))]), oS (.store 5 (.t 4) (.t 29))]) (
 .ret)) (.seq (.g [oM 31 0, oQ 32 (.call (.f 93) [.lent, .rd] false [.c .b] [.t 31, .c (.v (.string ({ data := #[91] } : ByteArray)))]), oM 30 32]) (
 .cond (.t 30) (.seq (.g [oM 33 0, oM 34 1, oQ 35 (.call (.f 95) [.lent, .rd, .rd, .rd] false [.g [kI, .s, kI, .sl 1, .sl 5]] [.t 33, .i 4, .c (.v (.string ({ data := #[93] } : ByteArray))), .t 34]), oS (.store 5 (.t 4) (.t 35))]) (
 .ret)) (.seq (.g [oM 37 0, oQ 38 (.call (.f 93) [.lent, .rd] false [.c .b] [.t 37, .c (.v (.string ({ data := #[123] } : ByteArray)))]), oM 36 38]) (
 .cond (.t 36) (.seq (.g [oM 39 0, oM 40 1, oQ 41 (.call (.f 95) [.lent, .rd, .rd, .rd] false [.g [kI, .s, kI, .sl 1, .sl 5]] [.t 39, .i 5, .c (.v (.string ({ data := #[125] } : ByteArray))), .t 40]), oS (.store 5 (.t 4) (.t 41))]) (
 .ret)) (.skip)))))))))))))) (
 .seq (.g [oM 42 0, oQ 43 (.call (.f 96) [.lent] false [.c kI] [.t 42]), oQ 44 (.build [.v (.int .i64 0), .v (.string ByteArray.empty), .v (.int .i64 0), .s 1 [], .s 5 []] [(0, 1, (.i 2)), (2, 1, (.t 43))]), oS (.store 5 (.t 4) (.t 44))]) (
 .ret)))))⟩
theorem D2k (T : Table) (k : Nat) (s1 : ByteArray) (n2 n4 : Int) (b3 : Bool): H9 T k a60 [.p [.v (.string s1), .v (.int .i64 n2), .v (.bool b3)], .d (.v (.int .i64 n4))] = (
 bif (n4 == 0) then (
 some ⟨.g [.v (.int .i64 0), .v (.string ByteArray.empty), .v (.int .i64 0), .s 1 [], .s 5 []], [.p [.v (.string s1), .v (.int .i64 n2), .v (.bool true)]]⟩) else (
 bif b3 then (
 some ⟨.g [.v (.int .i64 0), .v (.string ByteArray.empty), .v (.int .i64 0), .s 1 [], .s 5 []], [.p [.v (.string s1), .v (.int .i64 n2), .v (.bool b3)]]⟩) else (
 C8 T 93 [.p [.v (.string s1), .v (.int .i64 n2), .v (.bool b3)], .d (.v (.string ({ data := #[34] } : ByteArray)))] fun o5 =>
 nth o5.back 0 fun i6 =>
 oP i6 fun r7 =>
 tst (Nat.beq r7.length 3) (
 cS r7 0 fun s8 =>
 cI .i64 r7 1 fun n9 =>
 cB r7 2 fun b10 =>
 oD o5.res fun d11 =>
 dB d11 fun b12 =>
 bif b12 then (
 C8 T 94 [.p [.v (.string s8), .v (.int .i64 n9), .v (.bool b10)]] fun o13 =>
 nth o13.back 0 fun i14 =>
 oP i14 fun r15 =>
 tst (Nat.beq r15.length 3) (
 cS r15 0 fun s16 =>
 cI .i64 r15 1 fun n17 =>
 cB r15 2 fun b18 =>
 oD o13.res fun d19 =>
 dS d19 fun s20 =>
 some ⟨.g [.v (.int .i64 1), .v (.string s20), .v (.int .i64 0), .s 1 [], .s 5 []], [.p [.v (.string s16), .v (.int .i64 n17), .v (.bool b18)]]⟩)) else (
 C8 T 93 [.p [.v (.string s8), .v (.int .i64 n9), .v (.bool b10)], .d (.v (.string ({ data := #[116, 114, 117, 101] } : ByteArray)))] fun o21 =>
 nth o21.back 0 fun i22 =>
 oP i22 fun r23 =>
 tst (Nat.beq r23.length 3) (
 cS r23 0 fun s24 =>
 cI .i64 r23 1 fun n25 =>
 cB r23 2 fun b26 =>
 oD o21.res fun d27 =>
 dB d27 fun b28 =>
 bif b28 then (
 some ⟨.g [.v (.int .i64 3), .v (.string ByteArray.empty), .v (.int .i64 1), .s 1 [], .s 5 []], [.p [.v (.string s24), .v (.int .i64 n25), .v (.bool b26)]]⟩) else (
 C8 T 93 [.p [.v (.string s24), .v (.int .i64 n25), .v (.bool b26)], .d (.v (.string ({ data := #[102, 97, 108, 115, 101] } : ByteArray)))] fun o29 =>
 nth o29.back 0 fun i30 =>
 oP i30 fun r31 =>
 tst (Nat.beq r31.length 3) (
 cS r31 0 fun s32 =>
 cI .i64 r31 1 fun n33 =>
 cB r31 2 fun b34 =>
 oD o29.res fun d35 =>
 dB d35 fun b36 =>
 bif b36 then (
 some ⟨.g [.v (.int .i64 3), .v (.string ByteArray.empty), .v (.int .i64 0), .s 1 [], .s 5 []], [.p [.v (.string s32), .v (.int .i64 n33), .v (.bool b34)]]⟩) else (
 C8 T 93 [.p [.v (.string s32), .v (.int .i64 n33), .v (.bool b34)], .d (.v (.string ({ data := #[91] } : ByteArray)))] fun o37 =>
 nth o37.back 0 fun i38 =>
 oP i38 fun r39 =>
 tst (Nat.beq r39.length 3) (
 cS r39 0 fun s40 =>
 cI .i64 r39 1 fun n41 =>
 cB r39 2 fun b42 =>
 oD o37.res fun d43 =>
 dB d43 fun b44 =>
 bif b44 then (
 C8 T 95 [.p [.v (.string s40), .v (.int .i64 n41), .v (.bool b42)], .d (.v (.int .i64 4)), .d (.v (.string ({ data := #[93] } : ByteArray))), .d (.v (.int .i64 n4))] fun o45 =>
 nth o45.back 0 fun i46 =>
 oP i46 fun r47 =>
 tst (Nat.beq r47.length 3) (
 cS r47 0 fun s48 =>
 cI .i64 r47 1 fun n49 =>
 cB r47 2 fun b50 =>
 oG o45.res fun r51 =>
 tst (Nat.beq r51.length 5) (
 cI .i64 r51 0 fun n52 =>
 cS r51 1 fun s53 =>
 cI .i64 r51 2 fun n54 =>
 cL 1 r51 3 fun l55 =>
 cL 5 r51 4 fun l56 =>
 some ⟨.g [.v (.int .i64 n52), .v (.string s53), .v (.int .i64 n54), .s 1 l55, .s 5 l56], [.p [.v (.string s48), .v (.int .i64 n49), .v (.bool b50)]]⟩))) else (
 C8 T 93 [.p [.v (.string s40), .v (.int .i64 n41), .v (.bool b42)], .d (.v (.string ({ data := #[123] } : ByteArray)))] fun o57 =>
 nth o57.back 0 fun i58 =>
 oP i58 fun r59 =>
 tst (Nat.beq r59.length 3) (
 cS r59 0 fun s60 =>
 cI .i64 r59 1 fun n61 =>
 cB r59 2 fun b62 =>
 oD o57.res fun d63 =>
 dB d63 fun b64 =>
 bif b64 then (
 C8 T 95 [.p [.v (.string s60), .v (.int .i64 n61), .v (.bool b62)], .d (.v (.int .i64 5)), .d (.v (.string ({ data := #[125] } : ByteArray))), .d (.v (.int .i64 n4))] fun o65 =>
 nth o65.back 0 fun i66 =>
 oP i66 fun r67 =>
 tst (Nat.beq r67.length 3) (
 cS r67 0 fun s68 =>
 cI .i64 r67 1 fun n69 =>
 cB r67 2 fun b70 =>
 oG o65.res fun r71 =>
 tst (Nat.beq r71.length 5) (
 cI .i64 r71 0 fun n72 =>
 cS r71 1 fun s73 =>
 cI .i64 r71 2 fun n74 =>
 cL 1 r71 3 fun l75 =>
 cL 5 r71 4 fun l76 =>
 some ⟨.g [.v (.int .i64 n72), .v (.string s73), .v (.int .i64 n74), .s 1 l75, .s 5 l76], [.p [.v (.string s68), .v (.int .i64 n69), .v (.bool b70)]]⟩))) else (
 C8 T 96 [.p [.v (.string s60), .v (.int .i64 n61), .v (.bool b62)]] fun o77 =>
 nth o77.back 0 fun i78 =>
 oP i78 fun r79 =>
 tst (Nat.beq r79.length 3) (
 cS r79 0 fun s80 =>
 cI .i64 r79 1 fun n81 =>
 cB r79 2 fun b82 =>
 oD o77.res fun d83 =>
 dI .i64 d83 fun n84 =>
 some ⟨.g [.v (.int .i64 2), .v (.string ByteArray.empty), .v (.int .i64 n84), .s 1 [], .s 5 []], [.p [.v (.string s80), .v (.int .i64 n81), .v (.bool b82)]]⟩)))))))))))))) := by kernel_rfl
/- loop.example/g00119/spec.l4Quoted -/
def C8o : ACode := (
 .seq (.seq (.g [oM 6 4, oM 7 0, oQ 8 (.len true (.t 7)), oB 9 .lss 6 8]) (
 .cond (.t 9) (.skip) (.exit 0))) (
 .seq (.block 1 (.seq (.seq (.g [oM 12 0, oM 13 4, oQ 14 (.idx (.t 12) (.t 13)), oQ 15 (.bin .eql (.t 14) (.c (.v (.int .u8 34)))), oM 16 15, oJ 17 16 false (.mv (.t 0)), oJ 18 16 false (.mv (.t 4)), oJ 19 16 false (.idx (.t 17) (.t 18)), oJ 20 16 false (.bin .eql (.t 19) (.c (.v (.int .u8 92)))), oQ 21 (.pick (.t 16) (.b true) (.t 20))]) (
 .cond (.t 21) (.g [oM 22 3, oQ 23 (.lit 1 ([[.v (.int .u8 0)]] : Rows) [(0, (.c (.v (.int .u8 92))))]), oQ 24 (.app 1 1 (.t 22) (.t 23)), oM 3 24]) (.skip))) (
 .g [oM 25 3, oM 26 0, oM 27 4, oQ 28 (.idx (.t 26) (.t 27)), oQ 29 (.lit 1 ([[.v (.int .u8 0)]] : Rows) [(0, (.t 28))]), oQ 30 (.app 1 1 (.t 25) (.t 29)), oM 3 30]))) (
 .g [oM 10 4, oBi 11 .add 10 1, oM 4 11])))
def C8p : K4 := [((.exit 0), [(3, .o 1)])]
noncomputable def A7u (T : Table) (k : Nat) := K7 (J5 ⟨T, [], []⟩ k C8o (Ex × List AV)) [0, 3, 4] C8p
def a97 : AFun := ⟨[.rd], false, [.t 2], (
 .seq (.g [oQ 2 (.mv (.c (.v (.string ({ data := #[] } : ByteArray)))))]) (
 .seq (.g [oQ 5 (.lit 1 ([[.v (.int .u8 0)]] : Rows) [(0, (.c (.v (.int .u8 34))))]), oM 3 5]) (
 .seq (.seq (.g [oK 4 0]) (
 .block 0 (.loop [0, 3, 4] C8p C8o))) (
 .seq (.g [oM 31 3, oQ 32 (.lit 1 ([[.v (.int .u8 0)]] : Rows) [(0, (.c (.v (.int .u8 34))))]), oQ 33 (.app 1 1 (.t 31) (.t 32)), oQ 34 (.conv .bytesStr (.t 33)), oM 2 34]) (
 .ret)))))⟩
theorem C4p (T : Table) (k n : Nat) (s2 : ByteArray) (l3 : Rows) (n4 : Int): A7u T k (n + 1) [.v (.string s2), .o 1 l3, .v (.int .i64 n4)] = (
 bif (decide (n4 < (s2.size : Int))) then (
 tst (decide (0 ≤ n4)) (
 K5 s2 (Int.toNat n4) fun c5 =>
 bif ((c5.toNat : Int) == 34) == false then (
 tst (decide (0 ≤ n4)) (
 K5 s2 (Int.toNat n4) fun c6 =>
 bif ((c6.toNat : Int) == 92) then (
 tst (decide ((l3.length + ([[.v (.int .u8 92)]] : Rows).length) * 1 ≤ D7)) (
 tst (decide (0 ≤ n4)) (
 K5 s2 (Int.toNat n4) fun c7 =>
 tst (decide (((l3 ++ ([[.v (.int .u8 92)]] : Rows)).length + ([[.v (.int .u8 (c7.toNat : Int))]] : Rows).length) * 1 ≤ D7)) (
 A7u T k n [.v (.string s2), .o 1 ((l3 ++ ([[.v (.int .u8 92)]] : Rows)) ++ ([[.v (.int .u8 (c7.toNat : Int))]] : Rows)), .v (.int .i64 (IntKind.wrap .i64 (n4 + 1)))])))) else (
 tst (decide (0 ≤ n4)) (
 K5 s2 (Int.toNat n4) fun c8 =>
 tst (decide ((l3.length + ([[.v (.int .u8 (c8.toNat : Int))]] : Rows).length) * 1 ≤ D7)) (
 A7u T k n [.v (.string s2), .o 1 (l3 ++ ([[.v (.int .u8 (c8.toNat : Int))]] : Rows)), .v (.int .i64 (IntKind.wrap .i64 (n4 + 1)))]))))) else (
 tst (decide ((l3.length + ([[.v (.int .u8 92)]] : Rows).length) * 1 ≤ D7)) (
 tst (decide (0 ≤ n4)) (
 K5 s2 (Int.toNat n4) fun c9 =>
 tst (decide (((l3 ++ ([[.v (.int .u8 92)]] : Rows)).length + ([[.v (.int .u8 (c9.toNat : Int))]] : Rows).length) * 1 ≤ D7)) (
 A7u T k n [.v (.string s2), .o 1 ((l3 ++ ([[.v (.int .u8 92)]] : Rows)) ++ ([[.v (.int .u8 (c9.toNat : Int))]] : Rows)), .v (.int .i64 (IntKind.wrap .i64 (n4 + 1)))])))))) else (
 some ((.exit 0), [.o 1 l3]))) := by kernel_rfl
theorem D3y (T : Table) (k : Nat) (s1 : ByteArray): H9 T k a97 [.d (.v (.string s1))] = (
 aft (A7u T k k [.v (.string s1), .o 1 ([[.v (.int .u8 34)]] : Rows), .v (.int .i64 0)]) fun e10 ys11 =>
 bif e10.same (.exit 0) then (
 aV ys11 0 fun x12 =>
 aO 1 x12 fun l13 =>
 tst (decide ((l13.length + ([[.v (.int .u8 34)]] : Rows).length) * 1 ≤ D7)) (
 tst (P7 (l13 ++ ([[.v (.int .u8 34)]] : Rows))) (
 some ⟨.d (.v (.string (H7 (l13 ++ ([[.v (.int .u8 34)]] : Rows))))), []⟩))) else (
 none)) := by kernel_rfl
/- loop.example/g00119/spec.l4Int -/
def C8q : ACode := (
 .seq (.seq (.g [oM 15 3, oQ 16 (.bin .geq (.t 15) (.c (.v (.int .u64 10))))]) (
 .cond (.t 16) (.skip) (.exit 0))) (
 .block 1 (.seq (.g [oM 17 3, oQ 18 (.bin .rem (.t 17) (.c (.v (.int .u64 10)))), oQ 19 (.bin .add (.c (.v (.int .u64 48))) (.t 18)), oQ 20 (.conv (.int .u8) (.t 19)), oQ 21 (.lit 1 ([[.v (.int .u8 0)]] : Rows) [(0, (.t 20))]), oQ 22 (.conv .bytesStr (.t 21)), oM 23 5, oB 24 .add 22 23, oM 5 24]) (
 .g [oM 25 3, oQ 26 (.bin .quo (.t 25) (.c (.v (.int .u64 10)))), oM 3 26]))))
def C8r : K4 := [((.exit 0), [(3, .c (.i .u64)), (4, .c .s), (5, .c .s)])]
noncomputable def B1h (T : Table) (k : Nat) := K7 (J5 ⟨T, [], []⟩ k C8q (Ex × List AV)) [3, 4, 5] C8r
def a98 : AFun := ⟨[.rd], false, [.t 2], (
 .seq (.g [oQ 2 (.mv (.c (.v (.string ({ data := #[] } : ByteArray)))))]) (
 .seq (.g [oM 6 0, oQ 7 (.conv (.int .u64) (.t 6)), oM 3 7]) (
 .seq (.g [oQ 4 (.mv (.c (.v (.string ({ data := #[] } : ByteArray)))))]) (
 .seq (.seq (.g [oM 8 0, oBi 9 .lss 8 0]) (
 .cond (.t 9) (.seq (.g [oM 10 0, oBi 11 .add 10 1, oQ 12 (.un .neg (.t 11)), oQ 13 (.conv (.int .u64) (.t 12)), oQ 14 (.bin .add (.t 13) (.c (.v (.int .u64 1)))), oM 3 14]) (
 .g [oQ 4 (.mv (.c (.v (.string ({ data := #[45] } : ByteArray)))))])) (.skip))) (
 .seq (.g [oQ 5 (.mv (.c (.v (.string ({ data := #[] } : ByteArray)))))]) (
 .seq (.block 0 (.loop [3, 4, 5] C8r C8q)) (
 .seq (.g [oM 27 4, oM 28 3, oQ 29 (.bin .add (.c (.v (.int .u64 48))) (.t 28)), oQ 30 (.conv (.int .u8) (.t 29)), oQ 31 (.lit 1 ([[.v (.int .u8 0)]] : Rows) [(0, (.t 30))]), oQ 32 (.conv .bytesStr (.t 31)), oB 33 .add 27 32, oM 34 5, oB 35 .add 33 34, oM 2 35]) (
 .ret))))))))⟩
theorem B90 (T : Table) (k n : Nat) (n2 : Int) (s3 s4 : ByteArray): B1h T k (n + 1) [.v (.int .u64 n2), .v (.string s3), .v (.string s4)] = (
 bif (decide (n2 ≥ 10)) then (
 tst (decide (10 ≠ 0)) (
 tst (P7 ([[.v (.int .u8 (IntKind.wrap .u8 (IntKind.wrap .u64 (48 + (Int.tmod n2 10)))))]] : Rows)) (
 tst (decide ((H7 ([[.v (.int .u8 (IntKind.wrap .u8 (IntKind.wrap .u64 (48 + (Int.tmod n2 10)))))]] : Rows)).size + s4.size ≤ maxLen)) (
 tst (decide (10 ≠ 0)) (
 B1h T k n [.v (.int .u64 (IntKind.wrap .u64 (Int.tdiv n2 10))), .v (.string s3), .v (.string ((H7 ([[.v (.int .u8 (IntKind.wrap .u8 (IntKind.wrap .u64 (48 + (Int.tmod n2 10)))))]] : Rows)) ++ s4))]))))) else (
 some ((.exit 0), [.v (.int .u64 n2), .v (.string s3), .v (.string s4)]))) := by kernel_rfl
theorem D3z (T : Table) (k : Nat) (n1 : Int): H9 T k a98 [.d (.v (.int .i64 n1))] = (
 bif (decide (n1 < 0)) then (
 aft (B1h T k k [.v (.int .u64 (IntKind.wrap .u64 ((IntKind.wrap .u64 (IntKind.wrap .i64 (0 - (IntKind.wrap .i64 (n1 + 1))))) + 1))), .v (.string ({ data := #[45] } : ByteArray)), .v (.string ({ data := #[] } : ByteArray))]) fun e5 ys6 =>
 bif e5.same (.exit 0) then (
 aV ys6 0 fun x7 =>
 aI .u64 x7 fun n8 =>
 aV ys6 1 fun x9 =>
 aS x9 fun s10 =>
 aV ys6 2 fun x11 =>
 aS x11 fun s12 =>
 tst (P7 ([[.v (.int .u8 (IntKind.wrap .u8 (IntKind.wrap .u64 (48 + n8))))]] : Rows)) (
 tst (decide (s10.size + (H7 ([[.v (.int .u8 (IntKind.wrap .u8 (IntKind.wrap .u64 (48 + n8))))]] : Rows)).size ≤ maxLen)) (
 tst (decide ((s10 ++ (H7 ([[.v (.int .u8 (IntKind.wrap .u8 (IntKind.wrap .u64 (48 + n8))))]] : Rows))).size + s12.size ≤ maxLen)) (
 some ⟨.d (.v (.string ((s10 ++ (H7 ([[.v (.int .u8 (IntKind.wrap .u8 (IntKind.wrap .u64 (48 + n8))))]] : Rows))) ++ s12))), []⟩)))) else (
 none)) else (
 aft (B1h T k k [.v (.int .u64 (IntKind.wrap .u64 n1)), .v (.string ({ data := #[] } : ByteArray)), .v (.string ({ data := #[] } : ByteArray))]) fun e13 ys14 =>
 bif e13.same (.exit 0) then (
 aV ys14 0 fun x15 =>
 aI .u64 x15 fun n16 =>
 aV ys14 1 fun x17 =>
 aS x17 fun s18 =>
 aV ys14 2 fun x19 =>
 aS x19 fun s20 =>
 tst (P7 ([[.v (.int .u8 (IntKind.wrap .u8 (IntKind.wrap .u64 (48 + n16))))]] : Rows)) (
 tst (decide (s18.size + (H7 ([[.v (.int .u8 (IntKind.wrap .u8 (IntKind.wrap .u64 (48 + n16))))]] : Rows)).size ≤ maxLen)) (
 tst (decide ((s18 ++ (H7 ([[.v (.int .u8 (IntKind.wrap .u8 (IntKind.wrap .u64 (48 + n16))))]] : Rows))).size + s20.size ≤ maxLen)) (
 some ⟨.d (.v (.string ((s18 ++ (H7 ([[.v (.int .u8 (IntKind.wrap .u8 (IntKind.wrap .u64 (48 + n16))))]] : Rows))) ++ s20))), []⟩)))) else (
 none))) := by kernel_rfl
/- loop.example/g00119/spec.l4Print -/
def C8s : ACode := (
 .seq (.seq (.g [oM 26 5, oF 27 4 1, oW 28 (.sl 5) 27, oZ 29 28, oB 30 .lss 26 29]) (
 .cond (.t 30) (.skip) (.exit 1))) (
 .seq (.block 2 (.seq (.seq (.g [oM 33 5, oBi 34 .gtr 33 0]) (
 .cond (.t 34) (.g [oM 35 3, oQ 36 (.bin .add (.t 35) (.c (.v (.string ({ data := #[44] } : ByteArray))))), oM 3 36]) (.skip))) (
 .seq (.seq (.g [oF 37 0 1, oW 38 kI 37, oBi 39 .eql 38 5]) (
 .cond (.t 39) (.g [oM 40 3, oF 41 3 1, oW 42 (.sl 1) 41, oM 43 5, oI 44 1 42 43, oW 45 .s 44, oB 46 .add 40 45, oQ 47 (.bin .add (.t 46) (.c (.v (.string ({ data := #[58] } : ByteArray))))), oM 3 47]) (.skip))) (
 .g [oM 48 3, oF 49 4 1, oW 50 (.sl 5) 49, oM 51 5, oI 52 5 50 51, oL 53 [kI, .s, kI, .sl 1, .sl 5] 52, oC 54 61 [.c .s] [53], oB 55 .add 48 54, oM 3 55])))) (
 .g [oM 31 5, oBi 32 .add 31 1, oM 5 32])))
def C8t : K4 := [((.exit 1), [(3, .c .s), (4, .c .s)])]
noncomputable def A6a (T : Table) (k : Nat) := K7 (J5 ⟨T, [], []⟩ k C8s (Ex × List AV)) [1, 3, 4, 5] C8t
def a61 : AFun := ⟨[.rd], false, [.t 2], (
 .seq (.g [oQ 1 (.box (.t 0)), oQ 2 (.mv (.c (.v (.string ({ data := #[] } : ByteArray)))))]) (
 .seq (.seq (.g [oF 6 0 1, oW 7 kI 6]) (
 .block 0 (.seq (.g [oBi 9 .eql 7 1, oM 8 9]) (
 .cond (.t 8) (.seq (.g [oF 10 1 1, oW 11 .s 10, oC 12 97 [.c .s] [11], oM 2 12]) (
 .ret)) (.seq (.g [oBi 14 .eql 7 2, oM 13 14]) (
 .cond (.t 13) (.seq (.g [oF 15 2 1, oW 16 kI 15, oC 17 98 [.c .s] [16], oM 2 17]) (
 .ret)) (.seq (.g [oBi 19 .eql 7 3, oM 18 19]) (
 .cond (.t 18) (.seq (.seq (.g [oF 20 2 1, oW 21 kI 20, oBi 22 .eql 21 1]) (
 .cond (.t 22) (.seq (.g [oQ 2 (.mv (.c (.v (.string ({ data := #[116, 114, 117, 101] } : ByteArray)))))]) (
 .ret)) (.skip))) (
 .seq (.g [oQ 2 (.mv (.c (.v (.string ({ data := #[102, 97, 108, 115, 101] } : ByteArray)))))]) (
 .ret))) (.skip))))))))) (
 .seq (.g [oQ 3 (.mv (.c (.v (.string ({ data := #[91] } : ByteArray)))))]) (
 .seq (.g [oQ 4 (.mv (.c (.v (.string ({ data := #[93] } : ByteArray)))))]) (
 .seq (.seq (.g [oF 23 0 1, oW 24 kI 23, oBi 25 .eql 24 5]) (
 .cond (.t 25) (.seq (.g [oQ 3 (.mv (.c (.v (.string ({ data := #[123] } : ByteArray)))))]) (
 .g [oQ 4 (.mv (.c (.v (.string ({ data := #[125] } : ByteArray)))))])) (.skip))) (
 .seq (.seq (.g [oK 5 0]) (
 .block 1 (.loop [1, 3, 4, 5] C8t C8s))) (
 .seq (.g [oM 56 3, oM 57 4, oB 58 .add 56 57, oM 2 58]) (
 .ret))))))))⟩
theorem C4q (T : Table) (k n : Nat) (n12 n14 n19 : Int) (s13 s17 s18 : ByteArray) (l15 l16 : Rows): A6a T k (n + 1) [.b [.v (.int .i64 n12), .v (.string s13), .v (.int .i64 n14), .fz 1 l15, .fz 5 l16], .v (.string s17), .v (.string s18), .v (.int .i64 n19)] = (
 bif (decide (n19 < (l16.length : Int))) then (
 bif (decide (n19 > 0)) then (
 tst (decide (s17.size + ({ data := #[44] } : ByteArray).size ≤ maxLen)) (
 bif (n12 == 5) then (
 tst (decide (0 ≤ n19)) (
 look l15 (Int.toNat n19) fun r20 =>
 cS r20 0 fun s21 =>
 tst (decide ((s17 ++ ({ data := #[44] } : ByteArray)).size + s21.size ≤ maxLen)) (
 tst (decide (((s17 ++ ({ data := #[44] } : ByteArray)) ++ s21).size + ({ data := #[58] } : ByteArray).size ≤ maxLen)) (
 tst (decide (0 ≤ n19)) (
 look l16 (Int.toNat n19) fun r22 =>
 cI .i64 r22 0 fun n23 =>
 cS r22 1 fun s24 =>
 cI .i64 r22 2 fun n25 =>
 cL 1 r22 3 fun l26 =>
 cL 5 r22 4 fun l27 =>
 C8 T 61 [.g [.v (.int .i64 n23), .v (.string s24), .v (.int .i64 n25), .s 1 l26, .s 5 l27]] fun o28 =>
 oD o28.res fun d29 =>
 dS d29 fun s30 =>
 tst (decide ((((s17 ++ ({ data := #[44] } : ByteArray)) ++ s21) ++ ({ data := #[58] } : ByteArray)).size + s30.size ≤ maxLen)) (
 A6a T k n [.b [.v (.int .i64 n12), .v (.string s13), .v (.int .i64 n14), .fz 1 l15, .fz 5 l16], .v (.string ((((s17 ++ ({ data := #[44] } : ByteArray)) ++ s21) ++ ({ data := #[58] } : ByteArray)) ++ s30)), .v (.string s18), .v (.int .i64 (IntKind.wrap .i64 (n19 + 1)))])))))) else (
 tst (decide (0 ≤ n19)) (
 look l16 (Int.toNat n19) fun r31 =>
 cI .i64 r31 0 fun n32 =>
 cS r31 1 fun s33 =>
 cI .i64 r31 2 fun n34 =>
 cL 1 r31 3 fun l35 =>
 cL 5 r31 4 fun l36 =>
 C8 T 61 [.g [.v (.int .i64 n32), .v (.string s33), .v (.int .i64 n34), .s 1 l35, .s 5 l36]] fun o37 =>
 oD o37.res fun d38 =>
 dS d38 fun s39 =>
 tst (decide ((s17 ++ ({ data := #[44] } : ByteArray)).size + s39.size ≤ maxLen)) (
 A6a T k n [.b [.v (.int .i64 n12), .v (.string s13), .v (.int .i64 n14), .fz 1 l15, .fz 5 l16], .v (.string ((s17 ++ ({ data := #[44] } : ByteArray)) ++ s39)), .v (.string s18), .v (.int .i64 (IntKind.wrap .i64 (n19 + 1)))]))))) else (
 bif (n12 == 5) then (
 tst (decide (0 ≤ n19)) (
 look l15 (Int.toNat n19) fun r40 =>
 cS r40 0 fun s41 =>
 tst (decide (s17.size + s41.size ≤ maxLen)) (
 tst (decide ((s17 ++ s41).size + ({ data := #[58] } : ByteArray).size ≤ maxLen)) (
 tst (decide (0 ≤ n19)) (
 look l16 (Int.toNat n19) fun r42 =>
 cI .i64 r42 0 fun n43 =>
 cS r42 1 fun s44 =>
 cI .i64 r42 2 fun n45 =>
 cL 1 r42 3 fun l46 =>
 cL 5 r42 4 fun l47 =>
 C8 T 61 [.g [.v (.int .i64 n43), .v (.string s44), .v (.int .i64 n45), .s 1 l46, .s 5 l47]] fun o48 =>
 oD o48.res fun d49 =>
 dS d49 fun s50 =>
 tst (decide (((s17 ++ s41) ++ ({ data := #[58] } : ByteArray)).size + s50.size ≤ maxLen)) (
 A6a T k n [.b [.v (.int .i64 n12), .v (.string s13), .v (.int .i64 n14), .fz 1 l15, .fz 5 l16], .v (.string (((s17 ++ s41) ++ ({ data := #[58] } : ByteArray)) ++ s50)), .v (.string s18), .v (.int .i64 (IntKind.wrap .i64 (n19 + 1)))])))))) else (
 tst (decide (0 ≤ n19)) (
 look l16 (Int.toNat n19) fun r51 =>
 cI .i64 r51 0 fun n52 =>
 cS r51 1 fun s53 =>
 cI .i64 r51 2 fun n54 =>
 cL 1 r51 3 fun l55 =>
 cL 5 r51 4 fun l56 =>
 C8 T 61 [.g [.v (.int .i64 n52), .v (.string s53), .v (.int .i64 n54), .s 1 l55, .s 5 l56]] fun o57 =>
 oD o57.res fun d58 =>
 dS d58 fun s59 =>
 tst (decide (s17.size + s59.size ≤ maxLen)) (
 A6a T k n [.b [.v (.int .i64 n12), .v (.string s13), .v (.int .i64 n14), .fz 1 l15, .fz 5 l16], .v (.string (s17 ++ s59)), .v (.string s18), .v (.int .i64 (IntKind.wrap .i64 (n19 + 1)))]))))) else (
 some ((.exit 1), [.v (.string s17), .v (.string s18)]))) := by kernel_rfl
theorem D40 (T : Table) (k : Nat) (n1 n3 : Int) (s2 : ByteArray) (l4 l5 : Rows): H9 T k a61 [.g [.v (.int .i64 n1), .v (.string s2), .v (.int .i64 n3), .s 1 l4, .s 5 l5]] = (
 bif (n1 == 1) then (
 C8 T 97 [.d (.v (.string s2))] fun o6 =>
 oD o6.res fun d7 =>
 dS d7 fun s8 =>
 some ⟨.d (.v (.string s8)), []⟩) else (
 bif (n1 == 2) then (
 C8 T 98 [.d (.v (.int .i64 n3))] fun o9 =>
 oD o9.res fun d10 =>
 dS d10 fun s11 =>
 some ⟨.d (.v (.string s11)), []⟩) else (
 bif (n1 == 3) then (
 bif (n3 == 1) then (
 some ⟨.d (.v (.string ({ data := #[116, 114, 117, 101] } : ByteArray))), []⟩) else (
 some ⟨.d (.v (.string ({ data := #[102, 97, 108, 115, 101] } : ByteArray))), []⟩)) else (
 bif (n1 == 5) then (
 aft (A6a T k k [.b [.v (.int .i64 n1), .v (.string s2), .v (.int .i64 n3), .fz 1 l4, .fz 5 l5], .v (.string ({ data := #[123] } : ByteArray)), .v (.string ({ data := #[125] } : ByteArray)), .v (.int .i64 0)]) fun e60 ys61 =>
 bif e60.same (.exit 1) then (
 aV ys61 0 fun x62 =>
 aS x62 fun s63 =>
 aV ys61 1 fun x64 =>
 aS x64 fun s65 =>
 tst (decide (s63.size + s65.size ≤ maxLen)) (
 some ⟨.d (.v (.string (s63 ++ s65))), []⟩)) else (
 none)) else (
 aft (A6a T k k [.b [.v (.int .i64 n1), .v (.string s2), .v (.int .i64 n3), .fz 1 l4, .fz 5 l5], .v (.string ({ data := #[91] } : ByteArray)), .v (.string ({ data := #[93] } : ByteArray)), .v (.int .i64 0)]) fun e66 ys67 =>
 bif e66.same (.exit 1) then (
 aV ys67 0 fun x68 =>
 aS x68 fun s69 =>
 aV ys67 1 fun x70 =>
 aS x70 fun s71 =>
 tst (decide (s69.size + s71.size ≤ maxLen)) (
 some ⟨.d (.v (.string (s69 ++ s71))), []⟩)) else (
 none)))))) := by kernel_rfl
/- loop.example/g00119/spec.ParseValue -/
def a35 : AFun := ⟨[.rd], false, [.c 2 true [kI, .s, kI, .sl 1, .sl 5], .t 3], (
 .seq (.g [oQ 2 (.alloc [.v (.int .i64 0), .v (.string ByteArray.empty), .v (.int .i64 0), .s 1 [], .s 5 []]), oV 3 false]) (
 .seq (.g [oM 6 0, oQ 7 (.build [.v (.string ByteArray.empty), .v (.int .i64 0), .v (.bool false)] [(0, 1, (.t 6))]), oQ 8 (.box (.t 7)), oM 4 8]) (
 .seq (.g [oM 9 4, oQ 10 (.call (.f 60) [.lent, .rd] false [.g [kI, .s, kI, .sl 1, .sl 5]] [.t 9, .i 6]), oQ 5 (.alloc [.v (.int .i64 0), .v (.string ByteArray.empty), .v (.int .i64 0), .s 1 [], .s 5 []]), oS (.store 5 (.t 5) (.t 10))]) (
 .seq (.seq (.g [oM 11 4, oQ 12 (.more (.nck (.t 11))), oF 13 2 12, oW 14 .b 13, oM 15 14, oJ 16 15 false (.load true [kI, .s, kI, .sl 1, .sl 5] (.t 5)), oJ 17 15 false (.call (.f 53) [.rd] false [.c .b] [.t 16]), oJ 18 15 false (.un .not (.t 17)), oQ 19 (.pick (.t 15) (.b true) (.t 18)), oM 20 19, oJ 21 20 false (.load true [kI, .s, kI, .sl 1, .sl 5] (.t 5)), oJ 22 20 false (.call (.f 61) [.rd] false [.c .s] [.t 21]), oJ 23 20 false (.mv (.t 0)), oJ 24 20 false (.bin .neq (.t 22) (.t 23)), oQ 25 (.pick (.t 20) (.b true) (.t 24))]) (
 .cond (.t 25) (.seq (.g [oQ 26 (.build [.v (.int .i64 0), .v (.string ByteArray.empty), .v (.int .i64 0), .s 1 [], .s 5 []] []), oS (.store 5 (.t 2) (.t 26)), oV 3 false]) (
 .ret)) (.skip))) (
 .seq (.g [oL 27 [kI, .s, kI, .sl 1, .sl 5] 5, oS (.store 5 (.t 2) (.t 27)), oV 3 true]) (
 .ret))))))⟩
theorem D2l (T : Table) (k : Nat) (s1 : ByteArray): H9 T k a35 [.d (.v (.string s1))] = (
 C8 T 60 [.p [.v (.string s1), .v (.int .i64 0), .v (.bool false)], .d (.v (.int .i64 6))] fun o2 =>
 nth o2.back 0 fun i3 =>
 oP i3 fun r4 =>
 tst (Nat.beq r4.length 3) (
 cS r4 0 fun s5 =>
 cI .i64 r4 1 fun n6 =>
 cB r4 2 fun b7 =>
 oG o2.res fun r8 =>
 tst (Nat.beq r8.length 5) (
 cI .i64 r8 0 fun n9 =>
 cS r8 1 fun s10 =>
 cI .i64 r8 2 fun n11 =>
 cL 1 r8 3 fun l12 =>
 cL 5 r8 4 fun l13 =>
 bif b7 == false then (
 C8 T 53 [.g [.v (.int .i64 n9), .v (.string s10), .v (.int .i64 n11), .s 1 l12, .s 5 l13]] fun o14 =>
 oD o14.res fun d15 =>
 dB d15 fun b16 =>
 bif (!b16) == false then (
 C8 T 61 [.g [.v (.int .i64 n9), .v (.string s10), .v (.int .i64 n11), .s 1 l12, .s 5 l13]] fun o17 =>
 oD o17.res fun d18 =>
 dS d18 fun s19 =>
 bif (!(D9 s19 s1)) then (
 some ⟨.t [.g [.v (.int .i64 0), .v (.string ByteArray.empty), .v (.int .i64 0), .s 1 [], .s 5 []], .d (.v (.bool false))], []⟩) else (
 some ⟨.t [.g [.v (.int .i64 n9), .v (.string s10), .v (.int .i64 n11), .s 1 l12, .s 5 l13], .d (.v (.bool true))], []⟩)) else (
 some ⟨.t [.g [.v (.int .i64 0), .v (.string ByteArray.empty), .v (.int .i64 0), .s 1 [], .s 5 []], .d (.v (.bool false))], []⟩)) else (
 some ⟨.t [.g [.v (.int .i64 0), .v (.string ByteArray.empty), .v (.int .i64 0), .s 1 [], .s 5 []], .d (.v (.bool false))], []⟩)))) := by kernel_rfl
/- loop.example/g00119/spec.l3Digits -/
def a62 : AFun := ⟨[.rd], false, [.t 2], (
 .seq (.g [oQ 2 (.mv (.c (.v (.string ({ data := #[] } : ByteArray)))))]) (
 .seq (.seq (.g [oM 3 0, oBi 4 .lss 3 0]) (
 .cond (.t 4) (.seq (.g [oM 5 0, oQ 6 (.un .neg (.t 5)), oC 7 62 [.c .s] [6], oQ 8 (.bin .add (.c (.v (.string ({ data := #[45] } : ByteArray)))) (.t 7)), oM 2 8]) (
 .ret)) (.skip))) (
 .seq (.seq (.g [oM 9 0, oBi 10 .lss 9 10]) (
 .cond (.t 10) (.seq (.g [oM 11 0, oQ 12 (.bin .add (.i 48) (.t 11)), oQ 13 (.conv (.int .u8) (.t 12)), oQ 14 (.lit 1 ([[.v (.int .u8 0)]] : Rows) [(0, (.t 13))]), oQ 15 (.conv .bytesStr (.t 14)), oM 2 15]) (
 .ret)) (.skip))) (
 .seq (.dreg [] [(0, oM 16 0), (0, oBi 17 .quo 16 10), (0, oC 18 62 [.c .s] [17]), (0, oM 19 0), (0, oBi 20 .rem 19 10), (0, oQ 21 (.bin .add (.i 48) (.t 20))), (0, oQ 22 (.conv (.int .u8) (.t 21))), (1, oQ 23 (.lit 1 ([[.v (.int .u8 0)]] : Rows) [(0, (.t 22))])), (1, oQ 24 (.conv .bytesStr (.t 23)))] [oB 25 .add 18 24, oM 2 25]) (
 .ret)))))⟩
theorem D2m (T : Table) (k : Nat) (n1 : Int): H9 T k a62 [.d (.v (.int .i64 n1))] = (
 bif (decide (n1 < 0)) then (
 C8 T 62 [.d (.v (.int .i64 (IntKind.wrap .i64 (0 - n1))))] fun o2 =>
 oD o2.res fun d3 =>
 dS d3 fun s4 =>
 tst (decide (({ data := #[45] } : ByteArray).size + s4.size ≤ maxLen)) (
 some ⟨.d (.v (.string (({ data := #[45] } : ByteArray) ++ s4))), []⟩)) else (
 bif (decide (n1 < 10)) then (
 tst (P7 ([[.v (.int .u8 (IntKind.wrap .u8 (IntKind.wrap .i64 (48 + n1))))]] : Rows)) (
 some ⟨.d (.v (.string (H7 ([[.v (.int .u8 (IntKind.wrap .u8 (IntKind.wrap .i64 (48 + n1))))]] : Rows)))), []⟩)) else (
 tst (decide (10 ≠ 0)) (
 C8 T 62 [.d (.v (.int .i64 (IntKind.wrap .i64 (Int.tdiv n1 10))))] fun o5 =>
 oD o5.res fun d6 =>
 dS d6 fun s7 =>
 tst (decide (10 ≠ 0)) (
 tst (P7 ([[.v (.int .u8 (IntKind.wrap .u8 (IntKind.wrap .i64 (48 + (Int.tmod n1 10)))))]] : Rows)) (
 tst (decide (s7.size + (H7 ([[.v (.int .u8 (IntKind.wrap .u8 (IntKind.wrap .i64 (48 + (Int.tmod n1 10)))))]] : Rows)).size ≤ maxLen)) (
 some ⟨.d (.v (.string (s7 ++ (H7 ([[.v (.int .u8 (IntKind.wrap .u8 (IntKind.wrap .i64 (48 + (Int.tmod n1 10)))))]] : Rows))))), []⟩))))))) := by kernel_rfl
/- loop.example/g00119/spec.MsgText -/
def C8u : ACode := (
 .seq (.seq (.g [oM 22 4, oF 23 4 1, oW 24 (.sl 2) 23, oZ 25 24, oB 26 .lss 22 25]) (
 .cond (.t 26) (.skip) (.exit 0))) (
 .seq (.block 1 (.dreg [] [(3, oM 29 3), (0, oF 30 4 1), (0, oW 31 (.sl 2) 30), (0, oM 32 4), (0, oI 33 2 31 32), (0, oF 34 0 33), (0, oW 35 kI 34), (1, oC 36 62 [.c .s] [35]), (3, oB 37 .add 29 36), (3, oQ 38 (.bin .add (.t 37) (.c (.v (.string ({ data := #[32] } : ByteArray)))))), (0, oF 39 4 1), (0, oW 40 (.sl 2) 39), (0, oM 41 4), (0, oI 42 2 40 41), (0, oF 43 1 42), (0, oW 44 kI 43)] [oC 45 62 [.c .s] [44], oB 46 .add 38 45, oQ 47 (.bin .add (.t 46) (.c (.v (.string ({ data := #[10] } : ByteArray))))), oM 3 47])) (
 .g [oM 27 4, oBi 28 .add 27 1, oM 4 28])))
def C8v : K4 := [((.exit 0), [(1, .b [.c kI, .c .s, .c kI, .c (.sl 7), .c (.sl 2)]), (3, .c .s)])]
noncomputable def A99 (T : Table) (k : Nat) := K7 (J5 ⟨T, [], []⟩ k C8u (Ex × List AV)) [1, 3, 4] C8v
def C8w : ACode := (
 .seq (.seq (.g [oM 48 5, oF 49 3 1, oW 50 (.sl 7) 49, oZ 51 50, oB 52 .lss 48 51]) (
 .cond (.t 52) (.skip) (.exit 2))) (
 .seq (.block 3 (.dreg [] [(3, oM 55 3), (0, oF 56 3 1), (0, oW 57 (.sl 7) 56), (0, oM 58 5), (0, oI 59 7 57 58), (0, oF 60 0 59), (0, oW 61 kI 60), (1, oC 62 62 [.c .s] [61]), (3, oB 63 .add 55 62), (3, oQ 64 (.bin .add (.t 63) (.c (.v (.string ({ data := #[32] } : ByteArray)))))), (0, oF 65 3 1), (0, oW 66 (.sl 7) 65), (0, oM 67 5), (0, oI 68 7 66 67), (0, oF 69 1 68), (0, oW 70 kI 69), (1, oC 71 62 [.c .s] [70]), (3, oB 72 .add 64 71), (3, oQ 73 (.bin .add (.t 72) (.c (.v (.string ({ data := #[32] } : ByteArray)))))), (0, oF 74 3 1), (0, oW 75 (.sl 7) 74), (0, oM 76 5), (0, oI 77 7 75 76), (0, oF 78 2 77), (0, oL 79 [kI, .s, kI, .sl 1, .sl 5] 78)] [oC 80 61 [.c .s] [79], oB 81 .add 73 80, oQ 82 (.bin .add (.t 81) (.c (.v (.string ({ data := #[10] } : ByteArray))))), oM 3 82])) (
 .g [oM 53 5, oBi 54 .add 53 1, oM 5 54])))
def C8x : K4 := [((.exit 2), [(3, .c .s)])]
noncomputable def A7v (T : Table) (k : Nat) := K7 (J5 ⟨T, [], []⟩ k C8w (Ex × List AV)) [1, 3, 5] C8x
def a36 : AFun := ⟨[.rd], false, [.t 2], (
 .seq (.g [oQ 1 (.box (.t 0)), oQ 2 (.mv (.c (.v (.string ({ data := #[] } : ByteArray)))))]) (
 .seq (.seq (.g [oL 6 [kI, .s, kI, .sl 7, .sl 2] 1, oC 7 8 [.c .b] [6], oN 8 7]) (
 .cond (.t 8) (.seq (.g [oQ 2 (.mv (.c (.v (.string ({ data := #[] } : ByteArray)))))]) (
 .ret)) (.skip))) (
 .seq (.g [oQ 3 (.mv (.c (.v (.string ({ data := #[116, 101, 108, 108, 32] } : ByteArray)))))]) (
 .seq (.seq (.g [oF 9 0 1, oW 10 kI 9, oBi 11 .eql 10 2]) (
 .cond (.t 11) (.g [oQ 3 (.mv (.c (.v (.string ({ data := #[108, 105, 115, 116, 32] } : ByteArray)))))]) (.skip))) (
 .seq (.dreg [] [(0, oM 12 3), (0, oF 13 1 1), (0, oW 14 .s 13), (0, oB 15 .add 12 14), (0, oQ 16 (.bin .add (.t 15) (.c (.v (.string ({ data := #[32] } : ByteArray)))))), (0, oF 17 2 1), (0, oW 18 kI 17), (1, oC 19 62 [.c .s] [18])] [oB 20 .add 16 19, oQ 21 (.bin .add (.t 20) (.c (.v (.string ({ data := #[10] } : ByteArray))))), oM 3 21]) (
 .seq (.seq (.g [oK 4 0]) (
 .block 0 (.loop [1, 3, 4] C8v C8u))) (
 .seq (.seq (.g [oK 5 0]) (
 .block 2 (.loop [1, 3, 5] C8x C8w))) (
 .seq (.g [oM 83 3, oM 2 83]) (
 .ret)))))))))⟩
theorem C4r (T : Table) (k n : Nat) (n12 n14 n18 : Int) (s13 s17 : ByteArray) (l15 l16 : Rows): A99 T k (n + 1) [.b [.v (.int .i64 n12), .v (.string s13), .v (.int .i64 n14), .fz 7 l15, .fz 2 l16], .v (.string s17), .v (.int .i64 n18)] = (
 bif (decide (n18 < (l16.length : Int))) then (
 tst (decide (0 ≤ n18)) (
 look l16 (Int.toNat n18) fun r19 =>
 cI .i64 r19 0 fun n20 =>
 C8 T 62 [.d (.v (.int .i64 n20))] fun o21 =>
 oD o21.res fun d22 =>
 dS d22 fun s23 =>
 tst (decide (s17.size + s23.size ≤ maxLen)) (
 tst (decide ((s17 ++ s23).size + ({ data := #[32] } : ByteArray).size ≤ maxLen)) (
 tst (decide (0 ≤ n18)) (
 look l16 (Int.toNat n18) fun r24 =>
 cI .i64 r24 1 fun n25 =>
 C8 T 62 [.d (.v (.int .i64 n25))] fun o26 =>
 oD o26.res fun d27 =>
 dS d27 fun s28 =>
 tst (decide (((s17 ++ s23) ++ ({ data := #[32] } : ByteArray)).size + s28.size ≤ maxLen)) (
 tst (decide ((((s17 ++ s23) ++ ({ data := #[32] } : ByteArray)) ++ s28).size + ({ data := #[10] } : ByteArray).size ≤ maxLen)) (
 A99 T k n [.b [.v (.int .i64 n12), .v (.string s13), .v (.int .i64 n14), .fz 7 l15, .fz 2 l16], .v (.string ((((s17 ++ s23) ++ ({ data := #[32] } : ByteArray)) ++ s28) ++ ({ data := #[10] } : ByteArray))), .v (.int .i64 (IntKind.wrap .i64 (n18 + 1)))]))))))) else (
 some ((.exit 0), [.b [.v (.int .i64 n12), .v (.string s13), .v (.int .i64 n14), .fz 7 l15, .fz 2 l16], .v (.string s17)]))) := by kernel_rfl
theorem C4s (T : Table) (k n : Nat) (n45 n47 n51 : Int) (s46 s50 : ByteArray) (l48 l49 : Rows): A7v T k (n + 1) [.b [.v (.int .i64 n45), .v (.string s46), .v (.int .i64 n47), .fz 7 l48, .fz 2 l49], .v (.string s50), .v (.int .i64 n51)] = (
 bif (decide (n51 < (l48.length : Int))) then (
 tst (decide (0 ≤ n51)) (
 look l48 (Int.toNat n51) fun r52 =>
 cI .i64 r52 0 fun n53 =>
 C8 T 62 [.d (.v (.int .i64 n53))] fun o54 =>
 oD o54.res fun d55 =>
 dS d55 fun s56 =>
 tst (decide (s50.size + s56.size ≤ maxLen)) (
 tst (decide ((s50 ++ s56).size + ({ data := #[32] } : ByteArray).size ≤ maxLen)) (
 tst (decide (0 ≤ n51)) (
 look l48 (Int.toNat n51) fun r57 =>
 cI .i64 r57 1 fun n58 =>
 C8 T 62 [.d (.v (.int .i64 n58))] fun o59 =>
 oD o59.res fun d60 =>
 dS d60 fun s61 =>
 tst (decide (((s50 ++ s56) ++ ({ data := #[32] } : ByteArray)).size + s61.size ≤ maxLen)) (
 tst (decide ((((s50 ++ s56) ++ ({ data := #[32] } : ByteArray)) ++ s61).size + ({ data := #[32] } : ByteArray).size ≤ maxLen)) (
 tst (decide (0 ≤ n51)) (
 look l48 (Int.toNat n51) fun r62 =>
 cI .i64 r62 2 fun n63 =>
 cS r62 3 fun s64 =>
 cI .i64 r62 4 fun n65 =>
 cL 1 r62 5 fun l66 =>
 cL 5 r62 6 fun l67 =>
 C8 T 61 [.g [.v (.int .i64 n63), .v (.string s64), .v (.int .i64 n65), .s 1 l66, .s 5 l67]] fun o68 =>
 oD o68.res fun d69 =>
 dS d69 fun s70 =>
 tst (decide (((((s50 ++ s56) ++ ({ data := #[32] } : ByteArray)) ++ s61) ++ ({ data := #[32] } : ByteArray)).size + s70.size ≤ maxLen)) (
 tst (decide ((((((s50 ++ s56) ++ ({ data := #[32] } : ByteArray)) ++ s61) ++ ({ data := #[32] } : ByteArray)) ++ s70).size + ({ data := #[10] } : ByteArray).size ≤ maxLen)) (
 A7v T k n [.b [.v (.int .i64 n45), .v (.string s46), .v (.int .i64 n47), .fz 7 l48, .fz 2 l49], .v (.string ((((((s50 ++ s56) ++ ({ data := #[32] } : ByteArray)) ++ s61) ++ ({ data := #[32] } : ByteArray)) ++ s70) ++ ({ data := #[10] } : ByteArray))), .v (.int .i64 (IntKind.wrap .i64 (n51 + 1)))])))))))))) else (
 some ((.exit 2), [.v (.string s50)]))) := by kernel_rfl
theorem D41 (T : Table) (k : Nat) (n1 n3 : Int) (s2 : ByteArray) (l4 l5 : Rows): H9 T k a36 [.g [.v (.int .i64 n1), .v (.string s2), .v (.int .i64 n3), .s 7 l4, .s 2 l5]] = (
 C8 T 8 [.g [.v (.int .i64 n1), .v (.string s2), .v (.int .i64 n3), .s 7 l4, .s 2 l5]] fun o6 =>
 oD o6.res fun d7 =>
 dB d7 fun b8 =>
 bif (!b8) then (
 some ⟨.d (.v (.string ({ data := #[] } : ByteArray))), []⟩) else (
 bif (n1 == 2) then (
 tst (decide (({ data := #[108, 105, 115, 116, 32] } : ByteArray).size + s2.size ≤ maxLen)) (
 tst (decide ((({ data := #[108, 105, 115, 116, 32] } : ByteArray) ++ s2).size + ({ data := #[32] } : ByteArray).size ≤ maxLen)) (
 C8 T 62 [.d (.v (.int .i64 n3))] fun o9 =>
 oD o9.res fun d10 =>
 dS d10 fun s11 =>
 tst (decide (((({ data := #[108, 105, 115, 116, 32] } : ByteArray) ++ s2) ++ ({ data := #[32] } : ByteArray)).size + s11.size ≤ maxLen)) (
 tst (decide ((((({ data := #[108, 105, 115, 116, 32] } : ByteArray) ++ s2) ++ ({ data := #[32] } : ByteArray)) ++ s11).size + ({ data := #[10] } : ByteArray).size ≤ maxLen)) (
 aft (A99 T k k [.b [.v (.int .i64 n1), .v (.string s2), .v (.int .i64 n3), .fz 7 l4, .fz 2 l5], .v (.string ((((({ data := #[108, 105, 115, 116, 32] } : ByteArray) ++ s2) ++ ({ data := #[32] } : ByteArray)) ++ s11) ++ ({ data := #[10] } : ByteArray))), .v (.int .i64 0)]) fun e29 ys30 =>
 bif e29.same (.exit 0) then (
 aV ys30 0 fun x31 =>
 aX x31 fun xs32 =>
 aV xs32 0 fun x33 =>
 aI .i64 x33 fun n34 =>
 aV xs32 1 fun x35 =>
 aS x35 fun s36 =>
 aV xs32 2 fun x37 =>
 aI .i64 x37 fun n38 =>
 aV xs32 3 fun x39 =>
 aL 7 x39 fun l40 =>
 aV xs32 4 fun x41 =>
 aL 2 x41 fun l42 =>
 aV ys30 1 fun x43 =>
 aS x43 fun s44 =>
 aft (A7v T k k [.b [.v (.int .i64 n34), .v (.string s36), .v (.int .i64 n38), .fz 7 l40, .fz 2 l42], .v (.string s44), .v (.int .i64 0)]) fun e71 ys72 =>
 bif e71.same (.exit 2) then (
 aV ys72 0 fun x73 =>
 aS x73 fun s74 =>
 some ⟨.d (.v (.string s74)), []⟩) else (
 none)) else (
 none)))))) else (
 tst (decide (({ data := #[116, 101, 108, 108, 32] } : ByteArray).size + s2.size ≤ maxLen)) (
 tst (decide ((({ data := #[116, 101, 108, 108, 32] } : ByteArray) ++ s2).size + ({ data := #[32] } : ByteArray).size ≤ maxLen)) (
 C8 T 62 [.d (.v (.int .i64 n3))] fun o75 =>
 oD o75.res fun d76 =>
 dS d76 fun s77 =>
 tst (decide (((({ data := #[116, 101, 108, 108, 32] } : ByteArray) ++ s2) ++ ({ data := #[32] } : ByteArray)).size + s77.size ≤ maxLen)) (
 tst (decide ((((({ data := #[116, 101, 108, 108, 32] } : ByteArray) ++ s2) ++ ({ data := #[32] } : ByteArray)) ++ s77).size + ({ data := #[10] } : ByteArray).size ≤ maxLen)) (
 aft (A99 T k k [.b [.v (.int .i64 n1), .v (.string s2), .v (.int .i64 n3), .fz 7 l4, .fz 2 l5], .v (.string ((((({ data := #[116, 101, 108, 108, 32] } : ByteArray) ++ s2) ++ ({ data := #[32] } : ByteArray)) ++ s77) ++ ({ data := #[10] } : ByteArray))), .v (.int .i64 0)]) fun e78 ys79 =>
 bif e78.same (.exit 0) then (
 aV ys79 0 fun x80 =>
 aX x80 fun xs81 =>
 aV xs81 0 fun x82 =>
 aI .i64 x82 fun n83 =>
 aV xs81 1 fun x84 =>
 aS x84 fun s85 =>
 aV xs81 2 fun x86 =>
 aI .i64 x86 fun n87 =>
 aV xs81 3 fun x88 =>
 aL 7 x88 fun l89 =>
 aV xs81 4 fun x90 =>
 aL 2 x90 fun l91 =>
 aV ys79 1 fun x92 =>
 aS x92 fun s93 =>
 aft (A7v T k k [.b [.v (.int .i64 n83), .v (.string s85), .v (.int .i64 n87), .fz 7 l89, .fz 2 l91], .v (.string s93), .v (.int .i64 0)]) fun e94 ys95 =>
 bif e94.same (.exit 2) then (
 aV ys95 0 fun x96 =>
 aS x96 fun s97 =>
 some ⟨.d (.v (.string s97)), []⟩) else (
 none)) else (
 none)))))))) := by kernel_rfl
/- loop.example/g00119/spec.ParseMsg -/
def C8y : ACode := (
 .seq (.seq (.g [oM 45 7, oBi 46 .add 45 1, oM 47 4, oZ 48 47, oB 49 .lss 46 48]) (
 .cond (.t 49) (.skip) (.exit 0))) (
 .seq (.block 1 (.seq (.g [oM 52 4, oM 53 7, oI 54 1 52 53, oW 55 .s 54, oQ 56 (.call (.f 33) [.rd, .rd] false [.c (.sl 1)] [.t 55, .c (.v (.int .u8 32))]), oM 8 56]) (
 .seq (.seq (.g [oM 57 8, oZ 58 57, oBi 59 .lss 58 2]) (
 .cond (.t 59) (.seq (.g [oQ 60 (.build [.v (.int .i64 0), .v (.string ByteArray.empty), .v (.int .i64 0), .s 7 [], .s 2 []] []), oS (.store 5 (.t 2) (.t 60)), oV 3 false]) (
 .ret)) (.skip))) (
 .seq (.g [oM 61 8, oQ 62 (.iad 1 (.t 61) (.i 0)), oW 63 .s 62, oC 64 34 [.c kI] [63], oM 9 64]) (
 .seq (.g [oM 65 8, oQ 66 (.iad 1 (.t 65) (.i 1)), oW 67 .s 66, oC 68 34 [.c kI] [67], oM 10 68]) (
 .seq (.seq (.g [oF 69 0 6, oW 70 kI 69, oBi 71 .eql 70 1]) (
 .cond (.t 71) (.seq (.g [oF 72 4 6, oW 73 (.sl 2) 72, oM 74 9, oM 75 10, oQ 76 (.build [.v (.int .i64 0), .v (.int .i64 0)] [(0, 1, (.t 74)), (1, 1, (.t 75))]), oQ 77 (.lit 2 ([[.v (.int .i64 0), .v (.int .i64 0)]] : Rows) [(0, (.t 76))]), oQ 78 (.app 2 16 (.t 73) (.t 77)), oF 79 4 6, oS (.store 1 (.t 79) (.t 78))]) (
 .exit 1)) (.skip))) (
 .seq (.dreg [] [(0, oM 80 8), (0, oQ 81 (.iad 1 (.t 80) (.i 0))), (0, oW 82 .s 81), (0, oQ 83 (.len true (.t 82))), (0, oM 84 8), (0, oQ 85 (.iad 1 (.t 84) (.i 1))), (0, oW 86 .s 85), (0, oQ 87 (.len true (.t 86)))] [oB 88 .add 83 87, oBi 89 .add 88 2, oM 11 89]) (
 .seq (.seq (.g [oM 90 4, oM 91 7, oI 92 1 90 91, oW 93 .s 92, oQ 94 (.len true (.t 93)), oM 95 11, oB 96 .lss 94 95]) (
 .cond (.t 96) (.seq (.g [oQ 97 (.build [.v (.int .i64 0), .v (.string ByteArray.empty), .v (.int .i64 0), .s 7 [], .s 2 []] []), oS (.store 5 (.t 2) (.t 97)), oV 3 false]) (
 .ret)) (.skip))) (
 .seq (.g [oM 99 4, oM 100 7, oI 101 1 99 100, oW 102 .s 101, oM 103 11, oQ 104 (.slc none (.t 102) (some (.t 103)) none), oC 105 35 [.g [kI, .s, kI, .sl 1, .sl 5], .c .b] [104], oM 98 105, oX 106 98 0, oX 107 98 1, oQ 12 (.alloc [.v (.int .i64 0), .v (.string ByteArray.empty), .v (.int .i64 0), .s 1 [], .s 5 []]), oS (.store 5 (.t 12) (.t 106)), oM 13 107]) (
 .g [oF 108 3 6, oW 109 (.sl 7) 108, oM 110 9, oM 111 10, oL 112 [kI, .s, kI, .sl 1, .sl 5] 12, oQ 113 (.build [.v (.int .i64 0), .v (.int .i64 0), .v (.int .i64 0), .v (.string ByteArray.empty), .v (.int .i64 0), .s 1 [], .s 5 []] [(0, 1, (.t 110)), (1, 1, (.t 111)), (2, 5, (.t 112))]), oQ 114 (.lit 7 ([[.v (.int .i64 0), .v (.int .i64 0), .v (.int .i64 0), .v (.string ByteArray.empty), .v (.int .i64 0), .s 1 [], .s 5 []]] : Rows) [(0, (.t 113))]), oQ 115 (.app 7 96 (.t 109) (.t 114)), oF 116 3 6, oS (.store 1 (.t 116) (.t 115))])))))))))) (
 .g [oM 50 7, oBi 51 .add 50 1, oM 7 51])))
def C8z : K4 := [(.ret, [(2, .b [.c kI, .c .s, .c kI, .o 7, .o 2]), (3, .c .b)]), ((.exit 0), [(0, .c .s), (2, .b [.c kI, .c .s, .c kI, .o 7, .o 2]), (6, .b [.c kI, .c .s, .c kI, .o 7, .o 2])])]
noncomputable def A9a (T : Table) (k : Nat) := K7 (J5 ⟨T, [], []⟩ k C8y (Ex × List AV)) [0, 2, 4, 6, 7] C8z
def a12 : AFun := ⟨[.rd], false, [.c 2 true [kI, .s, kI, .sl 7, .sl 2], .t 3], (
 .seq (.g [oQ 2 (.alloc [.v (.int .i64 0), .v (.string ByteArray.empty), .v (.int .i64 0), .s 7 [], .s 2 []]), oV 3 false]) (
 .seq (.g [oM 14 0, oQ 15 (.call (.f 33) [.rd, .rd] false [.c (.sl 1)] [.t 14, .c (.v (.int .u8 10))]), oM 4 15]) (
 .seq (.g [oM 16 4, oQ 17 (.iad 1 (.t 16) (.i 0)), oW 18 .s 17, oQ 19 (.call (.f 33) [.rd, .rd] false [.c (.sl 1)] [.t 18, .c (.v (.int .u8 32))]), oM 5 19]) (
 .seq (.g [oQ 20 (.build [.v (.int .i64 0), .v (.string ByteArray.empty), .v (.int .i64 0), .s 7 [], .s 2 []] []), oQ 6 (.alloc [.v (.int .i64 0), .v (.string ByteArray.empty), .v (.int .i64 0), .s 7 [], .s 2 []]), oS (.store 5 (.t 6) (.t 20))]) (
 .seq (.seq (.g [oM 21 5, oZ 22 21, oBi 23 .neq 22 3, oM 24 23, oJ 25 24 false (.mv (.t 4)), oJ 26 24 false (.len false (.t 25)), oJ 27 24 false (.bin .gtr (.t 26) (.i 90)), oQ 28 (.pick (.t 24) (.b true) (.t 27))]) (
 .cond (.t 28) (.seq (.g [oQ 29 (.build [.v (.int .i64 0), .v (.string ByteArray.empty), .v (.int .i64 0), .s 7 [], .s 2 []] []), oS (.store 5 (.t 2) (.t 29)), oV 3 false]) (
 .ret)) (.skip))) (
 .seq (.g [oM 30 5, oQ 31 (.iad 1 (.t 30) (.i 1)), oW 32 .s 31, oF 33 1 6, oS (.store 1 (.t 33) (.t 32))]) (
 .seq (.g [oM 34 5, oQ 35 (.iad 1 (.t 34) (.i 2)), oW 36 .s 35, oC 37 34 [.c kI] [36], oF 38 2 6, oS (.store 1 (.t 38) (.t 37))]) (
 .seq (.g [oF 39 0 6, oS (.store 1 (.t 39) (.i 1))]) (
 .seq (.seq (.g [oM 40 5, oQ 41 (.iad 1 (.t 40) (.i 0)), oW 42 .s 41, oQ 43 (.bin .eql (.t 42) (.c (.v (.string ({ data := #[108, 105, 115, 116] } : ByteArray)))))]) (
 .cond (.t 43) (.g [oF 44 0 6, oS (.store 1 (.t 44) (.i 2))]) (.skip))) (
 .seq (.seq (.g [oK 7 1]) (
 .block 0 (.loop [0, 2, 4, 6, 7] C8z C8y))) (
 .seq (.seq (.g [oL 117 [kI, .s, kI, .sl 7, .sl 2] 6, oC 118 8 [.c .b] [117], oN 119 118, oM 120 119, oJ 121 120 false (.load true [kI, .s, kI, .sl 7, .sl 2] (.t 6)), oJ 122 120 false (.call (.f 36) [.rd] false [.c .s] [.t 121]), oJ 123 120 false (.mv (.t 0)), oJ 124 120 false (.bin .neq (.t 122) (.t 123)), oQ 125 (.pick (.t 120) (.b true) (.t 124))]) (
 .cond (.t 125) (.seq (.g [oQ 126 (.build [.v (.int .i64 0), .v (.string ByteArray.empty), .v (.int .i64 0), .s 7 [], .s 2 []] []), oS (.store 5 (.t 2) (.t 126)), oV 3 false]) (
 .ret)) (.skip))) (
 .seq (.g [oL 127 [kI, .s, kI, .sl 7, .sl 2] 6, oS (.store 5 (.t 2) (.t 127)), oV 3 true]) (
 .ret)))))))))))))⟩
theorem C4t (T : Table) (k n : Nat) (s19 s21 s27 : ByteArray) (n20 n22 n26 n28 n31 : Int) (l23 l24 l25 l29 l30 : Rows): A9a T k (n + 1) [.v (.string s19), .b [.v (.int .i64 n20), .v (.string s21), .v (.int .i64 n22), .o 7 l23, .o 2 l24], .o 1 l25, .b [.v (.int .i64 n26), .v (.string s27), .v (.int .i64 n28), .o 7 l29, .o 2 l30], .v (.int .i64 n31)] = (
 bif (decide ((IntKind.wrap .i64 (n31 + 1)) < (l25.length : Int))) then (
 tst (decide (0 ≤ n31) && decide (Int.toNat n31 < l25.length)) (
 look l25 (Int.toNat n31) fun r32 =>
 cS r32 0 fun s33 =>
 C8 T 33 [.d (.v (.string s33)), .d (.v (.int .u8 32))] fun o34 =>
 oD o34.res fun d35 =>
 dL 1 d35 fun l36 =>
 bif (decide ((l36.length : Int) < 2)) then (
 some (.ret, [.b [.v (.int .i64 0), .v (.string ByteArray.empty), .v (.int .i64 0), .o 7 [], .o 2 []], .v (.bool false)])) else (
 tst (decide (0 ≤ 0) && decide (Int.toNat 0 < l36.length)) (
 look l36 0 fun r37 =>
 cS r37 0 fun s38 =>
 C8 T 34 [.d (.v (.string s38))] fun o39 =>
 oD o39.res fun d40 =>
 dI .i64 d40 fun n41 =>
 tst (decide (0 ≤ 1) && decide (Int.toNat 1 < l36.length)) (
 look l36 1 fun r42 =>
 cS r42 0 fun s43 =>
 C8 T 34 [.d (.v (.string s43))] fun o44 =>
 oD o44.res fun d45 =>
 dI .i64 d45 fun n46 =>
 bif (n26 == 1) then (
 tst (decide ((l30.length + ([[.v (.int .i64 n41), .v (.int .i64 n46)]] : Rows).length) * 16 ≤ D7)) (
 A9a T k n [.v (.string s19), .b [.v (.int .i64 n20), .v (.string s21), .v (.int .i64 n22), .o 7 l23, .o 2 l24], .o 1 l25, .b [.v (.int .i64 n26), .v (.string s27), .v (.int .i64 n28), .o 7 l29, .o 2 (l30 ++ ([[.v (.int .i64 n41), .v (.int .i64 n46)]] : Rows))], .v (.int .i64 (IntKind.wrap .i64 (n31 + 1)))])) else (
 tst (decide (0 ≤ 0) && decide (Int.toNat 0 < l36.length)) (
 look l36 0 fun r47 =>
 cS r47 0 fun s48 =>
 tst (decide (0 ≤ 1) && decide (Int.toNat 1 < l36.length)) (
 look l36 1 fun r49 =>
 cS r49 0 fun s50 =>
 tst (decide (0 ≤ n31) && decide (Int.toNat n31 < l25.length)) (
 look l25 (Int.toNat n31) fun r51 =>
 cS r51 0 fun s52 =>
 bif (decide ((s52.size : Int) < (IntKind.wrap .i64 ((IntKind.wrap .i64 ((s48.size : Int) + (s50.size : Int))) + 2)))) then (
 some (.ret, [.b [.v (.int .i64 0), .v (.string ByteArray.empty), .v (.int .i64 0), .o 7 [], .o 2 []], .v (.bool false)])) else (
 tst (decide (0 ≤ n31) && decide (Int.toNat n31 < l25.length)) (
 look l25 (Int.toNat n31) fun r53 =>
 cS r53 0 fun s54 =>
 tst (N9 (IntKind.wrap .i64 ((IntKind.wrap .i64 ((s48.size : Int) + (s50.size : Int))) + 2)) (s54.size : Int) (s54.size)) (
 C8 T 35 [.d (.v (.string (s54.extract (Int.toNat (IntKind.wrap .i64 ((IntKind.wrap .i64 ((s48.size : Int) + (s50.size : Int))) + 2))) (Int.toNat (s54.size : Int)))))] fun o55 =>
 oT o55.res fun is56 =>
 tst (Nat.beq is56.length 2) (
 nth is56 0 fun i57 =>
 oG i57 fun r58 =>
 tst (Nat.beq r58.length 5) (
 cI .i64 r58 0 fun n59 =>
 cS r58 1 fun s60 =>
 cI .i64 r58 2 fun n61 =>
 cL 1 r58 3 fun l62 =>
 cL 5 r58 4 fun l63 =>
 nth is56 1 fun i64 =>
 oD i64 fun d65 =>
 dB d65 fun b66 =>
 tst (decide ((l29.length + ([[.v (.int .i64 n41), .v (.int .i64 n46), .v (.int .i64 n59), .v (.string s60), .v (.int .i64 n61), hole, hole]] : Rows).length) * 96 ≤ D7)) (
 A9a T k n [.v (.string s19), .b [.v (.int .i64 n20), .v (.string s21), .v (.int .i64 n22), .o 7 l23, .o 2 l24], .o 1 l25, .b [.v (.int .i64 n26), .v (.string s27), .v (.int .i64 n28), .o 7 (G8 (G8 (l29 ++ ([[.v (.int .i64 n41), .v (.int .i64 n46), .v (.int .i64 n59), .v (.string s60), .v (.int .i64 n61), hole, hole]] : Rows)) (0 + l29.length) 6 (.s 5 l63)) (0 + l29.length) 5 (.s 1 l62)), .o 2 l30], .v (.int .i64 (IntKind.wrap .i64 (n31 + 1)))]))))))))))))))) else (
 some ((.exit 0), [.v (.string s19), .b [.v (.int .i64 n20), .v (.string s21), .v (.int .i64 n22), .o 7 l23, .o 2 l24], .b [.v (.int .i64 n26), .v (.string s27), .v (.int .i64 n28), .o 7 l29, .o 2 l30]]))) := by kernel_rfl
theorem D42 (T : Table) (k : Nat) (s1 : ByteArray): H9 T k a12 [.d (.v (.string s1))] = (
 C8 T 33 [.d (.v (.string s1)), .d (.v (.int .u8 10))] fun o2 =>
 oD o2.res fun d3 =>
 dL 1 d3 fun l4 =>
 tst (decide (0 ≤ 0) && decide (Int.toNat 0 < l4.length)) (
 look l4 0 fun r5 =>
 cS r5 0 fun s6 =>
 C8 T 33 [.d (.v (.string s6)), .d (.v (.int .u8 32))] fun o7 =>
 oD o7.res fun d8 =>
 dL 1 d8 fun l9 =>
 bif ((l9.length : Int) != 3) == false then (
 bif (decide ((l4.length : Int) > 90)) then (
 some ⟨.t [.g [.v (.int .i64 0), .v (.string ByteArray.empty), .v (.int .i64 0), .s 7 [], .s 2 []], .d (.v (.bool false))], []⟩) else (
 tst (decide (0 ≤ 1) && decide (Int.toNat 1 < l9.length)) (
 look l9 1 fun r10 =>
 cS r10 0 fun s11 =>
 tst (decide (0 ≤ 2) && decide (Int.toNat 2 < l9.length)) (
 look l9 2 fun r12 =>
 cS r12 0 fun s13 =>
 C8 T 34 [.d (.v (.string s13))] fun o14 =>
 oD o14.res fun d15 =>
 dI .i64 d15 fun n16 =>
 tst (decide (0 ≤ 0) && decide (Int.toNat 0 < l9.length)) (
 look l9 0 fun r17 =>
 cS r17 0 fun s18 =>
 bif (D9 s18 ({ data := #[108, 105, 115, 116] } : ByteArray)) then (
 aft (A9a T k k [.v (.string s1), .b [.v (.int .i64 0), .v (.string ByteArray.empty), .v (.int .i64 0), .o 7 [], .o 2 []], .o 1 l4, .b [.v (.int .i64 2), .v (.string s11), .v (.int .i64 n16), .o 7 [], .o 2 []], .v (.int .i64 1)]) fun e67 ys68 =>
 bif e67.same .ret then (
 aV ys68 0 fun x69 =>
 aX x69 fun xs70 =>
 aV xs70 0 fun x71 =>
 aI .i64 x71 fun n72 =>
 aV xs70 1 fun x73 =>
 aS x73 fun s74 =>
 aV xs70 2 fun x75 =>
 aI .i64 x75 fun n76 =>
 aV xs70 3 fun x77 =>
 aO 7 x77 fun l78 =>
 aV xs70 4 fun x79 =>
 aO 2 x79 fun l80 =>
 aV ys68 1 fun x81 =>
 aB x81 fun b82 =>
 some ⟨.t [.g [.v (.int .i64 n72), .v (.string s74), .v (.int .i64 n76), .s 7 l78, .s 2 l80], .d (.v (.bool b82))], []⟩) else (
 bif e67.same (.exit 0) then (
 aV ys68 0 fun x83 =>
 aS x83 fun s84 =>
 aV ys68 1 fun x85 =>
 aX x85 fun xs86 =>
 aV xs86 0 fun x87 =>
 aI .i64 x87 fun n88 =>
 aV xs86 1 fun x89 =>
 aS x89 fun s90 =>
 aV xs86 2 fun x91 =>
 aI .i64 x91 fun n92 =>
 aV xs86 3 fun x93 =>
 aO 7 x93 fun l94 =>
 aV xs86 4 fun x95 =>
 aO 2 x95 fun l96 =>
 aV ys68 2 fun x97 =>
 aX x97 fun xs98 =>
 aV xs98 0 fun x99 =>
 aI .i64 x99 fun n100 =>
 aV xs98 1 fun x101 =>
 aS x101 fun s102 =>
 aV xs98 2 fun x103 =>
 aI .i64 x103 fun n104 =>
 aV xs98 3 fun x105 =>
 aO 7 x105 fun l106 =>
 aV xs98 4 fun x107 =>
 aO 2 x107 fun l108 =>
 C8 T 8 [.g [.v (.int .i64 n100), .v (.string s102), .v (.int .i64 n104), .s 7 l106, .s 2 l108]] fun o109 =>
 oD o109.res fun d110 =>
 dB d110 fun b111 =>
 bif (!b111) == false then (
 C8 T 36 [.g [.v (.int .i64 n100), .v (.string s102), .v (.int .i64 n104), .s 7 l106, .s 2 l108]] fun o112 =>
 oD o112.res fun d113 =>
 dS d113 fun s114 =>
 bif (!(D9 s114 s84)) then (
 some ⟨.t [.g [.v (.int .i64 0), .v (.string ByteArray.empty), .v (.int .i64 0), .s 7 [], .s 2 []], .d (.v (.bool false))], []⟩) else (
 some ⟨.t [.g [.v (.int .i64 n100), .v (.string s102), .v (.int .i64 n104), .s 7 l106, .s 2 l108], .d (.v (.bool true))], []⟩)) else (
 some ⟨.t [.g [.v (.int .i64 0), .v (.string ByteArray.empty), .v (.int .i64 0), .s 7 [], .s 2 []], .d (.v (.bool false))], []⟩)) else (
 none))) else (
 aft (A9a T k k [.v (.string s1), .b [.v (.int .i64 0), .v (.string ByteArray.empty), .v (.int .i64 0), .o 7 [], .o 2 []], .o 1 l4, .b [.v (.int .i64 1), .v (.string s11), .v (.int .i64 n16), .o 7 [], .o 2 []], .v (.int .i64 1)]) fun e115 ys116 =>
 bif e115.same .ret then (
 aV ys116 0 fun x117 =>
 aX x117 fun xs118 =>
 aV xs118 0 fun x119 =>
 aI .i64 x119 fun n120 =>
 aV xs118 1 fun x121 =>
 aS x121 fun s122 =>
 aV xs118 2 fun x123 =>
 aI .i64 x123 fun n124 =>
 aV xs118 3 fun x125 =>
 aO 7 x125 fun l126 =>
 aV xs118 4 fun x127 =>
 aO 2 x127 fun l128 =>
 aV ys116 1 fun x129 =>
 aB x129 fun b130 =>
 some ⟨.t [.g [.v (.int .i64 n120), .v (.string s122), .v (.int .i64 n124), .s 7 l126, .s 2 l128], .d (.v (.bool b130))], []⟩) else (
 bif e115.same (.exit 0) then (
 aV ys116 0 fun x131 =>
 aS x131 fun s132 =>
 aV ys116 1 fun x133 =>
 aX x133 fun xs134 =>
 aV xs134 0 fun x135 =>
 aI .i64 x135 fun n136 =>
 aV xs134 1 fun x137 =>
 aS x137 fun s138 =>
 aV xs134 2 fun x139 =>
 aI .i64 x139 fun n140 =>
 aV xs134 3 fun x141 =>
 aO 7 x141 fun l142 =>
 aV xs134 4 fun x143 =>
 aO 2 x143 fun l144 =>
 aV ys116 2 fun x145 =>
 aX x145 fun xs146 =>
 aV xs146 0 fun x147 =>
 aI .i64 x147 fun n148 =>
 aV xs146 1 fun x149 =>
 aS x149 fun s150 =>
 aV xs146 2 fun x151 =>
 aI .i64 x151 fun n152 =>
 aV xs146 3 fun x153 =>
 aO 7 x153 fun l154 =>
 aV xs146 4 fun x155 =>
 aO 2 x155 fun l156 =>
 C8 T 8 [.g [.v (.int .i64 n148), .v (.string s150), .v (.int .i64 n152), .s 7 l154, .s 2 l156]] fun o157 =>
 oD o157.res fun d158 =>
 dB d158 fun b159 =>
 bif (!b159) == false then (
 C8 T 36 [.g [.v (.int .i64 n148), .v (.string s150), .v (.int .i64 n152), .s 7 l154, .s 2 l156]] fun o160 =>
 oD o160.res fun d161 =>
 dS d161 fun s162 =>
 bif (!(D9 s162 s132)) then (
 some ⟨.t [.g [.v (.int .i64 0), .v (.string ByteArray.empty), .v (.int .i64 0), .s 7 [], .s 2 []], .d (.v (.bool false))], []⟩) else (
 some ⟨.t [.g [.v (.int .i64 n148), .v (.string s150), .v (.int .i64 n152), .s 7 l154, .s 2 l156], .d (.v (.bool true))], []⟩)) else (
 some ⟨.t [.g [.v (.int .i64 0), .v (.string ByteArray.empty), .v (.int .i64 0), .s 7 [], .s 2 []], .d (.v (.bool false))], []⟩)) else (
 none)))))))) else (
 some ⟨.t [.g [.v (.int .i64 0), .v (.string ByteArray.empty), .v (.int .i64 0), .s 7 [], .s 2 []], .d (.v (.bool false))], []⟩))) := by kernel_rfl
/- loop.example/g00119/laws.eqStringS -/
def C4u : ACode := (
 .seq (.seq (.g [oM 11 5, oM 12 0, oZ 13 12, oB 14 .lss 11 13]) (
 .cond (.t 14) (.skip) (.exit 0))) (
 .seq (.block 1 (.seq (.dreg [] [(0, oM 17 0), (0, oM 18 5), (0, oI 19 1 17 18), (0, oW 20 .s 19), (0, oM 21 1), (0, oM 22 5), (0, oI 23 1 21 22), (0, oW 24 .s 23)] [oB 25 .neq 20 24]) (
 .cond (.t 25) (.seq (.g [oV 4 false]) (
 .ret)) (.skip)))) (
 .g [oM 15 5, oBi 16 .add 15 1, oM 5 16])))
def C4v : K4 := [(.ret, [(4, .c .b)]), ((.exit 0), [])]
noncomputable def B1i (T : Table) (k : Nat) := K7 (J5 ⟨T, [], []⟩ k C4u (Ex × List AV)) [0, 1, 5] C4v
def a127 : AFun := ⟨[.rd, .rd], false, [.t 4], (
 .seq (.g [oV 4 false]) (
 .seq (.seq (.g [oM 6 0, oZ 7 6, oM 8 1, oZ 9 8, oB 10 .neq 7 9]) (
 .cond (.t 10) (.seq (.g [oV 4 false]) (
 .ret)) (.skip))) (
 .seq (.seq (.g [oK 5 0]) (
 .block 0 (.loop [0, 1, 5] C4v C4u))) (
 .seq (.g [oV 4 true]) (
 .ret)))))⟩
theorem C09 (T : Table) (k n : Nat) (l3 l4 : Rows) (n5 : Int): B1i T k (n + 1) [.fz 1 l3, .fz 1 l4, .v (.int .i64 n5)] = (
 bif (decide (n5 < (l3.length : Int))) then (
 tst (decide (0 ≤ n5)) (
 look l3 (Int.toNat n5) fun r6 =>
 cS r6 0 fun s7 =>
 tst (decide (0 ≤ n5)) (
 look l4 (Int.toNat n5) fun r8 =>
 cS r8 0 fun s9 =>
 bif (!(D9 s7 s9)) then (
 some (.ret, [.v (.bool false)])) else (
 B1i T k n [.fz 1 l3, .fz 1 l4, .v (.int .i64 (IntKind.wrap .i64 (n5 + 1)))])))) else (
 some ((.exit 0), []))) := by kernel_rfl
theorem D2n (T : Table) (k : Nat) (l1 l2 : Rows): H9 T k a127 [.d (.s 1 l1), .d (.s 1 l2)] = (
 bif ((l1.length : Int) != (l2.length : Int)) then (
 some ⟨.d (.v (.bool false)), []⟩) else (
 aft (B1i T k k [.fz 1 l1, .fz 1 l2, .v (.int .i64 0)]) fun e10 ys11 =>
 bif e10.same .ret then (
 aV ys11 0 fun x12 =>
 aB x12 fun b13 =>
 some ⟨.d (.v (.bool b13)), []⟩) else (
 bif e10.same (.exit 0) then (
 some ⟨.d (.v (.bool true)), []⟩) else (
 none)))) := by kernel_rfl
/- loop.example/g00119/laws.eqValueS -/
def C4w : ACode := (
 .seq (.seq (.g [oM 11 5, oM 12 0, oZ 13 12, oB 14 .lss 11 13]) (
 .cond (.t 14) (.skip) (.exit 0))) (
 .seq (.block 1 (.seq (.dreg [] [(0, oM 17 0), (0, oM 18 5), (0, oI 19 5 17 18), (0, oL 20 [kI, .s, kI, .sl 1, .sl 5] 19), (0, oM 21 1), (0, oM 22 5), (0, oI 23 5 21 22), (0, oL 24 [kI, .s, kI, .sl 1, .sl 5] 23)] [oC 25 99 [.c .b] [20, 24], oN 26 25]) (
 .cond (.t 26) (.seq (.g [oV 4 false]) (
 .ret)) (.skip)))) (
 .g [oM 15 5, oBi 16 .add 15 1, oM 5 16])))
def C4x : K4 := [(.ret, [(4, .c .b)]), ((.exit 0), [])]
noncomputable def B1j (T : Table) (k : Nat) := K7 (J5 ⟨T, [], []⟩ k C4w (Ex × List AV)) [0, 1, 5] C4x
def D0s : AFun := ⟨[.rd, .rd], false, [.t 4], (
 .seq (.g [oV 4 false]) (
 .seq (.seq (.g [oM 6 0, oZ 7 6, oM 8 1, oZ 9 8, oB 10 .neq 7 9]) (
 .cond (.t 10) (.seq (.g [oV 4 false]) (
 .ret)) (.skip))) (
 .seq (.seq (.g [oK 5 0]) (
 .block 0 (.loop [0, 1, 5] C4x C4w))) (
 .seq (.g [oV 4 true]) (
 .ret)))))⟩
theorem C0a (T : Table) (k n : Nat) (l3 l4 : Rows) (n5 : Int): B1j T k (n + 1) [.fz 5 l3, .fz 5 l4, .v (.int .i64 n5)] = (
 bif (decide (n5 < (l3.length : Int))) then (
 tst (decide (0 ≤ n5)) (
 look l3 (Int.toNat n5) fun r6 =>
 cI .i64 r6 0 fun n7 =>
 cS r6 1 fun s8 =>
 cI .i64 r6 2 fun n9 =>
 cL 1 r6 3 fun l10 =>
 cL 5 r6 4 fun l11 =>
 tst (decide (0 ≤ n5)) (
 look l4 (Int.toNat n5) fun r12 =>
 cI .i64 r12 0 fun n13 =>
 cS r12 1 fun s14 =>
 cI .i64 r12 2 fun n15 =>
 cL 1 r12 3 fun l16 =>
 cL 5 r12 4 fun l17 =>
 C8 T 99 [.g [.v (.int .i64 n7), .v (.string s8), .v (.int .i64 n9), .s 1 l10, .s 5 l11], .g [.v (.int .i64 n13), .v (.string s14), .v (.int .i64 n15), .s 1 l16, .s 5 l17]] fun o18 =>
 oD o18.res fun d19 =>
 dB d19 fun b20 =>
 bif (!b20) then (
 some (.ret, [.v (.bool false)])) else (
 B1j T k n [.fz 5 l3, .fz 5 l4, .v (.int .i64 (IntKind.wrap .i64 (n5 + 1)))])))) else (
 some ((.exit 0), []))) := by kernel_rfl
theorem D2o (T : Table) (k : Nat) (l1 l2 : Rows): H9 T k D0s [.d (.s 5 l1), .d (.s 5 l2)] = (
 bif ((l1.length : Int) != (l2.length : Int)) then (
 some ⟨.d (.v (.bool false)), []⟩) else (
 aft (B1j T k k [.fz 5 l1, .fz 5 l2, .v (.int .i64 0)]) fun e21 ys22 =>
 bif e21.same .ret then (
 aV ys22 0 fun x23 =>
 aB x23 fun b24 =>
 some ⟨.d (.v (.bool b24)), []⟩) else (
 bif e21.same (.exit 0) then (
 some ⟨.d (.v (.bool true)), []⟩) else (
 none)))) := by kernel_rfl
/- loop.example/g00119/laws.eqValue -/
def a99 : AFun := ⟨[.rd, .rd], false, [.t 4], (
 .seq (.g [oQ 2 (.box (.t 0)), oQ 3 (.box (.t 1)), oV 4 false]) (
 .seq (.seq (.g [oF 5 0 2, oW 6 kI 5, oF 7 0 3, oW 8 kI 7, oB 9 .neq 6 8]) (
 .cond (.t 9) (.seq (.g [oV 4 false]) (
 .ret)) (.skip))) (
 .seq (.seq (.g [oF 10 1 2, oW 11 .s 10, oF 12 1 3, oW 13 .s 12, oB 14 .neq 11 13]) (
 .cond (.t 14) (.seq (.g [oV 4 false]) (
 .ret)) (.skip))) (
 .seq (.seq (.g [oF 15 2 2, oW 16 kI 15, oF 17 2 3, oW 18 kI 17, oB 19 .neq 16 18]) (
 .cond (.t 19) (.seq (.g [oV 4 false]) (
 .ret)) (.skip))) (
 .seq (.seq (.g [oF 20 3 2, oW 21 (.sl 1) 20, oF 22 3 3, oW 23 (.sl 1) 22, oC 24 127 [.c .b] [21, 23], oN 25 24]) (
 .cond (.t 25) (.seq (.g [oV 4 false]) (
 .ret)) (.skip))) (
 .seq (.seq (.g [oF 26 4 2, oW 27 (.sl 5) 26, oF 28 4 3, oW 29 (.sl 5) 28, oC 30 128 [.c .b] [27, 29], oN 31 30]) (
 .cond (.t 31) (.seq (.g [oV 4 false]) (
 .ret)) (.skip))) (
 .seq (.g [oV 4 true]) (
 .ret))))))))⟩
theorem D43 (T : Table) (k : Nat) (n1 n3 n6 n8 : Int) (s2 s7 : ByteArray) (l4 l5 l9 l10 : Rows): H9 T k a99 [.g [.v (.int .i64 n1), .v (.string s2), .v (.int .i64 n3), .s 1 l4, .s 5 l5], .g [.v (.int .i64 n6), .v (.string s7), .v (.int .i64 n8), .s 1 l9, .s 5 l10]] = (
 bif (n1 != n6) then (
 some ⟨.d (.v (.bool false)), []⟩) else (
 bif (!(D9 s2 s7)) then (
 some ⟨.d (.v (.bool false)), []⟩) else (
 bif (n3 != n8) then (
 some ⟨.d (.v (.bool false)), []⟩) else (
 C8 T 127 [.d (.s 1 l4), .d (.s 1 l9)] fun o11 =>
 oD o11.res fun d12 =>
 dB d12 fun b13 =>
 bif (!b13) then (
 some ⟨.d (.v (.bool false)), []⟩) else (
 C8 T 128 [.d (.s 5 l5), .d (.s 5 l10)] fun o14 =>
 oD o14.res fun d15 =>
 dB d15 fun b16 =>
 bif (!b16) then (
 some ⟨.d (.v (.bool false)), []⟩) else (
 some ⟨.d (.v (.bool true)), []⟩)))))) := by kernel_rfl
/- loop.example/g00119/laws.eqWork -/
def a63 : AFun := ⟨[.rd, .rd], false, [.t 4], (
 .seq (.g [oQ 2 (.box (.t 0)), oQ 3 (.box (.t 1)), oV 4 false]) (
 .seq (.seq (.g [oF 5 0 2, oW 6 kI 5, oF 7 0 3, oW 8 kI 7, oB 9 .neq 6 8]) (
 .cond (.t 9) (.seq (.g [oV 4 false]) (
 .ret)) (.skip))) (
 .seq (.seq (.g [oF 10 1 2, oW 11 kI 10, oF 12 1 3, oW 13 kI 12, oB 14 .neq 11 13]) (
 .cond (.t 14) (.seq (.g [oV 4 false]) (
 .ret)) (.skip))) (
 .seq (.seq (.g [oF 15 2 2, oL 16 [kI, .s, kI, .sl 1, .sl 5] 15, oF 17 2 3, oL 18 [kI, .s, kI, .sl 1, .sl 5] 17, oC 19 99 [.c .b] [16, 18], oN 20 19]) (
 .cond (.t 20) (.seq (.g [oV 4 false]) (
 .ret)) (.skip))) (
 .seq (.g [oV 4 true]) (
 .ret))))))⟩
theorem D44 (T : Table) (k : Nat) (n1 n2 n3 n5 n8 n9 n10 n12 : Int) (s4 s11 : ByteArray) (l6 l7 l13 l14 : Rows): H9 T k a63 [.g [.v (.int .i64 n1), .v (.int .i64 n2), .v (.int .i64 n3), .v (.string s4), .v (.int .i64 n5), .s 1 l6, .s 5 l7], .g [.v (.int .i64 n8), .v (.int .i64 n9), .v (.int .i64 n10), .v (.string s11), .v (.int .i64 n12), .s 1 l13, .s 5 l14]] = (
 bif (n1 != n8) then (
 some ⟨.d (.v (.bool false)), []⟩) else (
 bif (n2 != n9) then (
 some ⟨.d (.v (.bool false)), []⟩) else (
 C8 T 99 [.g [.v (.int .i64 n3), .v (.string s4), .v (.int .i64 n5), .s 1 l6, .s 5 l7], .g [.v (.int .i64 n10), .v (.string s11), .v (.int .i64 n12), .s 1 l13, .s 5 l14]] fun o15 =>
 oD o15.res fun d16 =>
 dB d16 fun b17 =>
 bif (!b17) then (
 some ⟨.d (.v (.bool false)), []⟩) else (
 some ⟨.d (.v (.bool true)), []⟩)))) := by kernel_rfl
/- loop.example/g00119/laws.eqWorkS -/
def C90 : ACode := (
 .seq (.seq (.g [oM 11 5, oM 12 0, oZ 13 12, oB 14 .lss 11 13]) (
 .cond (.t 14) (.skip) (.exit 0))) (
 .seq (.block 1 (.seq (.dreg [] [(0, oM 17 0), (0, oM 18 5), (0, oI 19 7 17 18), (0, oL 20 [kI, kI, kI, .s, kI, .sl 1, .sl 5] 19), (0, oM 21 1), (0, oM 22 5), (0, oI 23 7 21 22), (0, oL 24 [kI, kI, kI, .s, kI, .sl 1, .sl 5] 23)] [oC 25 63 [.c .b] [20, 24], oN 26 25]) (
 .cond (.t 26) (.seq (.g [oV 4 false]) (
 .ret)) (.skip)))) (
 .g [oM 15 5, oBi 16 .add 15 1, oM 5 16])))
def C91 : K4 := [(.ret, [(4, .c .b)]), ((.exit 0), [])]
noncomputable def B6y (T : Table) (k : Nat) := K7 (J5 ⟨T, [], []⟩ k C90 (Ex × List AV)) [0, 1, 5] C91
def a37 : AFun := ⟨[.rd, .rd], false, [.t 4], (
 .seq (.g [oV 4 false]) (
 .seq (.seq (.g [oM 6 0, oZ 7 6, oM 8 1, oZ 9 8, oB 10 .neq 7 9]) (
 .cond (.t 10) (.seq (.g [oV 4 false]) (
 .ret)) (.skip))) (
 .seq (.seq (.g [oK 5 0]) (
 .block 0 (.loop [0, 1, 5] C91 C90))) (
 .seq (.g [oV 4 true]) (
 .ret)))))⟩
theorem C4y (T : Table) (k n : Nat) (l3 l4 : Rows) (n5 : Int): B6y T k (n + 1) [.fz 7 l3, .fz 7 l4, .v (.int .i64 n5)] = (
 bif (decide (n5 < (l3.length : Int))) then (
 tst (decide (0 ≤ n5)) (
 look l3 (Int.toNat n5) fun r6 =>
 cI .i64 r6 0 fun n7 =>
 cI .i64 r6 1 fun n8 =>
 cI .i64 r6 2 fun n9 =>
 cS r6 3 fun s10 =>
 cI .i64 r6 4 fun n11 =>
 cL 1 r6 5 fun l12 =>
 cL 5 r6 6 fun l13 =>
 tst (decide (0 ≤ n5)) (
 look l4 (Int.toNat n5) fun r14 =>
 cI .i64 r14 0 fun n15 =>
 cI .i64 r14 1 fun n16 =>
 cI .i64 r14 2 fun n17 =>
 cS r14 3 fun s18 =>
 cI .i64 r14 4 fun n19 =>
 cL 1 r14 5 fun l20 =>
 cL 5 r14 6 fun l21 =>
 C8 T 63 [.g [.v (.int .i64 n7), .v (.int .i64 n8), .v (.int .i64 n9), .v (.string s10), .v (.int .i64 n11), .s 1 l12, .s 5 l13], .g [.v (.int .i64 n15), .v (.int .i64 n16), .v (.int .i64 n17), .v (.string s18), .v (.int .i64 n19), .s 1 l20, .s 5 l21]] fun o22 =>
 oD o22.res fun d23 =>
 dB d23 fun b24 =>
 bif (!b24) then (
 some (.ret, [.v (.bool false)])) else (
 B6y T k n [.fz 7 l3, .fz 7 l4, .v (.int .i64 (IntKind.wrap .i64 (n5 + 1)))])))) else (
 some ((.exit 0), []))) := by kernel_rfl
theorem D45 (T : Table) (k : Nat) (l1 l2 : Rows): H9 T k a37 [.d (.s 7 l1), .d (.s 7 l2)] = (
 bif ((l1.length : Int) != (l2.length : Int)) then (
 some ⟨.d (.v (.bool false)), []⟩) else (
 aft (B6y T k k [.fz 7 l1, .fz 7 l2, .v (.int .i64 0)]) fun e25 ys26 =>
 bif e25.same .ret then (
 aV ys26 0 fun x27 =>
 aB x27 fun b28 =>
 some ⟨.d (.v (.bool b28)), []⟩) else (
 bif e25.same (.exit 0) then (
 some ⟨.d (.v (.bool true)), []⟩) else (
 none)))) := by kernel_rfl
/- loop.example/g00119/laws.eqRun -/
def a64 : AFun := ⟨[.rd, .rd], false, [.t 4], (
 .seq (.g [oQ 2 (.box (.t 0)), oQ 3 (.box (.t 1)), oV 4 false]) (
 .seq (.seq (.g [oF 5 0 2, oW 6 kI 5, oF 7 0 3, oW 8 kI 7, oB 9 .neq 6 8]) (
 .cond (.t 9) (.seq (.g [oV 4 false]) (
 .ret)) (.skip))) (
 .seq (.seq (.g [oF 10 1 2, oW 11 kI 10, oF 12 1 3, oW 13 kI 12, oB 14 .neq 11 13]) (
 .cond (.t 14) (.seq (.g [oV 4 false]) (
 .ret)) (.skip))) (
 .seq (.g [oV 4 true]) (
 .ret)))))⟩
theorem D46 (T : Table) (k : Nat) (n1 n2 n3 n4 : Int): H9 T k a64 [.g [.v (.int .i64 n1), .v (.int .i64 n2)], .g [.v (.int .i64 n3), .v (.int .i64 n4)]] = (
 bif (n1 != n3) then (
 some ⟨.d (.v (.bool false)), []⟩) else (
 bif (n2 != n4) then (
 some ⟨.d (.v (.bool false)), []⟩) else (
 some ⟨.d (.v (.bool true)), []⟩))) := by kernel_rfl
/- loop.example/g00119/laws.eqRunS -/
def C92 : ACode := (
 .seq (.seq (.g [oM 11 5, oM 12 0, oZ 13 12, oB 14 .lss 11 13]) (
 .cond (.t 14) (.skip) (.exit 0))) (
 .seq (.block 1 (.seq (.dreg [] [(0, oM 17 0), (0, oM 18 5), (0, oI 19 2 17 18), (0, oL 20 [kI, kI] 19), (0, oM 21 1), (0, oM 22 5), (0, oI 23 2 21 22), (0, oL 24 [kI, kI] 23)] [oC 25 64 [.c .b] [20, 24], oN 26 25]) (
 .cond (.t 26) (.seq (.g [oV 4 false]) (
 .ret)) (.skip)))) (
 .g [oM 15 5, oBi 16 .add 15 1, oM 5 16])))
def C93 : K4 := [(.ret, [(4, .c .b)]), ((.exit 0), [])]
noncomputable def B6z (T : Table) (k : Nat) := K7 (J5 ⟨T, [], []⟩ k C92 (Ex × List AV)) [0, 1, 5] C93
def a38 : AFun := ⟨[.rd, .rd], false, [.t 4], (
 .seq (.g [oV 4 false]) (
 .seq (.seq (.g [oM 6 0, oZ 7 6, oM 8 1, oZ 9 8, oB 10 .neq 7 9]) (
 .cond (.t 10) (.seq (.g [oV 4 false]) (
 .ret)) (.skip))) (
 .seq (.seq (.g [oK 5 0]) (
 .block 0 (.loop [0, 1, 5] C93 C92))) (
 .seq (.g [oV 4 true]) (
 .ret)))))⟩
theorem C4z (T : Table) (k n : Nat) (l3 l4 : Rows) (n5 : Int): B6z T k (n + 1) [.fz 2 l3, .fz 2 l4, .v (.int .i64 n5)] = (
 bif (decide (n5 < (l3.length : Int))) then (
 tst (decide (0 ≤ n5)) (
 look l3 (Int.toNat n5) fun r6 =>
 cI .i64 r6 0 fun n7 =>
 cI .i64 r6 1 fun n8 =>
 tst (decide (0 ≤ n5)) (
 look l4 (Int.toNat n5) fun r9 =>
 cI .i64 r9 0 fun n10 =>
 cI .i64 r9 1 fun n11 =>
 C8 T 64 [.g [.v (.int .i64 n7), .v (.int .i64 n8)], .g [.v (.int .i64 n10), .v (.int .i64 n11)]] fun o12 =>
 oD o12.res fun d13 =>
 dB d13 fun b14 =>
 bif (!b14) then (
 some (.ret, [.v (.bool false)])) else (
 B6z T k n [.fz 2 l3, .fz 2 l4, .v (.int .i64 (IntKind.wrap .i64 (n5 + 1)))])))) else (
 some ((.exit 0), []))) := by kernel_rfl
theorem D47 (T : Table) (k : Nat) (l1 l2 : Rows): H9 T k a38 [.d (.s 2 l1), .d (.s 2 l2)] = (
 bif ((l1.length : Int) != (l2.length : Int)) then (
 some ⟨.d (.v (.bool false)), []⟩) else (
 aft (B6z T k k [.fz 2 l1, .fz 2 l2, .v (.int .i64 0)]) fun e15 ys16 =>
 bif e15.same .ret then (
 aV ys16 0 fun x17 =>
 aB x17 fun b18 =>
 some ⟨.d (.v (.bool b18)), []⟩) else (
 bif e15.same (.exit 0) then (
 some ⟨.d (.v (.bool true)), []⟩) else (
 none)))) := by kernel_rfl
/- loop.example/g00119/laws.eqMsg -/
def a13 : AFun := ⟨[.rd, .rd], false, [.t 4], (
 .seq (.g [oQ 2 (.box (.t 0)), oQ 3 (.box (.t 1)), oV 4 false]) (
 .seq (.seq (.g [oF 5 0 2, oW 6 kI 5, oF 7 0 3, oW 8 kI 7, oB 9 .neq 6 8]) (
 .cond (.t 9) (.seq (.g [oV 4 false]) (
 .ret)) (.skip))) (
 .seq (.seq (.g [oF 10 1 2, oW 11 .s 10, oF 12 1 3, oW 13 .s 12, oB 14 .neq 11 13]) (
 .cond (.t 14) (.seq (.g [oV 4 false]) (
 .ret)) (.skip))) (
 .seq (.seq (.g [oF 15 2 2, oW 16 kI 15, oF 17 2 3, oW 18 kI 17, oB 19 .neq 16 18]) (
 .cond (.t 19) (.seq (.g [oV 4 false]) (
 .ret)) (.skip))) (
 .seq (.seq (.g [oF 20 3 2, oW 21 (.sl 7) 20, oF 22 3 3, oW 23 (.sl 7) 22, oC 24 37 [.c .b] [21, 23], oN 25 24]) (
 .cond (.t 25) (.seq (.g [oV 4 false]) (
 .ret)) (.skip))) (
 .seq (.seq (.g [oF 26 4 2, oW 27 (.sl 2) 26, oF 28 4 3, oW 29 (.sl 2) 28, oC 30 38 [.c .b] [27, 29], oN 31 30]) (
 .cond (.t 31) (.seq (.g [oV 4 false]) (
 .ret)) (.skip))) (
 .seq (.g [oV 4 true]) (
 .ret))))))))⟩
theorem D48 (T : Table) (k : Nat) (n1 n3 n6 n8 : Int) (s2 s7 : ByteArray) (l4 l5 l9 l10 : Rows): H9 T k a13 [.g [.v (.int .i64 n1), .v (.string s2), .v (.int .i64 n3), .s 7 l4, .s 2 l5], .g [.v (.int .i64 n6), .v (.string s7), .v (.int .i64 n8), .s 7 l9, .s 2 l10]] = (
 bif (n1 != n6) then (
 some ⟨.d (.v (.bool false)), []⟩) else (
 bif (!(D9 s2 s7)) then (
 some ⟨.d (.v (.bool false)), []⟩) else (
 bif (n3 != n8) then (
 some ⟨.d (.v (.bool false)), []⟩) else (
 C8 T 37 [.d (.s 7 l4), .d (.s 7 l9)] fun o11 =>
 oD o11.res fun d12 =>
 dB d12 fun b13 =>
 bif (!b13) then (
 some ⟨.d (.v (.bool false)), []⟩) else (
 C8 T 38 [.d (.s 2 l5), .d (.s 2 l10)] fun o14 =>
 oD o14.res fun d15 =>
 dB d15 fun b16 =>
 bif (!b16) then (
 some ⟨.d (.v (.bool false)), []⟩) else (
 some ⟨.d (.v (.bool true)), []⟩)))))) := by kernel_rfl
end Go.Am.Pm
