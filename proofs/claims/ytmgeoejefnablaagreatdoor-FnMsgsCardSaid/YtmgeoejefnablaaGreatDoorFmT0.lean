/- What the functions come to, printed: equations by the kernel. Nothing is assumed. -/
import Derived.Test.YtmgeoejefnablaaGreatDoorAnA
import Derived.KernelRfl
namespace Go.Am.Fm
variable {SK : Src}
set_option linter.unusedVariables false
set_option linter.unusedSimpArgs false
set_option maxRecDepth 8000
/- loop.example/g00119/laws.big -/
def a5 : AFun := ⟨[.rd], false, [.t 2], (
 .seq (.g [oV 2 false]) (
 .seq (.g [oM 3 0, oQ 4 (.more (.lnh (.t 3))), oBi 5 .gtr 4 1048576, oM 2 5]) (
 .ret)))⟩
theorem a5q (T : Table) (k m2 m3 : Nat) (a1 : Option Addr): evalF T k a5 [.d (.v (.slice a1 m2 m3))] = (
 some ⟨.d (.v (.bool (decide ((m2 : Int) > 1048576)))), []⟩) := by kernel_rfl
/- loop.example/g00119/spec.l1New -/
def b16x0 : ACode := (
 .seq (.seq (.g [oM 8 4, oM 9 0, oQ 10 (.more (.lnh (.t 9))), oB 11 .lss 8 10, oM 12 11, oJ 13 12 true (.mv (.t 4)), oJ 14 12 true (.bin .lss (.t 13) (.i 4000)), oQ 15 (.pick (.t 12) (.t 14) (.b false))]) (
 .cond (.t 15) (.skip) (.exit 0))) (
 .seq (.block 1 (.g [oM 18 3, oBi 19 .mul 18 137, oM 20 0, oM 21 4, oQ 22 (.cod 71 (.t 20) (.t 21)), oW 23 (.i .u8) 22, oQ 24 (.conv (.int .i64) (.t 23)), oB 25 .add 19 24, oBi 26 .add 25 11, oBi 27 .and 26 1073741823, oM 3 27])) (
 .g [oM 16 4, oBi 17 .add 16 1, oM 4 17])))
def e16x0 : Exits := [((.exit 0), [(0, .c .h), (3, .c kI)])]
noncomputable def l16x0 (T : Table) (k : Nat) := loopN (evalC ⟨T, [], []⟩ k b16x0 (Ex × List AV)) [0, 3, 4] e16x0
def a16 : AFun := ⟨[.rd], false, [.t 2], (
 .seq (.g [oQ 2 (.mv (.c .u))]) (
 .seq (.g [oM 5 0, oQ 6 (.more (.lnh (.t 5))), oQ 7 (.bin .add (.i 138138) (.t 6)), oM 3 7]) (
 .seq (.seq (.g [oK 4 0]) (
 .block 0 (.loop [0, 3, 4] e16x0 b16x0))) (
 .seq (.g [oM 28 0, oM 29 3, oQ 30 (.build [.v (.slice none 0 0), .v (.int .i64 0), .v (.int .i64 0)] [(0, 1, (.t 28)), (2, 1, (.t 29))]), oQ 31 (.box (.t 30)), oM 2 31]) (
 .ret)))))⟩
theorem l16x0s (T : Table) (k n m5 m6 : Nat) (a4 : Option Addr) (n7 n8 : Int): l16x0 T k (n + 1) [.v (.slice a4 m5 m6), .v (.int .i64 n7), .v (.int .i64 n8)] = (
 bif (decide (n8 < (m5 : Int))) == true then (
 bif (decide (n8 < 4000)) then (
 callT T 0 [.f 71 [], .d (.v (.slice a4 m5 m6)), .d (.v (.int .i64 n8))] fun o9 =>
 oD o9.res fun d10 =>
 dI .u8 d10 fun n11 =>
 l16x0 T k n [.v (.slice a4 m5 m6), .v (.int .i64 (andI .i64 (IntKind.wrap .i64 ((IntKind.wrap .i64 ((IntKind.wrap .i64 (n7 * 137)) + (IntKind.wrap .i64 n11))) + 11)) 1073741823)), .v (.int .i64 (IntKind.wrap .i64 (n8 + 1)))]) else (
 some ((.exit 0), [.v (.slice a4 m5 m6), .v (.int .i64 n7)]))) else (
 some ((.exit 0), [.v (.slice a4 m5 m6), .v (.int .i64 n7)]))) := by kernel_rfl
theorem a16q (T : Table) (k m2 m3 : Nat) (a1 : Option Addr): evalF T k a16 [.d (.v (.slice a1 m2 m3))] = (
 aft (l16x0 T k k [.v (.slice a1 m2 m3), .v (.int .i64 (IntKind.wrap .i64 (138138 + (m2 : Int)))), .v (.int .i64 0)]) fun e12 ys13 =>
 bif e12.same (.exit 0) then (
 aV ys13 0 fun x14 =>
 aH x14 fun a15 m16 m17 =>
 aV ys13 1 fun x18 =>
 aI .i64 x18 fun n19 =>
 some ⟨.p [.v (.slice a15 m16 m17), .v (.int .i64 0), .v (.int .i64 n19)], []⟩) else (
 none)) := by kernel_rfl
/- loop.example/g00119/spec.l1Byte -/
def a71 : AFun := ⟨[.lent], false, [.t 2], (
 .seq (.g [oK 2 0]) (
 .seq (.g [oM 4 0, oM 5 0, oQ 6 (.more (.nck (.t 5))), oF 7 2 6, oW 8 kI 7, oBi 9 .mul 8 6364136223846793005, oBi 10 .add 9 1442695040888963407, oQ 11 (.more (.nck (.t 4))), oF 12 2 11, oS (.store 1 (.t 12) (.t 10))]) (
 .seq (.dreg [] [(0, oM 13 0), (0, oQ 14 (.more (.nck (.t 13)))), (0, oF 15 2 14), (0, oW 16 kI 15), (0, oQ 17 (.more (.shr 33 (.t 16)))), (0, oM 18 0), (0, oQ 19 (.more (.nck (.t 18)))), (0, oF 20 2 19), (0, oW 21 kI 20), (0, oQ 22 (.more (.shr 47 (.t 21))))] [oB 23 .xor 17 22, oBi 24 .and 23 255, oM 3 24]) (
 .seq (.seq (.dreg [] [(0, oM 25 0), (0, oQ 26 (.more (.nck (.t 25)))), (0, oF 27 1 26), (0, oW 28 kI 27), (0, oM 29 0), (0, oQ 30 (.more (.nck (.t 29)))), (0, oF 31 0 30), (0, oW 32 .h 31), (0, oQ 33 (.more (.lnh (.t 32))))] [oB 34 .lss 28 33]) (
 .cond (.t 34) (.seq (.dreg [] [(3, oM 35 3), (0, oM 36 0), (0, oQ 37 (.more (.nck (.t 36)))), (0, oF 38 0 37), (0, oW 39 .h 38), (0, oM 40 0), (0, oQ 41 (.more (.nck (.t 40)))), (0, oF 42 1 41), (0, oW 43 kI 42)] [oQ 44 (.cod 71 (.t 39) (.t 43)), oW 45 (.i .u8) 44, oQ 46 (.conv (.int .i64) (.t 45)), oB 47 .add 35 46, oBi 48 .and 47 255, oM 3 48]) (
 .g [oM 49 0, oM 50 0, oQ 51 (.more (.nck (.t 50))), oF 52 1 51, oW 53 kI 52, oBi 54 .add 53 1, oQ 55 (.more (.nck (.t 49))), oF 56 1 55, oS (.store 1 (.t 56) (.t 54))])) (.skip))) (
 .seq (.g [oM 57 3, oM 2 57]) (
 .ret))))))⟩
theorem a71q (T : Table) (k m2 m3 : Nat) (a1 : Option Addr) (n4 n5 : Int): evalF T k a71 [.p [.v (.slice a1 m2 m3), .v (.int .i64 n4), .v (.int .i64 n5)]] = (
 bif (decide (n4 < (m2 : Int))) then (
 callT T 0 [.f 71 [], .d (.v (.slice a1 m2 m3)), .d (.v (.int .i64 n4))] fun o6 =>
 oD o6.res fun d7 =>
 dI .u8 d7 fun n8 =>
 some ⟨.d (.v (.int .i64 (andI .i64 (IntKind.wrap .i64 ((andI .i64 (xorI .i64 (Int.fdiv (IntKind.wrap .i64 ((IntKind.wrap .i64 (n5 * 6364136223846793005)) + 1442695040888963407)) (2 ^ 33)) (Int.fdiv (IntKind.wrap .i64 ((IntKind.wrap .i64 (n5 * 6364136223846793005)) + 1442695040888963407)) (2 ^ 47))) 255) + (IntKind.wrap .i64 n8))) 255))), [.p [.v (.slice a1 m2 m3), .v (.int .i64 (IntKind.wrap .i64 (n4 + 1))), .v (.int .i64 (IntKind.wrap .i64 ((IntKind.wrap .i64 (n5 * 6364136223846793005)) + 1442695040888963407)))]]⟩) else (
 some ⟨.d (.v (.int .i64 (andI .i64 (xorI .i64 (Int.fdiv (IntKind.wrap .i64 ((IntKind.wrap .i64 (n5 * 6364136223846793005)) + 1442695040888963407)) (2 ^ 33)) (Int.fdiv (IntKind.wrap .i64 ((IntKind.wrap .i64 (n5 * 6364136223846793005)) + 1442695040888963407)) (2 ^ 47))) 255))), [.p [.v (.slice a1 m2 m3), .v (.int .i64 n4), .v (.int .i64 (IntKind.wrap .i64 ((IntKind.wrap .i64 (n5 * 6364136223846793005)) + 1442695040888963407)))]]⟩)) := by kernel_rfl
/- loop.example/g00119/spec.l1Below -/
def a44 : AFun := ⟨[.lent, .rd], false, [.t 4], (
 .seq (.g [oK 4 0]) (
 .seq (.seq (.g [oM 8 1, oBi 9 .leq 8 0]) (
 .cond (.t 9) (.seq (.g [oK 4 0]) (
 .ret)) (.skip))) (
 .seq (.seq (.g [oM 10 1, oBi 11 .leq 10 256]) (
 .cond (.t 11) (.seq (.g [oM 12 0, oQ 13 (.call (.f 71) [.lent] false [.c kI] [.t 12]), oM 14 1, oB 15 .rem 13 14, oM 4 15]) (
 .ret)) (.skip))) (
 .seq (.g [oM 16 0, oQ 17 (.call (.f 71) [.lent] false [.c kI] [.t 16]), oM 5 17]) (
 .seq (.g [oM 18 0, oQ 19 (.call (.f 71) [.lent] false [.c kI] [.t 18]), oM 6 19]) (
 .seq (.g [oM 20 0, oQ 21 (.call (.f 71) [.lent] false [.c kI] [.t 20]), oM 7 21]) (
 .seq (.g [oM 22 5, oBi 23 .mul 22 65536, oM 24 6, oBi 25 .mul 24 256, oB 26 .add 23 25, oM 27 7, oB 28 .add 26 27, oM 29 1, oB 30 .rem 28 29, oM 4 30]) (
 .ret))))))))⟩
theorem a44q (T : Table) (k m2 m3 : Nat) (a1 : Option Addr) (n4 n5 n6 : Int): evalF T k a44 [.p [.v (.slice a1 m2 m3), .v (.int .i64 n4), .v (.int .i64 n5)], .d (.v (.int .i64 n6))] = (
 bif (decide (n6 ≤ 0)) then (
 some ⟨.d (.v (.int .i64 0)), [.p [.v (.slice a1 m2 m3), .v (.int .i64 n4), .v (.int .i64 n5)]]⟩) else (
 bif (decide (n6 ≤ 256)) then (
 callT T 71 [.p [.v (.slice a1 m2 m3), .v (.int .i64 n4), .v (.int .i64 n5)]] fun o7 =>
 nth o7.back 0 fun i8 =>
 oP i8 fun r9 =>
 tst (Nat.beq r9.length 3) (
 cH r9 0 fun a10 m11 m12 =>
 cI .i64 r9 1 fun n13 =>
 cI .i64 r9 2 fun n14 =>
 oD o7.res fun d15 =>
 dI .i64 d15 fun n16 =>
 tst (decide (n6 ≠ 0)) (
 some ⟨.d (.v (.int .i64 (Int.tmod n16 n6))), [.p [.v (.slice a10 m11 m12), .v (.int .i64 n13), .v (.int .i64 n14)]]⟩))) else (
 callT T 71 [.p [.v (.slice a1 m2 m3), .v (.int .i64 n4), .v (.int .i64 n5)]] fun o17 =>
 nth o17.back 0 fun i18 =>
 oP i18 fun r19 =>
 tst (Nat.beq r19.length 3) (
 cH r19 0 fun a20 m21 m22 =>
 cI .i64 r19 1 fun n23 =>
 cI .i64 r19 2 fun n24 =>
 oD o17.res fun d25 =>
 dI .i64 d25 fun n26 =>
 callT T 71 [.p [.v (.slice a20 m21 m22), .v (.int .i64 n23), .v (.int .i64 n24)]] fun o27 =>
 nth o27.back 0 fun i28 =>
 oP i28 fun r29 =>
 tst (Nat.beq r29.length 3) (
 cH r29 0 fun a30 m31 m32 =>
 cI .i64 r29 1 fun n33 =>
 cI .i64 r29 2 fun n34 =>
 oD o27.res fun d35 =>
 dI .i64 d35 fun n36 =>
 callT T 71 [.p [.v (.slice a30 m31 m32), .v (.int .i64 n33), .v (.int .i64 n34)]] fun o37 =>
 nth o37.back 0 fun i38 =>
 oP i38 fun r39 =>
 tst (Nat.beq r39.length 3) (
 cH r39 0 fun a40 m41 m42 =>
 cI .i64 r39 1 fun n43 =>
 cI .i64 r39 2 fun n44 =>
 oD o37.res fun d45 =>
 dI .i64 d45 fun n46 =>
 tst (decide (n6 ≠ 0)) (
 some ⟨.d (.v (.int .i64 (Int.tmod (IntKind.wrap .i64 ((IntKind.wrap .i64 ((IntKind.wrap .i64 (n26 * 65536)) + (IntKind.wrap .i64 (n36 * 256)))) + n46)) n6))), [.p [.v (.slice a40 m41 m42), .v (.int .i64 n43), .v (.int .i64 n44)]]⟩))))))) := by kernel_rfl
/- loop.example/g00119/spec.l1Str -/
def a70 : AFun := ⟨[.lent, .rd], false, [.t 4], (
 .seq (.g [oQ 4 (.mv (.c (.v (.string ({ data := #[] } : ByteArray)))))]) (
 .seq (.g [oM 5 1, oM 6 0, oM 7 1, oZ 8 7, oQ 9 (.call (.f 44) [.lent, .rd] false [.c kI] [.t 6, .t 8]), oI 10 1 5 9, oW 11 .s 10, oM 4 11]) (
 .ret)))⟩
theorem a70q (T : Table) (k m2 m3 : Nat) (a1 : Option Addr) (n4 n5 : Int) (l6 : Rows): evalF T k a70 [.p [.v (.slice a1 m2 m3), .v (.int .i64 n4), .v (.int .i64 n5)], .d (.s 1 l6)] = (
 callT T 44 [.p [.v (.slice a1 m2 m3), .v (.int .i64 n4), .v (.int .i64 n5)], .d (.v (.int .i64 (l6.length : Int)))] fun o7 =>
 nth o7.back 0 fun i8 =>
 oP i8 fun r9 =>
 tst (Nat.beq r9.length 3) (
 cH r9 0 fun a10 m11 m12 =>
 cI .i64 r9 1 fun n13 =>
 cI .i64 r9 2 fun n14 =>
 oD o7.res fun d15 =>
 dI .i64 d15 fun n16 =>
 tst (decide (0 ≤ n16)) (
 look l6 (Int.toNat n16) fun r17 =>
 cS r17 0 fun s18 =>
 some ⟨.d (.v (.string s18)), [.p [.v (.slice a10 m11 m12), .v (.int .i64 n13), .v (.int .i64 n14)]]⟩))) := by kernel_rfl
/- loop.example/g00119/spec.l11Name -/
def a43 : AFun := ⟨[.lent], false, [.t 2], (
 .seq (.g [oQ 2 (.mv (.c (.v (.string ({ data := #[] } : ByteArray)))))]) (
 .seq (.g [oM 3 0, oQ 4 (.lit 1 ([[.v (.string ByteArray.empty)], [.v (.string ByteArray.empty)], [.v (.string ByteArray.empty)], [.v (.string ByteArray.empty)], [.v (.string ByteArray.empty)]] : Rows) [(0, (.c (.v (.string ({ data := #[97] } : ByteArray))))), (1, (.c (.v (.string ({ data := #[98] } : ByteArray))))), (2, (.c (.v (.string ({ data := #[99] } : ByteArray))))), (3, (.c (.v (.string ({ data := #[100] } : ByteArray))))), (4, (.c (.v (.string ({ data := #[101] } : ByteArray)))))]), oQ 5 (.call (.f 70) [.lent, .rd] false [.c .s] [.t 3, .t 4]), oM 2 5]) (
 .ret)))⟩
theorem a43q (T : Table) (k m2 m3 : Nat) (a1 : Option Addr) (n4 n5 : Int): evalF T k a43 [.p [.v (.slice a1 m2 m3), .v (.int .i64 n4), .v (.int .i64 n5)]] = (
 callT T 70 [.p [.v (.slice a1 m2 m3), .v (.int .i64 n4), .v (.int .i64 n5)], .d (.s 1 ([[.v (.string ({ data := #[97] } : ByteArray))], [.v (.string ({ data := #[98] } : ByteArray))], [.v (.string ({ data := #[99] } : ByteArray))], [.v (.string ({ data := #[100] } : ByteArray))], [.v (.string ({ data := #[101] } : ByteArray))]] : Rows))] fun o6 =>
 nth o6.back 0 fun i7 =>
 oP i7 fun r8 =>
 tst (Nat.beq r8.length 3) (
 cH r8 0 fun a9 m10 m11 =>
 cI .i64 r8 1 fun n12 =>
 cI .i64 r8 2 fun n13 =>
 oD o6.res fun d14 =>
 dS d14 fun s15 =>
 some ⟨.d (.v (.string s15)), [.p [.v (.slice a9 m10 m11), .v (.int .i64 n12), .v (.int .i64 n13)]]⟩)) := by kernel_rfl
/- loop.example/g00119/spec.l1Once -/
def a46 : AFun := ⟨[.lent, .rd], false, [.t 4], (
 .seq (.g [oV 4 false]) (
 .seq (.g [oM 5 0, oM 6 1, oQ 7 (.call (.f 44) [.lent, .rd] false [.c kI] [.t 5, .t 6]), oBi 8 .eql 7 0, oM 4 8]) (
 .ret)))⟩
theorem a46q (T : Table) (k m2 m3 : Nat) (a1 : Option Addr) (n4 n5 n6 : Int): evalF T k a46 [.p [.v (.slice a1 m2 m3), .v (.int .i64 n4), .v (.int .i64 n5)], .d (.v (.int .i64 n6))] = (
 callT T 44 [.p [.v (.slice a1 m2 m3), .v (.int .i64 n4), .v (.int .i64 n5)], .d (.v (.int .i64 n6))] fun o7 =>
 nth o7.back 0 fun i8 =>
 oP i8 fun r9 =>
 tst (Nat.beq r9.length 3) (
 cH r9 0 fun a10 m11 m12 =>
 cI .i64 r9 1 fun n13 =>
 cI .i64 r9 2 fun n14 =>
 oD o7.res fun d15 =>
 dI .i64 d15 fun n16 =>
 some ⟨.d (.v (.bool (n16 == 0))), [.p [.v (.slice a10 m11 m12), .v (.int .i64 n13), .v (.int .i64 n14)]]⟩)) := by kernel_rfl
/- loop.example/g00119/spec.l1Int -/
def a49 : AFun := ⟨[.lent, .rd], false, [.t 4], (
 .seq (.g [oK 4 0]) (
 .seq (.g [oM 5 1, oM 6 0, oM 7 1, oZ 8 7, oQ 9 (.call (.f 44) [.lent, .rd] false [.c kI] [.t 6, .t 8]), oI 10 1 5 9, oW 11 kI 10, oM 4 11]) (
 .ret)))⟩
theorem a49q (T : Table) (k m2 m3 : Nat) (a1 : Option Addr) (n4 n5 : Int) (l6 : Rows): evalF T k a49 [.p [.v (.slice a1 m2 m3), .v (.int .i64 n4), .v (.int .i64 n5)], .d (.s 1 l6)] = (
 callT T 44 [.p [.v (.slice a1 m2 m3), .v (.int .i64 n4), .v (.int .i64 n5)], .d (.v (.int .i64 (l6.length : Int)))] fun o7 =>
 nth o7.back 0 fun i8 =>
 oP i8 fun r9 =>
 tst (Nat.beq r9.length 3) (
 cH r9 0 fun a10 m11 m12 =>
 cI .i64 r9 1 fun n13 =>
 cI .i64 r9 2 fun n14 =>
 oD o7.res fun d15 =>
 dI .i64 d15 fun n16 =>
 tst (decide (0 ≤ n16)) (
 look l6 (Int.toNat n16) fun r17 =>
 cI .i64 r17 0 fun n18 =>
 some ⟨.d (.v (.int .i64 n18)), [.p [.v (.slice a10 m11 m12), .v (.int .i64 n13), .v (.int .i64 n14)]]⟩))) := by kernel_rfl
/- loop.example/g00119/spec.l1Name -/
def a78 : AFun := ⟨[.lent], false, [.t 2], (
 .seq (.g [oQ 2 (.mv (.c (.v (.string ({ data := #[] } : ByteArray)))))]) (
 .seq (.g [oM 3 0, oQ 4 (.lit 1 ([[.v (.string ByteArray.empty)], [.v (.string ByteArray.empty)], [.v (.string ByteArray.empty)], [.v (.string ByteArray.empty)], [.v (.string ByteArray.empty)], [.v (.string ByteArray.empty)], [.v (.string ByteArray.empty)], [.v (.string ByteArray.empty)], [.v (.string ByteArray.empty)]] : Rows) [(0, (.c (.v (.string ({ data := #[97] } : ByteArray))))), (1, (.c (.v (.string ({ data := #[98] } : ByteArray))))), (2, (.c (.v (.string ({ data := #[99] } : ByteArray))))), (3, (.c (.v (.string ({ data := #[122, 111, 110, 101] } : ByteArray))))), (4, (.c (.v (.string ({ data := #[116, 105, 101, 114] } : ByteArray))))), (5, (.c (.v (.string ({ data := #[103, 111, 108, 100] } : ByteArray))))), (6, (.c (.v (.string ({ data := #[101, 97, 115, 116] } : ByteArray))))), (7, (.c (.v (.string ({ data := #[120, 45, 49] } : ByteArray))))), (8, (.c (.v (.string ({ data := #[97, 98, 99, 100, 101, 102, 103, 104, 105, 106, 107, 108, 109, 110, 111, 112, 113, 114, 115, 116] } : ByteArray)))))]), oQ 5 (.call (.f 70) [.lent, .rd] false [.c .s] [.t 3, .t 4]), oM 2 5]) (
 .ret)))⟩
theorem a78q (T : Table) (k m2 m3 : Nat) (a1 : Option Addr) (n4 n5 : Int): evalF T k a78 [.p [.v (.slice a1 m2 m3), .v (.int .i64 n4), .v (.int .i64 n5)]] = (
 callT T 70 [.p [.v (.slice a1 m2 m3), .v (.int .i64 n4), .v (.int .i64 n5)], .d (.s 1 ([[.v (.string ({ data := #[97] } : ByteArray))], [.v (.string ({ data := #[98] } : ByteArray))], [.v (.string ({ data := #[99] } : ByteArray))], [.v (.string ({ data := #[122, 111, 110, 101] } : ByteArray))], [.v (.string ({ data := #[116, 105, 101, 114] } : ByteArray))], [.v (.string ({ data := #[103, 111, 108, 100] } : ByteArray))], [.v (.string ({ data := #[101, 97, 115, 116] } : ByteArray))], [.v (.string ({ data := #[120, 45, 49] } : ByteArray))], [.v (.string ({ data := #[97, 98, 99, 100, 101, 102, 103, 104, 105, 106, 107, 108, 109, 110, 111, 112, 113, 114, 115, 116] } : ByteArray))]] : Rows))] fun o6 =>
 nth o6.back 0 fun i7 =>
 oP i7 fun r8 =>
 tst (Nat.beq r8.length 3) (
 cH r8 0 fun a9 m10 m11 =>
 cI .i64 r8 1 fun n12 =>
 cI .i64 r8 2 fun n13 =>
 oD o6.res fun d14 =>
 dS d14 fun s15 =>
 some ⟨.d (.v (.string s15)), [.p [.v (.slice a9 m10 m11), .v (.int .i64 n12), .v (.int .i64 n13)]]⟩)) := by kernel_rfl
/- loop.example/g00119/spec.l1In -/
def a21 : AFun := ⟨[.rd, .rd, .rd], false, [.t 6], (
 .seq (.g [oV 6 false]) (
 .seq (.g [oM 7 0, oM 8 1, oB 9 .geq 7 8, oM 10 9, oJ 11 10 true (.mv (.t 0)), oJ 12 10 true (.mv (.t 2)), oJ 13 10 true (.bin .leq (.t 11) (.t 12)), oQ 14 (.pick (.t 10) (.t 13) (.b false)), oM 6 14]) (
 .ret)))⟩
theorem a21q (T : Table) (k : Nat) (n1 n2 n3 : Int): evalF T k a21 [.d (.v (.int .i64 n1)), .d (.v (.int .i64 n2)), .d (.v (.int .i64 n3))] = (
 bif (decide (n1 ≥ n2)) == true then (
 some ⟨.d (.v (.bool (decide (n1 ≤ n3)))), []⟩) else (
 some ⟨.d (.v (.bool false)), []⟩)) := by kernel_rfl
/- loop.example/g00119/spec.NameOk -/
def b20x0 : ACode := (
 .seq (.seq (.g [oM 4 3, oM 5 0, oQ 6 (.len true (.t 5)), oB 7 .lss 4 6]) (
 .cond (.t 7) (.skip) (.exit 0))) (
 .seq (.block 1 (.seq (.g [oM 10 0, oM 11 3, oQ 12 (.idx (.t 10) (.t 11)), oQ 13 (.conv (.int .i64) (.t 12)), oQ 14 (.call (.f 21) [.rd, .rd, .rd] false [.c .b] [.t 13, .i 97, .i 122]), oN 15 14, oM 16 15, oJ 17 16 true (.mv (.t 0)), oJ 18 16 true (.mv (.t 3)), oJ 19 16 true (.idx (.t 17) (.t 18)), oJ 20 16 true (.conv (.int .i64) (.t 19)), oJ 21 16 true (.call (.f 21) [.rd, .rd, .rd] false [.c .b] [.t 20, .i 48, .i 57]), oJ 22 16 true (.un .not (.t 21)), oQ 23 (.pick (.t 16) (.t 22) (.b false)), oM 24 23, oJ 25 24 true (.mv (.t 0)), oJ 26 24 true (.mv (.t 3)), oJ 27 24 true (.idx (.t 25) (.t 26)), oJ 28 24 true (.bin .neq (.t 27) (.c (.v (.int .u8 45)))), oQ 29 (.pick (.t 24) (.t 28) (.b false))]) (
 .cond (.t 29) (.seq (.g [oV 2 false]) (
 .ret)) (.skip)))) (
 .g [oM 8 3, oBi 9 .add 8 1, oM 3 9])))
def e20x0 : Exits := [(.ret, [(2, .c .b)]), ((.exit 0), [(0, .c .s)])]
noncomputable def l20x0 (T : Table) (k : Nat) := loopN (evalC ⟨T, [], []⟩ k b20x0 (Ex × List AV)) [0, 3] e20x0
def a20 : AFun := ⟨[.rd], false, [.t 2], (
 .seq (.g [oV 2 false]) (
 .seq (.seq (.g [oK 3 0]) (
 .block 0 (.loop [0, 3] e20x0 b20x0))) (
 .seq (.g [oM 30 0, oQ 31 (.len true (.t 30)), oQ 32 (.call (.f 21) [.rd, .rd, .rd] false [.c .b] [.t 31, .i 1, .i 20]), oM 33 32, oJ 34 33 true (.mv (.t 0)), oJ 35 33 true (.idx (.t 34) (.i 0)), oJ 36 33 true (.bin .neq (.t 35) (.c (.v (.int .u8 45)))), oQ 37 (.pick (.t 33) (.t 36) (.b false)), oM 38 37, oJ 39 38 true (.mv (.t 0)), oJ 40 38 true (.mv (.t 0)), oJ 41 38 true (.len true (.t 40)), oJ 42 38 true (.bin .sub (.t 41) (.i 1)), oJ 43 38 true (.idx (.t 39) (.t 42)), oJ 44 38 true (.bin .neq (.t 43) (.c (.v (.int .u8 45)))), oQ 45 (.pick (.t 38) (.t 44) (.b false)), oM 2 45]) (
 .ret))))⟩
theorem l20x0s (T : Table) (k n : Nat) (s2 : ByteArray) (n3 : Int): l20x0 T k (n + 1) [.v (.string s2), .v (.int .i64 n3)] = (
 bif (decide (n3 < (s2.size : Int))) then (
 tst (decide (0 ≤ n3)) (
 byteAt s2 (Int.toNat n3) fun c4 =>
 callT T 21 [.d (.v (.int .i64 (IntKind.wrap .i64 (c4.toNat : Int)))), .d (.v (.int .i64 97)), .d (.v (.int .i64 122))] fun o5 =>
 oD o5.res fun d6 =>
 dB d6 fun b7 =>
 bif (!b7) == true then (
 tst (decide (0 ≤ n3)) (
 byteAt s2 (Int.toNat n3) fun c8 =>
 callT T 21 [.d (.v (.int .i64 (IntKind.wrap .i64 (c8.toNat : Int)))), .d (.v (.int .i64 48)), .d (.v (.int .i64 57))] fun o9 =>
 oD o9.res fun d10 =>
 dB d10 fun b11 =>
 bif (!b11) == true then (
 tst (decide (0 ≤ n3)) (
 byteAt s2 (Int.toNat n3) fun c12 =>
 bif ((c12.toNat : Int) != 45) then (
 some (.ret, [.v (.bool false)])) else (
 l20x0 T k n [.v (.string s2), .v (.int .i64 (IntKind.wrap .i64 (n3 + 1)))]))) else (
 l20x0 T k n [.v (.string s2), .v (.int .i64 (IntKind.wrap .i64 (n3 + 1)))]))) else (
 l20x0 T k n [.v (.string s2), .v (.int .i64 (IntKind.wrap .i64 (n3 + 1)))]))) else (
 some ((.exit 0), [.v (.string s2)]))) := by kernel_rfl
theorem a20q (T : Table) (k : Nat) (s1 : ByteArray): evalF T k a20 [.d (.v (.string s1))] = (
 aft (l20x0 T k k [.v (.string s1), .v (.int .i64 0)]) fun e13 ys14 =>
 bif e13.same .ret then (
 aV ys14 0 fun x15 =>
 aB x15 fun b16 =>
 some ⟨.d (.v (.bool b16)), []⟩) else (
 bif e13.same (.exit 0) then (
 aV ys14 0 fun x17 =>
 aS x17 fun s18 =>
 callT T 21 [.d (.v (.int .i64 (s18.size : Int))), .d (.v (.int .i64 1)), .d (.v (.int .i64 20))] fun o19 =>
 oD o19.res fun d20 =>
 dB d20 fun b21 =>
 bif b21 == true then (
 tst (decide (0 ≤ 0)) (
 byteAt s18 (Int.toNat 0) fun c22 =>
 bif ((c22.toNat : Int) != 45) == true then (
 tst (decide (0 ≤ (IntKind.wrap .i64 ((s18.size : Int) - 1)))) (
 byteAt s18 (Int.toNat (IntKind.wrap .i64 ((s18.size : Int) - 1))) fun c23 =>
 some ⟨.d (.v (.bool ((c23.toNat : Int) != 45))), []⟩)) else (
 some ⟨.d (.v (.bool false)), []⟩))) else (
 some ⟨.d (.v (.bool false)), []⟩)) else (
 none))) := by kernel_rfl
/- loop.example/g00119/spec.LabelGet -/
def b145x0 : ACode := (
 .seq (.seq (.g [oM 7 6, oM 8 0, oZ 9 8, oB 10 .lss 7 9]) (
 .cond (.t 10) (.skip) (.exit 0))) (
 .seq (.block 1 (.seq (.g [oM 13 0, oM 14 6, oI 15 2 13 14, oF 16 0 15, oW 17 .s 16, oM 18 1, oB 19 .eql 17 18]) (
 .cond (.t 19) (.seq (.g [oM 20 0, oM 21 6, oI 22 2 20 21, oF 23 1 22, oW 24 .s 23, oM 4 24, oV 5 true]) (
 .ret)) (.skip)))) (
 .g [oM 11 6, oBi 12 .add 11 1, oM 6 12])))
def e145x0 : Exits := [(.ret, [(4, .c .s), (5, .c .b)]), ((.exit 0), [])]
noncomputable def l145x0 (T : Table) (k : Nat) := loopN (evalC ⟨T, [], []⟩ k b145x0 (Ex × List AV)) [0, 1, 6] e145x0
def a145 : AFun := ⟨[.rd, .rd], false, [.t 4, .t 5], (
 .seq (.g [oQ 4 (.mv (.c (.v (.string ({ data := #[] } : ByteArray))))), oV 5 false]) (
 .seq (.seq (.g [oK 6 0]) (
 .block 0 (.loop [0, 1, 6] e145x0 b145x0))) (
 .seq (.g [oQ 4 (.mv (.c (.v (.string ({ data := #[] } : ByteArray))))), oV 5 false]) (
 .ret))))⟩
theorem l145x0s (T : Table) (k n : Nat) (l3 : Rows) (s4 : ByteArray) (n5 : Int): l145x0 T k (n + 1) [.fz 2 l3, .v (.string s4), .v (.int .i64 n5)] = (
 bif (decide (n5 < (l3.length : Int))) then (
 tst (decide (0 ≤ n5)) (
 look l3 (Int.toNat n5) fun r6 =>
 cS r6 0 fun s7 =>
 bif (bytesEq s7 s4) then (
 tst (decide (0 ≤ n5)) (
 look l3 (Int.toNat n5) fun r8 =>
 cS r8 1 fun s9 =>
 some (.ret, [.v (.string s9), .v (.bool true)]))) else (
 l145x0 T k n [.fz 2 l3, .v (.string s4), .v (.int .i64 (IntKind.wrap .i64 (n5 + 1)))]))) else (
 some ((.exit 0), []))) := by kernel_rfl
theorem a145q (T : Table) (k : Nat) (l1 : Rows) (s2 : ByteArray): evalF T k a145 [.d (.s 2 l1), .d (.v (.string s2))] = (
 aft (l145x0 T k k [.fz 2 l1, .v (.string s2), .v (.int .i64 0)]) fun e10 ys11 =>
 bif e10.same .ret then (
 aV ys11 0 fun x12 =>
 aS x12 fun s13 =>
 aV ys11 1 fun x14 =>
 aB x14 fun b15 =>
 some ⟨.t [.d (.v (.string s13)), .d (.v (.bool b15))], []⟩) else (
 bif e10.same (.exit 0) then (
 some ⟨.t [.d (.v (.string ({ data := #[] } : ByteArray))), .d (.v (.bool false))], []⟩) else (
 none))) := by kernel_rfl
/- loop.example/g00119/spec.LabelsOk -/
def b146x0 : ACode := (
 .seq (.seq (.g [oM 4 3, oM 5 0, oZ 6 5, oB 7 .lss 4 6]) (
 .cond (.t 7) (.skip) (.exit 0))) (
 .seq (.block 1 (.seq (.dreg [] [(0, oM 10 0), (0, oM 11 3), (0, oI 12 2 10 11), (0, oF 13 0 12), (0, oW 14 .s 13), (1, oC 15 20 [.c .b] [14]), (0, oN 16 15), (0, oM 17 16), (0, oJ 18 17 false (.mv (.t 0))), (0, oJ 19 17 false (.mv (.t 3))), (0, oJ 20 17 false (.iad 2 (.t 18) (.t 19))), (0, oJ 21 17 false (.fad 1 (.t 20))), (0, oJ 22 17 false (.load false [.s] (.t 21))), (1, oJ 23 17 false (.call (.f 20) [.rd] false [.c .b] [.t 22])), (0, oJ 24 17 false (.un .not (.t 23))), (0, oQ 25 (.pick (.t 17) (.b true) (.t 24))), (0, oM 26 25), (0, oJ 27 26 false (.mv (.t 3))), (0, oJ 28 26 false (.bin .gtr (.t 27) (.i 0))), (0, oJ 29 26 false (.mv (.t 28))), (0, oJ 30 29 true (.mv (.t 0))), (0, oJ 31 29 true (.mv (.t 3))), (0, oJ 32 29 true (.bin .sub (.t 31) (.i 1))), (0, oJ 33 29 true (.iad 2 (.t 30) (.t 32))), (0, oJ 34 29 true (.fad 0 (.t 33))), (0, oJ 35 29 true (.load false [.s] (.t 34))), (0, oJ 36 29 true (.mv (.t 0))), (0, oJ 37 29 true (.mv (.t 3))), (0, oJ 38 29 true (.iad 2 (.t 36) (.t 37))), (0, oJ 39 29 true (.fad 0 (.t 38))), (0, oJ 40 29 true (.load false [.s] (.t 39)))] [oJ 41 29 true (.bin .geq (.t 35) (.t 40)), oJ 42 26 false (.pick (.t 29) (.t 41) (.b false)), oQ 43 (.pick (.t 26) (.b true) (.t 42))]) (
 .cond (.t 43) (.seq (.g [oV 2 false]) (
 .ret)) (.skip)))) (
 .g [oM 8 3, oBi 9 .add 8 1, oM 3 9])))
def e146x0 : Exits := [(.ret, [(2, .c .b)]), ((.exit 0), [(0, .c (.sl 2))])]
noncomputable def l146x0 (T : Table) (k : Nat) := loopN (evalC ⟨T, [], []⟩ k b146x0 (Ex × List AV)) [0, 3] e146x0
def a146 : AFun := ⟨[.rd], false, [.t 2], (
 .seq (.g [oV 2 false]) (
 .seq (.seq (.g [oK 3 0]) (
 .block 0 (.loop [0, 3] e146x0 b146x0))) (
 .seq (.g [oM 44 0, oZ 45 44, oBi 46 .leq 45 8, oM 2 46]) (
 .ret))))⟩
theorem l146x0s (T : Table) (k n : Nat) (l2 : Rows) (n3 : Int): l146x0 T k (n + 1) [.fz 2 l2, .v (.int .i64 n3)] = (
 bif (decide (n3 < (l2.length : Int))) then (
 tst (decide (0 ≤ n3)) (
 look l2 (Int.toNat n3) fun r4 =>
 cS r4 0 fun s5 =>
 callT T 20 [.d (.v (.string s5))] fun o6 =>
 oD o6.res fun d7 =>
 dB d7 fun b8 =>
 bif (!b8) == false then (
 tst (decide (0 ≤ n3)) (
 look l2 (Int.toNat n3) fun r9 =>
 cS r9 1 fun s10 =>
 callT T 20 [.d (.v (.string s10))] fun o11 =>
 oD o11.res fun d12 =>
 dB d12 fun b13 =>
 bif (!b13) == false then (
 bif (decide (n3 > 0)) == true then (
 tst (decide (0 ≤ (IntKind.wrap .i64 (n3 - 1)))) (
 look l2 (Int.toNat (IntKind.wrap .i64 (n3 - 1))) fun r14 =>
 cS r14 0 fun s15 =>
 tst (decide (0 ≤ n3)) (
 look l2 (Int.toNat n3) fun r16 =>
 cS r16 0 fun s17 =>
 bif (!(bytesLess s15 s17)) then (
 some (.ret, [.v (.bool false)])) else (
 l146x0 T k n [.fz 2 l2, .v (.int .i64 (IntKind.wrap .i64 (n3 + 1)))])))) else (
 l146x0 T k n [.fz 2 l2, .v (.int .i64 (IntKind.wrap .i64 (n3 + 1)))])) else (
 some (.ret, [.v (.bool false)])))) else (
 some (.ret, [.v (.bool false)])))) else (
 some ((.exit 0), [.fz 2 l2]))) := by kernel_rfl
theorem a146q (T : Table) (k : Nat) (l1 : Rows): evalF T k a146 [.d (.s 2 l1)] = (
 aft (l146x0 T k k [.fz 2 l1, .v (.int .i64 0)]) fun e18 ys19 =>
 bif e18.same .ret then (
 aV ys19 0 fun x20 =>
 aB x20 fun b21 =>
 some ⟨.d (.v (.bool b21)), []⟩) else (
 bif e18.same (.exit 0) then (
 aV ys19 0 fun x22 =>
 aL 2 x22 fun l23 =>
 some ⟨.d (.v (.bool (decide ((l23.length : Int) ≤ 8)))), []⟩) else (
 none))) := by kernel_rfl
/- loop.example/g00119/spec.l1Labels -/
def a147 : AFun := ⟨[.rd], false, [.t 2], (
 .seq (.g [oQ 2 (.mv (.c (.o 2 [])))]) (
 .seq (.g [oQ 3 (.lit 2 ([] : Rows) []), oM 4 0, oQ 5 (.app 2 32 (.t 3) (.t 4)), oM 2 5]) (
 .ret)))⟩
theorem a147q (T : Table) (k : Nat) (l1 : Rows): evalF T k a147 [.d (.s 2 l1)] = (
 tst (flatRows l1) (
 tst (decide ((([] : Rows).length + l1.length) * 32 ≤ maxBytes)) (
 some ⟨.d (.s 2 (([] : Rows) ++ l1)), []⟩))) := by kernel_rfl
-- a148 "internal/abi.NoEscape": IndexError('list index out of range')
-- a149 "internal/bytealg.MakeNoZero": IndexError('list index out of range')
/- loop.example/g00119/spec.LabelSet -/
def b129x0 : ACode := (
 .seq (.seq (.g [oM 44 12, oM 45 0, oZ 46 45, oB 47 .lss 44 46]) (
 .cond (.t 47) (.skip) (.exit 0))) (
 .seq (.block 1 (.seq (.seq (.g [oM 50 11, oN 51 50, oM 52 51, oJ 53 52 true (.mv (.t 0)), oJ 54 52 true (.mv (.t 12)), oJ 55 52 true (.iad 2 (.t 53) (.t 54)), oJ 56 52 true (.fad 0 (.t 55)), oJ 57 52 true (.load false [.s] (.t 56)), oJ 58 52 true (.mv (.t 1)), oJ 59 52 true (.bin .geq (.t 57) (.t 58)), oQ 60 (.pick (.t 52) (.t 59) (.b false))]) (
 .cond (.t 60) (.seq (.g [oM 61 10, oM 62 1, oM 63 2, oQ 64 (.build [.v (.string ByteArray.empty), .v (.string ByteArray.empty)] [(0, 1, (.t 62)), (1, 1, (.t 63))]), oQ 65 (.lit 2 ([[.v (.string ByteArray.empty), .v (.string ByteArray.empty)]] : Rows) [(0, (.t 64))]), oQ 66 (.app 2 32 (.t 61) (.t 65)), oM 10 66]) (
 .g [oV 11 true])) (.skip))) (
 .seq (.g [oM 67 0, oM 68 12, oI 69 2 67 68, oF 70 0 69, oW 71 .s 70, oM 72 1, oB 73 .neq 71 72]) (
 .cond (.t 73) (.g [oM 74 10, oM 75 0, oM 76 12, oI 77 2 75 76, oL 78 [.s, .s] 77, oQ 79 (.lit 2 ([[.v (.string ByteArray.empty), .v (.string ByteArray.empty)]] : Rows) [(0, (.t 78))]), oQ 80 (.app 2 32 (.t 74) (.t 79)), oM 10 80]) (.skip))))) (
 .g [oM 48 12, oBi 49 .add 48 1, oM 12 49])))
def e129x0 : Exits := [((.exit 0), [(1, .c .s), (2, .c .s), (10, .o 2), (11, .c .b)])]
noncomputable def l129x0 (T : Table) (k : Nat) := loopN (evalC ⟨T, [], []⟩ k b129x0 (Ex × List AV)) [0, 1, 2, 10, 11, 12] e129x0
def a129 : AFun := ⟨[.rd, .rd, .rd], false, [.t 6, .t 7], (
 .seq (.g [oQ 6 (.mv (.c (.o 2 []))), oV 7 false]) (
 .seq (.g [oM 14 0, oM 15 1, oC 16 145 [.c .s, .c .b] [14, 15], oM 13 16, oX 17 13 0, oX 18 13 1, oM 8 17, oM 9 18]) (
 .seq (.seq (.g [oM 19 0, oC 20 146 [.c .b] [19], oN 21 20, oM 22 21, oJ 23 22 false (.mv (.t 1)), oJ 24 22 false (.call (.f 20) [.rd] false [.c .b] [.t 23]), oJ 25 22 false (.un .not (.t 24)), oQ 26 (.pick (.t 22) (.b true) (.t 25)), oM 27 26, oJ 28 27 false (.mv (.t 2)), oJ 29 27 false (.call (.f 20) [.rd] false [.c .b] [.t 28]), oJ 30 27 false (.un .not (.t 29)), oQ 31 (.pick (.t 27) (.b true) (.t 30)), oM 32 31, oJ 33 32 false (.mv (.t 9)), oJ 34 32 false (.un .not (.t 33)), oJ 35 32 false (.mv (.t 34)), oJ 36 35 true (.mv (.t 0)), oJ 37 35 true (.len false (.t 36)), oJ 38 35 true (.bin .eql (.t 37) (.i 8)), oJ 39 32 false (.pick (.t 35) (.t 38) (.b false)), oQ 40 (.pick (.t 32) (.b true) (.t 39))]) (
 .cond (.t 40) (.seq (.g [oM 41 0, oC 42 147 [.c (.sl 2)] [41], oM 6 42, oV 7 false]) (
 .ret)) (.skip))) (
 .seq (.g [oQ 43 (.lit 2 ([] : Rows) []), oM 10 43]) (
 .seq (.g [oV 11 false]) (
 .seq (.seq (.g [oK 12 0]) (
 .block 0 (.loop [0, 1, 2, 10, 11, 12] e129x0 b129x0))) (
 .seq (.seq (.g [oM 81 11, oN 82 81]) (
 .cond (.t 82) (.g [oM 83 10, oM 84 1, oM 85 2, oQ 86 (.build [.v (.string ByteArray.empty), .v (.string ByteArray.empty)] [(0, 1, (.t 84)), (1, 1, (.t 85))]), oQ 87 (.lit 2 ([[.v (.string ByteArray.empty), .v (.string ByteArray.empty)]] : Rows) [(0, (.t 86))]), oQ 88 (.app 2 32 (.t 83) (.t 87)), oM 10 88]) (.skip))) (
 .seq (.g [oM 89 10, oM 6 89, oV 7 true]) (
 .ret)))))))))⟩
theorem l129x0s (T : Table) (k n : Nat) (l24 l27 : Rows) (s25 s26 : ByteArray) (b28 : Bool) (n29 : Int): l129x0 T k (n + 1) [.fz 2 l24, .v (.string s25), .v (.string s26), .o 2 l27, .v (.bool b28), .v (.int .i64 n29)] = (
 bif (decide (n29 < (l24.length : Int))) then (
 bif (!b28) == true then (
 tst (decide (0 ≤ n29)) (
 look l24 (Int.toNat n29) fun r30 =>
 cS r30 0 fun s31 =>
 bif (!(bytesLess s31 s25)) then (
 tst (decide ((l27.length + ([[.v (.string s25), .v (.string s26)]] : Rows).length) * 32 ≤ maxBytes)) (
 tst (decide (0 ≤ n29)) (
 look l24 (Int.toNat n29) fun r32 =>
 cS r32 0 fun s33 =>
 bif (!(bytesEq s33 s25)) then (
 tst (decide (0 ≤ n29)) (
 look l24 (Int.toNat n29) fun r34 =>
 cS r34 0 fun s35 =>
 cS r34 1 fun s36 =>
 tst (decide (((l27 ++ ([[.v (.string s25), .v (.string s26)]] : Rows)).length + ([[.v (.string s35), .v (.string s36)]] : Rows).length) * 32 ≤ maxBytes)) (
 l129x0 T k n [.fz 2 l24, .v (.string s25), .v (.string s26), .o 2 ((l27 ++ ([[.v (.string s25), .v (.string s26)]] : Rows)) ++ ([[.v (.string s35), .v (.string s36)]] : Rows)), .v (.bool true), .v (.int .i64 (IntKind.wrap .i64 (n29 + 1)))]))) else (
 l129x0 T k n [.fz 2 l24, .v (.string s25), .v (.string s26), .o 2 (l27 ++ ([[.v (.string s25), .v (.string s26)]] : Rows)), .v (.bool true), .v (.int .i64 (IntKind.wrap .i64 (n29 + 1)))])))) else (
 tst (decide (0 ≤ n29)) (
 look l24 (Int.toNat n29) fun r37 =>
 cS r37 0 fun s38 =>
 bif (!(bytesEq s38 s25)) then (
 tst (decide (0 ≤ n29)) (
 look l24 (Int.toNat n29) fun r39 =>
 cS r39 0 fun s40 =>
 cS r39 1 fun s41 =>
 tst (decide ((l27.length + ([[.v (.string s40), .v (.string s41)]] : Rows).length) * 32 ≤ maxBytes)) (
 l129x0 T k n [.fz 2 l24, .v (.string s25), .v (.string s26), .o 2 (l27 ++ ([[.v (.string s40), .v (.string s41)]] : Rows)), .v (.bool b28), .v (.int .i64 (IntKind.wrap .i64 (n29 + 1)))]))) else (
 l129x0 T k n [.fz 2 l24, .v (.string s25), .v (.string s26), .o 2 l27, .v (.bool b28), .v (.int .i64 (IntKind.wrap .i64 (n29 + 1)))]))))) else (
 tst (decide (0 ≤ n29)) (
 look l24 (Int.toNat n29) fun r42 =>
 cS r42 0 fun s43 =>
 bif (!(bytesEq s43 s25)) then (
 tst (decide (0 ≤ n29)) (
 look l24 (Int.toNat n29) fun r44 =>
 cS r44 0 fun s45 =>
 cS r44 1 fun s46 =>
 tst (decide ((l27.length + ([[.v (.string s45), .v (.string s46)]] : Rows).length) * 32 ≤ maxBytes)) (
 l129x0 T k n [.fz 2 l24, .v (.string s25), .v (.string s26), .o 2 (l27 ++ ([[.v (.string s45), .v (.string s46)]] : Rows)), .v (.bool b28), .v (.int .i64 (IntKind.wrap .i64 (n29 + 1)))]))) else (
 l129x0 T k n [.fz 2 l24, .v (.string s25), .v (.string s26), .o 2 l27, .v (.bool b28), .v (.int .i64 (IntKind.wrap .i64 (n29 + 1)))])))) else (
 some ((.exit 0), [.v (.string s25), .v (.string s26), .o 2 l27, .v (.bool b28)]))) := by kernel_rfl
theorem a129q (T : Table) (k : Nat) (l1 : Rows) (s2 s3 : ByteArray): evalF T k a129 [.d (.s 2 l1), .d (.v (.string s2)), .d (.v (.string s3))] = (
 callT T 145 [.d (.s 2 l1), .d (.v (.string s2))] fun o4 =>
 oT o4.res fun is5 =>
 tst (Nat.beq is5.length 2) (
 nth is5 0 fun i6 =>
 oD i6 fun d7 =>
 dS d7 fun s8 =>
 nth is5 1 fun i9 =>
 oD i9 fun d10 =>
 dB d10 fun b11 =>
 callT T 146 [.d (.s 2 l1)] fun o12 =>
 oD o12.res fun d13 =>
 dB d13 fun b14 =>
 bif (!b14) == false then (
 callT T 20 [.d (.v (.string s2))] fun o15 =>
 oD o15.res fun d16 =>
 dB d16 fun b17 =>
 bif (!b17) == false then (
 callT T 20 [.d (.v (.string s3))] fun o18 =>
 oD o18.res fun d19 =>
 dB d19 fun b20 =>
 bif (!b20) == false then (
 bif (!b11) == true then (
 bif ((l1.length : Int) == 8) then (
 callT T 147 [.d (.s 2 l1)] fun o21 =>
 oD o21.res fun d22 =>
 dL 2 d22 fun l23 =>
 some ⟨.t [.d (.s 2 l23), .d (.v (.bool false))], []⟩) else (
 aft (l129x0 T k k [.fz 2 l1, .v (.string s2), .v (.string s3), .o 2 [], .v (.bool false), .v (.int .i64 0)]) fun e47 ys48 =>
 bif e47.same (.exit 0) then (
 aV ys48 0 fun x49 =>
 aS x49 fun s50 =>
 aV ys48 1 fun x51 =>
 aS x51 fun s52 =>
 aV ys48 2 fun x53 =>
 aO 2 x53 fun l54 =>
 aV ys48 3 fun x55 =>
 aB x55 fun b56 =>
 bif (!b56) then (
 tst (decide ((l54.length + ([[.v (.string s50), .v (.string s52)]] : Rows).length) * 32 ≤ maxBytes)) (
 some ⟨.t [.d (.s 2 (l54 ++ ([[.v (.string s50), .v (.string s52)]] : Rows))), .d (.v (.bool true))], []⟩)) else (
 some ⟨.t [.d (.s 2 l54), .d (.v (.bool true))], []⟩)) else (
 none))) else (
 aft (l129x0 T k k [.fz 2 l1, .v (.string s2), .v (.string s3), .o 2 [], .v (.bool false), .v (.int .i64 0)]) fun e57 ys58 =>
 bif e57.same (.exit 0) then (
 aV ys58 0 fun x59 =>
 aS x59 fun s60 =>
 aV ys58 1 fun x61 =>
 aS x61 fun s62 =>
 aV ys58 2 fun x63 =>
 aO 2 x63 fun l64 =>
 aV ys58 3 fun x65 =>
 aB x65 fun b66 =>
 bif (!b66) then (
 tst (decide ((l64.length + ([[.v (.string s60), .v (.string s62)]] : Rows).length) * 32 ≤ maxBytes)) (
 some ⟨.t [.d (.s 2 (l64 ++ ([[.v (.string s60), .v (.string s62)]] : Rows))), .d (.v (.bool true))], []⟩)) else (
 some ⟨.t [.d (.s 2 l64), .d (.v (.bool true))], []⟩)) else (
 none))) else (
 callT T 147 [.d (.s 2 l1)] fun o67 =>
 oD o67.res fun d68 =>
 dL 2 d68 fun l69 =>
 some ⟨.t [.d (.s 2 l69), .d (.v (.bool false))], []⟩)) else (
 callT T 147 [.d (.s 2 l1)] fun o70 =>
 oD o70.res fun d71 =>
 dL 2 d71 fun l72 =>
 some ⟨.t [.d (.s 2 l72), .d (.v (.bool false))], []⟩)) else (
 callT T 147 [.d (.s 2 l1)] fun o73 =>
 oD o73.res fun d74 =>
 dL 2 d74 fun l75 =>
 some ⟨.t [.d (.s 2 l75), .d (.v (.bool false))], []⟩))) := by kernel_rfl
/- loop.example/g00119/spec.l1Draw -/
def b100x0 : ACode := (
 .seq (.seq (.g [oM 11 6, oBi 12 .gtr 11 0]) (
 .cond (.t 12) (.skip) (.exit 0))) (
 .seq (.block 1 (.g [oM 16 5, oM 17 0, oQ 18 (.call (.f 78) [.lent] false [.c .s] [.t 17]), oM 19 0, oQ 20 (.call (.f 78) [.lent] false [.c .s] [.t 19]), oC 21 129 [.c (.sl 2), .c .b] [16, 18, 20], oM 15 21, oX 22 15 0, oX 23 15 1, oM 5 22])) (
 .g [oM 13 6, oBi 14 .sub 13 1, oM 6 14])))
def e100x0 : Exits := [((.exit 0), [(0, .b [.c .h, .c kI, .c kI]), (5, .o 2)])]
noncomputable def l100x0 (T : Table) (k : Nat) := loopN (evalC ⟨T, [0], []⟩ k b100x0 (Ex × List AV)) [0, 5, 6] e100x0
def a100 : AFun := ⟨[.lent, .rd], false, [.t 4], (
 .seq (.g [oQ 4 (.mv (.c (.o 2 [])))]) (
 .seq (.g [oQ 7 (.lit 2 ([] : Rows) []), oM 5 7]) (
 .seq (.seq (.g [oM 8 0, oM 9 1, oQ 10 (.call (.f 44) [.lent, .rd] false [.c kI] [.t 8, .t 9]), oM 6 10]) (
 .block 0 (.loop [0, 5, 6] e100x0 b100x0))) (
 .seq (.g [oM 24 5, oM 4 24]) (
 .ret)))))⟩
theorem l100x0s (T : Table) (k n m18 m19 : Nat) (a17 : Option Addr) (n20 n21 n23 : Int) (l22 : Rows): l100x0 T k (n + 1) [.b [.v (.slice a17 m18 m19), .v (.int .i64 n20), .v (.int .i64 n21)], .o 2 l22, .v (.int .i64 n23)] = (
 bif (decide (n23 > 0)) then (
 callT T 78 [.p [.v (.slice a17 m18 m19), .v (.int .i64 n20), .v (.int .i64 n21)]] fun o24 =>
 nth o24.back 0 fun i25 =>
 oP i25 fun r26 =>
 tst (Nat.beq r26.length 3) (
 cH r26 0 fun a27 m28 m29 =>
 cI .i64 r26 1 fun n30 =>
 cI .i64 r26 2 fun n31 =>
 oD o24.res fun d32 =>
 dS d32 fun s33 =>
 callT T 78 [.p [.v (.slice a27 m28 m29), .v (.int .i64 n30), .v (.int .i64 n31)]] fun o34 =>
 nth o34.back 0 fun i35 =>
 oP i35 fun r36 =>
 tst (Nat.beq r36.length 3) (
 cH r36 0 fun a37 m38 m39 =>
 cI .i64 r36 1 fun n40 =>
 cI .i64 r36 2 fun n41 =>
 oD o34.res fun d42 =>
 dS d42 fun s43 =>
 callT T 129 [.d (.s 2 l22), .d (.v (.string s33)), .d (.v (.string s43))] fun o44 =>
 oT o44.res fun is45 =>
 tst (Nat.beq is45.length 2) (
 nth is45 0 fun i46 =>
 oD i46 fun d47 =>
 dL 2 d47 fun l48 =>
 nth is45 1 fun i49 =>
 oD i49 fun d50 =>
 dB d50 fun b51 =>
 l100x0 T k n [.b [.v (.slice a37 m38 m39), .v (.int .i64 n40), .v (.int .i64 n41)], .o 2 l48, .v (.int .i64 (IntKind.wrap .i64 (n23 - 1)))])))) else (
 some ((.exit 0), [.b [.v (.slice a17 m18 m19), .v (.int .i64 n20), .v (.int .i64 n21)], .o 2 l22]))) := by kernel_rfl
theorem a100q (T : Table) (k m2 m3 : Nat) (a1 : Option Addr) (n4 n5 n6 : Int): evalF T k a100 [.p [.v (.slice a1 m2 m3), .v (.int .i64 n4), .v (.int .i64 n5)], .d (.v (.int .i64 n6))] = (
 callT T 44 [.p [.v (.slice a1 m2 m3), .v (.int .i64 n4), .v (.int .i64 n5)], .d (.v (.int .i64 n6))] fun o7 =>
 nth o7.back 0 fun i8 =>
 oP i8 fun r9 =>
 tst (Nat.beq r9.length 3) (
 cH r9 0 fun a10 m11 m12 =>
 cI .i64 r9 1 fun n13 =>
 cI .i64 r9 2 fun n14 =>
 oD o7.res fun d15 =>
 dI .i64 d15 fun n16 =>
 aft (l100x0 T k k [.b [.v (.slice a10 m11 m12), .v (.int .i64 n13), .v (.int .i64 n14)], .o 2 [], .v (.int .i64 n16)]) fun e52 ys53 =>
 bif e52.same (.exit 0) then (
 aV ys53 0 fun x54 =>
 aX x54 fun xs55 =>
 aV xs55 0 fun x56 =>
 aH x56 fun a57 m58 m59 =>
 aV xs55 1 fun x60 =>
 aI .i64 x60 fun n61 =>
 aV xs55 2 fun x62 =>
 aI .i64 x62 fun n63 =>
 aV ys53 1 fun x64 =>
 aO 2 x64 fun l65 =>
 some ⟨.d (.s 2 l65), [.p [.v (.slice a57 m58 m59), .v (.int .i64 n61), .v (.int .i64 n63)]]⟩) else (
 none))) := by kernel_rfl
/- loop.example/g00119/spec.l4Draw -/
def b72x0 : ACode := (
 .seq (.seq (.g [oM 43 7, oBi 44 .gtr 43 0]) (
 .cond (.t 44) (.skip) (.exit 1))) (
 .seq (.block 2 (.dreg [(0, 0, []), (6, 4, [.sl 5])] [(0, oF 47 4 6), (0, oW 48 (.sl 5) 47), (0, oM 49 0), (0, oM 50 1), (0, oBi 51 .sub 50 1), (1, oQ 52 (.call (.f 72) [.lent, .rd] false [.g [kI, .s, kI, .sl 1, .sl 5]] [.t 49, .t 51])), (1, oQ 53 (.lit 5 ([[.v (.int .i64 0), .v (.string ByteArray.empty), .v (.int .i64 0), .s 1 [], .s 5 []]] : Rows) [(0, (.t 52))]))] [oQ 54 (.app 5 80 (.t 48) (.t 53)), oF 55 4 6, oS (.store 1 (.t 55) (.t 54))])) (
 .g [oM 45 7, oBi 46 .sub 45 1, oM 7 46])))
def e72x0 : Exits := [((.exit 1), [(0, .b [.c .h, .c kI, .c kI]), (4, .b [.c kI, .c .s, .c kI, .o 1, .o 5]), (6, .b [.c kI, .c .s, .c kI, .o 1, .o 5])])]
noncomputable def l72x0 (T : Table) (k : Nat) := loopN (evalC ⟨T, [0], []⟩ k b72x0 (Ex × List AV)) [0, 1, 4, 6, 7] e72x0
def b72x1 : ACode := (
 .seq (.seq (.g [oM 60 9, oM 61 8, oZ 62 61, oB 63 .lss 60 62]) (
 .cond (.t 63) (.skip) (.exit 3))) (
 .seq (.block 4 (.seq (.dreg [(6, 3, [.sl 1])] [(0, oF 66 3 6), (0, oW 67 (.sl 1) 66), (0, oM 68 8), (0, oM 69 9), (0, oI 70 2 68 69), (0, oF 71 0 70), (0, oW 72 .s 71), (1, oQ 73 (.lit 1 ([[.v (.string ByteArray.empty)]] : Rows) [(0, (.t 72))]))] [oQ 74 (.app 1 16 (.t 67) (.t 73)), oF 75 3 6, oS (.store 1 (.t 75) (.t 74))]) (
 .dreg [(0, 0, []), (6, 4, [.sl 5])] [(0, oF 76 4 6), (0, oW 77 (.sl 5) 76), (0, oM 78 0), (0, oM 79 1), (0, oBi 80 .sub 79 1), (1, oQ 81 (.call (.f 72) [.lent, .rd] false [.g [kI, .s, kI, .sl 1, .sl 5]] [.t 78, .t 80])), (1, oQ 82 (.lit 5 ([[.v (.int .i64 0), .v (.string ByteArray.empty), .v (.int .i64 0), .s 1 [], .s 5 []]] : Rows) [(0, (.t 81))]))] [oQ 83 (.app 5 80 (.t 77) (.t 82)), oF 84 4 6, oS (.store 1 (.t 84) (.t 83))]))) (
 .g [oM 64 9, oBi 65 .add 64 1, oM 9 65])))
def e72x1 : Exits := [((.exit 3), [(0, .b [.c .h, .c kI, .c kI]), (4, .b [.c kI, .c .s, .c kI, .o 1, .o 5]), (6, .b [.c kI, .c .s, .c kI, .o 1, .o 5])])]
noncomputable def l72x1 (T : Table) (k : Nat) := loopN (evalC ⟨T, [0], []⟩ k b72x1 (Ex × List AV)) [0, 1, 4, 6, 8, 9] e72x1
def a72 : AFun := ⟨[.lent, .rd], false, [.c 4 true [kI, .s, kI, .sl 1, .sl 5]], (
 .seq (.g [oQ 4 (.alloc [.v (.int .i64 0), .v (.string ByteArray.empty), .v (.int .i64 0), .s 1 [], .s 5 []])]) (
 .seq (.g [oM 10 0, oQ 11 (.call (.f 44) [.lent, .rd] false [.c kI] [.t 10, .i 5]), oQ 12 (.bin .add (.i 1) (.t 11)), oM 5 12]) (
 .seq (.seq (.g [oM 13 1, oBi 14 .leq 13 1, oM 15 14, oJ 16 15 true (.mv (.t 5)), oJ 17 15 true (.bin .gtr (.t 16) (.i 3)), oQ 18 (.pick (.t 15) (.t 17) (.b false))]) (
 .cond (.t 18) (.g [oK 5 2]) (.skip))) (
 .seq (.g [oM 19 5, oQ 20 (.build [.v (.int .i64 0), .v (.string ByteArray.empty), .v (.int .i64 0), .s 1 [], .s 5 []] [(0, 1, (.t 19))]), oQ 6 (.alloc [.v (.int .i64 0), .v (.string ByteArray.empty), .v (.int .i64 0), .s 1 [], .s 5 []]), oS (.store 5 (.t 6) (.t 20))]) (
 .seq (.seq (.g [oM 21 5]) (
 .block 0 (.seq (.g [oBi 23 .eql 21 1, oM 22 23]) (
 .cond (.t 22) (.g [oM 24 0, oQ 25 (.lit 1 ([[.v (.string ByteArray.empty)], [.v (.string ByteArray.empty)], [.v (.string ByteArray.empty)], [.v (.string ByteArray.empty)], [.v (.string ByteArray.empty)], [.v (.string ByteArray.empty)]] : Rows) [(0, (.c (.v (.string ({ data := #[] } : ByteArray))))), (1, (.c (.v (.string ({ data := #[97] } : ByteArray))))), (2, (.c (.v (.string ({ data := #[120, 32, 121] } : ByteArray))))), (3, (.c (.v (.string ({ data := #[34] } : ByteArray))))), (4, (.c (.v (.string ({ data := #[92, 110] } : ByteArray))))), (5, (.c (.v (.string ({ data := #[105, 109, 97, 103, 101, 58, 49] } : ByteArray)))))]), oQ 26 (.call (.f 70) [.lent, .rd] false [.c .s] [.t 24, .t 25]), oF 27 1 6, oS (.store 1 (.t 27) (.t 26))]) (.seq (.g [oBi 29 .eql 21 2, oM 28 29]) (
 .cond (.t 28) (.g [oM 30 0, oQ 31 (.lit 1 ([[.v (.int .i64 0)], [.v (.int .i64 0)], [.v (.int .i64 0)], [.v (.int .i64 0)], [.v (.int .i64 0)], [.v (.int .i64 0)]] : Rows) [(0, (.i 0)), (1, (.i 1)), (2, (.i 80)), (3, (.i (-5))), (4, (.i 9223372036854775807)), (5, (.i (-9223372036854775808)))]), oQ 32 (.call (.f 49) [.lent, .rd] false [.c kI] [.t 30, .t 31]), oF 33 2 6, oS (.store 1 (.t 33) (.t 32))]) (.seq (.g [oBi 35 .eql 21 3, oM 34 35]) (
 .cond (.t 34) (.g [oM 36 0, oQ 37 (.call (.f 44) [.lent, .rd] false [.c kI] [.t 36, .i 2]), oF 38 2 6, oS (.store 1 (.t 38) (.t 37))]) (.seq (.g [oBi 40 .eql 21 4, oM 39 40]) (
 .cond (.t 39) (.seq (.g [oM 41 0, oQ 42 (.call (.f 44) [.lent, .rd] false [.c kI] [.t 41, .i 4]), oM 7 42]) (
 .block 1 (.loop [0, 1, 4, 6, 7] e72x0 b72x0))) (.seq (.g [oBi 57 .eql 21 5, oM 56 57]) (
 .cond (.t 56) (.seq (.g [oM 58 0, oQ 59 (.call (.f 100) [.lent, .rd] false [.c (.sl 2)] [.t 58, .i 5]), oM 8 59]) (
 .seq (.g [oK 9 0]) (
 .block 3 (.loop [0, 1, 4, 6, 8, 9] e72x1 b72x1)))) (.skip))))))))))))) (
 .seq (.g [oL 85 [kI, .s, kI, .sl 1, .sl 5] 6, oS (.store 5 (.t 4) (.t 85))]) (
 .ret)))))))⟩
theorem l72x0s (T : Table) (k n m58 m59 : Nat) (a57 : Option Addr) (n60 n61 n62 n63 n65 n68 n70 n73 : Int) (s64 s69 : ByteArray) (l66 l67 l71 l72 : Rows): l72x0 T k (n + 1) [.b [.v (.slice a57 m58 m59), .v (.int .i64 n60), .v (.int .i64 n61)], .v (.int .i64 n62), .b [.v (.int .i64 n63), .v (.string s64), .v (.int .i64 n65), .o 1 l66, .o 5 l67], .b [.v (.int .i64 n68), .v (.string s69), .v (.int .i64 n70), .o 1 l71, .o 5 l72], .v (.int .i64 n73)] = (
 bif (decide (n73 > 0)) then (
 callT T 72 [.p [.v (.slice a57 m58 m59), .v (.int .i64 n60), .v (.int .i64 n61)], .d (.v (.int .i64 (IntKind.wrap .i64 (n62 - 1))))] fun o74 =>
 nth o74.back 0 fun i75 =>
 oP i75 fun r76 =>
 tst (Nat.beq r76.length 3) (
 cH r76 0 fun a77 m78 m79 =>
 cI .i64 r76 1 fun n80 =>
 cI .i64 r76 2 fun n81 =>
 oG o74.res fun r82 =>
 tst (Nat.beq r82.length 5) (
 cI .i64 r82 0 fun n83 =>
 cS r82 1 fun s84 =>
 cI .i64 r82 2 fun n85 =>
 cL 1 r82 3 fun l86 =>
 cL 5 r82 4 fun l87 =>
 tst (decide ((l72.length + ([[.v (.int .i64 n83), .v (.string s84), .v (.int .i64 n85), hole, hole]] : Rows).length) * 80 ≤ maxBytes)) (
 l72x0 T k n [.b [.v (.slice a77 m78 m79), .v (.int .i64 n80), .v (.int .i64 n81)], .v (.int .i64 n62), .b [.v (.int .i64 n63), .v (.string s64), .v (.int .i64 n65), .o 1 l66, .o 5 l67], .b [.v (.int .i64 n68), .v (.string s69), .v (.int .i64 n70), .o 1 l71, .o 5 (setD (setD (l72 ++ ([[.v (.int .i64 n83), .v (.string s84), .v (.int .i64 n85), hole, hole]] : Rows)) (0 + l72.length) 4 (.s 5 l87)) (0 + l72.length) 3 (.s 1 l86))], .v (.int .i64 (IntKind.wrap .i64 (n73 - 1)))])))) else (
 some ((.exit 1), [.b [.v (.slice a57 m58 m59), .v (.int .i64 n60), .v (.int .i64 n61)], .b [.v (.int .i64 n63), .v (.string s64), .v (.int .i64 n65), .o 1 l66, .o 5 l67], .b [.v (.int .i64 n68), .v (.string s69), .v (.int .i64 n70), .o 1 l71, .o 5 l72]]))) := by kernel_rfl
theorem l72x1s (T : Table) (k n m135 m136 : Nat) (a134 : Option Addr) (n137 n138 n139 n140 n142 n145 n147 n151 : Int) (s141 s146 : ByteArray) (l143 l144 l148 l149 l150 : Rows): l72x1 T k (n + 1) [.b [.v (.slice a134 m135 m136), .v (.int .i64 n137), .v (.int .i64 n138)], .v (.int .i64 n139), .b [.v (.int .i64 n140), .v (.string s141), .v (.int .i64 n142), .o 1 l143, .o 5 l144], .b [.v (.int .i64 n145), .v (.string s146), .v (.int .i64 n147), .o 1 l148, .o 5 l149], .o 2 l150, .v (.int .i64 n151)] = (
 bif (decide (n151 < (l150.length : Int))) then (
 tst (decide (0 ≤ n151) && decide (Int.toNat n151 < l150.length)) (
 look l150 (Int.toNat n151) fun r152 =>
 cS r152 0 fun s153 =>
 tst (decide ((l148.length + ([[.v (.string s153)]] : Rows).length) * 16 ≤ maxBytes)) (
 callT T 72 [.p [.v (.slice a134 m135 m136), .v (.int .i64 n137), .v (.int .i64 n138)], .d (.v (.int .i64 (IntKind.wrap .i64 (n139 - 1))))] fun o154 =>
 nth o154.back 0 fun i155 =>
 oP i155 fun r156 =>
 tst (Nat.beq r156.length 3) (
 cH r156 0 fun a157 m158 m159 =>
 cI .i64 r156 1 fun n160 =>
 cI .i64 r156 2 fun n161 =>
 oG o154.res fun r162 =>
 tst (Nat.beq r162.length 5) (
 cI .i64 r162 0 fun n163 =>
 cS r162 1 fun s164 =>
 cI .i64 r162 2 fun n165 =>
 cL 1 r162 3 fun l166 =>
 cL 5 r162 4 fun l167 =>
 tst (decide ((l149.length + ([[.v (.int .i64 n163), .v (.string s164), .v (.int .i64 n165), hole, hole]] : Rows).length) * 80 ≤ maxBytes)) (
 l72x1 T k n [.b [.v (.slice a157 m158 m159), .v (.int .i64 n160), .v (.int .i64 n161)], .v (.int .i64 n139), .b [.v (.int .i64 n140), .v (.string s141), .v (.int .i64 n142), .o 1 l143, .o 5 l144], .b [.v (.int .i64 n145), .v (.string s146), .v (.int .i64 n147), .o 1 (l148 ++ ([[.v (.string s153)]] : Rows)), .o 5 (setD (setD (l149 ++ ([[.v (.int .i64 n163), .v (.string s164), .v (.int .i64 n165), hole, hole]] : Rows)) (0 + l149.length) 4 (.s 5 l167)) (0 + l149.length) 3 (.s 1 l166))], .o 2 l150, .v (.int .i64 (IntKind.wrap .i64 (n151 + 1)))])))))) else (
 some ((.exit 3), [.b [.v (.slice a134 m135 m136), .v (.int .i64 n137), .v (.int .i64 n138)], .b [.v (.int .i64 n140), .v (.string s141), .v (.int .i64 n142), .o 1 l143, .o 5 l144], .b [.v (.int .i64 n145), .v (.string s146), .v (.int .i64 n147), .o 1 l148, .o 5 l149]]))) := by kernel_rfl
theorem a72q (T : Table) (k m2 m3 : Nat) (a1 : Option Addr) (n4 n5 n6 : Int): evalF T k a72 [.p [.v (.slice a1 m2 m3), .v (.int .i64 n4), .v (.int .i64 n5)], .d (.v (.int .i64 n6))] = (
 callT T 44 [.p [.v (.slice a1 m2 m3), .v (.int .i64 n4), .v (.int .i64 n5)], .d (.v (.int .i64 5))] fun o7 =>
 nth o7.back 0 fun i8 =>
 oP i8 fun r9 =>
 tst (Nat.beq r9.length 3) (
 cH r9 0 fun a10 m11 m12 =>
 cI .i64 r9 1 fun n13 =>
 cI .i64 r9 2 fun n14 =>
 oD o7.res fun d15 =>
 dI .i64 d15 fun n16 =>
 bif (decide (n6 ≤ 1)) == true then (
 bif (decide ((IntKind.wrap .i64 (1 + n16)) > 3)) then (
 bif (2 == 1) then (
 callT T 70 [.p [.v (.slice a10 m11 m12), .v (.int .i64 n13), .v (.int .i64 n14)], .d (.s 1 ([[.v (.string ({ data := #[] } : ByteArray))], [.v (.string ({ data := #[97] } : ByteArray))], [.v (.string ({ data := #[120, 32, 121] } : ByteArray))], [.v (.string ({ data := #[34] } : ByteArray))], [.v (.string ({ data := #[92, 110] } : ByteArray))], [.v (.string ({ data := #[105, 109, 97, 103, 101, 58, 49] } : ByteArray))]] : Rows))] fun o17 =>
 nth o17.back 0 fun i18 =>
 oP i18 fun r19 =>
 tst (Nat.beq r19.length 3) (
 cH r19 0 fun a20 m21 m22 =>
 cI .i64 r19 1 fun n23 =>
 cI .i64 r19 2 fun n24 =>
 oD o17.res fun d25 =>
 dS d25 fun s26 =>
 some ⟨.g [.v (.int .i64 2), .v (.string s26), .v (.int .i64 0), .s 1 [], .s 5 []], [.p [.v (.slice a20 m21 m22), .v (.int .i64 n23), .v (.int .i64 n24)]]⟩)) else (
 bif (2 == 2) then (
 callT T 49 [.p [.v (.slice a10 m11 m12), .v (.int .i64 n13), .v (.int .i64 n14)], .d (.s 1 ([[.v (.int .i64 0)], [.v (.int .i64 1)], [.v (.int .i64 80)], [.v (.int .i64 (-5))], [.v (.int .i64 9223372036854775807)], [.v (.int .i64 (-9223372036854775808))]] : Rows))] fun o27 =>
 nth o27.back 0 fun i28 =>
 oP i28 fun r29 =>
 tst (Nat.beq r29.length 3) (
 cH r29 0 fun a30 m31 m32 =>
 cI .i64 r29 1 fun n33 =>
 cI .i64 r29 2 fun n34 =>
 oD o27.res fun d35 =>
 dI .i64 d35 fun n36 =>
 some ⟨.g [.v (.int .i64 2), .v (.string ByteArray.empty), .v (.int .i64 n36), .s 1 [], .s 5 []], [.p [.v (.slice a30 m31 m32), .v (.int .i64 n33), .v (.int .i64 n34)]]⟩)) else (
 bif (2 == 3) then (
 callT T 44 [.p [.v (.slice a10 m11 m12), .v (.int .i64 n13), .v (.int .i64 n14)], .d (.v (.int .i64 2))] fun o37 =>
 nth o37.back 0 fun i38 =>
 oP i38 fun r39 =>
 tst (Nat.beq r39.length 3) (
 cH r39 0 fun a40 m41 m42 =>
 cI .i64 r39 1 fun n43 =>
 cI .i64 r39 2 fun n44 =>
 oD o37.res fun d45 =>
 dI .i64 d45 fun n46 =>
 some ⟨.g [.v (.int .i64 2), .v (.string ByteArray.empty), .v (.int .i64 n46), .s 1 [], .s 5 []], [.p [.v (.slice a40 m41 m42), .v (.int .i64 n43), .v (.int .i64 n44)]]⟩)) else (
 bif (2 == 4) then (
 callT T 44 [.p [.v (.slice a10 m11 m12), .v (.int .i64 n13), .v (.int .i64 n14)], .d (.v (.int .i64 4))] fun o47 =>
 nth o47.back 0 fun i48 =>
 oP i48 fun r49 =>
 tst (Nat.beq r49.length 3) (
 cH r49 0 fun a50 m51 m52 =>
 cI .i64 r49 1 fun n53 =>
 cI .i64 r49 2 fun n54 =>
 oD o47.res fun d55 =>
 dI .i64 d55 fun n56 =>
 aft (l72x0 T k k [.b [.v (.slice a50 m51 m52), .v (.int .i64 n53), .v (.int .i64 n54)], .v (.int .i64 n6), .b [.v (.int .i64 0), .v (.string ByteArray.empty), .v (.int .i64 0), .o 1 [], .o 5 []], .b [.v (.int .i64 2), .v (.string ByteArray.empty), .v (.int .i64 0), .o 1 [], .o 5 []], .v (.int .i64 n56)]) fun e88 ys89 =>
 bif e88.same (.exit 1) then (
 aV ys89 0 fun x90 =>
 aX x90 fun xs91 =>
 aV xs91 0 fun x92 =>
 aH x92 fun a93 m94 m95 =>
 aV xs91 1 fun x96 =>
 aI .i64 x96 fun n97 =>
 aV xs91 2 fun x98 =>
 aI .i64 x98 fun n99 =>
 aV ys89 1 fun x100 =>
 aX x100 fun xs101 =>
 aV xs101 0 fun x102 =>
 aI .i64 x102 fun n103 =>
 aV xs101 1 fun x104 =>
 aS x104 fun s105 =>
 aV xs101 2 fun x106 =>
 aI .i64 x106 fun n107 =>
 aV xs101 3 fun x108 =>
 aO 1 x108 fun l109 =>
 aV xs101 4 fun x110 =>
 aO 5 x110 fun l111 =>
 aV ys89 2 fun x112 =>
 aX x112 fun xs113 =>
 aV xs113 0 fun x114 =>
 aI .i64 x114 fun n115 =>
 aV xs113 1 fun x116 =>
 aS x116 fun s117 =>
 aV xs113 2 fun x118 =>
 aI .i64 x118 fun n119 =>
 aV xs113 3 fun x120 =>
 aO 1 x120 fun l121 =>
 aV xs113 4 fun x122 =>
 aO 5 x122 fun l123 =>
 some ⟨.g [.v (.int .i64 n115), .v (.string s117), .v (.int .i64 n119), .s 1 l121, .s 5 l123], [.p [.v (.slice a93 m94 m95), .v (.int .i64 n97), .v (.int .i64 n99)]]⟩) else (
 none))) else (
 bif (2 == 5) then (
 callT T 100 [.p [.v (.slice a10 m11 m12), .v (.int .i64 n13), .v (.int .i64 n14)], .d (.v (.int .i64 5))] fun o124 =>
 nth o124.back 0 fun i125 =>
 oP i125 fun r126 =>
 tst (Nat.beq r126.length 3) (
 cH r126 0 fun a127 m128 m129 =>
 cI .i64 r126 1 fun n130 =>
 cI .i64 r126 2 fun n131 =>
 oD o124.res fun d132 =>
 dL 2 d132 fun l133 =>
 aft (l72x1 T k k [.b [.v (.slice a127 m128 m129), .v (.int .i64 n130), .v (.int .i64 n131)], .v (.int .i64 n6), .b [.v (.int .i64 0), .v (.string ByteArray.empty), .v (.int .i64 0), .o 1 [], .o 5 []], .b [.v (.int .i64 2), .v (.string ByteArray.empty), .v (.int .i64 0), .o 1 [], .o 5 []], .o 2 l133, .v (.int .i64 0)]) fun e168 ys169 =>
 bif e168.same (.exit 3) then (
 aV ys169 0 fun x170 =>
 aX x170 fun xs171 =>
 aV xs171 0 fun x172 =>
 aH x172 fun a173 m174 m175 =>
 aV xs171 1 fun x176 =>
 aI .i64 x176 fun n177 =>
 aV xs171 2 fun x178 =>
 aI .i64 x178 fun n179 =>
 aV ys169 1 fun x180 =>
 aX x180 fun xs181 =>
 aV xs181 0 fun x182 =>
 aI .i64 x182 fun n183 =>
 aV xs181 1 fun x184 =>
 aS x184 fun s185 =>
 aV xs181 2 fun x186 =>
 aI .i64 x186 fun n187 =>
 aV xs181 3 fun x188 =>
 aO 1 x188 fun l189 =>
 aV xs181 4 fun x190 =>
 aO 5 x190 fun l191 =>
 aV ys169 2 fun x192 =>
 aX x192 fun xs193 =>
 aV xs193 0 fun x194 =>
 aI .i64 x194 fun n195 =>
 aV xs193 1 fun x196 =>
 aS x196 fun s197 =>
 aV xs193 2 fun x198 =>
 aI .i64 x198 fun n199 =>
 aV xs193 3 fun x200 =>
 aO 1 x200 fun l201 =>
 aV xs193 4 fun x202 =>
 aO 5 x202 fun l203 =>
 some ⟨.g [.v (.int .i64 n195), .v (.string s197), .v (.int .i64 n199), .s 1 l201, .s 5 l203], [.p [.v (.slice a173 m174 m175), .v (.int .i64 n177), .v (.int .i64 n179)]]⟩) else (
 none))) else (
 some ⟨.g [.v (.int .i64 2), .v (.string ByteArray.empty), .v (.int .i64 0), .s 1 [], .s 5 []], [.p [.v (.slice a10 m11 m12), .v (.int .i64 n13), .v (.int .i64 n14)]]⟩)))))) else (
 bif ((IntKind.wrap .i64 (1 + n16)) == 1) then (
 callT T 70 [.p [.v (.slice a10 m11 m12), .v (.int .i64 n13), .v (.int .i64 n14)], .d (.s 1 ([[.v (.string ({ data := #[] } : ByteArray))], [.v (.string ({ data := #[97] } : ByteArray))], [.v (.string ({ data := #[120, 32, 121] } : ByteArray))], [.v (.string ({ data := #[34] } : ByteArray))], [.v (.string ({ data := #[92, 110] } : ByteArray))], [.v (.string ({ data := #[105, 109, 97, 103, 101, 58, 49] } : ByteArray))]] : Rows))] fun o204 =>
 nth o204.back 0 fun i205 =>
 oP i205 fun r206 =>
 tst (Nat.beq r206.length 3) (
 cH r206 0 fun a207 m208 m209 =>
 cI .i64 r206 1 fun n210 =>
 cI .i64 r206 2 fun n211 =>
 oD o204.res fun d212 =>
 dS d212 fun s213 =>
 some ⟨.g [.v (.int .i64 (IntKind.wrap .i64 (1 + n16))), .v (.string s213), .v (.int .i64 0), .s 1 [], .s 5 []], [.p [.v (.slice a207 m208 m209), .v (.int .i64 n210), .v (.int .i64 n211)]]⟩)) else (
 bif ((IntKind.wrap .i64 (1 + n16)) == 2) then (
 callT T 49 [.p [.v (.slice a10 m11 m12), .v (.int .i64 n13), .v (.int .i64 n14)], .d (.s 1 ([[.v (.int .i64 0)], [.v (.int .i64 1)], [.v (.int .i64 80)], [.v (.int .i64 (-5))], [.v (.int .i64 9223372036854775807)], [.v (.int .i64 (-9223372036854775808))]] : Rows))] fun o214 =>
 nth o214.back 0 fun i215 =>
 oP i215 fun r216 =>
 tst (Nat.beq r216.length 3) (
 cH r216 0 fun a217 m218 m219 =>
 cI .i64 r216 1 fun n220 =>
 cI .i64 r216 2 fun n221 =>
 oD o214.res fun d222 =>
 dI .i64 d222 fun n223 =>
 some ⟨.g [.v (.int .i64 (IntKind.wrap .i64 (1 + n16))), .v (.string ByteArray.empty), .v (.int .i64 n223), .s 1 [], .s 5 []], [.p [.v (.slice a217 m218 m219), .v (.int .i64 n220), .v (.int .i64 n221)]]⟩)) else (
 bif ((IntKind.wrap .i64 (1 + n16)) == 3) then (
 callT T 44 [.p [.v (.slice a10 m11 m12), .v (.int .i64 n13), .v (.int .i64 n14)], .d (.v (.int .i64 2))] fun o224 =>
 nth o224.back 0 fun i225 =>
 oP i225 fun r226 =>
 tst (Nat.beq r226.length 3) (
 cH r226 0 fun a227 m228 m229 =>
 cI .i64 r226 1 fun n230 =>
 cI .i64 r226 2 fun n231 =>
 oD o224.res fun d232 =>
 dI .i64 d232 fun n233 =>
 some ⟨.g [.v (.int .i64 (IntKind.wrap .i64 (1 + n16))), .v (.string ByteArray.empty), .v (.int .i64 n233), .s 1 [], .s 5 []], [.p [.v (.slice a227 m228 m229), .v (.int .i64 n230), .v (.int .i64 n231)]]⟩)) else (
 bif ((IntKind.wrap .i64 (1 + n16)) == 4) then (
 callT T 44 [.p [.v (.slice a10 m11 m12), .v (.int .i64 n13), .v (.int .i64 n14)], .d (.v (.int .i64 4))] fun o234 =>
 nth o234.back 0 fun i235 =>
 oP i235 fun r236 =>
 tst (Nat.beq r236.length 3) (
 cH r236 0 fun a237 m238 m239 =>
 cI .i64 r236 1 fun n240 =>
 cI .i64 r236 2 fun n241 =>
 oD o234.res fun d242 =>
 dI .i64 d242 fun n243 =>
 aft (l72x0 T k k [.b [.v (.slice a237 m238 m239), .v (.int .i64 n240), .v (.int .i64 n241)], .v (.int .i64 n6), .b [.v (.int .i64 0), .v (.string ByteArray.empty), .v (.int .i64 0), .o 1 [], .o 5 []], .b [.v (.int .i64 (IntKind.wrap .i64 (1 + n16))), .v (.string ByteArray.empty), .v (.int .i64 0), .o 1 [], .o 5 []], .v (.int .i64 n243)]) fun e244 ys245 =>
 bif e244.same (.exit 1) then (
 aV ys245 0 fun x246 =>
 aX x246 fun xs247 =>
 aV xs247 0 fun x248 =>
 aH x248 fun a249 m250 m251 =>
 aV xs247 1 fun x252 =>
 aI .i64 x252 fun n253 =>
 aV xs247 2 fun x254 =>
 aI .i64 x254 fun n255 =>
 aV ys245 1 fun x256 =>
 aX x256 fun xs257 =>
 aV xs257 0 fun x258 =>
 aI .i64 x258 fun n259 =>
 aV xs257 1 fun x260 =>
 aS x260 fun s261 =>
 aV xs257 2 fun x262 =>
 aI .i64 x262 fun n263 =>
 aV xs257 3 fun x264 =>
 aO 1 x264 fun l265 =>
 aV xs257 4 fun x266 =>
 aO 5 x266 fun l267 =>
 aV ys245 2 fun x268 =>
 aX x268 fun xs269 =>
 aV xs269 0 fun x270 =>
 aI .i64 x270 fun n271 =>
 aV xs269 1 fun x272 =>
 aS x272 fun s273 =>
 aV xs269 2 fun x274 =>
 aI .i64 x274 fun n275 =>
 aV xs269 3 fun x276 =>
 aO 1 x276 fun l277 =>
 aV xs269 4 fun x278 =>
 aO 5 x278 fun l279 =>
 some ⟨.g [.v (.int .i64 n271), .v (.string s273), .v (.int .i64 n275), .s 1 l277, .s 5 l279], [.p [.v (.slice a249 m250 m251), .v (.int .i64 n253), .v (.int .i64 n255)]]⟩) else (
 none))) else (
 bif ((IntKind.wrap .i64 (1 + n16)) == 5) then (
 callT T 100 [.p [.v (.slice a10 m11 m12), .v (.int .i64 n13), .v (.int .i64 n14)], .d (.v (.int .i64 5))] fun o280 =>
 nth o280.back 0 fun i281 =>
 oP i281 fun r282 =>
 tst (Nat.beq r282.length 3) (
 cH r282 0 fun a283 m284 m285 =>
 cI .i64 r282 1 fun n286 =>
 cI .i64 r282 2 fun n287 =>
 oD o280.res fun d288 =>
 dL 2 d288 fun l289 =>
 aft (l72x1 T k k [.b [.v (.slice a283 m284 m285), .v (.int .i64 n286), .v (.int .i64 n287)], .v (.int .i64 n6), .b [.v (.int .i64 0), .v (.string ByteArray.empty), .v (.int .i64 0), .o 1 [], .o 5 []], .b [.v (.int .i64 (IntKind.wrap .i64 (1 + n16))), .v (.string ByteArray.empty), .v (.int .i64 0), .o 1 [], .o 5 []], .o 2 l289, .v (.int .i64 0)]) fun e290 ys291 =>
 bif e290.same (.exit 3) then (
 aV ys291 0 fun x292 =>
 aX x292 fun xs293 =>
 aV xs293 0 fun x294 =>
 aH x294 fun a295 m296 m297 =>
 aV xs293 1 fun x298 =>
 aI .i64 x298 fun n299 =>
 aV xs293 2 fun x300 =>
 aI .i64 x300 fun n301 =>
 aV ys291 1 fun x302 =>
 aX x302 fun xs303 =>
 aV xs303 0 fun x304 =>
 aI .i64 x304 fun n305 =>
 aV xs303 1 fun x306 =>
 aS x306 fun s307 =>
 aV xs303 2 fun x308 =>
 aI .i64 x308 fun n309 =>
 aV xs303 3 fun x310 =>
 aO 1 x310 fun l311 =>
 aV xs303 4 fun x312 =>
 aO 5 x312 fun l313 =>
 aV ys291 2 fun x314 =>
 aX x314 fun xs315 =>
 aV xs315 0 fun x316 =>
 aI .i64 x316 fun n317 =>
 aV xs315 1 fun x318 =>
 aS x318 fun s319 =>
 aV xs315 2 fun x320 =>
 aI .i64 x320 fun n321 =>
 aV xs315 3 fun x322 =>
 aO 1 x322 fun l323 =>
 aV xs315 4 fun x324 =>
 aO 5 x324 fun l325 =>
 some ⟨.g [.v (.int .i64 n317), .v (.string s319), .v (.int .i64 n321), .s 1 l323, .s 5 l325], [.p [.v (.slice a295 m296 m297), .v (.int .i64 n299), .v (.int .i64 n301)]]⟩) else (
 none))) else (
 some ⟨.g [.v (.int .i64 (IntKind.wrap .i64 (1 + n16))), .v (.string ByteArray.empty), .v (.int .i64 0), .s 1 [], .s 5 []], [.p [.v (.slice a10 m11 m12), .v (.int .i64 n13), .v (.int .i64 n14)]]⟩))))))) else (
 bif ((IntKind.wrap .i64 (1 + n16)) == 1) then (
 callT T 70 [.p [.v (.slice a10 m11 m12), .v (.int .i64 n13), .v (.int .i64 n14)], .d (.s 1 ([[.v (.string ({ data := #[] } : ByteArray))], [.v (.string ({ data := #[97] } : ByteArray))], [.v (.string ({ data := #[120, 32, 121] } : ByteArray))], [.v (.string ({ data := #[34] } : ByteArray))], [.v (.string ({ data := #[92, 110] } : ByteArray))], [.v (.string ({ data := #[105, 109, 97, 103, 101, 58, 49] } : ByteArray))]] : Rows))] fun o326 =>
 nth o326.back 0 fun i327 =>
 oP i327 fun r328 =>
 tst (Nat.beq r328.length 3) (
 cH r328 0 fun a329 m330 m331 =>
 cI .i64 r328 1 fun n332 =>
 cI .i64 r328 2 fun n333 =>
 oD o326.res fun d334 =>
 dS d334 fun s335 =>
 some ⟨.g [.v (.int .i64 (IntKind.wrap .i64 (1 + n16))), .v (.string s335), .v (.int .i64 0), .s 1 [], .s 5 []], [.p [.v (.slice a329 m330 m331), .v (.int .i64 n332), .v (.int .i64 n333)]]⟩)) else (
 bif ((IntKind.wrap .i64 (1 + n16)) == 2) then (
 callT T 49 [.p [.v (.slice a10 m11 m12), .v (.int .i64 n13), .v (.int .i64 n14)], .d (.s 1 ([[.v (.int .i64 0)], [.v (.int .i64 1)], [.v (.int .i64 80)], [.v (.int .i64 (-5))], [.v (.int .i64 9223372036854775807)], [.v (.int .i64 (-9223372036854775808))]] : Rows))] fun o336 =>
 nth o336.back 0 fun i337 =>
 oP i337 fun r338 =>
 tst (Nat.beq r338.length 3) (
 cH r338 0 fun a339 m340 m341 =>
 cI .i64 r338 1 fun n342 =>
 cI .i64 r338 2 fun n343 =>
 oD o336.res fun d344 =>
 dI .i64 d344 fun n345 =>
 some ⟨.g [.v (.int .i64 (IntKind.wrap .i64 (1 + n16))), .v (.string ByteArray.empty), .v (.int .i64 n345), .s 1 [], .s 5 []], [.p [.v (.slice a339 m340 m341), .v (.int .i64 n342), .v (.int .i64 n343)]]⟩)) else (
 bif ((IntKind.wrap .i64 (1 + n16)) == 3) then (
 callT T 44 [.p [.v (.slice a10 m11 m12), .v (.int .i64 n13), .v (.int .i64 n14)], .d (.v (.int .i64 2))] fun o346 =>
 nth o346.back 0 fun i347 =>
 oP i347 fun r348 =>
 tst (Nat.beq r348.length 3) (
 cH r348 0 fun a349 m350 m351 =>
 cI .i64 r348 1 fun n352 =>
 cI .i64 r348 2 fun n353 =>
 oD o346.res fun d354 =>
 dI .i64 d354 fun n355 =>
 some ⟨.g [.v (.int .i64 (IntKind.wrap .i64 (1 + n16))), .v (.string ByteArray.empty), .v (.int .i64 n355), .s 1 [], .s 5 []], [.p [.v (.slice a349 m350 m351), .v (.int .i64 n352), .v (.int .i64 n353)]]⟩)) else (
 bif ((IntKind.wrap .i64 (1 + n16)) == 4) then (
 callT T 44 [.p [.v (.slice a10 m11 m12), .v (.int .i64 n13), .v (.int .i64 n14)], .d (.v (.int .i64 4))] fun o356 =>
 nth o356.back 0 fun i357 =>
 oP i357 fun r358 =>
 tst (Nat.beq r358.length 3) (
 cH r358 0 fun a359 m360 m361 =>
 cI .i64 r358 1 fun n362 =>
 cI .i64 r358 2 fun n363 =>
 oD o356.res fun d364 =>
 dI .i64 d364 fun n365 =>
 aft (l72x0 T k k [.b [.v (.slice a359 m360 m361), .v (.int .i64 n362), .v (.int .i64 n363)], .v (.int .i64 n6), .b [.v (.int .i64 0), .v (.string ByteArray.empty), .v (.int .i64 0), .o 1 [], .o 5 []], .b [.v (.int .i64 (IntKind.wrap .i64 (1 + n16))), .v (.string ByteArray.empty), .v (.int .i64 0), .o 1 [], .o 5 []], .v (.int .i64 n365)]) fun e366 ys367 =>
 bif e366.same (.exit 1) then (
 aV ys367 0 fun x368 =>
 aX x368 fun xs369 =>
 aV xs369 0 fun x370 =>
 aH x370 fun a371 m372 m373 =>
 aV xs369 1 fun x374 =>
 aI .i64 x374 fun n375 =>
 aV xs369 2 fun x376 =>
 aI .i64 x376 fun n377 =>
 aV ys367 1 fun x378 =>
 aX x378 fun xs379 =>
 aV xs379 0 fun x380 =>
 aI .i64 x380 fun n381 =>
 aV xs379 1 fun x382 =>
 aS x382 fun s383 =>
 aV xs379 2 fun x384 =>
 aI .i64 x384 fun n385 =>
 aV xs379 3 fun x386 =>
 aO 1 x386 fun l387 =>
 aV xs379 4 fun x388 =>
 aO 5 x388 fun l389 =>
 aV ys367 2 fun x390 =>
 aX x390 fun xs391 =>
 aV xs391 0 fun x392 =>
 aI .i64 x392 fun n393 =>
 aV xs391 1 fun x394 =>
 aS x394 fun s395 =>
 aV xs391 2 fun x396 =>
 aI .i64 x396 fun n397 =>
 aV xs391 3 fun x398 =>
 aO 1 x398 fun l399 =>
 aV xs391 4 fun x400 =>
 aO 5 x400 fun l401 =>
 some ⟨.g [.v (.int .i64 n393), .v (.string s395), .v (.int .i64 n397), .s 1 l399, .s 5 l401], [.p [.v (.slice a371 m372 m373), .v (.int .i64 n375), .v (.int .i64 n377)]]⟩) else (
 none))) else (
 bif ((IntKind.wrap .i64 (1 + n16)) == 5) then (
 callT T 100 [.p [.v (.slice a10 m11 m12), .v (.int .i64 n13), .v (.int .i64 n14)], .d (.v (.int .i64 5))] fun o402 =>
 nth o402.back 0 fun i403 =>
 oP i403 fun r404 =>
 tst (Nat.beq r404.length 3) (
 cH r404 0 fun a405 m406 m407 =>
 cI .i64 r404 1 fun n408 =>
 cI .i64 r404 2 fun n409 =>
 oD o402.res fun d410 =>
 dL 2 d410 fun l411 =>
 aft (l72x1 T k k [.b [.v (.slice a405 m406 m407), .v (.int .i64 n408), .v (.int .i64 n409)], .v (.int .i64 n6), .b [.v (.int .i64 0), .v (.string ByteArray.empty), .v (.int .i64 0), .o 1 [], .o 5 []], .b [.v (.int .i64 (IntKind.wrap .i64 (1 + n16))), .v (.string ByteArray.empty), .v (.int .i64 0), .o 1 [], .o 5 []], .o 2 l411, .v (.int .i64 0)]) fun e412 ys413 =>
 bif e412.same (.exit 3) then (
 aV ys413 0 fun x414 =>
 aX x414 fun xs415 =>
 aV xs415 0 fun x416 =>
 aH x416 fun a417 m418 m419 =>
 aV xs415 1 fun x420 =>
 aI .i64 x420 fun n421 =>
 aV xs415 2 fun x422 =>
 aI .i64 x422 fun n423 =>
 aV ys413 1 fun x424 =>
 aX x424 fun xs425 =>
 aV xs425 0 fun x426 =>
 aI .i64 x426 fun n427 =>
 aV xs425 1 fun x428 =>
 aS x428 fun s429 =>
 aV xs425 2 fun x430 =>
 aI .i64 x430 fun n431 =>
 aV xs425 3 fun x432 =>
 aO 1 x432 fun l433 =>
 aV xs425 4 fun x434 =>
 aO 5 x434 fun l435 =>
 aV ys413 2 fun x436 =>
 aX x436 fun xs437 =>
 aV xs437 0 fun x438 =>
 aI .i64 x438 fun n439 =>
 aV xs437 1 fun x440 =>
 aS x440 fun s441 =>
 aV xs437 2 fun x442 =>
 aI .i64 x442 fun n443 =>
 aV xs437 3 fun x444 =>
 aO 1 x444 fun l445 =>
 aV xs437 4 fun x446 =>
 aO 5 x446 fun l447 =>
 some ⟨.g [.v (.int .i64 n439), .v (.string s441), .v (.int .i64 n443), .s 1 l445, .s 5 l447], [.p [.v (.slice a417 m418 m419), .v (.int .i64 n421), .v (.int .i64 n423)]]⟩) else (
 none))) else (
 some ⟨.g [.v (.int .i64 (IntKind.wrap .i64 (1 + n16))), .v (.string ByteArray.empty), .v (.int .i64 0), .s 1 [], .s 5 []], [.p [.v (.slice a10 m11 m12), .v (.int .i64 n13), .v (.int .i64 n14)]]⟩)))))))) := by kernel_rfl
/- loop.example/g00119/spec.l12Draw -/
def b45x0 : ACode := (
 .seq (.seq (.g [oM 6 4, oBi 7 .lss 6 6]) (
 .cond (.t 7) (.skip) (.exit 0))) (
 .seq (.block 1 (.seq (.g [oM 10 0, oQ 11 (.call (.f 46) [.lent, .rd] false [.c .b] [.t 10, .i 2])]) (
 .cond (.t 11) (.g [oM 12 3, oM 13 4, oM 14 0, oQ 15 (.call (.f 44) [.lent, .rd] false [.c kI] [.t 14, .i 5]), oQ 16 (.bin .add (.i 1) (.t 15)), oM 17 0, oQ 18 (.call (.f 72) [.lent, .rd] false [.g [kI, .s, kI, .sl 1, .sl 5]] [.t 17, .i 2]), oQ 19 (.build [.v (.int .i64 0), .v (.int .i64 0), .v (.int .i64 0), .v (.string ByteArray.empty), .v (.int .i64 0), .s 1 [], .s 5 []] [(0, 1, (.t 13)), (1, 1, (.t 16)), (2, 5, (.t 18))]), oQ 20 (.lit 7 ([[.v (.int .i64 0), .v (.int .i64 0), .v (.int .i64 0), .v (.string ByteArray.empty), .v (.int .i64 0), .s 1 [], .s 5 []]] : Rows) [(0, (.t 19))]), oQ 21 (.app 7 96 (.t 12) (.t 20)), oM 3 21]) (.skip)))) (
 .g [oM 8 4, oBi 9 .add 8 1, oM 4 9])))
def e45x0 : Exits := [((.exit 0), [(0, .b [.c .h, .c kI, .c kI]), (3, .o 7)])]
noncomputable def l45x0 (T : Table) (k : Nat) := loopN (evalC ⟨T, [0], []⟩ k b45x0 (Ex × List AV)) [0, 3, 4] e45x0
def a45 : AFun := ⟨[.lent], false, [.t 2], (
 .seq (.g [oQ 2 (.mv (.c (.o 7 [])))]) (
 .seq (.g [oQ 5 (.lit 7 ([] : Rows) []), oM 3 5]) (
 .seq (.seq (.g [oK 4 1]) (
 .block 0 (.loop [0, 3, 4] e45x0 b45x0))) (
 .seq (.g [oM 22 3, oM 2 22]) (
 .ret)))))⟩
theorem l45x0s (T : Table) (k n m7 m8 : Nat) (a6 : Option Addr) (n9 n10 n12 : Int) (l11 : Rows): l45x0 T k (n + 1) [.b [.v (.slice a6 m7 m8), .v (.int .i64 n9), .v (.int .i64 n10)], .o 7 l11, .v (.int .i64 n12)] = (
 bif (decide (n12 < 6)) then (
 callT T 46 [.p [.v (.slice a6 m7 m8), .v (.int .i64 n9), .v (.int .i64 n10)], .d (.v (.int .i64 2))] fun o13 =>
 nth o13.back 0 fun i14 =>
 oP i14 fun r15 =>
 tst (Nat.beq r15.length 3) (
 cH r15 0 fun a16 m17 m18 =>
 cI .i64 r15 1 fun n19 =>
 cI .i64 r15 2 fun n20 =>
 oD o13.res fun d21 =>
 dB d21 fun b22 =>
 bif b22 then (
 callT T 44 [.p [.v (.slice a16 m17 m18), .v (.int .i64 n19), .v (.int .i64 n20)], .d (.v (.int .i64 5))] fun o23 =>
 nth o23.back 0 fun i24 =>
 oP i24 fun r25 =>
 tst (Nat.beq r25.length 3) (
 cH r25 0 fun a26 m27 m28 =>
 cI .i64 r25 1 fun n29 =>
 cI .i64 r25 2 fun n30 =>
 oD o23.res fun d31 =>
 dI .i64 d31 fun n32 =>
 callT T 72 [.p [.v (.slice a26 m27 m28), .v (.int .i64 n29), .v (.int .i64 n30)], .d (.v (.int .i64 2))] fun o33 =>
 nth o33.back 0 fun i34 =>
 oP i34 fun r35 =>
 tst (Nat.beq r35.length 3) (
 cH r35 0 fun a36 m37 m38 =>
 cI .i64 r35 1 fun n39 =>
 cI .i64 r35 2 fun n40 =>
 oG o33.res fun r41 =>
 tst (Nat.beq r41.length 5) (
 cI .i64 r41 0 fun n42 =>
 cS r41 1 fun s43 =>
 cI .i64 r41 2 fun n44 =>
 cL 1 r41 3 fun l45 =>
 cL 5 r41 4 fun l46 =>
 tst (decide ((l11.length + ([[.v (.int .i64 n12), .v (.int .i64 (IntKind.wrap .i64 (1 + n32))), .v (.int .i64 n42), .v (.string s43), .v (.int .i64 n44), hole, hole]] : Rows).length) * 96 ≤ maxBytes)) (
 l45x0 T k n [.b [.v (.slice a36 m37 m38), .v (.int .i64 n39), .v (.int .i64 n40)], .o 7 (setD (setD (l11 ++ ([[.v (.int .i64 n12), .v (.int .i64 (IntKind.wrap .i64 (1 + n32))), .v (.int .i64 n42), .v (.string s43), .v (.int .i64 n44), hole, hole]] : Rows)) (0 + l11.length) 6 (.s 5 l46)) (0 + l11.length) 5 (.s 1 l45)), .v (.int .i64 (IntKind.wrap .i64 (n12 + 1)))]))))) else (
 l45x0 T k n [.b [.v (.slice a16 m17 m18), .v (.int .i64 n19), .v (.int .i64 n20)], .o 7 l11, .v (.int .i64 (IntKind.wrap .i64 (n12 + 1)))]))) else (
 some ((.exit 0), [.b [.v (.slice a6 m7 m8), .v (.int .i64 n9), .v (.int .i64 n10)], .o 7 l11]))) := by kernel_rfl
theorem a45q (T : Table) (k m2 m3 : Nat) (a1 : Option Addr) (n4 n5 : Int): evalF T k a45 [.p [.v (.slice a1 m2 m3), .v (.int .i64 n4), .v (.int .i64 n5)]] = (
 aft (l45x0 T k k [.b [.v (.slice a1 m2 m3), .v (.int .i64 n4), .v (.int .i64 n5)], .o 7 [], .v (.int .i64 1)]) fun e47 ys48 =>
 bif e47.same (.exit 0) then (
 aV ys48 0 fun x49 =>
 aX x49 fun xs50 =>
 aV xs50 0 fun x51 =>
 aH x51 fun a52 m53 m54 =>
 aV xs50 1 fun x55 =>
 aI .i64 x55 fun n56 =>
 aV xs50 2 fun x57 =>
 aI .i64 x57 fun n58 =>
 aV ys48 1 fun x59 =>
 aO 7 x59 fun l60 =>
 some ⟨.d (.s 7 l60), [.p [.v (.slice a52 m53 m54), .v (.int .i64 n56), .v (.int .i64 n58)]]⟩) else (
 none)) := by kernel_rfl
/- loop.example/g00119/spec.l11Runs -/
def b22x0 : ACode := (
 .seq (.seq (.g [oM 6 5, oM 7 0, oZ 8 7, oB 9 .lss 6 8]) (
 .cond (.t 9) (.skip) (.exit 0))) (
 .seq (.block 1 (.seq (.dreg [] [(0, oM 12 0), (0, oM 13 5), (0, oI 14 2 12 13), (0, oF 15 0 14), (0, oW 16 kI 15), (1, oQ 17 (.call (.f 21) [.rd, .rd, .rd] false [.c .b] [.t 16, .i 1, .i 1000000])), (0, oN 18 17), (0, oM 19 18), (0, oJ 20 19 false (.mv (.t 0))), (0, oJ 21 19 false (.mv (.t 5))), (0, oJ 22 19 false (.iad 2 (.t 20) (.t 21))), (0, oJ 23 19 false (.fad 1 (.t 22))), (0, oJ 24 19 false (.load false [kI] (.t 23))), (0, oJ 25 19 false (.mv (.t 1))), (1, oJ 26 19 false (.call (.f 21) [.rd, .rd, .rd] false [.c .b] [.t 24, .t 25, .i 10000])), (0, oJ 27 19 false (.un .not (.t 26))), (0, oQ 28 (.pick (.t 19) (.b true) (.t 27))), (0, oM 29 28), (0, oJ 30 29 false (.mv (.t 5))), (0, oJ 31 29 false (.bin .gtr (.t 30) (.i 0))), (0, oJ 32 29 false (.mv (.t 31))), (0, oJ 33 32 true (.mv (.t 0))), (0, oJ 34 32 true (.mv (.t 5))), (0, oJ 35 32 true (.bin .sub (.t 34) (.i 1))), (0, oJ 36 32 true (.iad 2 (.t 33) (.t 35))), (0, oJ 37 32 true (.fad 0 (.t 36))), (0, oJ 38 32 true (.load false [kI] (.t 37))), (0, oJ 39 32 true (.mv (.t 0))), (0, oJ 40 32 true (.mv (.t 5))), (0, oJ 41 32 true (.iad 2 (.t 39) (.t 40))), (0, oJ 42 32 true (.fad 0 (.t 41))), (0, oJ 43 32 true (.load false [kI] (.t 42)))] [oJ 44 32 true (.bin .geq (.t 38) (.t 43)), oJ 45 29 false (.pick (.t 32) (.t 44) (.b false)), oQ 46 (.pick (.t 29) (.b true) (.t 45))]) (
 .cond (.t 46) (.seq (.g [oV 4 false]) (
 .ret)) (.skip)))) (
 .g [oM 10 5, oBi 11 .add 10 1, oM 5 11])))
def e22x0 : Exits := [(.ret, [(4, .c .b)]), ((.exit 0), [(0, .c (.sl 2))])]
noncomputable def l22x0 (T : Table) (k : Nat) := loopN (evalC ⟨T, [], []⟩ k b22x0 (Ex × List AV)) [0, 1, 5] e22x0
def a22 : AFun := ⟨[.rd, .rd], false, [.t 4], (
 .seq (.g [oV 4 false]) (
 .seq (.seq (.g [oK 5 0]) (
 .block 0 (.loop [0, 1, 5] e22x0 b22x0))) (
 .seq (.g [oM 47 0, oZ 48 47, oBi 49 .leq 48 80, oM 4 49]) (
 .ret))))⟩
theorem l22x0s (T : Table) (k n : Nat) (l3 : Rows) (n4 n5 : Int): l22x0 T k (n + 1) [.fz 2 l3, .v (.int .i64 n4), .v (.int .i64 n5)] = (
 bif (decide (n5 < (l3.length : Int))) then (
 tst (decide (0 ≤ n5)) (
 look l3 (Int.toNat n5) fun r6 =>
 cI .i64 r6 0 fun n7 =>
 callT T 21 [.d (.v (.int .i64 n7)), .d (.v (.int .i64 1)), .d (.v (.int .i64 1000000))] fun o8 =>
 oD o8.res fun d9 =>
 dB d9 fun b10 =>
 bif (!b10) == false then (
 tst (decide (0 ≤ n5)) (
 look l3 (Int.toNat n5) fun r11 =>
 cI .i64 r11 1 fun n12 =>
 callT T 21 [.d (.v (.int .i64 n12)), .d (.v (.int .i64 n4)), .d (.v (.int .i64 10000))] fun o13 =>
 oD o13.res fun d14 =>
 dB d14 fun b15 =>
 bif (!b15) == false then (
 bif (decide (n5 > 0)) == true then (
 tst (decide (0 ≤ (IntKind.wrap .i64 (n5 - 1)))) (
 look l3 (Int.toNat (IntKind.wrap .i64 (n5 - 1))) fun r16 =>
 cI .i64 r16 0 fun n17 =>
 tst (decide (0 ≤ n5)) (
 look l3 (Int.toNat n5) fun r18 =>
 cI .i64 r18 0 fun n19 =>
 bif (decide (n17 ≥ n19)) then (
 some (.ret, [.v (.bool false)])) else (
 l22x0 T k n [.fz 2 l3, .v (.int .i64 n4), .v (.int .i64 (IntKind.wrap .i64 (n5 + 1)))])))) else (
 l22x0 T k n [.fz 2 l3, .v (.int .i64 n4), .v (.int .i64 (IntKind.wrap .i64 (n5 + 1)))])) else (
 some (.ret, [.v (.bool false)])))) else (
 some (.ret, [.v (.bool false)])))) else (
 some ((.exit 0), [.fz 2 l3]))) := by kernel_rfl
theorem a22q (T : Table) (k : Nat) (l1 : Rows) (n2 : Int): evalF T k a22 [.d (.s 2 l1), .d (.v (.int .i64 n2))] = (
 aft (l22x0 T k k [.fz 2 l1, .v (.int .i64 n2), .v (.int .i64 0)]) fun e20 ys21 =>
 bif e20.same .ret then (
 aV ys21 0 fun x22 =>
 aB x22 fun b23 =>
 some ⟨.d (.v (.bool b23)), []⟩) else (
 bif e20.same (.exit 0) then (
 aV ys21 0 fun x24 =>
 aL 2 x24 fun l25 =>
 some ⟨.d (.v (.bool (decide ((l25.length : Int) ≤ 80)))), []⟩) else (
 none))) := by kernel_rfl
/- loop.example/g00119/spec.l4Text -/
def b112x0 : ACode := (
 .seq (.seq (.g [oM 4 3, oM 5 0, oQ 6 (.len true (.t 5)), oB 7 .lss 4 6]) (
 .cond (.t 7) (.skip) (.exit 0))) (
 .seq (.block 1 (.seq (.g [oM 10 0, oM 11 3, oQ 12 (.idx (.t 10) (.t 11)), oQ 13 (.conv (.int .i64) (.t 12)), oQ 14 (.call (.f 21) [.rd, .rd, .rd] false [.c .b] [.t 13, .i 32, .i 126]), oN 15 14]) (
 .cond (.t 15) (.seq (.g [oV 2 false]) (
 .ret)) (.skip)))) (
 .g [oM 8 3, oBi 9 .add 8 1, oM 3 9])))
def e112x0 : Exits := [(.ret, [(2, .c .b)]), ((.exit 0), [(0, .c .s)])]
noncomputable def l112x0 (T : Table) (k : Nat) := loopN (evalC ⟨T, [], []⟩ k b112x0 (Ex × List AV)) [0, 3] e112x0
def a112 : AFun := ⟨[.rd], false, [.t 2], (
 .seq (.g [oV 2 false]) (
 .seq (.seq (.g [oK 3 0]) (
 .block 0 (.loop [0, 3] e112x0 b112x0))) (
 .seq (.g [oM 16 0, oQ 17 (.len true (.t 16)), oBi 18 .leq 17 100, oM 2 18]) (
 .ret))))⟩
theorem l112x0s (T : Table) (k n : Nat) (s2 : ByteArray) (n3 : Int): l112x0 T k (n + 1) [.v (.string s2), .v (.int .i64 n3)] = (
 bif (decide (n3 < (s2.size : Int))) then (
 tst (decide (0 ≤ n3)) (
 byteAt s2 (Int.toNat n3) fun c4 =>
 callT T 21 [.d (.v (.int .i64 (IntKind.wrap .i64 (c4.toNat : Int)))), .d (.v (.int .i64 32)), .d (.v (.int .i64 126))] fun o5 =>
 oD o5.res fun d6 =>
 dB d6 fun b7 =>
 bif (!b7) then (
 some (.ret, [.v (.bool false)])) else (
 l112x0 T k n [.v (.string s2), .v (.int .i64 (IntKind.wrap .i64 (n3 + 1)))]))) else (
 some ((.exit 0), [.v (.string s2)]))) := by kernel_rfl
theorem a112q (T : Table) (k : Nat) (s1 : ByteArray): evalF T k a112 [.d (.v (.string s1))] = (
 aft (l112x0 T k k [.v (.string s1), .v (.int .i64 0)]) fun e8 ys9 =>
 bif e8.same .ret then (
 aV ys9 0 fun x10 =>
 aB x10 fun b11 =>
 some ⟨.d (.v (.bool b11)), []⟩) else (
 bif e8.same (.exit 0) then (
 aV ys9 0 fun x12 =>
 aS x12 fun s13 =>
 some ⟨.d (.v (.bool (decide ((s13.size : Int) ≤ 100)))), []⟩) else (
 none))) := by kernel_rfl
/- loop.example/g00119/spec.l4Keys -/
def b113x0 : ACode := (
 .seq (.seq (.g [oM 4 3, oF 5 3 1, oW 6 (.sl 1) 5, oZ 7 6, oB 8 .lss 4 7]) (
 .cond (.t 8) (.skip) (.exit 0))) (
 .seq (.block 1 (.seq (.dreg [] [(0, oF 11 3 1), (0, oW 12 (.sl 1) 11), (0, oM 13 3), (0, oI 14 1 12 13), (0, oW 15 .s 14), (1, oC 16 20 [.c .b] [15]), (0, oN 17 16), (0, oM 18 17), (0, oJ 19 18 false (.mv (.t 3))), (0, oJ 20 18 false (.bin .gtr (.t 19) (.i 0))), (0, oJ 21 18 false (.mv (.t 20))), (0, oJ 22 21 true (.fad 3 (.t 1))), (0, oJ 23 21 true (.load false [.sl 1] (.t 22))), (0, oJ 24 21 true (.mv (.t 3))), (0, oJ 25 21 true (.bin .sub (.t 24) (.i 1))), (0, oJ 26 21 true (.iad 1 (.t 23) (.t 25))), (0, oJ 27 21 true (.load false [.s] (.t 26))), (0, oJ 28 21 true (.fad 3 (.t 1))), (0, oJ 29 21 true (.load false [.sl 1] (.t 28))), (0, oJ 30 21 true (.mv (.t 3))), (0, oJ 31 21 true (.iad 1 (.t 29) (.t 30))), (0, oJ 32 21 true (.load false [.s] (.t 31)))] [oJ 33 21 true (.bin .geq (.t 27) (.t 32)), oJ 34 18 false (.pick (.t 21) (.t 33) (.b false)), oQ 35 (.pick (.t 18) (.b true) (.t 34))]) (
 .cond (.t 35) (.seq (.g [oV 2 false]) (
 .ret)) (.skip)))) (
 .g [oM 9 3, oBi 10 .add 9 1, oM 3 10])))
def e113x0 : Exits := [(.ret, [(2, .c .b)]), ((.exit 0), [(1, .b [.c kI, .c .s, .c kI, .c (.sl 1), .c (.sl 5)])])]
noncomputable def l113x0 (T : Table) (k : Nat) := loopN (evalC ⟨T, [], []⟩ k b113x0 (Ex × List AV)) [1, 3] e113x0
def a113 : AFun := ⟨[.rd], false, [.t 2], (
 .seq (.g [oQ 1 (.box (.t 0)), oV 2 false]) (
 .seq (.seq (.g [oK 3 0]) (
 .block 0 (.loop [1, 3] e113x0 b113x0))) (
 .seq (.g [oF 36 3 1, oW 37 (.sl 1) 36, oZ 38 37, oF 39 4 1, oW 40 (.sl 5) 39, oZ 41 40, oB 42 .eql 38 41, oM 2 42]) (
 .ret))))⟩
theorem l113x0s (T : Table) (k n : Nat) (n6 n8 n11 : Int) (s7 : ByteArray) (l9 l10 : Rows): l113x0 T k (n + 1) [.b [.v (.int .i64 n6), .v (.string s7), .v (.int .i64 n8), .fz 1 l9, .fz 5 l10], .v (.int .i64 n11)] = (
 bif (decide (n11 < (l9.length : Int))) then (
 tst (decide (0 ≤ n11)) (
 look l9 (Int.toNat n11) fun r12 =>
 cS r12 0 fun s13 =>
 callT T 20 [.d (.v (.string s13))] fun o14 =>
 oD o14.res fun d15 =>
 dB d15 fun b16 =>
 bif (!b16) == false then (
 bif (decide (n11 > 0)) == true then (
 tst (decide (0 ≤ (IntKind.wrap .i64 (n11 - 1)))) (
 look l9 (Int.toNat (IntKind.wrap .i64 (n11 - 1))) fun r17 =>
 cS r17 0 fun s18 =>
 tst (decide (0 ≤ n11)) (
 look l9 (Int.toNat n11) fun r19 =>
 cS r19 0 fun s20 =>
 bif (!(bytesLess s18 s20)) then (
 some (.ret, [.v (.bool false)])) else (
 l113x0 T k n [.b [.v (.int .i64 n6), .v (.string s7), .v (.int .i64 n8), .fz 1 l9, .fz 5 l10], .v (.int .i64 (IntKind.wrap .i64 (n11 + 1)))])))) else (
 l113x0 T k n [.b [.v (.int .i64 n6), .v (.string s7), .v (.int .i64 n8), .fz 1 l9, .fz 5 l10], .v (.int .i64 (IntKind.wrap .i64 (n11 + 1)))])) else (
 some (.ret, [.v (.bool false)])))) else (
 some ((.exit 0), [.b [.v (.int .i64 n6), .v (.string s7), .v (.int .i64 n8), .fz 1 l9, .fz 5 l10]]))) := by kernel_rfl
theorem a113q (T : Table) (k : Nat) (n1 n3 : Int) (s2 : ByteArray) (l4 l5 : Rows): evalF T k a113 [.g [.v (.int .i64 n1), .v (.string s2), .v (.int .i64 n3), .s 1 l4, .s 5 l5]] = (
 aft (l113x0 T k k [.b [.v (.int .i64 n1), .v (.string s2), .v (.int .i64 n3), .fz 1 l4, .fz 5 l5], .v (.int .i64 0)]) fun e21 ys22 =>
 bif e21.same .ret then (
 aV ys22 0 fun x23 =>
 aB x23 fun b24 =>
 some ⟨.d (.v (.bool b24)), []⟩) else (
 bif e21.same (.exit 0) then (
 aV ys22 0 fun x25 =>
 aX x25 fun xs26 =>
 aV xs26 0 fun x27 =>
 aI .i64 x27 fun n28 =>
 aV xs26 1 fun x29 =>
 aS x29 fun s30 =>
 aV xs26 2 fun x31 =>
 aI .i64 x31 fun n32 =>
 aV xs26 3 fun x33 =>
 aL 1 x33 fun l34 =>
 aV xs26 4 fun x35 =>
 aL 5 x35 fun l36 =>
 some ⟨.d (.v (.bool ((l34.length : Int) == (l36.length : Int)))), []⟩) else (
 none))) := by kernel_rfl
-- a114 "unicode/utf8.RuneCountInString": op range
/- loop.example/g00119/spec.l4Look -/
def b82x0 : ACode := (
 .seq (.seq (.g [oM 12 6, oF 13 4 2, oW 14 (.sl 5) 13, oZ 15 14, oB 16 .lss 12 15]) (
 .cond (.t 16) (.skip) (.exit 0))) (
 .seq (.block 1 (.seq (.g [oF 19 4 2, oW 20 (.sl 5) 19, oM 21 6, oI 22 5 20 21, oL 23 [kI, .s, kI, .sl 1, .sl 5] 22, oM 24 1, oBi 25 .sub 24 1, oC 26 82 [.c kI] [23, 25], oM 7 26]) (
 .seq (.seq (.g [oM 27 7, oBi 28 .eql 27 0, oM 29 28, oJ 30 29 false (.mv (.t 5)), oJ 31 29 false (.mv (.t 7)), oJ 32 29 false (.bin .add (.t 30) (.t 31)), oJ 33 29 false (.bin .gtr (.t 32) (.i 300)), oQ 34 (.pick (.t 29) (.b true) (.t 33))]) (
 .cond (.t 34) (.seq (.g [oK 4 0]) (
 .ret)) (.skip))) (
 .g [oM 35 5, oM 36 7, oB 37 .add 35 36, oM 5 37])))) (
 .g [oM 17 6, oBi 18 .add 17 1, oM 6 18])))
def e82x0 : Exits := [(.ret, [(4, .c kI)]), ((.exit 0), [(2, .b [.c kI, .c .s, .c kI, .c (.sl 1), .c (.sl 5)]), (5, .c kI)])]
noncomputable def l82x0 (T : Table) (k : Nat) := loopN (evalC ⟨T, [], []⟩ k b82x0 (Ex × List AV)) [1, 2, 5, 6] e82x0
def a82 : AFun := ⟨[.rd, .rd], false, [.t 4], (
 .seq (.g [oQ 2 (.box (.t 0)), oK 4 0]) (
 .seq (.seq (.g [oM 10 1, oBi 11 .eql 10 0]) (
 .cond (.t 11) (.seq (.g [oK 4 0]) (
 .ret)) (.skip))) (
 .seq (.g [oK 5 1]) (
 .seq (.seq (.g [oK 6 0]) (
 .block 0 (.loop [1, 2, 5, 6] e82x0 b82x0))) (
 .seq (.g [oF 38 3 2, oW 39 (.sl 1) 38, oZ 40 39, oBi 41 .eql 40 0, oM 42 41, oJ 43 42 true (.fad 4 (.t 2)), oJ 44 42 true (.load false [.sl 5] (.t 43)), oJ 45 42 true (.len false (.t 44)), oJ 46 42 true (.bin .eql (.t 45) (.i 0)), oQ 47 (.pick (.t 42) (.t 46) (.b false)), oM 8 47]) (
 .seq (.g [oV 9 false]) (
 .seq (.seq (.g [oF 48 0 2, oW 49 kI 48]) (
 .block 2 (.seq (.g [oBi 51 .eql 49 1, oM 50 51]) (
 .cond (.t 50) (.g [oM 52 8, oM 53 52, oJ 54 53 true (.fad 2 (.t 2)), oJ 55 53 true (.load false [kI] (.t 54)), oJ 56 53 true (.bin .eql (.t 55) (.i 0)), oQ 57 (.pick (.t 53) (.t 56) (.b false)), oM 58 57, oJ 59 58 true (.fad 1 (.t 2)), oJ 60 58 true (.load false [.s] (.t 59)), oJ 61 58 true (.call (.f 112) [.rd] false [.c .b] [.t 60]), oQ 62 (.pick (.t 58) (.t 61) (.b false)), oM 9 62]) (.seq (.g [oBi 64 .eql 49 2, oM 63 64]) (
 .cond (.t 63) (.g [oM 65 8, oM 66 65, oJ 67 66 true (.fad 1 (.t 2)), oJ 68 66 true (.load false [.s] (.t 67)), oJ 69 66 true (.bin .eql (.t 68) (.c (.v (.string ({ data := #[] } : ByteArray))))), oQ 70 (.pick (.t 66) (.t 69) (.b false)), oM 9 70]) (.seq (.g [oBi 72 .eql 49 3, oM 71 72]) (
 .cond (.t 71) (.g [oM 73 8, oM 74 73, oJ 75 74 true (.fad 1 (.t 2)), oJ 76 74 true (.load false [.s] (.t 75)), oJ 77 74 true (.bin .eql (.t 76) (.c (.v (.string ({ data := #[] } : ByteArray))))), oQ 78 (.pick (.t 74) (.t 77) (.b false)), oM 79 78, oJ 80 79 true (.fad 2 (.t 2)), oJ 81 79 true (.load false [kI] (.t 80)), oJ 82 79 true (.call (.f 21) [.rd, .rd, .rd] false [.c .b] [.t 81, .i 0, .i 1]), oQ 83 (.pick (.t 79) (.t 82) (.b false)), oM 9 83]) (.seq (.g [oBi 85 .eql 49 4, oM 84 85]) (
 .cond (.t 84) (.g [oF 86 3 2, oW 87 (.sl 1) 86, oZ 88 87, oBi 89 .eql 88 0, oM 90 89, oJ 91 90 true (.fad 1 (.t 2)), oJ 92 90 true (.load false [.s] (.t 91)), oJ 93 90 true (.bin .eql (.t 92) (.c (.v (.string ({ data := #[] } : ByteArray))))), oQ 94 (.pick (.t 90) (.t 93) (.b false)), oM 95 94, oJ 96 95 true (.fad 2 (.t 2)), oJ 97 95 true (.load false [kI] (.t 96)), oJ 98 95 true (.bin .eql (.t 97) (.i 0)), oQ 99 (.pick (.t 95) (.t 98) (.b false)), oM 9 99]) (.seq (.g [oBi 101 .eql 49 5, oM 100 101]) (
 .cond (.t 100) (.g [oL 102 [kI, .s, kI, .sl 1, .sl 5] 2, oC 103 113 [.c .b] [102], oM 104 103, oJ 105 104 true (.fad 1 (.t 2)), oJ 106 104 true (.load false [.s] (.t 105)), oJ 107 104 true (.bin .eql (.t 106) (.c (.v (.string ({ data := #[] } : ByteArray))))), oQ 108 (.pick (.t 104) (.t 107) (.b false)), oM 109 108, oJ 110 109 true (.fad 2 (.t 2)), oJ 111 109 true (.load false [kI] (.t 110)), oJ 112 109 true (.bin .eql (.t 111) (.i 0)), oQ 113 (.pick (.t 109) (.t 112) (.b false)), oM 9 113]) (.skip))))))))))))) (
 .seq (.seq (.g [oM 114 9, oN 115 114]) (
 .cond (.t 115) (.seq (.g [oK 4 0]) (
 .ret)) (.skip))) (
 .seq (.g [oM 116 5, oM 4 116]) (
 .ret))))))))))⟩
theorem l82x0s (T : Table) (k n : Nat) (n7 n8 n10 n13 n14 : Int) (s9 : ByteArray) (l11 l12 : Rows): l82x0 T k (n + 1) [.v (.int .i64 n7), .b [.v (.int .i64 n8), .v (.string s9), .v (.int .i64 n10), .fz 1 l11, .fz 5 l12], .v (.int .i64 n13), .v (.int .i64 n14)] = (
 bif (decide (n14 < (l12.length : Int))) then (
 tst (decide (0 ≤ n14)) (
 look l12 (Int.toNat n14) fun r15 =>
 cI .i64 r15 0 fun n16 =>
 cS r15 1 fun s17 =>
 cI .i64 r15 2 fun n18 =>
 cL 1 r15 3 fun l19 =>
 cL 5 r15 4 fun l20 =>
 callT T 82 [.g [.v (.int .i64 n16), .v (.string s17), .v (.int .i64 n18), .s 1 l19, .s 5 l20], .d (.v (.int .i64 (IntKind.wrap .i64 (n7 - 1))))] fun o21 =>
 oD o21.res fun d22 =>
 dI .i64 d22 fun n23 =>
 bif (n23 == 0) == false then (
 bif (decide ((IntKind.wrap .i64 (n13 + n23)) > 300)) then (
 some (.ret, [.v (.int .i64 0)])) else (
 l82x0 T k n [.v (.int .i64 n7), .b [.v (.int .i64 n8), .v (.string s9), .v (.int .i64 n10), .fz 1 l11, .fz 5 l12], .v (.int .i64 (IntKind.wrap .i64 (n13 + n23))), .v (.int .i64 (IntKind.wrap .i64 (n14 + 1)))])) else (
 some (.ret, [.v (.int .i64 0)])))) else (
 some ((.exit 0), [.b [.v (.int .i64 n8), .v (.string s9), .v (.int .i64 n10), .fz 1 l11, .fz 5 l12], .v (.int .i64 n13)]))) := by kernel_rfl
theorem a82q (T : Table) (k : Nat) (n1 n3 n6 : Int) (s2 : ByteArray) (l4 l5 : Rows): evalF T k a82 [.g [.v (.int .i64 n1), .v (.string s2), .v (.int .i64 n3), .s 1 l4, .s 5 l5], .d (.v (.int .i64 n6))] = (
 bif (n6 == 0) then (
 some ⟨.d (.v (.int .i64 0)), []⟩) else (
 aft (l82x0 T k k [.v (.int .i64 n6), .b [.v (.int .i64 n1), .v (.string s2), .v (.int .i64 n3), .fz 1 l4, .fz 5 l5], .v (.int .i64 1), .v (.int .i64 0)]) fun e24 ys25 =>
 bif e24.same .ret then (
 aV ys25 0 fun x26 =>
 aI .i64 x26 fun n27 =>
 some ⟨.d (.v (.int .i64 n27)), []⟩) else (
 bif e24.same (.exit 0) then (
 aV ys25 0 fun x28 =>
 aX x28 fun xs29 =>
 aV xs29 0 fun x30 =>
 aI .i64 x30 fun n31 =>
 aV xs29 1 fun x32 =>
 aS x32 fun s33 =>
 aV xs29 2 fun x34 =>
 aI .i64 x34 fun n35 =>
 aV xs29 3 fun x36 =>
 aL 1 x36 fun l37 =>
 aV xs29 4 fun x38 =>
 aL 5 x38 fun l39 =>
 aV ys25 1 fun x40 =>
 aI .i64 x40 fun n41 =>
 bif ((l37.length : Int) == 0) == true then (
 bif (n31 == 1) then (
 bif ((l39.length : Int) == 0) == true then (
 bif (n35 == 0) == true then (
 callT T 112 [.d (.v (.string s33))] fun o42 =>
 oD o42.res fun d43 =>
 dB d43 fun b44 =>
 bif (!b44) then (
 some ⟨.d (.v (.int .i64 0)), []⟩) else (
 some ⟨.d (.v (.int .i64 n41)), []⟩)) else (
 bif (!false) then (
 some ⟨.d (.v (.int .i64 0)), []⟩) else (
 some ⟨.d (.v (.int .i64 n41)), []⟩))) else (
 bif (!false) then (
 some ⟨.d (.v (.int .i64 0)), []⟩) else (
 some ⟨.d (.v (.int .i64 n41)), []⟩))) else (
 bif (n31 == 2) then (
 bif ((l39.length : Int) == 0) == true then (
 bif (!(bytesEq s33 ({ data := #[] } : ByteArray))) then (
 some ⟨.d (.v (.int .i64 0)), []⟩) else (
 some ⟨.d (.v (.int .i64 n41)), []⟩)) else (
 bif (!false) then (
 some ⟨.d (.v (.int .i64 0)), []⟩) else (
 some ⟨.d (.v (.int .i64 n41)), []⟩))) else (
 bif (n31 == 3) then (
 bif ((l39.length : Int) == 0) == true then (
 bif (bytesEq s33 ({ data := #[] } : ByteArray)) == true then (
 callT T 21 [.d (.v (.int .i64 n35)), .d (.v (.int .i64 0)), .d (.v (.int .i64 1))] fun o45 =>
 oD o45.res fun d46 =>
 dB d46 fun b47 =>
 bif (!b47) then (
 some ⟨.d (.v (.int .i64 0)), []⟩) else (
 some ⟨.d (.v (.int .i64 n41)), []⟩)) else (
 bif (!false) then (
 some ⟨.d (.v (.int .i64 0)), []⟩) else (
 some ⟨.d (.v (.int .i64 n41)), []⟩))) else (
 bif (!false) then (
 some ⟨.d (.v (.int .i64 0)), []⟩) else (
 some ⟨.d (.v (.int .i64 n41)), []⟩))) else (
 bif (n31 == 4) then (
 bif ((l37.length : Int) == 0) == true then (
 bif (bytesEq s33 ({ data := #[] } : ByteArray)) == true then (
 bif (!(n35 == 0)) then (
 some ⟨.d (.v (.int .i64 0)), []⟩) else (
 some ⟨.d (.v (.int .i64 n41)), []⟩)) else (
 bif (!false) then (
 some ⟨.d (.v (.int .i64 0)), []⟩) else (
 some ⟨.d (.v (.int .i64 n41)), []⟩))) else (
 bif (!false) then (
 some ⟨.d (.v (.int .i64 0)), []⟩) else (
 some ⟨.d (.v (.int .i64 n41)), []⟩))) else (
 bif (n31 == 5) then (
 callT T 113 [.g [.v (.int .i64 n31), .v (.string s33), .v (.int .i64 n35), .s 1 l37, .s 5 l39]] fun o48 =>
 oD o48.res fun d49 =>
 dB d49 fun b50 =>
 bif b50 == true then (
 bif (bytesEq s33 ({ data := #[] } : ByteArray)) == true then (
 bif (!(n35 == 0)) then (
 some ⟨.d (.v (.int .i64 0)), []⟩) else (
 some ⟨.d (.v (.int .i64 n41)), []⟩)) else (
 bif (!false) then (
 some ⟨.d (.v (.int .i64 0)), []⟩) else (
 some ⟨.d (.v (.int .i64 n41)), []⟩))) else (
 bif (!false) then (
 some ⟨.d (.v (.int .i64 0)), []⟩) else (
 some ⟨.d (.v (.int .i64 n41)), []⟩))) else (
 bif (!false) then (
 some ⟨.d (.v (.int .i64 0)), []⟩) else (
 some ⟨.d (.v (.int .i64 n41)), []⟩))))))) else (
 bif (n31 == 1) then (
 bif (!false) then (
 some ⟨.d (.v (.int .i64 0)), []⟩) else (
 some ⟨.d (.v (.int .i64 n41)), []⟩)) else (
 bif (n31 == 2) then (
 bif (!false) then (
 some ⟨.d (.v (.int .i64 0)), []⟩) else (
 some ⟨.d (.v (.int .i64 n41)), []⟩)) else (
 bif (n31 == 3) then (
 bif (!false) then (
 some ⟨.d (.v (.int .i64 0)), []⟩) else (
 some ⟨.d (.v (.int .i64 n41)), []⟩)) else (
 bif (n31 == 4) then (
 bif ((l37.length : Int) == 0) == true then (
 bif (bytesEq s33 ({ data := #[] } : ByteArray)) == true then (
 bif (!(n35 == 0)) then (
 some ⟨.d (.v (.int .i64 0)), []⟩) else (
 some ⟨.d (.v (.int .i64 n41)), []⟩)) else (
 bif (!false) then (
 some ⟨.d (.v (.int .i64 0)), []⟩) else (
 some ⟨.d (.v (.int .i64 n41)), []⟩))) else (
 bif (!false) then (
 some ⟨.d (.v (.int .i64 0)), []⟩) else (
 some ⟨.d (.v (.int .i64 n41)), []⟩))) else (
 bif (n31 == 5) then (
 callT T 113 [.g [.v (.int .i64 n31), .v (.string s33), .v (.int .i64 n35), .s 1 l37, .s 5 l39]] fun o51 =>
 oD o51.res fun d52 =>
 dB d52 fun b53 =>
 bif b53 == true then (
 bif (bytesEq s33 ({ data := #[] } : ByteArray)) == true then (
 bif (!(n35 == 0)) then (
 some ⟨.d (.v (.int .i64 0)), []⟩) else (
 some ⟨.d (.v (.int .i64 n41)), []⟩)) else (
 bif (!false) then (
 some ⟨.d (.v (.int .i64 0)), []⟩) else (
 some ⟨.d (.v (.int .i64 n41)), []⟩))) else (
 bif (!false) then (
 some ⟨.d (.v (.int .i64 0)), []⟩) else (
 some ⟨.d (.v (.int .i64 n41)), []⟩))) else (
 bif (!false) then (
 some ⟨.d (.v (.int .i64 0)), []⟩) else (
 some ⟨.d (.v (.int .i64 n41)), []⟩)))))))) else (
 none)))) := by kernel_rfl
/- loop.example/g00119/spec.ValueOk -/
def a53 : AFun := ⟨[.rd], false, [.t 2], (
 .seq (.g [oQ 1 (.box (.t 0)), oV 2 false]) (
 .seq (.g [oL 3 [kI, .s, kI, .sl 1, .sl 5] 1, oQ 4 (.call (.f 82) [.rd, .rd] false [.c kI] [.t 3, .i 6]), oBi 5 .gtr 4 0, oM 2 5]) (
 .ret)))⟩
theorem a53q (T : Table) (k : Nat) (n1 n3 : Int) (s2 : ByteArray) (l4 l5 : Rows): evalF T k a53 [.g [.v (.int .i64 n1), .v (.string s2), .v (.int .i64 n3), .s 1 l4, .s 5 l5]] = (
 callT T 82 [.g [.v (.int .i64 n1), .v (.string s2), .v (.int .i64 n3), .s 1 l4, .s 5 l5], .d (.v (.int .i64 6))] fun o6 =>
 oD o6.res fun d7 =>
 dI .i64 d7 fun n8 =>
 some ⟨.d (.v (.bool (decide (n8 > 0)))), []⟩) := by kernel_rfl
/- loop.example/g00119/spec.WorksOk -/
def b23x0 : ACode := (
 .seq (.seq (.g [oM 5 3, oM 6 0, oZ 7 6, oB 8 .lss 5 7]) (
 .cond (.t 8) (.skip) (.exit 0))) (
 .seq (.block 1 (.seq (.g [oM 11 0, oM 12 3, oI 13 7 11 12, oL 14 [kI, kI, kI, .s, kI, .sl 1, .sl 5] 13, oQ 4 (.alloc [.v (.int .i64 0), .v (.int .i64 0), .v (.int .i64 0), .v (.string ByteArray.empty), .v (.int .i64 0), .s 1 [], .s 5 []]), oS (.store 7 (.t 4) (.t 14))]) (
 .seq (.dreg [] [(0, oF 15 0 4), (0, oW 16 kI 15), (1, oQ 17 (.call (.f 21) [.rd, .rd, .rd] false [.c .b] [.t 16, .i 1, .i 1000000])), (0, oN 18 17), (0, oM 19 18), (0, oJ 20 19 false (.fad 1 (.t 4))), (0, oJ 21 19 false (.load false [kI] (.t 20))), (1, oJ 22 19 false (.call (.f 21) [.rd, .rd, .rd] false [.c .b] [.t 21, .i 1, .i 10000])), (0, oJ 23 19 false (.un .not (.t 22))), (0, oQ 24 (.pick (.t 19) (.b true) (.t 23))), (0, oM 25 24), (0, oJ 26 25 false (.fad 2 (.t 4))), (0, oJ 27 25 false (.load true [kI, .s, kI, .sl 1, .sl 5] (.t 26))), (1, oJ 28 25 false (.call (.f 53) [.rd] false [.c .b] [.t 27])), (0, oJ 29 25 false (.un .not (.t 28))), (0, oQ 30 (.pick (.t 25) (.b true) (.t 29))), (0, oM 31 30), (0, oJ 32 31 false (.mv (.t 3))), (0, oJ 33 31 false (.bin .gtr (.t 32) (.i 0))), (0, oJ 34 31 false (.mv (.t 33))), (0, oJ 35 34 true (.mv (.t 0))), (0, oJ 36 34 true (.mv (.t 3))), (0, oJ 37 34 true (.bin .sub (.t 36) (.i 1))), (0, oJ 38 34 true (.iad 7 (.t 35) (.t 37))), (0, oJ 39 34 true (.fad 0 (.t 38))), (0, oJ 40 34 true (.load false [kI] (.t 39))), (0, oJ 41 34 true (.fad 0 (.t 4))), (0, oJ 42 34 true (.load false [kI] (.t 41)))] [oJ 43 34 true (.bin .geq (.t 40) (.t 42)), oJ 44 31 false (.pick (.t 34) (.t 43) (.b false)), oQ 45 (.pick (.t 31) (.b true) (.t 44))]) (
 .cond (.t 45) (.seq (.g [oV 2 false]) (
 .ret)) (.skip))))) (
 .g [oM 9 3, oBi 10 .add 9 1, oM 3 10])))
def e23x0 : Exits := [(.ret, [(2, .c .b)]), ((.exit 0), [(0, .c (.sl 7))])]
noncomputable def l23x0 (T : Table) (k : Nat) := loopN (evalC ⟨T, [], []⟩ k b23x0 (Ex × List AV)) [0, 3] e23x0
def a23 : AFun := ⟨[.rd], false, [.t 2], (
 .seq (.g [oV 2 false]) (
 .seq (.seq (.g [oK 3 0]) (
 .block 0 (.loop [0, 3] e23x0 b23x0))) (
 .seq (.g [oM 46 0, oZ 47 46, oBi 48 .leq 47 40, oM 2 48]) (
 .ret))))⟩
theorem l23x0s (T : Table) (k n : Nat) (l2 : Rows) (n3 : Int): l23x0 T k (n + 1) [.fz 7 l2, .v (.int .i64 n3)] = (
 bif (decide (n3 < (l2.length : Int))) then (
 tst (decide (0 ≤ n3)) (
 look l2 (Int.toNat n3) fun r4 =>
 cI .i64 r4 0 fun n5 =>
 cI .i64 r4 1 fun n6 =>
 cI .i64 r4 2 fun n7 =>
 cS r4 3 fun s8 =>
 cI .i64 r4 4 fun n9 =>
 cL 1 r4 5 fun l10 =>
 cL 5 r4 6 fun l11 =>
 callT T 21 [.d (.v (.int .i64 n5)), .d (.v (.int .i64 1)), .d (.v (.int .i64 1000000))] fun o12 =>
 oD o12.res fun d13 =>
 dB d13 fun b14 =>
 bif (!b14) == false then (
 callT T 21 [.d (.v (.int .i64 n6)), .d (.v (.int .i64 1)), .d (.v (.int .i64 10000))] fun o15 =>
 oD o15.res fun d16 =>
 dB d16 fun b17 =>
 bif (!b17) == false then (
 callT T 53 [.g [.v (.int .i64 n7), .v (.string s8), .v (.int .i64 n9), .s 1 l10, .s 5 l11]] fun o18 =>
 oD o18.res fun d19 =>
 dB d19 fun b20 =>
 bif (!b20) == false then (
 bif (decide (n3 > 0)) == true then (
 tst (decide (0 ≤ (IntKind.wrap .i64 (n3 - 1)))) (
 look l2 (Int.toNat (IntKind.wrap .i64 (n3 - 1))) fun r21 =>
 cI .i64 r21 0 fun n22 =>
 bif (decide (n22 ≥ n5)) then (
 some (.ret, [.v (.bool false)])) else (
 l23x0 T k n [.fz 7 l2, .v (.int .i64 (IntKind.wrap .i64 (n3 + 1)))]))) else (
 l23x0 T k n [.fz 7 l2, .v (.int .i64 (IntKind.wrap .i64 (n3 + 1)))])) else (
 some (.ret, [.v (.bool false)]))) else (
 some (.ret, [.v (.bool false)]))) else (
 some (.ret, [.v (.bool false)])))) else (
 some ((.exit 0), [.fz 7 l2]))) := by kernel_rfl
theorem a23q (T : Table) (k : Nat) (l1 : Rows): evalF T k a23 [.d (.s 7 l1)] = (
 aft (l23x0 T k k [.fz 7 l1, .v (.int .i64 0)]) fun e23 ys24 =>
 bif e23.same .ret then (
 aV ys24 0 fun x25 =>
 aB x25 fun b26 =>
 some ⟨.d (.v (.bool b26)), []⟩) else (
 bif e23.same (.exit 0) then (
 aV ys24 0 fun x27 =>
 aL 7 x27 fun l28 =>
 some ⟨.d (.v (.bool (decide ((l28.length : Int) ≤ 40)))), []⟩) else (
 none))) := by kernel_rfl
/- loop.example/g00119/spec.l13Sum -/
def b101x0 : ACode := (
 .seq (.seq (.g [oM 5 4, oM 6 0, oZ 7 6, oB 8 .lss 5 7]) (
 .cond (.t 8) (.skip) (.exit 0))) (
 .seq (.block 1 (.g [oM 11 3, oM 12 0, oM 13 4, oI 14 2 12 13, oF 15 1 14, oW 16 kI 15, oB 17 .add 11 16, oM 3 17])) (
 .g [oM 9 4, oBi 10 .add 9 1, oM 4 10])))
def e101x0 : Exits := [((.exit 0), [(3, .c kI)])]
noncomputable def l101x0 (T : Table) (k : Nat) := loopN (evalC ⟨T, [], []⟩ k b101x0 (Ex × List AV)) [0, 3, 4] e101x0
def a101 : AFun := ⟨[.rd], false, [.t 2], (
 .seq (.g [oK 2 0]) (
 .seq (.g [oK 3 0]) (
 .seq (.seq (.g [oK 4 0]) (
 .block 0 (.loop [0, 3, 4] e101x0 b101x0))) (
 .seq (.g [oM 18 3, oM 2 18]) (
 .ret)))))⟩
theorem l101x0s (T : Table) (k n : Nat) (l2 : Rows) (n3 n4 : Int): l101x0 T k (n + 1) [.fz 2 l2, .v (.int .i64 n3), .v (.int .i64 n4)] = (
 bif (decide (n4 < (l2.length : Int))) then (
 tst (decide (0 ≤ n4)) (
 look l2 (Int.toNat n4) fun r5 =>
 cI .i64 r5 1 fun n6 =>
 l101x0 T k n [.fz 2 l2, .v (.int .i64 (IntKind.wrap .i64 (n3 + n6))), .v (.int .i64 (IntKind.wrap .i64 (n4 + 1)))])) else (
 some ((.exit 0), [.v (.int .i64 n3)]))) := by kernel_rfl
theorem a101q (T : Table) (k : Nat) (l1 : Rows): evalF T k a101 [.d (.s 2 l1)] = (
 aft (l101x0 T k k [.fz 2 l1, .v (.int .i64 0), .v (.int .i64 0)]) fun e7 ys8 =>
 bif e7.same (.exit 0) then (
 aV ys8 0 fun x9 =>
 aI .i64 x9 fun n10 =>
 some ⟨.d (.v (.int .i64 n10)), []⟩) else (
 none)) := by kernel_rfl
/- loop.example/g00119/spec.IsleOk -/
def a73 : AFun := ⟨[.rd], false, [.t 2], (
 .seq (.g [oQ 1 (.box (.t 0)), oV 2 false]) (
 .seq (.dreg [] [(0, oF 3 0 1), (0, oW 4 .s 3), (1, oC 5 20 [.c .b] [4]), (0, oM 6 5), (0, oJ 7 6 true (.fad 1 (.t 1))), (0, oJ 8 6 true (.load false [kI] (.t 7))), (1, oJ 9 6 true (.call (.f 21) [.rd, .rd, .rd] false [.c .b] [.t 8, .i 0, .i 10000])), (0, oQ 10 (.pick (.t 6) (.t 9) (.b false))), (0, oM 11 10), (0, oJ 12 11 true (.fad 2 (.t 1))), (0, oJ 13 11 true (.load false [kI] (.t 12))), (1, oJ 14 11 true (.call (.f 21) [.rd, .rd, .rd] false [.c .b] [.t 13, .i 0, .i 1000000])), (0, oQ 15 (.pick (.t 11) (.t 14) (.b false))), (0, oM 16 15), (0, oJ 17 16 true (.fad 3 (.t 1))), (0, oJ 18 16 true (.load false [.sl 7] (.t 17))), (1, oJ 19 16 true (.call (.f 23) [.rd] false [.c .b] [.t 18])), (0, oQ 20 (.pick (.t 16) (.t 19) (.b false))), (0, oM 21 20), (0, oJ 22 21 true (.fad 4 (.t 1))), (0, oJ 23 21 true (.load false [.sl 2] (.t 22))), (1, oJ 24 21 true (.call (.f 22) [.rd, .rd] false [.c .b] [.t 23, .i 1])), (0, oQ 25 (.pick (.t 21) (.t 24) (.b false))), (0, oM 26 25), (0, oJ 27 26 true (.fad 4 (.t 1))), (0, oJ 28 26 true (.load false [.sl 2] (.t 27))), (1, oJ 29 26 true (.call (.f 101) [.rd] false [.c kI] [.t 28])), (0, oJ 30 26 true (.fad 1 (.t 1))), (0, oJ 31 26 true (.load false [kI] (.t 30)))] [oJ 32 26 true (.bin .leq (.t 29) (.t 31)), oQ 33 (.pick (.t 26) (.t 32) (.b false)), oM 2 33]) (
 .ret)))⟩
theorem a73q (T : Table) (k : Nat) (s1 : ByteArray) (n2 n3 : Int) (l4 l5 : Rows): evalF T k a73 [.g [.v (.string s1), .v (.int .i64 n2), .v (.int .i64 n3), .s 7 l4, .s 2 l5]] = (
 callT T 20 [.d (.v (.string s1))] fun o6 =>
 oD o6.res fun d7 =>
 dB d7 fun b8 =>
 bif b8 == true then (
 callT T 21 [.d (.v (.int .i64 n2)), .d (.v (.int .i64 0)), .d (.v (.int .i64 10000))] fun o9 =>
 oD o9.res fun d10 =>
 dB d10 fun b11 =>
 bif b11 == true then (
 callT T 21 [.d (.v (.int .i64 n3)), .d (.v (.int .i64 0)), .d (.v (.int .i64 1000000))] fun o12 =>
 oD o12.res fun d13 =>
 dB d13 fun b14 =>
 bif b14 == true then (
 callT T 23 [.d (.s 7 l4)] fun o15 =>
 oD o15.res fun d16 =>
 dB d16 fun b17 =>
 bif b17 == true then (
 callT T 22 [.d (.s 2 l5), .d (.v (.int .i64 1))] fun o18 =>
 oD o18.res fun d19 =>
 dB d19 fun b20 =>
 bif b20 == true then (
 callT T 101 [.d (.s 2 l5)] fun o21 =>
 oD o21.res fun d22 =>
 dI .i64 d22 fun n23 =>
 some ⟨.d (.v (.bool (decide (n23 ≤ n2)))), []⟩) else (
 some ⟨.d (.v (.bool false)), []⟩)) else (
 some ⟨.d (.v (.bool false)), []⟩)) else (
 some ⟨.d (.v (.bool false)), []⟩)) else (
 some ⟨.d (.v (.bool false)), []⟩)) else (
 some ⟨.d (.v (.bool false)), []⟩)) := by kernel_rfl
/- loop.example/g00119/spec.l11Run -/
def b102x0 : ACode := (
 .seq (.seq (.g [oM 7 6, oM 8 0, oZ 9 8, oB 10 .lss 7 9]) (
 .cond (.t 10) (.skip) (.exit 0))) (
 .seq (.block 1 (.seq (.g [oM 13 0, oM 14 6, oI 15 2 13 14, oF 16 0 15, oW 17 kI 16, oM 18 1, oB 19 .eql 17 18]) (
 .cond (.t 19) (.seq (.g [oM 20 0, oM 21 6, oI 22 2 20 21, oF 23 1 22, oW 24 kI 23, oM 4 24, oV 5 true]) (
 .ret)) (.skip)))) (
 .g [oM 11 6, oBi 12 .add 11 1, oM 6 12])))
def e102x0 : Exits := [(.ret, [(4, .c kI), (5, .c .b)]), ((.exit 0), [])]
noncomputable def l102x0 (T : Table) (k : Nat) := loopN (evalC ⟨T, [], []⟩ k b102x0 (Ex × List AV)) [0, 1, 6] e102x0
def a102 : AFun := ⟨[.rd, .rd], false, [.t 4, .t 5], (
 .seq (.g [oK 4 0, oV 5 false]) (
 .seq (.seq (.g [oK 6 0]) (
 .block 0 (.loop [0, 1, 6] e102x0 b102x0))) (
 .seq (.g [oK 4 0, oV 5 false]) (
 .ret))))⟩
theorem l102x0s (T : Table) (k n : Nat) (l3 : Rows) (n4 n5 : Int): l102x0 T k (n + 1) [.fz 2 l3, .v (.int .i64 n4), .v (.int .i64 n5)] = (
 bif (decide (n5 < (l3.length : Int))) then (
 tst (decide (0 ≤ n5)) (
 look l3 (Int.toNat n5) fun r6 =>
 cI .i64 r6 0 fun n7 =>
 bif (n7 == n4) then (
 tst (decide (0 ≤ n5)) (
 look l3 (Int.toNat n5) fun r8 =>
 cI .i64 r8 1 fun n9 =>
 some (.ret, [.v (.int .i64 n9), .v (.bool true)]))) else (
 l102x0 T k n [.fz 2 l3, .v (.int .i64 n4), .v (.int .i64 (IntKind.wrap .i64 (n5 + 1)))]))) else (
 some ((.exit 0), []))) := by kernel_rfl
theorem a102q (T : Table) (k : Nat) (l1 : Rows) (n2 : Int): evalF T k a102 [.d (.s 2 l1), .d (.v (.int .i64 n2))] = (
 aft (l102x0 T k k [.fz 2 l1, .v (.int .i64 n2), .v (.int .i64 0)]) fun e10 ys11 =>
 bif e10.same .ret then (
 aV ys11 0 fun x12 =>
 aI .i64 x12 fun n13 =>
 aV ys11 1 fun x14 =>
 aB x14 fun b15 =>
 some ⟨.t [.d (.v (.int .i64 n13)), .d (.v (.bool b15))], []⟩) else (
 bif e10.same (.exit 0) then (
 some ⟨.t [.d (.v (.int .i64 0)), .d (.v (.bool false))], []⟩) else (
 none))) := by kernel_rfl
/- loop.example/g00119/spec.Tell -/
def b74x0 : ACode := (
 .seq (.seq (.g [oM 16 5, oF 17 3 1, oW 18 (.sl 7) 17, oZ 19 18, oB 20 .lss 16 19]) (
 .cond (.t 20) (.skip) (.exit 0))) (
 .seq (.block 1 (.g [oM 23 4, oF 24 3 1, oW 25 (.sl 7) 24, oM 26 5, oI 27 7 25 26, oF 28 0 27, oW 29 kI 28, oQ 30 (.build [.v (.int .i64 0), .v (.int .i64 0)] [(0, 1, (.t 29))]), oQ 31 (.lit 2 ([[.v (.int .i64 0), .v (.int .i64 0)]] : Rows) [(0, (.t 30))]), oQ 32 (.app 2 16 (.t 23) (.t 31)), oM 4 32])) (
 .g [oM 21 5, oBi 22 .add 21 1, oM 5 22])))
def e74x0 : Exits := [((.exit 0), [(3, .o 2), (4, .o 2)])]
noncomputable def l74x0 (T : Table) (k : Nat) := loopN (evalC ⟨T, [], []⟩ k b74x0 (Ex × List AV)) [1, 3, 4, 5] e74x0
def b74x2 : ACode := (
 .seq (.seq (.dreg [] [(0, oM 60 9), (0, oBi 61 .gtr 60 0), (0, oM 62 61), (0, oJ 63 62 true (.mv (.t 3))), (0, oJ 64 62 true (.mv (.t 9))), (0, oJ 65 62 true (.bin .sub (.t 64) (.i 1))), (0, oJ 66 62 true (.iad 2 (.t 63) (.t 65))), (0, oJ 67 62 true (.fad 0 (.t 66))), (0, oJ 68 62 true (.load false [kI] (.t 67))), (0, oJ 69 62 true (.fad 0 (.t 10))), (0, oJ 70 62 true (.load false [kI] (.t 69)))] [oJ 71 62 true (.bin .gtr (.t 68) (.t 70)), oQ 72 (.pick (.t 62) (.t 71) (.b false))]) (
 .cond (.t 72) (.skip) (.exit 4))) (
 .block 5 (.seq (.g [oM 73 3, oM 74 9, oM 75 3, oM 76 9, oBi 77 .sub 76 1, oI 78 2 75 77, oL 79 [kI, kI] 78, oI 80 2 73 74, oS (.store 2 (.t 80) (.t 79))]) (
 .g [oM 81 9, oBi 82 .sub 81 1, oM 9 82]))))
def e74x2 : Exits := [((.exit 4), [(3, .o 2), (4, .o 2), (6, .c kI), (9, .c kI), (10, .b [.c kI, .c kI])])]
noncomputable def l74x2 (T : Table) (k : Nat) := loopN (evalC ⟨T, [], []⟩ k b74x2 (Ex × List AV)) [3, 4, 6, 9, 10] e74x2
def b74x1 : ACode := (
 .seq (.seq (.g [oM 33 6, oM 34 4, oZ 35 34, oB 36 .lss 33 35]) (
 .cond (.t 36) (.skip) (.exit 2))) (
 .seq (.block 3 (.seq (.g [oM 40 3, oM 41 4, oM 42 6, oI 43 2 41 42, oF 44 0 43, oW 45 kI 44, oC 46 102 [.c kI, .c .b] [40, 45], oM 39 46, oX 47 39 0, oX 48 39 1, oM 7 47, oM 8 48]) (
 .seq (.seq (.g [oM 49 8]) (
 .cond (.t 49) (.exit 3) (.skip))) (
 .seq (.g [oM 50 3, oZ 51 50, oM 9 51]) (
 .seq (.g [oM 52 4, oM 53 6, oI 54 2 52 53, oL 55 [kI, kI] 54, oQ 10 (.alloc [.v (.int .i64 0), .v (.int .i64 0)]), oS (.store 2 (.t 10) (.t 55))]) (
 .seq (.g [oM 56 3, oL 57 [kI, kI] 10, oQ 58 (.lit 2 ([[.v (.int .i64 0), .v (.int .i64 0)]] : Rows) [(0, (.t 57))]), oQ 59 (.app 2 16 (.t 56) (.t 58)), oM 3 59]) (
 .seq (.block 4 (.loop [3, 4, 6, 9, 10] e74x2 b74x2)) (
 .g [oM 83 3, oM 84 9, oL 85 [kI, kI] 10, oI 86 2 83 84, oS (.store 2 (.t 86) (.t 85))])))))))) (
 .g [oM 37 6, oBi 38 .add 37 1, oM 6 38])))
def e74x1 : Exits := [((.exit 2), [(3, .o 2)])]
noncomputable def l74x1 (T : Table) (k : Nat) := loopN (evalC ⟨T, [], []⟩ k b74x1 (Ex × List AV)) [3, 4, 6] e74x1
def a74 : AFun := ⟨[.rd], false, [.t 2], (
 .seq (.g [oQ 1 (.box (.t 0)), oQ 2 (.mv (.c (.o 2 [])))]) (
 .seq (.g [oQ 11 (.lit 2 ([] : Rows) []), oM 3 11]) (
 .seq (.g [oQ 12 (.lit 2 ([] : Rows) []), oF 13 4 1, oW 14 (.sl 2) 13, oQ 15 (.app 2 16 (.t 12) (.t 14)), oM 4 15]) (
 .seq (.seq (.g [oK 5 0]) (
 .block 0 (.loop [1, 3, 4, 5] e74x0 b74x0))) (
 .seq (.seq (.g [oK 6 0]) (
 .block 2 (.loop [3, 4, 6] e74x1 b74x1))) (
 .seq (.g [oM 87 3, oM 2 87]) (
 .ret)))))))⟩
theorem l74x0s (T : Table) (k n : Nat) (s6 : ByteArray) (n7 n8 n13 : Int) (l9 l10 l11 l12 : Rows): l74x0 T k (n + 1) [.b [.v (.string s6), .v (.int .i64 n7), .v (.int .i64 n8), .fz 7 l9, .fz 2 l10], .o 2 l11, .o 2 l12, .v (.int .i64 n13)] = (
 bif (decide (n13 < (l9.length : Int))) then (
 tst (decide (0 ≤ n13)) (
 look l9 (Int.toNat n13) fun r14 =>
 cI .i64 r14 0 fun n15 =>
 tst (decide ((l12.length + ([[.v (.int .i64 n15), .v (.int .i64 0)]] : Rows).length) * 16 ≤ maxBytes)) (
 l74x0 T k n [.b [.v (.string s6), .v (.int .i64 n7), .v (.int .i64 n8), .fz 7 l9, .fz 2 l10], .o 2 l11, .o 2 (l12 ++ ([[.v (.int .i64 n15), .v (.int .i64 0)]] : Rows)), .v (.int .i64 (IntKind.wrap .i64 (n13 + 1)))]))) else (
 some ((.exit 0), [.o 2 l11, .o 2 l12]))) := by kernel_rfl
theorem l74x2s (T : Table) (k n : Nat) (l39 l40 : Rows) (n41 n42 n43 n44 : Int): l74x2 T k (n + 1) [.o 2 l39, .o 2 l40, .v (.int .i64 n41), .v (.int .i64 n42), .b [.v (.int .i64 n43), .v (.int .i64 n44)]] = (
 bif (decide (n42 > 0)) == true then (
 tst (decide (0 ≤ (IntKind.wrap .i64 (n42 - 1))) && decide (Int.toNat (IntKind.wrap .i64 (n42 - 1)) < l39.length)) (
 look l39 (Int.toNat (IntKind.wrap .i64 (n42 - 1))) fun r45 =>
 cI .i64 r45 0 fun n46 =>
 bif (decide (n46 > n43)) then (
 tst (decide (0 ≤ (IntKind.wrap .i64 (n42 - 1))) && decide (Int.toNat (IntKind.wrap .i64 (n42 - 1)) < l39.length)) (
 look l39 (Int.toNat (IntKind.wrap .i64 (n42 - 1))) fun r47 =>
 cI .i64 r47 0 fun n48 =>
 look l39 (Int.toNat (IntKind.wrap .i64 (n42 - 1))) fun r49 =>
 cI .i64 r49 1 fun n50 =>
 tst (decide (0 ≤ n42) && decide (Int.toNat n42 < l39.length)) (
 l74x2 T k n [.o 2 (setD (setD l39 (Int.toNat n42) 0 (.v (.int .i64 n48))) (Int.toNat n42) 1 (.v (.int .i64 n50))), .o 2 l40, .v (.int .i64 n41), .v (.int .i64 (IntKind.wrap .i64 (n42 - 1))), .b [.v (.int .i64 n43), .v (.int .i64 n44)]]))) else (
 some ((.exit 4), [.o 2 l39, .o 2 l40, .v (.int .i64 n41), .v (.int .i64 n42), .b [.v (.int .i64 n43), .v (.int .i64 n44)]])))) else (
 some ((.exit 4), [.o 2 l39, .o 2 l40, .v (.int .i64 n41), .v (.int .i64 n42), .b [.v (.int .i64 n43), .v (.int .i64 n44)]]))) := by kernel_rfl
theorem l74x1s (T : Table) (k n : Nat) (l22 l23 : Rows) (n24 : Int): l74x1 T k (n + 1) [.o 2 l22, .o 2 l23, .v (.int .i64 n24)] = (
 bif (decide (n24 < (l23.length : Int))) then (
 tst (decide (0 ≤ n24) && decide (Int.toNat n24 < l23.length)) (
 look l23 (Int.toNat n24) fun r25 =>
 cI .i64 r25 0 fun n26 =>
 callT T 102 [.d (.s 2 l22), .d (.v (.int .i64 n26))] fun o27 =>
 oT o27.res fun is28 =>
 tst (Nat.beq is28.length 2) (
 nth is28 0 fun i29 =>
 oD i29 fun d30 =>
 dI .i64 d30 fun n31 =>
 nth is28 1 fun i32 =>
 oD i32 fun d33 =>
 dB d33 fun b34 =>
 bif b34 then (
 l74x1 T k n [.o 2 l22, .o 2 l23, .v (.int .i64 (IntKind.wrap .i64 (n24 + 1)))]) else (
 tst (decide (0 ≤ n24) && decide (Int.toNat n24 < l23.length)) (
 look l23 (Int.toNat n24) fun r35 =>
 cI .i64 r35 0 fun n36 =>
 look l23 (Int.toNat n24) fun r37 =>
 cI .i64 r37 1 fun n38 =>
 tst (decide ((l22.length + ([[.v (.int .i64 n36), .v (.int .i64 n38)]] : Rows).length) * 16 ≤ maxBytes)) (
 aft (l74x2 T k k [.o 2 (l22 ++ ([[.v (.int .i64 n36), .v (.int .i64 n38)]] : Rows)), .o 2 l23, .v (.int .i64 n24), .v (.int .i64 (l22.length : Int)), .b [.v (.int .i64 n36), .v (.int .i64 n38)]]) fun e51 ys52 =>
 bif e51.same (.exit 4) then (
 aV ys52 0 fun x53 =>
 aO 2 x53 fun l54 =>
 aV ys52 1 fun x55 =>
 aO 2 x55 fun l56 =>
 aV ys52 2 fun x57 =>
 aI .i64 x57 fun n58 =>
 aV ys52 3 fun x59 =>
 aI .i64 x59 fun n60 =>
 aV ys52 4 fun x61 =>
 aX x61 fun xs62 =>
 aV xs62 0 fun x63 =>
 aI .i64 x63 fun n64 =>
 aV xs62 1 fun x65 =>
 aI .i64 x65 fun n66 =>
 tst (decide (0 ≤ n60) && decide (Int.toNat n60 < l54.length)) (
 l74x1 T k n [.o 2 (setD (setD l54 (Int.toNat n60) 0 (.v (.int .i64 n64))) (Int.toNat n60) 1 (.v (.int .i64 n66))), .o 2 l56, .v (.int .i64 (IntKind.wrap .i64 (n58 + 1)))])) else (
 none))))))) else (
 some ((.exit 2), [.o 2 l22]))) := by kernel_rfl
theorem a74q (T : Table) (k : Nat) (s1 : ByteArray) (n2 n3 : Int) (l4 l5 : Rows): evalF T k a74 [.g [.v (.string s1), .v (.int .i64 n2), .v (.int .i64 n3), .s 7 l4, .s 2 l5]] = (
 tst (flatRows l5) (
 tst (decide ((([] : Rows).length + l5.length) * 16 ≤ maxBytes)) (
 aft (l74x0 T k k [.b [.v (.string s1), .v (.int .i64 n2), .v (.int .i64 n3), .fz 7 l4, .fz 2 l5], .o 2 [], .o 2 (([] : Rows) ++ l5), .v (.int .i64 0)]) fun e16 ys17 =>
 bif e16.same (.exit 0) then (
 aV ys17 0 fun x18 =>
 aO 2 x18 fun l19 =>
 aV ys17 1 fun x20 =>
 aO 2 x20 fun l21 =>
 aft (l74x1 T k k [.o 2 l19, .o 2 l21, .v (.int .i64 0)]) fun e67 ys68 =>
 bif e67.same (.exit 2) then (
 aV ys68 0 fun x69 =>
 aO 2 x69 fun l70 =>
 some ⟨.d (.s 2 l70), []⟩) else (
 none)) else (
 none)))) := by kernel_rfl
/- loop.example/g00119/spec.Ask -/
def a47 : AFun := ⟨[.rd], false, [.c 2 true [kI, .s, kI, .sl 7, .sl 2]], (
 .seq (.g [oQ 1 (.box (.t 0)), oQ 2 (.alloc [.v (.int .i64 0), .v (.string ByteArray.empty), .v (.int .i64 0), .s 7 [], .s 2 []])]) (
 .seq (.seq (.g [oL 3 [.s, kI, kI, .sl 7, .sl 2] 1, oC 4 73 [.c .b] [3], oN 5 4]) (
 .cond (.t 5) (.seq (.g [oQ 6 (.build [.v (.int .i64 0), .v (.string ByteArray.empty), .v (.int .i64 0), .s 7 [], .s 2 []] []), oS (.store 5 (.t 2) (.t 6))]) (
 .ret)) (.skip))) (
 .seq (.dreg [] [(0, oF 7 0 1), (0, oW 8 .s 7), (0, oF 9 2 1), (0, oW 10 kI 9), (0, oL 11 [.s, kI, kI, .sl 7, .sl 2] 1), (1, oC 12 74 [.c (.sl 2)] [11])] [oQ 13 (.build [.v (.int .i64 0), .v (.string ByteArray.empty), .v (.int .i64 0), .s 7 [], .s 2 []] [(0, 1, (.i 1)), (1, 1, (.t 8)), (2, 1, (.t 10)), (4, 1, (.t 12))]), oS (.store 5 (.t 2) (.t 13))]) (
 .ret))))⟩
theorem a47q (T : Table) (k : Nat) (s1 : ByteArray) (n2 n3 : Int) (l4 l5 : Rows): evalF T k a47 [.g [.v (.string s1), .v (.int .i64 n2), .v (.int .i64 n3), .s 7 l4, .s 2 l5]] = (
 callT T 73 [.g [.v (.string s1), .v (.int .i64 n2), .v (.int .i64 n3), .s 7 l4, .s 2 l5]] fun o6 =>
 oD o6.res fun d7 =>
 dB d7 fun b8 =>
 bif (!b8) then (
 some ⟨.g [.v (.int .i64 0), .v (.string ByteArray.empty), .v (.int .i64 0), .s 7 [], .s 2 []], []⟩) else (
 callT T 74 [.g [.v (.string s1), .v (.int .i64 n2), .v (.int .i64 n3), .s 7 l4, .s 2 l5]] fun o9 =>
 oD o9.res fun d10 =>
 dL 2 d10 fun l11 =>
 some ⟨.g [.v (.int .i64 1), .v (.string s1), .v (.int .i64 n3), .s 7 [], .s 2 l11], []⟩)) := by kernel_rfl
/- loop.example/g00119/spec.IsleNew -/
def a75 : AFun := ⟨[.rd, .rd], false, [.c 4 true [.s, kI, kI, .sl 7, .sl 2], .t 5], (
 .seq (.g [oQ 4 (.alloc [.v (.string ByteArray.empty), .v (.int .i64 0), .v (.int .i64 0), .s 7 [], .s 2 []]), oV 5 false]) (
 .seq (.seq (.g [oM 6 0, oC 7 20 [.c .b] [6], oN 8 7, oM 9 8, oJ 10 9 false (.mv (.t 1)), oJ 11 9 false (.call (.f 21) [.rd, .rd, .rd] false [.c .b] [.t 10, .i 0, .i 10000]), oJ 12 9 false (.un .not (.t 11)), oQ 13 (.pick (.t 9) (.b true) (.t 12))]) (
 .cond (.t 13) (.seq (.g [oQ 14 (.build [.v (.string ByteArray.empty), .v (.int .i64 0), .v (.int .i64 0), .s 7 [], .s 2 []] []), oS (.store 5 (.t 4) (.t 14)), oV 5 false]) (
 .ret)) (.skip))) (
 .seq (.g [oM 15 0, oM 16 1, oQ 17 (.build [.v (.string ByteArray.empty), .v (.int .i64 0), .v (.int .i64 0), .s 7 [], .s 2 []] [(0, 1, (.t 15)), (1, 1, (.t 16))]), oS (.store 5 (.t 4) (.t 17)), oV 5 true]) (
 .ret))))⟩
theorem a75q (T : Table) (k : Nat) (s1 : ByteArray) (n2 : Int): evalF T k a75 [.d (.v (.string s1)), .d (.v (.int .i64 n2))] = (
 callT T 20 [.d (.v (.string s1))] fun o3 =>
 oD o3.res fun d4 =>
 dB d4 fun b5 =>
 bif (!b5) == false then (
 callT T 21 [.d (.v (.int .i64 n2)), .d (.v (.int .i64 0)), .d (.v (.int .i64 10000))] fun o6 =>
 oD o6.res fun d7 =>
 dB d7 fun b8 =>
 bif (!b8) then (
 some ⟨.t [.g [.v (.string ByteArray.empty), .v (.int .i64 0), .v (.int .i64 0), .s 7 [], .s 2 []], .d (.v (.bool false))], []⟩) else (
 some ⟨.t [.g [.v (.string s1), .v (.int .i64 n2), .v (.int .i64 0), .s 7 [], .s 2 []], .d (.v (.bool true))], []⟩)) else (
 some ⟨.t [.g [.v (.string ByteArray.empty), .v (.int .i64 0), .v (.int .i64 0), .s 7 [], .s 2 []], .d (.v (.bool false))], []⟩)) := by kernel_rfl
/- loop.example/g00119/spec.l4Copy -/
def b130x0 : ACode := (
 .seq (.seq (.g [oM 16 4, oF 17 4 1, oW 18 (.sl 5) 17, oZ 19 18, oB 20 .lss 16 19]) (
 .cond (.t 20) (.skip) (.exit 0))) (
 .seq (.block 1 (.dreg [(3, 4, [.sl 5])] [(0, oF 23 4 3), (0, oW 24 (.sl 5) 23), (0, oF 25 4 1), (0, oW 26 (.sl 5) 25), (0, oM 27 4), (0, oI 28 5 26 27), (0, oL 29 [kI, .s, kI, .sl 1, .sl 5] 28), (1, oC 30 130 [.g [kI, .s, kI, .sl 1, .sl 5]] [29]), (1, oQ 31 (.lit 5 ([[.v (.int .i64 0), .v (.string ByteArray.empty), .v (.int .i64 0), .s 1 [], .s 5 []]] : Rows) [(0, (.t 30))]))] [oQ 32 (.app 5 80 (.t 24) (.t 31)), oF 33 4 3, oS (.store 1 (.t 33) (.t 32))])) (
 .g [oM 21 4, oBi 22 .add 21 1, oM 4 22])))
def e130x0 : Exits := [((.exit 0), [(2, .b [.c kI, .c .s, .c kI, .o 1, .o 5]), (3, .b [.c kI, .c .s, .c kI, .o 1, .o 5])])]
noncomputable def l130x0 (T : Table) (k : Nat) := loopN (evalC ⟨T, [], []⟩ k b130x0 (Ex × List AV)) [1, 2, 3, 4] e130x0
def a130 : AFun := ⟨[.rd], false, [.c 2 true [kI, .s, kI, .sl 1, .sl 5]], (
 .seq (.g [oQ 1 (.box (.t 0)), oQ 2 (.alloc [.v (.int .i64 0), .v (.string ByteArray.empty), .v (.int .i64 0), .s 1 [], .s 5 []])]) (
 .seq (.dreg [] [(0, oF 5 0 1), (0, oW 6 kI 5), (0, oF 7 1 1), (0, oW 8 .s 7), (0, oF 9 2 1), (0, oW 10 kI 9), (0, oQ 11 (.lit 1 ([] : Rows) [])), (0, oF 12 3 1), (0, oW 13 (.sl 1) 12), (1, oQ 14 (.app 1 16 (.t 11) (.t 13))), (0, oQ 15 (.build [.v (.int .i64 0), .v (.string ByteArray.empty), .v (.int .i64 0), .s 1 [], .s 5 []] [(0, 1, (.t 6)), (1, 1, (.t 8)), (2, 1, (.t 10)), (3, 1, (.t 14))])), (2, oQ 3 (.alloc [.v (.int .i64 0), .v (.string ByteArray.empty), .v (.int .i64 0), .s 1 [], .s 5 []]))] [oS (.store 5 (.t 3) (.t 15))]) (
 .seq (.seq (.g [oK 4 0]) (
 .block 0 (.loop [1, 2, 3, 4] e130x0 b130x0))) (
 .seq (.g [oL 34 [kI, .s, kI, .sl 1, .sl 5] 3, oS (.store 5 (.t 2) (.t 34))]) (
 .ret)))))⟩
theorem l130x0s (T : Table) (k n : Nat) (n6 n8 n11 n13 n16 n18 n21 : Int) (s7 s12 s17 : ByteArray) (l9 l10 l14 l15 l19 l20 : Rows): l130x0 T k (n + 1) [.b [.v (.int .i64 n6), .v (.string s7), .v (.int .i64 n8), .fz 1 l9, .fz 5 l10], .b [.v (.int .i64 n11), .v (.string s12), .v (.int .i64 n13), .o 1 l14, .o 5 l15], .b [.v (.int .i64 n16), .v (.string s17), .v (.int .i64 n18), .o 1 l19, .o 5 l20], .v (.int .i64 n21)] = (
 bif (decide (n21 < (l10.length : Int))) then (
 tst (decide (0 ≤ n21)) (
 look l10 (Int.toNat n21) fun r22 =>
 cI .i64 r22 0 fun n23 =>
 cS r22 1 fun s24 =>
 cI .i64 r22 2 fun n25 =>
 cL 1 r22 3 fun l26 =>
 cL 5 r22 4 fun l27 =>
 callT T 130 [.g [.v (.int .i64 n23), .v (.string s24), .v (.int .i64 n25), .s 1 l26, .s 5 l27]] fun o28 =>
 oG o28.res fun r29 =>
 tst (Nat.beq r29.length 5) (
 cI .i64 r29 0 fun n30 =>
 cS r29 1 fun s31 =>
 cI .i64 r29 2 fun n32 =>
 cL 1 r29 3 fun l33 =>
 cL 5 r29 4 fun l34 =>
 tst (decide ((l20.length + ([[.v (.int .i64 n30), .v (.string s31), .v (.int .i64 n32), hole, hole]] : Rows).length) * 80 ≤ maxBytes)) (
 l130x0 T k n [.b [.v (.int .i64 n6), .v (.string s7), .v (.int .i64 n8), .fz 1 l9, .fz 5 l10], .b [.v (.int .i64 n11), .v (.string s12), .v (.int .i64 n13), .o 1 l14, .o 5 l15], .b [.v (.int .i64 n16), .v (.string s17), .v (.int .i64 n18), .o 1 l19, .o 5 (setD (setD (l20 ++ ([[.v (.int .i64 n30), .v (.string s31), .v (.int .i64 n32), hole, hole]] : Rows)) (0 + l20.length) 4 (.s 5 l34)) (0 + l20.length) 3 (.s 1 l33))], .v (.int .i64 (IntKind.wrap .i64 (n21 + 1)))])))) else (
 some ((.exit 0), [.b [.v (.int .i64 n11), .v (.string s12), .v (.int .i64 n13), .o 1 l14, .o 5 l15], .b [.v (.int .i64 n16), .v (.string s17), .v (.int .i64 n18), .o 1 l19, .o 5 l20]]))) := by kernel_rfl
theorem a130q (T : Table) (k : Nat) (n1 n3 : Int) (s2 : ByteArray) (l4 l5 : Rows): evalF T k a130 [.g [.v (.int .i64 n1), .v (.string s2), .v (.int .i64 n3), .s 1 l4, .s 5 l5]] = (
 tst (flatRows l4) (
 tst (decide ((([] : Rows).length + l4.length) * 16 ≤ maxBytes)) (
 aft (l130x0 T k k [.b [.v (.int .i64 n1), .v (.string s2), .v (.int .i64 n3), .fz 1 l4, .fz 5 l5], .b [.v (.int .i64 0), .v (.string ByteArray.empty), .v (.int .i64 0), .o 1 [], .o 5 []], .b [.v (.int .i64 n1), .v (.string s2), .v (.int .i64 n3), .o 1 (([] : Rows) ++ l4), .o 5 []], .v (.int .i64 0)]) fun e35 ys36 =>
 bif e35.same (.exit 0) then (
 aV ys36 0 fun x37 =>
 aX x37 fun xs38 =>
 aV xs38 0 fun x39 =>
 aI .i64 x39 fun n40 =>
 aV xs38 1 fun x41 =>
 aS x41 fun s42 =>
 aV xs38 2 fun x43 =>
 aI .i64 x43 fun n44 =>
 aV xs38 3 fun x45 =>
 aO 1 x45 fun l46 =>
 aV xs38 4 fun x47 =>
 aO 5 x47 fun l48 =>
 aV ys36 1 fun x49 =>
 aX x49 fun xs50 =>
 aV xs50 0 fun x51 =>
 aI .i64 x51 fun n52 =>
 aV xs50 1 fun x53 =>
 aS x53 fun s54 =>
 aV xs50 2 fun x55 =>
 aI .i64 x55 fun n56 =>
 aV xs50 3 fun x57 =>
 aO 1 x57 fun l58 =>
 aV xs50 4 fun x59 =>
 aO 5 x59 fun l60 =>
 some ⟨.g [.v (.int .i64 n52), .v (.string s54), .v (.int .i64 n56), .s 1 l58, .s 5 l60], []⟩) else (
 none)))) := by kernel_rfl
/- loop.example/g00119/spec.l12Works -/
def b104x0 : ACode := (
 .seq (.seq (.g [oM 6 4, oM 7 0, oZ 8 7, oB 9 .lss 6 8]) (
 .cond (.t 9) (.skip) (.exit 0))) (
 .seq (.block 1 (.dreg [] [(3, oM 12 3), (0, oM 13 0), (0, oM 14 4), (0, oI 15 7 13 14), (0, oF 16 0 15), (0, oW 17 kI 16), (0, oM 18 0), (0, oM 19 4), (0, oI 20 7 18 19), (0, oF 21 1 20), (0, oW 22 kI 21), (0, oM 23 0), (0, oM 24 4), (0, oI 25 7 23 24), (0, oF 26 2 25), (0, oL 27 [kI, .s, kI, .sl 1, .sl 5] 26), (1, oC 28 130 [.g [kI, .s, kI, .sl 1, .sl 5]] [27])] [oQ 29 (.build [.v (.int .i64 0), .v (.int .i64 0), .v (.int .i64 0), .v (.string ByteArray.empty), .v (.int .i64 0), .s 1 [], .s 5 []] [(0, 1, (.t 17)), (1, 1, (.t 22)), (2, 5, (.t 28))]), oQ 30 (.lit 7 ([[.v (.int .i64 0), .v (.int .i64 0), .v (.int .i64 0), .v (.string ByteArray.empty), .v (.int .i64 0), .s 1 [], .s 5 []]] : Rows) [(0, (.t 29))]), oQ 31 (.app 7 96 (.t 12) (.t 30)), oM 3 31])) (
 .g [oM 10 4, oBi 11 .add 10 1, oM 4 11])))
def e104x0 : Exits := [((.exit 0), [(3, .o 7)])]
noncomputable def l104x0 (T : Table) (k : Nat) := loopN (evalC ⟨T, [], []⟩ k b104x0 (Ex × List AV)) [0, 3, 4] e104x0
def a104 : AFun := ⟨[.rd], false, [.t 2], (
 .seq (.g [oQ 2 (.mv (.c (.o 7 [])))]) (
 .seq (.g [oQ 5 (.lit 7 ([] : Rows) []), oM 3 5]) (
 .seq (.seq (.g [oK 4 0]) (
 .block 0 (.loop [0, 3, 4] e104x0 b104x0))) (
 .seq (.g [oM 32 3, oM 2 32]) (
 .ret)))))⟩
theorem l104x0s (T : Table) (k n : Nat) (l2 l3 : Rows) (n4 : Int): l104x0 T k (n + 1) [.fz 7 l2, .o 7 l3, .v (.int .i64 n4)] = (
 bif (decide (n4 < (l2.length : Int))) then (
 tst (decide (0 ≤ n4)) (
 look l2 (Int.toNat n4) fun r5 =>
 cI .i64 r5 0 fun n6 =>
 tst (decide (0 ≤ n4)) (
 look l2 (Int.toNat n4) fun r7 =>
 cI .i64 r7 1 fun n8 =>
 tst (decide (0 ≤ n4)) (
 look l2 (Int.toNat n4) fun r9 =>
 cI .i64 r9 2 fun n10 =>
 cS r9 3 fun s11 =>
 cI .i64 r9 4 fun n12 =>
 cL 1 r9 5 fun l13 =>
 cL 5 r9 6 fun l14 =>
 callT T 130 [.g [.v (.int .i64 n10), .v (.string s11), .v (.int .i64 n12), .s 1 l13, .s 5 l14]] fun o15 =>
 oG o15.res fun r16 =>
 tst (Nat.beq r16.length 5) (
 cI .i64 r16 0 fun n17 =>
 cS r16 1 fun s18 =>
 cI .i64 r16 2 fun n19 =>
 cL 1 r16 3 fun l20 =>
 cL 5 r16 4 fun l21 =>
 tst (decide ((l3.length + ([[.v (.int .i64 n6), .v (.int .i64 n8), .v (.int .i64 n17), .v (.string s18), .v (.int .i64 n19), hole, hole]] : Rows).length) * 96 ≤ maxBytes)) (
 l104x0 T k n [.fz 7 l2, .o 7 (setD (setD (l3 ++ ([[.v (.int .i64 n6), .v (.int .i64 n8), .v (.int .i64 n17), .v (.string s18), .v (.int .i64 n19), hole, hole]] : Rows)) (0 + l3.length) 6 (.s 5 l21)) (0 + l3.length) 5 (.s 1 l20)), .v (.int .i64 (IntKind.wrap .i64 (n4 + 1)))])))))) else (
 some ((.exit 0), [.o 7 l3]))) := by kernel_rfl
theorem a104q (T : Table) (k : Nat) (l1 : Rows): evalF T k a104 [.d (.s 7 l1)] = (
 aft (l104x0 T k k [.fz 7 l1, .o 7 [], .v (.int .i64 0)]) fun e22 ys23 =>
 bif e22.same (.exit 0) then (
 aV ys23 0 fun x24 =>
 aO 7 x24 fun l25 =>
 some ⟨.d (.s 7 l25), []⟩) else (
 none)) := by kernel_rfl
/- loop.example/g00119/spec.l13Copy -/
def a103 : AFun := ⟨[.rd], false, [.c 2 true [.s, kI, kI, .sl 7, .sl 2]], (
 .seq (.g [oQ 1 (.box (.t 0)), oQ 2 (.alloc [.v (.string ByteArray.empty), .v (.int .i64 0), .v (.int .i64 0), .s 7 [], .s 2 []])]) (
 .seq (.dreg [] [(0, oF 3 0 1), (0, oW 4 .s 3), (0, oF 5 1 1), (0, oW 6 kI 5), (0, oF 7 2 1), (0, oW 8 kI 7), (0, oF 9 3 1), (0, oW 10 (.sl 7) 9), (1, oC 11 104 [.c (.sl 7)] [10]), (0, oQ 12 (.lit 2 ([] : Rows) [])), (0, oF 13 4 1), (0, oW 14 (.sl 2) 13), (1, oQ 15 (.app 2 16 (.t 12) (.t 14)))] [oQ 16 (.build [.v (.string ByteArray.empty), .v (.int .i64 0), .v (.int .i64 0), .s 7 [], .s 2 []] [(0, 1, (.t 4)), (1, 1, (.t 6)), (2, 1, (.t 8)), (3, 1, (.t 11)), (4, 1, (.t 15))]), oS (.store 5 (.t 2) (.t 16))]) (
 .ret)))⟩
theorem a103q (T : Table) (k : Nat) (s1 : ByteArray) (n2 n3 : Int) (l4 l5 : Rows): evalF T k a103 [.g [.v (.string s1), .v (.int .i64 n2), .v (.int .i64 n3), .s 7 l4, .s 2 l5]] = (
 callT T 104 [.d (.s 7 l4)] fun o6 =>
 oD o6.res fun d7 =>
 dL 7 d7 fun l8 =>
 tst (flatRows l5) (
 tst (decide ((([] : Rows).length + l5.length) * 16 ≤ maxBytes)) (
 some ⟨.g [.v (.string s1), .v (.int .i64 n2), .v (.int .i64 n3), .s 7 l8, .s 2 (([] : Rows) ++ l5)], []⟩))) := by kernel_rfl
/- loop.example/g00119/spec.Obey -/
def a76 : AFun := ⟨[.rd, .rd, .rd], false, [.c 6 true [.s, kI, kI, .sl 7, .sl 2], .t 7], (
 .seq (.g [oQ 3 (.box (.t 0)), oQ 6 (.alloc [.v (.string ByteArray.empty), .v (.int .i64 0), .v (.int .i64 0), .s 7 [], .s 2 []]), oV 7 false]) (
 .seq (.g [oL 9 [.s, kI, kI, .sl 7, .sl 2] 3, oC 10 103 [.g [.s, kI, kI, .sl 7, .sl 2]] [9], oQ 8 (.alloc [.v (.string ByteArray.empty), .v (.int .i64 0), .v (.int .i64 0), .s 7 [], .s 2 []]), oS (.store 5 (.t 8) (.t 10))]) (
 .seq (.seq (.g [oL 11 [.s, kI, kI, .sl 7, .sl 2] 3, oC 12 73 [.c .b] [11], oN 13 12, oM 14 13, oJ 15 14 false (.mv (.t 2)), oJ 16 14 false (.call (.f 23) [.rd] false [.c .b] [.t 15]), oJ 17 14 false (.un .not (.t 16)), oQ 18 (.pick (.t 14) (.b true) (.t 17)), oM 19 18, oJ 20 19 false (.mv (.t 1)), oJ 21 19 false (.fad 2 (.t 3)), oJ 22 19 false (.load false [kI] (.t 21)), oJ 23 19 false (.bin .leq (.t 20) (.t 22)), oQ 24 (.pick (.t 19) (.b true) (.t 23)), oM 25 24, oJ 26 25 false (.mv (.t 1)), oJ 27 25 false (.bin .gtr (.t 26) (.i 1000000)), oQ 28 (.pick (.t 25) (.b true) (.t 27))]) (
 .cond (.t 28) (.seq (.g [oL 29 [.s, kI, kI, .sl 7, .sl 2] 8, oS (.store 5 (.t 6) (.t 29)), oV 7 false]) (
 .ret)) (.skip))) (
 .seq (.g [oM 30 1, oF 31 2 8, oS (.store 1 (.t 31) (.t 30))]) (
 .seq (.g [oM 32 2, oC 33 104 [.c (.sl 7)] [32], oF 34 3 8, oS (.store 1 (.t 34) (.t 33))]) (
 .seq (.g [oL 35 [.s, kI, kI, .sl 7, .sl 2] 8, oS (.store 5 (.t 6) (.t 35)), oV 7 true]) (
 .ret)))))))⟩
theorem a76q (T : Table) (k : Nat) (s1 : ByteArray) (n2 n3 n6 : Int) (l4 l5 l7 : Rows): evalF T k a76 [.g [.v (.string s1), .v (.int .i64 n2), .v (.int .i64 n3), .s 7 l4, .s 2 l5], .d (.v (.int .i64 n6)), .d (.s 7 l7)] = (
 callT T 103 [.g [.v (.string s1), .v (.int .i64 n2), .v (.int .i64 n3), .s 7 l4, .s 2 l5]] fun o8 =>
 oG o8.res fun r9 =>
 tst (Nat.beq r9.length 5) (
 cS r9 0 fun s10 =>
 cI .i64 r9 1 fun n11 =>
 cI .i64 r9 2 fun n12 =>
 cL 7 r9 3 fun l13 =>
 cL 2 r9 4 fun l14 =>
 callT T 73 [.g [.v (.string s1), .v (.int .i64 n2), .v (.int .i64 n3), .s 7 l4, .s 2 l5]] fun o15 =>
 oD o15.res fun d16 =>
 dB d16 fun b17 =>
 bif (!b17) == false then (
 callT T 23 [.d (.s 7 l7)] fun o18 =>
 oD o18.res fun d19 =>
 dB d19 fun b20 =>
 bif (!b20) == false then (
 bif (decide (n6 ≤ n3)) == false then (
 bif (decide (n6 > 1000000)) then (
 some ⟨.t [.g [.v (.string s10), .v (.int .i64 n11), .v (.int .i64 n12), .s 7 l13, .s 2 l14], .d (.v (.bool false))], []⟩) else (
 callT T 104 [.d (.s 7 l7)] fun o21 =>
 oD o21.res fun d22 =>
 dL 7 d22 fun l23 =>
 some ⟨.t [.g [.v (.string s10), .v (.int .i64 n11), .v (.int .i64 n6), .s 7 l23, .s 2 l14], .d (.v (.bool true))], []⟩)) else (
 some ⟨.t [.g [.v (.string s10), .v (.int .i64 n11), .v (.int .i64 n12), .s 7 l13, .s 2 l14], .d (.v (.bool false))], []⟩)) else (
 some ⟨.t [.g [.v (.string s10), .v (.int .i64 n11), .v (.int .i64 n12), .s 7 l13, .s 2 l14], .d (.v (.bool false))], []⟩)) else (
 some ⟨.t [.g [.v (.string s10), .v (.int .i64 n11), .v (.int .i64 n12), .s 7 l13, .s 2 l14], .d (.v (.bool false))], []⟩))) := by kernel_rfl
/- loop.example/g00119/spec.l13Wants -/
def b131x0 : ACode := (
 .seq (.seq (.g [oM 6 5, oF 7 3 2, oW 8 (.sl 7) 7, oZ 9 8, oB 10 .lss 6 9]) (
 .cond (.t 10) (.skip) (.exit 0))) (
 .seq (.block 1 (.seq (.g [oF 13 3 2, oW 14 (.sl 7) 13, oM 15 5, oI 16 7 14 15, oF 17 0 16, oW 18 kI 17, oM 19 1, oB 20 .eql 18 19]) (
 .cond (.t 20) (.seq (.g [oF 21 3 2, oW 22 (.sl 7) 21, oM 23 5, oI 24 7 22 23, oF 25 1 24, oW 26 kI 25, oM 4 26]) (
 .ret)) (.skip)))) (
 .g [oM 11 5, oBi 12 .add 11 1, oM 5 12])))
def e131x0 : Exits := [(.ret, [(4, .c kI)]), ((.exit 0), [])]
noncomputable def l131x0 (T : Table) (k : Nat) := loopN (evalC ⟨T, [], []⟩ k b131x0 (Ex × List AV)) [1, 2, 5] e131x0
def a131 : AFun := ⟨[.rd, .rd], false, [.t 4], (
 .seq (.g [oQ 2 (.box (.t 0)), oK 4 0]) (
 .seq (.seq (.g [oK 5 0]) (
 .block 0 (.loop [1, 2, 5] e131x0 b131x0))) (
 .seq (.g [oK 4 0]) (
 .ret))))⟩
theorem l131x0s (T : Table) (k n : Nat) (n7 n9 n10 n13 : Int) (s8 : ByteArray) (l11 l12 : Rows): l131x0 T k (n + 1) [.v (.int .i64 n7), .b [.v (.string s8), .v (.int .i64 n9), .v (.int .i64 n10), .fz 7 l11, .fz 2 l12], .v (.int .i64 n13)] = (
 bif (decide (n13 < (l11.length : Int))) then (
 tst (decide (0 ≤ n13)) (
 look l11 (Int.toNat n13) fun r14 =>
 cI .i64 r14 0 fun n15 =>
 bif (n15 == n7) then (
 tst (decide (0 ≤ n13)) (
 look l11 (Int.toNat n13) fun r16 =>
 cI .i64 r16 1 fun n17 =>
 some (.ret, [.v (.int .i64 n17)]))) else (
 l131x0 T k n [.v (.int .i64 n7), .b [.v (.string s8), .v (.int .i64 n9), .v (.int .i64 n10), .fz 7 l11, .fz 2 l12], .v (.int .i64 (IntKind.wrap .i64 (n13 + 1)))]))) else (
 some ((.exit 0), []))) := by kernel_rfl
theorem a131q (T : Table) (k : Nat) (s1 : ByteArray) (n2 n3 n6 : Int) (l4 l5 : Rows): evalF T k a131 [.g [.v (.string s1), .v (.int .i64 n2), .v (.int .i64 n3), .s 7 l4, .s 2 l5], .d (.v (.int .i64 n6))] = (
 aft (l131x0 T k k [.v (.int .i64 n6), .b [.v (.string s1), .v (.int .i64 n2), .v (.int .i64 n3), .fz 7 l4, .fz 2 l5], .v (.int .i64 0)]) fun e18 ys19 =>
 bif e18.same .ret then (
 aV ys19 0 fun x20 =>
 aI .i64 x20 fun n21 =>
 some ⟨.d (.v (.int .i64 n21)), []⟩) else (
 bif e18.same (.exit 0) then (
 some ⟨.d (.v (.int .i64 0)), []⟩) else (
 none))) := by kernel_rfl
/- loop.example/g00119/spec.l13Over -/
def b105x0 : ACode := (
 .seq (.seq (.g [oM 4 3, oF 5 4 1, oW 6 (.sl 2) 5, oZ 7 6, oB 8 .lss 4 7]) (
 .cond (.t 8) (.skip) (.exit 0))) (
 .seq (.block 1 (.seq (.dreg [] [(0, oF 11 4 1), (0, oW 12 (.sl 2) 11), (0, oM 13 3), (0, oI 14 2 12 13), (0, oF 15 1 14), (0, oW 16 kI 15), (0, oL 17 [.s, kI, kI, .sl 7, .sl 2] 1), (0, oF 18 4 1), (0, oW 19 (.sl 2) 18), (0, oM 20 3), (0, oI 21 2 19 20), (0, oF 22 0 21), (0, oW 23 kI 22), (1, oC 24 131 [.c kI] [17, 23])] [oB 25 .gtr 16 24]) (
 .cond (.t 25) (.seq (.g [oM 26 3, oM 2 26]) (
 .ret)) (.skip)))) (
 .g [oM 9 3, oBi 10 .add 9 1, oM 3 10])))
def e105x0 : Exits := [(.ret, [(2, .c kI)]), ((.exit 0), [])]
noncomputable def l105x0 (T : Table) (k : Nat) := loopN (evalC ⟨T, [], []⟩ k b105x0 (Ex × List AV)) [1, 3] e105x0
def a105 : AFun := ⟨[.rd], false, [.t 2], (
 .seq (.g [oQ 1 (.box (.t 0)), oK 2 0]) (
 .seq (.seq (.g [oK 3 0]) (
 .block 0 (.loop [1, 3] e105x0 b105x0))) (
 .seq (.g [oK 2 (-1)]) (
 .ret))))⟩
theorem l105x0s (T : Table) (k n : Nat) (s6 : ByteArray) (n7 n8 n11 : Int) (l9 l10 : Rows): l105x0 T k (n + 1) [.b [.v (.string s6), .v (.int .i64 n7), .v (.int .i64 n8), .fz 7 l9, .fz 2 l10], .v (.int .i64 n11)] = (
 bif (decide (n11 < (l10.length : Int))) then (
 tst (decide (0 ≤ n11)) (
 look l10 (Int.toNat n11) fun r12 =>
 cI .i64 r12 1 fun n13 =>
 tst (decide (0 ≤ n11)) (
 look l10 (Int.toNat n11) fun r14 =>
 cI .i64 r14 0 fun n15 =>
 callT T 131 [.g [.v (.string s6), .v (.int .i64 n7), .v (.int .i64 n8), .s 7 l9, .s 2 l10], .d (.v (.int .i64 n15))] fun o16 =>
 oD o16.res fun d17 =>
 dI .i64 d17 fun n18 =>
 bif (decide (n13 > n18)) then (
 some (.ret, [.v (.int .i64 n11)])) else (
 l105x0 T k n [.b [.v (.string s6), .v (.int .i64 n7), .v (.int .i64 n8), .fz 7 l9, .fz 2 l10], .v (.int .i64 (IntKind.wrap .i64 (n11 + 1)))])))) else (
 some ((.exit 0), []))) := by kernel_rfl
theorem a105q (T : Table) (k : Nat) (s1 : ByteArray) (n2 n3 : Int) (l4 l5 : Rows): evalF T k a105 [.g [.v (.string s1), .v (.int .i64 n2), .v (.int .i64 n3), .s 7 l4, .s 2 l5]] = (
 aft (l105x0 T k k [.b [.v (.string s1), .v (.int .i64 n2), .v (.int .i64 n3), .fz 7 l4, .fz 2 l5], .v (.int .i64 0)]) fun e19 ys20 =>
 bif e19.same .ret then (
 aV ys20 0 fun x21 =>
 aI .i64 x21 fun n22 =>
 some ⟨.d (.v (.int .i64 n22)), []⟩) else (
 bif e19.same (.exit 0) then (
 some ⟨.d (.v (.int .i64 (-1))), []⟩) else (
 none))) := by kernel_rfl
/- loop.example/g00119/spec.l13Put -/
def b106x0 : ACode := (
 .seq (.seq (.g [oM 13 9, oM 14 0, oZ 15 14, oB 16 .lss 13 15]) (
 .cond (.t 16) (.skip) (.exit 0))) (
 .seq (.block 1 (.seq (.seq (.g [oM 19 8, oN 20 19, oM 21 20, oJ 22 21 true (.mv (.t 0)), oJ 23 21 true (.mv (.t 9)), oJ 24 21 true (.iad 2 (.t 22) (.t 23)), oJ 25 21 true (.fad 0 (.t 24)), oJ 26 21 true (.load false [kI] (.t 25)), oJ 27 21 true (.mv (.t 1)), oJ 28 21 true (.bin .geq (.t 26) (.t 27)), oQ 29 (.pick (.t 21) (.t 28) (.b false))]) (
 .cond (.t 29) (.seq (.g [oM 30 7, oM 31 1, oM 32 2, oQ 33 (.build [.v (.int .i64 0), .v (.int .i64 0)] [(0, 1, (.t 31)), (1, 1, (.t 32))]), oQ 34 (.lit 2 ([[.v (.int .i64 0), .v (.int .i64 0)]] : Rows) [(0, (.t 33))]), oQ 35 (.app 2 16 (.t 30) (.t 34)), oM 7 35]) (
 .g [oV 8 true])) (.skip))) (
 .seq (.g [oM 36 0, oM 37 9, oI 38 2 36 37, oF 39 0 38, oW 40 kI 39, oM 41 1, oB 42 .neq 40 41]) (
 .cond (.t 42) (.g [oM 43 7, oM 44 0, oM 45 9, oI 46 2 44 45, oL 47 [kI, kI] 46, oQ 48 (.lit 2 ([[.v (.int .i64 0), .v (.int .i64 0)]] : Rows) [(0, (.t 47))]), oQ 49 (.app 2 16 (.t 43) (.t 48)), oM 7 49]) (.skip))))) (
 .g [oM 17 9, oBi 18 .add 17 1, oM 9 18])))
def e106x0 : Exits := [((.exit 0), [(1, .c kI), (2, .c kI), (7, .o 2), (8, .c .b)])]
noncomputable def l106x0 (T : Table) (k : Nat) := loopN (evalC ⟨T, [], []⟩ k b106x0 (Ex × List AV)) [0, 1, 2, 7, 8, 9] e106x0
def a106 : AFun := ⟨[.rd, .rd, .rd], false, [.t 6], (
 .seq (.g [oQ 6 (.mv (.c (.o 2 [])))]) (
 .seq (.g [oQ 10 (.lit 2 ([] : Rows) []), oM 7 10]) (
 .seq (.g [oM 11 2, oBi 12 .eql 11 0, oM 8 12]) (
 .seq (.seq (.g [oK 9 0]) (
 .block 0 (.loop [0, 1, 2, 7, 8, 9] e106x0 b106x0))) (
 .seq (.seq (.g [oM 50 8, oN 51 50]) (
 .cond (.t 51) (.g [oM 52 7, oM 53 1, oM 54 2, oQ 55 (.build [.v (.int .i64 0), .v (.int .i64 0)] [(0, 1, (.t 53)), (1, 1, (.t 54))]), oQ 56 (.lit 2 ([[.v (.int .i64 0), .v (.int .i64 0)]] : Rows) [(0, (.t 55))]), oQ 57 (.app 2 16 (.t 52) (.t 56)), oM 7 57]) (.skip))) (
 .seq (.g [oM 58 7, oM 6 58]) (
 .ret)))))))⟩
theorem l106x0s (T : Table) (k n : Nat) (l4 l7 : Rows) (n5 n6 n9 : Int) (b8 : Bool): l106x0 T k (n + 1) [.fz 2 l4, .v (.int .i64 n5), .v (.int .i64 n6), .o 2 l7, .v (.bool b8), .v (.int .i64 n9)] = (
 bif (decide (n9 < (l4.length : Int))) then (
 bif (!b8) == true then (
 tst (decide (0 ≤ n9)) (
 look l4 (Int.toNat n9) fun r10 =>
 cI .i64 r10 0 fun n11 =>
 bif (decide (n11 ≥ n5)) then (
 tst (decide ((l7.length + ([[.v (.int .i64 n5), .v (.int .i64 n6)]] : Rows).length) * 16 ≤ maxBytes)) (
 tst (decide (0 ≤ n9)) (
 look l4 (Int.toNat n9) fun r12 =>
 cI .i64 r12 0 fun n13 =>
 bif (n13 != n5) then (
 tst (decide (0 ≤ n9)) (
 look l4 (Int.toNat n9) fun r14 =>
 cI .i64 r14 0 fun n15 =>
 cI .i64 r14 1 fun n16 =>
 tst (decide (((l7 ++ ([[.v (.int .i64 n5), .v (.int .i64 n6)]] : Rows)).length + ([[.v (.int .i64 n15), .v (.int .i64 n16)]] : Rows).length) * 16 ≤ maxBytes)) (
 l106x0 T k n [.fz 2 l4, .v (.int .i64 n5), .v (.int .i64 n6), .o 2 ((l7 ++ ([[.v (.int .i64 n5), .v (.int .i64 n6)]] : Rows)) ++ ([[.v (.int .i64 n15), .v (.int .i64 n16)]] : Rows)), .v (.bool true), .v (.int .i64 (IntKind.wrap .i64 (n9 + 1)))]))) else (
 l106x0 T k n [.fz 2 l4, .v (.int .i64 n5), .v (.int .i64 n6), .o 2 (l7 ++ ([[.v (.int .i64 n5), .v (.int .i64 n6)]] : Rows)), .v (.bool true), .v (.int .i64 (IntKind.wrap .i64 (n9 + 1)))])))) else (
 tst (decide (0 ≤ n9)) (
 look l4 (Int.toNat n9) fun r17 =>
 cI .i64 r17 0 fun n18 =>
 bif (n18 != n5) then (
 tst (decide (0 ≤ n9)) (
 look l4 (Int.toNat n9) fun r19 =>
 cI .i64 r19 0 fun n20 =>
 cI .i64 r19 1 fun n21 =>
 tst (decide ((l7.length + ([[.v (.int .i64 n20), .v (.int .i64 n21)]] : Rows).length) * 16 ≤ maxBytes)) (
 l106x0 T k n [.fz 2 l4, .v (.int .i64 n5), .v (.int .i64 n6), .o 2 (l7 ++ ([[.v (.int .i64 n20), .v (.int .i64 n21)]] : Rows)), .v (.bool b8), .v (.int .i64 (IntKind.wrap .i64 (n9 + 1)))]))) else (
 l106x0 T k n [.fz 2 l4, .v (.int .i64 n5), .v (.int .i64 n6), .o 2 l7, .v (.bool b8), .v (.int .i64 (IntKind.wrap .i64 (n9 + 1)))]))))) else (
 tst (decide (0 ≤ n9)) (
 look l4 (Int.toNat n9) fun r22 =>
 cI .i64 r22 0 fun n23 =>
 bif (n23 != n5) then (
 tst (decide (0 ≤ n9)) (
 look l4 (Int.toNat n9) fun r24 =>
 cI .i64 r24 0 fun n25 =>
 cI .i64 r24 1 fun n26 =>
 tst (decide ((l7.length + ([[.v (.int .i64 n25), .v (.int .i64 n26)]] : Rows).length) * 16 ≤ maxBytes)) (
 l106x0 T k n [.fz 2 l4, .v (.int .i64 n5), .v (.int .i64 n6), .o 2 (l7 ++ ([[.v (.int .i64 n25), .v (.int .i64 n26)]] : Rows)), .v (.bool b8), .v (.int .i64 (IntKind.wrap .i64 (n9 + 1)))]))) else (
 l106x0 T k n [.fz 2 l4, .v (.int .i64 n5), .v (.int .i64 n6), .o 2 l7, .v (.bool b8), .v (.int .i64 (IntKind.wrap .i64 (n9 + 1)))])))) else (
 some ((.exit 0), [.v (.int .i64 n5), .v (.int .i64 n6), .o 2 l7, .v (.bool b8)]))) := by kernel_rfl
theorem a106q (T : Table) (k : Nat) (l1 : Rows) (n2 n3 : Int): evalF T k a106 [.d (.s 2 l1), .d (.v (.int .i64 n2)), .d (.v (.int .i64 n3))] = (
 aft (l106x0 T k k [.fz 2 l1, .v (.int .i64 n2), .v (.int .i64 n3), .o 2 [], .v (.bool (n3 == 0)), .v (.int .i64 0)]) fun e27 ys28 =>
 bif e27.same (.exit 0) then (
 aV ys28 0 fun x29 =>
 aI .i64 x29 fun n30 =>
 aV ys28 1 fun x31 =>
 aI .i64 x31 fun n32 =>
 aV ys28 2 fun x33 =>
 aO 2 x33 fun l34 =>
 aV ys28 3 fun x35 =>
 aB x35 fun b36 =>
 bif (!b36) then (
 tst (decide ((l34.length + ([[.v (.int .i64 n30), .v (.int .i64 n32)]] : Rows).length) * 16 ≤ maxBytes)) (
 some ⟨.d (.s 2 (l34 ++ ([[.v (.int .i64 n30), .v (.int .i64 n32)]] : Rows))), []⟩)) else (
 some ⟨.d (.s 2 l34), []⟩)) else (
 none)) := by kernel_rfl
/- loop.example/g00119/spec.Move -/
def b77x0 : ACode := (
 .seq (.seq (.dreg [] [(0, oM 44 7), (0, oF 45 3 1), (0, oW 46 (.sl 7) 45), (0, oZ 47 46), (0, oB 48 .lss 44 47), (0, oM 49 48), (0, oJ 50 49 true (.fad 4 (.t 1))), (0, oJ 51 49 true (.load false [.sl 2] (.t 50))), (1, oJ 52 49 true (.call (.f 101) [.rd] false [.c kI] [.t 51])), (0, oJ 53 49 true (.fad 1 (.t 1))), (0, oJ 54 49 true (.load false [kI] (.t 53)))] [oJ 55 49 true (.bin .lss (.t 52) (.t 54)), oQ 56 (.pick (.t 49) (.t 55) (.b false))]) (
 .cond (.t 56) (.skip) (.exit 0))) (
 .seq (.block 1 (.seq (.dreg [] [(0, oF 60 4 1), (0, oW 61 (.sl 2) 60), (0, oF 62 3 1), (0, oW 63 (.sl 7) 62), (0, oM 64 7), (0, oI 65 7 63 64), (0, oF 66 0 65), (0, oW 67 kI 66), (1, oC 68 102 [.c kI, .c .b] [61, 67]), (0, oM 59 68), (0, oX 69 59 0), (3, oX 70 59 1)] [oM 8 69, oM 9 70]) (
 .seq (.g [oM 71 8, oF 72 3 1, oW 73 (.sl 7) 72, oM 74 7, oI 75 7 73 74, oF 76 1 75, oW 77 kI 76, oB 78 .lss 71 77]) (
 .cond (.t 78) (.seq (.dreg [] [(0, oF 79 4 1), (0, oW 80 (.sl 2) 79), (0, oF 81 3 1), (0, oW 82 (.sl 7) 81), (0, oM 83 7), (0, oI 84 7 82 83), (0, oF 85 0 84), (0, oW 86 kI 85), (0, oM 87 8), (0, oBi 88 .add 87 1)] [oC 89 106 [.c (.sl 2)] [80, 86, 88], oF 90 4 5, oS (.store 1 (.t 90) (.t 89))]) (
 .seq (.dreg [(2, 0, []), (5, 0, [.s, kI, kI, .sl 7, .sl 2])] [(0, oL 91 [.s, kI, kI, .sl 7, .sl 2] 5), (0, oF 92 3 1), (0, oW 93 (.sl 7) 92), (0, oM 94 7), (0, oI 95 7 93 94), (0, oF 96 0 95), (0, oW 97 kI 96), (1, oS (.store 5 (.t 2) (.t 91)))] [oM 3 97, oK 4 1]) (
 .ret))) (.skip))))) (
 .g [oM 57 7, oBi 58 .add 57 1, oM 7 58])))
def e77x0 : Exits := [(.ret, [(2, .b [.c .s, .c kI, .c kI, .o 7, .o 2]), (3, .c kI), (4, .c kI)]), ((.exit 0), [(2, .b [.c .s, .c kI, .c kI, .o 7, .o 2]), (5, .b [.c .s, .c kI, .c kI, .o 7, .o 2])])]
noncomputable def l77x0 (T : Table) (k : Nat) := loopN (evalC ⟨T, [], []⟩ k b77x0 (Ex × List AV)) [1, 2, 5, 7] e77x0
def a77 : AFun := ⟨[.rd], false, [.c 2 true [.s, kI, kI, .sl 7, .sl 2], .t 3, .t 4], (
 .seq (.g [oQ 1 (.box (.t 0)), oQ 2 (.alloc [.v (.string ByteArray.empty), .v (.int .i64 0), .v (.int .i64 0), .s 7 [], .s 2 []]), oK 3 0, oK 4 0]) (
 .seq (.g [oL 10 [.s, kI, kI, .sl 7, .sl 2] 1, oC 11 103 [.g [.s, kI, kI, .sl 7, .sl 2]] [10], oQ 5 (.alloc [.v (.string ByteArray.empty), .v (.int .i64 0), .v (.int .i64 0), .s 7 [], .s 2 []]), oS (.store 5 (.t 5) (.t 11))]) (
 .seq (.seq (.g [oL 12 [.s, kI, kI, .sl 7, .sl 2] 1, oC 13 73 [.c .b] [12], oN 14 13]) (
 .cond (.t 14) (.seq (.g [oL 15 [.s, kI, kI, .sl 7, .sl 2] 5, oS (.store 5 (.t 2) (.t 15)), oK 3 0, oK 4 0]) (
 .ret)) (.skip))) (
 .seq (.seq (.g [oL 16 [.s, kI, kI, .sl 7, .sl 2] 1, oC 17 105 [.c kI] [16], oM 6 17]) (
 .seq (.g [oM 18 6, oBi 19 .geq 18 0]) (
 .cond (.t 19) (.seq (.dreg [] [(0, oF 20 4 1), (0, oW 21 (.sl 2) 20), (0, oF 22 4 1), (0, oW 23 (.sl 2) 22), (0, oM 24 6), (0, oI 25 2 23 24), (0, oF 26 0 25), (0, oW 27 kI 26), (0, oF 28 4 1), (0, oW 29 (.sl 2) 28), (0, oM 30 6), (0, oI 31 2 29 30), (0, oF 32 1 31), (0, oW 33 kI 32), (0, oBi 34 .sub 33 1)] [oC 35 106 [.c (.sl 2)] [21, 27, 34], oF 36 4 5, oS (.store 1 (.t 36) (.t 35))]) (
 .seq (.dreg [(2, 0, [])] [(0, oL 37 [.s, kI, kI, .sl 7, .sl 2] 5), (0, oF 38 4 1), (0, oW 39 (.sl 2) 38), (0, oM 40 6), (0, oI 41 2 39 40), (0, oF 42 0 41), (0, oW 43 kI 42), (1, oS (.store 5 (.t 2) (.t 37)))] [oM 3 43, oK 4 (-1)]) (
 .ret))) (.skip)))) (
 .seq (.seq (.g [oK 7 0]) (
 .block 0 (.loop [1, 2, 5, 7] e77x0 b77x0))) (
 .seq (.g [oL 98 [.s, kI, kI, .sl 7, .sl 2] 5, oS (.store 5 (.t 2) (.t 98)), oK 3 0, oK 4 0]) (
 .ret)))))))⟩
theorem l77x0s (T : Table) (k n : Nat) (s28 s33 s38 : ByteArray) (n29 n30 n34 n35 n39 n40 n43 : Int) (l31 l32 l36 l37 l41 l42 : Rows): l77x0 T k (n + 1) [.b [.v (.string s28), .v (.int .i64 n29), .v (.int .i64 n30), .fz 7 l31, .fz 2 l32], .b [.v (.string s33), .v (.int .i64 n34), .v (.int .i64 n35), .o 7 l36, .o 2 l37], .b [.v (.string s38), .v (.int .i64 n39), .v (.int .i64 n40), .o 7 l41, .o 2 l42], .v (.int .i64 n43)] = (
 bif (decide (n43 < (l31.length : Int))) == true then (
 callT T 101 [.d (.s 2 l32)] fun o44 =>
 oD o44.res fun d45 =>
 dI .i64 d45 fun n46 =>
 bif (decide (n46 < n29)) then (
 tst (decide (0 ≤ n43)) (
 look l31 (Int.toNat n43) fun r47 =>
 cI .i64 r47 0 fun n48 =>
 callT T 102 [.d (.s 2 l32), .d (.v (.int .i64 n48))] fun o49 =>
 oT o49.res fun is50 =>
 tst (Nat.beq is50.length 2) (
 nth is50 0 fun i51 =>
 oD i51 fun d52 =>
 dI .i64 d52 fun n53 =>
 nth is50 1 fun i54 =>
 oD i54 fun d55 =>
 dB d55 fun b56 =>
 tst (decide (0 ≤ n43)) (
 look l31 (Int.toNat n43) fun r57 =>
 cI .i64 r57 1 fun n58 =>
 bif (decide (n53 < n58)) then (
 tst (decide (0 ≤ n43)) (
 look l31 (Int.toNat n43) fun r59 =>
 cI .i64 r59 0 fun n60 =>
 callT T 106 [.d (.s 2 l32), .d (.v (.int .i64 n60)), .d (.v (.int .i64 (IntKind.wrap .i64 (n53 + 1))))] fun o61 =>
 oD o61.res fun d62 =>
 dL 2 d62 fun l63 =>
 tst (decide (0 ≤ n43)) (
 look l31 (Int.toNat n43) fun r64 =>
 cI .i64 r64 0 fun n65 =>
 some (.ret, [.b [.v (.string s38), .v (.int .i64 n39), .v (.int .i64 n40), .o 7 l41, .o 2 l63], .v (.int .i64 n65), .v (.int .i64 1)])))) else (
 l77x0 T k n [.b [.v (.string s28), .v (.int .i64 n29), .v (.int .i64 n30), .fz 7 l31, .fz 2 l32], .b [.v (.string s33), .v (.int .i64 n34), .v (.int .i64 n35), .o 7 l36, .o 2 l37], .b [.v (.string s38), .v (.int .i64 n39), .v (.int .i64 n40), .o 7 l41, .o 2 l42], .v (.int .i64 (IntKind.wrap .i64 (n43 + 1)))]))))) else (
 some ((.exit 0), [.b [.v (.string s33), .v (.int .i64 n34), .v (.int .i64 n35), .o 7 l36, .o 2 l37], .b [.v (.string s38), .v (.int .i64 n39), .v (.int .i64 n40), .o 7 l41, .o 2 l42]]))) else (
 some ((.exit 0), [.b [.v (.string s33), .v (.int .i64 n34), .v (.int .i64 n35), .o 7 l36, .o 2 l37], .b [.v (.string s38), .v (.int .i64 n39), .v (.int .i64 n40), .o 7 l41, .o 2 l42]]))) := by kernel_rfl
theorem a77q (T : Table) (k : Nat) (s1 : ByteArray) (n2 n3 : Int) (l4 l5 : Rows): evalF T k a77 [.g [.v (.string s1), .v (.int .i64 n2), .v (.int .i64 n3), .s 7 l4, .s 2 l5]] = (
 callT T 103 [.g [.v (.string s1), .v (.int .i64 n2), .v (.int .i64 n3), .s 7 l4, .s 2 l5]] fun o6 =>
 oG o6.res fun r7 =>
 tst (Nat.beq r7.length 5) (
 cS r7 0 fun s8 =>
 cI .i64 r7 1 fun n9 =>
 cI .i64 r7 2 fun n10 =>
 cL 7 r7 3 fun l11 =>
 cL 2 r7 4 fun l12 =>
 callT T 73 [.g [.v (.string s1), .v (.int .i64 n2), .v (.int .i64 n3), .s 7 l4, .s 2 l5]] fun o13 =>
 oD o13.res fun d14 =>
 dB d14 fun b15 =>
 bif (!b15) then (
 some ⟨.t [.g [.v (.string s8), .v (.int .i64 n9), .v (.int .i64 n10), .s 7 l11, .s 2 l12], .d (.v (.int .i64 0)), .d (.v (.int .i64 0))], []⟩) else (
 callT T 105 [.g [.v (.string s1), .v (.int .i64 n2), .v (.int .i64 n3), .s 7 l4, .s 2 l5]] fun o16 =>
 oD o16.res fun d17 =>
 dI .i64 d17 fun n18 =>
 bif (decide (n18 ≥ 0)) then (
 tst (decide (0 ≤ n18)) (
 look l5 (Int.toNat n18) fun r19 =>
 cI .i64 r19 0 fun n20 =>
 tst (decide (0 ≤ n18)) (
 look l5 (Int.toNat n18) fun r21 =>
 cI .i64 r21 1 fun n22 =>
 callT T 106 [.d (.s 2 l5), .d (.v (.int .i64 n20)), .d (.v (.int .i64 (IntKind.wrap .i64 (n22 - 1))))] fun o23 =>
 oD o23.res fun d24 =>
 dL 2 d24 fun l25 =>
 tst (decide (0 ≤ n18)) (
 look l5 (Int.toNat n18) fun r26 =>
 cI .i64 r26 0 fun n27 =>
 some ⟨.t [.g [.v (.string s8), .v (.int .i64 n9), .v (.int .i64 n10), .s 7 l11, .s 2 l25], .d (.v (.int .i64 n27)), .d (.v (.int .i64 (-1)))], []⟩)))) else (
 aft (l77x0 T k k [.b [.v (.string s1), .v (.int .i64 n2), .v (.int .i64 n3), .fz 7 l4, .fz 2 l5], .b [.v (.string ByteArray.empty), .v (.int .i64 0), .v (.int .i64 0), .o 7 [], .o 2 []], .b [.v (.string s8), .v (.int .i64 n9), .v (.int .i64 n10), .o 7 l11, .o 2 l12], .v (.int .i64 0)]) fun e66 ys67 =>
 bif e66.same .ret then (
 aV ys67 0 fun x68 =>
 aX x68 fun xs69 =>
 aV xs69 0 fun x70 =>
 aS x70 fun s71 =>
 aV xs69 1 fun x72 =>
 aI .i64 x72 fun n73 =>
 aV xs69 2 fun x74 =>
 aI .i64 x74 fun n75 =>
 aV xs69 3 fun x76 =>
 aO 7 x76 fun l77 =>
 aV xs69 4 fun x78 =>
 aO 2 x78 fun l79 =>
 aV ys67 1 fun x80 =>
 aI .i64 x80 fun n81 =>
 aV ys67 2 fun x82 =>
 aI .i64 x82 fun n83 =>
 some ⟨.t [.g [.v (.string s71), .v (.int .i64 n73), .v (.int .i64 n75), .s 7 l77, .s 2 l79], .d (.v (.int .i64 n81)), .d (.v (.int .i64 n83))], []⟩) else (
 bif e66.same (.exit 0) then (
 aV ys67 0 fun x84 =>
 aX x84 fun xs85 =>
 aV xs85 0 fun x86 =>
 aS x86 fun s87 =>
 aV xs85 1 fun x88 =>
 aI .i64 x88 fun n89 =>
 aV xs85 2 fun x90 =>
 aI .i64 x90 fun n91 =>
 aV xs85 3 fun x92 =>
 aO 7 x92 fun l93 =>
 aV xs85 4 fun x94 =>
 aO 2 x94 fun l95 =>
 aV ys67 1 fun x96 =>
 aX x96 fun xs97 =>
 aV xs97 0 fun x98 =>
 aS x98 fun s99 =>
 aV xs97 1 fun x100 =>
 aI .i64 x100 fun n101 =>
 aV xs97 2 fun x102 =>
 aI .i64 x102 fun n103 =>
 aV xs97 3 fun x104 =>
 aO 7 x104 fun l105 =>
 aV xs97 4 fun x106 =>
 aO 2 x106 fun l107 =>
 some ⟨.t [.g [.v (.string s99), .v (.int .i64 n101), .v (.int .i64 n103), .s 7 l105, .s 2 l107], .d (.v (.int .i64 0)), .d (.v (.int .i64 0))], []⟩) else (
 none)))))) := by kernel_rfl
/- loop.example/g00119/spec.l13Draw -/
def b48x1 : ACode := (
 .seq (.seq (.g [oM 37 6, oBi 38 .gtr 37 0]) (
 .cond (.t 38) (.skip) (.exit 2))) (
 .seq (.block 3 (.g [oL 42 [.s, kI, kI, .sl 7, .sl 2] 3, oC 43 77 [.g [.s, kI, kI, .sl 7, .sl 2], .c kI, .c kI] [42], oM 41 43, oX 44 41 0, oX 45 41 1, oX 46 41 2, oS (.store 5 (.t 3) (.t 44))])) (
 .g [oM 39 6, oBi 40 .sub 39 1, oM 6 40])))
def e48x1 : Exits := [((.exit 2), [(0, .b [.c .h, .c kI, .c kI]), (2, .b [.c .s, .c kI, .c kI, .o 7, .o 2]), (3, .b [.c .s, .c kI, .c kI, .o 7, .o 2]), (5, .c kI)])]
noncomputable def l48x1 (T : Table) (k : Nat) := loopN (evalC ⟨T, [0], []⟩ k b48x1 (Ex × List AV)) [0, 2, 3, 5, 6] e48x1
def b48x0 : ACode := (
 .seq (.seq (.g [oM 18 5, oBi 19 .gtr 18 0]) (
 .cond (.t 19) (.skip) (.exit 0))) (
 .seq (.block 1 (.seq (.dreg [(0, 0, []), (3, 0, [.s, kI, kI, .sl 7, .sl 2])] [(0, oL 23 [.s, kI, kI, .sl 7, .sl 2] 3), (0, oF 24 2 3), (0, oW 25 kI 24), (0, oBi 26 .add 25 1), (0, oM 27 0), (1, oQ 28 (.call (.f 44) [.lent, .rd] false [.c kI] [.t 27, .i 3])), (0, oB 29 .add 26 28), (0, oM 30 0), (1, oQ 31 (.call (.f 45) [.lent] false [.c (.sl 7)] [.t 30])), (1, oC 32 76 [.g [.s, kI, kI, .sl 7, .sl 2], .c .b] [23, 29, 31]), (0, oM 22 32), (0, oX 33 22 0), (3, oX 34 22 1)] [oS (.store 5 (.t 3) (.t 33))]) (
 .seq (.g [oM 35 0, oQ 36 (.call (.f 44) [.lent, .rd] false [.c kI] [.t 35, .i 9]), oM 6 36]) (
 .block 2 (.loop [0, 2, 3, 5, 6] e48x1 b48x1))))) (
 .g [oM 20 5, oBi 21 .sub 20 1, oM 5 21])))
def e48x0 : Exits := [((.exit 0), [(0, .b [.c .h, .c kI, .c kI]), (2, .b [.c .s, .c kI, .c kI, .o 7, .o 2]), (3, .b [.c .s, .c kI, .c kI, .o 7, .o 2])])]
noncomputable def l48x0 (T : Table) (k : Nat) := loopN (evalC ⟨T, [0], []⟩ k b48x0 (Ex × List AV)) [0, 2, 3, 5] e48x0
def a48 : AFun := ⟨[.lent], false, [.c 2 true [.s, kI, kI, .sl 7, .sl 2]], (
 .seq (.g [oQ 2 (.alloc [.v (.string ByteArray.empty), .v (.int .i64 0), .v (.int .i64 0), .s 7 [], .s 2 []])]) (
 .seq (.g [oM 8 0, oQ 9 (.call (.f 43) [.lent] false [.c .s] [.t 8]), oM 10 0, oQ 11 (.lit 1 ([[.v (.int .i64 0)], [.v (.int .i64 0)], [.v (.int .i64 0)], [.v (.int .i64 0)], [.v (.int .i64 0)]] : Rows) [(0, (.i 0)), (1, (.i 1)), (2, (.i 3)), (3, (.i 6)), (4, (.i 20))]), oQ 12 (.call (.f 49) [.lent, .rd] false [.c kI] [.t 10, .t 11]), oC 13 75 [.g [.s, kI, kI, .sl 7, .sl 2], .c .b] [9, 12], oM 7 13, oX 14 7 0, oX 15 7 1, oQ 3 (.alloc [.v (.string ByteArray.empty), .v (.int .i64 0), .v (.int .i64 0), .s 7 [], .s 2 []]), oS (.store 5 (.t 3) (.t 14)), oM 4 15]) (
 .seq (.seq (.g [oM 16 0, oQ 17 (.call (.f 44) [.lent, .rd] false [.c kI] [.t 16, .i 4]), oM 5 17]) (
 .block 0 (.loop [0, 2, 3, 5] e48x0 b48x0))) (
 .seq (.g [oL 47 [.s, kI, kI, .sl 7, .sl 2] 3, oS (.store 5 (.t 2) (.t 47))]) (
 .ret)))))⟩
theorem l48x1s (T : Table) (k n m107 m108 : Nat) (a106 : Option Addr) (n109 n110 n112 n113 n117 n118 n121 n122 : Int) (s111 s116 : ByteArray) (l114 l115 l119 l120 : Rows): l48x1 T k (n + 1) [.b [.v (.slice a106 m107 m108), .v (.int .i64 n109), .v (.int .i64 n110)], .b [.v (.string s111), .v (.int .i64 n112), .v (.int .i64 n113), .o 7 l114, .o 2 l115], .b [.v (.string s116), .v (.int .i64 n117), .v (.int .i64 n118), .o 7 l119, .o 2 l120], .v (.int .i64 n121), .v (.int .i64 n122)] = (
 bif (decide (n122 > 0)) then (
 callT T 77 [.g [.v (.string s116), .v (.int .i64 n117), .v (.int .i64 n118), .s 7 l119, .s 2 l120]] fun o123 =>
 oT o123.res fun is124 =>
 tst (Nat.beq is124.length 3) (
 nth is124 0 fun i125 =>
 oG i125 fun r126 =>
 tst (Nat.beq r126.length 5) (
 cS r126 0 fun s127 =>
 cI .i64 r126 1 fun n128 =>
 cI .i64 r126 2 fun n129 =>
 cL 7 r126 3 fun l130 =>
 cL 2 r126 4 fun l131 =>
 nth is124 1 fun i132 =>
 oD i132 fun d133 =>
 dI .i64 d133 fun n134 =>
 nth is124 2 fun i135 =>
 oD i135 fun d136 =>
 dI .i64 d136 fun n137 =>
 l48x1 T k n [.b [.v (.slice a106 m107 m108), .v (.int .i64 n109), .v (.int .i64 n110)], .b [.v (.string s111), .v (.int .i64 n112), .v (.int .i64 n113), .o 7 l114, .o 2 l115], .b [.v (.string s127), .v (.int .i64 n128), .v (.int .i64 n129), .o 7 l130, .o 2 l131], .v (.int .i64 n121), .v (.int .i64 (IntKind.wrap .i64 (n122 - 1)))]))) else (
 some ((.exit 2), [.b [.v (.slice a106 m107 m108), .v (.int .i64 n109), .v (.int .i64 n110)], .b [.v (.string s111), .v (.int .i64 n112), .v (.int .i64 n113), .o 7 l114, .o 2 l115], .b [.v (.string s116), .v (.int .i64 n117), .v (.int .i64 n118), .o 7 l119, .o 2 l120], .v (.int .i64 n121)]))) := by kernel_rfl
theorem l48x0s (T : Table) (k n m49 m50 : Nat) (a48 : Option Addr) (n51 n52 n54 n55 n59 n60 n63 : Int) (s53 s58 : ByteArray) (l56 l57 l61 l62 : Rows): l48x0 T k (n + 1) [.b [.v (.slice a48 m49 m50), .v (.int .i64 n51), .v (.int .i64 n52)], .b [.v (.string s53), .v (.int .i64 n54), .v (.int .i64 n55), .o 7 l56, .o 2 l57], .b [.v (.string s58), .v (.int .i64 n59), .v (.int .i64 n60), .o 7 l61, .o 2 l62], .v (.int .i64 n63)] = (
 bif (decide (n63 > 0)) then (
 callT T 44 [.p [.v (.slice a48 m49 m50), .v (.int .i64 n51), .v (.int .i64 n52)], .d (.v (.int .i64 3))] fun o64 =>
 nth o64.back 0 fun i65 =>
 oP i65 fun r66 =>
 tst (Nat.beq r66.length 3) (
 cH r66 0 fun a67 m68 m69 =>
 cI .i64 r66 1 fun n70 =>
 cI .i64 r66 2 fun n71 =>
 oD o64.res fun d72 =>
 dI .i64 d72 fun n73 =>
 callT T 45 [.p [.v (.slice a67 m68 m69), .v (.int .i64 n70), .v (.int .i64 n71)]] fun o74 =>
 nth o74.back 0 fun i75 =>
 oP i75 fun r76 =>
 tst (Nat.beq r76.length 3) (
 cH r76 0 fun a77 m78 m79 =>
 cI .i64 r76 1 fun n80 =>
 cI .i64 r76 2 fun n81 =>
 oD o74.res fun d82 =>
 dL 7 d82 fun l83 =>
 callT T 76 [.g [.v (.string s58), .v (.int .i64 n59), .v (.int .i64 n60), .s 7 l61, .s 2 l62], .d (.v (.int .i64 (IntKind.wrap .i64 ((IntKind.wrap .i64 (n60 + 1)) + n73)))), .d (.s 7 l83)] fun o84 =>
 oT o84.res fun is85 =>
 tst (Nat.beq is85.length 2) (
 nth is85 0 fun i86 =>
 oG i86 fun r87 =>
 tst (Nat.beq r87.length 5) (
 cS r87 0 fun s88 =>
 cI .i64 r87 1 fun n89 =>
 cI .i64 r87 2 fun n90 =>
 cL 7 r87 3 fun l91 =>
 cL 2 r87 4 fun l92 =>
 nth is85 1 fun i93 =>
 oD i93 fun d94 =>
 dB d94 fun b95 =>
 callT T 44 [.p [.v (.slice a77 m78 m79), .v (.int .i64 n80), .v (.int .i64 n81)], .d (.v (.int .i64 9))] fun o96 =>
 nth o96.back 0 fun i97 =>
 oP i97 fun r98 =>
 tst (Nat.beq r98.length 3) (
 cH r98 0 fun a99 m100 m101 =>
 cI .i64 r98 1 fun n102 =>
 cI .i64 r98 2 fun n103 =>
 oD o96.res fun d104 =>
 dI .i64 d104 fun n105 =>
 aft (l48x1 T k k [.b [.v (.slice a99 m100 m101), .v (.int .i64 n102), .v (.int .i64 n103)], .b [.v (.string s53), .v (.int .i64 n54), .v (.int .i64 n55), .o 7 l56, .o 2 l57], .b [.v (.string s88), .v (.int .i64 n89), .v (.int .i64 n90), .o 7 l91, .o 2 l92], .v (.int .i64 n63), .v (.int .i64 n105)]) fun e138 ys139 =>
 bif e138.same (.exit 2) then (
 aV ys139 0 fun x140 =>
 aX x140 fun xs141 =>
 aV xs141 0 fun x142 =>
 aH x142 fun a143 m144 m145 =>
 aV xs141 1 fun x146 =>
 aI .i64 x146 fun n147 =>
 aV xs141 2 fun x148 =>
 aI .i64 x148 fun n149 =>
 aV ys139 1 fun x150 =>
 aX x150 fun xs151 =>
 aV xs151 0 fun x152 =>
 aS x152 fun s153 =>
 aV xs151 1 fun x154 =>
 aI .i64 x154 fun n155 =>
 aV xs151 2 fun x156 =>
 aI .i64 x156 fun n157 =>
 aV xs151 3 fun x158 =>
 aO 7 x158 fun l159 =>
 aV xs151 4 fun x160 =>
 aO 2 x160 fun l161 =>
 aV ys139 2 fun x162 =>
 aX x162 fun xs163 =>
 aV xs163 0 fun x164 =>
 aS x164 fun s165 =>
 aV xs163 1 fun x166 =>
 aI .i64 x166 fun n167 =>
 aV xs163 2 fun x168 =>
 aI .i64 x168 fun n169 =>
 aV xs163 3 fun x170 =>
 aO 7 x170 fun l171 =>
 aV xs163 4 fun x172 =>
 aO 2 x172 fun l173 =>
 aV ys139 3 fun x174 =>
 aI .i64 x174 fun n175 =>
 l48x0 T k n [.b [.v (.slice a143 m144 m145), .v (.int .i64 n147), .v (.int .i64 n149)], .b [.v (.string s153), .v (.int .i64 n155), .v (.int .i64 n157), .o 7 l159, .o 2 l161], .b [.v (.string s165), .v (.int .i64 n167), .v (.int .i64 n169), .o 7 l171, .o 2 l173], .v (.int .i64 (IntKind.wrap .i64 (n175 - 1)))]) else (
 none))))))) else (
 some ((.exit 0), [.b [.v (.slice a48 m49 m50), .v (.int .i64 n51), .v (.int .i64 n52)], .b [.v (.string s53), .v (.int .i64 n54), .v (.int .i64 n55), .o 7 l56, .o 2 l57], .b [.v (.string s58), .v (.int .i64 n59), .v (.int .i64 n60), .o 7 l61, .o 2 l62]]))) := by kernel_rfl
theorem a48q (T : Table) (k m2 m3 : Nat) (a1 : Option Addr) (n4 n5 : Int): evalF T k a48 [.p [.v (.slice a1 m2 m3), .v (.int .i64 n4), .v (.int .i64 n5)]] = (
 callT T 43 [.p [.v (.slice a1 m2 m3), .v (.int .i64 n4), .v (.int .i64 n5)]] fun o6 =>
 nth o6.back 0 fun i7 =>
 oP i7 fun r8 =>
 tst (Nat.beq r8.length 3) (
 cH r8 0 fun a9 m10 m11 =>
 cI .i64 r8 1 fun n12 =>
 cI .i64 r8 2 fun n13 =>
 oD o6.res fun d14 =>
 dS d14 fun s15 =>
 callT T 49 [.p [.v (.slice a9 m10 m11), .v (.int .i64 n12), .v (.int .i64 n13)], .d (.s 1 ([[.v (.int .i64 0)], [.v (.int .i64 1)], [.v (.int .i64 3)], [.v (.int .i64 6)], [.v (.int .i64 20)]] : Rows))] fun o16 =>
 nth o16.back 0 fun i17 =>
 oP i17 fun r18 =>
 tst (Nat.beq r18.length 3) (
 cH r18 0 fun a19 m20 m21 =>
 cI .i64 r18 1 fun n22 =>
 cI .i64 r18 2 fun n23 =>
 oD o16.res fun d24 =>
 dI .i64 d24 fun n25 =>
 callT T 75 [.d (.v (.string s15)), .d (.v (.int .i64 n25))] fun o26 =>
 oT o26.res fun is27 =>
 tst (Nat.beq is27.length 2) (
 nth is27 0 fun i28 =>
 oG i28 fun r29 =>
 tst (Nat.beq r29.length 5) (
 cS r29 0 fun s30 =>
 cI .i64 r29 1 fun n31 =>
 cI .i64 r29 2 fun n32 =>
 cL 7 r29 3 fun l33 =>
 cL 2 r29 4 fun l34 =>
 nth is27 1 fun i35 =>
 oD i35 fun d36 =>
 dB d36 fun b37 =>
 callT T 44 [.p [.v (.slice a19 m20 m21), .v (.int .i64 n22), .v (.int .i64 n23)], .d (.v (.int .i64 4))] fun o38 =>
 nth o38.back 0 fun i39 =>
 oP i39 fun r40 =>
 tst (Nat.beq r40.length 3) (
 cH r40 0 fun a41 m42 m43 =>
 cI .i64 r40 1 fun n44 =>
 cI .i64 r40 2 fun n45 =>
 oD o38.res fun d46 =>
 dI .i64 d46 fun n47 =>
 aft (l48x0 T k k [.b [.v (.slice a41 m42 m43), .v (.int .i64 n44), .v (.int .i64 n45)], .b [.v (.string ByteArray.empty), .v (.int .i64 0), .v (.int .i64 0), .o 7 [], .o 2 []], .b [.v (.string s30), .v (.int .i64 n31), .v (.int .i64 n32), .o 7 l33, .o 2 l34], .v (.int .i64 n47)]) fun e176 ys177 =>
 bif e176.same (.exit 0) then (
 aV ys177 0 fun x178 =>
 aX x178 fun xs179 =>
 aV xs179 0 fun x180 =>
 aH x180 fun a181 m182 m183 =>
 aV xs179 1 fun x184 =>
 aI .i64 x184 fun n185 =>
 aV xs179 2 fun x186 =>
 aI .i64 x186 fun n187 =>
 aV ys177 1 fun x188 =>
 aX x188 fun xs189 =>
 aV xs189 0 fun x190 =>
 aS x190 fun s191 =>
 aV xs189 1 fun x192 =>
 aI .i64 x192 fun n193 =>
 aV xs189 2 fun x194 =>
 aI .i64 x194 fun n195 =>
 aV xs189 3 fun x196 =>
 aO 7 x196 fun l197 =>
 aV xs189 4 fun x198 =>
 aO 2 x198 fun l199 =>
 aV ys177 2 fun x200 =>
 aX x200 fun xs201 =>
 aV xs201 0 fun x202 =>
 aS x202 fun s203 =>
 aV xs201 1 fun x204 =>
 aI .i64 x204 fun n205 =>
 aV xs201 2 fun x206 =>
 aI .i64 x206 fun n207 =>
 aV xs201 3 fun x208 =>
 aO 7 x208 fun l209 =>
 aV xs201 4 fun x210 =>
 aO 2 x210 fun l211 =>
 some ⟨.g [.v (.string s203), .v (.int .i64 n205), .v (.int .i64 n207), .s 7 l209, .s 2 l211], [.p [.v (.slice a181 m182 m183), .v (.int .i64 n185), .v (.int .i64 n187)]]⟩) else (
 none))))))) := by kernel_rfl
/- loop.example/g00119/spec.l1NameAny -/
def a50 : AFun := ⟨[.lent], false, [.t 2], (
 .seq (.g [oQ 2 (.mv (.c (.v (.string ({ data := #[] } : ByteArray)))))]) (
 .seq (.seq (.g [oM 3 0, oQ 4 (.call (.f 46) [.lent, .rd] false [.c .b] [.t 3, .i 8])]) (
 .cond (.t 4) (.seq (.g [oM 5 0, oQ 6 (.lit 1 ([[.v (.string ByteArray.empty)], [.v (.string ByteArray.empty)], [.v (.string ByteArray.empty)], [.v (.string ByteArray.empty)], [.v (.string ByteArray.empty)], [.v (.string ByteArray.empty)], [.v (.string ByteArray.empty)], [.v (.string ByteArray.empty)]] : Rows) [(0, (.c (.v (.string ({ data := #[] } : ByteArray))))), (1, (.c (.v (.string ({ data := #[45, 97] } : ByteArray))))), (2, (.c (.v (.string ({ data := #[97, 45] } : ByteArray))))), (3, (.c (.v (.string ({ data := #[65] } : ByteArray))))), (4, (.c (.v (.string ({ data := #[97, 32, 98] } : ByteArray))))), (5, (.c (.v (.string ({ data := #[97, 98, 99, 100, 101, 102, 103, 104, 105, 106, 107, 108, 109, 110, 111, 112, 113, 114, 115, 116, 117] } : ByteArray))))), (6, (.c (.v (.string ({ data := #[255] } : ByteArray))))), (7, (.c (.v (.string ({ data := #[97, 61, 98] } : ByteArray)))))]), oQ 7 (.call (.f 70) [.lent, .rd] false [.c .s] [.t 5, .t 6]), oM 2 7]) (
 .ret)) (.skip))) (
 .seq (.g [oM 8 0, oQ 9 (.call (.f 78) [.lent] false [.c .s] [.t 8]), oM 2 9]) (
 .ret))))⟩
theorem a50q (T : Table) (k m2 m3 : Nat) (a1 : Option Addr) (n4 n5 : Int): evalF T k a50 [.p [.v (.slice a1 m2 m3), .v (.int .i64 n4), .v (.int .i64 n5)]] = (
 callT T 46 [.p [.v (.slice a1 m2 m3), .v (.int .i64 n4), .v (.int .i64 n5)], .d (.v (.int .i64 8))] fun o6 =>
 nth o6.back 0 fun i7 =>
 oP i7 fun r8 =>
 tst (Nat.beq r8.length 3) (
 cH r8 0 fun a9 m10 m11 =>
 cI .i64 r8 1 fun n12 =>
 cI .i64 r8 2 fun n13 =>
 oD o6.res fun d14 =>
 dB d14 fun b15 =>
 bif b15 then (
 callT T 70 [.p [.v (.slice a9 m10 m11), .v (.int .i64 n12), .v (.int .i64 n13)], .d (.s 1 ([[.v (.string ({ data := #[] } : ByteArray))], [.v (.string ({ data := #[45, 97] } : ByteArray))], [.v (.string ({ data := #[97, 45] } : ByteArray))], [.v (.string ({ data := #[65] } : ByteArray))], [.v (.string ({ data := #[97, 32, 98] } : ByteArray))], [.v (.string ({ data := #[97, 98, 99, 100, 101, 102, 103, 104, 105, 106, 107, 108, 109, 110, 111, 112, 113, 114, 115, 116, 117] } : ByteArray))], [.v (.string ({ data := #[255] } : ByteArray))], [.v (.string ({ data := #[97, 61, 98] } : ByteArray))]] : Rows))] fun o16 =>
 nth o16.back 0 fun i17 =>
 oP i17 fun r18 =>
 tst (Nat.beq r18.length 3) (
 cH r18 0 fun a19 m20 m21 =>
 cI .i64 r18 1 fun n22 =>
 cI .i64 r18 2 fun n23 =>
 oD o16.res fun d24 =>
 dS d24 fun s25 =>
 some ⟨.d (.v (.string s25)), [.p [.v (.slice a19 m20 m21), .v (.int .i64 n22), .v (.int .i64 n23)]]⟩)) else (
 callT T 78 [.p [.v (.slice a9 m10 m11), .v (.int .i64 n12), .v (.int .i64 n13)]] fun o26 =>
 nth o26.back 0 fun i27 =>
 oP i27 fun r28 =>
 tst (Nat.beq r28.length 3) (
 cH r28 0 fun a29 m30 m31 =>
 cI .i64 r28 1 fun n32 =>
 cI .i64 r28 2 fun n33 =>
 oD o26.res fun d34 =>
 dS d34 fun s35 =>
 some ⟨.d (.v (.string s35)), [.p [.v (.slice a29 m30 m31), .v (.int .i64 n32), .v (.int .i64 n33)]]⟩)))) := by kernel_rfl
/- loop.example/g00119/spec.l14Draw -/
def a17 : AFun := ⟨[.lent], false, [.c 2 true [kI, .s, kI, .sl 7, .sl 2]], (
 .seq (.g [oQ 2 (.alloc [.v (.int .i64 0), .v (.string ByteArray.empty), .v (.int .i64 0), .s 7 [], .s 2 []])]) (
 .seq (.g [oM 4 0, oQ 5 (.call (.f 43) [.lent] false [.c .s] [.t 4]), oM 6 0, oQ 7 (.call (.f 44) [.lent, .rd] false [.c kI] [.t 6, .i 9]), oQ 8 (.bin .add (.i 1) (.t 7)), oM 9 0, oQ 10 (.call (.f 45) [.lent] false [.c (.sl 7)] [.t 9]), oQ 11 (.build [.v (.int .i64 0), .v (.string ByteArray.empty), .v (.int .i64 0), .s 7 [], .s 2 []] [(0, 1, (.i 2)), (1, 1, (.t 5)), (2, 1, (.t 8)), (3, 1, (.t 10))]), oQ 3 (.alloc [.v (.int .i64 0), .v (.string ByteArray.empty), .v (.int .i64 0), .s 7 [], .s 2 []]), oS (.store 5 (.t 3) (.t 11))]) (
 .seq (.seq (.g [oM 12 0, oQ 13 (.call (.f 46) [.lent, .rd] false [.c .b] [.t 12, .i 2])]) (
 .cond (.t 13) (.g [oM 14 0, oQ 15 (.call (.f 48) [.lent] false [.g [.s, kI, kI, .sl 7, .sl 2]] [.t 14]), oC 16 47 [.g [kI, .s, kI, .sl 7, .sl 2]] [15], oS (.store 5 (.t 3) (.t 16))]) (.skip))) (
 .seq (.seq (.g [oM 17 0, oQ 18 (.call (.f 44) [.lent, .rd] false [.c kI] [.t 17, .i 16])]) (
 .block 0 (.seq (.g [oBi 20 .eql 18 0, oM 19 20]) (
 .cond (.t 19) (.g [oM 21 0, oQ 22 (.call (.f 44) [.lent, .rd] false [.c kI] [.t 21, .i 4]), oF 23 0 3, oS (.store 1 (.t 23) (.t 22))]) (.seq (.g [oBi 25 .eql 18 1, oM 24 25]) (
 .cond (.t 24) (.g [oM 26 0, oQ 27 (.lit 1 ([[.v (.int .i64 0)], [.v (.int .i64 0)], [.v (.int .i64 0)]] : Rows) [(0, (.i (-1))), (1, (.i 0)), (2, (.i 1000001))]), oQ 28 (.call (.f 49) [.lent, .rd] false [.c kI] [.t 26, .t 27]), oF 29 2 3, oS (.store 1 (.t 29) (.t 28))]) (.seq (.g [oBi 31 .eql 18 2, oM 30 31]) (
 .cond (.t 30) (.g [oM 32 0, oQ 33 (.call (.f 50) [.lent] false [.c .s] [.t 32]), oF 34 1 3, oS (.store 1 (.t 34) (.t 33))]) (.skip))))))))) (
 .seq (.g [oL 35 [kI, .s, kI, .sl 7, .sl 2] 3, oS (.store 5 (.t 2) (.t 35))]) (
 .ret))))))⟩
theorem a17q (T : Table) (k m2 m3 : Nat) (a1 : Option Addr) (n4 n5 : Int): evalF T k a17 [.p [.v (.slice a1 m2 m3), .v (.int .i64 n4), .v (.int .i64 n5)]] = (
 callT T 43 [.p [.v (.slice a1 m2 m3), .v (.int .i64 n4), .v (.int .i64 n5)]] fun o6 =>
 nth o6.back 0 fun i7 =>
 oP i7 fun r8 =>
 tst (Nat.beq r8.length 3) (
 cH r8 0 fun a9 m10 m11 =>
 cI .i64 r8 1 fun n12 =>
 cI .i64 r8 2 fun n13 =>
 oD o6.res fun d14 =>
 dS d14 fun s15 =>
 callT T 44 [.p [.v (.slice a9 m10 m11), .v (.int .i64 n12), .v (.int .i64 n13)], .d (.v (.int .i64 9))] fun o16 =>
 nth o16.back 0 fun i17 =>
 oP i17 fun r18 =>
 tst (Nat.beq r18.length 3) (
 cH r18 0 fun a19 m20 m21 =>
 cI .i64 r18 1 fun n22 =>
 cI .i64 r18 2 fun n23 =>
 oD o16.res fun d24 =>
 dI .i64 d24 fun n25 =>
 callT T 45 [.p [.v (.slice a19 m20 m21), .v (.int .i64 n22), .v (.int .i64 n23)]] fun o26 =>
 nth o26.back 0 fun i27 =>
 oP i27 fun r28 =>
 tst (Nat.beq r28.length 3) (
 cH r28 0 fun a29 m30 m31 =>
 cI .i64 r28 1 fun n32 =>
 cI .i64 r28 2 fun n33 =>
 oD o26.res fun d34 =>
 dL 7 d34 fun l35 =>
 callT T 46 [.p [.v (.slice a29 m30 m31), .v (.int .i64 n32), .v (.int .i64 n33)], .d (.v (.int .i64 2))] fun o36 =>
 nth o36.back 0 fun i37 =>
 oP i37 fun r38 =>
 tst (Nat.beq r38.length 3) (
 cH r38 0 fun a39 m40 m41 =>
 cI .i64 r38 1 fun n42 =>
 cI .i64 r38 2 fun n43 =>
 oD o36.res fun d44 =>
 dB d44 fun b45 =>
 bif b45 then (
 callT T 48 [.p [.v (.slice a39 m40 m41), .v (.int .i64 n42), .v (.int .i64 n43)]] fun o46 =>
 nth o46.back 0 fun i47 =>
 oP i47 fun r48 =>
 tst (Nat.beq r48.length 3) (
 cH r48 0 fun a49 m50 m51 =>
 cI .i64 r48 1 fun n52 =>
 cI .i64 r48 2 fun n53 =>
 oG o46.res fun r54 =>
 tst (Nat.beq r54.length 5) (
 cS r54 0 fun s55 =>
 cI .i64 r54 1 fun n56 =>
 cI .i64 r54 2 fun n57 =>
 cL 7 r54 3 fun l58 =>
 cL 2 r54 4 fun l59 =>
 callT T 47 [.g [.v (.string s55), .v (.int .i64 n56), .v (.int .i64 n57), .s 7 l58, .s 2 l59]] fun o60 =>
 oG o60.res fun r61 =>
 tst (Nat.beq r61.length 5) (
 cI .i64 r61 0 fun n62 =>
 cS r61 1 fun s63 =>
 cI .i64 r61 2 fun n64 =>
 cL 7 r61 3 fun l65 =>
 cL 2 r61 4 fun l66 =>
 callT T 44 [.p [.v (.slice a49 m50 m51), .v (.int .i64 n52), .v (.int .i64 n53)], .d (.v (.int .i64 16))] fun o67 =>
 nth o67.back 0 fun i68 =>
 oP i68 fun r69 =>
 tst (Nat.beq r69.length 3) (
 cH r69 0 fun a70 m71 m72 =>
 cI .i64 r69 1 fun n73 =>
 cI .i64 r69 2 fun n74 =>
 oD o67.res fun d75 =>
 dI .i64 d75 fun n76 =>
 bif (n76 == 0) then (
 callT T 44 [.p [.v (.slice a70 m71 m72), .v (.int .i64 n73), .v (.int .i64 n74)], .d (.v (.int .i64 4))] fun o77 =>
 nth o77.back 0 fun i78 =>
 oP i78 fun r79 =>
 tst (Nat.beq r79.length 3) (
 cH r79 0 fun a80 m81 m82 =>
 cI .i64 r79 1 fun n83 =>
 cI .i64 r79 2 fun n84 =>
 oD o77.res fun d85 =>
 dI .i64 d85 fun n86 =>
 some ⟨.g [.v (.int .i64 n86), .v (.string s63), .v (.int .i64 n64), .s 7 l65, .s 2 l66], [.p [.v (.slice a80 m81 m82), .v (.int .i64 n83), .v (.int .i64 n84)]]⟩)) else (
 bif (n76 == 1) then (
 callT T 49 [.p [.v (.slice a70 m71 m72), .v (.int .i64 n73), .v (.int .i64 n74)], .d (.s 1 ([[.v (.int .i64 (-1))], [.v (.int .i64 0)], [.v (.int .i64 1000001)]] : Rows))] fun o87 =>
 nth o87.back 0 fun i88 =>
 oP i88 fun r89 =>
 tst (Nat.beq r89.length 3) (
 cH r89 0 fun a90 m91 m92 =>
 cI .i64 r89 1 fun n93 =>
 cI .i64 r89 2 fun n94 =>
 oD o87.res fun d95 =>
 dI .i64 d95 fun n96 =>
 some ⟨.g [.v (.int .i64 n62), .v (.string s63), .v (.int .i64 n96), .s 7 l65, .s 2 l66], [.p [.v (.slice a90 m91 m92), .v (.int .i64 n93), .v (.int .i64 n94)]]⟩)) else (
 bif (n76 == 2) then (
 callT T 50 [.p [.v (.slice a70 m71 m72), .v (.int .i64 n73), .v (.int .i64 n74)]] fun o97 =>
 nth o97.back 0 fun i98 =>
 oP i98 fun r99 =>
 tst (Nat.beq r99.length 3) (
 cH r99 0 fun a100 m101 m102 =>
 cI .i64 r99 1 fun n103 =>
 cI .i64 r99 2 fun n104 =>
 oD o97.res fun d105 =>
 dS d105 fun s106 =>
 some ⟨.g [.v (.int .i64 n62), .v (.string s106), .v (.int .i64 n64), .s 7 l65, .s 2 l66], [.p [.v (.slice a100 m101 m102), .v (.int .i64 n103), .v (.int .i64 n104)]]⟩)) else (
 some ⟨.g [.v (.int .i64 n62), .v (.string s63), .v (.int .i64 n64), .s 7 l65, .s 2 l66], [.p [.v (.slice a70 m71 m72), .v (.int .i64 n73), .v (.int .i64 n74)]]⟩)))))))) else (
 callT T 44 [.p [.v (.slice a39 m40 m41), .v (.int .i64 n42), .v (.int .i64 n43)], .d (.v (.int .i64 16))] fun o107 =>
 nth o107.back 0 fun i108 =>
 oP i108 fun r109 =>
 tst (Nat.beq r109.length 3) (
 cH r109 0 fun a110 m111 m112 =>
 cI .i64 r109 1 fun n113 =>
 cI .i64 r109 2 fun n114 =>
 oD o107.res fun d115 =>
 dI .i64 d115 fun n116 =>
 bif (n116 == 0) then (
 callT T 44 [.p [.v (.slice a110 m111 m112), .v (.int .i64 n113), .v (.int .i64 n114)], .d (.v (.int .i64 4))] fun o117 =>
 nth o117.back 0 fun i118 =>
 oP i118 fun r119 =>
 tst (Nat.beq r119.length 3) (
 cH r119 0 fun a120 m121 m122 =>
 cI .i64 r119 1 fun n123 =>
 cI .i64 r119 2 fun n124 =>
 oD o117.res fun d125 =>
 dI .i64 d125 fun n126 =>
 some ⟨.g [.v (.int .i64 n126), .v (.string s15), .v (.int .i64 (IntKind.wrap .i64 (1 + n25))), .s 7 l35, .s 2 []], [.p [.v (.slice a120 m121 m122), .v (.int .i64 n123), .v (.int .i64 n124)]]⟩)) else (
 bif (n116 == 1) then (
 callT T 49 [.p [.v (.slice a110 m111 m112), .v (.int .i64 n113), .v (.int .i64 n114)], .d (.s 1 ([[.v (.int .i64 (-1))], [.v (.int .i64 0)], [.v (.int .i64 1000001)]] : Rows))] fun o127 =>
 nth o127.back 0 fun i128 =>
 oP i128 fun r129 =>
 tst (Nat.beq r129.length 3) (
 cH r129 0 fun a130 m131 m132 =>
 cI .i64 r129 1 fun n133 =>
 cI .i64 r129 2 fun n134 =>
 oD o127.res fun d135 =>
 dI .i64 d135 fun n136 =>
 some ⟨.g [.v (.int .i64 2), .v (.string s15), .v (.int .i64 n136), .s 7 l35, .s 2 []], [.p [.v (.slice a130 m131 m132), .v (.int .i64 n133), .v (.int .i64 n134)]]⟩)) else (
 bif (n116 == 2) then (
 callT T 50 [.p [.v (.slice a110 m111 m112), .v (.int .i64 n113), .v (.int .i64 n114)]] fun o137 =>
 nth o137.back 0 fun i138 =>
 oP i138 fun r139 =>
 tst (Nat.beq r139.length 3) (
 cH r139 0 fun a140 m141 m142 =>
 cI .i64 r139 1 fun n143 =>
 cI .i64 r139 2 fun n144 =>
 oD o137.res fun d145 =>
 dS d145 fun s146 =>
 some ⟨.g [.v (.int .i64 2), .v (.string s146), .v (.int .i64 (IntKind.wrap .i64 (1 + n25))), .s 7 l35, .s 2 []], [.p [.v (.slice a140 m141 m142), .v (.int .i64 n143), .v (.int .i64 n144)]]⟩)) else (
 some ⟨.g [.v (.int .i64 2), .v (.string s15), .v (.int .i64 (IntKind.wrap .i64 (1 + n25))), .s 7 l35, .s 2 []], [.p [.v (.slice a110 m111 m112), .v (.int .i64 n113), .v (.int .i64 n114)]]⟩)))))))))) := by kernel_rfl
/- loop.example/g00119/spec.DrawMsgText -/
def a6 : AFun := ⟨[.rd], false, [.c 2 true [kI, .s, kI, .sl 7, .sl 2]], (
 .seq (.g [oQ 2 (.alloc [.v (.int .i64 0), .v (.string ByteArray.empty), .v (.int .i64 0), .s 7 [], .s 2 []])]) (
 .seq (.g [oM 4 0, oC 5 16 [.p [.h, kI, kI]] [4], oM 3 5]) (
 .seq (.g [oM 6 3, oQ 7 (.call (.f 17) [.lent] false [.g [kI, .s, kI, .sl 7, .sl 2]] [.t 6]), oS (.store 5 (.t 2) (.t 7))]) (
 .ret))))⟩
theorem a6q (T : Table) (k m2 m3 : Nat) (a1 : Option Addr): evalF T k a6 [.d (.v (.slice a1 m2 m3))] = (
 callT T 16 [.d (.v (.slice a1 m2 m3))] fun o4 =>
 oP o4.res fun r5 =>
 tst (Nat.beq r5.length 3 && Nat.blt 0 3) (
 cH r5 0 fun a6 m7 m8 =>
 cI .i64 r5 1 fun n9 =>
 cI .i64 r5 2 fun n10 =>
 callT T 17 [.p [.v (.slice a6 m7 m8), .v (.int .i64 n9), .v (.int .i64 n10)]] fun o11 =>
 nth o11.back 0 fun i12 =>
 oP i12 fun r13 =>
 tst (Nat.beq r13.length 3) (
 cH r13 0 fun a14 m15 m16 =>
 cI .i64 r13 1 fun n17 =>
 cI .i64 r13 2 fun n18 =>
 oG o11.res fun r19 =>
 tst (Nat.beq r19.length 5) (
 cI .i64 r19 0 fun n20 =>
 cS r19 1 fun s21 =>
 cI .i64 r19 2 fun n22 =>
 cL 7 r19 3 fun l23 =>
 cL 2 r19 4 fun l24 =>
 some ⟨.g [.v (.int .i64 n20), .v (.string s21), .v (.int .i64 n22), .s 7 l23, .s 2 l24], []⟩)))) := by kernel_rfl
/- loop.example/g00119/impl.within -/
def a25 : AFun := ⟨[.rd, .rd, .rd], false, [.t 6], (
 .seq (.g [oV 6 false]) (
 .seq (.g [oM 7 0, oM 8 1, oB 9 .geq 7 8, oM 10 9, oJ 11 10 true (.mv (.t 0)), oJ 12 10 true (.mv (.t 2)), oJ 13 10 true (.bin .leq (.t 11) (.t 12)), oQ 14 (.pick (.t 10) (.t 13) (.b false)), oM 6 14]) (
 .ret)))⟩
theorem a25q (T : Table) (k : Nat) (n1 n2 n3 : Int): evalF T k a25 [.d (.v (.int .i64 n1)), .d (.v (.int .i64 n2)), .d (.v (.int .i64 n3))] = (
 bif (decide (n1 ≥ n2)) == true then (
 some ⟨.d (.v (.bool (decide (n1 ≤ n3)))), []⟩) else (
 some ⟨.d (.v (.bool false)), []⟩)) := by kernel_rfl
/- loop.example/g00119/impl.NameOk -/
def b24x0 : ACode := (
 .seq (.g [oB 8 .lss 7 6]) (
 .seq (.cond (.t 8) (.skip) (.exit 0)) (
 .seq (.block 1 (.seq (.g [oM 9 7, oM 3 9]) (
 .seq (.g [oM 10 0, oM 11 3, oQ 12 (.idx (.t 10) (.t 11)), oM 4 12]) (
 .seq (.g [oM 13 4, oQ 14 (.bin .lss (.t 13) (.c (.v (.int .u8 97)))), oM 15 14, oJ 16 15 false (.mv (.t 4)), oJ 17 15 false (.bin .gtr (.t 16) (.c (.v (.int .u8 122)))), oQ 18 (.pick (.t 15) (.b true) (.t 17)), oM 19 18, oJ 20 19 true (.mv (.t 4)), oJ 21 19 true (.bin .lss (.t 20) (.c (.v (.int .u8 48)))), oJ 22 19 true (.mv (.t 21)), oJ 23 22 false (.mv (.t 4)), oJ 24 22 false (.bin .gtr (.t 23) (.c (.v (.int .u8 57)))), oJ 25 19 true (.pick (.t 22) (.b true) (.t 24)), oQ 26 (.pick (.t 19) (.t 25) (.b false)), oM 27 26, oJ 28 27 true (.mv (.t 4)), oJ 29 27 true (.bin .neq (.t 28) (.c (.v (.int .u8 45)))), oQ 30 (.pick (.t 27) (.t 29) (.b false))]) (
 .cond (.t 30) (.seq (.g [oV 2 false]) (
 .ret)) (.skip)))))) (
 .g [oBi 31 .add 7 1, oM 7 31]))))
def e24x0 : Exits := [(.ret, [(2, .c .b)]), ((.exit 0), [(0, .c .s)])]
noncomputable def l24x0 (T : Table) (k : Nat) := loopN (evalC ⟨T, [], []⟩ k b24x0 (Ex × List AV)) [0, 6, 7] e24x0
def a24 : AFun := ⟨[.rd], false, [.t 2], (
 .seq (.g [oV 2 false]) (
 .seq (.seq (.g [oM 5 0, oQ 6 (.len true (.t 5)), oK 7 0]) (
 .block 0 (.loop [0, 6, 7] e24x0 b24x0))) (
 .seq (.g [oM 32 0, oQ 33 (.len true (.t 32)), oQ 34 (.call (.f 25) [.rd, .rd, .rd] false [.c .b] [.t 33, .i 1, .i 20]), oM 35 34, oJ 36 35 true (.mv (.t 0)), oJ 37 35 true (.idx (.t 36) (.i 0)), oJ 38 35 true (.bin .neq (.t 37) (.c (.v (.int .u8 45)))), oQ 39 (.pick (.t 35) (.t 38) (.b false)), oM 40 39, oJ 41 40 true (.mv (.t 0)), oJ 42 40 true (.mv (.t 0)), oJ 43 40 true (.len true (.t 42)), oJ 44 40 true (.bin .sub (.t 43) (.i 1)), oJ 45 40 true (.idx (.t 41) (.t 44)), oJ 46 40 true (.bin .neq (.t 45) (.c (.v (.int .u8 45)))), oQ 47 (.pick (.t 40) (.t 46) (.b false)), oM 2 47]) (
 .ret))))⟩
theorem l24x0s (T : Table) (k n : Nat) (s2 : ByteArray) (n3 n4 : Int): l24x0 T k (n + 1) [.v (.string s2), .v (.int .i64 n3), .v (.int .i64 n4)] = (
 bif (decide (n4 < n3)) then (
 tst (decide (0 ≤ n4)) (
 byteAt s2 (Int.toNat n4) fun c5 =>
 bif (decide ((c5.toNat : Int) < 97)) == false then (
 bif (decide ((c5.toNat : Int) > 122)) == true then (
 bif (decide ((c5.toNat : Int) < 48)) == false then (
 bif (decide ((c5.toNat : Int) > 57)) == true then (
 bif ((c5.toNat : Int) != 45) then (
 some (.ret, [.v (.bool false)])) else (
 l24x0 T k n [.v (.string s2), .v (.int .i64 n3), .v (.int .i64 (IntKind.wrap .i64 (n4 + 1)))])) else (
 l24x0 T k n [.v (.string s2), .v (.int .i64 n3), .v (.int .i64 (IntKind.wrap .i64 (n4 + 1)))])) else (
 bif ((c5.toNat : Int) != 45) then (
 some (.ret, [.v (.bool false)])) else (
 l24x0 T k n [.v (.string s2), .v (.int .i64 n3), .v (.int .i64 (IntKind.wrap .i64 (n4 + 1)))]))) else (
 l24x0 T k n [.v (.string s2), .v (.int .i64 n3), .v (.int .i64 (IntKind.wrap .i64 (n4 + 1)))])) else (
 bif (decide ((c5.toNat : Int) < 48)) == false then (
 bif (decide ((c5.toNat : Int) > 57)) == true then (
 bif ((c5.toNat : Int) != 45) then (
 some (.ret, [.v (.bool false)])) else (
 l24x0 T k n [.v (.string s2), .v (.int .i64 n3), .v (.int .i64 (IntKind.wrap .i64 (n4 + 1)))])) else (
 l24x0 T k n [.v (.string s2), .v (.int .i64 n3), .v (.int .i64 (IntKind.wrap .i64 (n4 + 1)))])) else (
 bif ((c5.toNat : Int) != 45) then (
 some (.ret, [.v (.bool false)])) else (
 l24x0 T k n [.v (.string s2), .v (.int .i64 n3), .v (.int .i64 (IntKind.wrap .i64 (n4 + 1)))]))))) else (
 some ((.exit 0), [.v (.string s2)]))) := by kernel_rfl
theorem a24q (T : Table) (k : Nat) (s1 : ByteArray): evalF T k a24 [.d (.v (.string s1))] = (
 aft (l24x0 T k k [.v (.string s1), .v (.int .i64 (s1.size : Int)), .v (.int .i64 0)]) fun e6 ys7 =>
 bif e6.same .ret then (
 aV ys7 0 fun x8 =>
 aB x8 fun b9 =>
 some ⟨.d (.v (.bool b9)), []⟩) else (
 bif e6.same (.exit 0) then (
 aV ys7 0 fun x10 =>
 aS x10 fun s11 =>
 callT T 25 [.d (.v (.int .i64 (s11.size : Int))), .d (.v (.int .i64 1)), .d (.v (.int .i64 20))] fun o12 =>
 oD o12.res fun d13 =>
 dB d13 fun b14 =>
 bif b14 == true then (
 tst (decide (0 ≤ 0)) (
 byteAt s11 (Int.toNat 0) fun c15 =>
 bif ((c15.toNat : Int) != 45) == true then (
 tst (decide (0 ≤ (IntKind.wrap .i64 ((s11.size : Int) - 1)))) (
 byteAt s11 (Int.toNat (IntKind.wrap .i64 ((s11.size : Int) - 1))) fun c16 =>
 some ⟨.d (.v (.bool ((c16.toNat : Int) != 45))), []⟩)) else (
 some ⟨.d (.v (.bool false)), []⟩))) else (
 some ⟨.d (.v (.bool false)), []⟩)) else (
 none))) := by kernel_rfl
/- loop.example/g00119/impl.isCopies -/
def a54 : AFun := ⟨[.rd], false, [.t 2], (
 .seq (.g [oV 2 false]) (
 .seq (.g [oM 3 0, oQ 4 (.call (.f 25) [.rd, .rd, .rd] false [.c .b] [.t 3, .i 0, .i 10000]), oM 2 4]) (
 .ret)))⟩
theorem a54q (T : Table) (k : Nat) (n1 : Int): evalF T k a54 [.d (.v (.int .i64 n1))] = (
 callT T 25 [.d (.v (.int .i64 n1)), .d (.v (.int .i64 0)), .d (.v (.int .i64 10000))] fun o2 =>
 oD o2.res fun d3 =>
 dB d3 fun b4 =>
 some ⟨.d (.v (.bool b4)), []⟩) := by kernel_rfl
/- loop.example/g00119/impl.runsOk -/
def b26x0 : ACode := (
 .seq (.g [oB 8 .lss 7 6]) (
 .seq (.cond (.t 8) (.skip) (.exit 0)) (
 .seq (.block 1 (.seq (.g [oM 9 7, oI 10 2 5 7, oL 11 [kI, kI] 10, oQ 4 (.alloc [.v (.int .i64 0), .v (.int .i64 0)]), oM 3 9, oS (.store 2 (.t 4) (.t 11))]) (
 .seq (.dreg [] [(0, oF 12 0 4), (0, oW 13 kI 12), (1, oQ 14 (.call (.f 25) [.rd, .rd, .rd] false [.c .b] [.t 13, .i 1, .i 1000000])), (0, oN 15 14), (0, oM 16 15), (0, oJ 17 16 false (.fad 1 (.t 4))), (0, oJ 18 16 false (.load false [kI] (.t 17))), (1, oJ 19 16 false (.call (.f 54) [.rd] false [.c .b] [.t 18])), (0, oJ 20 16 false (.un .not (.t 19))), (0, oQ 21 (.pick (.t 16) (.b true) (.t 20))), (0, oM 22 21), (0, oJ 23 22 false (.mv (.t 3))), (0, oJ 24 22 false (.bin .gtr (.t 23) (.i 0))), (0, oJ 25 22 false (.mv (.t 24))), (0, oJ 26 25 true (.mv (.t 0))), (0, oJ 27 25 true (.mv (.t 3))), (0, oJ 28 25 true (.bin .sub (.t 27) (.i 1))), (0, oJ 29 25 true (.iad 2 (.t 26) (.t 28))), (0, oJ 30 25 true (.fad 0 (.t 29))), (0, oJ 31 25 true (.load false [kI] (.t 30))), (0, oJ 32 25 true (.fad 0 (.t 4))), (0, oJ 33 25 true (.load false [kI] (.t 32)))] [oJ 34 25 true (.bin .geq (.t 31) (.t 33)), oJ 35 22 false (.pick (.t 25) (.t 34) (.b false)), oQ 36 (.pick (.t 22) (.b true) (.t 35))]) (
 .cond (.t 36) (.seq (.g [oV 2 false]) (
 .ret)) (.skip))))) (
 .g [oBi 37 .add 7 1, oM 7 37]))))
def e26x0 : Exits := [(.ret, [(2, .c .b)]), ((.exit 0), [(0, .c (.sl 2))])]
noncomputable def l26x0 (T : Table) (k : Nat) := loopN (evalC ⟨T, [], []⟩ k b26x0 (Ex × List AV)) [0, 5, 6, 7] e26x0
def a26 : AFun := ⟨[.rd], false, [.t 2], (
 .seq (.g [oV 2 false]) (
 .seq (.seq (.g [oM 5 0, oZ 6 5, oK 7 0]) (
 .block 0 (.loop [0, 5, 6, 7] e26x0 b26x0))) (
 .seq (.g [oM 38 0, oZ 39 38, oBi 40 .leq 39 80, oM 2 40]) (
 .ret))))⟩
theorem l26x0s (T : Table) (k n : Nat) (l2 l3 : Rows) (n4 n5 : Int): l26x0 T k (n + 1) [.fz 2 l2, .fz 2 l3, .v (.int .i64 n4), .v (.int .i64 n5)] = (
 bif (decide (n5 < n4)) then (
 tst (decide (0 ≤ n5)) (
 look l3 (Int.toNat n5) fun r6 =>
 cI .i64 r6 0 fun n7 =>
 cI .i64 r6 1 fun n8 =>
 callT T 25 [.d (.v (.int .i64 n7)), .d (.v (.int .i64 1)), .d (.v (.int .i64 1000000))] fun o9 =>
 oD o9.res fun d10 =>
 dB d10 fun b11 =>
 bif (!b11) == false then (
 callT T 54 [.d (.v (.int .i64 n8))] fun o12 =>
 oD o12.res fun d13 =>
 dB d13 fun b14 =>
 bif (!b14) == false then (
 bif (decide (n5 > 0)) == true then (
 tst (decide (0 ≤ (IntKind.wrap .i64 (n5 - 1)))) (
 look l2 (Int.toNat (IntKind.wrap .i64 (n5 - 1))) fun r15 =>
 cI .i64 r15 0 fun n16 =>
 bif (decide (n16 ≥ n7)) then (
 some (.ret, [.v (.bool false)])) else (
 l26x0 T k n [.fz 2 l2, .fz 2 l3, .v (.int .i64 n4), .v (.int .i64 (IntKind.wrap .i64 (n5 + 1)))]))) else (
 l26x0 T k n [.fz 2 l2, .fz 2 l3, .v (.int .i64 n4), .v (.int .i64 (IntKind.wrap .i64 (n5 + 1)))])) else (
 some (.ret, [.v (.bool false)]))) else (
 some (.ret, [.v (.bool false)])))) else (
 some ((.exit 0), [.fz 2 l2]))) := by kernel_rfl
theorem a26q (T : Table) (k : Nat) (l1 : Rows): evalF T k a26 [.d (.s 2 l1)] = (
 aft (l26x0 T k k [.fz 2 l1, .fz 2 l1, .v (.int .i64 (l1.length : Int)), .v (.int .i64 0)]) fun e17 ys18 =>
 bif e17.same .ret then (
 aV ys18 0 fun x19 =>
 aB x19 fun b20 =>
 some ⟨.d (.v (.bool b20)), []⟩) else (
 bif e17.same (.exit 0) then (
 aV ys18 0 fun x21 =>
 aL 2 x21 fun l22 =>
 some ⟨.d (.v (.bool (decide ((l22.length : Int) ≤ 80)))), []⟩) else (
 none))) := by kernel_rfl
/- loop.example/g00119/impl.namesOk -/
def b132x0 : ACode := (
 .seq (.g [oB 10 .lss 9 8]) (
 .seq (.cond (.t 10) (.skip) (.exit 0)) (
 .seq (.block 1 (.seq (.g [oM 11 9, oI 12 1 7 9, oW 13 .s 12, oM 5 11, oM 6 13]) (
 .seq (.g [oM 14 6, oC 15 24 [.c .b] [14], oN 16 15, oM 17 16, oJ 18 17 false (.mv (.t 5)), oJ 19 17 false (.bin .gtr (.t 18) (.i 0)), oJ 20 17 false (.mv (.t 19)), oJ 21 20 true (.mv (.t 0)), oJ 22 20 true (.mv (.t 5)), oJ 23 20 true (.bin .sub (.t 22) (.i 1)), oJ 24 20 true (.iad 1 (.t 21) (.t 23)), oJ 25 20 true (.load false [.s] (.t 24)), oJ 26 20 true (.mv (.t 6)), oJ 27 20 true (.bin .geq (.t 25) (.t 26)), oJ 28 17 false (.pick (.t 20) (.t 27) (.b false)), oQ 29 (.pick (.t 17) (.b true) (.t 28))]) (
 .cond (.t 29) (.seq (.g [oV 4 false]) (
 .ret)) (.skip))))) (
 .g [oBi 30 .add 9 1, oM 9 30]))))
def e132x0 : Exits := [(.ret, [(4, .c .b)]), ((.exit 0), [(0, .c (.sl 1)), (1, .c kI)])]
noncomputable def l132x0 (T : Table) (k : Nat) := loopN (evalC ⟨T, [], []⟩ k b132x0 (Ex × List AV)) [0, 1, 7, 8, 9] e132x0
def a132 : AFun := ⟨[.rd, .rd], false, [.t 4], (
 .seq (.g [oV 4 false]) (
 .seq (.seq (.g [oM 7 0, oZ 8 7, oK 9 0]) (
 .block 0 (.loop [0, 1, 7, 8, 9] e132x0 b132x0))) (
 .seq (.g [oM 31 0, oZ 32 31, oM 33 1, oB 34 .leq 32 33, oM 4 34]) (
 .ret))))⟩
theorem l132x0s (T : Table) (k n : Nat) (l3 l5 : Rows) (n4 n6 n7 : Int): l132x0 T k (n + 1) [.fz 1 l3, .v (.int .i64 n4), .fz 1 l5, .v (.int .i64 n6), .v (.int .i64 n7)] = (
 bif (decide (n7 < n6)) then (
 tst (decide (0 ≤ n7)) (
 look l5 (Int.toNat n7) fun r8 =>
 cS r8 0 fun s9 =>
 callT T 24 [.d (.v (.string s9))] fun o10 =>
 oD o10.res fun d11 =>
 dB d11 fun b12 =>
 bif (!b12) == false then (
 bif (decide (n7 > 0)) == true then (
 tst (decide (0 ≤ (IntKind.wrap .i64 (n7 - 1)))) (
 look l3 (Int.toNat (IntKind.wrap .i64 (n7 - 1))) fun r13 =>
 cS r13 0 fun s14 =>
 bif (!(bytesLess s14 s9)) then (
 some (.ret, [.v (.bool false)])) else (
 l132x0 T k n [.fz 1 l3, .v (.int .i64 n4), .fz 1 l5, .v (.int .i64 n6), .v (.int .i64 (IntKind.wrap .i64 (n7 + 1)))]))) else (
 l132x0 T k n [.fz 1 l3, .v (.int .i64 n4), .fz 1 l5, .v (.int .i64 n6), .v (.int .i64 (IntKind.wrap .i64 (n7 + 1)))])) else (
 some (.ret, [.v (.bool false)])))) else (
 some ((.exit 0), [.fz 1 l3, .v (.int .i64 n4)]))) := by kernel_rfl
theorem a132q (T : Table) (k : Nat) (l1 : Rows) (n2 : Int): evalF T k a132 [.d (.s 1 l1), .d (.v (.int .i64 n2))] = (
 aft (l132x0 T k k [.fz 1 l1, .v (.int .i64 n2), .fz 1 l1, .v (.int .i64 (l1.length : Int)), .v (.int .i64 0)]) fun e15 ys16 =>
 bif e15.same .ret then (
 aV ys16 0 fun x17 =>
 aB x17 fun b18 =>
 some ⟨.d (.v (.bool b18)), []⟩) else (
 bif e15.same (.exit 0) then (
 aV ys16 0 fun x19 =>
 aL 1 x19 fun l20 =>
 aV ys16 1 fun x21 =>
 aI .i64 x21 fun n22 =>
 some ⟨.d (.v (.bool (decide ((l20.length : Int) ≤ n22)))), []⟩) else (
 none))) := by kernel_rfl
-- a133 "strings.Replace": kind of type 130 TypeDesc.pointer
-- a134 "(*strings.Builder).copyCheck": kind of type 130 TypeDesc.pointer
-- a135 "(*strings.Builder).grow": builtin cap
-- a136 "unicode/utf8.decodeRuneInStringSlow": indexAddr of an array
-- a137 "internal/bytealg.IndexByteString": IndexError('list index out of range')
/- loop.example/g00119/impl.shapeOk -/
def b107x0 : ACode := (
 .seq (.g [oB 30 .lss 29 28]) (
 .seq (.cond (.t 30) (.skip) (.exit 1)) (
 .seq (.block 2 (.seq (.g [oM 31 29, oM 7 31]) (
 .seq (.g [oF 32 1 1, oW 33 .s 32, oM 34 7, oQ 35 (.idx (.t 33) (.t 34)), oQ 36 (.conv (.int .i64) (.t 35)), oQ 37 (.call (.f 25) [.rd, .rd, .rd] false [.c .b] [.t 36, .i 32, .i 126]), oN 38 37]) (
 .cond (.t 38) (.seq (.g [oV 2 false]) (
 .ret)) (.skip))))) (
 .g [oBi 39 .add 29 1, oM 29 39]))))
def e107x0 : Exits := [(.ret, [(2, .c .b)]), ((.exit 1), [(1, .b [.c kI, .c .s, .c kI, .c (.sl 1), .c (.sl 5)]), (4, .c .b), (5, .c .b), (6, .c .b)])]
noncomputable def l107x0 (T : Table) (k : Nat) := loopN (evalC ⟨T, [], []⟩ k b107x0 (Ex × List AV)) [1, 4, 5, 6, 28, 29] e107x0
def a107 : AFun := ⟨[.rd], false, [.t 2], (
 .seq (.g [oQ 1 (.box (.t 0)), oV 2 false]) (
 .seq (.dreg [] [(0, oF 8 1 1), (0, oW 9 .s 8), (0, oQ 10 (.bin .eql (.t 9) (.c (.v (.string ({ data := #[] } : ByteArray)))))), (0, oF 11 2 1), (0, oW 12 kI 11), (0, oBi 13 .eql 12 0), (0, oF 14 3 1), (0, oW 15 (.sl 1) 14), (0, oZ 16 15), (0, oBi 17 .eql 16 0), (0, oF 18 4 1), (0, oW 19 (.sl 5) 18), (0, oZ 20 19), (0, oBi 21 .eql 20 0), (0, oM 3 10), (0, oM 4 13), (0, oM 5 17)] [oM 6 21]) (
 .seq (.seq (.g [oF 22 0 1, oW 23 kI 22]) (
 .block 0 (.seq (.g [oBi 25 .eql 23 1, oM 24 25]) (
 .cond (.t 24) (.seq (.seq (.g [oF 26 1 1, oW 27 .s 26, oQ 28 (.len true (.t 27)), oK 29 0]) (
 .block 1 (.loop [1, 4, 5, 6, 28, 29] e107x0 b107x0))) (
 .g [oF 40 1 1, oW 41 .s 40, oQ 42 (.len true (.t 41)), oBi 43 .leq 42 100, oM 3 43])) (.seq (.g [oBi 45 .eql 23 2, oM 44 45]) (
 .cond (.t 44) (.g [oV 4 true]) (.seq (.g [oBi 47 .eql 23 3, oM 46 47]) (
 .cond (.t 46) (.g [oF 48 2 1, oW 49 kI 48, oQ 50 (.call (.f 25) [.rd, .rd, .rd] false [.c .b] [.t 49, .i 0, .i 1]), oM 4 50]) (.seq (.g [oBi 52 .eql 23 4, oM 51 52]) (
 .cond (.t 51) (.g [oV 6 true]) (.seq (.g [oBi 54 .eql 23 5, oM 53 54]) (
 .cond (.t 53) (.seq (.g [oF 55 3 1, oW 56 (.sl 1) 55, oQ 57 (.call (.f 132) [.rd, .rd] false [.c .b] [.t 56, .i 300]), oM 58 57, oJ 59 58 true (.fad 3 (.t 1)), oJ 60 58 true (.load false [.sl 1] (.t 59)), oJ 61 58 true (.len false (.t 60)), oJ 62 58 true (.fad 4 (.t 1)), oJ 63 58 true (.load false [.sl 5] (.t 62)), oJ 64 58 true (.len false (.t 63)), oJ 65 58 true (.bin .eql (.t 61) (.t 64)), oQ 66 (.pick (.t 58) (.t 65) (.b false)), oM 5 66]) (
 .g [oV 6 true])) (.seq (.g [oV 2 false]) (
 .ret)))))))))))))) (
 .seq (.g [oM 67 3, oM 68 67, oJ 69 68 true (.mv (.t 4)), oQ 70 (.pick (.t 68) (.t 69) (.b false)), oM 71 70, oJ 72 71 true (.mv (.t 5)), oQ 73 (.pick (.t 71) (.t 72) (.b false)), oM 74 73, oJ 75 74 true (.mv (.t 6)), oQ 76 (.pick (.t 74) (.t 75) (.b false)), oM 2 76]) (
 .ret)))))⟩
theorem l107x0s (T : Table) (k n : Nat) (n6 n8 n14 n15 : Int) (s7 : ByteArray) (l9 l10 : Rows) (b11 b12 b13 : Bool): l107x0 T k (n + 1) [.b [.v (.int .i64 n6), .v (.string s7), .v (.int .i64 n8), .fz 1 l9, .fz 5 l10], .v (.bool b11), .v (.bool b12), .v (.bool b13), .v (.int .i64 n14), .v (.int .i64 n15)] = (
 bif (decide (n15 < n14)) then (
 tst (decide (0 ≤ n15)) (
 byteAt s7 (Int.toNat n15) fun c16 =>
 callT T 25 [.d (.v (.int .i64 (IntKind.wrap .i64 (c16.toNat : Int)))), .d (.v (.int .i64 32)), .d (.v (.int .i64 126))] fun o17 =>
 oD o17.res fun d18 =>
 dB d18 fun b19 =>
 bif (!b19) then (
 some (.ret, [.v (.bool false)])) else (
 l107x0 T k n [.b [.v (.int .i64 n6), .v (.string s7), .v (.int .i64 n8), .fz 1 l9, .fz 5 l10], .v (.bool b11), .v (.bool b12), .v (.bool b13), .v (.int .i64 n14), .v (.int .i64 (IntKind.wrap .i64 (n15 + 1)))]))) else (
 some ((.exit 1), [.b [.v (.int .i64 n6), .v (.string s7), .v (.int .i64 n8), .fz 1 l9, .fz 5 l10], .v (.bool b11), .v (.bool b12), .v (.bool b13)]))) := by kernel_rfl
theorem a107q (T : Table) (k : Nat) (n1 n3 : Int) (s2 : ByteArray) (l4 l5 : Rows): evalF T k a107 [.g [.v (.int .i64 n1), .v (.string s2), .v (.int .i64 n3), .s 1 l4, .s 5 l5]] = (
 bif (n1 == 1) then (
 aft (l107x0 T k k [.b [.v (.int .i64 n1), .v (.string s2), .v (.int .i64 n3), .fz 1 l4, .fz 5 l5], .v (.bool (n3 == 0)), .v (.bool ((l4.length : Int) == 0)), .v (.bool ((l5.length : Int) == 0)), .v (.int .i64 (s2.size : Int)), .v (.int .i64 0)]) fun e20 ys21 =>
 bif e20.same .ret then (
 aV ys21 0 fun x22 =>
 aB x22 fun b23 =>
 some ⟨.d (.v (.bool b23)), []⟩) else (
 bif e20.same (.exit 1) then (
 aV ys21 0 fun x24 =>
 aX x24 fun xs25 =>
 aV xs25 0 fun x26 =>
 aI .i64 x26 fun n27 =>
 aV xs25 1 fun x28 =>
 aS x28 fun s29 =>
 aV xs25 2 fun x30 =>
 aI .i64 x30 fun n31 =>
 aV xs25 3 fun x32 =>
 aL 1 x32 fun l33 =>
 aV xs25 4 fun x34 =>
 aL 5 x34 fun l35 =>
 aV ys21 1 fun x36 =>
 aB x36 fun b37 =>
 aV ys21 2 fun x38 =>
 aB x38 fun b39 =>
 aV ys21 3 fun x40 =>
 aB x40 fun b41 =>
 bif (decide ((s29.size : Int) ≤ 100)) == true then (
 bif b37 == true then (
 bif b39 == true then (
 some ⟨.d (.v (.bool b41)), []⟩) else (
 some ⟨.d (.v (.bool false)), []⟩)) else (
 some ⟨.d (.v (.bool false)), []⟩)) else (
 some ⟨.d (.v (.bool false)), []⟩)) else (
 none))) else (
 bif (n1 == 2) then (
 bif (bytesEq s2 ({ data := #[] } : ByteArray)) == true then (
 bif ((l4.length : Int) == 0) == true then (
 some ⟨.d (.v (.bool ((l5.length : Int) == 0))), []⟩) else (
 some ⟨.d (.v (.bool false)), []⟩)) else (
 some ⟨.d (.v (.bool false)), []⟩)) else (
 bif (n1 == 3) then (
 callT T 25 [.d (.v (.int .i64 n3)), .d (.v (.int .i64 0)), .d (.v (.int .i64 1))] fun o42 =>
 oD o42.res fun d43 =>
 dB d43 fun b44 =>
 bif (bytesEq s2 ({ data := #[] } : ByteArray)) == true then (
 bif b44 == true then (
 bif ((l4.length : Int) == 0) == true then (
 some ⟨.d (.v (.bool ((l5.length : Int) == 0))), []⟩) else (
 some ⟨.d (.v (.bool false)), []⟩)) else (
 some ⟨.d (.v (.bool false)), []⟩)) else (
 some ⟨.d (.v (.bool false)), []⟩)) else (
 bif (n1 == 4) then (
 bif (bytesEq s2 ({ data := #[] } : ByteArray)) == true then (
 bif (n3 == 0) == true then (
 bif ((l4.length : Int) == 0) == true then (
 some ⟨.d (.v (.bool true)), []⟩) else (
 some ⟨.d (.v (.bool false)), []⟩)) else (
 some ⟨.d (.v (.bool false)), []⟩)) else (
 some ⟨.d (.v (.bool false)), []⟩)) else (
 bif (n1 == 5) then (
 callT T 132 [.d (.s 1 l4), .d (.v (.int .i64 300))] fun o45 =>
 oD o45.res fun d46 =>
 dB d46 fun b47 =>
 bif b47 == true then (
 bif (bytesEq s2 ({ data := #[] } : ByteArray)) == true then (
 bif (n3 == 0) == true then (
 bif ((l4.length : Int) == (l5.length : Int)) == true then (
 some ⟨.d (.v (.bool true)), []⟩) else (
 some ⟨.d (.v (.bool false)), []⟩)) else (
 some ⟨.d (.v (.bool false)), []⟩)) else (
 some ⟨.d (.v (.bool false)), []⟩)) else (
 bif (bytesEq s2 ({ data := #[] } : ByteArray)) == true then (
 bif (n3 == 0) == true then (
 some ⟨.d (.v (.bool false)), []⟩) else (
 some ⟨.d (.v (.bool false)), []⟩)) else (
 some ⟨.d (.v (.bool false)), []⟩))) else (
 some ⟨.d (.v (.bool false)), []⟩)))))) := by kernel_rfl
/- loop.example/g00119/impl.measured -/
def b79x0 : ACode := (
 .seq (.g [oB 19 .lss 18 17]) (
 .seq (.cond (.t 19) (.skip) (.exit 0)) (
 .seq (.block 1 (.seq (.g [oI 20 5 16 18, oL 21 [kI, .s, kI, .sl 1, .sl 5] 20, oQ 7 (.alloc [.v (.int .i64 0), .v (.string ByteArray.empty), .v (.int .i64 0), .s 1 [], .s 5 []]), oS (.store 5 (.t 7) (.t 21))]) (
 .seq (.g [oM 22 5, oL 23 [kI, .s, kI, .sl 1, .sl 5] 7, oM 24 1, oBi 25 .sub 24 1, oC 26 79 [.c kI] [23, 25], oB 27 .add 22 26, oM 5 27]) (
 .seq (.g [oM 28 5, oBi 29 .gtr 28 300]) (
 .cond (.t 29) (.seq (.g [oK 4 301]) (
 .ret)) (.skip)))))) (
 .g [oBi 30 .add 18 1, oM 18 30]))))
def e79x0 : Exits := [(.ret, [(4, .c kI)]), ((.exit 0), [(5, .c kI)])]
noncomputable def l79x0 (T : Table) (k : Nat) := loopN (evalC ⟨T, [], []⟩ k b79x0 (Ex × List AV)) [1, 5, 16, 17, 18] e79x0
def a79 : AFun := ⟨[.rd, .rd], false, [.t 4], (
 .seq (.g [oQ 2 (.box (.t 0)), oK 4 0]) (
 .seq (.seq (.g [oM 8 1, oBi 9 .eql 8 0, oM 10 9, oJ 11 10 false (.load true [kI, .s, kI, .sl 1, .sl 5] (.t 2)), oJ 12 10 false (.call (.f 107) [.rd] false [.c .b] [.t 11]), oJ 13 10 false (.un .not (.t 12)), oQ 14 (.pick (.t 10) (.b true) (.t 13))]) (
 .cond (.t 14) (.seq (.g [oK 4 301]) (
 .ret)) (.skip))) (
 .seq (.g [oK 5 1]) (
 .seq (.seq (.g [oF 15 4 2, oW 16 (.sl 5) 15, oZ 17 16, oK 18 0]) (
 .block 0 (.loop [1, 5, 16, 17, 18] e79x0 b79x0))) (
 .seq (.g [oM 31 5, oM 4 31]) (
 .ret))))))⟩
theorem l79x0s (T : Table) (k n : Nat) (n10 n11 n13 n14 : Int) (l12 : Rows): l79x0 T k (n + 1) [.v (.int .i64 n10), .v (.int .i64 n11), .fz 5 l12, .v (.int .i64 n13), .v (.int .i64 n14)] = (
 bif (decide (n14 < n13)) then (
 tst (decide (0 ≤ n14)) (
 look l12 (Int.toNat n14) fun r15 =>
 cI .i64 r15 0 fun n16 =>
 cS r15 1 fun s17 =>
 cI .i64 r15 2 fun n18 =>
 cL 1 r15 3 fun l19 =>
 cL 5 r15 4 fun l20 =>
 callT T 79 [.g [.v (.int .i64 n16), .v (.string s17), .v (.int .i64 n18), .s 1 l19, .s 5 l20], .d (.v (.int .i64 (IntKind.wrap .i64 (n10 - 1))))] fun o21 =>
 oD o21.res fun d22 =>
 dI .i64 d22 fun n23 =>
 bif (decide ((IntKind.wrap .i64 (n11 + n23)) > 300)) then (
 some (.ret, [.v (.int .i64 301)])) else (
 l79x0 T k n [.v (.int .i64 n10), .v (.int .i64 (IntKind.wrap .i64 (n11 + n23))), .fz 5 l12, .v (.int .i64 n13), .v (.int .i64 (IntKind.wrap .i64 (n14 + 1)))]))) else (
 some ((.exit 0), [.v (.int .i64 n11)]))) := by kernel_rfl
theorem a79q (T : Table) (k : Nat) (n1 n3 n6 : Int) (s2 : ByteArray) (l4 l5 : Rows): evalF T k a79 [.g [.v (.int .i64 n1), .v (.string s2), .v (.int .i64 n3), .s 1 l4, .s 5 l5], .d (.v (.int .i64 n6))] = (
 bif (n6 == 0) == false then (
 callT T 107 [.g [.v (.int .i64 n1), .v (.string s2), .v (.int .i64 n3), .s 1 l4, .s 5 l5]] fun o7 =>
 oD o7.res fun d8 =>
 dB d8 fun b9 =>
 bif (!b9) then (
 some ⟨.d (.v (.int .i64 301)), []⟩) else (
 aft (l79x0 T k k [.v (.int .i64 n6), .v (.int .i64 1), .fz 5 l5, .v (.int .i64 (l5.length : Int)), .v (.int .i64 0)]) fun e24 ys25 =>
 bif e24.same .ret then (
 aV ys25 0 fun x26 =>
 aI .i64 x26 fun n27 =>
 some ⟨.d (.v (.int .i64 n27)), []⟩) else (
 bif e24.same (.exit 0) then (
 aV ys25 0 fun x28 =>
 aI .i64 x28 fun n29 =>
 some ⟨.d (.v (.int .i64 n29)), []⟩) else (
 none)))) else (
 some ⟨.d (.v (.int .i64 301)), []⟩)) := by kernel_rfl
/- loop.example/g00119/impl.ValueOk -/
def a51 : AFun := ⟨[.rd], false, [.t 2], (
 .seq (.g [oQ 1 (.box (.t 0)), oV 2 false]) (
 .seq (.g [oL 3 [kI, .s, kI, .sl 1, .sl 5] 1, oQ 4 (.call (.f 79) [.rd, .rd] false [.c kI] [.t 3, .i 6]), oBi 5 .leq 4 300, oM 2 5]) (
 .ret)))⟩
theorem a51q (T : Table) (k : Nat) (n1 n3 : Int) (s2 : ByteArray) (l4 l5 : Rows): evalF T k a51 [.g [.v (.int .i64 n1), .v (.string s2), .v (.int .i64 n3), .s 1 l4, .s 5 l5]] = (
 callT T 79 [.g [.v (.int .i64 n1), .v (.string s2), .v (.int .i64 n3), .s 1 l4, .s 5 l5], .d (.v (.int .i64 6))] fun o6 =>
 oD o6.res fun d7 =>
 dI .i64 d7 fun n8 =>
 some ⟨.d (.v (.bool (decide (n8 ≤ 300)))), []⟩) := by kernel_rfl
/- loop.example/g00119/impl.WorksOk -/
def b27x0 : ACode := (
 .seq (.g [oB 8 .lss 7 6]) (
 .seq (.cond (.t 8) (.skip) (.exit 0)) (
 .seq (.block 1 (.seq (.g [oM 9 7, oI 10 7 5 7, oL 11 [kI, kI, kI, .s, kI, .sl 1, .sl 5] 10, oQ 4 (.alloc [.v (.int .i64 0), .v (.int .i64 0), .v (.int .i64 0), .v (.string ByteArray.empty), .v (.int .i64 0), .s 1 [], .s 5 []]), oM 3 9, oS (.store 7 (.t 4) (.t 11))]) (
 .seq (.dreg [] [(0, oF 12 0 4), (0, oW 13 kI 12), (1, oQ 14 (.call (.f 25) [.rd, .rd, .rd] false [.c .b] [.t 13, .i 1, .i 1000000])), (0, oN 15 14), (0, oM 16 15), (0, oJ 17 16 false (.fad 1 (.t 4))), (0, oJ 18 16 false (.load false [kI] (.t 17))), (1, oJ 19 16 false (.call (.f 25) [.rd, .rd, .rd] false [.c .b] [.t 18, .i 1, .i 10000])), (0, oJ 20 16 false (.un .not (.t 19))), (0, oQ 21 (.pick (.t 16) (.b true) (.t 20))), (0, oM 22 21), (0, oJ 23 22 false (.fad 2 (.t 4))), (0, oJ 24 22 false (.load true [kI, .s, kI, .sl 1, .sl 5] (.t 23))), (1, oJ 25 22 false (.call (.f 51) [.rd] false [.c .b] [.t 24])), (0, oJ 26 22 false (.un .not (.t 25))), (0, oQ 27 (.pick (.t 22) (.b true) (.t 26))), (0, oM 28 27), (0, oJ 29 28 false (.mv (.t 3))), (0, oJ 30 28 false (.bin .gtr (.t 29) (.i 0))), (0, oJ 31 28 false (.mv (.t 30))), (0, oJ 32 31 true (.mv (.t 0))), (0, oJ 33 31 true (.mv (.t 3))), (0, oJ 34 31 true (.bin .sub (.t 33) (.i 1))), (0, oJ 35 31 true (.iad 7 (.t 32) (.t 34))), (0, oJ 36 31 true (.fad 0 (.t 35))), (0, oJ 37 31 true (.load false [kI] (.t 36))), (0, oJ 38 31 true (.fad 0 (.t 4))), (0, oJ 39 31 true (.load false [kI] (.t 38)))] [oJ 40 31 true (.bin .geq (.t 37) (.t 39)), oJ 41 28 false (.pick (.t 31) (.t 40) (.b false)), oQ 42 (.pick (.t 28) (.b true) (.t 41))]) (
 .cond (.t 42) (.seq (.g [oV 2 false]) (
 .ret)) (.skip))))) (
 .g [oBi 43 .add 7 1, oM 7 43]))))
def e27x0 : Exits := [(.ret, [(2, .c .b)]), ((.exit 0), [(0, .c (.sl 7))])]
noncomputable def l27x0 (T : Table) (k : Nat) := loopN (evalC ⟨T, [], []⟩ k b27x0 (Ex × List AV)) [0, 5, 6, 7] e27x0
def a27 : AFun := ⟨[.rd], false, [.t 2], (
 .seq (.g [oV 2 false]) (
 .seq (.seq (.g [oM 5 0, oZ 6 5, oK 7 0]) (
 .block 0 (.loop [0, 5, 6, 7] e27x0 b27x0))) (
 .seq (.g [oM 44 0, oZ 45 44, oBi 46 .leq 45 40, oM 2 46]) (
 .ret))))⟩
theorem l27x0s (T : Table) (k n : Nat) (l2 l3 : Rows) (n4 n5 : Int): l27x0 T k (n + 1) [.fz 7 l2, .fz 7 l3, .v (.int .i64 n4), .v (.int .i64 n5)] = (
 bif (decide (n5 < n4)) then (
 tst (decide (0 ≤ n5)) (
 look l3 (Int.toNat n5) fun r6 =>
 cI .i64 r6 0 fun n7 =>
 cI .i64 r6 1 fun n8 =>
 cI .i64 r6 2 fun n9 =>
 cS r6 3 fun s10 =>
 cI .i64 r6 4 fun n11 =>
 cL 1 r6 5 fun l12 =>
 cL 5 r6 6 fun l13 =>
 callT T 25 [.d (.v (.int .i64 n7)), .d (.v (.int .i64 1)), .d (.v (.int .i64 1000000))] fun o14 =>
 oD o14.res fun d15 =>
 dB d15 fun b16 =>
 bif (!b16) == false then (
 callT T 25 [.d (.v (.int .i64 n8)), .d (.v (.int .i64 1)), .d (.v (.int .i64 10000))] fun o17 =>
 oD o17.res fun d18 =>
 dB d18 fun b19 =>
 bif (!b19) == false then (
 callT T 51 [.g [.v (.int .i64 n9), .v (.string s10), .v (.int .i64 n11), .s 1 l12, .s 5 l13]] fun o20 =>
 oD o20.res fun d21 =>
 dB d21 fun b22 =>
 bif (!b22) == false then (
 bif (decide (n5 > 0)) == true then (
 tst (decide (0 ≤ (IntKind.wrap .i64 (n5 - 1)))) (
 look l2 (Int.toNat (IntKind.wrap .i64 (n5 - 1))) fun r23 =>
 cI .i64 r23 0 fun n24 =>
 bif (decide (n24 ≥ n7)) then (
 some (.ret, [.v (.bool false)])) else (
 l27x0 T k n [.fz 7 l2, .fz 7 l3, .v (.int .i64 n4), .v (.int .i64 (IntKind.wrap .i64 (n5 + 1)))]))) else (
 l27x0 T k n [.fz 7 l2, .fz 7 l3, .v (.int .i64 n4), .v (.int .i64 (IntKind.wrap .i64 (n5 + 1)))])) else (
 some (.ret, [.v (.bool false)]))) else (
 some (.ret, [.v (.bool false)]))) else (
 some (.ret, [.v (.bool false)])))) else (
 some ((.exit 0), [.fz 7 l2]))) := by kernel_rfl
theorem a27q (T : Table) (k : Nat) (l1 : Rows): evalF T k a27 [.d (.s 7 l1)] = (
 aft (l27x0 T k k [.fz 7 l1, .fz 7 l1, .v (.int .i64 (l1.length : Int)), .v (.int .i64 0)]) fun e25 ys26 =>
 bif e25.same .ret then (
 aV ys26 0 fun x27 =>
 aB x27 fun b28 =>
 some ⟨.d (.v (.bool b28)), []⟩) else (
 bif e25.same (.exit 0) then (
 aV ys26 0 fun x29 =>
 aL 7 x29 fun l30 =>
 some ⟨.d (.v (.bool (decide ((l30.length : Int) ≤ 40)))), []⟩) else (
 none))) := by kernel_rfl
/- loop.example/g00119/impl.MsgOk -/
def a9 : AFun := ⟨[.rd], false, [.t 2], (
 .seq (.g [oQ 1 (.box (.t 0)), oV 2 false]) (
 .seq (.seq (.g [oF 3 0 1, oW 4 kI 3]) (
 .block 0 (.seq (.g [oBi 6 .eql 4 1, oM 5 6]) (
 .cond (.t 5) (.seq (.g [oF 7 1 1, oW 8 .s 7, oC 9 24 [.c .b] [8], oM 10 9, oJ 11 10 true (.fad 2 (.t 1)), oJ 12 10 true (.load false [kI] (.t 11)), oJ 13 10 true (.call (.f 25) [.rd, .rd, .rd] false [.c .b] [.t 12, .i 0, .i 1000000]), oQ 14 (.pick (.t 10) (.t 13) (.b false)), oM 15 14, oJ 16 15 true (.fad 4 (.t 1)), oJ 17 15 true (.load false [.sl 2] (.t 16)), oJ 18 15 true (.call (.f 26) [.rd] false [.c .b] [.t 17]), oQ 19 (.pick (.t 15) (.t 18) (.b false)), oM 20 19, oJ 21 20 true (.fad 3 (.t 1)), oJ 22 20 true (.load false [.sl 7] (.t 21)), oJ 23 20 true (.len false (.t 22)), oJ 24 20 true (.bin .eql (.t 23) (.i 0)), oQ 25 (.pick (.t 20) (.t 24) (.b false)), oM 2 25]) (
 .ret)) (.seq (.g [oBi 27 .eql 4 2, oM 26 27]) (
 .cond (.t 26) (.seq (.g [oF 28 1 1, oW 29 .s 28, oC 30 24 [.c .b] [29], oM 31 30, oJ 32 31 true (.fad 2 (.t 1)), oJ 33 31 true (.load false [kI] (.t 32)), oJ 34 31 true (.call (.f 25) [.rd, .rd, .rd] false [.c .b] [.t 33, .i 1, .i 1000000]), oQ 35 (.pick (.t 31) (.t 34) (.b false)), oM 36 35, oJ 37 36 true (.fad 3 (.t 1)), oJ 38 36 true (.load false [.sl 7] (.t 37)), oJ 39 36 true (.call (.f 27) [.rd] false [.c .b] [.t 38]), oQ 40 (.pick (.t 36) (.t 39) (.b false)), oM 41 40, oJ 42 41 true (.fad 4 (.t 1)), oJ 43 41 true (.load false [.sl 2] (.t 42)), oJ 44 41 true (.len false (.t 43)), oJ 45 41 true (.bin .eql (.t 44) (.i 0)), oQ 46 (.pick (.t 41) (.t 45) (.b false)), oM 2 46]) (
 .ret)) (.skip))))))) (
 .seq (.g [oV 2 false]) (
 .ret))))⟩
theorem a9q (T : Table) (k : Nat) (n1 n3 : Int) (s2 : ByteArray) (l4 l5 : Rows): evalF T k a9 [.g [.v (.int .i64 n1), .v (.string s2), .v (.int .i64 n3), .s 7 l4, .s 2 l5]] = (
 bif (n1 == 1) then (
 callT T 24 [.d (.v (.string s2))] fun o6 =>
 oD o6.res fun d7 =>
 dB d7 fun b8 =>
 bif b8 == true then (
 callT T 25 [.d (.v (.int .i64 n3)), .d (.v (.int .i64 0)), .d (.v (.int .i64 1000000))] fun o9 =>
 oD o9.res fun d10 =>
 dB d10 fun b11 =>
 bif b11 == true then (
 callT T 26 [.d (.s 2 l5)] fun o12 =>
 oD o12.res fun d13 =>
 dB d13 fun b14 =>
 bif b14 == true then (
 some ⟨.d (.v (.bool ((l4.length : Int) == 0))), []⟩) else (
 some ⟨.d (.v (.bool false)), []⟩)) else (
 some ⟨.d (.v (.bool false)), []⟩)) else (
 some ⟨.d (.v (.bool false)), []⟩)) else (
 bif (n1 == 2) then (
 callT T 24 [.d (.v (.string s2))] fun o15 =>
 oD o15.res fun d16 =>
 dB d16 fun b17 =>
 bif b17 == true then (
 callT T 25 [.d (.v (.int .i64 n3)), .d (.v (.int .i64 1)), .d (.v (.int .i64 1000000))] fun o18 =>
 oD o18.res fun d19 =>
 dB d19 fun b20 =>
 bif b20 == true then (
 callT T 27 [.d (.s 7 l4)] fun o21 =>
 oD o21.res fun d22 =>
 dB d22 fun b23 =>
 bif b23 == true then (
 some ⟨.d (.v (.bool ((l5.length : Int) == 0))), []⟩) else (
 some ⟨.d (.v (.bool false)), []⟩)) else (
 some ⟨.d (.v (.bool false)), []⟩)) else (
 some ⟨.d (.v (.bool false)), []⟩)) else (
 some ⟨.d (.v (.bool false)), []⟩))) := by kernel_rfl
/- loop.example/g00119/impl.decimal -/
def a18 : AFun := ⟨[.rd], false, [.t 2], (
 .seq (.g [oQ 2 (.mv (.c (.v (.string ({ data := #[] } : ByteArray)))))]) (
 .seq (.block 0 (.seq (.g [oM 4 0, oBi 5 .lss 4 0, oM 6 5, oJ 7 6 true (.mv (.t 0)), oJ 8 6 true (.bin .gtr (.t 7) (.i (-10))), oQ 9 (.pick (.t 6) (.t 8) (.b false)), oM 3 9]) (
 .cond (.t 3) (.seq (.g [oM 10 0, oQ 11 (.un .neg (.t 10)), oC 12 18 [.c .s] [11], oQ 13 (.bin .add (.c (.v (.string ({ data := #[45] } : ByteArray)))) (.t 12)), oM 2 13]) (
 .ret)) (.seq (.g [oM 15 0, oBi 16 .lss 15 0, oM 14 16]) (
 .cond (.t 14) (.seq (.g [oM 17 0, oBi 18 .quo 17 10, oC 19 18 [.c .s] [18], oM 20 0, oBi 21 .rem 20 10, oQ 22 (.un .neg (.t 21)), oC 23 18 [.c .s] [22], oB 24 .add 19 23, oM 2 24]) (
 .ret)) (.seq (.g [oM 26 0, oBi 27 .lss 26 10, oM 25 27]) (
 .cond (.t 25) (.seq (.g [oM 28 0, oQ 29 (.bin .add (.i 48) (.t 28)), oQ 30 (.conv (.int .i32) (.t 29)), oQ 31 (.conv .intStr (.t 30)), oM 2 31]) (
 .ret)) (.skip)))))))) (
 .seq (.g [oM 32 0, oBi 33 .quo 32 10, oC 34 18 [.c .s] [33], oM 35 0, oBi 36 .rem 35 10, oQ 37 (.bin .add (.i 48) (.t 36)), oQ 38 (.conv (.int .i32) (.t 37)), oQ 39 (.conv .intStr (.t 38)), oB 40 .add 34 39, oM 2 40]) (
 .ret))))⟩
theorem a18q (T : Table) (k : Nat) (n1 : Int): evalF T k a18 [.d (.v (.int .i64 n1))] = (
 bif (decide (n1 < 0)) == true then (
 bif (decide (n1 > (-10))) then (
 callT T 18 [.d (.v (.int .i64 (IntKind.wrap .i64 (0 - n1))))] fun o2 =>
 oD o2.res fun d3 =>
 dS d3 fun s4 =>
 tst (decide (({ data := #[45] } : ByteArray).size + s4.size ≤ maxLen)) (
 some ⟨.d (.v (.string (({ data := #[45] } : ByteArray) ++ s4))), []⟩)) else (
 bif (decide (n1 < 0)) then (
 tst (decide (10 ≠ 0)) (
 callT T 18 [.d (.v (.int .i64 (IntKind.wrap .i64 (Int.tdiv n1 10))))] fun o5 =>
 oD o5.res fun d6 =>
 dS d6 fun s7 =>
 tst (decide (10 ≠ 0)) (
 callT T 18 [.d (.v (.int .i64 (IntKind.wrap .i64 (0 - (Int.tmod n1 10)))))] fun o8 =>
 oD o8.res fun d9 =>
 dS d9 fun s10 =>
 tst (decide (s7.size + s10.size ≤ maxLen)) (
 some ⟨.d (.v (.string (s7 ++ s10))), []⟩)))) else (
 bif (decide (n1 < 10)) then (
 some ⟨.d (.v (.string (Utf8.encode (IntKind.wrap .i32 (IntKind.wrap .i64 (48 + n1)))))), []⟩) else (
 tst (decide (10 ≠ 0)) (
 callT T 18 [.d (.v (.int .i64 (IntKind.wrap .i64 (Int.tdiv n1 10))))] fun o11 =>
 oD o11.res fun d12 =>
 dS d12 fun s13 =>
 tst (decide (10 ≠ 0)) (
 tst (decide (s13.size + (Utf8.encode (IntKind.wrap .i32 (IntKind.wrap .i64 (48 + (Int.tmod n1 10))))).size ≤ maxLen)) (
 some ⟨.d (.v (.string (s13 ++ (Utf8.encode (IntKind.wrap .i32 (IntKind.wrap .i64 (48 + (Int.tmod n1 10)))))))), []⟩))))))) else (
 bif (decide (n1 < 0)) then (
 tst (decide (10 ≠ 0)) (
 callT T 18 [.d (.v (.int .i64 (IntKind.wrap .i64 (Int.tdiv n1 10))))] fun o14 =>
 oD o14.res fun d15 =>
 dS d15 fun s16 =>
 tst (decide (10 ≠ 0)) (
 callT T 18 [.d (.v (.int .i64 (IntKind.wrap .i64 (0 - (Int.tmod n1 10)))))] fun o17 =>
 oD o17.res fun d18 =>
 dS d18 fun s19 =>
 tst (decide (s16.size + s19.size ≤ maxLen)) (
 some ⟨.d (.v (.string (s16 ++ s19))), []⟩)))) else (
 bif (decide (n1 < 10)) then (
 some ⟨.d (.v (.string (Utf8.encode (IntKind.wrap .i32 (IntKind.wrap .i64 (48 + n1)))))), []⟩) else (
 tst (decide (10 ≠ 0)) (
 callT T 18 [.d (.v (.int .i64 (IntKind.wrap .i64 (Int.tdiv n1 10))))] fun o20 =>
 oD o20.res fun d21 =>
 dS d21 fun s22 =>
 tst (decide (10 ≠ 0)) (
 tst (decide (s22.size + (Utf8.encode (IntKind.wrap .i32 (IntKind.wrap .i64 (48 + (Int.tmod n1 10))))).size ≤ maxLen)) (
 some ⟨.d (.v (.string (s22 ++ (Utf8.encode (IntKind.wrap .i32 (IntKind.wrap .i64 (48 + (Int.tmod n1 10)))))))), []⟩))))))) := by kernel_rfl
/- loop.example/g00119/impl.quoted -/
def a80 : AFun := ⟨[.rd], false, [.t 2], (
 .seq (.g [oQ 2 (.mv (.c (.v (.string ({ data := #[] } : ByteArray)))))]) (
 .seq (.g [oM 3 0, oQ 4 (.call (.f 108) [.rd, .rd, .rd] false [.c .s] [.t 3, .c (.v (.string ({ data := #[92] } : ByteArray))), .c (.v (.string ({ data := #[92, 92] } : ByteArray)))]), oQ 5 (.call (.f 108) [.rd, .rd, .rd] false [.c .s] [.t 4, .c (.v (.string ({ data := #[34] } : ByteArray))), .c (.v (.string ({ data := #[92, 34] } : ByteArray)))]), oQ 6 (.bin .add (.c (.v (.string ({ data := #[34] } : ByteArray)))) (.t 5)), oQ 7 (.bin .add (.t 6) (.c (.v (.string ({ data := #[34] } : ByteArray))))), oM 2 7]) (
 .ret)))⟩
theorem a80q (T : Table) (k : Nat) (s1 : ByteArray): evalF T k a80 [.d (.v (.string s1))] = (
 callT T 108 [.d (.v (.string s1)), .d (.v (.string ({ data := #[92] } : ByteArray))), .d (.v (.string ({ data := #[92, 92] } : ByteArray)))] fun o2 =>
 oD o2.res fun d3 =>
 dS d3 fun s4 =>
 callT T 108 [.d (.v (.string s4)), .d (.v (.string ({ data := #[34] } : ByteArray))), .d (.v (.string ({ data := #[92, 34] } : ByteArray)))] fun o5 =>
 oD o5.res fun d6 =>
 dS d6 fun s7 =>
 tst (decide (({ data := #[34] } : ByteArray).size + s7.size ≤ maxLen)) (
 tst (decide ((({ data := #[34] } : ByteArray) ++ s7).size + ({ data := #[34] } : ByteArray).size ≤ maxLen)) (
 some ⟨.d (.v (.string ((({ data := #[34] } : ByteArray) ++ s7) ++ ({ data := #[34] } : ByteArray)))), []⟩))) := by kernel_rfl
-- a81 "strings.Join": op makeInterface
/- loop.example/g00119/impl.written -/
def b52x0 : ACode := (
 .seq (.g [oB 30 .lss 29 28]) (
 .seq (.cond (.t 30) (.skip) (.exit 1)) (
 .seq (.block 2 (.seq (.g [oM 31 29, oI 32 5 27 29, oL 33 [kI, .s, kI, .sl 1, .sl 5] 32, oQ 5 (.alloc [.v (.int .i64 0), .v (.string ByteArray.empty), .v (.int .i64 0), .s 1 [], .s 5 []]), oM 4 31, oS (.store 5 (.t 5) (.t 33))]) (
 .seq (.g [oL 34 [kI, .s, kI, .sl 1, .sl 5] 5, oC 35 52 [.c .s] [34], oM 6 35]) (
 .seq (.seq (.g [oF 36 0 1, oW 37 kI 36, oBi 38 .eql 37 5]) (
 .cond (.t 38) (.g [oF 39 3 1, oW 40 (.sl 1) 39, oM 41 4, oI 42 1 40 41, oW 43 .s 42, oQ 44 (.bin .add (.t 43) (.c (.v (.string ({ data := #[58] } : ByteArray))))), oM 45 6, oB 46 .add 44 45, oM 6 46]) (.skip))) (
 .g [oM 47 3, oM 48 6, oQ 49 (.lit 1 ([[.v (.string ByteArray.empty)]] : Rows) [(0, (.t 48))]), oQ 50 (.app 1 16 (.t 47) (.t 49)), oM 3 50]))))) (
 .g [oBi 51 .add 29 1, oM 29 51]))))
def e52x0 : Exits := [((.exit 1), [(1, .b [.c kI, .c .s, .c kI, .c (.sl 1), .c (.sl 5)]), (3, .o 1)])]
noncomputable def l52x0 (T : Table) (k : Nat) := loopN (evalC ⟨T, [], []⟩ k b52x0 (Ex × List AV)) [1, 3, 27, 28, 29] e52x0
def a52 : AFun := ⟨[.rd], false, [.t 2], (
 .seq (.g [oQ 1 (.box (.t 0)), oQ 2 (.mv (.c (.v (.string ({ data := #[] } : ByteArray)))))]) (
 .seq (.seq (.g [oF 8 0 1, oW 9 kI 8]) (
 .block 0 (.seq (.g [oBi 11 .eql 9 1, oM 10 11]) (
 .cond (.t 10) (.seq (.g [oF 12 1 1, oW 13 .s 12, oC 14 80 [.c .s] [13], oM 2 14]) (
 .ret)) (.seq (.g [oBi 16 .eql 9 2, oM 15 16]) (
 .cond (.t 15) (.seq (.g [oF 17 2 1, oW 18 kI 17, oC 19 18 [.c .s] [18], oM 2 19]) (
 .ret)) (.seq (.g [oBi 21 .eql 9 3, oM 20 21]) (
 .cond (.t 20) (.seq (.seq (.g [oF 22 2 1, oW 23 kI 22, oBi 24 .eql 23 1]) (
 .cond (.t 24) (.seq (.g [oQ 2 (.mv (.c (.v (.string ({ data := #[116, 114, 117, 101] } : ByteArray)))))]) (
 .ret)) (.skip))) (
 .seq (.g [oQ 2 (.mv (.c (.v (.string ({ data := #[102, 97, 108, 115, 101] } : ByteArray)))))]) (
 .ret))) (.skip))))))))) (
 .seq (.g [oQ 25 (.lit 1 ([] : Rows) []), oM 3 25]) (
 .seq (.seq (.g [oF 26 4 1, oW 27 (.sl 5) 26, oZ 28 27, oK 29 0]) (
 .block 1 (.loop [1, 3, 27, 28, 29] e52x0 b52x0))) (
 .seq (.g [oM 52 3, oQ 53 (.call (.f 81) [.rd, .rd] false [.c .s] [.t 52, .c (.v (.string ({ data := #[44] } : ByteArray)))]), oM 7 53]) (
 .seq (.seq (.g [oF 54 0 1, oW 55 kI 54, oBi 56 .eql 55 5]) (
 .cond (.t 56) (.seq (.g [oM 57 7, oQ 58 (.bin .add (.c (.v (.string ({ data := #[123] } : ByteArray)))) (.t 57)), oQ 59 (.bin .add (.t 58) (.c (.v (.string ({ data := #[125] } : ByteArray))))), oM 2 59]) (
 .ret)) (.skip))) (
 .seq (.g [oM 60 7, oQ 61 (.bin .add (.c (.v (.string ({ data := #[91] } : ByteArray)))) (.t 60)), oQ 62 (.bin .add (.t 61) (.c (.v (.string ({ data := #[93] } : ByteArray))))), oM 2 62]) (
 .ret))))))))⟩
theorem l52x0s (T : Table) (k n : Nat) (n12 n14 n19 n20 : Int) (s13 : ByteArray) (l15 l16 l17 l18 : Rows): l52x0 T k (n + 1) [.b [.v (.int .i64 n12), .v (.string s13), .v (.int .i64 n14), .fz 1 l15, .fz 5 l16], .o 1 l17, .fz 5 l18, .v (.int .i64 n19), .v (.int .i64 n20)] = (
 bif (decide (n20 < n19)) then (
 tst (decide (0 ≤ n20)) (
 look l18 (Int.toNat n20) fun r21 =>
 cI .i64 r21 0 fun n22 =>
 cS r21 1 fun s23 =>
 cI .i64 r21 2 fun n24 =>
 cL 1 r21 3 fun l25 =>
 cL 5 r21 4 fun l26 =>
 callT T 52 [.g [.v (.int .i64 n22), .v (.string s23), .v (.int .i64 n24), .s 1 l25, .s 5 l26]] fun o27 =>
 oD o27.res fun d28 =>
 dS d28 fun s29 =>
 bif (n12 == 5) then (
 tst (decide (0 ≤ n20)) (
 look l15 (Int.toNat n20) fun r30 =>
 cS r30 0 fun s31 =>
 tst (decide (s31.size + ({ data := #[58] } : ByteArray).size ≤ maxLen)) (
 tst (decide ((s31 ++ ({ data := #[58] } : ByteArray)).size + s29.size ≤ maxLen)) (
 tst (decide ((l17.length + ([[.v (.string ((s31 ++ ({ data := #[58] } : ByteArray)) ++ s29))]] : Rows).length) * 16 ≤ maxBytes)) (
 l52x0 T k n [.b [.v (.int .i64 n12), .v (.string s13), .v (.int .i64 n14), .fz 1 l15, .fz 5 l16], .o 1 (l17 ++ ([[.v (.string ((s31 ++ ({ data := #[58] } : ByteArray)) ++ s29))]] : Rows)), .fz 5 l18, .v (.int .i64 n19), .v (.int .i64 (IntKind.wrap .i64 (n20 + 1)))]))))) else (
 tst (decide ((l17.length + ([[.v (.string s29)]] : Rows).length) * 16 ≤ maxBytes)) (
 l52x0 T k n [.b [.v (.int .i64 n12), .v (.string s13), .v (.int .i64 n14), .fz 1 l15, .fz 5 l16], .o 1 (l17 ++ ([[.v (.string s29)]] : Rows)), .fz 5 l18, .v (.int .i64 n19), .v (.int .i64 (IntKind.wrap .i64 (n20 + 1)))])))) else (
 some ((.exit 1), [.b [.v (.int .i64 n12), .v (.string s13), .v (.int .i64 n14), .fz 1 l15, .fz 5 l16], .o 1 l17]))) := by kernel_rfl
theorem a52q (T : Table) (k : Nat) (n1 n3 : Int) (s2 : ByteArray) (l4 l5 : Rows): evalF T k a52 [.g [.v (.int .i64 n1), .v (.string s2), .v (.int .i64 n3), .s 1 l4, .s 5 l5]] = (
 bif (n1 == 1) then (
 callT T 80 [.d (.v (.string s2))] fun o6 =>
 oD o6.res fun d7 =>
 dS d7 fun s8 =>
 some ⟨.d (.v (.string s8)), []⟩) else (
 bif (n1 == 2) then (
 callT T 18 [.d (.v (.int .i64 n3))] fun o9 =>
 oD o9.res fun d10 =>
 dS d10 fun s11 =>
 some ⟨.d (.v (.string s11)), []⟩) else (
 bif (n1 == 3) then (
 bif (n3 == 1) then (
 some ⟨.d (.v (.string ({ data := #[116, 114, 117, 101] } : ByteArray))), []⟩) else (
 some ⟨.d (.v (.string ({ data := #[102, 97, 108, 115, 101] } : ByteArray))), []⟩)) else (
 aft (l52x0 T k k [.b [.v (.int .i64 n1), .v (.string s2), .v (.int .i64 n3), .fz 1 l4, .fz 5 l5], .o 1 [], .fz 5 l5, .v (.int .i64 (l5.length : Int)), .v (.int .i64 0)]) fun e32 ys33 =>
 bif e32.same (.exit 1) then (
 aV ys33 0 fun x34 =>
 aX x34 fun xs35 =>
 aV xs35 0 fun x36 =>
 aI .i64 x36 fun n37 =>
 aV xs35 1 fun x38 =>
 aS x38 fun s39 =>
 aV xs35 2 fun x40 =>
 aI .i64 x40 fun n41 =>
 aV xs35 3 fun x42 =>
 aL 1 x42 fun l43 =>
 aV xs35 4 fun x44 =>
 aL 5 x44 fun l45 =>
 aV ys33 1 fun x46 =>
 aO 1 x46 fun l47 =>
 callT T 81 [.d (.s 1 l47), .d (.v (.string ({ data := #[44] } : ByteArray)))] fun o48 =>
 oD o48.res fun d49 =>
 dS d49 fun s50 =>
 bif (n37 == 5) then (
 tst (decide (({ data := #[123] } : ByteArray).size + s50.size ≤ maxLen)) (
 tst (decide ((({ data := #[123] } : ByteArray) ++ s50).size + ({ data := #[125] } : ByteArray).size ≤ maxLen)) (
 some ⟨.d (.v (.string ((({ data := #[123] } : ByteArray) ++ s50) ++ ({ data := #[125] } : ByteArray)))), []⟩))) else (
 tst (decide (({ data := #[91] } : ByteArray).size + s50.size ≤ maxLen)) (
 tst (decide ((({ data := #[91] } : ByteArray) ++ s50).size + ({ data := #[93] } : ByteArray).size ≤ maxLen)) (
 some ⟨.d (.v (.string ((({ data := #[91] } : ByteArray) ++ s50) ++ ({ data := #[93] } : ByteArray)))), []⟩)))) else (
 none))))) := by kernel_rfl
/- loop.example/g00119/impl.ValueText -/
def a19 : AFun := ⟨[.rd], false, [.t 2], (
 .seq (.g [oQ 1 (.box (.t 0)), oQ 2 (.mv (.c (.v (.string ({ data := #[] } : ByteArray)))))]) (
 .seq (.seq (.g [oL 3 [kI, .s, kI, .sl 1, .sl 5] 1, oC 4 51 [.c .b] [3], oN 5 4]) (
 .cond (.t 5) (.seq (.g [oQ 2 (.mv (.c (.v (.string ({ data := #[] } : ByteArray)))))]) (
 .ret)) (.skip))) (
 .seq (.g [oL 6 [kI, .s, kI, .sl 1, .sl 5] 1, oC 7 52 [.c .s] [6], oM 2 7]) (
 .ret))))⟩
theorem a19q (T : Table) (k : Nat) (n1 n3 : Int) (s2 : ByteArray) (l4 l5 : Rows): evalF T k a19 [.g [.v (.int .i64 n1), .v (.string s2), .v (.int .i64 n3), .s 1 l4, .s 5 l5]] = (
 callT T 51 [.g [.v (.int .i64 n1), .v (.string s2), .v (.int .i64 n3), .s 1 l4, .s 5 l5]] fun o6 =>
 oD o6.res fun d7 =>
 dB d7 fun b8 =>
 bif (!b8) then (
 some ⟨.d (.v (.string ({ data := #[] } : ByteArray))), []⟩) else (
 callT T 52 [.g [.v (.int .i64 n1), .v (.string s2), .v (.int .i64 n3), .s 1 l4, .s 5 l5]] fun o9 =>
 oD o9.res fun d10 =>
 dS d10 fun s11 =>
 some ⟨.d (.v (.string s11)), []⟩)) := by kernel_rfl
/- loop.example/g00119/impl.MsgText -/
def b7x0 : ACode := (
 .seq (.g [oB 29 .lss 28 27]) (
 .seq (.cond (.t 29) (.skip) (.exit 0)) (
 .seq (.block 1 (.seq (.g [oI 30 2 26 28, oL 31 [kI, kI] 30, oQ 6 (.alloc [.v (.int .i64 0), .v (.int .i64 0)]), oS (.store 2 (.t 6) (.t 31))]) (
 .dreg [] [(3, oM 32 4), (0, oF 33 0 6), (0, oW 34 kI 33), (1, oC 35 18 [.c .s] [34]), (3, oQ 36 (.bin .add (.t 35) (.c (.v (.string ({ data := #[32] } : ByteArray)))))), (0, oF 37 1 6), (0, oW 38 kI 37)] [oC 39 18 [.c .s] [38], oB 40 .add 36 39, oQ 41 (.bin .add (.t 40) (.c (.v (.string ({ data := #[10] } : ByteArray))))), oB 42 .add 32 41, oM 4 42]))) (
 .g [oBi 43 .add 28 1, oM 28 43]))))
def e7x0 : Exits := [((.exit 0), [(1, .b [.c kI, .c .s, .c kI, .c (.sl 7), .c (.sl 2)]), (4, .c .s)])]
noncomputable def l7x0 (T : Table) (k : Nat) := loopN (evalC ⟨T, [], []⟩ k b7x0 (Ex × List AV)) [1, 4, 26, 27, 28] e7x0
def b7x1 : ACode := (
 .seq (.g [oB 48 .lss 47 46]) (
 .seq (.cond (.t 48) (.skip) (.exit 2)) (
 .seq (.block 3 (.seq (.g [oI 49 7 45 47, oL 50 [kI, kI, kI, .s, kI, .sl 1, .sl 5] 49, oQ 8 (.alloc [.v (.int .i64 0), .v (.int .i64 0), .v (.int .i64 0), .v (.string ByteArray.empty), .v (.int .i64 0), .s 1 [], .s 5 []]), oS (.store 7 (.t 8) (.t 50))]) (
 .dreg [] [(3, oM 51 4), (0, oF 52 0 8), (0, oW 53 kI 52), (1, oC 54 18 [.c .s] [53]), (3, oQ 55 (.bin .add (.t 54) (.c (.v (.string ({ data := #[32] } : ByteArray)))))), (0, oF 56 1 8), (0, oW 57 kI 56), (1, oC 58 18 [.c .s] [57]), (3, oB 59 .add 55 58), (3, oQ 60 (.bin .add (.t 59) (.c (.v (.string ({ data := #[32] } : ByteArray)))))), (0, oF 61 2 8), (0, oL 62 [kI, .s, kI, .sl 1, .sl 5] 61)] [oC 63 19 [.c .s] [62], oB 64 .add 60 63, oQ 65 (.bin .add (.t 64) (.c (.v (.string ({ data := #[10] } : ByteArray))))), oB 66 .add 51 65, oM 4 66]))) (
 .g [oBi 67 .add 47 1, oM 47 67]))))
def e7x1 : Exits := [((.exit 2), [(4, .c .s)])]
noncomputable def l7x1 (T : Table) (k : Nat) := loopN (evalC ⟨T, [], []⟩ k b7x1 (Ex × List AV)) [4, 45, 46, 47] e7x1
def a7 : AFun := ⟨[.rd], false, [.t 2], (
 .seq (.g [oQ 1 (.box (.t 0)), oQ 2 (.mv (.c (.v (.string ({ data := #[] } : ByteArray)))))]) (
 .seq (.seq (.g [oL 9 [kI, .s, kI, .sl 7, .sl 2] 1, oC 10 9 [.c .b] [9], oN 11 10]) (
 .cond (.t 11) (.seq (.g [oQ 2 (.mv (.c (.v (.string ({ data := #[] } : ByteArray)))))]) (
 .ret)) (.skip))) (
 .seq (.g [oQ 3 (.mv (.c (.v (.string ({ data := #[116, 101, 108, 108, 32] } : ByteArray)))))]) (
 .seq (.seq (.g [oF 12 0 1, oW 13 kI 12, oBi 14 .eql 13 2]) (
 .cond (.t 14) (.g [oQ 3 (.mv (.c (.v (.string ({ data := #[108, 105, 115, 116, 32] } : ByteArray)))))]) (.skip))) (
 .seq (.dreg [] [(0, oM 15 3), (0, oF 16 1 1), (0, oW 17 .s 16), (0, oB 18 .add 15 17), (0, oQ 19 (.bin .add (.t 18) (.c (.v (.string ({ data := #[32] } : ByteArray)))))), (0, oF 20 2 1), (0, oW 21 kI 20), (1, oC 22 18 [.c .s] [21])] [oB 23 .add 19 22, oQ 24 (.bin .add (.t 23) (.c (.v (.string ({ data := #[10] } : ByteArray))))), oM 4 24]) (
 .seq (.seq (.g [oF 25 4 1, oW 26 (.sl 2) 25, oZ 27 26, oK 28 0]) (
 .block 0 (.loop [1, 4, 26, 27, 28] e7x0 b7x0))) (
 .seq (.seq (.g [oF 44 3 1, oW 45 (.sl 7) 44, oZ 46 45, oK 47 0]) (
 .block 2 (.loop [4, 45, 46, 47] e7x1 b7x1))) (
 .seq (.g [oM 68 4, oM 2 68]) (
 .ret)))))))))⟩
theorem l7x0s (T : Table) (k n : Nat) (n12 n14 n19 n20 : Int) (s13 s17 : ByteArray) (l15 l16 l18 : Rows): l7x0 T k (n + 1) [.b [.v (.int .i64 n12), .v (.string s13), .v (.int .i64 n14), .fz 7 l15, .fz 2 l16], .v (.string s17), .fz 2 l18, .v (.int .i64 n19), .v (.int .i64 n20)] = (
 bif (decide (n20 < n19)) then (
 tst (decide (0 ≤ n20)) (
 look l18 (Int.toNat n20) fun r21 =>
 cI .i64 r21 0 fun n22 =>
 cI .i64 r21 1 fun n23 =>
 callT T 18 [.d (.v (.int .i64 n22))] fun o24 =>
 oD o24.res fun d25 =>
 dS d25 fun s26 =>
 tst (decide (s26.size + ({ data := #[32] } : ByteArray).size ≤ maxLen)) (
 callT T 18 [.d (.v (.int .i64 n23))] fun o27 =>
 oD o27.res fun d28 =>
 dS d28 fun s29 =>
 tst (decide ((s26 ++ ({ data := #[32] } : ByteArray)).size + s29.size ≤ maxLen)) (
 tst (decide (((s26 ++ ({ data := #[32] } : ByteArray)) ++ s29).size + ({ data := #[10] } : ByteArray).size ≤ maxLen)) (
 tst (decide (s17.size + (((s26 ++ ({ data := #[32] } : ByteArray)) ++ s29) ++ ({ data := #[10] } : ByteArray)).size ≤ maxLen)) (
 l7x0 T k n [.b [.v (.int .i64 n12), .v (.string s13), .v (.int .i64 n14), .fz 7 l15, .fz 2 l16], .v (.string (s17 ++ (((s26 ++ ({ data := #[32] } : ByteArray)) ++ s29) ++ ({ data := #[10] } : ByteArray)))), .fz 2 l18, .v (.int .i64 n19), .v (.int .i64 (IntKind.wrap .i64 (n20 + 1)))])))))) else (
 some ((.exit 0), [.b [.v (.int .i64 n12), .v (.string s13), .v (.int .i64 n14), .fz 7 l15, .fz 2 l16], .v (.string s17)]))) := by kernel_rfl
theorem l7x1s (T : Table) (k n : Nat) (s46 : ByteArray) (l47 : Rows) (n48 n49 : Int): l7x1 T k (n + 1) [.v (.string s46), .fz 7 l47, .v (.int .i64 n48), .v (.int .i64 n49)] = (
 bif (decide (n49 < n48)) then (
 tst (decide (0 ≤ n49)) (
 look l47 (Int.toNat n49) fun r50 =>
 cI .i64 r50 0 fun n51 =>
 cI .i64 r50 1 fun n52 =>
 cI .i64 r50 2 fun n53 =>
 cS r50 3 fun s54 =>
 cI .i64 r50 4 fun n55 =>
 cL 1 r50 5 fun l56 =>
 cL 5 r50 6 fun l57 =>
 callT T 18 [.d (.v (.int .i64 n51))] fun o58 =>
 oD o58.res fun d59 =>
 dS d59 fun s60 =>
 tst (decide (s60.size + ({ data := #[32] } : ByteArray).size ≤ maxLen)) (
 callT T 18 [.d (.v (.int .i64 n52))] fun o61 =>
 oD o61.res fun d62 =>
 dS d62 fun s63 =>
 tst (decide ((s60 ++ ({ data := #[32] } : ByteArray)).size + s63.size ≤ maxLen)) (
 tst (decide (((s60 ++ ({ data := #[32] } : ByteArray)) ++ s63).size + ({ data := #[32] } : ByteArray).size ≤ maxLen)) (
 callT T 19 [.g [.v (.int .i64 n53), .v (.string s54), .v (.int .i64 n55), .s 1 l56, .s 5 l57]] fun o64 =>
 oD o64.res fun d65 =>
 dS d65 fun s66 =>
 tst (decide ((((s60 ++ ({ data := #[32] } : ByteArray)) ++ s63) ++ ({ data := #[32] } : ByteArray)).size + s66.size ≤ maxLen)) (
 tst (decide (((((s60 ++ ({ data := #[32] } : ByteArray)) ++ s63) ++ ({ data := #[32] } : ByteArray)) ++ s66).size + ({ data := #[10] } : ByteArray).size ≤ maxLen)) (
 tst (decide (s46.size + (((((s60 ++ ({ data := #[32] } : ByteArray)) ++ s63) ++ ({ data := #[32] } : ByteArray)) ++ s66) ++ ({ data := #[10] } : ByteArray)).size ≤ maxLen)) (
 l7x1 T k n [.v (.string (s46 ++ (((((s60 ++ ({ data := #[32] } : ByteArray)) ++ s63) ++ ({ data := #[32] } : ByteArray)) ++ s66) ++ ({ data := #[10] } : ByteArray)))), .fz 7 l47, .v (.int .i64 n48), .v (.int .i64 (IntKind.wrap .i64 (n49 + 1)))])))))))) else (
 some ((.exit 2), [.v (.string s46)]))) := by kernel_rfl
theorem a7q (T : Table) (k : Nat) (n1 n3 : Int) (s2 : ByteArray) (l4 l5 : Rows): evalF T k a7 [.g [.v (.int .i64 n1), .v (.string s2), .v (.int .i64 n3), .s 7 l4, .s 2 l5]] = (
 callT T 9 [.g [.v (.int .i64 n1), .v (.string s2), .v (.int .i64 n3), .s 7 l4, .s 2 l5]] fun o6 =>
 oD o6.res fun d7 =>
 dB d7 fun b8 =>
 bif (!b8) then (
 some ⟨.d (.v (.string ({ data := #[] } : ByteArray))), []⟩) else (
 bif (n1 == 2) then (
 tst (decide (({ data := #[108, 105, 115, 116, 32] } : ByteArray).size + s2.size ≤ maxLen)) (
 tst (decide ((({ data := #[108, 105, 115, 116, 32] } : ByteArray) ++ s2).size + ({ data := #[32] } : ByteArray).size ≤ maxLen)) (
 callT T 18 [.d (.v (.int .i64 n3))] fun o9 =>
 oD o9.res fun d10 =>
 dS d10 fun s11 =>
 tst (decide (((({ data := #[108, 105, 115, 116, 32] } : ByteArray) ++ s2) ++ ({ data := #[32] } : ByteArray)).size + s11.size ≤ maxLen)) (
 tst (decide ((((({ data := #[108, 105, 115, 116, 32] } : ByteArray) ++ s2) ++ ({ data := #[32] } : ByteArray)) ++ s11).size + ({ data := #[10] } : ByteArray).size ≤ maxLen)) (
 aft (l7x0 T k k [.b [.v (.int .i64 n1), .v (.string s2), .v (.int .i64 n3), .fz 7 l4, .fz 2 l5], .v (.string ((((({ data := #[108, 105, 115, 116, 32] } : ByteArray) ++ s2) ++ ({ data := #[32] } : ByteArray)) ++ s11) ++ ({ data := #[10] } : ByteArray))), .fz 2 l5, .v (.int .i64 (l5.length : Int)), .v (.int .i64 0)]) fun e30 ys31 =>
 bif e30.same (.exit 0) then (
 aV ys31 0 fun x32 =>
 aX x32 fun xs33 =>
 aV xs33 0 fun x34 =>
 aI .i64 x34 fun n35 =>
 aV xs33 1 fun x36 =>
 aS x36 fun s37 =>
 aV xs33 2 fun x38 =>
 aI .i64 x38 fun n39 =>
 aV xs33 3 fun x40 =>
 aL 7 x40 fun l41 =>
 aV xs33 4 fun x42 =>
 aL 2 x42 fun l43 =>
 aV ys31 1 fun x44 =>
 aS x44 fun s45 =>
 aft (l7x1 T k k [.v (.string s45), .fz 7 l41, .v (.int .i64 (l41.length : Int)), .v (.int .i64 0)]) fun e67 ys68 =>
 bif e67.same (.exit 2) then (
 aV ys68 0 fun x69 =>
 aS x69 fun s70 =>
 some ⟨.d (.v (.string s70)), []⟩) else (
 none)) else (
 none)))))) else (
 tst (decide (({ data := #[116, 101, 108, 108, 32] } : ByteArray).size + s2.size ≤ maxLen)) (
 tst (decide ((({ data := #[116, 101, 108, 108, 32] } : ByteArray) ++ s2).size + ({ data := #[32] } : ByteArray).size ≤ maxLen)) (
 callT T 18 [.d (.v (.int .i64 n3))] fun o71 =>
 oD o71.res fun d72 =>
 dS d72 fun s73 =>
 tst (decide (((({ data := #[116, 101, 108, 108, 32] } : ByteArray) ++ s2) ++ ({ data := #[32] } : ByteArray)).size + s73.size ≤ maxLen)) (
 tst (decide ((((({ data := #[116, 101, 108, 108, 32] } : ByteArray) ++ s2) ++ ({ data := #[32] } : ByteArray)) ++ s73).size + ({ data := #[10] } : ByteArray).size ≤ maxLen)) (
 aft (l7x0 T k k [.b [.v (.int .i64 n1), .v (.string s2), .v (.int .i64 n3), .fz 7 l4, .fz 2 l5], .v (.string ((((({ data := #[116, 101, 108, 108, 32] } : ByteArray) ++ s2) ++ ({ data := #[32] } : ByteArray)) ++ s73) ++ ({ data := #[10] } : ByteArray))), .fz 2 l5, .v (.int .i64 (l5.length : Int)), .v (.int .i64 0)]) fun e74 ys75 =>
 bif e74.same (.exit 0) then (
 aV ys75 0 fun x76 =>
 aX x76 fun xs77 =>
 aV xs77 0 fun x78 =>
 aI .i64 x78 fun n79 =>
 aV xs77 1 fun x80 =>
 aS x80 fun s81 =>
 aV xs77 2 fun x82 =>
 aI .i64 x82 fun n83 =>
 aV xs77 3 fun x84 =>
 aL 7 x84 fun l85 =>
 aV xs77 4 fun x86 =>
 aL 2 x86 fun l87 =>
 aV ys75 1 fun x88 =>
 aS x88 fun s89 =>
 aft (l7x1 T k k [.v (.string s89), .fz 7 l85, .v (.int .i64 (l85.length : Int)), .v (.int .i64 0)]) fun e90 ys91 =>
 bif e90.same (.exit 2) then (
 aV ys91 0 fun x92 =>
 aS x92 fun s93 =>
 some ⟨.d (.v (.string s93)), []⟩) else (
 none)) else (
 none)))))))) := by kernel_rfl
/- loop.example/g00119/spec.MsgOk -/
def a8 : AFun := ⟨[.rd], false, [.t 2], (
 .seq (.g [oQ 1 (.box (.t 0)), oV 2 false]) (
 .seq (.block 0 (.seq (.g [oF 4 1 1, oW 5 .s 4, oC 6 20 [.c .b] [5], oN 7 6, oM 3 7]) (
 .cond (.t 3) (.seq (.g [oV 2 false]) (
 .ret)) (.seq (.g [oF 9 0 1, oW 10 kI 9, oBi 11 .eql 10 1, oM 8 11]) (
 .cond (.t 8) (.seq (.g [oF 12 2 1, oW 13 kI 12, oQ 14 (.call (.f 21) [.rd, .rd, .rd] false [.c .b] [.t 13, .i 0, .i 1000000]), oM 15 14, oJ 16 15 true (.fad 4 (.t 1)), oJ 17 15 true (.load false [.sl 2] (.t 16)), oJ 18 15 true (.call (.f 22) [.rd, .rd] false [.c .b] [.t 17, .i 0]), oQ 19 (.pick (.t 15) (.t 18) (.b false)), oM 20 19, oJ 21 20 true (.fad 3 (.t 1)), oJ 22 20 true (.load false [.sl 7] (.t 21)), oJ 23 20 true (.len false (.t 22)), oJ 24 20 true (.bin .eql (.t 23) (.i 0)), oQ 25 (.pick (.t 20) (.t 24) (.b false)), oM 2 25]) (
 .ret)) (.seq (.g [oF 27 0 1, oW 28 kI 27, oBi 29 .eql 28 2, oM 26 29]) (
 .cond (.t 26) (.seq (.g [oF 30 2 1, oW 31 kI 30, oQ 32 (.call (.f 21) [.rd, .rd, .rd] false [.c .b] [.t 31, .i 1, .i 1000000]), oM 33 32, oJ 34 33 true (.fad 3 (.t 1)), oJ 35 33 true (.load false [.sl 7] (.t 34)), oJ 36 33 true (.call (.f 23) [.rd] false [.c .b] [.t 35]), oQ 37 (.pick (.t 33) (.t 36) (.b false)), oM 38 37, oJ 39 38 true (.fad 4 (.t 1)), oJ 40 38 true (.load false [.sl 2] (.t 39)), oJ 41 38 true (.len false (.t 40)), oJ 42 38 true (.bin .eql (.t 41) (.i 0)), oQ 43 (.pick (.t 38) (.t 42) (.b false)), oM 2 43]) (
 .ret)) (.skip)))))))) (
 .seq (.g [oV 2 false]) (
 .ret))))⟩
theorem a8q (T : Table) (k : Nat) (n1 n3 : Int) (s2 : ByteArray) (l4 l5 : Rows): evalF T k a8 [.g [.v (.int .i64 n1), .v (.string s2), .v (.int .i64 n3), .s 7 l4, .s 2 l5]] = (
 callT T 20 [.d (.v (.string s2))] fun o6 =>
 oD o6.res fun d7 =>
 dB d7 fun b8 =>
 bif (!b8) then (
 some ⟨.d (.v (.bool false)), []⟩) else (
 bif (n1 == 1) then (
 callT T 21 [.d (.v (.int .i64 n3)), .d (.v (.int .i64 0)), .d (.v (.int .i64 1000000))] fun o9 =>
 oD o9.res fun d10 =>
 dB d10 fun b11 =>
 bif b11 == true then (
 callT T 22 [.d (.s 2 l5), .d (.v (.int .i64 0))] fun o12 =>
 oD o12.res fun d13 =>
 dB d13 fun b14 =>
 bif b14 == true then (
 some ⟨.d (.v (.bool ((l4.length : Int) == 0))), []⟩) else (
 some ⟨.d (.v (.bool false)), []⟩)) else (
 some ⟨.d (.v (.bool false)), []⟩)) else (
 bif (n1 == 2) then (
 callT T 21 [.d (.v (.int .i64 n3)), .d (.v (.int .i64 1)), .d (.v (.int .i64 1000000))] fun o15 =>
 oD o15.res fun d16 =>
 dB d16 fun b17 =>
 bif b17 == true then (
 callT T 23 [.d (.s 7 l4)] fun o18 =>
 oD o18.res fun d19 =>
 dB d19 fun b20 =>
 bif b20 == true then (
 some ⟨.d (.v (.bool ((l5.length : Int) == 0))), []⟩) else (
 some ⟨.d (.v (.bool false)), []⟩)) else (
 some ⟨.d (.v (.bool false)), []⟩)) else (
 some ⟨.d (.v (.bool false)), []⟩)))) := by kernel_rfl
/- loop.example/g00119/impl.digits -/
def b58x0 : ACode := (
 .seq (.g [oB 29 .lss 28 27]) (
 .seq (.cond (.t 29) (.skip) (.exit 0)) (
 .seq (.block 1 (.seq (.g [oM 30 28, oM 7 30]) (
 .seq (.seq (.g [oM 31 0, oM 32 7, oQ 33 (.idx (.t 31) (.t 32)), oQ 34 (.bin .lss (.t 33) (.c (.v (.int .u8 48)))), oM 35 34, oJ 36 35 false (.mv (.t 0)), oJ 37 35 false (.mv (.t 7)), oJ 38 35 false (.idx (.t 36) (.t 37)), oJ 39 35 false (.bin .gtr (.t 38) (.c (.v (.int .u8 57)))), oQ 40 (.pick (.t 35) (.b true) (.t 39))]) (
 .cond (.t 40) (.seq (.g [oK 4 0, oV 5 false]) (
 .ret)) (.skip))) (
 .g [oM 41 6, oQ 42 (.bin .mul (.i 10) (.t 41)), oM 43 0, oM 44 7, oQ 45 (.idx (.t 43) (.t 44)), oQ 46 (.bin .sub (.t 45) (.c (.v (.int .u8 48)))), oQ 47 (.conv (.int .i64) (.t 46)), oB 48 .add 42 47, oM 6 48])))) (
 .g [oBi 49 .add 28 1, oM 28 49]))))
def e58x0 : Exits := [(.ret, [(4, .c kI), (5, .c .b)]), ((.exit 0), [(6, .c kI)])]
noncomputable def l58x0 (T : Table) (k : Nat) := loopN (evalC ⟨T, [], []⟩ k b58x0 (Ex × List AV)) [0, 6, 27, 28] e58x0
def a58 : AFun := ⟨[.rd, .rd], false, [.t 4, .t 5], (
 .seq (.g [oK 4 0, oV 5 false]) (
 .seq (.seq (.g [oM 8 0, oQ 9 (.bin .eql (.t 8) (.c (.v (.string ({ data := #[] } : ByteArray))))), oM 10 9, oJ 11 10 false (.mv (.t 0)), oJ 12 10 false (.len true (.t 11)), oJ 13 10 false (.mv (.t 1)), oJ 14 10 false (.bin .gtr (.t 12) (.t 13)), oQ 15 (.pick (.t 10) (.b true) (.t 14)), oM 16 15, oJ 17 16 false (.mv (.t 0)), oJ 18 16 false (.idx (.t 17) (.i 0)), oJ 19 16 false (.bin .eql (.t 18) (.c (.v (.int .u8 48)))), oJ 20 16 false (.mv (.t 19)), oJ 21 20 true (.mv (.t 0)), oJ 22 20 true (.len true (.t 21)), oJ 23 20 true (.bin .gtr (.t 22) (.i 1)), oJ 24 16 false (.pick (.t 20) (.t 23) (.b false)), oQ 25 (.pick (.t 16) (.b true) (.t 24))]) (
 .cond (.t 25) (.seq (.g [oK 4 0, oV 5 false]) (
 .ret)) (.skip))) (
 .seq (.g [oK 6 0]) (
 .seq (.seq (.g [oM 26 0, oQ 27 (.len true (.t 26)), oK 28 0]) (
 .block 0 (.loop [0, 6, 27, 28] e58x0 b58x0))) (
 .seq (.g [oM 50 6, oM 4 50, oV 5 true]) (
 .ret))))))⟩
theorem l58x0s (T : Table) (k n : Nat) (s4 : ByteArray) (n5 n6 n7 : Int): l58x0 T k (n + 1) [.v (.string s4), .v (.int .i64 n5), .v (.int .i64 n6), .v (.int .i64 n7)] = (
 bif (decide (n7 < n6)) then (
 tst (decide (0 ≤ n7)) (
 byteAt s4 (Int.toNat n7) fun c8 =>
 bif (decide ((c8.toNat : Int) < 48)) == false then (
 tst (decide (0 ≤ n7)) (
 byteAt s4 (Int.toNat n7) fun c9 =>
 bif (decide ((c9.toNat : Int) > 57)) then (
 some (.ret, [.v (.int .i64 0), .v (.bool false)])) else (
 tst (decide (0 ≤ n7)) (
 byteAt s4 (Int.toNat n7) fun c10 =>
 l58x0 T k n [.v (.string s4), .v (.int .i64 (IntKind.wrap .i64 ((IntKind.wrap .i64 (10 * n5)) + (IntKind.wrap .i64 (IntKind.wrap .u8 ((c10.toNat : Int) - 48)))))), .v (.int .i64 n6), .v (.int .i64 (IntKind.wrap .i64 (n7 + 1)))])))) else (
 some (.ret, [.v (.int .i64 0), .v (.bool false)])))) else (
 some ((.exit 0), [.v (.int .i64 n5)]))) := by kernel_rfl
theorem a58q (T : Table) (k : Nat) (s1 : ByteArray) (n2 : Int): evalF T k a58 [.d (.v (.string s1)), .d (.v (.int .i64 n2))] = (
 bif (bytesEq s1 ({ data := #[] } : ByteArray)) == false then (
 bif (decide ((s1.size : Int) > n2)) == false then (
 tst (decide (0 ≤ 0)) (
 byteAt s1 (Int.toNat 0) fun c3 =>
 bif ((c3.toNat : Int) == 48) == true then (
 bif (decide ((s1.size : Int) > 1)) then (
 some ⟨.t [.d (.v (.int .i64 0)), .d (.v (.bool false))], []⟩) else (
 aft (l58x0 T k k [.v (.string s1), .v (.int .i64 0), .v (.int .i64 (s1.size : Int)), .v (.int .i64 0)]) fun e11 ys12 =>
 bif e11.same .ret then (
 aV ys12 0 fun x13 =>
 aI .i64 x13 fun n14 =>
 aV ys12 1 fun x15 =>
 aB x15 fun b16 =>
 some ⟨.t [.d (.v (.int .i64 n14)), .d (.v (.bool b16))], []⟩) else (
 bif e11.same (.exit 0) then (
 aV ys12 0 fun x17 =>
 aI .i64 x17 fun n18 =>
 some ⟨.t [.d (.v (.int .i64 n18)), .d (.v (.bool true))], []⟩) else (
 none)))) else (
 aft (l58x0 T k k [.v (.string s1), .v (.int .i64 0), .v (.int .i64 (s1.size : Int)), .v (.int .i64 0)]) fun e19 ys20 =>
 bif e19.same .ret then (
 aV ys20 0 fun x21 =>
 aI .i64 x21 fun n22 =>
 aV ys20 1 fun x23 =>
 aB x23 fun b24 =>
 some ⟨.t [.d (.v (.int .i64 n22)), .d (.v (.bool b24))], []⟩) else (
 bif e19.same (.exit 0) then (
 aV ys20 0 fun x25 =>
 aI .i64 x25 fun n26 =>
 some ⟨.t [.d (.v (.int .i64 n26)), .d (.v (.bool true))], []⟩) else (
 none))))) else (
 some ⟨.t [.d (.v (.int .i64 0)), .d (.v (.bool false))], []⟩)) else (
 some ⟨.t [.d (.v (.int .i64 0)), .d (.v (.bool false))], []⟩)) := by kernel_rfl
/- loop.example/g00119/impl.number -/
def a31 : AFun := ⟨[.rd], false, [.t 2, .t 3], (
 .seq (.g [oK 2 0, oV 3 false]) (
 .seq (.g [oM 4 0, oQ 5 (.call (.f 58) [.rd, .rd] false [.c kI, .c .b] [.t 4, .i 9]), oX 6 5 0, oX 7 5 1, oM 2 6, oM 3 7]) (
 .ret)))⟩
theorem a31q (T : Table) (k : Nat) (s1 : ByteArray): evalF T k a31 [.d (.v (.string s1))] = (
 callT T 58 [.d (.v (.string s1)), .d (.v (.int .i64 9))] fun o2 =>
 oT o2.res fun is3 =>
 tst (Nat.beq is3.length 2) (
 nth is3 0 fun i4 =>
 oD i4 fun d5 =>
 dI .i64 d5 fun n6 =>
 nth is3 1 fun i7 =>
 oD i7 fun d8 =>
 dB d8 fun b9 =>
 some ⟨.t [.d (.v (.int .i64 n6)), .d (.v (.bool b9))], []⟩)) := by kernel_rfl
/- (*loop.example/g00119/impl.parser).take -/
def a88 : AFun := ⟨[.lent, .rd], false, [.t 4], (
 .seq (.g [oV 4 false]) (
 .seq (.g [oM 8 0, oQ 9 (.more (.nck (.t 8))), oF 10 0 9, oW 11 .s 10, oM 12 1, oC 13 121 [.c .s, .c .b] [11, 12], oM 7 13, oX 14 7 0, oX 15 7 1, oM 5 14, oM 6 15]) (
 .seq (.g [oM 16 0, oM 17 5, oQ 18 (.more (.nck (.t 16))), oF 19 0 18, oS (.store 1 (.t 19) (.t 17))]) (
 .seq (.g [oM 20 6, oM 4 20]) (
 .ret)))))⟩
theorem a88q (T : Table) (k : Nat) (s1 s3 : ByteArray) (b2 : Bool): evalF T k a88 [.p [.v (.string s1), .v (.bool b2)], .d (.v (.string s3))] = (
 callT T 121 [.d (.v (.string s1)), .d (.v (.string s3))] fun o4 =>
 oT o4.res fun is5 =>
 tst (Nat.beq is5.length 2) (
 nth is5 0 fun i6 =>
 oD i6 fun d7 =>
 dS d7 fun s8 =>
 nth is5 1 fun i9 =>
 oD i9 fun d10 =>
 dB d10 fun b11 =>
 some ⟨.d (.v (.bool b11)), [.p [.v (.string s8), .v (.bool b2)]]⟩)) := by kernel_rfl
/- (*loop.example/g00119/impl.parser).text -/
def b89x0 : ACode := (
 .seq (.seq (.g [oM 6 0, oQ 7 (.more (.nck (.t 6))), oF 8 1 7, oW 9 .b 8, oM 10 9, oJ 11 10 true (.mv (.t 0)), oJ 12 10 true (.more (.nck (.t 11))), oJ 13 10 true (.fad 0 (.t 12)), oJ 14 10 true (.load false [.s] (.t 13)), oJ 15 10 true (.bin .neq (.t 14) (.c (.v (.string ({ data := #[] } : ByteArray))))), oQ 16 (.pick (.t 10) (.t 15) (.b false))]) (
 .cond (.t 16) (.skip) (.exit 0))) (
 .block 1 (.seq (.g [oM 17 0, oQ 18 (.more (.nck (.t 17))), oF 19 0 18, oW 20 .s 19, oQ 21 (.idx (.t 20) (.i 0)), oM 4 21]) (
 .seq (.g [oM 22 0, oM 23 0, oQ 24 (.more (.nck (.t 23))), oF 25 0 24, oW 26 .s 25, oQ 27 (.slc none (.t 26) (some (.i 1)) none), oQ 28 (.more (.nck (.t 22))), oF 29 0 28, oS (.store 1 (.t 29) (.t 27))]) (
 .seq (.seq (.g [oM 30 4, oQ 31 (.bin .eql (.t 30) (.c (.v (.int .u8 34))))]) (
 .cond (.t 31) (.seq (.g [oM 32 3, oQ 33 (.conv .bytesStr (.t 32)), oM 2 33]) (
 .ret)) (.skip))) (
 .seq (.seq (.g [oM 34 4, oQ 35 (.bin .eql (.t 34) (.c (.v (.int .u8 92)))), oM 36 35, oJ 37 36 true (.mv (.t 0)), oJ 38 36 true (.more (.nck (.t 37))), oJ 39 36 true (.fad 0 (.t 38)), oJ 40 36 true (.load false [.s] (.t 39)), oJ 41 36 true (.bin .neq (.t 40) (.c (.v (.string ({ data := #[] } : ByteArray))))), oQ 42 (.pick (.t 36) (.t 41) (.b false))]) (
 .cond (.t 42) (.seq (.g [oM 43 0, oQ 44 (.more (.nck (.t 43))), oF 45 0 44, oW 46 .s 45, oQ 47 (.idx (.t 46) (.i 0)), oM 4 47]) (
 .g [oM 48 0, oM 49 0, oQ 50 (.more (.nck (.t 49))), oF 51 0 50, oW 52 .s 51, oQ 53 (.slc none (.t 52) (some (.i 1)) none), oQ 54 (.more (.nck (.t 48))), oF 55 0 54, oS (.store 1 (.t 55) (.t 53))])) (.skip))) (
 .g [oM 56 3, oM 57 4, oQ 58 (.lit 1 ([[.v (.int .u8 0)]] : Rows) [(0, (.t 57))]), oQ 59 (.app 1 1 (.t 56) (.t 58)), oM 3 59])))))))
def e89x0 : Exits := [(.ret, [(0, .b [.c .s, .c .b]), (2, .c .s)]), ((.exit 0), [(0, .b [.c .s, .c .b])])]
noncomputable def l89x0 (T : Table) (k : Nat) := loopN (evalC ⟨T, [0], []⟩ k b89x0 (Ex × List AV)) [0, 3] e89x0
def a89 : AFun := ⟨[.lent], false, [.t 2], (
 .seq (.g [oQ 2 (.mv (.c (.v (.string ({ data := #[] } : ByteArray)))))]) (
 .seq (.g [oQ 5 (.lit 1 ([] : Rows) []), oM 3 5]) (
 .seq (.block 0 (.loop [0, 3] e89x0 b89x0)) (
 .seq (.g [oM 60 0, oQ 61 (.more (.nck (.t 60))), oF 62 1 61, oS (.store 1 (.t 62) (.b false))]) (
 .seq (.g [oQ 2 (.mv (.c (.v (.string ({ data := #[] } : ByteArray)))))]) (
 .ret))))))⟩
theorem l89x0s (T : Table) (k n : Nat) (s3 : ByteArray) (b4 : Bool) (l5 : Rows): l89x0 T k (n + 1) [.b [.v (.string s3), .v (.bool b4)], .o 1 l5] = (
 bif b4 == true then (
 bif (!(bytesEq s3 ({ data := #[] } : ByteArray))) then (
 tst (decide (0 ≤ 0)) (
 byteAt s3 (Int.toNat 0) fun c6 =>
 tst (cutOk 1 (s3.size : Int) (s3.size)) (
 bif ((c6.toNat : Int) == 34) then (
 tst (allBytes l5) (
 some (.ret, [.b [.v (.string (s3.extract (Int.toNat 1) (Int.toNat (s3.size : Int)))), .v (.bool b4)], .v (.string (bytesOfRows l5))]))) else (
 bif ((c6.toNat : Int) == 92) == true then (
 bif (!(bytesEq (s3.extract (Int.toNat 1) (Int.toNat (s3.size : Int))) ({ data := #[] } : ByteArray))) then (
 tst (decide (0 ≤ 0)) (
 byteAt (s3.extract (Int.toNat 1) (Int.toNat (s3.size : Int))) (Int.toNat 0) fun c7 =>
 tst (cutOk 1 ((s3.extract (Int.toNat 1) (Int.toNat (s3.size : Int))).size : Int) ((s3.extract (Int.toNat 1) (Int.toNat (s3.size : Int))).size)) (
 tst (decide ((l5.length + ([[.v (.int .u8 (c7.toNat : Int))]] : Rows).length) * 1 ≤ maxBytes)) (
 l89x0 T k n [.b [.v (.string ((s3.extract (Int.toNat 1) (Int.toNat (s3.size : Int))).extract (Int.toNat 1) (Int.toNat ((s3.extract (Int.toNat 1) (Int.toNat (s3.size : Int))).size : Int)))), .v (.bool b4)], .o 1 (l5 ++ ([[.v (.int .u8 (c7.toNat : Int))]] : Rows))])))) else (
 tst (decide ((l5.length + ([[.v (.int .u8 (c6.toNat : Int))]] : Rows).length) * 1 ≤ maxBytes)) (
 l89x0 T k n [.b [.v (.string (s3.extract (Int.toNat 1) (Int.toNat (s3.size : Int)))), .v (.bool b4)], .o 1 (l5 ++ ([[.v (.int .u8 (c6.toNat : Int))]] : Rows))]))) else (
 tst (decide ((l5.length + ([[.v (.int .u8 (c6.toNat : Int))]] : Rows).length) * 1 ≤ maxBytes)) (
 l89x0 T k n [.b [.v (.string (s3.extract (Int.toNat 1) (Int.toNat (s3.size : Int)))), .v (.bool b4)], .o 1 (l5 ++ ([[.v (.int .u8 (c6.toNat : Int))]] : Rows))])))))) else (
 some ((.exit 0), [.b [.v (.string s3), .v (.bool b4)]]))) else (
 some ((.exit 0), [.b [.v (.string s3), .v (.bool b4)]]))) := by kernel_rfl
theorem a89q (T : Table) (k : Nat) (s1 : ByteArray) (b2 : Bool): evalF T k a89 [.p [.v (.string s1), .v (.bool b2)]] = (
 aft (l89x0 T k k [.b [.v (.string s1), .v (.bool b2)], .o 1 []]) fun e8 ys9 =>
 bif e8.same .ret then (
 aV ys9 0 fun x10 =>
 aX x10 fun xs11 =>
 aV xs11 0 fun x12 =>
 aS x12 fun s13 =>
 aV xs11 1 fun x14 =>
 aB x14 fun b15 =>
 aV ys9 1 fun x16 =>
 aS x16 fun s17 =>
 some ⟨.d (.v (.string s17)), [.p [.v (.string s13), .v (.bool b15)]]⟩) else (
 bif e8.same (.exit 0) then (
 aV ys9 0 fun x18 =>
 aX x18 fun xs19 =>
 aV xs19 0 fun x20 =>
 aS x20 fun s21 =>
 aV xs19 1 fun x22 =>
 aB x22 fun b23 =>
 some ⟨.d (.v (.string ({ data := #[] } : ByteArray))), [.p [.v (.string s21), .v (.bool false)]]⟩) else (
 none))) := by kernel_rfl
/- (*loop.example/g00119/impl.parser).till -/
def a91 : AFun := ⟨[.lent, .rd], false, [.t 4], (
 .seq (.g [oQ 4 (.mv (.c (.v (.string ({ data := #[] } : ByteArray)))))]) (
 .seq (.g [oM 7 0, oQ 8 (.more (.nck (.t 7))), oF 9 0 8, oW 10 .s 9, oM 11 1, oC 12 123 [.c kI] [10, 11], oM 5 12]) (
 .seq (.seq (.g [oM 13 5, oBi 14 .lss 13 0]) (
 .cond (.t 14) (.g [oM 15 0, oQ 16 (.more (.nck (.t 15))), oF 17 0 16, oW 18 .s 17, oQ 19 (.len true (.t 18)), oM 5 19]) (.skip))) (
 .seq (.g [oM 20 0, oQ 21 (.more (.nck (.t 20))), oF 22 0 21, oW 23 .s 22, oM 24 5, oQ 25 (.slc none (.t 23) none (some (.t 24))), oM 6 25]) (
 .seq (.g [oM 26 0, oM 27 0, oQ 28 (.more (.nck (.t 27))), oF 29 0 28, oW 30 .s 29, oM 31 5, oQ 32 (.slc none (.t 30) (some (.t 31)) none), oQ 33 (.more (.nck (.t 26))), oF 34 0 33, oS (.store 1 (.t 34) (.t 32))]) (
 .seq (.g [oM 35 6, oM 4 35]) (
 .ret)))))))⟩
theorem a91q (T : Table) (k : Nat) (s1 s3 : ByteArray) (b2 : Bool): evalF T k a91 [.p [.v (.string s1), .v (.bool b2)], .d (.v (.string s3))] = (
 callT T 123 [.d (.v (.string s1)), .d (.v (.string s3))] fun o4 =>
 oD o4.res fun d5 =>
 dI .i64 d5 fun n6 =>
 bif (decide (n6 < 0)) then (
 tst (cutOk 0 (s1.size : Int) (s1.size)) (
 tst (cutOk (s1.size : Int) (s1.size : Int) (s1.size)) (
 some ⟨.d (.v (.string (s1.extract (Int.toNat 0) (Int.toNat (s1.size : Int))))), [.p [.v (.string (s1.extract (Int.toNat (s1.size : Int)) (Int.toNat (s1.size : Int)))), .v (.bool b2)]]⟩))) else (
 tst (cutOk 0 n6 (s1.size)) (
 tst (cutOk n6 (s1.size : Int) (s1.size)) (
 some ⟨.d (.v (.string (s1.extract (Int.toNat 0) (Int.toNat n6)))), [.p [.v (.string (s1.extract (Int.toNat n6) (Int.toNat (s1.size : Int)))), .v (.bool b2)]]⟩)))) := by kernel_rfl
/- (*loop.example/g00119/impl.parser).need -/
def a122 : AFun := ⟨[.lent, .rd], false, [], (
 .seq (.g [oM 4 0, oM 5 1, oQ 6 (.call (.f 88) [.lent, .rd] false [.c .b] [.t 4, .t 5]), oN 7 6]) (
 .cond (.t 7) (.g [oM 8 0, oQ 9 (.more (.nck (.t 8))), oF 10 1 9, oS (.store 1 (.t 10) (.b false))]) (.skip)))⟩
theorem a122q (T : Table) (k : Nat) (s1 s3 : ByteArray) (b2 : Bool): evalF T k a122 [.p [.v (.string s1), .v (.bool b2)], .d (.v (.string s3))] = (
 callT T 88 [.p [.v (.string s1), .v (.bool b2)], .d (.v (.string s3))] fun o4 =>
 nth o4.back 0 fun i5 =>
 oP i5 fun r6 =>
 tst (Nat.beq r6.length 2) (
 cS r6 0 fun s7 =>
 cB r6 1 fun b8 =>
 oD o4.res fun d9 =>
 dB d9 fun b10 =>
 bif (!b10) then (
 some ⟨.t [], [.p [.v (.string s7), .v (.bool false)]]⟩) else (
 some ⟨.t [], [.p [.v (.string s7), .v (.bool b8)]]⟩))) := by kernel_rfl
-- a123 "strings.IndexAny": op range
/- (*loop.example/g00119/impl.parser).kids -/
def b90x0 : ACode := (
 .seq (.seq (.g [oM 18 0, oQ 19 (.more (.nck (.t 18))), oF 20 1 19, oW 21 .b 20, oM 22 21, oJ 23 22 true (.fad 4 (.t 9)), oJ 24 22 true (.load false [.sl 5] (.t 23)), oJ 25 22 true (.len false (.t 24)), oJ 26 22 true (.bin .leq (.t 25) (.i 300)), oQ 27 (.pick (.t 22) (.t 26) (.b false))]) (
 .cond (.t 27) (.skip) (.exit 0))) (
 .block 1 (.seq (.seq (.g [oM 28 1, oBi 29 .eql 28 5]) (
 .cond (.t 29) (.seq (.g [oM 30 0, oQ 31 (.call (.f 91) [.lent, .rd] false [.c .s] [.t 30, .c (.v (.string ({ data := #[58] } : ByteArray)))]), oM 10 31]) (
 .seq (.g [oM 32 0, oQ 33 (.call (.f 122) [.lent, .rd] false [] [.t 32, .c (.v (.string ({ data := #[58] } : ByteArray)))])]) (
 .g [oF 34 3 9, oW 35 (.sl 1) 34, oM 36 10, oQ 37 (.lit 1 ([[.v (.string ByteArray.empty)]] : Rows) [(0, (.t 36))]), oQ 38 (.app 1 16 (.t 35) (.t 37)), oF 39 3 9, oS (.store 1 (.t 39) (.t 38))]))) (.skip))) (
 .seq (.g [oM 40 0, oM 41 3, oBi 42 .sub 41 1, oQ 43 (.call (.f 59) [.lent, .rd] false [.g [kI, .s, kI, .sl 1, .sl 5]] [.t 40, .t 42]), oQ 11 (.alloc [.v (.int .i64 0), .v (.string ByteArray.empty), .v (.int .i64 0), .s 1 [], .s 5 []]), oS (.store 5 (.t 11) (.t 43))]) (
 .seq (.g [oF 44 4 9, oW 45 (.sl 5) 44, oL 46 [kI, .s, kI, .sl 1, .sl 5] 11, oQ 47 (.lit 5 ([[.v (.int .i64 0), .v (.string ByteArray.empty), .v (.int .i64 0), .s 1 [], .s 5 []]] : Rows) [(0, (.t 46))]), oQ 48 (.app 5 80 (.t 45) (.t 47)), oF 49 4 9, oS (.store 1 (.t 49) (.t 48))]) (
 .seq (.g [oM 50 0, oQ 51 (.call (.f 88) [.lent, .rd] false [.c .b] [.t 50, .c (.v (.string ({ data := #[44] } : ByteArray)))]), oN 52 51]) (
 .cond (.t 52) (.exit 0) (.skip))))))))
def e90x0 : Exits := [((.exit 0), [(0, .b [.c .s, .c .b]), (2, .c .s), (8, .b [.c kI, .c .s, .c kI, .o 1, .o 5]), (9, .b [.c kI, .c .s, .c kI, .o 1, .o 5])])]
noncomputable def l90x0 (T : Table) (k : Nat) := loopN (evalC ⟨T, [0], []⟩ k b90x0 (Ex × List AV)) [0, 1, 2, 3, 8, 9] e90x0
def a90 : AFun := ⟨[.lent, .rd, .rd, .rd], false, [.c 8 true [kI, .s, kI, .sl 1, .sl 5]], (
 .seq (.g [oQ 8 (.alloc [.v (.int .i64 0), .v (.string ByteArray.empty), .v (.int .i64 0), .s 1 [], .s 5 []])]) (
 .seq (.g [oM 12 1, oQ 13 (.build [.v (.int .i64 0), .v (.string ByteArray.empty), .v (.int .i64 0), .s 1 [], .s 5 []] [(0, 1, (.t 12))]), oQ 9 (.alloc [.v (.int .i64 0), .v (.string ByteArray.empty), .v (.int .i64 0), .s 1 [], .s 5 []]), oS (.store 5 (.t 9) (.t 13))]) (
 .seq (.seq (.g [oM 14 0, oM 15 2, oQ 16 (.call (.f 88) [.lent, .rd] false [.c .b] [.t 14, .t 15])]) (
 .cond (.t 16) (.seq (.g [oL 17 [kI, .s, kI, .sl 1, .sl 5] 9, oS (.store 5 (.t 8) (.t 17))]) (
 .ret)) (.skip))) (
 .seq (.block 0 (.loop [0, 1, 2, 3, 8, 9] e90x0 b90x0)) (
 .seq (.g [oM 53 0, oM 54 2, oQ 55 (.call (.f 122) [.lent, .rd] false [] [.t 53, .t 54])]) (
 .seq (.g [oL 56 [kI, .s, kI, .sl 1, .sl 5] 9, oS (.store 5 (.t 8) (.t 56))]) (
 .ret)))))))⟩
theorem l90x0s (T : Table) (k n : Nat) (s13 s16 s19 s24 : ByteArray) (b14 : Bool) (n15 n17 n18 n20 n23 n25 : Int) (l21 l22 l26 l27 : Rows): l90x0 T k (n + 1) [.b [.v (.string s13), .v (.bool b14)], .v (.int .i64 n15), .v (.string s16), .v (.int .i64 n17), .b [.v (.int .i64 n18), .v (.string s19), .v (.int .i64 n20), .o 1 l21, .o 5 l22], .b [.v (.int .i64 n23), .v (.string s24), .v (.int .i64 n25), .o 1 l26, .o 5 l27]] = (
 bif b14 == true then (
 bif (decide ((l27.length : Int) ≤ 300)) then (
 bif (n15 == 5) then (
 callT T 91 [.p [.v (.string s13), .v (.bool b14)], .d (.v (.string ({ data := #[58] } : ByteArray)))] fun o28 =>
 nth o28.back 0 fun i29 =>
 oP i29 fun r30 =>
 tst (Nat.beq r30.length 2) (
 cS r30 0 fun s31 =>
 cB r30 1 fun b32 =>
 oD o28.res fun d33 =>
 dS d33 fun s34 =>
 callT T 122 [.p [.v (.string s31), .v (.bool b32)], .d (.v (.string ({ data := #[58] } : ByteArray)))] fun o35 =>
 nth o35.back 0 fun i36 =>
 oP i36 fun r37 =>
 tst (Nat.beq r37.length 2) (
 cS r37 0 fun s38 =>
 cB r37 1 fun b39 =>
 oT o35.res fun is40 =>
 tst (Nat.beq is40.length 0) (
 tst (decide ((l26.length + ([[.v (.string s34)]] : Rows).length) * 16 ≤ maxBytes)) (
 callT T 59 [.p [.v (.string s38), .v (.bool b39)], .d (.v (.int .i64 (IntKind.wrap .i64 (n17 - 1))))] fun o41 =>
 nth o41.back 0 fun i42 =>
 oP i42 fun r43 =>
 tst (Nat.beq r43.length 2) (
 cS r43 0 fun s44 =>
 cB r43 1 fun b45 =>
 oG o41.res fun r46 =>
 tst (Nat.beq r46.length 5) (
 cI .i64 r46 0 fun n47 =>
 cS r46 1 fun s48 =>
 cI .i64 r46 2 fun n49 =>
 cL 1 r46 3 fun l50 =>
 cL 5 r46 4 fun l51 =>
 tst (decide ((l27.length + ([[.v (.int .i64 n47), .v (.string s48), .v (.int .i64 n49), hole, hole]] : Rows).length) * 80 ≤ maxBytes)) (
 callT T 88 [.p [.v (.string s44), .v (.bool b45)], .d (.v (.string ({ data := #[44] } : ByteArray)))] fun o52 =>
 nth o52.back 0 fun i53 =>
 oP i53 fun r54 =>
 tst (Nat.beq r54.length 2) (
 cS r54 0 fun s55 =>
 cB r54 1 fun b56 =>
 oD o52.res fun d57 =>
 dB d57 fun b58 =>
 bif (!b58) then (
 some ((.exit 0), [.b [.v (.string s55), .v (.bool b56)], .v (.string s16), .b [.v (.int .i64 n18), .v (.string s19), .v (.int .i64 n20), .o 1 l21, .o 5 l22], .b [.v (.int .i64 n23), .v (.string s24), .v (.int .i64 n25), .o 1 (l26 ++ ([[.v (.string s34)]] : Rows)), .o 5 (setD (setD (l27 ++ ([[.v (.int .i64 n47), .v (.string s48), .v (.int .i64 n49), hole, hole]] : Rows)) (0 + l27.length) 4 (.s 5 l51)) (0 + l27.length) 3 (.s 1 l50))]])) else (
 l90x0 T k n [.b [.v (.string s55), .v (.bool b56)], .v (.int .i64 n15), .v (.string s16), .v (.int .i64 n17), .b [.v (.int .i64 n18), .v (.string s19), .v (.int .i64 n20), .o 1 l21, .o 5 l22], .b [.v (.int .i64 n23), .v (.string s24), .v (.int .i64 n25), .o 1 (l26 ++ ([[.v (.string s34)]] : Rows)), .o 5 (setD (setD (l27 ++ ([[.v (.int .i64 n47), .v (.string s48), .v (.int .i64 n49), hole, hole]] : Rows)) (0 + l27.length) 4 (.s 5 l51)) (0 + l27.length) 3 (.s 1 l50))]])))))))))) else (
 callT T 59 [.p [.v (.string s13), .v (.bool b14)], .d (.v (.int .i64 (IntKind.wrap .i64 (n17 - 1))))] fun o59 =>
 nth o59.back 0 fun i60 =>
 oP i60 fun r61 =>
 tst (Nat.beq r61.length 2) (
 cS r61 0 fun s62 =>
 cB r61 1 fun b63 =>
 oG o59.res fun r64 =>
 tst (Nat.beq r64.length 5) (
 cI .i64 r64 0 fun n65 =>
 cS r64 1 fun s66 =>
 cI .i64 r64 2 fun n67 =>
 cL 1 r64 3 fun l68 =>
 cL 5 r64 4 fun l69 =>
 tst (decide ((l27.length + ([[.v (.int .i64 n65), .v (.string s66), .v (.int .i64 n67), hole, hole]] : Rows).length) * 80 ≤ maxBytes)) (
 callT T 88 [.p [.v (.string s62), .v (.bool b63)], .d (.v (.string ({ data := #[44] } : ByteArray)))] fun o70 =>
 nth o70.back 0 fun i71 =>
 oP i71 fun r72 =>
 tst (Nat.beq r72.length 2) (
 cS r72 0 fun s73 =>
 cB r72 1 fun b74 =>
 oD o70.res fun d75 =>
 dB d75 fun b76 =>
 bif (!b76) then (
 some ((.exit 0), [.b [.v (.string s73), .v (.bool b74)], .v (.string s16), .b [.v (.int .i64 n18), .v (.string s19), .v (.int .i64 n20), .o 1 l21, .o 5 l22], .b [.v (.int .i64 n23), .v (.string s24), .v (.int .i64 n25), .o 1 l26, .o 5 (setD (setD (l27 ++ ([[.v (.int .i64 n65), .v (.string s66), .v (.int .i64 n67), hole, hole]] : Rows)) (0 + l27.length) 4 (.s 5 l69)) (0 + l27.length) 3 (.s 1 l68))]])) else (
 l90x0 T k n [.b [.v (.string s73), .v (.bool b74)], .v (.int .i64 n15), .v (.string s16), .v (.int .i64 n17), .b [.v (.int .i64 n18), .v (.string s19), .v (.int .i64 n20), .o 1 l21, .o 5 l22], .b [.v (.int .i64 n23), .v (.string s24), .v (.int .i64 n25), .o 1 l26, .o 5 (setD (setD (l27 ++ ([[.v (.int .i64 n65), .v (.string s66), .v (.int .i64 n67), hole, hole]] : Rows)) (0 + l27.length) 4 (.s 5 l69)) (0 + l27.length) 3 (.s 1 l68))]]))))))) else (
 some ((.exit 0), [.b [.v (.string s13), .v (.bool b14)], .v (.string s16), .b [.v (.int .i64 n18), .v (.string s19), .v (.int .i64 n20), .o 1 l21, .o 5 l22], .b [.v (.int .i64 n23), .v (.string s24), .v (.int .i64 n25), .o 1 l26, .o 5 l27]]))) else (
 some ((.exit 0), [.b [.v (.string s13), .v (.bool b14)], .v (.string s16), .b [.v (.int .i64 n18), .v (.string s19), .v (.int .i64 n20), .o 1 l21, .o 5 l22], .b [.v (.int .i64 n23), .v (.string s24), .v (.int .i64 n25), .o 1 l26, .o 5 l27]]))) := by kernel_rfl
theorem a90q (T : Table) (k : Nat) (s1 s4 : ByteArray) (b2 : Bool) (n3 n5 : Int): evalF T k a90 [.p [.v (.string s1), .v (.bool b2)], .d (.v (.int .i64 n3)), .d (.v (.string s4)), .d (.v (.int .i64 n5))] = (
 callT T 88 [.p [.v (.string s1), .v (.bool b2)], .d (.v (.string s4))] fun o6 =>
 nth o6.back 0 fun i7 =>
 oP i7 fun r8 =>
 tst (Nat.beq r8.length 2) (
 cS r8 0 fun s9 =>
 cB r8 1 fun b10 =>
 oD o6.res fun d11 =>
 dB d11 fun b12 =>
 bif b12 then (
 some ⟨.g [.v (.int .i64 n3), .v (.string ByteArray.empty), .v (.int .i64 0), .s 1 [], .s 5 []], [.p [.v (.string s9), .v (.bool b10)]]⟩) else (
 aft (l90x0 T k k [.b [.v (.string s9), .v (.bool b10)], .v (.int .i64 n3), .v (.string s4), .v (.int .i64 n5), .b [.v (.int .i64 0), .v (.string ByteArray.empty), .v (.int .i64 0), .o 1 [], .o 5 []], .b [.v (.int .i64 n3), .v (.string ByteArray.empty), .v (.int .i64 0), .o 1 [], .o 5 []]]) fun e77 ys78 =>
 bif e77.same (.exit 0) then (
 aV ys78 0 fun x79 =>
 aX x79 fun xs80 =>
 aV xs80 0 fun x81 =>
 aS x81 fun s82 =>
 aV xs80 1 fun x83 =>
 aB x83 fun b84 =>
 aV ys78 1 fun x85 =>
 aS x85 fun s86 =>
 aV ys78 2 fun x87 =>
 aX x87 fun xs88 =>
 aV xs88 0 fun x89 =>
 aI .i64 x89 fun n90 =>
 aV xs88 1 fun x91 =>
 aS x91 fun s92 =>
 aV xs88 2 fun x93 =>
 aI .i64 x93 fun n94 =>
 aV xs88 3 fun x95 =>
 aO 1 x95 fun l96 =>
 aV xs88 4 fun x97 =>
 aO 5 x97 fun l98 =>
 aV ys78 3 fun x99 =>
 aX x99 fun xs100 =>
 aV xs100 0 fun x101 =>
 aI .i64 x101 fun n102 =>
 aV xs100 1 fun x103 =>
 aS x103 fun s104 =>
 aV xs100 2 fun x105 =>
 aI .i64 x105 fun n106 =>
 aV xs100 3 fun x107 =>
 aO 1 x107 fun l108 =>
 aV xs100 4 fun x109 =>
 aO 5 x109 fun l110 =>
 callT T 122 [.p [.v (.string s82), .v (.bool b84)], .d (.v (.string s86))] fun o111 =>
 nth o111.back 0 fun i112 =>
 oP i112 fun r113 =>
 tst (Nat.beq r113.length 2) (
 cS r113 0 fun s114 =>
 cB r113 1 fun b115 =>
 oT o111.res fun is116 =>
 tst (Nat.beq is116.length 0) (
 some ⟨.g [.v (.int .i64 n102), .v (.string s104), .v (.int .i64 n106), .s 1 l108, .s 5 l110], [.p [.v (.string s114), .v (.bool b115)]]⟩))) else (
 none)))) := by kernel_rfl
/- loop.example/g00119/impl.integer -/
def b92x0 : ACode := (
 .seq (.g [oB 19 .lss 18 17]) (
 .seq (.cond (.t 19) (.skip) (.exit 0)) (
 .seq (.block 1 (.seq (.g [oM 20 18, oM 6 20]) (
 .seq (.seq (.g [oM 21 4, oM 22 6, oQ 23 (.idx (.t 21) (.t 22)), oQ 24 (.bin .lss (.t 23) (.c (.v (.int .u8 48)))), oM 25 24, oJ 26 25 false (.mv (.t 4)), oJ 27 25 false (.mv (.t 6)), oJ 28 25 false (.idx (.t 26) (.t 27)), oJ 29 25 false (.bin .gtr (.t 28) (.c (.v (.int .u8 57)))), oQ 30 (.pick (.t 25) (.b true) (.t 29))]) (
 .cond (.t 30) (.seq (.g [oK 2 0, oV 3 false]) (
 .ret)) (.skip))) (
 .g [oM 31 5, oQ 32 (.bin .mul (.i 10) (.t 31)), oM 33 4, oM 34 6, oQ 35 (.idx (.t 33) (.t 34)), oQ 36 (.bin .sub (.t 35) (.c (.v (.int .u8 48)))), oQ 37 (.conv (.int .i64) (.t 36)), oB 38 .sub 32 37, oM 5 38])))) (
 .g [oBi 39 .add 18 1, oM 18 39]))))
def e92x0 : Exits := [(.ret, [(2, .c kI), (3, .c .b)]), ((.exit 0), [(0, .c .s), (4, .c .s), (5, .c kI)])]
noncomputable def l92x0 (T : Table) (k : Nat) := loopN (evalC ⟨T, [], []⟩ k b92x0 (Ex × List AV)) [0, 4, 5, 17, 18] e92x0
def a92 : AFun := ⟨[.rd], false, [.t 2, .t 3], (
 .seq (.g [oK 2 0, oV 3 false]) (
 .seq (.g [oM 7 0, oQ 8 (.call (.f 124) [.rd, .rd] false [.c .s] [.t 7, .c (.v (.string ({ data := #[45] } : ByteArray)))]), oM 4 8]) (
 .seq (.seq (.g [oM 9 4, oQ 10 (.bin .eql (.t 9) (.c (.v (.string ({ data := #[] } : ByteArray))))), oM 11 10, oJ 12 11 false (.mv (.t 4)), oJ 13 11 false (.len true (.t 12)), oJ 14 11 false (.bin .gtr (.t 13) (.i 19)), oQ 15 (.pick (.t 11) (.b true) (.t 14))]) (
 .cond (.t 15) (.seq (.g [oK 2 0, oV 3 false]) (
 .ret)) (.skip))) (
 .seq (.g [oK 5 0]) (
 .seq (.seq (.g [oM 16 4, oQ 17 (.len true (.t 16)), oK 18 0]) (
 .block 0 (.loop [0, 4, 5, 17, 18] e92x0 b92x0))) (
 .seq (.seq (.g [oM 40 4, oQ 41 (.len true (.t 40)), oM 42 0, oQ 43 (.len true (.t 42)), oB 44 .eql 41 43]) (
 .cond (.t 44) (.g [oM 45 5, oQ 46 (.un .neg (.t 45)), oM 5 46]) (.skip))) (
 .seq (.g [oM 47 5, oM 48 5, oC 49 18 [.c .s] [48], oM 50 0, oB 51 .eql 49 50, oM 2 47, oM 3 51]) (
 .ret))))))))⟩
theorem l92x0s (T : Table) (k n : Nat) (s5 s6 : ByteArray) (n7 n8 n9 : Int): l92x0 T k (n + 1) [.v (.string s5), .v (.string s6), .v (.int .i64 n7), .v (.int .i64 n8), .v (.int .i64 n9)] = (
 bif (decide (n9 < n8)) then (
 tst (decide (0 ≤ n9)) (
 byteAt s6 (Int.toNat n9) fun c10 =>
 bif (decide ((c10.toNat : Int) < 48)) == false then (
 tst (decide (0 ≤ n9)) (
 byteAt s6 (Int.toNat n9) fun c11 =>
 bif (decide ((c11.toNat : Int) > 57)) then (
 some (.ret, [.v (.int .i64 0), .v (.bool false)])) else (
 tst (decide (0 ≤ n9)) (
 byteAt s6 (Int.toNat n9) fun c12 =>
 l92x0 T k n [.v (.string s5), .v (.string s6), .v (.int .i64 (IntKind.wrap .i64 ((IntKind.wrap .i64 (10 * n7)) - (IntKind.wrap .i64 (IntKind.wrap .u8 ((c12.toNat : Int) - 48)))))), .v (.int .i64 n8), .v (.int .i64 (IntKind.wrap .i64 (n9 + 1)))])))) else (
 some (.ret, [.v (.int .i64 0), .v (.bool false)])))) else (
 some ((.exit 0), [.v (.string s5), .v (.string s6), .v (.int .i64 n7)]))) := by kernel_rfl
theorem a92q (T : Table) (k : Nat) (s1 : ByteArray): evalF T k a92 [.d (.v (.string s1))] = (
 callT T 124 [.d (.v (.string s1)), .d (.v (.string ({ data := #[45] } : ByteArray)))] fun o2 =>
 oD o2.res fun d3 =>
 dS d3 fun s4 =>
 bif (bytesEq s4 ({ data := #[] } : ByteArray)) == false then (
 bif (decide ((s4.size : Int) > 19)) then (
 some ⟨.t [.d (.v (.int .i64 0)), .d (.v (.bool false))], []⟩) else (
 aft (l92x0 T k k [.v (.string s1), .v (.string s4), .v (.int .i64 0), .v (.int .i64 (s4.size : Int)), .v (.int .i64 0)]) fun e13 ys14 =>
 bif e13.same .ret then (
 aV ys14 0 fun x15 =>
 aI .i64 x15 fun n16 =>
 aV ys14 1 fun x17 =>
 aB x17 fun b18 =>
 some ⟨.t [.d (.v (.int .i64 n16)), .d (.v (.bool b18))], []⟩) else (
 bif e13.same (.exit 0) then (
 aV ys14 0 fun x19 =>
 aS x19 fun s20 =>
 aV ys14 1 fun x21 =>
 aS x21 fun s22 =>
 aV ys14 2 fun x23 =>
 aI .i64 x23 fun n24 =>
 bif ((s22.size : Int) == (s20.size : Int)) then (
 callT T 18 [.d (.v (.int .i64 (IntKind.wrap .i64 (0 - n24))))] fun o25 =>
 oD o25.res fun d26 =>
 dS d26 fun s27 =>
 some ⟨.t [.d (.v (.int .i64 (IntKind.wrap .i64 (0 - n24)))), .d (.v (.bool (bytesEq s27 s20)))], []⟩) else (
 callT T 18 [.d (.v (.int .i64 n24))] fun o28 =>
 oD o28.res fun d29 =>
 dS d29 fun s30 =>
 some ⟨.t [.d (.v (.int .i64 n24)), .d (.v (.bool (bytesEq s30 s20)))], []⟩)) else (
 none)))) else (
 some ⟨.t [.d (.v (.int .i64 0)), .d (.v (.bool false))], []⟩)) := by kernel_rfl
/- (*loop.example/g00119/impl.parser).value -/
def a59 : AFun := ⟨[.lent, .rd], false, [.c 4 true [kI, .s, kI, .sl 1, .sl 5]], (
 .seq (.g [oQ 4 (.alloc [.v (.int .i64 0), .v (.string ByteArray.empty), .v (.int .i64 0), .s 1 [], .s 5 []])]) (
 .seq (.block 0 (.seq (.g [oM 10 1, oBi 11 .eql 10 0, oM 9 11]) (
 .cond (.t 9) (.seq (.g [oM 12 0, oQ 13 (.more (.nck (.t 12))), oF 14 1 13, oS (.store 1 (.t 14) (.b false))]) (
 .seq (.g [oQ 15 (.build [.v (.int .i64 0), .v (.string ByteArray.empty), .v (.int .i64 0), .s 1 [], .s 5 []] []), oS (.store 5 (.t 4) (.t 15))]) (
 .ret))) (.seq (.g [oM 17 0, oQ 18 (.call (.f 88) [.lent, .rd] false [.c .b] [.t 17, .c (.v (.string ({ data := #[34] } : ByteArray)))]), oM 16 18]) (
 .cond (.t 16) (.seq (.g [oM 19 0, oQ 20 (.call (.f 89) [.lent] false [.c .s] [.t 19]), oM 5 20]) (
 .seq (.g [oM 21 5, oQ 22 (.build [.v (.int .i64 0), .v (.string ByteArray.empty), .v (.int .i64 0), .s 1 [], .s 5 []] [(0, 1, (.i 1)), (1, 1, (.t 21))]), oS (.store 5 (.t 4) (.t 22))]) (
 .ret))) (.seq (.g [oM 24 0, oQ 25 (.call (.f 88) [.lent, .rd] false [.c .b] [.t 24, .c (.v (.string ({ data := #[91] } : ByteArray)))]), oM 23 25]) (
 .cond (.t 23) (.seq (.g [oM 26 0, oM 27 1, oQ 28 (.call (.f 90) [.lent, .rd, .rd, .rd] false [.g [kI, .s, kI, .sl 1, .sl 5]] [.t 26, .i 4, .c (.v (.string ({ data := #[93] } : ByteArray))), .t 27]), oS (.store 5 (.t 4) (.t 28))]) (
 .ret)) (.seq (.g [oM 30 0, oQ 31 (.call (.f 88) [.lent, .rd] false [.c .b] [.t 30, .c (.v (.string ({ data := #[123] } : ByteArray)))]), oM 29 31]) (
 .cond (.t 29) (.seq (.g [oM 32 0, oM 33 1, oQ 34 (.call (.f 90) [.lent, .rd, .rd, .rd] false [.g [kI, .s, kI, .sl 1, .sl 5]] [.t 32, .i 5, .c (.v (.string ({ data := #[125] } : ByteArray))), .t 33]), oS (.store 5 (.t 4) (.t 34))]) (
 .ret)) (.skip)))))))))) (
 .seq (.g [oM 35 0, oQ 36 (.call (.f 91) [.lent, .rd] false [.c .s] [.t 35, .c (.v (.string ({ data := #[44, 93, 125] } : ByteArray)))]), oM 6 36]) (
 .seq (.seq (.g [oM 37 6]) (
 .block 1 (.seq (.g [oQ 39 (.bin .eql (.t 37) (.c (.v (.string ({ data := #[116, 114, 117, 101] } : ByteArray))))), oM 38 39]) (
 .cond (.t 38) (.seq (.g [oQ 40 (.build [.v (.int .i64 0), .v (.string ByteArray.empty), .v (.int .i64 0), .s 1 [], .s 5 []] [(0, 1, (.i 3)), (2, 1, (.i 1))]), oS (.store 5 (.t 4) (.t 40))]) (
 .ret)) (.seq (.g [oQ 42 (.bin .eql (.t 37) (.c (.v (.string ({ data := #[102, 97, 108, 115, 101] } : ByteArray))))), oM 41 42]) (
 .cond (.t 41) (.seq (.g [oQ 43 (.build [.v (.int .i64 0), .v (.string ByteArray.empty), .v (.int .i64 0), .s 1 [], .s 5 []] [(0, 1, (.i 3))]), oS (.store 5 (.t 4) (.t 43))]) (
 .ret)) (.skip))))))) (
 .seq (.g [oM 45 6, oC 46 92 [.c kI, .c .b] [45], oM 44 46, oX 47 44 0, oX 48 44 1, oM 7 47, oM 8 48]) (
 .seq (.g [oM 49 0, oM 50 0, oQ 51 (.more (.nck (.t 50))), oF 52 1 51, oW 53 .b 52, oM 54 53, oJ 55 54 true (.mv (.t 8)), oQ 56 (.pick (.t 54) (.t 55) (.b false)), oQ 57 (.more (.nck (.t 49))), oF 58 1 57, oS (.store 1 (.t 58) (.t 56))]) (
 .seq (.g [oM 59 7, oQ 60 (.build [.v (.int .i64 0), .v (.string ByteArray.empty), .v (.int .i64 0), .s 1 [], .s 5 []] [(0, 1, (.i 2)), (2, 1, (.t 59))]), oS (.store 5 (.t 4) (.t 60))]) (
 .ret))))))))⟩
theorem a59q (T : Table) (k : Nat) (s1 : ByteArray) (b2 : Bool) (n3 : Int): evalF T k a59 [.p [.v (.string s1), .v (.bool b2)], .d (.v (.int .i64 n3))] = (
 bif (n3 == 0) then (
 some ⟨.g [.v (.int .i64 0), .v (.string ByteArray.empty), .v (.int .i64 0), .s 1 [], .s 5 []], [.p [.v (.string s1), .v (.bool false)]]⟩) else (
 callT T 88 [.p [.v (.string s1), .v (.bool b2)], .d (.v (.string ({ data := #[34] } : ByteArray)))] fun o4 =>
 nth o4.back 0 fun i5 =>
 oP i5 fun r6 =>
 tst (Nat.beq r6.length 2) (
 cS r6 0 fun s7 =>
 cB r6 1 fun b8 =>
 oD o4.res fun d9 =>
 dB d9 fun b10 =>
 bif b10 then (
 callT T 89 [.p [.v (.string s7), .v (.bool b8)]] fun o11 =>
 nth o11.back 0 fun i12 =>
 oP i12 fun r13 =>
 tst (Nat.beq r13.length 2) (
 cS r13 0 fun s14 =>
 cB r13 1 fun b15 =>
 oD o11.res fun d16 =>
 dS d16 fun s17 =>
 some ⟨.g [.v (.int .i64 1), .v (.string s17), .v (.int .i64 0), .s 1 [], .s 5 []], [.p [.v (.string s14), .v (.bool b15)]]⟩)) else (
 callT T 88 [.p [.v (.string s7), .v (.bool b8)], .d (.v (.string ({ data := #[91] } : ByteArray)))] fun o18 =>
 nth o18.back 0 fun i19 =>
 oP i19 fun r20 =>
 tst (Nat.beq r20.length 2) (
 cS r20 0 fun s21 =>
 cB r20 1 fun b22 =>
 oD o18.res fun d23 =>
 dB d23 fun b24 =>
 bif b24 then (
 callT T 90 [.p [.v (.string s21), .v (.bool b22)], .d (.v (.int .i64 4)), .d (.v (.string ({ data := #[93] } : ByteArray))), .d (.v (.int .i64 n3))] fun o25 =>
 nth o25.back 0 fun i26 =>
 oP i26 fun r27 =>
 tst (Nat.beq r27.length 2) (
 cS r27 0 fun s28 =>
 cB r27 1 fun b29 =>
 oG o25.res fun r30 =>
 tst (Nat.beq r30.length 5) (
 cI .i64 r30 0 fun n31 =>
 cS r30 1 fun s32 =>
 cI .i64 r30 2 fun n33 =>
 cL 1 r30 3 fun l34 =>
 cL 5 r30 4 fun l35 =>
 some ⟨.g [.v (.int .i64 n31), .v (.string s32), .v (.int .i64 n33), .s 1 l34, .s 5 l35], [.p [.v (.string s28), .v (.bool b29)]]⟩))) else (
 callT T 88 [.p [.v (.string s21), .v (.bool b22)], .d (.v (.string ({ data := #[123] } : ByteArray)))] fun o36 =>
 nth o36.back 0 fun i37 =>
 oP i37 fun r38 =>
 tst (Nat.beq r38.length 2) (
 cS r38 0 fun s39 =>
 cB r38 1 fun b40 =>
 oD o36.res fun d41 =>
 dB d41 fun b42 =>
 bif b42 then (
 callT T 90 [.p [.v (.string s39), .v (.bool b40)], .d (.v (.int .i64 5)), .d (.v (.string ({ data := #[125] } : ByteArray))), .d (.v (.int .i64 n3))] fun o43 =>
 nth o43.back 0 fun i44 =>
 oP i44 fun r45 =>
 tst (Nat.beq r45.length 2) (
 cS r45 0 fun s46 =>
 cB r45 1 fun b47 =>
 oG o43.res fun r48 =>
 tst (Nat.beq r48.length 5) (
 cI .i64 r48 0 fun n49 =>
 cS r48 1 fun s50 =>
 cI .i64 r48 2 fun n51 =>
 cL 1 r48 3 fun l52 =>
 cL 5 r48 4 fun l53 =>
 some ⟨.g [.v (.int .i64 n49), .v (.string s50), .v (.int .i64 n51), .s 1 l52, .s 5 l53], [.p [.v (.string s46), .v (.bool b47)]]⟩))) else (
 callT T 91 [.p [.v (.string s39), .v (.bool b40)], .d (.v (.string ({ data := #[44, 93, 125] } : ByteArray)))] fun o54 =>
 nth o54.back 0 fun i55 =>
 oP i55 fun r56 =>
 tst (Nat.beq r56.length 2) (
 cS r56 0 fun s57 =>
 cB r56 1 fun b58 =>
 oD o54.res fun d59 =>
 dS d59 fun s60 =>
 bif (bytesEq s60 ({ data := #[116, 114, 117, 101] } : ByteArray)) then (
 some ⟨.g [.v (.int .i64 3), .v (.string ByteArray.empty), .v (.int .i64 1), .s 1 [], .s 5 []], [.p [.v (.string s57), .v (.bool b58)]]⟩) else (
 bif (bytesEq s60 ({ data := #[102, 97, 108, 115, 101] } : ByteArray)) then (
 some ⟨.g [.v (.int .i64 3), .v (.string ByteArray.empty), .v (.int .i64 0), .s 1 [], .s 5 []], [.p [.v (.string s57), .v (.bool b58)]]⟩) else (
 callT T 92 [.d (.v (.string s60))] fun o61 =>
 oT o61.res fun is62 =>
 tst (Nat.beq is62.length 2) (
 nth is62 0 fun i63 =>
 oD i63 fun d64 =>
 dI .i64 d64 fun n65 =>
 nth is62 1 fun i66 =>
 oD i66 fun d67 =>
 dB d67 fun b68 =>
 bif b58 == true then (
 some ⟨.g [.v (.int .i64 2), .v (.string ByteArray.empty), .v (.int .i64 n65), .s 1 [], .s 5 []], [.p [.v (.string s57), .v (.bool b68)]]⟩) else (
 some ⟨.g [.v (.int .i64 2), .v (.string ByteArray.empty), .v (.int .i64 n65), .s 1 [], .s 5 []], [.p [.v (.string s57), .v (.bool false)]]⟩))))))))))))) := by kernel_rfl
end Go.Am.Fm
