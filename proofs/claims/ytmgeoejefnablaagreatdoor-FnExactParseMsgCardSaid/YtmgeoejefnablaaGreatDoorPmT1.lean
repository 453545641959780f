/- What the functions come to, printed: equations by the kernel. Nothing is assumed. -/
import Derived.Test.YtmgeoejefnablaaGreatDoorPmT0
namespace Go.Am.Pm
set_option linter.unusedVariables false
set_option linter.unusedSimpArgs false
set_option maxRecDepth 8000
/- loop.example/g00119/laws.markText -/
def C94 : ACode := (
 .seq (.seq (.g [oM 6 0, oBi 7 .gtr 6 0]) (
 .cond (.t 7) (.skip) (.exit 0))) (
 .block 1 (.seq (.g [oM 8 0, oBi 9 .rem 8 10, oQ 10 (.bin .add (.i 48) (.t 9)), oQ 11 (.conv (.int .u8) (.t 10)), oQ 12 (.lit 1 ([[.v (.int .u8 0)]] : Rows) [(0, (.t 11))]), oQ 13 (.conv .bytesStr (.t 12)), oM 14 3, oB 15 .add 13 14, oM 3 15]) (
 .g [oM 16 0, oBi 17 .quo 16 10, oM 0 17]))))
def C95 : K4 := [((.exit 0), [(3, .c .s)])]
noncomputable def B70 (T : Table) (k : Nat) := K7 (J5 ⟨T, [], []⟩ k C94 (Ex × List AV)) [0, 3] C95
def a65 : AFun := ⟨[.rd], false, [.t 2], (
 .seq (.g [oQ 2 (.mv (.c (.v (.string ({ data := #[] } : ByteArray)))))]) (
 .seq (.seq (.g [oM 4 0, oBi 5 .leq 4 0]) (
 .cond (.t 5) (.seq (.g [oQ 2 (.mv (.c (.v (.string ({ data := #[109, 48] } : ByteArray)))))]) (
 .ret)) (.skip))) (
 .seq (.g [oQ 3 (.mv (.c (.v (.string ({ data := #[] } : ByteArray)))))]) (
 .seq (.block 0 (.loop [0, 3] C95 C94)) (
 .seq (.g [oM 18 3, oQ 19 (.bin .add (.c (.v (.string ({ data := #[109] } : ByteArray)))) (.t 18)), oM 2 19]) (
 .ret))))))⟩
theorem C50 (T : Table) (k n : Nat) (n2 : Int) (s3 : ByteArray): B70 T k (n + 1) [.v (.int .i64 n2), .v (.string s3)] = (
 bif (decide (n2 > 0)) then (
 tst (decide (10 ≠ 0)) (
 tst (P7 ([[.v (.int .u8 (IntKind.wrap .u8 (IntKind.wrap .i64 (48 + (Int.tmod n2 10)))))]] : Rows)) (
 tst (decide ((H7 ([[.v (.int .u8 (IntKind.wrap .u8 (IntKind.wrap .i64 (48 + (Int.tmod n2 10)))))]] : Rows)).size + s3.size ≤ maxLen)) (
 tst (decide (10 ≠ 0)) (
 B70 T k n [.v (.int .i64 (IntKind.wrap .i64 (Int.tdiv n2 10))), .v (.string ((H7 ([[.v (.int .u8 (IntKind.wrap .u8 (IntKind.wrap .i64 (48 + (Int.tmod n2 10)))))]] : Rows)) ++ s3))]))))) else (
 some ((.exit 0), [.v (.string s3)]))) := by kernel_rfl
theorem D49 (T : Table) (k : Nat) (n1 : Int): H9 T k a65 [.d (.v (.int .i64 n1))] = (
 bif (decide (n1 ≤ 0)) then (
 some ⟨.d (.v (.string ({ data := #[109, 48] } : ByteArray))), []⟩) else (
 aft (B70 T k k [.v (.int .i64 n1), .v (.string ({ data := #[] } : ByteArray))]) fun e4 ys5 =>
 bif e4.same (.exit 0) then (
 aV ys5 0 fun x6 =>
 aS x6 fun s7 =>
 tst (decide (({ data := #[109] } : ByteArray).size + s7.size ≤ maxLen)) (
 some ⟨.d (.v (.string (({ data := #[109] } : ByteArray) ++ s7))), []⟩)) else (
 none))) := by kernel_rfl
/- loop.example/g00119/laws.markStringS -/
def C96 : ACode := (
 .seq (.seq (.g [oM 6 5, oM 7 0, oZ 8 7, oB 9 .lss 6 8]) (
 .cond (.t 9) (.skip) (.exit 0))) (
 .seq (.block 1 (.seq (.g [oM 12 0, oM 13 5, oM 14 1, oC 15 65 [.c .s] [14], oI 16 1 12 13, oS (.store 1 (.t 16) (.t 15))]) (
 .g [oM 17 1, oBi 18 .add 17 1, oM 1 18]))) (
 .g [oM 10 5, oBi 11 .add 10 1, oM 5 11])))
def C97 : K4 := [((.exit 0), [(0, .o 1), (1, .c kI)])]
noncomputable def B71 (T : Table) (k : Nat) := K7 (J5 ⟨T, [0], []⟩ k C96 (Ex × List AV)) [0, 1, 5] C97
def a66 : AFun := ⟨[.lent, .rd], false, [.t 4], (
 .seq (.g [oK 4 0]) (
 .seq (.seq (.g [oK 5 0]) (
 .block 0 (.loop [0, 1, 5] C97 C96))) (
 .seq (.g [oM 19 1, oM 4 19]) (
 .ret))))⟩
theorem C51 (T : Table) (k n : Nat) (l3 : Rows) (n4 n5 : Int): B71 T k (n + 1) [.o 1 l3, .v (.int .i64 n4), .v (.int .i64 n5)] = (
 bif (decide (n5 < (l3.length : Int))) then (
 C8 T 65 [.d (.v (.int .i64 n4))] fun o6 =>
 oD o6.res fun d7 =>
 dS d7 fun s8 =>
 tst (decide (0 ≤ n5) && decide (Int.toNat n5 < l3.length)) (
 B71 T k n [.o 1 (G8 l3 (Int.toNat n5) 0 (.v (.string s8))), .v (.int .i64 (IntKind.wrap .i64 (n4 + 1))), .v (.int .i64 (IntKind.wrap .i64 (n5 + 1)))])) else (
 some ((.exit 0), [.o 1 l3, .v (.int .i64 n4)]))) := by kernel_rfl
theorem D4a (T : Table) (k : Nat) (l1 : Rows) (n2 : Int): H9 T k a66 [.d (.s 1 l1), .d (.v (.int .i64 n2))] = (
 aft (B71 T k k [.o 1 l1, .v (.int .i64 n2), .v (.int .i64 0)]) fun e9 ys10 =>
 bif e9.same (.exit 0) then (
 aV ys10 0 fun x11 =>
 aO 1 x11 fun l12 =>
 aV ys10 1 fun x13 =>
 aI .i64 x13 fun n14 =>
 some ⟨.d (.v (.int .i64 n14)), [.d (.s 1 l12)]⟩) else (
 none)) := by kernel_rfl
/- loop.example/g00119/laws.markValueS -/
def C98 : ACode := (
 .seq (.seq (.g [oM 6 5, oM 7 0, oZ 8 7, oB 9 .lss 6 8]) (
 .cond (.t 9) (.skip) (.exit 0))) (
 .seq (.block 1 (.seq (.g [oM 12 0, oM 13 5, oM 14 1, oI 15 5 12 13, oF 16 0 15, oS (.store 1 (.t 16) (.t 14))]) (
 .seq (.g [oM 17 1, oBi 18 .add 17 1, oM 1 18]) (
 .seq (.g [oM 19 0, oM 20 5, oM 21 1, oC 22 65 [.c .s] [21], oI 23 5 19 20, oF 24 1 23, oS (.store 1 (.t 24) (.t 22))]) (
 .seq (.g [oM 25 1, oBi 26 .add 25 1, oM 1 26]) (
 .seq (.g [oM 27 0, oM 28 5, oM 29 1, oI 30 5 27 28, oF 31 2 30, oS (.store 1 (.t 31) (.t 29))]) (
 .seq (.g [oM 32 1, oBi 33 .add 32 1, oM 1 33]) (
 .seq (.g [oM 34 0, oM 35 5, oI 36 5 34 35, oF 37 3 36, oW 38 (.sl 1) 37, oM 39 1, oQ 40 (.call (.f 66) [.lent, .rd] false [.c kI] [.t 38, .t 39]), oM 1 40]) (
 .g [oM 41 0, oM 42 5, oI 43 5 41 42, oF 44 4 43, oW 45 (.sl 5) 44, oM 46 1, oQ 47 (.call (.f 67) [.lent, .rd] false [.c kI] [.t 45, .t 46]), oM 1 47]))))))))) (
 .g [oM 10 5, oBi 11 .add 10 1, oM 5 11])))
def C99 : K4 := [((.exit 0), [(0, .o 5), (1, .c kI)])]
noncomputable def B72 (T : Table) (k : Nat) := K7 (J5 ⟨T, [0], []⟩ k C98 (Ex × List AV)) [0, 1, 5] C99
def a67 : AFun := ⟨[.lent, .rd], false, [.t 4], (
 .seq (.g [oK 4 0]) (
 .seq (.seq (.g [oK 5 0]) (
 .block 0 (.loop [0, 1, 5] C99 C98))) (
 .seq (.g [oM 48 1, oM 4 48]) (
 .ret))))⟩
theorem C52 (T : Table) (k n : Nat) (l3 : Rows) (n4 n5 : Int): B72 T k (n + 1) [.o 5 l3, .v (.int .i64 n4), .v (.int .i64 n5)] = (
 bif (decide (n5 < (l3.length : Int))) then (
 tst (decide (0 ≤ n5) && decide (Int.toNat n5 < l3.length)) (
 C8 T 65 [.d (.v (.int .i64 (IntKind.wrap .i64 (n4 + 1))))] fun o6 =>
 oD o6.res fun d7 =>
 dS d7 fun s8 =>
 tst (decide (0 ≤ n5) && decide (Int.toNat n5 < (G8 l3 (Int.toNat n5) 0 (.v (.int .i64 n4))).length)) (
 tst (decide (0 ≤ n5) && decide (Int.toNat n5 < (G8 (G8 l3 (Int.toNat n5) 0 (.v (.int .i64 n4))) (Int.toNat n5) 1 (.v (.string s8))).length)) (
 tst (decide (0 ≤ n5) && decide (Int.toNat n5 < (G8 (G8 (G8 l3 (Int.toNat n5) 0 (.v (.int .i64 n4))) (Int.toNat n5) 1 (.v (.string s8))) (Int.toNat n5) 2 (.v (.int .i64 (IntKind.wrap .i64 ((IntKind.wrap .i64 (n4 + 1)) + 1))))).length)) (
 look (G8 (G8 (G8 l3 (Int.toNat n5) 0 (.v (.int .i64 n4))) (Int.toNat n5) 1 (.v (.string s8))) (Int.toNat n5) 2 (.v (.int .i64 (IntKind.wrap .i64 ((IntKind.wrap .i64 (n4 + 1)) + 1))))) (Int.toNat n5) fun r9 =>
 cL 1 r9 3 fun l10 =>
 C8 T 66 [.d (.s 1 l10), .d (.v (.int .i64 (IntKind.wrap .i64 ((IntKind.wrap .i64 ((IntKind.wrap .i64 (n4 + 1)) + 1)) + 1))))] fun o11 =>
 nth o11.back 0 fun i12 =>
 oD i12 fun d13 =>
 dL 1 d13 fun l14 =>
 oD o11.res fun d15 =>
 dI .i64 d15 fun n16 =>
 tst (decide (0 ≤ n5) && decide (Int.toNat n5 < (G8 (G8 (G8 l3 (Int.toNat n5) 0 (.v (.int .i64 n4))) (Int.toNat n5) 1 (.v (.string s8))) (Int.toNat n5) 2 (.v (.int .i64 (IntKind.wrap .i64 ((IntKind.wrap .i64 (n4 + 1)) + 1))))).length)) (
 look (G8 (G8 (G8 l3 (Int.toNat n5) 0 (.v (.int .i64 n4))) (Int.toNat n5) 1 (.v (.string s8))) (Int.toNat n5) 2 (.v (.int .i64 (IntKind.wrap .i64 ((IntKind.wrap .i64 (n4 + 1)) + 1))))) (Int.toNat n5) fun r17 =>
 cL 5 r17 4 fun l18 =>
 C8 T 67 [.d (.s 5 l18), .d (.v (.int .i64 n16))] fun o19 =>
 nth o19.back 0 fun i20 =>
 oD i20 fun d21 =>
 dL 5 d21 fun l22 =>
 oD o19.res fun d23 =>
 dI .i64 d23 fun n24 =>
 B72 T k n [.o 5 (G8 (G8 (G8 (G8 (G8 l3 (Int.toNat n5) 0 (.v (.int .i64 n4))) (Int.toNat n5) 1 (.v (.string s8))) (Int.toNat n5) 2 (.v (.int .i64 (IntKind.wrap .i64 ((IntKind.wrap .i64 (n4 + 1)) + 1))))) (Int.toNat n5) 4 (.s 5 l22)) (Int.toNat n5) 3 (.s 1 l14)), .v (.int .i64 n24), .v (.int .i64 (IntKind.wrap .i64 (n5 + 1)))])))))) else (
 some ((.exit 0), [.o 5 l3, .v (.int .i64 n4)]))) := by kernel_rfl
theorem D4b (T : Table) (k : Nat) (l1 : Rows) (n2 : Int): H9 T k a67 [.d (.s 5 l1), .d (.v (.int .i64 n2))] = (
 aft (B72 T k k [.o 5 l1, .v (.int .i64 n2), .v (.int .i64 0)]) fun e25 ys26 =>
 bif e25.same (.exit 0) then (
 aV ys26 0 fun x27 =>
 aO 5 x27 fun l28 =>
 aV ys26 1 fun x29 =>
 aI .i64 x29 fun n30 =>
 some ⟨.d (.v (.int .i64 n30)), [.d (.s 5 l28)]⟩) else (
 none)) := by kernel_rfl
/- loop.example/g00119/laws.markWorkS -/
def C9a : ACode := (
 .seq (.seq (.g [oM 6 5, oM 7 0, oZ 8 7, oB 9 .lss 6 8]) (
 .cond (.t 9) (.skip) (.exit 0))) (
 .seq (.block 1 (.seq (.g [oM 12 0, oM 13 5, oM 14 1, oI 15 7 12 13, oF 16 0 15, oS (.store 1 (.t 16) (.t 14))]) (
 .seq (.g [oM 17 1, oBi 18 .add 17 1, oM 1 18]) (
 .seq (.g [oM 19 0, oM 20 5, oM 21 1, oI 22 7 19 20, oF 23 1 22, oS (.store 1 (.t 23) (.t 21))]) (
 .seq (.g [oM 24 1, oBi 25 .add 24 1, oM 1 25]) (
 .seq (.g [oM 26 0, oM 27 5, oM 28 1, oI 29 7 26 27, oF 30 2 29, oF 31 0 30, oS (.store 1 (.t 31) (.t 28))]) (
 .seq (.g [oM 32 1, oBi 33 .add 32 1, oM 1 33]) (
 .seq (.g [oM 34 0, oM 35 5, oM 36 1, oC 37 65 [.c .s] [36], oI 38 7 34 35, oF 39 2 38, oF 40 1 39, oS (.store 1 (.t 40) (.t 37))]) (
 .seq (.g [oM 41 1, oBi 42 .add 41 1, oM 1 42]) (
 .seq (.g [oM 43 0, oM 44 5, oM 45 1, oI 46 7 43 44, oF 47 2 46, oF 48 2 47, oS (.store 1 (.t 48) (.t 45))]) (
 .seq (.g [oM 49 1, oBi 50 .add 49 1, oM 1 50]) (
 .seq (.g [oM 51 0, oM 52 5, oI 53 7 51 52, oF 54 2 53, oF 55 3 54, oW 56 (.sl 1) 55, oM 57 1, oQ 58 (.call (.f 66) [.lent, .rd] false [.c kI] [.t 56, .t 57]), oM 1 58]) (
 .g [oM 59 0, oM 60 5, oI 61 7 59 60, oF 62 2 61, oF 63 4 62, oW 64 (.sl 5) 63, oM 65 1, oQ 66 (.call (.f 67) [.lent, .rd] false [.c kI] [.t 64, .t 65]), oM 1 66]))))))))))))) (
 .g [oM 10 5, oBi 11 .add 10 1, oM 5 11])))
def C9b : K4 := [((.exit 0), [(0, .o 7), (1, .c kI)])]
noncomputable def B73 (T : Table) (k : Nat) := K7 (J5 ⟨T, [0], []⟩ k C9a (Ex × List AV)) [0, 1, 5] C9b
def a39 : AFun := ⟨[.lent, .rd], false, [.t 4], (
 .seq (.g [oK 4 0]) (
 .seq (.seq (.g [oK 5 0]) (
 .block 0 (.loop [0, 1, 5] C9b C9a))) (
 .seq (.g [oM 67 1, oM 4 67]) (
 .ret))))⟩
theorem C53 (T : Table) (k n : Nat) (l3 : Rows) (n4 n5 : Int): B73 T k (n + 1) [.o 7 l3, .v (.int .i64 n4), .v (.int .i64 n5)] = (
 bif (decide (n5 < (l3.length : Int))) then (
 tst (decide (0 ≤ n5) && decide (Int.toNat n5 < l3.length)) (
 tst (decide (0 ≤ n5) && decide (Int.toNat n5 < (G8 l3 (Int.toNat n5) 0 (.v (.int .i64 n4))).length)) (
 tst (decide (0 ≤ n5) && decide (Int.toNat n5 < (G8 (G8 l3 (Int.toNat n5) 0 (.v (.int .i64 n4))) (Int.toNat n5) 1 (.v (.int .i64 (IntKind.wrap .i64 (n4 + 1))))).length)) (
 C8 T 65 [.d (.v (.int .i64 (IntKind.wrap .i64 ((IntKind.wrap .i64 ((IntKind.wrap .i64 (n4 + 1)) + 1)) + 1))))] fun o6 =>
 oD o6.res fun d7 =>
 dS d7 fun s8 =>
 tst (decide (0 ≤ n5) && decide (Int.toNat n5 < (G8 (G8 (G8 l3 (Int.toNat n5) 0 (.v (.int .i64 n4))) (Int.toNat n5) 1 (.v (.int .i64 (IntKind.wrap .i64 (n4 + 1))))) (Int.toNat n5) 2 (.v (.int .i64 (IntKind.wrap .i64 ((IntKind.wrap .i64 (n4 + 1)) + 1))))).length)) (
 tst (decide (0 ≤ n5) && decide (Int.toNat n5 < (G8 (G8 (G8 (G8 l3 (Int.toNat n5) 0 (.v (.int .i64 n4))) (Int.toNat n5) 1 (.v (.int .i64 (IntKind.wrap .i64 (n4 + 1))))) (Int.toNat n5) 2 (.v (.int .i64 (IntKind.wrap .i64 ((IntKind.wrap .i64 (n4 + 1)) + 1))))) (Int.toNat n5) 3 (.v (.string s8))).length)) (
 tst (decide (0 ≤ n5) && decide (Int.toNat n5 < (G8 (G8 (G8 (G8 (G8 l3 (Int.toNat n5) 0 (.v (.int .i64 n4))) (Int.toNat n5) 1 (.v (.int .i64 (IntKind.wrap .i64 (n4 + 1))))) (Int.toNat n5) 2 (.v (.int .i64 (IntKind.wrap .i64 ((IntKind.wrap .i64 (n4 + 1)) + 1))))) (Int.toNat n5) 3 (.v (.string s8))) (Int.toNat n5) 4 (.v (.int .i64 (IntKind.wrap .i64 ((IntKind.wrap .i64 ((IntKind.wrap .i64 ((IntKind.wrap .i64 (n4 + 1)) + 1)) + 1)) + 1))))).length)) (
 look (G8 (G8 (G8 (G8 (G8 l3 (Int.toNat n5) 0 (.v (.int .i64 n4))) (Int.toNat n5) 1 (.v (.int .i64 (IntKind.wrap .i64 (n4 + 1))))) (Int.toNat n5) 2 (.v (.int .i64 (IntKind.wrap .i64 ((IntKind.wrap .i64 (n4 + 1)) + 1))))) (Int.toNat n5) 3 (.v (.string s8))) (Int.toNat n5) 4 (.v (.int .i64 (IntKind.wrap .i64 ((IntKind.wrap .i64 ((IntKind.wrap .i64 ((IntKind.wrap .i64 (n4 + 1)) + 1)) + 1)) + 1))))) (Int.toNat n5) fun r9 =>
 cL 1 r9 5 fun l10 =>
 C8 T 66 [.d (.s 1 l10), .d (.v (.int .i64 (IntKind.wrap .i64 ((IntKind.wrap .i64 ((IntKind.wrap .i64 ((IntKind.wrap .i64 ((IntKind.wrap .i64 (n4 + 1)) + 1)) + 1)) + 1)) + 1))))] fun o11 =>
 nth o11.back 0 fun i12 =>
 oD i12 fun d13 =>
 dL 1 d13 fun l14 =>
 oD o11.res fun d15 =>
 dI .i64 d15 fun n16 =>
 tst (decide (0 ≤ n5) && decide (Int.toNat n5 < (G8 (G8 (G8 (G8 (G8 l3 (Int.toNat n5) 0 (.v (.int .i64 n4))) (Int.toNat n5) 1 (.v (.int .i64 (IntKind.wrap .i64 (n4 + 1))))) (Int.toNat n5) 2 (.v (.int .i64 (IntKind.wrap .i64 ((IntKind.wrap .i64 (n4 + 1)) + 1))))) (Int.toNat n5) 3 (.v (.string s8))) (Int.toNat n5) 4 (.v (.int .i64 (IntKind.wrap .i64 ((IntKind.wrap .i64 ((IntKind.wrap .i64 ((IntKind.wrap .i64 (n4 + 1)) + 1)) + 1)) + 1))))).length)) (
 look (G8 (G8 (G8 (G8 (G8 l3 (Int.toNat n5) 0 (.v (.int .i64 n4))) (Int.toNat n5) 1 (.v (.int .i64 (IntKind.wrap .i64 (n4 + 1))))) (Int.toNat n5) 2 (.v (.int .i64 (IntKind.wrap .i64 ((IntKind.wrap .i64 (n4 + 1)) + 1))))) (Int.toNat n5) 3 (.v (.string s8))) (Int.toNat n5) 4 (.v (.int .i64 (IntKind.wrap .i64 ((IntKind.wrap .i64 ((IntKind.wrap .i64 ((IntKind.wrap .i64 (n4 + 1)) + 1)) + 1)) + 1))))) (Int.toNat n5) fun r17 =>
 cL 5 r17 6 fun l18 =>
 C8 T 67 [.d (.s 5 l18), .d (.v (.int .i64 n16))] fun o19 =>
 nth o19.back 0 fun i20 =>
 oD i20 fun d21 =>
 dL 5 d21 fun l22 =>
 oD o19.res fun d23 =>
 dI .i64 d23 fun n24 =>
 B73 T k n [.o 7 (G8 (G8 (G8 (G8 (G8 (G8 (G8 l3 (Int.toNat n5) 0 (.v (.int .i64 n4))) (Int.toNat n5) 1 (.v (.int .i64 (IntKind.wrap .i64 (n4 + 1))))) (Int.toNat n5) 2 (.v (.int .i64 (IntKind.wrap .i64 ((IntKind.wrap .i64 (n4 + 1)) + 1))))) (Int.toNat n5) 3 (.v (.string s8))) (Int.toNat n5) 4 (.v (.int .i64 (IntKind.wrap .i64 ((IntKind.wrap .i64 ((IntKind.wrap .i64 ((IntKind.wrap .i64 (n4 + 1)) + 1)) + 1)) + 1))))) (Int.toNat n5) 6 (.s 5 l22)) (Int.toNat n5) 5 (.s 1 l14)), .v (.int .i64 n24), .v (.int .i64 (IntKind.wrap .i64 (n5 + 1)))])))))))) else (
 some ((.exit 0), [.o 7 l3, .v (.int .i64 n4)]))) := by kernel_rfl
theorem D4c (T : Table) (k : Nat) (l1 : Rows) (n2 : Int): H9 T k a39 [.d (.s 7 l1), .d (.v (.int .i64 n2))] = (
 aft (B73 T k k [.o 7 l1, .v (.int .i64 n2), .v (.int .i64 0)]) fun e25 ys26 =>
 bif e25.same (.exit 0) then (
 aV ys26 0 fun x27 =>
 aO 7 x27 fun l28 =>
 aV ys26 1 fun x29 =>
 aI .i64 x29 fun n30 =>
 some ⟨.d (.v (.int .i64 n30)), [.d (.s 7 l28)]⟩) else (
 none)) := by kernel_rfl
/- loop.example/g00119/laws.markRunS -/
def C9c : ACode := (
 .seq (.seq (.g [oM 6 5, oM 7 0, oZ 8 7, oB 9 .lss 6 8]) (
 .cond (.t 9) (.skip) (.exit 0))) (
 .seq (.block 1 (.seq (.g [oM 12 0, oM 13 5, oM 14 1, oI 15 2 12 13, oF 16 0 15, oS (.store 1 (.t 16) (.t 14))]) (
 .seq (.g [oM 17 1, oBi 18 .add 17 1, oM 1 18]) (
 .seq (.g [oM 19 0, oM 20 5, oM 21 1, oI 22 2 19 20, oF 23 1 22, oS (.store 1 (.t 23) (.t 21))]) (
 .g [oM 24 1, oBi 25 .add 24 1, oM 1 25]))))) (
 .g [oM 10 5, oBi 11 .add 10 1, oM 5 11])))
def C9d : K4 := [((.exit 0), [(0, .o 2), (1, .c kI)])]
noncomputable def B74 (T : Table) (k : Nat) := K7 (J5 ⟨T, [0], []⟩ k C9c (Ex × List AV)) [0, 1, 5] C9d
def a40 : AFun := ⟨[.lent, .rd], false, [.t 4], (
 .seq (.g [oK 4 0]) (
 .seq (.seq (.g [oK 5 0]) (
 .block 0 (.loop [0, 1, 5] C9d C9c))) (
 .seq (.g [oM 26 1, oM 4 26]) (
 .ret))))⟩
theorem C54 (T : Table) (k n : Nat) (l3 : Rows) (n4 n5 : Int): B74 T k (n + 1) [.o 2 l3, .v (.int .i64 n4), .v (.int .i64 n5)] = (
 bif (decide (n5 < (l3.length : Int))) then (
 tst (decide (0 ≤ n5) && decide (Int.toNat n5 < l3.length)) (
 tst (decide (0 ≤ n5) && decide (Int.toNat n5 < (G8 l3 (Int.toNat n5) 0 (.v (.int .i64 n4))).length)) (
 B74 T k n [.o 2 (G8 (G8 l3 (Int.toNat n5) 0 (.v (.int .i64 n4))) (Int.toNat n5) 1 (.v (.int .i64 (IntKind.wrap .i64 (n4 + 1))))), .v (.int .i64 (IntKind.wrap .i64 ((IntKind.wrap .i64 (n4 + 1)) + 1))), .v (.int .i64 (IntKind.wrap .i64 (n5 + 1)))]))) else (
 some ((.exit 0), [.o 2 l3, .v (.int .i64 n4)]))) := by kernel_rfl
theorem D4d (T : Table) (k : Nat) (l1 : Rows) (n2 : Int): H9 T k a40 [.d (.s 2 l1), .d (.v (.int .i64 n2))] = (
 aft (B74 T k k [.o 2 l1, .v (.int .i64 n2), .v (.int .i64 0)]) fun e6 ys7 =>
 bif e6.same (.exit 0) then (
 aV ys7 0 fun x8 =>
 aO 2 x8 fun l9 =>
 aV ys7 1 fun x10 =>
 aI .i64 x10 fun n11 =>
 some ⟨.d (.v (.int .i64 n11)), [.d (.s 2 l9)]⟩) else (
 none)) := by kernel_rfl
/- loop.example/g00119/laws.markMsg -/
def a14 : AFun := ⟨[.lent, .rd], false, [.t 4], (
 .seq (.g [oQ 2 (.box (.t 0)), oK 4 0]) (
 .seq (.g [oF 5 3 2, oW 6 (.sl 7) 5, oM 7 1, oQ 8 (.call (.f 39) [.lent, .rd] false [.c kI] [.t 6, .t 7]), oM 1 8]) (
 .seq (.g [oF 9 4 2, oW 10 (.sl 2) 9, oM 11 1, oQ 12 (.call (.f 40) [.lent, .rd] false [.c kI] [.t 10, .t 11]), oM 1 12]) (
 .seq (.g [oM 13 1, oM 4 13]) (
 .ret)))))⟩
theorem D4e (T : Table) (k : Nat) (n1 n3 n6 : Int) (s2 : ByteArray) (l4 l5 : Rows): H9 T k a14 [.g [.v (.int .i64 n1), .v (.string s2), .v (.int .i64 n3), .s 7 l4, .s 2 l5], .d (.v (.int .i64 n6))] = (
 C8 T 39 [.d (.s 7 l4), .d (.v (.int .i64 n6))] fun o7 =>
 nth o7.back 0 fun i8 =>
 oD i8 fun d9 =>
 dL 7 d9 fun l10 =>
 oD o7.res fun d11 =>
 dI .i64 d11 fun n12 =>
 C8 T 40 [.d (.s 2 l5), .d (.v (.int .i64 n12))] fun o13 =>
 nth o13.back 0 fun i14 =>
 oD i14 fun d15 =>
 dL 2 d15 fun l16 =>
 oD o13.res fun d17 =>
 dI .i64 d17 fun n18 =>
 some ⟨.d (.v (.int .i64 n18)), [.g [.v (.int .i64 n1), .v (.string s2), .v (.int .i64 n3), .s 7 l10, .s 2 l16]]⟩) := by kernel_rfl
/- loop.example/g00119/laws.heldStringS -/
def C9e : ACode := (
 .seq (.seq (.g [oM 6 5, oM 7 0, oZ 8 7, oB 9 .lss 6 8]) (
 .cond (.t 9) (.skip) (.exit 0))) (
 .seq (.block 1 (.seq (.seq (.dreg [] [(0, oM 12 0), (0, oM 13 5), (0, oI 14 1 12 13), (0, oW 15 .s 14), (0, oM 16 1), (1, oC 17 65 [.c .s] [16])] [oB 18 .neq 15 17]) (
 .cond (.t 18) (.seq (.g [oK 4 (-1)]) (
 .ret)) (.skip))) (
 .g [oM 19 1, oBi 20 .add 19 1, oM 1 20]))) (
 .g [oM 10 5, oBi 11 .add 10 1, oM 5 11])))
def C9f : K4 := [(.ret, [(4, .c kI)]), ((.exit 0), [(1, .c kI)])]
noncomputable def B75 (T : Table) (k : Nat) := K7 (J5 ⟨T, [], []⟩ k C9e (Ex × List AV)) [0, 1, 5] C9f
def a68 : AFun := ⟨[.rd, .rd], false, [.t 4], (
 .seq (.g [oK 4 0]) (
 .seq (.seq (.g [oK 5 0]) (
 .block 0 (.loop [0, 1, 5] C9f C9e))) (
 .seq (.g [oM 21 1, oM 4 21]) (
 .ret))))⟩
theorem C55 (T : Table) (k n : Nat) (l3 : Rows) (n4 n5 : Int): B75 T k (n + 1) [.fz 1 l3, .v (.int .i64 n4), .v (.int .i64 n5)] = (
 bif (decide (n5 < (l3.length : Int))) then (
 tst (decide (0 ≤ n5)) (
 look l3 (Int.toNat n5) fun r6 =>
 cS r6 0 fun s7 =>
 C8 T 65 [.d (.v (.int .i64 n4))] fun o8 =>
 oD o8.res fun d9 =>
 dS d9 fun s10 =>
 bif (!(D9 s7 s10)) then (
 some (.ret, [.v (.int .i64 (-1))])) else (
 B75 T k n [.fz 1 l3, .v (.int .i64 (IntKind.wrap .i64 (n4 + 1))), .v (.int .i64 (IntKind.wrap .i64 (n5 + 1)))]))) else (
 some ((.exit 0), [.v (.int .i64 n4)]))) := by kernel_rfl
theorem D4f (T : Table) (k : Nat) (l1 : Rows) (n2 : Int): H9 T k a68 [.d (.s 1 l1), .d (.v (.int .i64 n2))] = (
 aft (B75 T k k [.fz 1 l1, .v (.int .i64 n2), .v (.int .i64 0)]) fun e11 ys12 =>
 bif e11.same .ret then (
 aV ys12 0 fun x13 =>
 aI .i64 x13 fun n14 =>
 some ⟨.d (.v (.int .i64 n14)), []⟩) else (
 bif e11.same (.exit 0) then (
 aV ys12 0 fun x15 =>
 aI .i64 x15 fun n16 =>
 some ⟨.d (.v (.int .i64 n16)), []⟩) else (
 none))) := by kernel_rfl
/- loop.example/g00119/laws.heldValueS -/
def C9g : ACode := (
 .seq (.seq (.g [oM 6 5, oM 7 0, oZ 8 7, oB 9 .lss 6 8]) (
 .cond (.t 9) (.skip) (.exit 0))) (
 .seq (.block 1 (.seq (.seq (.g [oM 12 0, oM 13 5, oI 14 5 12 13, oF 15 0 14, oW 16 kI 15, oM 17 1, oB 18 .neq 16 17]) (
 .cond (.t 18) (.seq (.g [oK 4 (-1)]) (
 .ret)) (.skip))) (
 .seq (.g [oM 19 1, oBi 20 .add 19 1, oM 1 20]) (
 .seq (.seq (.dreg [] [(0, oM 21 0), (0, oM 22 5), (0, oI 23 5 21 22), (0, oF 24 1 23), (0, oW 25 .s 24), (0, oM 26 1), (1, oC 27 65 [.c .s] [26])] [oB 28 .neq 25 27]) (
 .cond (.t 28) (.seq (.g [oK 4 (-1)]) (
 .ret)) (.skip))) (
 .seq (.g [oM 29 1, oBi 30 .add 29 1, oM 1 30]) (
 .seq (.seq (.g [oM 31 0, oM 32 5, oI 33 5 31 32, oF 34 2 33, oW 35 kI 34, oM 36 1, oB 37 .neq 35 36]) (
 .cond (.t 37) (.seq (.g [oK 4 (-1)]) (
 .ret)) (.skip))) (
 .seq (.g [oM 38 1, oBi 39 .add 38 1, oM 1 39]) (
 .seq (.g [oM 40 0, oM 41 5, oI 42 5 40 41, oF 43 3 42, oW 44 (.sl 1) 43, oM 45 1, oC 46 68 [.c kI] [44, 45], oM 1 46]) (
 .seq (.seq (.g [oM 47 1, oBi 48 .lss 47 0]) (
 .cond (.t 48) (.seq (.g [oK 4 (-1)]) (
 .ret)) (.skip))) (
 .seq (.g [oM 49 0, oM 50 5, oI 51 5 49 50, oF 52 4 51, oW 53 (.sl 5) 52, oM 54 1, oC 55 69 [.c kI] [53, 54], oM 1 55]) (
 .seq (.g [oM 56 1, oBi 57 .lss 56 0]) (
 .cond (.t 57) (.seq (.g [oK 4 (-1)]) (
 .ret)) (.skip))))))))))))) (
 .g [oM 10 5, oBi 11 .add 10 1, oM 5 11])))
def C9h : K4 := [(.ret, [(4, .c kI)]), ((.exit 0), [(1, .c kI)])]
noncomputable def B76 (T : Table) (k : Nat) := K7 (J5 ⟨T, [], []⟩ k C9g (Ex × List AV)) [0, 1, 5] C9h
def a69 : AFun := ⟨[.rd, .rd], false, [.t 4], (
 .seq (.g [oK 4 0]) (
 .seq (.seq (.g [oK 5 0]) (
 .block 0 (.loop [0, 1, 5] C9h C9g))) (
 .seq (.g [oM 58 1, oM 4 58]) (
 .ret))))⟩
theorem C56 (T : Table) (k n : Nat) (l3 : Rows) (n4 n5 : Int): B76 T k (n + 1) [.fz 5 l3, .v (.int .i64 n4), .v (.int .i64 n5)] = (
 bif (decide (n5 < (l3.length : Int))) then (
 tst (decide (0 ≤ n5)) (
 look l3 (Int.toNat n5) fun r6 =>
 cI .i64 r6 0 fun n7 =>
 bif (n7 != n4) then (
 some (.ret, [.v (.int .i64 (-1))])) else (
 tst (decide (0 ≤ n5)) (
 look l3 (Int.toNat n5) fun r8 =>
 cS r8 1 fun s9 =>
 C8 T 65 [.d (.v (.int .i64 (IntKind.wrap .i64 (n4 + 1))))] fun o10 =>
 oD o10.res fun d11 =>
 dS d11 fun s12 =>
 bif (!(D9 s9 s12)) then (
 some (.ret, [.v (.int .i64 (-1))])) else (
 tst (decide (0 ≤ n5)) (
 look l3 (Int.toNat n5) fun r13 =>
 cI .i64 r13 2 fun n14 =>
 bif (n14 != (IntKind.wrap .i64 ((IntKind.wrap .i64 (n4 + 1)) + 1))) then (
 some (.ret, [.v (.int .i64 (-1))])) else (
 tst (decide (0 ≤ n5)) (
 look l3 (Int.toNat n5) fun r15 =>
 cL 1 r15 3 fun l16 =>
 C8 T 68 [.d (.s 1 l16), .d (.v (.int .i64 (IntKind.wrap .i64 ((IntKind.wrap .i64 ((IntKind.wrap .i64 (n4 + 1)) + 1)) + 1))))] fun o17 =>
 oD o17.res fun d18 =>
 dI .i64 d18 fun n19 =>
 bif (decide (n19 < 0)) then (
 some (.ret, [.v (.int .i64 (-1))])) else (
 tst (decide (0 ≤ n5)) (
 look l3 (Int.toNat n5) fun r20 =>
 cL 5 r20 4 fun l21 =>
 C8 T 69 [.d (.s 5 l21), .d (.v (.int .i64 n19))] fun o22 =>
 oD o22.res fun d23 =>
 dI .i64 d23 fun n24 =>
 bif (decide (n24 < 0)) then (
 some (.ret, [.v (.int .i64 (-1))])) else (
 B76 T k n [.fz 5 l3, .v (.int .i64 n24), .v (.int .i64 (IntKind.wrap .i64 (n5 + 1)))]))))))))))) else (
 some ((.exit 0), [.v (.int .i64 n4)]))) := by kernel_rfl
theorem D4g (T : Table) (k : Nat) (l1 : Rows) (n2 : Int): H9 T k a69 [.d (.s 5 l1), .d (.v (.int .i64 n2))] = (
 aft (B76 T k k [.fz 5 l1, .v (.int .i64 n2), .v (.int .i64 0)]) fun e25 ys26 =>
 bif e25.same .ret then (
 aV ys26 0 fun x27 =>
 aI .i64 x27 fun n28 =>
 some ⟨.d (.v (.int .i64 n28)), []⟩) else (
 bif e25.same (.exit 0) then (
 aV ys26 0 fun x29 =>
 aI .i64 x29 fun n30 =>
 some ⟨.d (.v (.int .i64 n30)), []⟩) else (
 none))) := by kernel_rfl
/- loop.example/g00119/laws.heldWorkS -/
def C9i : ACode := (
 .seq (.seq (.g [oM 6 5, oM 7 0, oZ 8 7, oB 9 .lss 6 8]) (
 .cond (.t 9) (.skip) (.exit 0))) (
 .seq (.block 1 (.seq (.seq (.g [oM 12 0, oM 13 5, oI 14 7 12 13, oF 15 0 14, oW 16 kI 15, oM 17 1, oB 18 .neq 16 17]) (
 .cond (.t 18) (.seq (.g [oK 4 (-1)]) (
 .ret)) (.skip))) (
 .seq (.g [oM 19 1, oBi 20 .add 19 1, oM 1 20]) (
 .seq (.seq (.g [oM 21 0, oM 22 5, oI 23 7 21 22, oF 24 1 23, oW 25 kI 24, oM 26 1, oB 27 .neq 25 26]) (
 .cond (.t 27) (.seq (.g [oK 4 (-1)]) (
 .ret)) (.skip))) (
 .seq (.g [oM 28 1, oBi 29 .add 28 1, oM 1 29]) (
 .seq (.seq (.g [oM 30 0, oM 31 5, oI 32 7 30 31, oF 33 2 32, oF 34 0 33, oW 35 kI 34, oM 36 1, oB 37 .neq 35 36]) (
 .cond (.t 37) (.seq (.g [oK 4 (-1)]) (
 .ret)) (.skip))) (
 .seq (.g [oM 38 1, oBi 39 .add 38 1, oM 1 39]) (
 .seq (.seq (.dreg [] [(0, oM 40 0), (0, oM 41 5), (0, oI 42 7 40 41), (0, oF 43 2 42), (0, oF 44 1 43), (0, oW 45 .s 44), (0, oM 46 1), (1, oC 47 65 [.c .s] [46])] [oB 48 .neq 45 47]) (
 .cond (.t 48) (.seq (.g [oK 4 (-1)]) (
 .ret)) (.skip))) (
 .seq (.g [oM 49 1, oBi 50 .add 49 1, oM 1 50]) (
 .seq (.seq (.g [oM 51 0, oM 52 5, oI 53 7 51 52, oF 54 2 53, oF 55 2 54, oW 56 kI 55, oM 57 1, oB 58 .neq 56 57]) (
 .cond (.t 58) (.seq (.g [oK 4 (-1)]) (
 .ret)) (.skip))) (
 .seq (.g [oM 59 1, oBi 60 .add 59 1, oM 1 60]) (
 .seq (.g [oM 61 0, oM 62 5, oI 63 7 61 62, oF 64 2 63, oF 65 3 64, oW 66 (.sl 1) 65, oM 67 1, oC 68 68 [.c kI] [66, 67], oM 1 68]) (
 .seq (.seq (.g [oM 69 1, oBi 70 .lss 69 0]) (
 .cond (.t 70) (.seq (.g [oK 4 (-1)]) (
 .ret)) (.skip))) (
 .seq (.g [oM 71 0, oM 72 5, oI 73 7 71 72, oF 74 2 73, oF 75 4 74, oW 76 (.sl 5) 75, oM 77 1, oC 78 69 [.c kI] [76, 77], oM 1 78]) (
 .seq (.g [oM 79 1, oBi 80 .lss 79 0]) (
 .cond (.t 80) (.seq (.g [oK 4 (-1)]) (
 .ret)) (.skip))))))))))))))))) (
 .g [oM 10 5, oBi 11 .add 10 1, oM 5 11])))
def C9j : K4 := [(.ret, [(4, .c kI)]), ((.exit 0), [(1, .c kI)])]
noncomputable def B77 (T : Table) (k : Nat) := K7 (J5 ⟨T, [], []⟩ k C9i (Ex × List AV)) [0, 1, 5] C9j
def a41 : AFun := ⟨[.rd, .rd], false, [.t 4], (
 .seq (.g [oK 4 0]) (
 .seq (.seq (.g [oK 5 0]) (
 .block 0 (.loop [0, 1, 5] C9j C9i))) (
 .seq (.g [oM 81 1, oM 4 81]) (
 .ret))))⟩
theorem C57 (T : Table) (k n : Nat) (l3 : Rows) (n4 n5 : Int): B77 T k (n + 1) [.fz 7 l3, .v (.int .i64 n4), .v (.int .i64 n5)] = (
 bif (decide (n5 < (l3.length : Int))) then (
 tst (decide (0 ≤ n5)) (
 look l3 (Int.toNat n5) fun r6 =>
 cI .i64 r6 0 fun n7 =>
 bif (n7 != n4) then (
 some (.ret, [.v (.int .i64 (-1))])) else (
 tst (decide (0 ≤ n5)) (
 look l3 (Int.toNat n5) fun r8 =>
 cI .i64 r8 1 fun n9 =>
 bif (n9 != (IntKind.wrap .i64 (n4 + 1))) then (
 some (.ret, [.v (.int .i64 (-1))])) else (
 tst (decide (0 ≤ n5)) (
 look l3 (Int.toNat n5) fun r10 =>
 cI .i64 r10 2 fun n11 =>
 bif (n11 != (IntKind.wrap .i64 ((IntKind.wrap .i64 (n4 + 1)) + 1))) then (
 some (.ret, [.v (.int .i64 (-1))])) else (
 tst (decide (0 ≤ n5)) (
 look l3 (Int.toNat n5) fun r12 =>
 cS r12 3 fun s13 =>
 C8 T 65 [.d (.v (.int .i64 (IntKind.wrap .i64 ((IntKind.wrap .i64 ((IntKind.wrap .i64 (n4 + 1)) + 1)) + 1))))] fun o14 =>
 oD o14.res fun d15 =>
 dS d15 fun s16 =>
 bif (!(D9 s13 s16)) then (
 some (.ret, [.v (.int .i64 (-1))])) else (
 tst (decide (0 ≤ n5)) (
 look l3 (Int.toNat n5) fun r17 =>
 cI .i64 r17 4 fun n18 =>
 bif (n18 != (IntKind.wrap .i64 ((IntKind.wrap .i64 ((IntKind.wrap .i64 ((IntKind.wrap .i64 (n4 + 1)) + 1)) + 1)) + 1))) then (
 some (.ret, [.v (.int .i64 (-1))])) else (
 tst (decide (0 ≤ n5)) (
 look l3 (Int.toNat n5) fun r19 =>
 cL 1 r19 5 fun l20 =>
 C8 T 68 [.d (.s 1 l20), .d (.v (.int .i64 (IntKind.wrap .i64 ((IntKind.wrap .i64 ((IntKind.wrap .i64 ((IntKind.wrap .i64 ((IntKind.wrap .i64 (n4 + 1)) + 1)) + 1)) + 1)) + 1))))] fun o21 =>
 oD o21.res fun d22 =>
 dI .i64 d22 fun n23 =>
 bif (decide (n23 < 0)) then (
 some (.ret, [.v (.int .i64 (-1))])) else (
 tst (decide (0 ≤ n5)) (
 look l3 (Int.toNat n5) fun r24 =>
 cL 5 r24 6 fun l25 =>
 C8 T 69 [.d (.s 5 l25), .d (.v (.int .i64 n23))] fun o26 =>
 oD o26.res fun d27 =>
 dI .i64 d27 fun n28 =>
 bif (decide (n28 < 0)) then (
 some (.ret, [.v (.int .i64 (-1))])) else (
 B77 T k n [.fz 7 l3, .v (.int .i64 n28), .v (.int .i64 (IntKind.wrap .i64 (n5 + 1)))]))))))))))))))) else (
 some ((.exit 0), [.v (.int .i64 n4)]))) := by kernel_rfl
theorem D4h (T : Table) (k : Nat) (l1 : Rows) (n2 : Int): H9 T k a41 [.d (.s 7 l1), .d (.v (.int .i64 n2))] = (
 aft (B77 T k k [.fz 7 l1, .v (.int .i64 n2), .v (.int .i64 0)]) fun e29 ys30 =>
 bif e29.same .ret then (
 aV ys30 0 fun x31 =>
 aI .i64 x31 fun n32 =>
 some ⟨.d (.v (.int .i64 n32)), []⟩) else (
 bif e29.same (.exit 0) then (
 aV ys30 0 fun x33 =>
 aI .i64 x33 fun n34 =>
 some ⟨.d (.v (.int .i64 n34)), []⟩) else (
 none))) := by kernel_rfl
/- loop.example/g00119/laws.heldRunS -/
def C9k : ACode := (
 .seq (.seq (.g [oM 6 5, oM 7 0, oZ 8 7, oB 9 .lss 6 8]) (
 .cond (.t 9) (.skip) (.exit 0))) (
 .seq (.block 1 (.seq (.seq (.g [oM 12 0, oM 13 5, oI 14 2 12 13, oF 15 0 14, oW 16 kI 15, oM 17 1, oB 18 .neq 16 17]) (
 .cond (.t 18) (.seq (.g [oK 4 (-1)]) (
 .ret)) (.skip))) (
 .seq (.g [oM 19 1, oBi 20 .add 19 1, oM 1 20]) (
 .seq (.seq (.g [oM 21 0, oM 22 5, oI 23 2 21 22, oF 24 1 23, oW 25 kI 24, oM 26 1, oB 27 .neq 25 26]) (
 .cond (.t 27) (.seq (.g [oK 4 (-1)]) (
 .ret)) (.skip))) (
 .g [oM 28 1, oBi 29 .add 28 1, oM 1 29]))))) (
 .g [oM 10 5, oBi 11 .add 10 1, oM 5 11])))
def C9l : K4 := [(.ret, [(4, .c kI)]), ((.exit 0), [(1, .c kI)])]
noncomputable def B78 (T : Table) (k : Nat) := K7 (J5 ⟨T, [], []⟩ k C9k (Ex × List AV)) [0, 1, 5] C9l
def a42 : AFun := ⟨[.rd, .rd], false, [.t 4], (
 .seq (.g [oK 4 0]) (
 .seq (.seq (.g [oK 5 0]) (
 .block 0 (.loop [0, 1, 5] C9l C9k))) (
 .seq (.g [oM 30 1, oM 4 30]) (
 .ret))))⟩
theorem C58 (T : Table) (k n : Nat) (l3 : Rows) (n4 n5 : Int): B78 T k (n + 1) [.fz 2 l3, .v (.int .i64 n4), .v (.int .i64 n5)] = (
 bif (decide (n5 < (l3.length : Int))) then (
 tst (decide (0 ≤ n5)) (
 look l3 (Int.toNat n5) fun r6 =>
 cI .i64 r6 0 fun n7 =>
 bif (n7 != n4) then (
 some (.ret, [.v (.int .i64 (-1))])) else (
 tst (decide (0 ≤ n5)) (
 look l3 (Int.toNat n5) fun r8 =>
 cI .i64 r8 1 fun n9 =>
 bif (n9 != (IntKind.wrap .i64 (n4 + 1))) then (
 some (.ret, [.v (.int .i64 (-1))])) else (
 B78 T k n [.fz 2 l3, .v (.int .i64 (IntKind.wrap .i64 ((IntKind.wrap .i64 (n4 + 1)) + 1))), .v (.int .i64 (IntKind.wrap .i64 (n5 + 1)))]))))) else (
 some ((.exit 0), [.v (.int .i64 n4)]))) := by kernel_rfl
theorem D4i (T : Table) (k : Nat) (l1 : Rows) (n2 : Int): H9 T k a42 [.d (.s 2 l1), .d (.v (.int .i64 n2))] = (
 aft (B78 T k k [.fz 2 l1, .v (.int .i64 n2), .v (.int .i64 0)]) fun e10 ys11 =>
 bif e10.same .ret then (
 aV ys11 0 fun x12 =>
 aI .i64 x12 fun n13 =>
 some ⟨.d (.v (.int .i64 n13)), []⟩) else (
 bif e10.same (.exit 0) then (
 aV ys11 0 fun x14 =>
 aI .i64 x14 fun n15 =>
 some ⟨.d (.v (.int .i64 n15)), []⟩) else (
 none))) := by kernel_rfl
/- loop.example/g00119/laws.heldMsg -/
def a15 : AFun := ⟨[.rd, .rd], false, [.t 4], (
 .seq (.g [oQ 2 (.box (.t 0)), oK 4 0]) (
 .seq (.g [oF 5 3 2, oW 6 (.sl 7) 5, oM 7 1, oC 8 41 [.c kI] [6, 7], oM 1 8]) (
 .seq (.seq (.g [oM 9 1, oBi 10 .lss 9 0]) (
 .cond (.t 10) (.seq (.g [oK 4 (-1)]) (
 .ret)) (.skip))) (
 .seq (.g [oF 11 4 2, oW 12 (.sl 2) 11, oM 13 1, oC 14 42 [.c kI] [12, 13], oM 1 14]) (
 .seq (.seq (.g [oM 15 1, oBi 16 .lss 15 0]) (
 .cond (.t 16) (.seq (.g [oK 4 (-1)]) (
 .ret)) (.skip))) (
 .seq (.g [oM 17 1, oM 4 17]) (
 .ret)))))))⟩
theorem D4j (T : Table) (k : Nat) (n1 n3 n6 : Int) (s2 : ByteArray) (l4 l5 : Rows): H9 T k a15 [.g [.v (.int .i64 n1), .v (.string s2), .v (.int .i64 n3), .s 7 l4, .s 2 l5], .d (.v (.int .i64 n6))] = (
 C8 T 41 [.d (.s 7 l4), .d (.v (.int .i64 n6))] fun o7 =>
 oD o7.res fun d8 =>
 dI .i64 d8 fun n9 =>
 bif (decide (n9 < 0)) then (
 some ⟨.d (.v (.int .i64 (-1))), []⟩) else (
 C8 T 42 [.d (.s 2 l5), .d (.v (.int .i64 n9))] fun o10 =>
 oD o10.res fun d11 =>
 dI .i64 d11 fun n12 =>
 bif (decide (n12 < 0)) then (
 some ⟨.d (.v (.int .i64 (-1))), []⟩) else (
 some ⟨.d (.v (.int .i64 n12)), []⟩))) := by kernel_rfl
/- loop.example/g00119/laws.FnExactParseMsg -/
def a4 : AFun := ⟨[.rd], false, [.t 2], (
 .seq (.g [oV 2 false]) (
 .seq (.seq (.g [oM 11 0, oQ 12 (.len true (.t 11)), oBi 13 .gtr 12 1048576]) (
 .cond (.t 13) (.seq (.g [oV 2 true]) (
 .ret)) (.skip))) (
 .seq (.g [oM 15 0, oC 16 12 [.g [kI, .s, kI, .sl 7, .sl 2], .c .b] [15], oM 14 16, oX 17 14 0, oX 18 14 1, oQ 3 (.alloc [.v (.int .i64 0), .v (.string ByteArray.empty), .v (.int .i64 0), .s 7 [], .s 2 []]), oS (.store 5 (.t 3) (.t 17)), oM 4 18]) (
 .seq (.g [oM 20 0, oC 21 10 [.g [kI, .s, kI, .sl 7, .sl 2], .c .b] [20], oM 19 21, oX 22 19 0, oX 23 19 1, oQ 5 (.alloc [.v (.int .i64 0), .v (.string ByteArray.empty), .v (.int .i64 0), .s 7 [], .s 2 []]), oS (.store 5 (.t 5) (.t 22)), oM 6 23]) (
 .seq (.seq (.g [oL 24 [kI, .s, kI, .sl 7, .sl 2] 5, oL 25 [kI, .s, kI, .sl 7, .sl 2] 3, oC 26 13 [.c .b] [24, 25], oN 27 26, oM 28 27, oJ 29 28 false (.mv (.t 6)), oJ 30 28 false (.mv (.t 4)), oJ 31 28 false (.beq true (.t 29) (.t 30)), oQ 32 (.pick (.t 28) (.b true) (.t 31))]) (
 .cond (.t 32) (.seq (.g [oV 2 false]) (
 .ret)) (.skip))) (
 .seq (.g [oK 7 1]) (
 .seq (.g [oL 33 [kI, .s, kI, .sl 7, .sl 2] 5, oM 34 7, oQ 35 (.call (.f 14) [.lent, .rd] false [.c kI] [.t 33, .t 34]), oM 7 35]) (
 .seq (.g [oK 8 1]) (
 .seq (.g [oL 36 [kI, .s, kI, .sl 7, .sl 2] 5, oM 37 8, oC 38 15 [.c kI] [36, 37], oM 8 38]) (
 .seq (.seq (.g [oM 39 8, oBi 40 .lss 39 0]) (
 .cond (.t 40) (.seq (.g [oV 2 false]) (
 .ret)) (.skip))) (
 .seq (.seq (.g [oM 41 8, oM 42 7, oB 43 .neq 41 42]) (
 .cond (.t 43) (.seq (.g [oV 2 false]) (
 .ret)) (.skip))) (
 .seq (.g [oM 45 0, oC 46 10 [.g [kI, .s, kI, .sl 7, .sl 2], .c .b] [45], oM 44 46, oX 47 44 0, oX 48 44 1, oQ 9 (.alloc [.v (.int .i64 0), .v (.string ByteArray.empty), .v (.int .i64 0), .s 7 [], .s 2 []]), oS (.store 5 (.t 9) (.t 47)), oM 10 48]) (
 .seq (.seq (.g [oL 49 [kI, .s, kI, .sl 7, .sl 2] 9, oL 50 [kI, .s, kI, .sl 7, .sl 2] 3, oC 51 13 [.c .b] [49, 50], oN 52 51, oM 53 52, oJ 54 53 false (.mv (.t 10)), oJ 55 53 false (.mv (.t 4)), oJ 56 53 false (.beq true (.t 54) (.t 55)), oQ 57 (.pick (.t 53) (.b true) (.t 56))]) (
 .cond (.t 57) (.seq (.g [oV 2 false]) (
 .ret)) (.skip))) (
 .seq (.g [oK 8 1]) (
 .seq (.g [oL 58 [kI, .s, kI, .sl 7, .sl 2] 5, oM 59 8, oC 60 15 [.c kI] [58, 59], oM 8 60]) (
 .seq (.seq (.g [oM 61 8, oBi 62 .lss 61 0]) (
 .cond (.t 62) (.seq (.g [oV 2 false]) (
 .ret)) (.skip))) (
 .seq (.seq (.g [oM 63 8, oM 64 7, oB 65 .neq 63 64]) (
 .cond (.t 65) (.seq (.g [oV 2 false]) (
 .ret)) (.skip))) (
 .seq (.g [oV 2 true]) (
 .ret)))))))))))))))))))⟩
theorem a4q (T : Table) (k : Nat) (s1 : ByteArray): H9 T k a4 [.d (.v (.string s1))] = (
 bif (decide ((s1.size : Int) > 1048576)) then (
 some ⟨.d (.v (.bool true)), []⟩) else (
 C8 T 12 [.d (.v (.string s1))] fun o2 =>
 oT o2.res fun is3 =>
 tst (Nat.beq is3.length 2) (
 nth is3 0 fun i4 =>
 oG i4 fun r5 =>
 tst (Nat.beq r5.length 5) (
 cI .i64 r5 0 fun n6 =>
 cS r5 1 fun s7 =>
 cI .i64 r5 2 fun n8 =>
 cL 7 r5 3 fun l9 =>
 cL 2 r5 4 fun l10 =>
 nth is3 1 fun i11 =>
 oD i11 fun d12 =>
 dB d12 fun b13 =>
 C8 T 10 [.d (.v (.string s1))] fun o14 =>
 oT o14.res fun is15 =>
 tst (Nat.beq is15.length 2) (
 nth is15 0 fun i16 =>
 oG i16 fun r17 =>
 tst (Nat.beq r17.length 5) (
 cI .i64 r17 0 fun n18 =>
 cS r17 1 fun s19 =>
 cI .i64 r17 2 fun n20 =>
 cL 7 r17 3 fun l21 =>
 cL 2 r17 4 fun l22 =>
 nth is15 1 fun i23 =>
 oD i23 fun d24 =>
 dB d24 fun b25 =>
 C8 T 13 [.g [.v (.int .i64 n18), .v (.string s19), .v (.int .i64 n20), .s 7 l21, .s 2 l22], .g [.v (.int .i64 n6), .v (.string s7), .v (.int .i64 n8), .s 7 l9, .s 2 l10]] fun o26 =>
 oD o26.res fun d27 =>
 dB d27 fun b28 =>
 bif (!b28) == false then (
 bif (b25 != b13) then (
 some ⟨.d (.v (.bool false)), []⟩) else (
 C8 T 14 [.g [.v (.int .i64 n18), .v (.string s19), .v (.int .i64 n20), .s 7 l21, .s 2 l22], .d (.v (.int .i64 1))] fun o29 =>
 nth o29.back 0 fun i30 =>
 oG i30 fun r31 =>
 cL 7 r31 3 fun l32 =>
 cL 2 r31 4 fun l33 =>
 oD o29.res fun d34 =>
 dI .i64 d34 fun n35 =>
 C8 T 15 [.g [.v (.int .i64 n18), .v (.string s19), .v (.int .i64 n20), .s 7 l32, .s 2 l33], .d (.v (.int .i64 1))] fun o36 =>
 oD o36.res fun d37 =>
 dI .i64 d37 fun n38 =>
 bif (decide (n38 < 0)) then (
 some ⟨.d (.v (.bool false)), []⟩) else (
 bif (n38 != n35) then (
 some ⟨.d (.v (.bool false)), []⟩) else (
 C8 T 10 [.d (.v (.string s1))] fun o39 =>
 oT o39.res fun is40 =>
 tst (Nat.beq is40.length 2) (
 nth is40 0 fun i41 =>
 oG i41 fun r42 =>
 tst (Nat.beq r42.length 5) (
 cI .i64 r42 0 fun n43 =>
 cS r42 1 fun s44 =>
 cI .i64 r42 2 fun n45 =>
 cL 7 r42 3 fun l46 =>
 cL 2 r42 4 fun l47 =>
 nth is40 1 fun i48 =>
 oD i48 fun d49 =>
 dB d49 fun b50 =>
 C8 T 13 [.g [.v (.int .i64 n43), .v (.string s44), .v (.int .i64 n45), .s 7 l46, .s 2 l47], .g [.v (.int .i64 n6), .v (.string s7), .v (.int .i64 n8), .s 7 l9, .s 2 l10]] fun o51 =>
 oD o51.res fun d52 =>
 dB d52 fun b53 =>
 bif (!b53) == false then (
 bif (b50 != b13) then (
 some ⟨.d (.v (.bool false)), []⟩) else (
 C8 T 15 [.g [.v (.int .i64 n18), .v (.string s19), .v (.int .i64 n20), .s 7 l32, .s 2 l33], .d (.v (.int .i64 1))] fun o54 =>
 oD o54.res fun d55 =>
 dI .i64 d55 fun n56 =>
 bif (decide (n56 < 0)) then (
 some ⟨.d (.v (.bool false)), []⟩) else (
 bif (n56 != n35) then (
 some ⟨.d (.v (.bool false)), []⟩) else (
 some ⟨.d (.v (.bool true)), []⟩)))) else (
 some ⟨.d (.v (.bool false)), []⟩))))))) else (
 some ⟨.d (.v (.bool false)), []⟩))))))) := by kernel_rfl
end Go.Am.Pm
