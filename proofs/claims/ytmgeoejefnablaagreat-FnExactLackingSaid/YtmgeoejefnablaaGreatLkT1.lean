/- What the functions come to, printed: equations by the kernel. Nothing is assumed. -/
import Derived.Test.YtmgeoejefnablaaGreatLkT0
namespace Go.Am.Lk
set_option linter.unusedVariables false
set_option linter.unusedSimpArgs false
set_option maxRecDepth 8000
/- loop.example/g00119/laws.markOpS -/
def b192x0 : ACode := (
 .seq (.seq (.g [oM 6 5, oM 7 0, oZ 8 7, oB 9 .lss 6 8]) (
 .cond (.t 9) (.skip) (.exit 0))) (
 .seq (.block 1 (.seq (.g [oM 12 0, oM 13 5, oM 14 1, oI 15 7 12 13, oF 16 0 15, oS (.store 1 (.t 16) (.t 14))]) (
 .seq (.g [oM 17 1, oBi 18 .add 17 1, oM 1 18]) (
 .seq (.g [oM 19 0, oM 20 5, oI 21 7 19 20, oF 22 1 21, oW 23 (.sl 1) 22, oM 24 1, oQ 25 (.call (.f 61) [.lent, .rd] false [.c kI] [(.t 23), (.t 24)]), oM 1 25]) (
 .seq (.g [oM 26 0, oM 27 5, oM 28 1, oI 29 7 26 27, oF 30 2 29, oF 31 0 30, oS (.store 1 (.t 31) (.t 28))]) (
 .seq (.g [oM 32 1, oBi 33 .add 32 1, oM 1 33]) (
 .seq (.g [oM 34 0, oM 35 5, oM 36 1, oC 37 122 [.c .s] [36], oI 38 7 34 35, oF 39 2 38, oF 40 1 39, oS (.store 1 (.t 40) (.t 37))]) (
 .seq (.g [oM 41 1, oBi 42 .add 41 1, oM 1 42]) (
 .seq (.g [oM 43 0, oM 44 5, oM 45 1, oI 46 7 43 44, oF 47 2 46, oF 48 2 47, oS (.store 1 (.t 48) (.t 45))]) (
 .seq (.g [oM 49 1, oBi 50 .add 49 1, oM 1 50]) (
 .seq (.g [oM 51 0, oM 52 5, oI 53 7 51 52, oF 54 2 53, oF 55 3 54, oW 56 (.sl 1) 55, oM 57 1, oQ 58 (.call (.f 61) [.lent, .rd] false [.c kI] [(.t 56), (.t 57)]), oM 1 58]) (
 .g [oM 59 0, oM 60 5, oI 61 7 59 60, oF 62 2 61, oF 63 4 62, oW 64 (.sl 5) 63, oM 65 1, oQ 66 (.call (.f 125) [.lent, .rd] false [.c kI] [(.t 64), (.t 65)]), oM 1 66])))))))))))) (
 .g [oM 10 5, oBi 11 .add 10 1, oM 5 11])))
def e192x0 : Exits := [((.exit 0), [(0, .o 7), (1, .c kI)])]
noncomputable def l192x0 (T : Table) (k : Nat) := loopN (evalC ⟨T, [0]⟩ k b192x0 (Ex × List AV)) [0, 1, 5] e192x0
def a192 : AFun := ⟨[.lent, .rd], false, [.t 4], (
 .seq (.g [oK 4 0]) (
 .seq (.seq (.g [oK 5 0]) (
 .block 0 (.loop [0, 1, 5] e192x0 b192x0))) (
 .seq (.g [oM 67 1, oM 4 67]) (
 .ret))))⟩
theorem l192x0s (T : Table) (k n : Nat) (l3 : Rows) (n4 : Int) (n5 : Int) : l192x0 T k (n + 1) [(.o 7 l3), (.v (.int .i64 n4)), (.v (.int .i64 n5))] = (
 bif (decide (n5 < (l3.length : Int))) then (
 tst (decide (0 ≤ n5) && decide (Int.toNat n5 < l3.length)) (
 tst (decide (0 ≤ n5) && decide (Int.toNat n5 < (setD l3 (Int.toNat n5) 0 (.v (.int .i64 n4))).length)) (
 look (setD l3 (Int.toNat n5) 0 (.v (.int .i64 n4))) (Int.toNat n5) fun r6 =>
 cL 1 r6 1 fun l7 =>
 callT T 61 [(.d (.s 1 l7)), (.d (.v (.int .i64 (IntKind.wrap .i64 (n4 + 1)))))] fun o8 =>
 nth o8.back 0 fun i9 =>
 oD i9 fun d10 =>
 dL 1 d10 fun l11 =>
 oD o8.res fun d12 =>
 dI .i64 d12 fun n13 =>
 tst (decide (0 ≤ n5) && decide (Int.toNat n5 < (setD l3 (Int.toNat n5) 0 (.v (.int .i64 n4))).length)) (
 callT T 122 [(.d (.v (.int .i64 (IntKind.wrap .i64 (n13 + 1)))))] fun o14 =>
 oD o14.res fun d15 =>
 dS d15 fun s16 =>
 tst (decide (0 ≤ n5) && decide (Int.toNat n5 < (setD (setD l3 (Int.toNat n5) 0 (.v (.int .i64 n4))) (Int.toNat n5) 2 (.v (.int .i64 n13))).length)) (
 tst (decide (0 ≤ n5) && decide (Int.toNat n5 < (setD (setD (setD l3 (Int.toNat n5) 0 (.v (.int .i64 n4))) (Int.toNat n5) 2 (.v (.int .i64 n13))) (Int.toNat n5) 3 (.v (.string s16))).length)) (
 tst (decide (0 ≤ n5) && decide (Int.toNat n5 < (setD (setD (setD (setD l3 (Int.toNat n5) 0 (.v (.int .i64 n4))) (Int.toNat n5) 2 (.v (.int .i64 n13))) (Int.toNat n5) 3 (.v (.string s16))) (Int.toNat n5) 4 (.v (.int .i64 (IntKind.wrap .i64 ((IntKind.wrap .i64 (n13 + 1)) + 1))))).length)) (
 look (setD (setD (setD (setD l3 (Int.toNat n5) 0 (.v (.int .i64 n4))) (Int.toNat n5) 2 (.v (.int .i64 n13))) (Int.toNat n5) 3 (.v (.string s16))) (Int.toNat n5) 4 (.v (.int .i64 (IntKind.wrap .i64 ((IntKind.wrap .i64 (n13 + 1)) + 1))))) (Int.toNat n5) fun r17 =>
 cL 1 r17 5 fun l18 =>
 callT T 61 [(.d (.s 1 l18)), (.d (.v (.int .i64 (IntKind.wrap .i64 ((IntKind.wrap .i64 ((IntKind.wrap .i64 (n13 + 1)) + 1)) + 1)))))] fun o19 =>
 nth o19.back 0 fun i20 =>
 oD i20 fun d21 =>
 dL 1 d21 fun l22 =>
 oD o19.res fun d23 =>
 dI .i64 d23 fun n24 =>
 tst (decide (0 ≤ n5) && decide (Int.toNat n5 < (setD (setD (setD (setD l3 (Int.toNat n5) 0 (.v (.int .i64 n4))) (Int.toNat n5) 2 (.v (.int .i64 n13))) (Int.toNat n5) 3 (.v (.string s16))) (Int.toNat n5) 4 (.v (.int .i64 (IntKind.wrap .i64 ((IntKind.wrap .i64 (n13 + 1)) + 1))))).length)) (
 look (setD (setD (setD (setD l3 (Int.toNat n5) 0 (.v (.int .i64 n4))) (Int.toNat n5) 2 (.v (.int .i64 n13))) (Int.toNat n5) 3 (.v (.string s16))) (Int.toNat n5) 4 (.v (.int .i64 (IntKind.wrap .i64 ((IntKind.wrap .i64 (n13 + 1)) + 1))))) (Int.toNat n5) fun r25 =>
 cL 5 r25 6 fun l26 =>
 callT T 125 [(.d (.s 5 l26)), (.d (.v (.int .i64 n24)))] fun o27 =>
 nth o27.back 0 fun i28 =>
 oD i28 fun d29 =>
 dL 5 d29 fun l30 =>
 oD o27.res fun d31 =>
 dI .i64 d31 fun n32 =>
 l192x0 T k n [(.o 7 (setD (setD (setD (setD (setD (setD (setD l3 (Int.toNat n5) 0 (.v (.int .i64 n4))) (Int.toNat n5) 2 (.v (.int .i64 n13))) (Int.toNat n5) 3 (.v (.string s16))) (Int.toNat n5) 4 (.v (.int .i64 (IntKind.wrap .i64 ((IntKind.wrap .i64 (n13 + 1)) + 1))))) (Int.toNat n5) 6 (.s 5 l30)) (Int.toNat n5) 5 (.s 1 l22)) (Int.toNat n5) 1 (.s 1 l11))), (.v (.int .i64 n32)), (.v (.int .i64 (IntKind.wrap .i64 (n5 + 1))))])))))))) else (
 some ((.exit 0), [(.o 7 l3), (.v (.int .i64 n4))]))) := by kernel_rfl
theorem a192q (T : Table) (k : Nat) (l1 : Rows) (n2 : Int) : evalF T k a192 [(.d (.s 7 l1)), (.d (.v (.int .i64 n2)))] = (
 aft (l192x0 T k k [(.o 7 l1), (.v (.int .i64 n2)), (.v (.int .i64 0))]) fun e33 ys34 =>
 bif e33.same (.exit 0) then (
 aV ys34 0 fun x35 =>
 aO 7 x35 fun l36 =>
 aV ys34 1 fun x37 =>
 aI .i64 x37 fun n38 =>
 some ⟨(.d (.v (.int .i64 n38))), [(.d (.s 7 l36))]⟩) else (
 none)) := by kernel_rfl
/- loop.example/g00119/laws.markOverS -/
def b126x0 : ACode := (
 .seq (.seq (.g [oM 6 5, oM 7 0, oZ 8 7, oB 9 .lss 6 8]) (
 .cond (.t 9) (.skip) (.exit 0))) (
 .seq (.block 1 (.seq (.g [oM 12 0, oM 13 5, oM 14 1, oC 15 122 [.c .s] [14], oI 16 2 12 13, oF 17 0 16, oS (.store 1 (.t 17) (.t 15))]) (
 .seq (.g [oM 18 1, oBi 19 .add 18 1, oM 1 19]) (
 .g [oM 20 0, oM 21 5, oI 22 2 20 21, oF 23 1 22, oW 24 (.sl 7) 23, oM 25 1, oQ 26 (.call (.f 192) [.lent, .rd] false [.c kI] [(.t 24), (.t 25)]), oM 1 26])))) (
 .g [oM 10 5, oBi 11 .add 10 1, oM 5 11])))
def e126x0 : Exits := [((.exit 0), [(0, .o 2), (1, .c kI)])]
noncomputable def l126x0 (T : Table) (k : Nat) := loopN (evalC ⟨T, [0]⟩ k b126x0 (Ex × List AV)) [0, 1, 5] e126x0
def a126 : AFun := ⟨[.lent, .rd], false, [.t 4], (
 .seq (.g [oK 4 0]) (
 .seq (.seq (.g [oK 5 0]) (
 .block 0 (.loop [0, 1, 5] e126x0 b126x0))) (
 .seq (.g [oM 27 1, oM 4 27]) (
 .ret))))⟩
theorem l126x0s (T : Table) (k n : Nat) (l3 : Rows) (n4 : Int) (n5 : Int) : l126x0 T k (n + 1) [(.o 2 l3), (.v (.int .i64 n4)), (.v (.int .i64 n5))] = (
 bif (decide (n5 < (l3.length : Int))) then (
 callT T 122 [(.d (.v (.int .i64 n4)))] fun o6 =>
 oD o6.res fun d7 =>
 dS d7 fun s8 =>
 tst (decide (0 ≤ n5) && decide (Int.toNat n5 < l3.length)) (
 tst (decide (0 ≤ n5) && decide (Int.toNat n5 < (setD l3 (Int.toNat n5) 0 (.v (.string s8))).length)) (
 look (setD l3 (Int.toNat n5) 0 (.v (.string s8))) (Int.toNat n5) fun r9 =>
 cL 7 r9 1 fun l10 =>
 callT T 192 [(.d (.s 7 l10)), (.d (.v (.int .i64 (IntKind.wrap .i64 (n4 + 1)))))] fun o11 =>
 nth o11.back 0 fun i12 =>
 oD i12 fun d13 =>
 dL 7 d13 fun l14 =>
 oD o11.res fun d15 =>
 dI .i64 d15 fun n16 =>
 l126x0 T k n [(.o 2 (setD (setD l3 (Int.toNat n5) 0 (.v (.string s8))) (Int.toNat n5) 1 (.s 7 l14))), (.v (.int .i64 n16)), (.v (.int .i64 (IntKind.wrap .i64 (n5 + 1))))]))) else (
 some ((.exit 0), [(.o 2 l3), (.v (.int .i64 n4))]))) := by kernel_rfl
theorem a126q (T : Table) (k : Nat) (l1 : Rows) (n2 : Int) : evalF T k a126 [(.d (.s 2 l1)), (.d (.v (.int .i64 n2)))] = (
 aft (l126x0 T k k [(.o 2 l1), (.v (.int .i64 n2)), (.v (.int .i64 0))]) fun e17 ys18 =>
 bif e17.same (.exit 0) then (
 aV ys18 0 fun x19 =>
 aO 2 x19 fun l20 =>
 aV ys18 1 fun x21 =>
 aI .i64 x21 fun n22 =>
 some ⟨(.d (.v (.int .i64 n22))), [(.d (.s 2 l20))]⟩) else (
 none)) := by kernel_rfl
/- loop.example/g00119/laws.markJobS -/
def b58x0 : ACode := (
 .seq (.seq (.g [oM 6 5, oM 7 0, oZ 8 7, oB 9 .lss 6 8]) (
 .cond (.t 9) (.skip) (.exit 0))) (
 .seq (.block 1 (.seq (.g [oM 12 0, oM 13 5, oM 14 1, oI 15 13 12 13, oF 16 0 15, oS (.store 1 (.t 16) (.t 14))]) (
 .seq (.g [oM 17 1, oBi 18 .add 17 1, oM 1 18]) (
 .seq (.g [oM 19 0, oM 20 5, oM 21 1, oC 22 122 [.c .s] [21], oI 23 13 19 20, oF 24 1 23, oS (.store 1 (.t 24) (.t 22))]) (
 .seq (.g [oM 25 1, oBi 26 .add 25 1, oM 1 26]) (
 .seq (.g [oM 27 0, oM 28 5, oM 29 1, oI 30 13 27 28, oF 31 2 30, oF 32 0 31, oS (.store 1 (.t 32) (.t 29))]) (
 .seq (.g [oM 33 1, oBi 34 .add 33 1, oM 1 34]) (
 .seq (.g [oM 35 0, oM 36 5, oI 37 13 35 36, oF 38 2 37, oF 39 1 38, oW 40 (.sl 3) 39, oM 41 1, oQ 42 (.call (.f 123) [.lent, .rd] false [.c kI] [(.t 40), (.t 41)]), oM 1 42]) (
 .seq (.g [oM 43 0, oM 44 5, oI 45 13 43 44, oF 46 2 45, oF 47 2 46, oW 48 (.sl 1) 47, oM 49 1, oQ 50 (.call (.f 61) [.lent, .rd] false [.c kI] [(.t 48), (.t 49)]), oM 1 50]) (
 .seq (.g [oM 51 0, oM 52 5, oI 53 13 51 52, oF 54 2 53, oF 55 3 54, oW 56 (.sl 2) 55, oM 57 1, oQ 58 (.call (.f 124) [.lent, .rd] false [.c kI] [(.t 56), (.t 57)]), oM 1 58]) (
 .seq (.g [oM 59 0, oM 60 5, oM 61 1, oI 62 13 59 60, oF 63 6 62, oF 64 0 63, oS (.store 1 (.t 64) (.t 61))]) (
 .seq (.g [oM 65 1, oBi 66 .add 65 1, oM 1 66]) (
 .seq (.g [oM 67 0, oM 68 5, oM 69 1, oC 70 122 [.c .s] [69], oI 71 13 67 68, oF 72 6 71, oF 73 1 72, oS (.store 1 (.t 73) (.t 70))]) (
 .seq (.g [oM 74 1, oBi 75 .add 74 1, oM 1 75]) (
 .seq (.g [oM 76 0, oM 77 5, oM 78 1, oI 79 13 76 77, oF 80 6 79, oF 81 2 80, oS (.store 1 (.t 81) (.t 78))]) (
 .seq (.g [oM 82 1, oBi 83 .add 82 1, oM 1 83]) (
 .seq (.g [oM 84 0, oM 85 5, oI 86 13 84 85, oF 87 6 86, oF 88 3 87, oW 89 (.sl 1) 88, oM 90 1, oQ 91 (.call (.f 61) [.lent, .rd] false [.c kI] [(.t 89), (.t 90)]), oM 1 91]) (
 .seq (.g [oM 92 0, oM 93 5, oI 94 13 92 93, oF 95 6 94, oF 96 4 95, oW 97 (.sl 5) 96, oM 98 1, oQ 99 (.call (.f 125) [.lent, .rd] false [.c kI] [(.t 97), (.t 98)]), oM 1 99]) (
 .seq (.g [oM 100 0, oM 101 5, oI 102 13 100 101, oF 103 11 102, oW 104 (.sl 2) 103, oM 105 1, oQ 106 (.call (.f 126) [.lent, .rd] false [.c kI] [(.t 104), (.t 105)]), oM 1 106]) (
 .seq (.g [oM 107 0, oM 108 5, oM 109 1, oBi 110 .rem 109 3, oBi 111 .eql 110 0, oI 112 13 107 108, oF 113 12 112, oS (.store 1 (.t 113) (.t 111))]) (
 .g [oM 114 1, oBi 115 .add 114 1, oM 1 115]))))))))))))))))))))) (
 .g [oM 10 5, oBi 11 .add 10 1, oM 5 11])))
def e58x0 : Exits := [((.exit 0), [(0, .o 13), (1, .c kI)])]
noncomputable def l58x0 (T : Table) (k : Nat) := loopN (evalC ⟨T, [0]⟩ k b58x0 (Ex × List AV)) [0, 1, 5] e58x0
def a58 : AFun := ⟨[.lent, .rd], false, [.t 4], (
 .seq (.g [oK 4 0]) (
 .seq (.seq (.g [oK 5 0]) (
 .block 0 (.loop [0, 1, 5] e58x0 b58x0))) (
 .seq (.g [oM 116 1, oM 4 116]) (
 .ret))))⟩
theorem l58x0s (T : Table) (k n : Nat) (l3 : Rows) (n4 : Int) (n5 : Int) : l58x0 T k (n + 1) [(.o 13 l3), (.v (.int .i64 n4)), (.v (.int .i64 n5))] = (
 bif (decide (n5 < (l3.length : Int))) then (
 tst (decide (0 ≤ n5) && decide (Int.toNat n5 < l3.length)) (
 callT T 122 [(.d (.v (.int .i64 (IntKind.wrap .i64 (n4 + 1)))))] fun o6 =>
 oD o6.res fun d7 =>
 dS d7 fun s8 =>
 tst (decide (0 ≤ n5) && decide (Int.toNat n5 < (setD l3 (Int.toNat n5) 0 (.v (.int .i64 n4))).length)) (
 tst (decide (0 ≤ n5) && decide (Int.toNat n5 < (setD (setD l3 (Int.toNat n5) 0 (.v (.int .i64 n4))) (Int.toNat n5) 1 (.v (.string s8))).length)) (
 tst (decide (0 ≤ n5) && decide (Int.toNat n5 < (setD (setD (setD l3 (Int.toNat n5) 0 (.v (.int .i64 n4))) (Int.toNat n5) 1 (.v (.string s8))) (Int.toNat n5) 2 (.v (.int .i64 (IntKind.wrap .i64 ((IntKind.wrap .i64 (n4 + 1)) + 1))))).length)) (
 look (setD (setD (setD l3 (Int.toNat n5) 0 (.v (.int .i64 n4))) (Int.toNat n5) 1 (.v (.string s8))) (Int.toNat n5) 2 (.v (.int .i64 (IntKind.wrap .i64 ((IntKind.wrap .i64 (n4 + 1)) + 1))))) (Int.toNat n5) fun r9 =>
 cL 3 r9 3 fun l10 =>
 callT T 123 [(.d (.s 3 l10)), (.d (.v (.int .i64 (IntKind.wrap .i64 ((IntKind.wrap .i64 ((IntKind.wrap .i64 (n4 + 1)) + 1)) + 1)))))] fun o11 =>
 nth o11.back 0 fun i12 =>
 oD i12 fun d13 =>
 dL 3 d13 fun l14 =>
 oD o11.res fun d15 =>
 dI .i64 d15 fun n16 =>
 tst (decide (0 ≤ n5) && decide (Int.toNat n5 < (setD (setD (setD l3 (Int.toNat n5) 0 (.v (.int .i64 n4))) (Int.toNat n5) 1 (.v (.string s8))) (Int.toNat n5) 2 (.v (.int .i64 (IntKind.wrap .i64 ((IntKind.wrap .i64 (n4 + 1)) + 1))))).length)) (
 look (setD (setD (setD l3 (Int.toNat n5) 0 (.v (.int .i64 n4))) (Int.toNat n5) 1 (.v (.string s8))) (Int.toNat n5) 2 (.v (.int .i64 (IntKind.wrap .i64 ((IntKind.wrap .i64 (n4 + 1)) + 1))))) (Int.toNat n5) fun r17 =>
 cL 1 r17 4 fun l18 =>
 callT T 61 [(.d (.s 1 l18)), (.d (.v (.int .i64 n16)))] fun o19 =>
 nth o19.back 0 fun i20 =>
 oD i20 fun d21 =>
 dL 1 d21 fun l22 =>
 oD o19.res fun d23 =>
 dI .i64 d23 fun n24 =>
 tst (decide (0 ≤ n5) && decide (Int.toNat n5 < (setD (setD (setD l3 (Int.toNat n5) 0 (.v (.int .i64 n4))) (Int.toNat n5) 1 (.v (.string s8))) (Int.toNat n5) 2 (.v (.int .i64 (IntKind.wrap .i64 ((IntKind.wrap .i64 (n4 + 1)) + 1))))).length)) (
 look (setD (setD (setD l3 (Int.toNat n5) 0 (.v (.int .i64 n4))) (Int.toNat n5) 1 (.v (.string s8))) (Int.toNat n5) 2 (.v (.int .i64 (IntKind.wrap .i64 ((IntKind.wrap .i64 (n4 + 1)) + 1))))) (Int.toNat n5) fun r25 =>
 cL 2 r25 5 fun l26 =>
 callT T 124 [(.d (.s 2 l26)), (.d (.v (.int .i64 n24)))] fun o27 =>
 nth o27.back 0 fun i28 =>
 oD i28 fun d29 =>
 dL 2 d29 fun l30 =>
 oD o27.res fun d31 =>
 dI .i64 d31 fun n32 =>
 tst (decide (0 ≤ n5) && decide (Int.toNat n5 < (setD (setD (setD l3 (Int.toNat n5) 0 (.v (.int .i64 n4))) (Int.toNat n5) 1 (.v (.string s8))) (Int.toNat n5) 2 (.v (.int .i64 (IntKind.wrap .i64 ((IntKind.wrap .i64 (n4 + 1)) + 1))))).length)) (
 callT T 122 [(.d (.v (.int .i64 (IntKind.wrap .i64 (n32 + 1)))))] fun o33 =>
 oD o33.res fun d34 =>
 dS d34 fun s35 =>
 tst (decide (0 ≤ n5) && decide (Int.toNat n5 < (setD (setD (setD (setD l3 (Int.toNat n5) 0 (.v (.int .i64 n4))) (Int.toNat n5) 1 (.v (.string s8))) (Int.toNat n5) 2 (.v (.int .i64 (IntKind.wrap .i64 ((IntKind.wrap .i64 (n4 + 1)) + 1))))) (Int.toNat n5) 6 (.v (.int .i64 n32))).length)) (
 tst (decide (0 ≤ n5) && decide (Int.toNat n5 < (setD (setD (setD (setD (setD l3 (Int.toNat n5) 0 (.v (.int .i64 n4))) (Int.toNat n5) 1 (.v (.string s8))) (Int.toNat n5) 2 (.v (.int .i64 (IntKind.wrap .i64 ((IntKind.wrap .i64 (n4 + 1)) + 1))))) (Int.toNat n5) 6 (.v (.int .i64 n32))) (Int.toNat n5) 7 (.v (.string s35))).length)) (
 tst (decide (0 ≤ n5) && decide (Int.toNat n5 < (setD (setD (setD (setD (setD (setD l3 (Int.toNat n5) 0 (.v (.int .i64 n4))) (Int.toNat n5) 1 (.v (.string s8))) (Int.toNat n5) 2 (.v (.int .i64 (IntKind.wrap .i64 ((IntKind.wrap .i64 (n4 + 1)) + 1))))) (Int.toNat n5) 6 (.v (.int .i64 n32))) (Int.toNat n5) 7 (.v (.string s35))) (Int.toNat n5) 8 (.v (.int .i64 (IntKind.wrap .i64 ((IntKind.wrap .i64 (n32 + 1)) + 1))))).length)) (
 look (setD (setD (setD (setD (setD (setD l3 (Int.toNat n5) 0 (.v (.int .i64 n4))) (Int.toNat n5) 1 (.v (.string s8))) (Int.toNat n5) 2 (.v (.int .i64 (IntKind.wrap .i64 ((IntKind.wrap .i64 (n4 + 1)) + 1))))) (Int.toNat n5) 6 (.v (.int .i64 n32))) (Int.toNat n5) 7 (.v (.string s35))) (Int.toNat n5) 8 (.v (.int .i64 (IntKind.wrap .i64 ((IntKind.wrap .i64 (n32 + 1)) + 1))))) (Int.toNat n5) fun r36 =>
 cL 1 r36 9 fun l37 =>
 callT T 61 [(.d (.s 1 l37)), (.d (.v (.int .i64 (IntKind.wrap .i64 ((IntKind.wrap .i64 ((IntKind.wrap .i64 (n32 + 1)) + 1)) + 1)))))] fun o38 =>
 nth o38.back 0 fun i39 =>
 oD i39 fun d40 =>
 dL 1 d40 fun l41 =>
 oD o38.res fun d42 =>
 dI .i64 d42 fun n43 =>
 tst (decide (0 ≤ n5) && decide (Int.toNat n5 < (setD (setD (setD (setD (setD (setD l3 (Int.toNat n5) 0 (.v (.int .i64 n4))) (Int.toNat n5) 1 (.v (.string s8))) (Int.toNat n5) 2 (.v (.int .i64 (IntKind.wrap .i64 ((IntKind.wrap .i64 (n4 + 1)) + 1))))) (Int.toNat n5) 6 (.v (.int .i64 n32))) (Int.toNat n5) 7 (.v (.string s35))) (Int.toNat n5) 8 (.v (.int .i64 (IntKind.wrap .i64 ((IntKind.wrap .i64 (n32 + 1)) + 1))))).length)) (
 look (setD (setD (setD (setD (setD (setD l3 (Int.toNat n5) 0 (.v (.int .i64 n4))) (Int.toNat n5) 1 (.v (.string s8))) (Int.toNat n5) 2 (.v (.int .i64 (IntKind.wrap .i64 ((IntKind.wrap .i64 (n4 + 1)) + 1))))) (Int.toNat n5) 6 (.v (.int .i64 n32))) (Int.toNat n5) 7 (.v (.string s35))) (Int.toNat n5) 8 (.v (.int .i64 (IntKind.wrap .i64 ((IntKind.wrap .i64 (n32 + 1)) + 1))))) (Int.toNat n5) fun r44 =>
 cL 5 r44 10 fun l45 =>
 callT T 125 [(.d (.s 5 l45)), (.d (.v (.int .i64 n43)))] fun o46 =>
 nth o46.back 0 fun i47 =>
 oD i47 fun d48 =>
 dL 5 d48 fun l49 =>
 oD o46.res fun d50 =>
 dI .i64 d50 fun n51 =>
 tst (decide (0 ≤ n5) && decide (Int.toNat n5 < (setD (setD (setD (setD (setD (setD l3 (Int.toNat n5) 0 (.v (.int .i64 n4))) (Int.toNat n5) 1 (.v (.string s8))) (Int.toNat n5) 2 (.v (.int .i64 (IntKind.wrap .i64 ((IntKind.wrap .i64 (n4 + 1)) + 1))))) (Int.toNat n5) 6 (.v (.int .i64 n32))) (Int.toNat n5) 7 (.v (.string s35))) (Int.toNat n5) 8 (.v (.int .i64 (IntKind.wrap .i64 ((IntKind.wrap .i64 (n32 + 1)) + 1))))).length)) (
 look (setD (setD (setD (setD (setD (setD l3 (Int.toNat n5) 0 (.v (.int .i64 n4))) (Int.toNat n5) 1 (.v (.string s8))) (Int.toNat n5) 2 (.v (.int .i64 (IntKind.wrap .i64 ((IntKind.wrap .i64 (n4 + 1)) + 1))))) (Int.toNat n5) 6 (.v (.int .i64 n32))) (Int.toNat n5) 7 (.v (.string s35))) (Int.toNat n5) 8 (.v (.int .i64 (IntKind.wrap .i64 ((IntKind.wrap .i64 (n32 + 1)) + 1))))) (Int.toNat n5) fun r52 =>
 cL 2 r52 11 fun l53 =>
 callT T 126 [(.d (.s 2 l53)), (.d (.v (.int .i64 n51)))] fun o54 =>
 nth o54.back 0 fun i55 =>
 oD i55 fun d56 =>
 dL 2 d56 fun l57 =>
 oD o54.res fun d58 =>
 dI .i64 d58 fun n59 =>
 tst (decide (3 ≠ 0)) (
 tst (decide (0 ≤ n5) && decide (Int.toNat n5 < (setD (setD (setD (setD (setD (setD l3 (Int.toNat n5) 0 (.v (.int .i64 n4))) (Int.toNat n5) 1 (.v (.string s8))) (Int.toNat n5) 2 (.v (.int .i64 (IntKind.wrap .i64 ((IntKind.wrap .i64 (n4 + 1)) + 1))))) (Int.toNat n5) 6 (.v (.int .i64 n32))) (Int.toNat n5) 7 (.v (.string s35))) (Int.toNat n5) 8 (.v (.int .i64 (IntKind.wrap .i64 ((IntKind.wrap .i64 (n32 + 1)) + 1))))).length)) (
 l58x0 T k n [(.o 13 (setD (setD (setD (setD (setD (setD (setD (setD (setD (setD (setD (setD (setD l3 (Int.toNat n5) 0 (.v (.int .i64 n4))) (Int.toNat n5) 1 (.v (.string s8))) (Int.toNat n5) 2 (.v (.int .i64 (IntKind.wrap .i64 ((IntKind.wrap .i64 (n4 + 1)) + 1))))) (Int.toNat n5) 6 (.v (.int .i64 n32))) (Int.toNat n5) 7 (.v (.string s35))) (Int.toNat n5) 8 (.v (.int .i64 (IntKind.wrap .i64 ((IntKind.wrap .i64 (n32 + 1)) + 1))))) (Int.toNat n5) 12 (.v (.bool ((Int.tmod n59 3) == 0)))) (Int.toNat n5) 11 (.s 2 l57)) (Int.toNat n5) 10 (.s 5 l49)) (Int.toNat n5) 9 (.s 1 l41)) (Int.toNat n5) 5 (.s 2 l30)) (Int.toNat n5) 4 (.s 1 l22)) (Int.toNat n5) 3 (.s 3 l14))), (.v (.int .i64 (IntKind.wrap .i64 (n59 + 1)))), (.v (.int .i64 (IntKind.wrap .i64 (n5 + 1))))]))))))))))))))) else (
 some ((.exit 0), [(.o 13 l3), (.v (.int .i64 n4))]))) := by kernel_rfl
theorem a58q (T : Table) (k : Nat) (l1 : Rows) (n2 : Int) : evalF T k a58 [(.d (.s 13 l1)), (.d (.v (.int .i64 n2)))] = (
 aft (l58x0 T k k [(.o 13 l1), (.v (.int .i64 n2)), (.v (.int .i64 0))]) fun e60 ys61 =>
 bif e60.same (.exit 0) then (
 aV ys61 0 fun x62 =>
 aO 13 x62 fun l63 =>
 aV ys61 1 fun x64 =>
 aI .i64 x64 fun n65 =>
 some ⟨(.d (.v (.int .i64 n65))), [(.d (.s 13 l63))]⟩) else (
 none)) := by kernel_rfl
/- loop.example/g00119/laws.markLabelS -/
def b127x0 : ACode := (
 .seq (.seq (.g [oM 6 5, oM 7 0, oZ 8 7, oB 9 .lss 6 8]) (
 .cond (.t 9) (.skip) (.exit 0))) (
 .seq (.block 1 (.seq (.g [oM 12 0, oM 13 5, oM 14 1, oC 15 122 [.c .s] [14], oI 16 2 12 13, oF 17 0 16, oS (.store 1 (.t 17) (.t 15))]) (
 .seq (.g [oM 18 1, oBi 19 .add 18 1, oM 1 19]) (
 .seq (.g [oM 20 0, oM 21 5, oM 22 1, oC 23 122 [.c .s] [22], oI 24 2 20 21, oF 25 1 24, oS (.store 1 (.t 25) (.t 23))]) (
 .g [oM 26 1, oBi 27 .add 26 1, oM 1 27]))))) (
 .g [oM 10 5, oBi 11 .add 10 1, oM 5 11])))
def e127x0 : Exits := [((.exit 0), [(0, .o 2), (1, .c kI)])]
noncomputable def l127x0 (T : Table) (k : Nat) := loopN (evalC ⟨T, [0]⟩ k b127x0 (Ex × List AV)) [0, 1, 5] e127x0
def a127 : AFun := ⟨[.lent, .rd], false, [.t 4], (
 .seq (.g [oK 4 0]) (
 .seq (.seq (.g [oK 5 0]) (
 .block 0 (.loop [0, 1, 5] e127x0 b127x0))) (
 .seq (.g [oM 28 1, oM 4 28]) (
 .ret))))⟩
theorem l127x0s (T : Table) (k n : Nat) (l3 : Rows) (n4 : Int) (n5 : Int) : l127x0 T k (n + 1) [(.o 2 l3), (.v (.int .i64 n4)), (.v (.int .i64 n5))] = (
 bif (decide (n5 < (l3.length : Int))) then (
 callT T 122 [(.d (.v (.int .i64 n4)))] fun o6 =>
 oD o6.res fun d7 =>
 dS d7 fun s8 =>
 tst (decide (0 ≤ n5) && decide (Int.toNat n5 < l3.length)) (
 callT T 122 [(.d (.v (.int .i64 (IntKind.wrap .i64 (n4 + 1)))))] fun o9 =>
 oD o9.res fun d10 =>
 dS d10 fun s11 =>
 tst (decide (0 ≤ n5) && decide (Int.toNat n5 < (setD l3 (Int.toNat n5) 0 (.v (.string s8))).length)) (
 l127x0 T k n [(.o 2 (setD (setD l3 (Int.toNat n5) 0 (.v (.string s8))) (Int.toNat n5) 1 (.v (.string s11)))), (.v (.int .i64 (IntKind.wrap .i64 ((IntKind.wrap .i64 (n4 + 1)) + 1)))), (.v (.int .i64 (IntKind.wrap .i64 (n5 + 1))))]))) else (
 some ((.exit 0), [(.o 2 l3), (.v (.int .i64 n4))]))) := by kernel_rfl
theorem a127q (T : Table) (k : Nat) (l1 : Rows) (n2 : Int) : evalF T k a127 [(.d (.s 2 l1)), (.d (.v (.int .i64 n2)))] = (
 aft (l127x0 T k k [(.o 2 l1), (.v (.int .i64 n2)), (.v (.int .i64 0))]) fun e12 ys13 =>
 bif e12.same (.exit 0) then (
 aV ys13 0 fun x14 =>
 aO 2 x14 fun l15 =>
 aV ys13 1 fun x16 =>
 aI .i64 x16 fun n17 =>
 some ⟨(.d (.v (.int .i64 n17))), [(.d (.s 2 l15))]⟩) else (
 none)) := by kernel_rfl
/- loop.example/g00119/laws.markPostS -/
def b59x0 : ACode := (
 .seq (.seq (.g [oM 6 5, oM 7 0, oZ 8 7, oB 9 .lss 6 8]) (
 .cond (.t 9) (.skip) (.exit 0))) (
 .seq (.block 1 (.seq (.g [oM 12 0, oM 13 5, oM 14 1, oC 15 122 [.c .s] [14], oI 16 6 12 13, oF 17 0 16, oF 18 0 17, oS (.store 1 (.t 18) (.t 15))]) (
 .seq (.g [oM 19 1, oBi 20 .add 19 1, oM 1 20]) (
 .seq (.g [oM 21 0, oM 22 5, oI 23 6 21 22, oF 24 0 23, oF 25 1 24, oW 26 (.sl 2) 25, oM 27 1, oQ 28 (.call (.f 127) [.lent, .rd] false [.c kI] [(.t 26), (.t 27)]), oM 1 28]) (
 .seq (.g [oM 29 0, oM 30 5, oI 31 6 29 30, oF 32 0 31, oF 33 2 32, oW 34 (.sl 1) 33, oM 35 1, oQ 36 (.call (.f 61) [.lent, .rd] false [.c kI] [(.t 34), (.t 35)]), oM 1 36]) (
 .seq (.g [oM 37 0, oM 38 5, oM 39 1, oI 40 6 37 38, oF 41 0 40, oF 42 3 41, oS (.store 1 (.t 42) (.t 39))]) (
 .seq (.g [oM 43 1, oBi 44 .add 43 1, oM 1 44]) (
 .seq (.g [oM 45 0, oM 46 5, oM 47 1, oI 48 6 45 46, oF 49 4 48, oS (.store 1 (.t 49) (.t 47))]) (
 .seq (.g [oM 50 1, oBi 51 .add 50 1, oM 1 51]) (
 .seq (.g [oM 52 0, oM 53 5, oM 54 1, oI 55 6 52 53, oF 56 5 55, oS (.store 1 (.t 56) (.t 54))]) (
 .g [oM 57 1, oBi 58 .add 57 1, oM 1 58]))))))))))) (
 .g [oM 10 5, oBi 11 .add 10 1, oM 5 11])))
def e59x0 : Exits := [((.exit 0), [(0, .o 6), (1, .c kI)])]
noncomputable def l59x0 (T : Table) (k : Nat) := loopN (evalC ⟨T, [0]⟩ k b59x0 (Ex × List AV)) [0, 1, 5] e59x0
def a59 : AFun := ⟨[.lent, .rd], false, [.t 4], (
 .seq (.g [oK 4 0]) (
 .seq (.seq (.g [oK 5 0]) (
 .block 0 (.loop [0, 1, 5] e59x0 b59x0))) (
 .seq (.g [oM 59 1, oM 4 59]) (
 .ret))))⟩
theorem l59x0s (T : Table) (k n : Nat) (l3 : Rows) (n4 : Int) (n5 : Int) : l59x0 T k (n + 1) [(.o 6 l3), (.v (.int .i64 n4)), (.v (.int .i64 n5))] = (
 bif (decide (n5 < (l3.length : Int))) then (
 callT T 122 [(.d (.v (.int .i64 n4)))] fun o6 =>
 oD o6.res fun d7 =>
 dS d7 fun s8 =>
 tst (decide (0 ≤ n5) && decide (Int.toNat n5 < l3.length)) (
 tst (decide (0 ≤ n5) && decide (Int.toNat n5 < (setD l3 (Int.toNat n5) 0 (.v (.string s8))).length)) (
 look (setD l3 (Int.toNat n5) 0 (.v (.string s8))) (Int.toNat n5) fun r9 =>
 cL 2 r9 1 fun l10 =>
 callT T 127 [(.d (.s 2 l10)), (.d (.v (.int .i64 (IntKind.wrap .i64 (n4 + 1)))))] fun o11 =>
 nth o11.back 0 fun i12 =>
 oD i12 fun d13 =>
 dL 2 d13 fun l14 =>
 oD o11.res fun d15 =>
 dI .i64 d15 fun n16 =>
 tst (decide (0 ≤ n5) && decide (Int.toNat n5 < (setD l3 (Int.toNat n5) 0 (.v (.string s8))).length)) (
 look (setD l3 (Int.toNat n5) 0 (.v (.string s8))) (Int.toNat n5) fun r17 =>
 cL 1 r17 2 fun l18 =>
 callT T 61 [(.d (.s 1 l18)), (.d (.v (.int .i64 n16)))] fun o19 =>
 nth o19.back 0 fun i20 =>
 oD i20 fun d21 =>
 dL 1 d21 fun l22 =>
 oD o19.res fun d23 =>
 dI .i64 d23 fun n24 =>
 tst (decide (0 ≤ n5) && decide (Int.toNat n5 < (setD l3 (Int.toNat n5) 0 (.v (.string s8))).length)) (
 tst (decide (0 ≤ n5) && decide (Int.toNat n5 < (setD (setD l3 (Int.toNat n5) 0 (.v (.string s8))) (Int.toNat n5) 3 (.v (.int .i64 n24))).length)) (
 tst (decide (0 ≤ n5) && decide (Int.toNat n5 < (setD (setD (setD l3 (Int.toNat n5) 0 (.v (.string s8))) (Int.toNat n5) 3 (.v (.int .i64 n24))) (Int.toNat n5) 4 (.v (.int .i64 (IntKind.wrap .i64 (n24 + 1))))).length)) (
 l59x0 T k n [(.o 6 (setD (setD (setD (setD (setD (setD l3 (Int.toNat n5) 0 (.v (.string s8))) (Int.toNat n5) 3 (.v (.int .i64 n24))) (Int.toNat n5) 4 (.v (.int .i64 (IntKind.wrap .i64 (n24 + 1))))) (Int.toNat n5) 5 (.v (.int .i64 (IntKind.wrap .i64 ((IntKind.wrap .i64 (n24 + 1)) + 1))))) (Int.toNat n5) 2 (.s 1 l22)) (Int.toNat n5) 1 (.s 2 l14))), (.v (.int .i64 (IntKind.wrap .i64 ((IntKind.wrap .i64 ((IntKind.wrap .i64 (n24 + 1)) + 1)) + 1)))), (.v (.int .i64 (IntKind.wrap .i64 (n5 + 1))))]))))))) else (
 some ((.exit 0), [(.o 6 l3), (.v (.int .i64 n4))]))) := by kernel_rfl
theorem a59q (T : Table) (k : Nat) (l1 : Rows) (n2 : Int) : evalF T k a59 [(.d (.s 6 l1)), (.d (.v (.int .i64 n2)))] = (
 aft (l59x0 T k k [(.o 6 l1), (.v (.int .i64 n2)), (.v (.int .i64 0))]) fun e25 ys26 =>
 bif e25.same (.exit 0) then (
 aV ys26 0 fun x27 =>
 aO 6 x27 fun l28 =>
 aV ys26 1 fun x29 =>
 aI .i64 x29 fun n30 =>
 some ⟨(.d (.v (.int .i64 n30))), [(.d (.s 6 l28))]⟩) else (
 none)) := by kernel_rfl
/- loop.example/g00119/laws.markHoldS -/
def b60x0 : ACode := (
 .seq (.seq (.g [oM 6 5, oM 7 0, oZ 8 7, oB 9 .lss 6 8]) (
 .cond (.t 9) (.skip) (.exit 0))) (
 .seq (.block 1 (.seq (.g [oM 12 0, oM 13 5, oM 14 1, oI 15 5 12 13, oF 16 0 15, oS (.store 1 (.t 16) (.t 14))]) (
 .seq (.g [oM 17 1, oBi 18 .add 17 1, oM 1 18]) (
 .seq (.g [oM 19 0, oM 20 5, oM 21 1, oC 22 122 [.c .s] [21], oI 23 5 19 20, oF 24 1 23, oS (.store 1 (.t 24) (.t 22))]) (
 .seq (.g [oM 25 1, oBi 26 .add 25 1, oM 1 26]) (
 .seq (.g [oM 27 0, oM 28 5, oM 29 1, oI 30 5 27 28, oF 31 2 30, oS (.store 1 (.t 31) (.t 29))]) (
 .seq (.g [oM 32 1, oBi 33 .add 32 1, oM 1 33]) (
 .seq (.g [oM 34 0, oM 35 5, oM 36 1, oI 37 5 34 35, oF 38 3 37, oS (.store 1 (.t 38) (.t 36))]) (
 .seq (.g [oM 39 1, oBi 40 .add 39 1, oM 1 40]) (
 .seq (.g [oM 41 0, oM 42 5, oM 43 1, oI 44 5 41 42, oF 45 4 44, oS (.store 1 (.t 45) (.t 43))]) (
 .g [oM 46 1, oBi 47 .add 46 1, oM 1 47]))))))))))) (
 .g [oM 10 5, oBi 11 .add 10 1, oM 5 11])))
def e60x0 : Exits := [((.exit 0), [(0, .o 5), (1, .c kI)])]
noncomputable def l60x0 (T : Table) (k : Nat) := loopN (evalC ⟨T, [0]⟩ k b60x0 (Ex × List AV)) [0, 1, 5] e60x0
def a60 : AFun := ⟨[.lent, .rd], false, [.t 4], (
 .seq (.g [oK 4 0]) (
 .seq (.seq (.g [oK 5 0]) (
 .block 0 (.loop [0, 1, 5] e60x0 b60x0))) (
 .seq (.g [oM 48 1, oM 4 48]) (
 .ret))))⟩
theorem l60x0s (T : Table) (k n : Nat) (l3 : Rows) (n4 : Int) (n5 : Int) : l60x0 T k (n + 1) [(.o 5 l3), (.v (.int .i64 n4)), (.v (.int .i64 n5))] = (
 bif (decide (n5 < (l3.length : Int))) then (
 tst (decide (0 ≤ n5) && decide (Int.toNat n5 < l3.length)) (
 callT T 122 [(.d (.v (.int .i64 (IntKind.wrap .i64 (n4 + 1)))))] fun o6 =>
 oD o6.res fun d7 =>
 dS d7 fun s8 =>
 tst (decide (0 ≤ n5) && decide (Int.toNat n5 < (setD l3 (Int.toNat n5) 0 (.v (.int .i64 n4))).length)) (
 tst (decide (0 ≤ n5) && decide (Int.toNat n5 < (setD (setD l3 (Int.toNat n5) 0 (.v (.int .i64 n4))) (Int.toNat n5) 1 (.v (.string s8))).length)) (
 tst (decide (0 ≤ n5) && decide (Int.toNat n5 < (setD (setD (setD l3 (Int.toNat n5) 0 (.v (.int .i64 n4))) (Int.toNat n5) 1 (.v (.string s8))) (Int.toNat n5) 2 (.v (.int .i64 (IntKind.wrap .i64 ((IntKind.wrap .i64 (n4 + 1)) + 1))))).length)) (
 tst (decide (0 ≤ n5) && decide (Int.toNat n5 < (setD (setD (setD (setD l3 (Int.toNat n5) 0 (.v (.int .i64 n4))) (Int.toNat n5) 1 (.v (.string s8))) (Int.toNat n5) 2 (.v (.int .i64 (IntKind.wrap .i64 ((IntKind.wrap .i64 (n4 + 1)) + 1))))) (Int.toNat n5) 3 (.v (.int .i64 (IntKind.wrap .i64 ((IntKind.wrap .i64 ((IntKind.wrap .i64 (n4 + 1)) + 1)) + 1))))).length)) (
 l60x0 T k n [(.o 5 (setD (setD (setD (setD (setD l3 (Int.toNat n5) 0 (.v (.int .i64 n4))) (Int.toNat n5) 1 (.v (.string s8))) (Int.toNat n5) 2 (.v (.int .i64 (IntKind.wrap .i64 ((IntKind.wrap .i64 (n4 + 1)) + 1))))) (Int.toNat n5) 3 (.v (.int .i64 (IntKind.wrap .i64 ((IntKind.wrap .i64 ((IntKind.wrap .i64 (n4 + 1)) + 1)) + 1))))) (Int.toNat n5) 4 (.v (.int .i64 (IntKind.wrap .i64 ((IntKind.wrap .i64 ((IntKind.wrap .i64 ((IntKind.wrap .i64 (n4 + 1)) + 1)) + 1)) + 1)))))), (.v (.int .i64 (IntKind.wrap .i64 ((IntKind.wrap .i64 ((IntKind.wrap .i64 ((IntKind.wrap .i64 ((IntKind.wrap .i64 (n4 + 1)) + 1)) + 1)) + 1)) + 1)))), (.v (.int .i64 (IntKind.wrap .i64 (n5 + 1))))])))))) else (
 some ((.exit 0), [(.o 5 l3), (.v (.int .i64 n4))]))) := by kernel_rfl
theorem a60q (T : Table) (k : Nat) (l1 : Rows) (n2 : Int) : evalF T k a60 [(.d (.s 5 l1)), (.d (.v (.int .i64 n2)))] = (
 aft (l60x0 T k k [(.o 5 l1), (.v (.int .i64 n2)), (.v (.int .i64 0))]) fun e9 ys10 =>
 bif e9.same (.exit 0) then (
 aV ys10 0 fun x11 =>
 aO 5 x11 fun l12 =>
 aV ys10 1 fun x13 =>
 aI .i64 x13 fun n14 =>
 some ⟨(.d (.v (.int .i64 n14))), [(.d (.s 5 l12))]⟩) else (
 none)) := by kernel_rfl
/- loop.example/g00119/laws.markHub -/

def a18 : AFun := ⟨[.lent, .rd], false, [.t 4], (
 .seq (.g [oQ 2 (.box (.t 0)), oK 4 0]) (
 .seq (.g [oF 5 3 2, oW 6 (.sl 13) 5, oM 7 1, oQ 8 (.call (.f 58) [.lent, .rd] false [.c kI] [(.t 6), (.t 7)]), oM 1 8]) (
 .seq (.g [oF 9 4 2, oW 10 (.sl 6) 9, oM 11 1, oQ 12 (.call (.f 59) [.lent, .rd] false [.c kI] [(.t 10), (.t 11)]), oM 1 12]) (
 .seq (.g [oF 13 5 2, oW 14 (.sl 5) 13, oM 15 1, oQ 16 (.call (.f 60) [.lent, .rd] false [.c kI] [(.t 14), (.t 15)]), oM 1 16]) (
 .seq (.g [oF 17 6 2, oW 18 (.sl 1) 17, oM 19 1, oQ 20 (.call (.f 61) [.lent, .rd] false [.c kI] [(.t 18), (.t 19)]), oM 1 20]) (
 .seq (.g [oM 21 1, oM 4 21]) (
 .ret)))))))⟩

theorem a18q (T : Table) (k : Nat) (n1 : Int) (n2 : Int) (n3 : Int) (l4 : Rows) (l5 : Rows) (l6 : Rows) (l7 : Rows) (n8 : Int) : evalF T k a18 [(.g [(.v (.int .i64 n1)), (.v (.int .i64 n2)), (.v (.int .i64 n3)), (.s 13 l4), (.s 6 l5), (.s 5 l6), (.s 1 l7)]), (.d (.v (.int .i64 n8)))] = (
 callT T 58 [(.d (.s 13 l4)), (.d (.v (.int .i64 n8)))] fun o9 =>
 nth o9.back 0 fun i10 =>
 oD i10 fun d11 =>
 dL 13 d11 fun l12 =>
 oD o9.res fun d13 =>
 dI .i64 d13 fun n14 =>
 callT T 59 [(.d (.s 6 l5)), (.d (.v (.int .i64 n14)))] fun o15 =>
 nth o15.back 0 fun i16 =>
 oD i16 fun d17 =>
 dL 6 d17 fun l18 =>
 oD o15.res fun d19 =>
 dI .i64 d19 fun n20 =>
 callT T 60 [(.d (.s 5 l6)), (.d (.v (.int .i64 n20)))] fun o21 =>
 nth o21.back 0 fun i22 =>
 oD i22 fun d23 =>
 dL 5 d23 fun l24 =>
 oD o21.res fun d25 =>
 dI .i64 d25 fun n26 =>
 callT T 61 [(.d (.s 1 l7)), (.d (.v (.int .i64 n26)))] fun o27 =>
 nth o27.back 0 fun i28 =>
 oD i28 fun d29 =>
 dL 1 d29 fun l30 =>
 oD o27.res fun d31 =>
 dI .i64 d31 fun n32 =>
 some ⟨(.d (.v (.int .i64 n32))), [(.g [(.v (.int .i64 n1)), (.v (.int .i64 n2)), (.v (.int .i64 n3)), (.s 13 l12), (.s 6 l18), (.s 5 l24), (.s 1 l30)])]⟩) := by kernel_rfl
/- loop.example/g00119/laws.markIntS -/
def b19x0 : ACode := (
 .seq (.seq (.g [oM 6 5, oM 7 0, oZ 8 7, oB 9 .lss 6 8]) (
 .cond (.t 9) (.skip) (.exit 0))) (
 .seq (.block 1 (.seq (.g [oM 12 0, oM 13 5, oM 14 1, oI 15 1 12 13, oS (.store 1 (.t 15) (.t 14))]) (
 .g [oM 16 1, oBi 17 .add 16 1, oM 1 17]))) (
 .g [oM 10 5, oBi 11 .add 10 1, oM 5 11])))
def e19x0 : Exits := [((.exit 0), [(0, .o 1), (1, .c kI)])]
noncomputable def l19x0 (T : Table) (k : Nat) := loopN (evalC ⟨T, [0]⟩ k b19x0 (Ex × List AV)) [0, 1, 5] e19x0
def a19 : AFun := ⟨[.lent, .rd], false, [.t 4], (
 .seq (.g [oK 4 0]) (
 .seq (.seq (.g [oK 5 0]) (
 .block 0 (.loop [0, 1, 5] e19x0 b19x0))) (
 .seq (.g [oM 18 1, oM 4 18]) (
 .ret))))⟩
theorem l19x0s (T : Table) (k n : Nat) (l3 : Rows) (n4 : Int) (n5 : Int) : l19x0 T k (n + 1) [(.o 1 l3), (.v (.int .i64 n4)), (.v (.int .i64 n5))] = (
 bif (decide (n5 < (l3.length : Int))) then (
 tst (decide (0 ≤ n5) && decide (Int.toNat n5 < l3.length)) (
 l19x0 T k n [(.o 1 (setD l3 (Int.toNat n5) 0 (.v (.int .i64 n4)))), (.v (.int .i64 (IntKind.wrap .i64 (n4 + 1)))), (.v (.int .i64 (IntKind.wrap .i64 (n5 + 1))))])) else (
 some ((.exit 0), [(.o 1 l3), (.v (.int .i64 n4))]))) := by kernel_rfl
theorem a19q (T : Table) (k : Nat) (l1 : Rows) (n2 : Int) : evalF T k a19 [(.d (.s 1 l1)), (.d (.v (.int .i64 n2)))] = (
 aft (l19x0 T k k [(.o 1 l1), (.v (.int .i64 n2)), (.v (.int .i64 0))]) fun e6 ys7 =>
 bif e6.same (.exit 0) then (
 aV ys7 0 fun x8 =>
 aO 1 x8 fun l9 =>
 aV ys7 1 fun x10 =>
 aI .i64 x10 fun n11 =>
 some ⟨(.d (.v (.int .i64 n11))), [(.d (.s 1 l9))]⟩) else (
 none)) := by kernel_rfl
/- loop.example/g00119/laws.heldIntS -/
def b20x0 : ACode := (
 .seq (.seq (.g [oM 6 5, oM 7 0, oZ 8 7, oB 9 .lss 6 8]) (
 .cond (.t 9) (.skip) (.exit 0))) (
 .seq (.block 1 (.seq (.seq (.g [oM 12 0, oM 13 5, oI 14 1 12 13, oW 15 kI 14, oM 16 1, oB 17 .neq 15 16]) (
 .cond (.t 17) (.seq (.g [oK 4 (-1)]) (
 .ret)) (.skip))) (
 .g [oM 18 1, oBi 19 .add 18 1, oM 1 19]))) (
 .g [oM 10 5, oBi 11 .add 10 1, oM 5 11])))
def e20x0 : Exits := [(.ret, [(4, .c kI)]), ((.exit 0), [(1, .c kI)])]
noncomputable def l20x0 (T : Table) (k : Nat) := loopN (evalC ⟨T, []⟩ k b20x0 (Ex × List AV)) [0, 1, 5] e20x0
def a20 : AFun := ⟨[.rd, .rd], false, [.t 4], (
 .seq (.g [oK 4 0]) (
 .seq (.seq (.g [oK 5 0]) (
 .block 0 (.loop [0, 1, 5] e20x0 b20x0))) (
 .seq (.g [oM 20 1, oM 4 20]) (
 .ret))))⟩
theorem l20x0s (T : Table) (k n : Nat) (l3 : Rows) (n4 : Int) (n5 : Int) : l20x0 T k (n + 1) [(.fz 1 l3), (.v (.int .i64 n4)), (.v (.int .i64 n5))] = (
 bif (decide (n5 < (l3.length : Int))) then (
 tst (decide (0 ≤ n5)) (
 look l3 (Int.toNat n5) fun r6 =>
 cI .i64 r6 0 fun n7 =>
 bif (n7 != n4) then (
 some (.ret, [(.v (.int .i64 (-1)))])) else (
 l20x0 T k n [(.fz 1 l3), (.v (.int .i64 (IntKind.wrap .i64 (n4 + 1)))), (.v (.int .i64 (IntKind.wrap .i64 (n5 + 1))))]))) else (
 some ((.exit 0), [(.v (.int .i64 n4))]))) := by kernel_rfl
theorem a20q (T : Table) (k : Nat) (l1 : Rows) (n2 : Int) : evalF T k a20 [(.d (.s 1 l1)), (.d (.v (.int .i64 n2)))] = (
 aft (l20x0 T k k [(.fz 1 l1), (.v (.int .i64 n2)), (.v (.int .i64 0))]) fun e8 ys9 =>
 bif e8.same .ret then (
 aV ys9 0 fun x10 =>
 aI .i64 x10 fun n11 =>
 some ⟨(.d (.v (.int .i64 n11))), []⟩) else (
 bif e8.same (.exit 0) then (
 aV ys9 0 fun x12 =>
 aI .i64 x12 fun n13 =>
 some ⟨(.d (.v (.int .i64 n13))), []⟩) else (
 none))) := by kernel_rfl
/- loop.example/g00119/laws.FnExactLacking -/

def a4 : AFun := ⟨[.rd], false, [.t 2], (
 .seq (.g [oQ 1 (.box (.t 0)), oV 2 false]) (
 .seq (.g [oK 3 1048576]) (
 .seq (.g [oL 11 [kI, kI, kI, (.sl 13), (.sl 6), (.sl 5), (.sl 1)] 1, oM 12 3, oC 13 12 [.c kI] [11, 12], oM 3 13]) (
 .seq (.seq (.g [oM 14 3, oBi 15 .lss 14 0]) (
 .cond (.t 15) (.seq (.g [oV 2 true]) (
 .ret)) (.skip))) (
 .seq (.g [oL 16 [kI, kI, kI, (.sl 13), (.sl 6), (.sl 5), (.sl 1)] 1, oC 17 14 [.g [kI, kI, kI, (.sl 13), (.sl 6), (.sl 5), (.sl 1)]] [16], oC 18 13 [.c (.sl 1)] [17], oM 4 18]) (
 .seq (.g [oL 19 [kI, kI, kI, (.sl 13), (.sl 6), (.sl 5), (.sl 1)] 1, oC 20 14 [.g [kI, kI, kI, (.sl 13), (.sl 6), (.sl 5), (.sl 1)]] [19], oQ 5 (.alloc [(.v (.int .i64 0)), (.v (.int .i64 0)), (.v (.int .i64 0)), (.s 13 []), (.s 6 []), (.s 5 []), (.s 1 [])]), oS (.store 7 (.t 5) (.t 20))]) (
 .seq (.g [oL 21 [kI, kI, kI, (.sl 13), (.sl 6), (.sl 5), (.sl 1)] 5, oC 22 15 [.c (.sl 1)] [21], oM 6 22]) (
 .seq (.seq (.g [oM 23 6, oM 24 4, oC 25 16 [.c .b] [23, 24], oN 26 25]) (
 .cond (.t 26) (.seq (.g [oV 2 false]) (
 .ret)) (.skip))) (
 .seq (.seq (.dreg [] [(0, oL 27 [kI, kI, kI, (.sl 13), (.sl 6), (.sl 5), (.sl 1)] 5), (0, oL 28 [kI, kI, kI, (.sl 13), (.sl 6), (.sl 5), (.sl 1)] 1), (1, oC 29 14 [.g [kI, kI, kI, (.sl 13), (.sl 6), (.sl 5), (.sl 1)]] [28])] [oC 30 17 [.c .b] [27, 29], oN 31 30]) (
 .cond (.t 31) (.seq (.g [oV 2 false]) (
 .ret)) (.skip))) (
 .seq (.g [oK 7 1]) (
 .seq (.g [oL 32 [kI, kI, kI, (.sl 13), (.sl 6), (.sl 5), (.sl 1)] 5, oM 33 7, oQ 34 (.call (.f 18) [.lent, .rd] false [.c kI] [(.t 32), (.t 33)]), oM 7 34]) (
 .seq (.seq (.g [oM 35 7, oBi 36 .lss 35 0, oM 37 36, oJ 38 37 false (.mv (.t 6)), oJ 39 37 false (.mv (.t 4)), oJ 40 37 false (.call (.f 16) [.rd, .rd] false [.c .b] [(.t 38), (.t 39)]), oJ 41 37 false (.un .not (.t 40)), oQ 42 (.pick (.t 37) (.b true) (.t 41))]) (
 .cond (.t 42) (.seq (.g [oV 2 false]) (
 .ret)) (.skip))) (
 .seq (.g [oK 8 1]) (
 .seq (.g [oM 43 6, oM 44 8, oQ 45 (.call (.f 19) [.lent, .rd] false [.c kI] [(.t 43), (.t 44)]), oM 8 45]) (
 .seq (.g [oK 9 1]) (
 .seq (.g [oM 46 6, oM 47 9, oC 48 20 [.c kI] [46, 47], oM 9 48]) (
 .seq (.seq (.g [oM 49 9, oBi 50 .lss 49 0]) (
 .cond (.t 50) (.seq (.g [oV 2 false]) (
 .ret)) (.skip))) (
 .seq (.seq (.g [oM 51 9, oM 52 8, oB 53 .neq 51 52]) (
 .cond (.t 53) (.seq (.g [oV 2 false]) (
 .ret)) (.skip))) (
 .seq (.g [oL 54 [kI, kI, kI, (.sl 13), (.sl 6), (.sl 5), (.sl 1)] 1, oC 55 14 [.g [kI, kI, kI, (.sl 13), (.sl 6), (.sl 5), (.sl 1)]] [54], oC 56 15 [.c (.sl 1)] [55], oM 10 56]) (
 .seq (.seq (.g [oM 57 10, oM 58 4, oC 59 16 [.c .b] [57, 58], oN 60 59]) (
 .cond (.t 60) (.seq (.g [oV 2 false]) (
 .ret)) (.skip))) (
 .seq (.g [oK 9 1]) (
 .seq (.g [oM 61 6, oM 62 9, oC 63 20 [.c kI] [61, 62], oM 9 63]) (
 .seq (.seq (.g [oM 64 9, oBi 65 .lss 64 0]) (
 .cond (.t 65) (.seq (.g [oV 2 false]) (
 .ret)) (.skip))) (
 .seq (.seq (.g [oM 66 9, oM 67 8, oB 68 .neq 66 67]) (
 .cond (.t 68) (.seq (.g [oV 2 false]) (
 .ret)) (.skip))) (
 .seq (.g [oV 2 true]) (
 .ret))))))))))))))))))))))))))⟩

theorem a4q (T : Table) (k : Nat) (n1 : Int) (n2 : Int) (n3 : Int) (l4 : Rows) (l5 : Rows) (l6 : Rows) (l7 : Rows) : evalF T k a4 [(.g [(.v (.int .i64 n1)), (.v (.int .i64 n2)), (.v (.int .i64 n3)), (.s 13 l4), (.s 6 l5), (.s 5 l6), (.s 1 l7)])] = (
 callT T 12 [(.g [(.v (.int .i64 n1)), (.v (.int .i64 n2)), (.v (.int .i64 n3)), (.s 13 l4), (.s 6 l5), (.s 5 l6), (.s 1 l7)]), (.d (.v (.int .i64 1048576)))] fun o8 =>
 oD o8.res fun d9 =>
 dI .i64 d9 fun n10 =>
 bif (decide (n10 < 0)) then (
 some ⟨(.d (.v (.bool true))), []⟩) else (
 callT T 14 [(.g [(.v (.int .i64 n1)), (.v (.int .i64 n2)), (.v (.int .i64 n3)), (.s 13 l4), (.s 6 l5), (.s 5 l6), (.s 1 l7)])] fun o11 =>
 oG o11.res fun r12 =>
 tst (Nat.beq r12.length 7) (
 cI .i64 r12 0 fun n13 =>
 cI .i64 r12 1 fun n14 =>
 cI .i64 r12 2 fun n15 =>
 cL 13 r12 3 fun l16 =>
 cL 6 r12 4 fun l17 =>
 cL 5 r12 5 fun l18 =>
 cL 1 r12 6 fun l19 =>
 callT T 13 [(.g [(.v (.int .i64 n13)), (.v (.int .i64 n14)), (.v (.int .i64 n15)), (.s 13 l16), (.s 6 l17), (.s 5 l18), (.s 1 l19)])] fun o20 =>
 oD o20.res fun d21 =>
 dL 1 d21 fun l22 =>
 callT T 14 [(.g [(.v (.int .i64 n1)), (.v (.int .i64 n2)), (.v (.int .i64 n3)), (.s 13 l4), (.s 6 l5), (.s 5 l6), (.s 1 l7)])] fun o23 =>
 oG o23.res fun r24 =>
 tst (Nat.beq r24.length 7) (
 cI .i64 r24 0 fun n25 =>
 cI .i64 r24 1 fun n26 =>
 cI .i64 r24 2 fun n27 =>
 cL 13 r24 3 fun l28 =>
 cL 6 r24 4 fun l29 =>
 cL 5 r24 5 fun l30 =>
 cL 1 r24 6 fun l31 =>
 callT T 15 [(.g [(.v (.int .i64 n25)), (.v (.int .i64 n26)), (.v (.int .i64 n27)), (.s 13 l28), (.s 6 l29), (.s 5 l30), (.s 1 l31)])] fun o32 =>
 oD o32.res fun d33 =>
 dL 1 d33 fun l34 =>
 callT T 16 [(.d (.s 1 l34)), (.d (.s 1 l22))] fun o35 =>
 oD o35.res fun d36 =>
 dB d36 fun b37 =>
 bif (!b37) then (
 some ⟨(.d (.v (.bool false))), []⟩) else (
 callT T 14 [(.g [(.v (.int .i64 n1)), (.v (.int .i64 n2)), (.v (.int .i64 n3)), (.s 13 l4), (.s 6 l5), (.s 5 l6), (.s 1 l7)])] fun o38 =>
 oG o38.res fun r39 =>
 tst (Nat.beq r39.length 7) (
 cI .i64 r39 0 fun n40 =>
 cI .i64 r39 1 fun n41 =>
 cI .i64 r39 2 fun n42 =>
 cL 13 r39 3 fun l43 =>
 cL 6 r39 4 fun l44 =>
 cL 5 r39 5 fun l45 =>
 cL 1 r39 6 fun l46 =>
 callT T 17 [(.g [(.v (.int .i64 n25)), (.v (.int .i64 n26)), (.v (.int .i64 n27)), (.s 13 l28), (.s 6 l29), (.s 5 l30), (.s 1 l31)]), (.g [(.v (.int .i64 n40)), (.v (.int .i64 n41)), (.v (.int .i64 n42)), (.s 13 l43), (.s 6 l44), (.s 5 l45), (.s 1 l46)])] fun o47 =>
 oD o47.res fun d48 =>
 dB d48 fun b49 =>
 bif (!b49) then (
 some ⟨(.d (.v (.bool false))), []⟩) else (
 callT T 18 [(.g [(.v (.int .i64 n25)), (.v (.int .i64 n26)), (.v (.int .i64 n27)), (.s 13 l28), (.s 6 l29), (.s 5 l30), (.s 1 l31)]), (.d (.v (.int .i64 1)))] fun o50 =>
 nth o50.back 0 fun i51 =>
 oG i51 fun r52 =>
 cL 13 r52 3 fun l53 =>
 cL 6 r52 4 fun l54 =>
 cL 5 r52 5 fun l55 =>
 cL 1 r52 6 fun l56 =>
 oD o50.res fun d57 =>
 dI .i64 d57 fun n58 =>
 bif (decide (n58 < 0)) == false then (
 callT T 16 [(.d (.s 1 l34)), (.d (.s 1 l22))] fun o59 =>
 oD o59.res fun d60 =>
 dB d60 fun b61 =>
 bif (!b61) then (
 some ⟨(.d (.v (.bool false))), []⟩) else (
 callT T 19 [(.d (.s 1 l34)), (.d (.v (.int .i64 1)))] fun o62 =>
 nth o62.back 0 fun i63 =>
 oD i63 fun d64 =>
 dL 1 d64 fun l65 =>
 oD o62.res fun d66 =>
 dI .i64 d66 fun n67 =>
 callT T 20 [(.d (.s 1 l65)), (.d (.v (.int .i64 1)))] fun o68 =>
 oD o68.res fun d69 =>
 dI .i64 d69 fun n70 =>
 bif (decide (n70 < 0)) then (
 some ⟨(.d (.v (.bool false))), []⟩) else (
 bif (n70 != n67) then (
 some ⟨(.d (.v (.bool false))), []⟩) else (
 callT T 14 [(.g [(.v (.int .i64 n1)), (.v (.int .i64 n2)), (.v (.int .i64 n3)), (.s 13 l4), (.s 6 l5), (.s 5 l6), (.s 1 l7)])] fun o71 =>
 oG o71.res fun r72 =>
 tst (Nat.beq r72.length 7) (
 cI .i64 r72 0 fun n73 =>
 cI .i64 r72 1 fun n74 =>
 cI .i64 r72 2 fun n75 =>
 cL 13 r72 3 fun l76 =>
 cL 6 r72 4 fun l77 =>
 cL 5 r72 5 fun l78 =>
 cL 1 r72 6 fun l79 =>
 callT T 15 [(.g [(.v (.int .i64 n73)), (.v (.int .i64 n74)), (.v (.int .i64 n75)), (.s 13 l76), (.s 6 l77), (.s 5 l78), (.s 1 l79)])] fun o80 =>
 oD o80.res fun d81 =>
 dL 1 d81 fun l82 =>
 callT T 16 [(.d (.s 1 l82)), (.d (.s 1 l22))] fun o83 =>
 oD o83.res fun d84 =>
 dB d84 fun b85 =>
 bif (!b85) then (
 some ⟨(.d (.v (.bool false))), []⟩) else (
 callT T 20 [(.d (.s 1 l65)), (.d (.v (.int .i64 1)))] fun o86 =>
 oD o86.res fun d87 =>
 dI .i64 d87 fun n88 =>
 bif (decide (n88 < 0)) then (
 some ⟨(.d (.v (.bool false))), []⟩) else (
 bif (n88 != n67) then (
 some ⟨(.d (.v (.bool false))), []⟩) else (
 some ⟨(.d (.v (.bool true))), []⟩)))))))) else (
 some ⟨(.d (.v (.bool false))), []⟩)))))))) := by kernel_rfl

end Go.Am.Lk
