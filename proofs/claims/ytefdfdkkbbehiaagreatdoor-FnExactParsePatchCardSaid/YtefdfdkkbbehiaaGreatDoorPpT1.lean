/- What the functions come to, printed: equations by the kernel. Nothing is assumed. -/
import Derived.Test.YtefdfdkkbbehiaaGreatDoorPpT0
namespace Go.Am.Pp
set_option linter.unusedVariables false
set_option linter.unusedSimpArgs false
set_option maxRecDepth 8000
/- loop.example/g00119/laws.heldValueS -/
def b30x0 : ACode := (
 .seq (.seq (.g [oM 6 5, oM 7 0, oZ 8 7, oB 9 .lss 6 8]) (
 .cond (.t 9) (.skip) (.exit 0))) (
 .seq (.block 1 (.seq (.seq (.g [oM 12 0, oM 13 5, oI 14 5 12 13, oF 15 0 14, oW 16 kI 15, oM 17 1, oB 18 .neq 16 17]) (
 .cond (.t 18) (.seq (.g [oK 4 (-1)]) (
 .ret)) (.skip))) (
 .seq (.g [oM 19 1, oBi 20 .add 19 1, oM 1 20]) (
 .seq (.seq (.dreg [] [(0, oM 21 0), (0, oM 22 5), (0, oI 23 5 21 22), (0, oF 24 1 23), (0, oW 25 .s 24), (0, oM 26 1), (1, oC 27 27 [.c .s] [26])] [oB 28 .neq 25 27]) (
 .cond (.t 28) (.seq (.g [oK 4 (-1)]) (
 .ret)) (.skip))) (
 .seq (.g [oM 29 1, oBi 30 .add 29 1, oM 1 30]) (
 .seq (.seq (.g [oM 31 0, oM 32 5, oI 33 5 31 32, oF 34 2 33, oW 35 kI 34, oM 36 1, oB 37 .neq 35 36]) (
 .cond (.t 37) (.seq (.g [oK 4 (-1)]) (
 .ret)) (.skip))) (
 .seq (.g [oM 38 1, oBi 39 .add 38 1, oM 1 39]) (
 .seq (.g [oM 40 0, oM 41 5, oI 42 5 40 41, oF 43 3 42, oW 44 (.sl 1) 43, oM 45 1, oC 46 29 [.c kI] [44, 45], oM 1 46]) (
 .seq (.seq (.g [oM 47 1, oBi 48 .lss 47 0]) (
 .cond (.t 48) (.seq (.g [oK 4 (-1)]) (
 .ret)) (.skip))) (
 .seq (.g [oM 49 0, oM 50 5, oI 51 5 49 50, oF 52 4 51, oW 53 (.sl 5) 52, oM 54 1, oC 55 30 [.c kI] [53, 54], oM 1 55]) (
 .seq (.g [oM 56 1, oBi 57 .lss 56 0]) (
 .cond (.t 57) (.seq (.g [oK 4 (-1)]) (
 .ret)) (.skip))))))))))))) (
 .g [oM 10 5, oBi 11 .add 10 1, oM 5 11])))
def e30x0 : Exits := [(.ret, [(4, .c kI)]), ((.exit 0), [(1, .c kI)])]
noncomputable def l30x0 (T : Table) (k : Nat) := loopN (evalC ⟨T, [], []⟩ k b30x0 (Ex × List AV)) [0, 1, 5] e30x0
def a30 : AFun := ⟨[.rd, .rd], false, [.t 4], (
 .seq (.g [oK 4 0]) (
 .seq (.seq (.g [oK 5 0]) (
 .block 0 (.loop [0, 1, 5] e30x0 b30x0))) (
 .seq (.g [oM 58 1, oM 4 58]) (
 .ret))))⟩
theorem l30x0s (T : Table) (k n : Nat) (l3 : Rows) (n4 n5 : Int): l30x0 T k (n + 1) [.fz 5 l3, .v (.int .i64 n4), .v (.int .i64 n5)] = (
 bif (decide (n5 < (l3.length : Int))) then (
 tst (decide (0 ≤ n5)) (
 look l3 (Int.toNat n5) fun r6 =>
 cI .i64 r6 0 fun n7 =>
 bif (n7 != n4) then (
 some (.ret, [.v (.int .i64 (-1))])) else (
 tst (decide (0 ≤ n5)) (
 look l3 (Int.toNat n5) fun r8 =>
 cS r8 1 fun s9 =>
 callT T 27 [.d (.v (.int .i64 (IntKind.wrap .i64 (n4 + 1))))] fun o10 =>
 oD o10.res fun d11 =>
 dS d11 fun s12 =>
 bif (!(bytesEq s9 s12)) then (
 some (.ret, [.v (.int .i64 (-1))])) else (
 tst (decide (0 ≤ n5)) (
 look l3 (Int.toNat n5) fun r13 =>
 cI .i64 r13 2 fun n14 =>
 bif (n14 != (IntKind.wrap .i64 ((IntKind.wrap .i64 (n4 + 1)) + 1))) then (
 some (.ret, [.v (.int .i64 (-1))])) else (
 tst (decide (0 ≤ n5)) (
 look l3 (Int.toNat n5) fun r15 =>
 cL 1 r15 3 fun l16 =>
 callT T 29 [.d (.s 1 l16), .d (.v (.int .i64 (IntKind.wrap .i64 ((IntKind.wrap .i64 ((IntKind.wrap .i64 (n4 + 1)) + 1)) + 1))))] fun o17 =>
 oD o17.res fun d18 =>
 dI .i64 d18 fun n19 =>
 bif (decide (n19 < 0)) then (
 some (.ret, [.v (.int .i64 (-1))])) else (
 tst (decide (0 ≤ n5)) (
 look l3 (Int.toNat n5) fun r20 =>
 cL 5 r20 4 fun l21 =>
 callT T 30 [.d (.s 5 l21), .d (.v (.int .i64 n19))] fun o22 =>
 oD o22.res fun d23 =>
 dI .i64 d23 fun n24 =>
 bif (decide (n24 < 0)) then (
 some (.ret, [.v (.int .i64 (-1))])) else (
 l30x0 T k n [.fz 5 l3, .v (.int .i64 n24), .v (.int .i64 (IntKind.wrap .i64 (n5 + 1)))]))))))))))) else (
 some ((.exit 0), [.v (.int .i64 n4)]))) := by kernel_rfl
theorem a30q (T : Table) (k : Nat) (l1 : Rows) (n2 : Int): evalF T k a30 [.d (.s 5 l1), .d (.v (.int .i64 n2))] = (
 aft (l30x0 T k k [.fz 5 l1, .v (.int .i64 n2), .v (.int .i64 0)]) fun e25 ys26 =>
 bif e25.same .ret then (
 aV ys26 0 fun x27 =>
 aI .i64 x27 fun n28 =>
 some ⟨.d (.v (.int .i64 n28)), []⟩) else (
 bif e25.same (.exit 0) then (
 aV ys26 0 fun x29 =>
 aI .i64 x29 fun n30 =>
 some ⟨.d (.v (.int .i64 n30)), []⟩) else (
 none))) := by kernel_rfl
/- loop.example/g00119/laws.heldOpS -/
def b9x0 : ACode := (
 .seq (.seq (.g [oM 6 5, oM 7 0, oZ 8 7, oB 9 .lss 6 8]) (
 .cond (.t 9) (.skip) (.exit 0))) (
 .seq (.block 1 (.seq (.seq (.g [oM 12 0, oM 13 5, oI 14 7 12 13, oF 15 0 14, oW 16 kI 15, oM 17 1, oB 18 .neq 16 17]) (
 .cond (.t 18) (.seq (.g [oK 4 (-1)]) (
 .ret)) (.skip))) (
 .seq (.g [oM 19 1, oBi 20 .add 19 1, oM 1 20]) (
 .seq (.g [oM 21 0, oM 22 5, oI 23 7 21 22, oF 24 1 23, oW 25 (.sl 1) 24, oM 26 1, oC 27 29 [.c kI] [25, 26], oM 1 27]) (
 .seq (.seq (.g [oM 28 1, oBi 29 .lss 28 0]) (
 .cond (.t 29) (.seq (.g [oK 4 (-1)]) (
 .ret)) (.skip))) (
 .seq (.seq (.g [oM 30 0, oM 31 5, oI 32 7 30 31, oF 33 2 32, oF 34 0 33, oW 35 kI 34, oM 36 1, oB 37 .neq 35 36]) (
 .cond (.t 37) (.seq (.g [oK 4 (-1)]) (
 .ret)) (.skip))) (
 .seq (.g [oM 38 1, oBi 39 .add 38 1, oM 1 39]) (
 .seq (.seq (.dreg [] [(0, oM 40 0), (0, oM 41 5), (0, oI 42 7 40 41), (0, oF 43 2 42), (0, oF 44 1 43), (0, oW 45 .s 44), (0, oM 46 1), (1, oC 47 27 [.c .s] [46])] [oB 48 .neq 45 47]) (
 .cond (.t 48) (.seq (.g [oK 4 (-1)]) (
 .ret)) (.skip))) (
 .seq (.g [oM 49 1, oBi 50 .add 49 1, oM 1 50]) (
 .seq (.seq (.g [oM 51 0, oM 52 5, oI 53 7 51 52, oF 54 2 53, oF 55 2 54, oW 56 kI 55, oM 57 1, oB 58 .neq 56 57]) (
 .cond (.t 58) (.seq (.g [oK 4 (-1)]) (
 .ret)) (.skip))) (
 .seq (.g [oM 59 1, oBi 60 .add 59 1, oM 1 60]) (
 .seq (.g [oM 61 0, oM 62 5, oI 63 7 61 62, oF 64 2 63, oF 65 3 64, oW 66 (.sl 1) 65, oM 67 1, oC 68 29 [.c kI] [66, 67], oM 1 68]) (
 .seq (.seq (.g [oM 69 1, oBi 70 .lss 69 0]) (
 .cond (.t 70) (.seq (.g [oK 4 (-1)]) (
 .ret)) (.skip))) (
 .seq (.g [oM 71 0, oM 72 5, oI 73 7 71 72, oF 74 2 73, oF 75 4 74, oW 76 (.sl 5) 75, oM 77 1, oC 78 30 [.c kI] [76, 77], oM 1 78]) (
 .seq (.g [oM 79 1, oBi 80 .lss 79 0]) (
 .cond (.t 80) (.seq (.g [oK 4 (-1)]) (
 .ret)) (.skip))))))))))))))))) (
 .g [oM 10 5, oBi 11 .add 10 1, oM 5 11])))
def e9x0 : Exits := [(.ret, [(4, .c kI)]), ((.exit 0), [(1, .c kI)])]
noncomputable def l9x0 (T : Table) (k : Nat) := loopN (evalC ⟨T, [], []⟩ k b9x0 (Ex × List AV)) [0, 1, 5] e9x0
def a9 : AFun := ⟨[.rd, .rd], false, [.t 4], (
 .seq (.g [oK 4 0]) (
 .seq (.seq (.g [oK 5 0]) (
 .block 0 (.loop [0, 1, 5] e9x0 b9x0))) (
 .seq (.g [oM 81 1, oM 4 81]) (
 .ret))))⟩
theorem l9x0s (T : Table) (k n : Nat) (l3 : Rows) (n4 n5 : Int): l9x0 T k (n + 1) [.fz 7 l3, .v (.int .i64 n4), .v (.int .i64 n5)] = (
 bif (decide (n5 < (l3.length : Int))) then (
 tst (decide (0 ≤ n5)) (
 look l3 (Int.toNat n5) fun r6 =>
 cI .i64 r6 0 fun n7 =>
 bif (n7 != n4) then (
 some (.ret, [.v (.int .i64 (-1))])) else (
 tst (decide (0 ≤ n5)) (
 look l3 (Int.toNat n5) fun r8 =>
 cL 1 r8 1 fun l9 =>
 callT T 29 [.d (.s 1 l9), .d (.v (.int .i64 (IntKind.wrap .i64 (n4 + 1))))] fun o10 =>
 oD o10.res fun d11 =>
 dI .i64 d11 fun n12 =>
 bif (decide (n12 < 0)) then (
 some (.ret, [.v (.int .i64 (-1))])) else (
 tst (decide (0 ≤ n5)) (
 look l3 (Int.toNat n5) fun r13 =>
 cI .i64 r13 2 fun n14 =>
 bif (n14 != n12) then (
 some (.ret, [.v (.int .i64 (-1))])) else (
 tst (decide (0 ≤ n5)) (
 look l3 (Int.toNat n5) fun r15 =>
 cS r15 3 fun s16 =>
 callT T 27 [.d (.v (.int .i64 (IntKind.wrap .i64 (n12 + 1))))] fun o17 =>
 oD o17.res fun d18 =>
 dS d18 fun s19 =>
 bif (!(bytesEq s16 s19)) then (
 some (.ret, [.v (.int .i64 (-1))])) else (
 tst (decide (0 ≤ n5)) (
 look l3 (Int.toNat n5) fun r20 =>
 cI .i64 r20 4 fun n21 =>
 bif (n21 != (IntKind.wrap .i64 ((IntKind.wrap .i64 (n12 + 1)) + 1))) then (
 some (.ret, [.v (.int .i64 (-1))])) else (
 tst (decide (0 ≤ n5)) (
 look l3 (Int.toNat n5) fun r22 =>
 cL 1 r22 5 fun l23 =>
 callT T 29 [.d (.s 1 l23), .d (.v (.int .i64 (IntKind.wrap .i64 ((IntKind.wrap .i64 ((IntKind.wrap .i64 (n12 + 1)) + 1)) + 1))))] fun o24 =>
 oD o24.res fun d25 =>
 dI .i64 d25 fun n26 =>
 bif (decide (n26 < 0)) then (
 some (.ret, [.v (.int .i64 (-1))])) else (
 tst (decide (0 ≤ n5)) (
 look l3 (Int.toNat n5) fun r27 =>
 cL 5 r27 6 fun l28 =>
 callT T 30 [.d (.s 5 l28), .d (.v (.int .i64 n26))] fun o29 =>
 oD o29.res fun d30 =>
 dI .i64 d30 fun n31 =>
 bif (decide (n31 < 0)) then (
 some (.ret, [.v (.int .i64 (-1))])) else (
 l9x0 T k n [.fz 7 l3, .v (.int .i64 n31), .v (.int .i64 (IntKind.wrap .i64 (n5 + 1)))]))))))))))))))) else (
 some ((.exit 0), [.v (.int .i64 n4)]))) := by kernel_rfl
theorem a9q (T : Table) (k : Nat) (l1 : Rows) (n2 : Int): evalF T k a9 [.d (.s 7 l1), .d (.v (.int .i64 n2))] = (
 aft (l9x0 T k k [.fz 7 l1, .v (.int .i64 n2), .v (.int .i64 0)]) fun e32 ys33 =>
 bif e32.same .ret then (
 aV ys33 0 fun x34 =>
 aI .i64 x34 fun n35 =>
 some ⟨.d (.v (.int .i64 n35)), []⟩) else (
 bif e32.same (.exit 0) then (
 aV ys33 0 fun x36 =>
 aI .i64 x36 fun n37 =>
 some ⟨.d (.v (.int .i64 n37)), []⟩) else (
 none))) := by kernel_rfl
/- loop.example/g00119/laws.FnExactParsePatch -/
def a3 : AFun := ⟨[.rd], false, [.t 2], (
 .seq (.g [oV 2 false]) (
 .seq (.seq (.g [oM 11 0, oQ 12 (.len true (.t 11)), oBi 13 .gtr 12 1048576]) (
 .cond (.t 13) (.seq (.g [oV 2 true]) (
 .ret)) (.skip))) (
 .seq (.g [oM 15 0, oC 16 5 [.c (.sl 7), .c .b] [15], oM 14 16, oX 17 14 0, oX 18 14 1, oM 3 17, oM 4 18]) (
 .seq (.g [oM 20 0, oC 21 6 [.c (.sl 7), .c .b] [20], oM 19 21, oX 22 19 0, oX 23 19 1, oM 5 22, oM 6 23]) (
 .seq (.seq (.g [oM 24 5, oM 25 3, oC 26 7 [.c .b] [24, 25], oN 27 26, oM 28 27, oJ 29 28 false (.mv (.t 6)), oJ 30 28 false (.mv (.t 4)), oJ 31 28 false (.beq true (.t 29) (.t 30)), oQ 32 (.pick (.t 28) (.b true) (.t 31))]) (
 .cond (.t 32) (.seq (.g [oV 2 false]) (
 .ret)) (.skip))) (
 .seq (.g [oK 7 1]) (
 .seq (.g [oM 33 5, oM 34 7, oQ 35 (.call (.f 8) [.lent, .rd] false [.c kI] [.t 33, .t 34]), oM 7 35]) (
 .seq (.g [oK 8 1]) (
 .seq (.g [oM 36 5, oM 37 8, oC 38 9 [.c kI] [36, 37], oM 8 38]) (
 .seq (.seq (.g [oM 39 8, oBi 40 .lss 39 0]) (
 .cond (.t 40) (.seq (.g [oV 2 false]) (
 .ret)) (.skip))) (
 .seq (.seq (.g [oM 41 8, oM 42 7, oB 43 .neq 41 42]) (
 .cond (.t 43) (.seq (.g [oV 2 false]) (
 .ret)) (.skip))) (
 .seq (.g [oM 45 0, oC 46 6 [.c (.sl 7), .c .b] [45], oM 44 46, oX 47 44 0, oX 48 44 1, oM 9 47, oM 10 48]) (
 .seq (.seq (.g [oM 49 9, oM 50 3, oC 51 7 [.c .b] [49, 50], oN 52 51, oM 53 52, oJ 54 53 false (.mv (.t 10)), oJ 55 53 false (.mv (.t 4)), oJ 56 53 false (.beq true (.t 54) (.t 55)), oQ 57 (.pick (.t 53) (.b true) (.t 56))]) (
 .cond (.t 57) (.seq (.g [oV 2 false]) (
 .ret)) (.skip))) (
 .seq (.g [oK 8 1]) (
 .seq (.g [oM 58 5, oM 59 8, oC 60 9 [.c kI] [58, 59], oM 8 60]) (
 .seq (.seq (.g [oM 61 8, oBi 62 .lss 61 0]) (
 .cond (.t 62) (.seq (.g [oV 2 false]) (
 .ret)) (.skip))) (
 .seq (.seq (.g [oM 63 8, oM 64 7, oB 65 .neq 63 64]) (
 .cond (.t 65) (.seq (.g [oV 2 false]) (
 .ret)) (.skip))) (
 .seq (.g [oV 2 true]) (
 .ret)))))))))))))))))))⟩
theorem a3q (T : Table) (k : Nat) (s1 : ByteArray): evalF T k a3 [.d (.v (.string s1))] = (
 bif (decide ((s1.size : Int) > 1048576)) then (
 some ⟨.d (.v (.bool true)), []⟩) else (
 callT T 5 [.d (.v (.string s1))] fun o2 =>
 oT o2.res fun is3 =>
 tst (Nat.beq is3.length 2) (
 nth is3 0 fun i4 =>
 oD i4 fun d5 =>
 dL 7 d5 fun l6 =>
 nth is3 1 fun i7 =>
 oD i7 fun d8 =>
 dB d8 fun b9 =>
 callT T 6 [.d (.v (.string s1))] fun o10 =>
 oT o10.res fun is11 =>
 tst (Nat.beq is11.length 2) (
 nth is11 0 fun i12 =>
 oD i12 fun d13 =>
 dL 7 d13 fun l14 =>
 nth is11 1 fun i15 =>
 oD i15 fun d16 =>
 dB d16 fun b17 =>
 callT T 7 [.d (.s 7 l14), .d (.s 7 l6)] fun o18 =>
 oD o18.res fun d19 =>
 dB d19 fun b20 =>
 bif (!b20) == false then (
 bif (b17 != b9) then (
 some ⟨.d (.v (.bool false)), []⟩) else (
 callT T 8 [.d (.s 7 l14), .d (.v (.int .i64 1))] fun o21 =>
 nth o21.back 0 fun i22 =>
 oD i22 fun d23 =>
 dL 7 d23 fun l24 =>
 oD o21.res fun d25 =>
 dI .i64 d25 fun n26 =>
 callT T 9 [.d (.s 7 l24), .d (.v (.int .i64 1))] fun o27 =>
 oD o27.res fun d28 =>
 dI .i64 d28 fun n29 =>
 bif (decide (n29 < 0)) then (
 some ⟨.d (.v (.bool false)), []⟩) else (
 bif (n29 != n26) then (
 some ⟨.d (.v (.bool false)), []⟩) else (
 callT T 6 [.d (.v (.string s1))] fun o30 =>
 oT o30.res fun is31 =>
 tst (Nat.beq is31.length 2) (
 nth is31 0 fun i32 =>
 oD i32 fun d33 =>
 dL 7 d33 fun l34 =>
 nth is31 1 fun i35 =>
 oD i35 fun d36 =>
 dB d36 fun b37 =>
 callT T 7 [.d (.s 7 l34), .d (.s 7 l6)] fun o38 =>
 oD o38.res fun d39 =>
 dB d39 fun b40 =>
 bif (!b40) == false then (
 bif (b37 != b9) then (
 some ⟨.d (.v (.bool false)), []⟩) else (
 callT T 9 [.d (.s 7 l24), .d (.v (.int .i64 1))] fun o41 =>
 oD o41.res fun d42 =>
 dI .i64 d42 fun n43 =>
 bif (decide (n43 < 0)) then (
 some ⟨.d (.v (.bool false)), []⟩) else (
 bif (n43 != n26) then (
 some ⟨.d (.v (.bool false)), []⟩) else (
 some ⟨.d (.v (.bool true)), []⟩)))) else (
 some ⟨.d (.v (.bool false)), []⟩)))))) else (
 some ⟨.d (.v (.bool false)), []⟩))))) := by kernel_rfl
end Go.Am.Pp
