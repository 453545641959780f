/- What the functions come to, printed: equations by the kernel. Nothing is assumed. -/
import Derived.Test.YtmgeoejefnablaaGreatAmA
import Derived.KernelRfl
namespace Go.Am.Sv
set_option linter.unusedVariables false
set_option linter.unusedSimpArgs false
set_option maxRecDepth 8000
/- loop.example/g00119/laws.szStringS -/
def b31x0 : ACode := (
 .seq (.seq (.g [oM 12 5, oM 13 0, oZ 14 13, oB 15 .lss 12 14]) (
 .cond (.t 15) (.skip) (.exit 0))) (
 .seq (.block 1 (.seq (.g [oM 18 1, oM 19 0, oM 20 5, oI 21 1 19 20, oW 22 .s 21, oQ 23 (.len true (.t 22)), oB 24 .sub 18 23, oM 1 24]) (
 .seq (.g [oM 25 1, oBi 26 .lss 25 0]) (
 .cond (.t 26) (.seq (.g [oK 4 (-1)]) (
 .ret)) (.skip))))) (
 .g [oM 16 5, oBi 17 .add 16 1, oM 5 17])))
def e31x0 : Exits := [(.ret, [(4, .c kI)]), ((.exit 0), [(1, .c kI)])]
noncomputable def l31x0 (T : Table) (k : Nat) := loopN (evalC ⟨T, []⟩ k b31x0 (Ex × List AV)) [0, 1, 5] e31x0
def a31 : AFun := ⟨[.rd, .rd], false, [.t 4], (
 .seq (.g [oK 4 0]) (
 .seq (.g [oM 6 1, oM 7 0, oZ 8 7, oB 9 .sub 6 8, oM 1 9]) (
 .seq (.seq (.g [oM 10 1, oBi 11 .lss 10 0]) (
 .cond (.t 11) (.seq (.g [oK 4 (-1)]) (
 .ret)) (.skip))) (
 .seq (.seq (.g [oK 5 0]) (
 .block 0 (.loop [0, 1, 5] e31x0 b31x0))) (
 .seq (.g [oM 27 1, oM 4 27]) (
 .ret))))))⟩
theorem l31x0s (T : Table) (k n : Nat) (l3 : Rows) (n4 : Int) (n5 : Int) : l31x0 T k (n + 1) [(.fz 1 l3), (.v (.int .i64 n4)), (.v (.int .i64 n5))] = (
 bif (decide (n5 < (l3.length : Int))) then (
 tst (decide (0 ≤ n5)) (
 look l3 (Int.toNat n5) fun r6 =>
 cS r6 0 fun s7 =>
 bif (decide ((IntKind.wrap .i64 (n4 - (s7.size : Int))) < 0)) then (
 some (.ret, [(.v (.int .i64 (-1)))])) else (
 l31x0 T k n [(.fz 1 l3), (.v (.int .i64 (IntKind.wrap .i64 (n4 - (s7.size : Int))))), (.v (.int .i64 (IntKind.wrap .i64 (n5 + 1))))]))) else (
 some ((.exit 0), [(.v (.int .i64 n4))]))) := by kernel_rfl
theorem a31q (T : Table) (k : Nat) (l1 : Rows) (n2 : Int) : evalF T k a31 [(.d (.s 1 l1)), (.d (.v (.int .i64 n2)))] = (
 bif (decide ((IntKind.wrap .i64 (n2 - (l1.length : Int))) < 0)) then (
 some ⟨(.d (.v (.int .i64 (-1)))), []⟩) else (
 aft (l31x0 T k k [(.fz 1 l1), (.v (.int .i64 (IntKind.wrap .i64 (n2 - (l1.length : Int))))), (.v (.int .i64 0))]) fun e8 ys9 =>
 bif e8.same .ret then (
 aV ys9 0 fun x10 =>
 aI .i64 x10 fun n11 =>
 some ⟨(.d (.v (.int .i64 n11))), []⟩) else (
 bif e8.same (.exit 0) then (
 aV ys9 0 fun x12 =>
 aI .i64 x12 fun n13 =>
 some ⟨(.d (.v (.int .i64 n13))), []⟩) else (
 none)))) := by kernel_rfl
/- loop.example/g00119/laws.szTerm -/

def a193 : AFun := ⟨[.rd, .rd], false, [.t 4], (
 .seq (.g [oQ 2 (.box (.t 0)), oK 4 0]) (
 .seq (.g [oM 5 1, oF 6 1 2, oW 7 .s 6, oQ 8 (.len true (.t 7)), oB 9 .sub 5 8, oM 1 9]) (
 .seq (.seq (.g [oM 10 1, oBi 11 .lss 10 0]) (
 .cond (.t 11) (.seq (.g [oK 4 (-1)]) (
 .ret)) (.skip))) (
 .seq (.g [oF 12 2 2, oW 13 (.sl 1) 12, oM 14 1, oC 15 31 [.c kI] [13, 14], oM 1 15]) (
 .seq (.seq (.g [oM 16 1, oBi 17 .lss 16 0]) (
 .cond (.t 17) (.seq (.g [oK 4 (-1)]) (
 .ret)) (.skip))) (
 .seq (.g [oM 18 1, oM 4 18]) (
 .ret)))))))⟩

theorem a193q (T : Table) (k : Nat) (n1 : Int) (s2 : ByteArray) (l3 : Rows) (n4 : Int) : evalF T k a193 [(.g [(.v (.int .i64 n1)), (.v (.string s2)), (.s 1 l3)]), (.d (.v (.int .i64 n4)))] = (
 bif (decide ((IntKind.wrap .i64 (n4 - (s2.size : Int))) < 0)) then (
 some ⟨(.d (.v (.int .i64 (-1)))), []⟩) else (
 callT T 31 [(.d (.s 1 l3)), (.d (.v (.int .i64 (IntKind.wrap .i64 (n4 - (s2.size : Int))))))] fun o5 =>
 oD o5.res fun d6 =>
 dI .i64 d6 fun n7 =>
 bif (decide (n7 < 0)) then (
 some ⟨(.d (.v (.int .i64 (-1)))), []⟩) else (
 some ⟨(.d (.v (.int .i64 n7))), []⟩))) := by kernel_rfl
/- loop.example/g00119/laws.szTermS -/
def b128x0 : ACode := (
 .seq (.seq (.g [oM 12 5, oM 13 0, oZ 14 13, oB 15 .lss 12 14]) (
 .cond (.t 15) (.skip) (.exit 0))) (
 .seq (.block 1 (.seq (.g [oM 18 0, oM 19 5, oI 20 3 18 19, oL 21 [kI, .s, (.sl 1)] 20, oM 22 1, oC 23 193 [.c kI] [21, 22], oM 1 23]) (
 .seq (.g [oM 24 1, oBi 25 .lss 24 0]) (
 .cond (.t 25) (.seq (.g [oK 4 (-1)]) (
 .ret)) (.skip))))) (
 .g [oM 16 5, oBi 17 .add 16 1, oM 5 17])))
def e128x0 : Exits := [(.ret, [(4, .c kI)]), ((.exit 0), [(1, .c kI)])]
noncomputable def l128x0 (T : Table) (k : Nat) := loopN (evalC ⟨T, []⟩ k b128x0 (Ex × List AV)) [0, 1, 5] e128x0
def a128 : AFun := ⟨[.rd, .rd], false, [.t 4], (
 .seq (.g [oK 4 0]) (
 .seq (.g [oM 6 1, oM 7 0, oZ 8 7, oB 9 .sub 6 8, oM 1 9]) (
 .seq (.seq (.g [oM 10 1, oBi 11 .lss 10 0]) (
 .cond (.t 11) (.seq (.g [oK 4 (-1)]) (
 .ret)) (.skip))) (
 .seq (.seq (.g [oK 5 0]) (
 .block 0 (.loop [0, 1, 5] e128x0 b128x0))) (
 .seq (.g [oM 26 1, oM 4 26]) (
 .ret))))))⟩
theorem l128x0s (T : Table) (k n : Nat) (l3 : Rows) (n4 : Int) (n5 : Int) : l128x0 T k (n + 1) [(.fz 3 l3), (.v (.int .i64 n4)), (.v (.int .i64 n5))] = (
 bif (decide (n5 < (l3.length : Int))) then (
 tst (decide (0 ≤ n5)) (
 look l3 (Int.toNat n5) fun r6 =>
 cI .i64 r6 0 fun n7 =>
 cS r6 1 fun s8 =>
 cL 1 r6 2 fun l9 =>
 callT T 193 [(.g [(.v (.int .i64 n7)), (.v (.string s8)), (.s 1 l9)]), (.d (.v (.int .i64 n4)))] fun o10 =>
 oD o10.res fun d11 =>
 dI .i64 d11 fun n12 =>
 bif (decide (n12 < 0)) then (
 some (.ret, [(.v (.int .i64 (-1)))])) else (
 l128x0 T k n [(.fz 3 l3), (.v (.int .i64 n12)), (.v (.int .i64 (IntKind.wrap .i64 (n5 + 1))))]))) else (
 some ((.exit 0), [(.v (.int .i64 n4))]))) := by kernel_rfl
theorem a128q (T : Table) (k : Nat) (l1 : Rows) (n2 : Int) : evalF T k a128 [(.d (.s 3 l1)), (.d (.v (.int .i64 n2)))] = (
 bif (decide ((IntKind.wrap .i64 (n2 - (l1.length : Int))) < 0)) then (
 some ⟨(.d (.v (.int .i64 (-1)))), []⟩) else (
 aft (l128x0 T k k [(.fz 3 l1), (.v (.int .i64 (IntKind.wrap .i64 (n2 - (l1.length : Int))))), (.v (.int .i64 0))]) fun e13 ys14 =>
 bif e13.same .ret then (
 aV ys14 0 fun x15 =>
 aI .i64 x15 fun n16 =>
 some ⟨(.d (.v (.int .i64 n16))), []⟩) else (
 bif e13.same (.exit 0) then (
 aV ys14 0 fun x17 =>
 aI .i64 x17 fun n18 =>
 some ⟨(.d (.v (.int .i64 n18))), []⟩) else (
 none)))) := by kernel_rfl
/- loop.example/g00119/laws.szWeigh -/

def a194 : AFun := ⟨[.rd, .rd], false, [.t 4], (
 .seq (.g [oQ 2 (.box (.t 0)), oK 4 0]) (
 .seq (.g [oM 5 1, oF 6 0 2, oW 7 .s 6, oQ 8 (.len true (.t 7)), oB 9 .sub 5 8, oM 1 9]) (
 .seq (.seq (.g [oM 10 1, oBi 11 .lss 10 0]) (
 .cond (.t 11) (.seq (.g [oK 4 (-1)]) (
 .ret)) (.skip))) (
 .seq (.g [oM 12 1, oM 4 12]) (
 .ret)))))⟩

theorem a194q (T : Table) (k : Nat) (s1 : ByteArray) (n2 : Int) (n3 : Int) : evalF T k a194 [(.g [(.v (.string s1)), (.v (.int .i64 n2))]), (.d (.v (.int .i64 n3)))] = (
 bif (decide ((IntKind.wrap .i64 (n3 - (s1.size : Int))) < 0)) then (
 some ⟨(.d (.v (.int .i64 (-1)))), []⟩) else (
 some ⟨(.d (.v (.int .i64 (IntKind.wrap .i64 (n3 - (s1.size : Int)))))), []⟩)) := by kernel_rfl
/- loop.example/g00119/laws.szWeighS -/
def b129x0 : ACode := (
 .seq (.seq (.g [oM 12 5, oM 13 0, oZ 14 13, oB 15 .lss 12 14]) (
 .cond (.t 15) (.skip) (.exit 0))) (
 .seq (.block 1 (.seq (.g [oM 18 0, oM 19 5, oI 20 2 18 19, oL 21 [.s, kI] 20, oM 22 1, oC 23 194 [.c kI] [21, 22], oM 1 23]) (
 .seq (.g [oM 24 1, oBi 25 .lss 24 0]) (
 .cond (.t 25) (.seq (.g [oK 4 (-1)]) (
 .ret)) (.skip))))) (
 .g [oM 16 5, oBi 17 .add 16 1, oM 5 17])))
def e129x0 : Exits := [(.ret, [(4, .c kI)]), ((.exit 0), [(1, .c kI)])]
noncomputable def l129x0 (T : Table) (k : Nat) := loopN (evalC ⟨T, []⟩ k b129x0 (Ex × List AV)) [0, 1, 5] e129x0
def a129 : AFun := ⟨[.rd, .rd], false, [.t 4], (
 .seq (.g [oK 4 0]) (
 .seq (.g [oM 6 1, oM 7 0, oZ 8 7, oB 9 .sub 6 8, oM 1 9]) (
 .seq (.seq (.g [oM 10 1, oBi 11 .lss 10 0]) (
 .cond (.t 11) (.seq (.g [oK 4 (-1)]) (
 .ret)) (.skip))) (
 .seq (.seq (.g [oK 5 0]) (
 .block 0 (.loop [0, 1, 5] e129x0 b129x0))) (
 .seq (.g [oM 26 1, oM 4 26]) (
 .ret))))))⟩
theorem l129x0s (T : Table) (k n : Nat) (l3 : Rows) (n4 : Int) (n5 : Int) : l129x0 T k (n + 1) [(.fz 2 l3), (.v (.int .i64 n4)), (.v (.int .i64 n5))] = (
 bif (decide (n5 < (l3.length : Int))) then (
 tst (decide (0 ≤ n5)) (
 look l3 (Int.toNat n5) fun r6 =>
 cS r6 0 fun s7 =>
 cI .i64 r6 1 fun n8 =>
 callT T 194 [(.g [(.v (.string s7)), (.v (.int .i64 n8))]), (.d (.v (.int .i64 n4)))] fun o9 =>
 oD o9.res fun d10 =>
 dI .i64 d10 fun n11 =>
 bif (decide (n11 < 0)) then (
 some (.ret, [(.v (.int .i64 (-1)))])) else (
 l129x0 T k n [(.fz 2 l3), (.v (.int .i64 n11)), (.v (.int .i64 (IntKind.wrap .i64 (n5 + 1))))]))) else (
 some ((.exit 0), [(.v (.int .i64 n4))]))) := by kernel_rfl
theorem a129q (T : Table) (k : Nat) (l1 : Rows) (n2 : Int) : evalF T k a129 [(.d (.s 2 l1)), (.d (.v (.int .i64 n2)))] = (
 bif (decide ((IntKind.wrap .i64 (n2 - (l1.length : Int))) < 0)) then (
 some ⟨(.d (.v (.int .i64 (-1)))), []⟩) else (
 aft (l129x0 T k k [(.fz 2 l1), (.v (.int .i64 (IntKind.wrap .i64 (n2 - (l1.length : Int))))), (.v (.int .i64 0))]) fun e12 ys13 =>
 bif e12.same .ret then (
 aV ys13 0 fun x14 =>
 aI .i64 x14 fun n15 =>
 some ⟨(.d (.v (.int .i64 n15))), []⟩) else (
 bif e12.same (.exit 0) then (
 aV ys13 0 fun x16 =>
 aI .i64 x16 fun n17 =>
 some ⟨(.d (.v (.int .i64 n17))), []⟩) else (
 none)))) := by kernel_rfl
/- loop.example/g00119/laws.szWant -/

def a62 : AFun := ⟨[.rd, .rd], false, [.t 4], (
 .seq (.g [oQ 2 (.box (.t 0)), oK 4 0]) (
 .seq (.g [oF 5 1 2, oW 6 (.sl 3) 5, oM 7 1, oC 8 128 [.c kI] [6, 7], oM 1 8]) (
 .seq (.seq (.g [oM 9 1, oBi 10 .lss 9 0]) (
 .cond (.t 10) (.seq (.g [oK 4 (-1)]) (
 .ret)) (.skip))) (
 .seq (.g [oF 11 2 2, oW 12 (.sl 1) 11, oM 13 1, oC 14 31 [.c kI] [12, 13], oM 1 14]) (
 .seq (.seq (.g [oM 15 1, oBi 16 .lss 15 0]) (
 .cond (.t 16) (.seq (.g [oK 4 (-1)]) (
 .ret)) (.skip))) (
 .seq (.g [oF 17 3 2, oW 18 (.sl 2) 17, oM 19 1, oC 20 129 [.c kI] [18, 19], oM 1 20]) (
 .seq (.seq (.g [oM 21 1, oBi 22 .lss 21 0]) (
 .cond (.t 22) (.seq (.g [oK 4 (-1)]) (
 .ret)) (.skip))) (
 .seq (.g [oM 23 1, oM 4 23]) (
 .ret)))))))))⟩

theorem a62q (T : Table) (k : Nat) (n1 : Int) (l2 : Rows) (l3 : Rows) (l4 : Rows) (n5 : Int) : evalF T k a62 [(.g [(.v (.int .i64 n1)), (.s 3 l2), (.s 1 l3), (.s 2 l4)]), (.d (.v (.int .i64 n5)))] = (
 callT T 128 [(.d (.s 3 l2)), (.d (.v (.int .i64 n5)))] fun o6 =>
 oD o6.res fun d7 =>
 dI .i64 d7 fun n8 =>
 bif (decide (n8 < 0)) then (
 some ⟨(.d (.v (.int .i64 (-1)))), []⟩) else (
 callT T 31 [(.d (.s 1 l3)), (.d (.v (.int .i64 n8)))] fun o9 =>
 oD o9.res fun d10 =>
 dI .i64 d10 fun n11 =>
 bif (decide (n11 < 0)) then (
 some ⟨(.d (.v (.int .i64 (-1)))), []⟩) else (
 callT T 129 [(.d (.s 2 l4)), (.d (.v (.int .i64 n11)))] fun o12 =>
 oD o12.res fun d13 =>
 dI .i64 d13 fun n14 =>
 bif (decide (n14 < 0)) then (
 some ⟨(.d (.v (.int .i64 (-1)))), []⟩) else (
 some ⟨(.d (.v (.int .i64 n14))), []⟩)))) := by kernel_rfl
/- loop.example/g00119/laws.szValueS -/
def b130x0 : ACode := (
 .seq (.seq (.g [oM 12 5, oM 13 0, oZ 14 13, oB 15 .lss 12 14]) (
 .cond (.t 15) (.skip) (.exit 0))) (
 .seq (.block 1 (.seq (.g [oM 18 0, oM 19 5, oI 20 5 18 19, oL 21 [kI, .s, kI, (.sl 1), (.sl 5)] 20, oM 22 1, oC 23 63 [.c kI] [21, 22], oM 1 23]) (
 .seq (.g [oM 24 1, oBi 25 .lss 24 0]) (
 .cond (.t 25) (.seq (.g [oK 4 (-1)]) (
 .ret)) (.skip))))) (
 .g [oM 16 5, oBi 17 .add 16 1, oM 5 17])))
def e130x0 : Exits := [(.ret, [(4, .c kI)]), ((.exit 0), [(1, .c kI)])]
noncomputable def l130x0 (T : Table) (k : Nat) := loopN (evalC ⟨T, []⟩ k b130x0 (Ex × List AV)) [0, 1, 5] e130x0
def a130 : AFun := ⟨[.rd, .rd], false, [.t 4], (
 .seq (.g [oK 4 0]) (
 .seq (.g [oM 6 1, oM 7 0, oZ 8 7, oB 9 .sub 6 8, oM 1 9]) (
 .seq (.seq (.g [oM 10 1, oBi 11 .lss 10 0]) (
 .cond (.t 11) (.seq (.g [oK 4 (-1)]) (
 .ret)) (.skip))) (
 .seq (.seq (.g [oK 5 0]) (
 .block 0 (.loop [0, 1, 5] e130x0 b130x0))) (
 .seq (.g [oM 26 1, oM 4 26]) (
 .ret))))))⟩
theorem l130x0s (T : Table) (k n : Nat) (l3 : Rows) (n4 : Int) (n5 : Int) : l130x0 T k (n + 1) [(.fz 5 l3), (.v (.int .i64 n4)), (.v (.int .i64 n5))] = (
 bif (decide (n5 < (l3.length : Int))) then (
 tst (decide (0 ≤ n5)) (
 look l3 (Int.toNat n5) fun r6 =>
 cI .i64 r6 0 fun n7 =>
 cS r6 1 fun s8 =>
 cI .i64 r6 2 fun n9 =>
 cL 1 r6 3 fun l10 =>
 cL 5 r6 4 fun l11 =>
 callT T 63 [(.g [(.v (.int .i64 n7)), (.v (.string s8)), (.v (.int .i64 n9)), (.s 1 l10), (.s 5 l11)]), (.d (.v (.int .i64 n4)))] fun o12 =>
 oD o12.res fun d13 =>
 dI .i64 d13 fun n14 =>
 bif (decide (n14 < 0)) then (
 some (.ret, [(.v (.int .i64 (-1)))])) else (
 l130x0 T k n [(.fz 5 l3), (.v (.int .i64 n14)), (.v (.int .i64 (IntKind.wrap .i64 (n5 + 1))))]))) else (
 some ((.exit 0), [(.v (.int .i64 n4))]))) := by kernel_rfl
theorem a130q (T : Table) (k : Nat) (l1 : Rows) (n2 : Int) : evalF T k a130 [(.d (.s 5 l1)), (.d (.v (.int .i64 n2)))] = (
 bif (decide ((IntKind.wrap .i64 (n2 - (l1.length : Int))) < 0)) then (
 some ⟨(.d (.v (.int .i64 (-1)))), []⟩) else (
 aft (l130x0 T k k [(.fz 5 l1), (.v (.int .i64 (IntKind.wrap .i64 (n2 - (l1.length : Int))))), (.v (.int .i64 0))]) fun e15 ys16 =>
 bif e15.same .ret then (
 aV ys16 0 fun x17 =>
 aI .i64 x17 fun n18 =>
 some ⟨(.d (.v (.int .i64 n18))), []⟩) else (
 bif e15.same (.exit 0) then (
 aV ys16 0 fun x19 =>
 aI .i64 x19 fun n20 =>
 some ⟨(.d (.v (.int .i64 n20))), []⟩) else (
 none)))) := by kernel_rfl
/- loop.example/g00119/laws.szValue -/

def a63 : AFun := ⟨[.rd, .rd], false, [.t 4], (
 .seq (.g [oQ 2 (.box (.t 0)), oK 4 0]) (
 .seq (.g [oM 5 1, oF 6 1 2, oW 7 .s 6, oQ 8 (.len true (.t 7)), oB 9 .sub 5 8, oM 1 9]) (
 .seq (.seq (.g [oM 10 1, oBi 11 .lss 10 0]) (
 .cond (.t 11) (.seq (.g [oK 4 (-1)]) (
 .ret)) (.skip))) (
 .seq (.g [oF 12 3 2, oW 13 (.sl 1) 12, oM 14 1, oC 15 31 [.c kI] [13, 14], oM 1 15]) (
 .seq (.seq (.g [oM 16 1, oBi 17 .lss 16 0]) (
 .cond (.t 17) (.seq (.g [oK 4 (-1)]) (
 .ret)) (.skip))) (
 .seq (.g [oF 18 4 2, oW 19 (.sl 5) 18, oM 20 1, oC 21 130 [.c kI] [19, 20], oM 1 21]) (
 .seq (.seq (.g [oM 22 1, oBi 23 .lss 22 0]) (
 .cond (.t 23) (.seq (.g [oK 4 (-1)]) (
 .ret)) (.skip))) (
 .seq (.g [oM 24 1, oM 4 24]) (
 .ret)))))))))⟩

theorem a63q (T : Table) (k : Nat) (n1 : Int) (s2 : ByteArray) (n3 : Int) (l4 : Rows) (l5 : Rows) (n6 : Int) : evalF T k a63 [(.g [(.v (.int .i64 n1)), (.v (.string s2)), (.v (.int .i64 n3)), (.s 1 l4), (.s 5 l5)]), (.d (.v (.int .i64 n6)))] = (
 bif (decide ((IntKind.wrap .i64 (n6 - (s2.size : Int))) < 0)) then (
 some ⟨(.d (.v (.int .i64 (-1)))), []⟩) else (
 callT T 31 [(.d (.s 1 l4)), (.d (.v (.int .i64 (IntKind.wrap .i64 (n6 - (s2.size : Int))))))] fun o7 =>
 oD o7.res fun d8 =>
 dI .i64 d8 fun n9 =>
 bif (decide (n9 < 0)) then (
 some ⟨(.d (.v (.int .i64 (-1)))), []⟩) else (
 callT T 130 [(.d (.s 5 l5)), (.d (.v (.int .i64 n9)))] fun o10 =>
 oD o10.res fun d11 =>
 dI .i64 d11 fun n12 =>
 bif (decide (n12 < 0)) then (
 some ⟨(.d (.v (.int .i64 (-1)))), []⟩) else (
 some ⟨(.d (.v (.int .i64 n12))), []⟩)))) := by kernel_rfl
/- loop.example/g00119/laws.szOp -/

def a234 : AFun := ⟨[.rd, .rd], false, [.t 4], (
 .seq (.g [oQ 2 (.box (.t 0)), oK 4 0]) (
 .seq (.g [oF 5 1 2, oW 6 (.sl 1) 5, oM 7 1, oC 8 31 [.c kI] [6, 7], oM 1 8]) (
 .seq (.seq (.g [oM 9 1, oBi 10 .lss 9 0]) (
 .cond (.t 10) (.seq (.g [oK 4 (-1)]) (
 .ret)) (.skip))) (
 .seq (.g [oF 11 2 2, oL 12 [kI, .s, kI, (.sl 1), (.sl 5)] 11, oM 13 1, oC 14 63 [.c kI] [12, 13], oM 1 14]) (
 .seq (.seq (.g [oM 15 1, oBi 16 .lss 15 0]) (
 .cond (.t 16) (.seq (.g [oK 4 (-1)]) (
 .ret)) (.skip))) (
 .seq (.g [oM 17 1, oM 4 17]) (
 .ret)))))))⟩

theorem a234q (T : Table) (k : Nat) (n1 : Int) (l2 : Rows) (n3 : Int) (s4 : ByteArray) (n5 : Int) (l6 : Rows) (l7 : Rows) (n8 : Int) : evalF T k a234 [(.g [(.v (.int .i64 n1)), (.s 1 l2), (.v (.int .i64 n3)), (.v (.string s4)), (.v (.int .i64 n5)), (.s 1 l6), (.s 5 l7)]), (.d (.v (.int .i64 n8)))] = (
 callT T 31 [(.d (.s 1 l2)), (.d (.v (.int .i64 n8)))] fun o9 =>
 oD o9.res fun d10 =>
 dI .i64 d10 fun n11 =>
 bif (decide (n11 < 0)) then (
 some ⟨(.d (.v (.int .i64 (-1)))), []⟩) else (
 callT T 63 [(.g [(.v (.int .i64 n3)), (.v (.string s4)), (.v (.int .i64 n5)), (.s 1 l6), (.s 5 l7)]), (.d (.v (.int .i64 n11)))] fun o12 =>
 oD o12.res fun d13 =>
 dI .i64 d13 fun n14 =>
 bif (decide (n14 < 0)) then (
 some ⟨(.d (.v (.int .i64 (-1)))), []⟩) else (
 some ⟨(.d (.v (.int .i64 n14))), []⟩))) := by kernel_rfl
/- loop.example/g00119/laws.szOpS -/
def b195x0 : ACode := (
 .seq (.seq (.g [oM 12 5, oM 13 0, oZ 14 13, oB 15 .lss 12 14]) (
 .cond (.t 15) (.skip) (.exit 0))) (
 .seq (.block 1 (.seq (.g [oM 18 0, oM 19 5, oI 20 7 18 19, oL 21 [kI, (.sl 1), kI, .s, kI, (.sl 1), (.sl 5)] 20, oM 22 1, oC 23 234 [.c kI] [21, 22], oM 1 23]) (
 .seq (.g [oM 24 1, oBi 25 .lss 24 0]) (
 .cond (.t 25) (.seq (.g [oK 4 (-1)]) (
 .ret)) (.skip))))) (
 .g [oM 16 5, oBi 17 .add 16 1, oM 5 17])))
def e195x0 : Exits := [(.ret, [(4, .c kI)]), ((.exit 0), [(1, .c kI)])]
noncomputable def l195x0 (T : Table) (k : Nat) := loopN (evalC ⟨T, []⟩ k b195x0 (Ex × List AV)) [0, 1, 5] e195x0
def a195 : AFun := ⟨[.rd, .rd], false, [.t 4], (
 .seq (.g [oK 4 0]) (
 .seq (.g [oM 6 1, oM 7 0, oZ 8 7, oB 9 .sub 6 8, oM 1 9]) (
 .seq (.seq (.g [oM 10 1, oBi 11 .lss 10 0]) (
 .cond (.t 11) (.seq (.g [oK 4 (-1)]) (
 .ret)) (.skip))) (
 .seq (.seq (.g [oK 5 0]) (
 .block 0 (.loop [0, 1, 5] e195x0 b195x0))) (
 .seq (.g [oM 26 1, oM 4 26]) (
 .ret))))))⟩
theorem l195x0s (T : Table) (k n : Nat) (l3 : Rows) (n4 : Int) (n5 : Int) : l195x0 T k (n + 1) [(.fz 7 l3), (.v (.int .i64 n4)), (.v (.int .i64 n5))] = (
 bif (decide (n5 < (l3.length : Int))) then (
 tst (decide (0 ≤ n5)) (
 look l3 (Int.toNat n5) fun r6 =>
 cI .i64 r6 0 fun n7 =>
 cL 1 r6 1 fun l8 =>
 cI .i64 r6 2 fun n9 =>
 cS r6 3 fun s10 =>
 cI .i64 r6 4 fun n11 =>
 cL 1 r6 5 fun l12 =>
 cL 5 r6 6 fun l13 =>
 callT T 234 [(.g [(.v (.int .i64 n7)), (.s 1 l8), (.v (.int .i64 n9)), (.v (.string s10)), (.v (.int .i64 n11)), (.s 1 l12), (.s 5 l13)]), (.d (.v (.int .i64 n4)))] fun o14 =>
 oD o14.res fun d15 =>
 dI .i64 d15 fun n16 =>
 bif (decide (n16 < 0)) then (
 some (.ret, [(.v (.int .i64 (-1)))])) else (
 l195x0 T k n [(.fz 7 l3), (.v (.int .i64 n16)), (.v (.int .i64 (IntKind.wrap .i64 (n5 + 1))))]))) else (
 some ((.exit 0), [(.v (.int .i64 n4))]))) := by kernel_rfl
theorem a195q (T : Table) (k : Nat) (l1 : Rows) (n2 : Int) : evalF T k a195 [(.d (.s 7 l1)), (.d (.v (.int .i64 n2)))] = (
 bif (decide ((IntKind.wrap .i64 (n2 - (l1.length : Int))) < 0)) then (
 some ⟨(.d (.v (.int .i64 (-1)))), []⟩) else (
 aft (l195x0 T k k [(.fz 7 l1), (.v (.int .i64 (IntKind.wrap .i64 (n2 - (l1.length : Int))))), (.v (.int .i64 0))]) fun e17 ys18 =>
 bif e17.same .ret then (
 aV ys18 0 fun x19 =>
 aI .i64 x19 fun n20 =>
 some ⟨(.d (.v (.int .i64 n20))), []⟩) else (
 bif e17.same (.exit 0) then (
 aV ys18 0 fun x21 =>
 aI .i64 x21 fun n22 =>
 some ⟨(.d (.v (.int .i64 n22))), []⟩) else (
 none)))) := by kernel_rfl
/- loop.example/g00119/laws.szOver -/

def a131 : AFun := ⟨[.rd, .rd], false, [.t 4], (
 .seq (.g [oQ 2 (.box (.t 0)), oK 4 0]) (
 .seq (.g [oM 5 1, oF 6 0 2, oW 7 .s 6, oQ 8 (.len true (.t 7)), oB 9 .sub 5 8, oM 1 9]) (
 .seq (.seq (.g [oM 10 1, oBi 11 .lss 10 0]) (
 .cond (.t 11) (.seq (.g [oK 4 (-1)]) (
 .ret)) (.skip))) (
 .seq (.g [oF 12 1 2, oW 13 (.sl 7) 12, oM 14 1, oC 15 195 [.c kI] [13, 14], oM 1 15]) (
 .seq (.seq (.g [oM 16 1, oBi 17 .lss 16 0]) (
 .cond (.t 17) (.seq (.g [oK 4 (-1)]) (
 .ret)) (.skip))) (
 .seq (.g [oM 18 1, oM 4 18]) (
 .ret)))))))⟩

theorem a131q (T : Table) (k : Nat) (s1 : ByteArray) (l2 : Rows) (n3 : Int) : evalF T k a131 [(.g [(.v (.string s1)), (.s 7 l2)]), (.d (.v (.int .i64 n3)))] = (
 bif (decide ((IntKind.wrap .i64 (n3 - (s1.size : Int))) < 0)) then (
 some ⟨(.d (.v (.int .i64 (-1)))), []⟩) else (
 callT T 195 [(.d (.s 7 l2)), (.d (.v (.int .i64 (IntKind.wrap .i64 (n3 - (s1.size : Int))))))] fun o4 =>
 oD o4.res fun d5 =>
 dI .i64 d5 fun n6 =>
 bif (decide (n6 < 0)) then (
 some ⟨(.d (.v (.int .i64 (-1)))), []⟩) else (
 some ⟨(.d (.v (.int .i64 n6))), []⟩))) := by kernel_rfl
/- loop.example/g00119/laws.szOverS -/
def b64x0 : ACode := (
 .seq (.seq (.g [oM 12 5, oM 13 0, oZ 14 13, oB 15 .lss 12 14]) (
 .cond (.t 15) (.skip) (.exit 0))) (
 .seq (.block 1 (.seq (.g [oM 18 0, oM 19 5, oI 20 2 18 19, oL 21 [.s, (.sl 7)] 20, oM 22 1, oC 23 131 [.c kI] [21, 22], oM 1 23]) (
 .seq (.g [oM 24 1, oBi 25 .lss 24 0]) (
 .cond (.t 25) (.seq (.g [oK 4 (-1)]) (
 .ret)) (.skip))))) (
 .g [oM 16 5, oBi 17 .add 16 1, oM 5 17])))
def e64x0 : Exits := [(.ret, [(4, .c kI)]), ((.exit 0), [(1, .c kI)])]
noncomputable def l64x0 (T : Table) (k : Nat) := loopN (evalC ⟨T, []⟩ k b64x0 (Ex × List AV)) [0, 1, 5] e64x0
def a64 : AFun := ⟨[.rd, .rd], false, [.t 4], (
 .seq (.g [oK 4 0]) (
 .seq (.g [oM 6 1, oM 7 0, oZ 8 7, oB 9 .sub 6 8, oM 1 9]) (
 .seq (.seq (.g [oM 10 1, oBi 11 .lss 10 0]) (
 .cond (.t 11) (.seq (.g [oK 4 (-1)]) (
 .ret)) (.skip))) (
 .seq (.seq (.g [oK 5 0]) (
 .block 0 (.loop [0, 1, 5] e64x0 b64x0))) (
 .seq (.g [oM 26 1, oM 4 26]) (
 .ret))))))⟩
theorem l64x0s (T : Table) (k n : Nat) (l3 : Rows) (n4 : Int) (n5 : Int) : l64x0 T k (n + 1) [(.fz 2 l3), (.v (.int .i64 n4)), (.v (.int .i64 n5))] = (
 bif (decide (n5 < (l3.length : Int))) then (
 tst (decide (0 ≤ n5)) (
 look l3 (Int.toNat n5) fun r6 =>
 cS r6 0 fun s7 =>
 cL 7 r6 1 fun l8 =>
 callT T 131 [(.g [(.v (.string s7)), (.s 7 l8)]), (.d (.v (.int .i64 n4)))] fun o9 =>
 oD o9.res fun d10 =>
 dI .i64 d10 fun n11 =>
 bif (decide (n11 < 0)) then (
 some (.ret, [(.v (.int .i64 (-1)))])) else (
 l64x0 T k n [(.fz 2 l3), (.v (.int .i64 n11)), (.v (.int .i64 (IntKind.wrap .i64 (n5 + 1))))]))) else (
 some ((.exit 0), [(.v (.int .i64 n4))]))) := by kernel_rfl
theorem a64q (T : Table) (k : Nat) (l1 : Rows) (n2 : Int) : evalF T k a64 [(.d (.s 2 l1)), (.d (.v (.int .i64 n2)))] = (
 bif (decide ((IntKind.wrap .i64 (n2 - (l1.length : Int))) < 0)) then (
 some ⟨(.d (.v (.int .i64 (-1)))), []⟩) else (
 aft (l64x0 T k k [(.fz 2 l1), (.v (.int .i64 (IntKind.wrap .i64 (n2 - (l1.length : Int))))), (.v (.int .i64 0))]) fun e12 ys13 =>
 bif e12.same .ret then (
 aV ys13 0 fun x14 =>
 aI .i64 x14 fun n15 =>
 some ⟨(.d (.v (.int .i64 n15))), []⟩) else (
 bif e12.same (.exit 0) then (
 aV ys13 0 fun x16 =>
 aI .i64 x16 fun n17 =>
 some ⟨(.d (.v (.int .i64 n17))), []⟩) else (
 none)))) := by kernel_rfl
/- loop.example/g00119/laws.szJob -/

def a111 : AFun := ⟨[.rd, .rd], false, [.t 4], (
 .seq (.g [oQ 2 (.box (.t 0)), oK 4 0]) (
 .seq (.g [oM 5 1, oF 6 1 2, oW 7 .s 6, oQ 8 (.len true (.t 7)), oB 9 .sub 5 8, oM 1 9]) (
 .seq (.seq (.g [oM 10 1, oBi 11 .lss 10 0]) (
 .cond (.t 11) (.seq (.g [oK 4 (-1)]) (
 .ret)) (.skip))) (
 .seq (.g [oF 12 2 2, oL 13 [kI, (.sl 3), (.sl 1), (.sl 2)] 12, oM 14 1, oC 15 62 [.c kI] [13, 14], oM 1 15]) (
 .seq (.seq (.g [oM 16 1, oBi 17 .lss 16 0]) (
 .cond (.t 17) (.seq (.g [oK 4 (-1)]) (
 .ret)) (.skip))) (
 .seq (.g [oF 18 6 2, oL 19 [kI, .s, kI, (.sl 1), (.sl 5)] 18, oM 20 1, oC 21 63 [.c kI] [19, 20], oM 1 21]) (
 .seq (.seq (.g [oM 22 1, oBi 23 .lss 22 0]) (
 .cond (.t 23) (.seq (.g [oK 4 (-1)]) (
 .ret)) (.skip))) (
 .seq (.g [oF 24 11 2, oW 25 (.sl 2) 24, oM 26 1, oC 27 64 [.c kI] [25, 26], oM 1 27]) (
 .seq (.seq (.g [oM 28 1, oBi 29 .lss 28 0]) (
 .cond (.t 29) (.seq (.g [oK 4 (-1)]) (
 .ret)) (.skip))) (
 .seq (.g [oM 30 1, oM 4 30]) (
 .ret)))))))))))⟩

theorem a111q (T : Table) (k : Nat) (n1 : Int) (s2 : ByteArray) (n3 : Int) (l4 : Rows) (l5 : Rows) (l6 : Rows) (n7 : Int) (s8 : ByteArray) (n9 : Int) (l10 : Rows) (l11 : Rows) (l12 : Rows) (b13 : Bool) (n14 : Int) : evalF T k a111 [(.g [(.v (.int .i64 n1)), (.v (.string s2)), (.v (.int .i64 n3)), (.s 3 l4), (.s 1 l5), (.s 2 l6), (.v (.int .i64 n7)), (.v (.string s8)), (.v (.int .i64 n9)), (.s 1 l10), (.s 5 l11), (.s 2 l12), (.v (.bool b13))]), (.d (.v (.int .i64 n14)))] = (
 bif (decide ((IntKind.wrap .i64 (n14 - (s2.size : Int))) < 0)) then (
 some ⟨(.d (.v (.int .i64 (-1)))), []⟩) else (
 callT T 62 [(.g [(.v (.int .i64 n3)), (.s 3 l4), (.s 1 l5), (.s 2 l6)]), (.d (.v (.int .i64 (IntKind.wrap .i64 (n14 - (s2.size : Int))))))] fun o15 =>
 oD o15.res fun d16 =>
 dI .i64 d16 fun n17 =>
 bif (decide (n17 < 0)) then (
 some ⟨(.d (.v (.int .i64 (-1)))), []⟩) else (
 callT T 63 [(.g [(.v (.int .i64 n7)), (.v (.string s8)), (.v (.int .i64 n9)), (.s 1 l10), (.s 5 l11)]), (.d (.v (.int .i64 n17)))] fun o18 =>
 oD o18.res fun d19 =>
 dI .i64 d19 fun n20 =>
 bif (decide (n20 < 0)) then (
 some ⟨(.d (.v (.int .i64 (-1)))), []⟩) else (
 callT T 64 [(.d (.s 2 l12)), (.d (.v (.int .i64 n20)))] fun o21 =>
 oD o21.res fun d22 =>
 dI .i64 d22 fun n23 =>
 bif (decide (n23 < 0)) then (
 some ⟨(.d (.v (.int .i64 (-1)))), []⟩) else (
 some ⟨(.d (.v (.int .i64 n23))), []⟩))))) := by kernel_rfl
/- loop.example/g00119/laws.szJobS -/
def b44x0 : ACode := (
 .seq (.seq (.g [oM 12 5, oM 13 0, oZ 14 13, oB 15 .lss 12 14]) (
 .cond (.t 15) (.skip) (.exit 0))) (
 .seq (.block 1 (.seq (.g [oM 18 0, oM 19 5, oI 20 13 18 19, oL 21 [kI, .s, kI, (.sl 3), (.sl 1), (.sl 2), kI, .s, kI, (.sl 1), (.sl 5), (.sl 2), .b] 20, oM 22 1, oC 23 111 [.c kI] [21, 22], oM 1 23]) (
 .seq (.g [oM 24 1, oBi 25 .lss 24 0]) (
 .cond (.t 25) (.seq (.g [oK 4 (-1)]) (
 .ret)) (.skip))))) (
 .g [oM 16 5, oBi 17 .add 16 1, oM 5 17])))
def e44x0 : Exits := [(.ret, [(4, .c kI)]), ((.exit 0), [(1, .c kI)])]
noncomputable def l44x0 (T : Table) (k : Nat) := loopN (evalC ⟨T, []⟩ k b44x0 (Ex × List AV)) [0, 1, 5] e44x0
def a44 : AFun := ⟨[.rd, .rd], false, [.t 4], (
 .seq (.g [oK 4 0]) (
 .seq (.g [oM 6 1, oM 7 0, oZ 8 7, oB 9 .sub 6 8, oM 1 9]) (
 .seq (.seq (.g [oM 10 1, oBi 11 .lss 10 0]) (
 .cond (.t 11) (.seq (.g [oK 4 (-1)]) (
 .ret)) (.skip))) (
 .seq (.seq (.g [oK 5 0]) (
 .block 0 (.loop [0, 1, 5] e44x0 b44x0))) (
 .seq (.g [oM 26 1, oM 4 26]) (
 .ret))))))⟩
theorem l44x0s (T : Table) (k n : Nat) (l3 : Rows) (n4 : Int) (n5 : Int) : l44x0 T k (n + 1) [(.fz 13 l3), (.v (.int .i64 n4)), (.v (.int .i64 n5))] = (
 bif (decide (n5 < (l3.length : Int))) then (
 tst (decide (0 ≤ n5)) (
 look l3 (Int.toNat n5) fun r6 =>
 cI .i64 r6 0 fun n7 =>
 cS r6 1 fun s8 =>
 cI .i64 r6 2 fun n9 =>
 cL 3 r6 3 fun l10 =>
 cL 1 r6 4 fun l11 =>
 cL 2 r6 5 fun l12 =>
 cI .i64 r6 6 fun n13 =>
 cS r6 7 fun s14 =>
 cI .i64 r6 8 fun n15 =>
 cL 1 r6 9 fun l16 =>
 cL 5 r6 10 fun l17 =>
 cL 2 r6 11 fun l18 =>
 cB r6 12 fun b19 =>
 callT T 111 [(.g [(.v (.int .i64 n7)), (.v (.string s8)), (.v (.int .i64 n9)), (.s 3 l10), (.s 1 l11), (.s 2 l12), (.v (.int .i64 n13)), (.v (.string s14)), (.v (.int .i64 n15)), (.s 1 l16), (.s 5 l17), (.s 2 l18), (.v (.bool b19))]), (.d (.v (.int .i64 n4)))] fun o20 =>
 oD o20.res fun d21 =>
 dI .i64 d21 fun n22 =>
 bif (decide (n22 < 0)) then (
 some (.ret, [(.v (.int .i64 (-1)))])) else (
 l44x0 T k n [(.fz 13 l3), (.v (.int .i64 n22)), (.v (.int .i64 (IntKind.wrap .i64 (n5 + 1))))]))) else (
 some ((.exit 0), [(.v (.int .i64 n4))]))) := by kernel_rfl
theorem a44q (T : Table) (k : Nat) (l1 : Rows) (n2 : Int) : evalF T k a44 [(.d (.s 13 l1)), (.d (.v (.int .i64 n2)))] = (
 bif (decide ((IntKind.wrap .i64 (n2 - (l1.length : Int))) < 0)) then (
 some ⟨(.d (.v (.int .i64 (-1)))), []⟩) else (
 aft (l44x0 T k k [(.fz 13 l1), (.v (.int .i64 (IntKind.wrap .i64 (n2 - (l1.length : Int))))), (.v (.int .i64 0))]) fun e23 ys24 =>
 bif e23.same .ret then (
 aV ys24 0 fun x25 =>
 aI .i64 x25 fun n26 =>
 some ⟨(.d (.v (.int .i64 n26))), []⟩) else (
 bif e23.same (.exit 0) then (
 aV ys24 0 fun x27 =>
 aI .i64 x27 fun n28 =>
 some ⟨(.d (.v (.int .i64 n28))), []⟩) else (
 none)))) := by kernel_rfl
/- loop.example/g00119/laws.szLabel -/

def a196 : AFun := ⟨[.rd, .rd], false, [.t 4], (
 .seq (.g [oQ 2 (.box (.t 0)), oK 4 0]) (
 .seq (.g [oM 5 1, oF 6 0 2, oW 7 .s 6, oQ 8 (.len true (.t 7)), oB 9 .sub 5 8, oM 1 9]) (
 .seq (.seq (.g [oM 10 1, oBi 11 .lss 10 0]) (
 .cond (.t 11) (.seq (.g [oK 4 (-1)]) (
 .ret)) (.skip))) (
 .seq (.g [oM 12 1, oF 13 1 2, oW 14 .s 13, oQ 15 (.len true (.t 14)), oB 16 .sub 12 15, oM 1 16]) (
 .seq (.seq (.g [oM 17 1, oBi 18 .lss 17 0]) (
 .cond (.t 18) (.seq (.g [oK 4 (-1)]) (
 .ret)) (.skip))) (
 .seq (.g [oM 19 1, oM 4 19]) (
 .ret)))))))⟩

theorem a196q (T : Table) (k : Nat) (s1 : ByteArray) (s2 : ByteArray) (n3 : Int) : evalF T k a196 [(.g [(.v (.string s1)), (.v (.string s2))]), (.d (.v (.int .i64 n3)))] = (
 bif (decide ((IntKind.wrap .i64 (n3 - (s1.size : Int))) < 0)) then (
 some ⟨(.d (.v (.int .i64 (-1)))), []⟩) else (
 bif (decide ((IntKind.wrap .i64 ((IntKind.wrap .i64 (n3 - (s1.size : Int))) - (s2.size : Int))) < 0)) then (
 some ⟨(.d (.v (.int .i64 (-1)))), []⟩) else (
 some ⟨(.d (.v (.int .i64 (IntKind.wrap .i64 ((IntKind.wrap .i64 (n3 - (s1.size : Int))) - (s2.size : Int)))))), []⟩))) := by kernel_rfl
/- loop.example/g00119/laws.szLabelS -/
def b132x0 : ACode := (
 .seq (.seq (.g [oM 12 5, oM 13 0, oZ 14 13, oB 15 .lss 12 14]) (
 .cond (.t 15) (.skip) (.exit 0))) (
 .seq (.block 1 (.seq (.g [oM 18 0, oM 19 5, oI 20 2 18 19, oL 21 [.s, .s] 20, oM 22 1, oC 23 196 [.c kI] [21, 22], oM 1 23]) (
 .seq (.g [oM 24 1, oBi 25 .lss 24 0]) (
 .cond (.t 25) (.seq (.g [oK 4 (-1)]) (
 .ret)) (.skip))))) (
 .g [oM 16 5, oBi 17 .add 16 1, oM 5 17])))
def e132x0 : Exits := [(.ret, [(4, .c kI)]), ((.exit 0), [(1, .c kI)])]
noncomputable def l132x0 (T : Table) (k : Nat) := loopN (evalC ⟨T, []⟩ k b132x0 (Ex × List AV)) [0, 1, 5] e132x0
def a132 : AFun := ⟨[.rd, .rd], false, [.t 4], (
 .seq (.g [oK 4 0]) (
 .seq (.g [oM 6 1, oM 7 0, oZ 8 7, oB 9 .sub 6 8, oM 1 9]) (
 .seq (.seq (.g [oM 10 1, oBi 11 .lss 10 0]) (
 .cond (.t 11) (.seq (.g [oK 4 (-1)]) (
 .ret)) (.skip))) (
 .seq (.seq (.g [oK 5 0]) (
 .block 0 (.loop [0, 1, 5] e132x0 b132x0))) (
 .seq (.g [oM 26 1, oM 4 26]) (
 .ret))))))⟩
theorem l132x0s (T : Table) (k n : Nat) (l3 : Rows) (n4 : Int) (n5 : Int) : l132x0 T k (n + 1) [(.fz 2 l3), (.v (.int .i64 n4)), (.v (.int .i64 n5))] = (
 bif (decide (n5 < (l3.length : Int))) then (
 tst (decide (0 ≤ n5)) (
 look l3 (Int.toNat n5) fun r6 =>
 cS r6 0 fun s7 =>
 cS r6 1 fun s8 =>
 callT T 196 [(.g [(.v (.string s7)), (.v (.string s8))]), (.d (.v (.int .i64 n4)))] fun o9 =>
 oD o9.res fun d10 =>
 dI .i64 d10 fun n11 =>
 bif (decide (n11 < 0)) then (
 some (.ret, [(.v (.int .i64 (-1)))])) else (
 l132x0 T k n [(.fz 2 l3), (.v (.int .i64 n11)), (.v (.int .i64 (IntKind.wrap .i64 (n5 + 1))))]))) else (
 some ((.exit 0), [(.v (.int .i64 n4))]))) := by kernel_rfl
theorem a132q (T : Table) (k : Nat) (l1 : Rows) (n2 : Int) : evalF T k a132 [(.d (.s 2 l1)), (.d (.v (.int .i64 n2)))] = (
 bif (decide ((IntKind.wrap .i64 (n2 - (l1.length : Int))) < 0)) then (
 some ⟨(.d (.v (.int .i64 (-1)))), []⟩) else (
 aft (l132x0 T k k [(.fz 2 l1), (.v (.int .i64 (IntKind.wrap .i64 (n2 - (l1.length : Int))))), (.v (.int .i64 0))]) fun e12 ys13 =>
 bif e12.same .ret then (
 aV ys13 0 fun x14 =>
 aI .i64 x14 fun n15 =>
 some ⟨(.d (.v (.int .i64 n15))), []⟩) else (
 bif e12.same (.exit 0) then (
 aV ys13 0 fun x16 =>
 aI .i64 x16 fun n17 =>
 some ⟨(.d (.v (.int .i64 n17))), []⟩) else (
 none)))) := by kernel_rfl
/- loop.example/g00119/laws.szIsland -/

def a65 : AFun := ⟨[.rd, .rd], false, [.t 4], (
 .seq (.g [oQ 2 (.box (.t 0)), oK 4 0]) (
 .seq (.g [oM 5 1, oF 6 0 2, oW 7 .s 6, oQ 8 (.len true (.t 7)), oB 9 .sub 5 8, oM 1 9]) (
 .seq (.seq (.g [oM 10 1, oBi 11 .lss 10 0]) (
 .cond (.t 11) (.seq (.g [oK 4 (-1)]) (
 .ret)) (.skip))) (
 .seq (.g [oF 12 1 2, oW 13 (.sl 2) 12, oM 14 1, oC 15 132 [.c kI] [13, 14], oM 1 15]) (
 .seq (.seq (.g [oM 16 1, oBi 17 .lss 16 0]) (
 .cond (.t 17) (.seq (.g [oK 4 (-1)]) (
 .ret)) (.skip))) (
 .seq (.g [oF 18 2 2, oW 19 (.sl 1) 18, oM 20 1, oC 21 31 [.c kI] [19, 20], oM 1 21]) (
 .seq (.seq (.g [oM 22 1, oBi 23 .lss 22 0]) (
 .cond (.t 23) (.seq (.g [oK 4 (-1)]) (
 .ret)) (.skip))) (
 .seq (.g [oM 24 1, oM 4 24]) (
 .ret)))))))))⟩

theorem a65q (T : Table) (k : Nat) (s1 : ByteArray) (l2 : Rows) (l3 : Rows) (n4 : Int) (n5 : Int) : evalF T k a65 [(.g [(.v (.string s1)), (.s 2 l2), (.s 1 l3), (.v (.int .i64 n4))]), (.d (.v (.int .i64 n5)))] = (
 bif (decide ((IntKind.wrap .i64 (n5 - (s1.size : Int))) < 0)) then (
 some ⟨(.d (.v (.int .i64 (-1)))), []⟩) else (
 callT T 132 [(.d (.s 2 l2)), (.d (.v (.int .i64 (IntKind.wrap .i64 (n5 - (s1.size : Int))))))] fun o6 =>
 oD o6.res fun d7 =>
 dI .i64 d7 fun n8 =>
 bif (decide (n8 < 0)) then (
 some ⟨(.d (.v (.int .i64 (-1)))), []⟩) else (
 callT T 31 [(.d (.s 1 l3)), (.d (.v (.int .i64 n8)))] fun o9 =>
 oD o9.res fun d10 =>
 dI .i64 d10 fun n11 =>
 bif (decide (n11 < 0)) then (
 some ⟨(.d (.v (.int .i64 (-1)))), []⟩) else (
 some ⟨(.d (.v (.int .i64 n11))), []⟩)))) := by kernel_rfl
/- loop.example/g00119/laws.szPost -/

def a112 : AFun := ⟨[.rd, .rd], false, [.t 4], (
 .seq (.g [oQ 2 (.box (.t 0)), oK 4 0]) (
 .seq (.g [oF 5 0 2, oL 6 [.s, (.sl 2), (.sl 1), kI] 5, oM 7 1, oC 8 65 [.c kI] [6, 7], oM 1 8]) (
 .seq (.seq (.g [oM 9 1, oBi 10 .lss 9 0]) (
 .cond (.t 10) (.seq (.g [oK 4 (-1)]) (
 .ret)) (.skip))) (
 .seq (.g [oM 11 1, oM 4 11]) (
 .ret)))))⟩

theorem a112q (T : Table) (k : Nat) (s1 : ByteArray) (l2 : Rows) (l3 : Rows) (n4 : Int) (n5 : Int) (n6 : Int) (n7 : Int) : evalF T k a112 [(.g [(.v (.string s1)), (.s 2 l2), (.s 1 l3), (.v (.int .i64 n4)), (.v (.int .i64 n5)), (.v (.int .i64 n6))]), (.d (.v (.int .i64 n7)))] = (
 callT T 65 [(.g [(.v (.string s1)), (.s 2 l2), (.s 1 l3), (.v (.int .i64 n4))]), (.d (.v (.int .i64 n7)))] fun o8 =>
 oD o8.res fun d9 =>
 dI .i64 d9 fun n10 =>
 bif (decide (n10 < 0)) then (
 some ⟨(.d (.v (.int .i64 (-1)))), []⟩) else (
 some ⟨(.d (.v (.int .i64 n10))), []⟩)) := by kernel_rfl
/- loop.example/g00119/laws.szPostS -/
def b45x0 : ACode := (
 .seq (.seq (.g [oM 12 5, oM 13 0, oZ 14 13, oB 15 .lss 12 14]) (
 .cond (.t 15) (.skip) (.exit 0))) (
 .seq (.block 1 (.seq (.g [oM 18 0, oM 19 5, oI 20 6 18 19, oL 21 [.s, (.sl 2), (.sl 1), kI, kI, kI] 20, oM 22 1, oC 23 112 [.c kI] [21, 22], oM 1 23]) (
 .seq (.g [oM 24 1, oBi 25 .lss 24 0]) (
 .cond (.t 25) (.seq (.g [oK 4 (-1)]) (
 .ret)) (.skip))))) (
 .g [oM 16 5, oBi 17 .add 16 1, oM 5 17])))
def e45x0 : Exits := [(.ret, [(4, .c kI)]), ((.exit 0), [(1, .c kI)])]
noncomputable def l45x0 (T : Table) (k : Nat) := loopN (evalC ⟨T, []⟩ k b45x0 (Ex × List AV)) [0, 1, 5] e45x0
def a45 : AFun := ⟨[.rd, .rd], false, [.t 4], (
 .seq (.g [oK 4 0]) (
 .seq (.g [oM 6 1, oM 7 0, oZ 8 7, oB 9 .sub 6 8, oM 1 9]) (
 .seq (.seq (.g [oM 10 1, oBi 11 .lss 10 0]) (
 .cond (.t 11) (.seq (.g [oK 4 (-1)]) (
 .ret)) (.skip))) (
 .seq (.seq (.g [oK 5 0]) (
 .block 0 (.loop [0, 1, 5] e45x0 b45x0))) (
 .seq (.g [oM 26 1, oM 4 26]) (
 .ret))))))⟩
theorem l45x0s (T : Table) (k n : Nat) (l3 : Rows) (n4 : Int) (n5 : Int) : l45x0 T k (n + 1) [(.fz 6 l3), (.v (.int .i64 n4)), (.v (.int .i64 n5))] = (
 bif (decide (n5 < (l3.length : Int))) then (
 tst (decide (0 ≤ n5)) (
 look l3 (Int.toNat n5) fun r6 =>
 cS r6 0 fun s7 =>
 cL 2 r6 1 fun l8 =>
 cL 1 r6 2 fun l9 =>
 cI .i64 r6 3 fun n10 =>
 cI .i64 r6 4 fun n11 =>
 cI .i64 r6 5 fun n12 =>
 callT T 112 [(.g [(.v (.string s7)), (.s 2 l8), (.s 1 l9), (.v (.int .i64 n10)), (.v (.int .i64 n11)), (.v (.int .i64 n12))]), (.d (.v (.int .i64 n4)))] fun o13 =>
 oD o13.res fun d14 =>
 dI .i64 d14 fun n15 =>
 bif (decide (n15 < 0)) then (
 some (.ret, [(.v (.int .i64 (-1)))])) else (
 l45x0 T k n [(.fz 6 l3), (.v (.int .i64 n15)), (.v (.int .i64 (IntKind.wrap .i64 (n5 + 1))))]))) else (
 some ((.exit 0), [(.v (.int .i64 n4))]))) := by kernel_rfl
theorem a45q (T : Table) (k : Nat) (l1 : Rows) (n2 : Int) : evalF T k a45 [(.d (.s 6 l1)), (.d (.v (.int .i64 n2)))] = (
 bif (decide ((IntKind.wrap .i64 (n2 - (l1.length : Int))) < 0)) then (
 some ⟨(.d (.v (.int .i64 (-1)))), []⟩) else (
 aft (l45x0 T k k [(.fz 6 l1), (.v (.int .i64 (IntKind.wrap .i64 (n2 - (l1.length : Int))))), (.v (.int .i64 0))]) fun e16 ys17 =>
 bif e16.same .ret then (
 aV ys17 0 fun x18 =>
 aI .i64 x18 fun n19 =>
 some ⟨(.d (.v (.int .i64 n19))), []⟩) else (
 bif e16.same (.exit 0) then (
 aV ys17 0 fun x20 =>
 aI .i64 x20 fun n21 =>
 some ⟨(.d (.v (.int .i64 n21))), []⟩) else (
 none)))) := by kernel_rfl
/- loop.example/g00119/laws.szHold -/

def a113 : AFun := ⟨[.rd, .rd], false, [.t 4], (
 .seq (.g [oQ 2 (.box (.t 0)), oK 4 0]) (
 .seq (.g [oM 5 1, oF 6 1 2, oW 7 .s 6, oQ 8 (.len true (.t 7)), oB 9 .sub 5 8, oM 1 9]) (
 .seq (.seq (.g [oM 10 1, oBi 11 .lss 10 0]) (
 .cond (.t 11) (.seq (.g [oK 4 (-1)]) (
 .ret)) (.skip))) (
 .seq (.g [oM 12 1, oM 4 12]) (
 .ret)))))⟩

theorem a113q (T : Table) (k : Nat) (n1 : Int) (s2 : ByteArray) (n3 : Int) (n4 : Int) (n5 : Int) (n6 : Int) : evalF T k a113 [(.g [(.v (.int .i64 n1)), (.v (.string s2)), (.v (.int .i64 n3)), (.v (.int .i64 n4)), (.v (.int .i64 n5))]), (.d (.v (.int .i64 n6)))] = (
 bif (decide ((IntKind.wrap .i64 (n6 - (s2.size : Int))) < 0)) then (
 some ⟨(.d (.v (.int .i64 (-1)))), []⟩) else (
 some ⟨(.d (.v (.int .i64 (IntKind.wrap .i64 (n6 - (s2.size : Int)))))), []⟩)) := by kernel_rfl
/- loop.example/g00119/laws.szHoldS -/
def b46x0 : ACode := (
 .seq (.seq (.g [oM 12 5, oM 13 0, oZ 14 13, oB 15 .lss 12 14]) (
 .cond (.t 15) (.skip) (.exit 0))) (
 .seq (.block 1 (.seq (.g [oM 18 0, oM 19 5, oI 20 5 18 19, oL 21 [kI, .s, kI, kI, kI] 20, oM 22 1, oC 23 113 [.c kI] [21, 22], oM 1 23]) (
 .seq (.g [oM 24 1, oBi 25 .lss 24 0]) (
 .cond (.t 25) (.seq (.g [oK 4 (-1)]) (
 .ret)) (.skip))))) (
 .g [oM 16 5, oBi 17 .add 16 1, oM 5 17])))
def e46x0 : Exits := [(.ret, [(4, .c kI)]), ((.exit 0), [(1, .c kI)])]
noncomputable def l46x0 (T : Table) (k : Nat) := loopN (evalC ⟨T, []⟩ k b46x0 (Ex × List AV)) [0, 1, 5] e46x0
def a46 : AFun := ⟨[.rd, .rd], false, [.t 4], (
 .seq (.g [oK 4 0]) (
 .seq (.g [oM 6 1, oM 7 0, oZ 8 7, oB 9 .sub 6 8, oM 1 9]) (
 .seq (.seq (.g [oM 10 1, oBi 11 .lss 10 0]) (
 .cond (.t 11) (.seq (.g [oK 4 (-1)]) (
 .ret)) (.skip))) (
 .seq (.seq (.g [oK 5 0]) (
 .block 0 (.loop [0, 1, 5] e46x0 b46x0))) (
 .seq (.g [oM 26 1, oM 4 26]) (
 .ret))))))⟩
theorem l46x0s (T : Table) (k n : Nat) (l3 : Rows) (n4 : Int) (n5 : Int) : l46x0 T k (n + 1) [(.fz 5 l3), (.v (.int .i64 n4)), (.v (.int .i64 n5))] = (
 bif (decide (n5 < (l3.length : Int))) then (
 tst (decide (0 ≤ n5)) (
 look l3 (Int.toNat n5) fun r6 =>
 cI .i64 r6 0 fun n7 =>
 cS r6 1 fun s8 =>
 cI .i64 r6 2 fun n9 =>
 cI .i64 r6 3 fun n10 =>
 cI .i64 r6 4 fun n11 =>
 callT T 113 [(.g [(.v (.int .i64 n7)), (.v (.string s8)), (.v (.int .i64 n9)), (.v (.int .i64 n10)), (.v (.int .i64 n11))]), (.d (.v (.int .i64 n4)))] fun o12 =>
 oD o12.res fun d13 =>
 dI .i64 d13 fun n14 =>
 bif (decide (n14 < 0)) then (
 some (.ret, [(.v (.int .i64 (-1)))])) else (
 l46x0 T k n [(.fz 5 l3), (.v (.int .i64 n14)), (.v (.int .i64 (IntKind.wrap .i64 (n5 + 1))))]))) else (
 some ((.exit 0), [(.v (.int .i64 n4))]))) := by kernel_rfl
theorem a46q (T : Table) (k : Nat) (l1 : Rows) (n2 : Int) : evalF T k a46 [(.d (.s 5 l1)), (.d (.v (.int .i64 n2)))] = (
 bif (decide ((IntKind.wrap .i64 (n2 - (l1.length : Int))) < 0)) then (
 some ⟨(.d (.v (.int .i64 (-1)))), []⟩) else (
 aft (l46x0 T k k [(.fz 5 l1), (.v (.int .i64 (IntKind.wrap .i64 (n2 - (l1.length : Int))))), (.v (.int .i64 0))]) fun e15 ys16 =>
 bif e15.same .ret then (
 aV ys16 0 fun x17 =>
 aI .i64 x17 fun n18 =>
 some ⟨(.d (.v (.int .i64 n18))), []⟩) else (
 bif e15.same (.exit 0) then (
 aV ys16 0 fun x19 =>
 aI .i64 x19 fun n20 =>
 some ⟨(.d (.v (.int .i64 n20))), []⟩) else (
 none)))) := by kernel_rfl
/- loop.example/g00119/laws.szHub -/

def a12 : AFun := ⟨[.rd, .rd], false, [.t 4], (
 .seq (.g [oQ 2 (.box (.t 0)), oK 4 0]) (
 .seq (.g [oF 5 3 2, oW 6 (.sl 13) 5, oM 7 1, oC 8 44 [.c kI] [6, 7], oM 1 8]) (
 .seq (.seq (.g [oM 9 1, oBi 10 .lss 9 0]) (
 .cond (.t 10) (.seq (.g [oK 4 (-1)]) (
 .ret)) (.skip))) (
 .seq (.g [oF 11 4 2, oW 12 (.sl 6) 11, oM 13 1, oC 14 45 [.c kI] [12, 13], oM 1 14]) (
 .seq (.seq (.g [oM 15 1, oBi 16 .lss 15 0]) (
 .cond (.t 16) (.seq (.g [oK 4 (-1)]) (
 .ret)) (.skip))) (
 .seq (.g [oF 17 5 2, oW 18 (.sl 5) 17, oM 19 1, oC 20 46 [.c kI] [18, 19], oM 1 20]) (
 .seq (.seq (.g [oM 21 1, oBi 22 .lss 21 0]) (
 .cond (.t 22) (.seq (.g [oK 4 (-1)]) (
 .ret)) (.skip))) (
 .seq (.g [oF 23 6 2, oW 24 (.sl 1) 23, oM 25 1, oC 26 31 [.c kI] [24, 25], oM 1 26]) (
 .seq (.seq (.g [oM 27 1, oBi 28 .lss 27 0]) (
 .cond (.t 28) (.seq (.g [oK 4 (-1)]) (
 .ret)) (.skip))) (
 .seq (.g [oM 29 1, oM 4 29]) (
 .ret)))))))))))⟩

theorem a12q (T : Table) (k : Nat) (n1 : Int) (n2 : Int) (n3 : Int) (l4 : Rows) (l5 : Rows) (l6 : Rows) (l7 : Rows) (n8 : Int) : evalF T k a12 [(.g [(.v (.int .i64 n1)), (.v (.int .i64 n2)), (.v (.int .i64 n3)), (.s 13 l4), (.s 6 l5), (.s 5 l6), (.s 1 l7)]), (.d (.v (.int .i64 n8)))] = (
 callT T 44 [(.d (.s 13 l4)), (.d (.v (.int .i64 n8)))] fun o9 =>
 oD o9.res fun d10 =>
 dI .i64 d10 fun n11 =>
 bif (decide (n11 < 0)) then (
 some ⟨(.d (.v (.int .i64 (-1)))), []⟩) else (
 callT T 45 [(.d (.s 6 l5)), (.d (.v (.int .i64 n11)))] fun o12 =>
 oD o12.res fun d13 =>
 dI .i64 d13 fun n14 =>
 bif (decide (n14 < 0)) then (
 some ⟨(.d (.v (.int .i64 (-1)))), []⟩) else (
 callT T 46 [(.d (.s 5 l6)), (.d (.v (.int .i64 n14)))] fun o15 =>
 oD o15.res fun d16 =>
 dI .i64 d16 fun n17 =>
 bif (decide (n17 < 0)) then (
 some ⟨(.d (.v (.int .i64 (-1)))), []⟩) else (
 callT T 31 [(.d (.s 1 l7)), (.d (.v (.int .i64 n17)))] fun o18 =>
 oD o18.res fun d19 =>
 dI .i64 d19 fun n20 =>
 bif (decide (n20 < 0)) then (
 some ⟨(.d (.v (.int .i64 (-1)))), []⟩) else (
 some ⟨(.d (.v (.int .i64 n20))), []⟩))))) := by kernel_rfl
/- loop.example/g00119/laws.szByteS -/

def a28 : AFun := ⟨[.rd, .rd], false, [.t 4], (
 .seq (.g [oK 4 0]) (
 .seq (.g [oM 5 1, oM 6 0, oZ 7 6, oB 8 .sub 5 7, oM 1 8]) (
 .seq (.seq (.g [oM 9 1, oBi 10 .lss 9 0]) (
 .cond (.t 10) (.seq (.g [oK 4 (-1)]) (
 .ret)) (.skip))) (
 .seq (.g [oM 11 1, oM 4 11]) (
 .ret)))))⟩

theorem a28q (T : Table) (k : Nat) (l1 : Rows) (n2 : Int) : evalF T k a28 [(.d (.s 1 l1)), (.d (.v (.int .i64 n2)))] = (
 bif (decide ((IntKind.wrap .i64 (n2 - (l1.length : Int))) < 0)) then (
 some ⟨(.d (.v (.int .i64 (-1)))), []⟩) else (
 some ⟨(.d (.v (.int .i64 (IntKind.wrap .i64 (n2 - (l1.length : Int)))))), []⟩)) := by kernel_rfl
/- loop.example/g00119/laws.szRunS -/

def a66 : AFun := ⟨[.rd, .rd], false, [.t 4], (
 .seq (.g [oK 4 0]) (
 .seq (.g [oM 5 1, oM 6 0, oZ 7 6, oB 8 .sub 5 7, oM 1 8]) (
 .seq (.seq (.g [oM 9 1, oBi 10 .lss 9 0]) (
 .cond (.t 10) (.seq (.g [oK 4 (-1)]) (
 .ret)) (.skip))) (
 .seq (.g [oM 11 1, oM 4 11]) (
 .ret)))))⟩

theorem a66q (T : Table) (k : Nat) (l1 : Rows) (n2 : Int) : evalF T k a66 [(.d (.s 2 l1)), (.d (.v (.int .i64 n2)))] = (
 bif (decide ((IntKind.wrap .i64 (n2 - (l1.length : Int))) < 0)) then (
 some ⟨(.d (.v (.int .i64 (-1)))), []⟩) else (
 some ⟨(.d (.v (.int .i64 (IntKind.wrap .i64 (n2 - (l1.length : Int)))))), []⟩)) := by kernel_rfl
/- loop.example/g00119/laws.szWork -/

def a225 : AFun := ⟨[.rd, .rd], false, [.t 4], (
 .seq (.g [oQ 2 (.box (.t 0)), oK 4 0]) (
 .seq (.g [oF 5 2 2, oL 6 [kI, .s, kI, (.sl 1), (.sl 5)] 5, oM 7 1, oC 8 63 [.c kI] [6, 7], oM 1 8]) (
 .seq (.seq (.g [oM 9 1, oBi 10 .lss 9 0]) (
 .cond (.t 10) (.seq (.g [oK 4 (-1)]) (
 .ret)) (.skip))) (
 .seq (.g [oM 11 1, oM 4 11]) (
 .ret)))))⟩

theorem a225q (T : Table) (k : Nat) (n1 : Int) (n2 : Int) (n3 : Int) (s4 : ByteArray) (n5 : Int) (l6 : Rows) (l7 : Rows) (n8 : Int) : evalF T k a225 [(.g [(.v (.int .i64 n1)), (.v (.int .i64 n2)), (.v (.int .i64 n3)), (.v (.string s4)), (.v (.int .i64 n5)), (.s 1 l6), (.s 5 l7)]), (.d (.v (.int .i64 n8)))] = (
 callT T 63 [(.g [(.v (.int .i64 n3)), (.v (.string s4)), (.v (.int .i64 n5)), (.s 1 l6), (.s 5 l7)]), (.d (.v (.int .i64 n8)))] fun o9 =>
 oD o9.res fun d10 =>
 dI .i64 d10 fun n11 =>
 bif (decide (n11 < 0)) then (
 some ⟨(.d (.v (.int .i64 (-1)))), []⟩) else (
 some ⟨(.d (.v (.int .i64 n11))), []⟩)) := by kernel_rfl
/- loop.example/g00119/laws.szWorkS -/
def b178x0 : ACode := (
 .seq (.seq (.g [oM 12 5, oM 13 0, oZ 14 13, oB 15 .lss 12 14]) (
 .cond (.t 15) (.skip) (.exit 0))) (
 .seq (.block 1 (.seq (.g [oM 18 0, oM 19 5, oI 20 7 18 19, oL 21 [kI, kI, kI, .s, kI, (.sl 1), (.sl 5)] 20, oM 22 1, oC 23 225 [.c kI] [21, 22], oM 1 23]) (
 .seq (.g [oM 24 1, oBi 25 .lss 24 0]) (
 .cond (.t 25) (.seq (.g [oK 4 (-1)]) (
 .ret)) (.skip))))) (
 .g [oM 16 5, oBi 17 .add 16 1, oM 5 17])))
def e178x0 : Exits := [(.ret, [(4, .c kI)]), ((.exit 0), [(1, .c kI)])]
noncomputable def l178x0 (T : Table) (k : Nat) := loopN (evalC ⟨T, []⟩ k b178x0 (Ex × List AV)) [0, 1, 5] e178x0
def a178 : AFun := ⟨[.rd, .rd], false, [.t 4], (
 .seq (.g [oK 4 0]) (
 .seq (.g [oM 6 1, oM 7 0, oZ 8 7, oB 9 .sub 6 8, oM 1 9]) (
 .seq (.seq (.g [oM 10 1, oBi 11 .lss 10 0]) (
 .cond (.t 11) (.seq (.g [oK 4 (-1)]) (
 .ret)) (.skip))) (
 .seq (.seq (.g [oK 5 0]) (
 .block 0 (.loop [0, 1, 5] e178x0 b178x0))) (
 .seq (.g [oM 26 1, oM 4 26]) (
 .ret))))))⟩
theorem l178x0s (T : Table) (k n : Nat) (l3 : Rows) (n4 : Int) (n5 : Int) : l178x0 T k (n + 1) [(.fz 7 l3), (.v (.int .i64 n4)), (.v (.int .i64 n5))] = (
 bif (decide (n5 < (l3.length : Int))) then (
 tst (decide (0 ≤ n5)) (
 look l3 (Int.toNat n5) fun r6 =>
 cI .i64 r6 0 fun n7 =>
 cI .i64 r6 1 fun n8 =>
 cI .i64 r6 2 fun n9 =>
 cS r6 3 fun s10 =>
 cI .i64 r6 4 fun n11 =>
 cL 1 r6 5 fun l12 =>
 cL 5 r6 6 fun l13 =>
 callT T 225 [(.g [(.v (.int .i64 n7)), (.v (.int .i64 n8)), (.v (.int .i64 n9)), (.v (.string s10)), (.v (.int .i64 n11)), (.s 1 l12), (.s 5 l13)]), (.d (.v (.int .i64 n4)))] fun o14 =>
 oD o14.res fun d15 =>
 dI .i64 d15 fun n16 =>
 bif (decide (n16 < 0)) then (
 some (.ret, [(.v (.int .i64 (-1)))])) else (
 l178x0 T k n [(.fz 7 l3), (.v (.int .i64 n16)), (.v (.int .i64 (IntKind.wrap .i64 (n5 + 1))))]))) else (
 some ((.exit 0), [(.v (.int .i64 n4))]))) := by kernel_rfl
theorem a178q (T : Table) (k : Nat) (l1 : Rows) (n2 : Int) : evalF T k a178 [(.d (.s 7 l1)), (.d (.v (.int .i64 n2)))] = (
 bif (decide ((IntKind.wrap .i64 (n2 - (l1.length : Int))) < 0)) then (
 some ⟨(.d (.v (.int .i64 (-1)))), []⟩) else (
 aft (l178x0 T k k [(.fz 7 l1), (.v (.int .i64 (IntKind.wrap .i64 (n2 - (l1.length : Int))))), (.v (.int .i64 0))]) fun e17 ys18 =>
 bif e17.same .ret then (
 aV ys18 0 fun x19 =>
 aI .i64 x19 fun n20 =>
 some ⟨(.d (.v (.int .i64 n20))), []⟩) else (
 bif e17.same (.exit 0) then (
 aV ys18 0 fun x21 =>
 aI .i64 x21 fun n22 =>
 some ⟨(.d (.v (.int .i64 n22))), []⟩) else (
 none)))) := by kernel_rfl
/- loop.example/g00119/laws.szIsle -/

def a104 : AFun := ⟨[.rd, .rd], false, [.t 4], (
 .seq (.g [oQ 2 (.box (.t 0)), oK 4 0]) (
 .seq (.g [oM 5 1, oF 6 0 2, oW 7 .s 6, oQ 8 (.len true (.t 7)), oB 9 .sub 5 8, oM 1 9]) (
 .seq (.seq (.g [oM 10 1, oBi 11 .lss 10 0]) (
 .cond (.t 11) (.seq (.g [oK 4 (-1)]) (
 .ret)) (.skip))) (
 .seq (.g [oF 12 3 2, oW 13 (.sl 7) 12, oM 14 1, oC 15 178 [.c kI] [13, 14], oM 1 15]) (
 .seq (.seq (.g [oM 16 1, oBi 17 .lss 16 0]) (
 .cond (.t 17) (.seq (.g [oK 4 (-1)]) (
 .ret)) (.skip))) (
 .seq (.g [oF 18 4 2, oW 19 (.sl 2) 18, oM 20 1, oC 21 66 [.c kI] [19, 20], oM 1 21]) (
 .seq (.seq (.g [oM 22 1, oBi 23 .lss 22 0]) (
 .cond (.t 23) (.seq (.g [oK 4 (-1)]) (
 .ret)) (.skip))) (
 .seq (.g [oM 24 1, oM 4 24]) (
 .ret)))))))))⟩

theorem a104q (T : Table) (k : Nat) (s1 : ByteArray) (n2 : Int) (n3 : Int) (l4 : Rows) (l5 : Rows) (n6 : Int) : evalF T k a104 [(.g [(.v (.string s1)), (.v (.int .i64 n2)), (.v (.int .i64 n3)), (.s 7 l4), (.s 2 l5)]), (.d (.v (.int .i64 n6)))] = (
 bif (decide ((IntKind.wrap .i64 (n6 - (s1.size : Int))) < 0)) then (
 some ⟨(.d (.v (.int .i64 (-1)))), []⟩) else (
 callT T 178 [(.d (.s 7 l4)), (.d (.v (.int .i64 (IntKind.wrap .i64 (n6 - (s1.size : Int))))))] fun o7 =>
 oD o7.res fun d8 =>
 dI .i64 d8 fun n9 =>
 bif (decide (n9 < 0)) then (
 some ⟨(.d (.v (.int .i64 (-1)))), []⟩) else (
 callT T 66 [(.d (.s 2 l5)), (.d (.v (.int .i64 n9)))] fun o10 =>
 oD o10.res fun d11 =>
 dI .i64 d11 fun n12 =>
 bif (decide (n12 < 0)) then (
 some ⟨(.d (.v (.int .i64 (-1)))), []⟩) else (
 some ⟨(.d (.v (.int .i64 n12))), []⟩)))) := by kernel_rfl
/- loop.example/g00119/laws.szIsleS -/
def b29x0 : ACode := (
 .seq (.seq (.g [oM 12 5, oM 13 0, oZ 14 13, oB 15 .lss 12 14]) (
 .cond (.t 15) (.skip) (.exit 0))) (
 .seq (.block 1 (.seq (.g [oM 18 0, oM 19 5, oI 20 5 18 19, oL 21 [.s, kI, kI, (.sl 7), (.sl 2)] 20, oM 22 1, oC 23 104 [.c kI] [21, 22], oM 1 23]) (
 .seq (.g [oM 24 1, oBi 25 .lss 24 0]) (
 .cond (.t 25) (.seq (.g [oK 4 (-1)]) (
 .ret)) (.skip))))) (
 .g [oM 16 5, oBi 17 .add 16 1, oM 5 17])))
def e29x0 : Exits := [(.ret, [(4, .c kI)]), ((.exit 0), [(1, .c kI)])]
noncomputable def l29x0 (T : Table) (k : Nat) := loopN (evalC ⟨T, []⟩ k b29x0 (Ex × List AV)) [0, 1, 5] e29x0
def a29 : AFun := ⟨[.rd, .rd], false, [.t 4], (
 .seq (.g [oK 4 0]) (
 .seq (.g [oM 6 1, oM 7 0, oZ 8 7, oB 9 .sub 6 8, oM 1 9]) (
 .seq (.seq (.g [oM 10 1, oBi 11 .lss 10 0]) (
 .cond (.t 11) (.seq (.g [oK 4 (-1)]) (
 .ret)) (.skip))) (
 .seq (.seq (.g [oK 5 0]) (
 .block 0 (.loop [0, 1, 5] e29x0 b29x0))) (
 .seq (.g [oM 26 1, oM 4 26]) (
 .ret))))))⟩
theorem l29x0s (T : Table) (k n : Nat) (l3 : Rows) (n4 : Int) (n5 : Int) : l29x0 T k (n + 1) [(.fz 5 l3), (.v (.int .i64 n4)), (.v (.int .i64 n5))] = (
 bif (decide (n5 < (l3.length : Int))) then (
 tst (decide (0 ≤ n5)) (
 look l3 (Int.toNat n5) fun r6 =>
 cS r6 0 fun s7 =>
 cI .i64 r6 1 fun n8 =>
 cI .i64 r6 2 fun n9 =>
 cL 7 r6 3 fun l10 =>
 cL 2 r6 4 fun l11 =>
 callT T 104 [(.g [(.v (.string s7)), (.v (.int .i64 n8)), (.v (.int .i64 n9)), (.s 7 l10), (.s 2 l11)]), (.d (.v (.int .i64 n4)))] fun o12 =>
 oD o12.res fun d13 =>
 dI .i64 d13 fun n14 =>
 bif (decide (n14 < 0)) then (
 some (.ret, [(.v (.int .i64 (-1)))])) else (
 l29x0 T k n [(.fz 5 l3), (.v (.int .i64 n14)), (.v (.int .i64 (IntKind.wrap .i64 (n5 + 1))))]))) else (
 some ((.exit 0), [(.v (.int .i64 n4))]))) := by kernel_rfl
theorem a29q (T : Table) (k : Nat) (l1 : Rows) (n2 : Int) : evalF T k a29 [(.d (.s 5 l1)), (.d (.v (.int .i64 n2)))] = (
 bif (decide ((IntKind.wrap .i64 (n2 - (l1.length : Int))) < 0)) then (
 some ⟨(.d (.v (.int .i64 (-1)))), []⟩) else (
 aft (l29x0 T k k [(.fz 5 l1), (.v (.int .i64 (IntKind.wrap .i64 (n2 - (l1.length : Int))))), (.v (.int .i64 0))]) fun e15 ys16 =>
 bif e15.same .ret then (
 aV ys16 0 fun x17 =>
 aI .i64 x17 fun n18 =>
 some ⟨(.d (.v (.int .i64 n18))), []⟩) else (
 bif e15.same (.exit 0) then (
 aV ys16 0 fun x19 =>
 aI .i64 x19 fun n20 =>
 some ⟨(.d (.v (.int .i64 n20))), []⟩) else (
 none)))) := by kernel_rfl
/- loop.example/g00119/laws.szMsg -/

def a105 : AFun := ⟨[.rd, .rd], false, [.t 4], (
 .seq (.g [oQ 2 (.box (.t 0)), oK 4 0]) (
 .seq (.g [oM 5 1, oF 6 1 2, oW 7 .s 6, oQ 8 (.len true (.t 7)), oB 9 .sub 5 8, oM 1 9]) (
 .seq (.seq (.g [oM 10 1, oBi 11 .lss 10 0]) (
 .cond (.t 11) (.seq (.g [oK 4 (-1)]) (
 .ret)) (.skip))) (
 .seq (.g [oF 12 3 2, oW 13 (.sl 7) 12, oM 14 1, oC 15 178 [.c kI] [13, 14], oM 1 15]) (
 .seq (.seq (.g [oM 16 1, oBi 17 .lss 16 0]) (
 .cond (.t 17) (.seq (.g [oK 4 (-1)]) (
 .ret)) (.skip))) (
 .seq (.g [oF 18 4 2, oW 19 (.sl 2) 18, oM 20 1, oC 21 66 [.c kI] [19, 20], oM 1 21]) (
 .seq (.seq (.g [oM 22 1, oBi 23 .lss 22 0]) (
 .cond (.t 23) (.seq (.g [oK 4 (-1)]) (
 .ret)) (.skip))) (
 .seq (.g [oM 24 1, oM 4 24]) (
 .ret)))))))))⟩

theorem a105q (T : Table) (k : Nat) (n1 : Int) (s2 : ByteArray) (n3 : Int) (l4 : Rows) (l5 : Rows) (n6 : Int) : evalF T k a105 [(.g [(.v (.int .i64 n1)), (.v (.string s2)), (.v (.int .i64 n3)), (.s 7 l4), (.s 2 l5)]), (.d (.v (.int .i64 n6)))] = (
 bif (decide ((IntKind.wrap .i64 (n6 - (s2.size : Int))) < 0)) then (
 some ⟨(.d (.v (.int .i64 (-1)))), []⟩) else (
 callT T 178 [(.d (.s 7 l4)), (.d (.v (.int .i64 (IntKind.wrap .i64 (n6 - (s2.size : Int))))))] fun o7 =>
 oD o7.res fun d8 =>
 dI .i64 d8 fun n9 =>
 bif (decide (n9 < 0)) then (
 some ⟨(.d (.v (.int .i64 (-1)))), []⟩) else (
 callT T 66 [(.d (.s 2 l5)), (.d (.v (.int .i64 n9)))] fun o10 =>
 oD o10.res fun d11 =>
 dI .i64 d11 fun n12 =>
 bif (decide (n12 < 0)) then (
 some ⟨(.d (.v (.int .i64 (-1)))), []⟩) else (
 some ⟨(.d (.v (.int .i64 n12))), []⟩)))) := by kernel_rfl
/- loop.example/g00119/laws.szMsgS -/
def b30x0 : ACode := (
 .seq (.seq (.g [oM 12 5, oM 13 0, oZ 14 13, oB 15 .lss 12 14]) (
 .cond (.t 15) (.skip) (.exit 0))) (
 .seq (.block 1 (.seq (.g [oM 18 0, oM 19 5, oI 20 5 18 19, oL 21 [kI, .s, kI, (.sl 7), (.sl 2)] 20, oM 22 1, oC 23 105 [.c kI] [21, 22], oM 1 23]) (
 .seq (.g [oM 24 1, oBi 25 .lss 24 0]) (
 .cond (.t 25) (.seq (.g [oK 4 (-1)]) (
 .ret)) (.skip))))) (
 .g [oM 16 5, oBi 17 .add 16 1, oM 5 17])))
def e30x0 : Exits := [(.ret, [(4, .c kI)]), ((.exit 0), [(1, .c kI)])]
noncomputable def l30x0 (T : Table) (k : Nat) := loopN (evalC ⟨T, []⟩ k b30x0 (Ex × List AV)) [0, 1, 5] e30x0
def a30 : AFun := ⟨[.rd, .rd], false, [.t 4], (
 .seq (.g [oK 4 0]) (
 .seq (.g [oM 6 1, oM 7 0, oZ 8 7, oB 9 .sub 6 8, oM 1 9]) (
 .seq (.seq (.g [oM 10 1, oBi 11 .lss 10 0]) (
 .cond (.t 11) (.seq (.g [oK 4 (-1)]) (
 .ret)) (.skip))) (
 .seq (.seq (.g [oK 5 0]) (
 .block 0 (.loop [0, 1, 5] e30x0 b30x0))) (
 .seq (.g [oM 26 1, oM 4 26]) (
 .ret))))))⟩
theorem l30x0s (T : Table) (k n : Nat) (l3 : Rows) (n4 : Int) (n5 : Int) : l30x0 T k (n + 1) [(.fz 5 l3), (.v (.int .i64 n4)), (.v (.int .i64 n5))] = (
 bif (decide (n5 < (l3.length : Int))) then (
 tst (decide (0 ≤ n5)) (
 look l3 (Int.toNat n5) fun r6 =>
 cI .i64 r6 0 fun n7 =>
 cS r6 1 fun s8 =>
 cI .i64 r6 2 fun n9 =>
 cL 7 r6 3 fun l10 =>
 cL 2 r6 4 fun l11 =>
 callT T 105 [(.g [(.v (.int .i64 n7)), (.v (.string s8)), (.v (.int .i64 n9)), (.s 7 l10), (.s 2 l11)]), (.d (.v (.int .i64 n4)))] fun o12 =>
 oD o12.res fun d13 =>
 dI .i64 d13 fun n14 =>
 bif (decide (n14 < 0)) then (
 some (.ret, [(.v (.int .i64 (-1)))])) else (
 l30x0 T k n [(.fz 5 l3), (.v (.int .i64 n14)), (.v (.int .i64 (IntKind.wrap .i64 (n5 + 1))))]))) else (
 some ((.exit 0), [(.v (.int .i64 n4))]))) := by kernel_rfl
theorem a30q (T : Table) (k : Nat) (l1 : Rows) (n2 : Int) : evalF T k a30 [(.d (.s 5 l1)), (.d (.v (.int .i64 n2)))] = (
 bif (decide ((IntKind.wrap .i64 (n2 - (l1.length : Int))) < 0)) then (
 some ⟨(.d (.v (.int .i64 (-1)))), []⟩) else (
 aft (l30x0 T k k [(.fz 5 l1), (.v (.int .i64 (IntKind.wrap .i64 (n2 - (l1.length : Int))))), (.v (.int .i64 0))]) fun e15 ys16 =>
 bif e15.same .ret then (
 aV ys16 0 fun x17 =>
 aI .i64 x17 fun n18 =>
 some ⟨(.d (.v (.int .i64 n18))), []⟩) else (
 bif e15.same (.exit 0) then (
 aV ys16 0 fun x19 =>
 aI .i64 x19 fun n20 =>
 some ⟨(.d (.v (.int .i64 n20))), []⟩) else (
 none)))) := by kernel_rfl
/- loop.example/g00119/laws.szFed -/

def a7 : AFun := ⟨[.rd, .rd], false, [.t 4], (
 .seq (.g [oQ 2 (.box (.t 0)), oK 4 0]) (
 .seq (.g [oF 5 0 2, oL 6 [kI, kI, kI, (.sl 13), (.sl 6), (.sl 5), (.sl 1)] 5, oM 7 1, oC 8 12 [.c kI] [6, 7], oM 1 8]) (
 .seq (.seq (.g [oM 9 1, oBi 10 .lss 9 0]) (
 .cond (.t 10) (.seq (.g [oK 4 (-1)]) (
 .ret)) (.skip))) (
 .seq (.g [oF 11 8 2, oW 12 (.sl 1) 11, oM 13 1, oC 14 28 [.c kI] [12, 13], oM 1 14]) (
 .seq (.seq (.g [oM 15 1, oBi 16 .lss 15 0]) (
 .cond (.t 16) (.seq (.g [oK 4 (-1)]) (
 .ret)) (.skip))) (
 .seq (.g [oF 17 9 2, oW 18 (.sl 5) 17, oM 19 1, oC 20 29 [.c kI] [18, 19], oM 1 20]) (
 .seq (.seq (.g [oM 21 1, oBi 22 .lss 21 0]) (
 .cond (.t 22) (.seq (.g [oK 4 (-1)]) (
 .ret)) (.skip))) (
 .seq (.g [oF 23 10 2, oW 24 (.sl 5) 23, oM 25 1, oC 26 30 [.c kI] [24, 25], oM 1 26]) (
 .seq (.seq (.g [oM 27 1, oBi 28 .lss 27 0]) (
 .cond (.t 28) (.seq (.g [oK 4 (-1)]) (
 .ret)) (.skip))) (
 .seq (.g [oF 29 11 2, oW 30 (.sl 1) 29, oM 31 1, oC 32 31 [.c kI] [30, 31], oM 1 32]) (
 .seq (.seq (.g [oM 33 1, oBi 34 .lss 33 0]) (
 .cond (.t 34) (.seq (.g [oK 4 (-1)]) (
 .ret)) (.skip))) (
 .seq (.g [oM 35 1, oM 4 35]) (
 .ret)))))))))))))⟩

theorem a7q (T : Table) (k : Nat) (n1 : Int) (n2 : Int) (n3 : Int) (l4 : Rows) (l5 : Rows) (l6 : Rows) (l7 : Rows) (b8 : Bool) (l9 : Rows) (l10 : Rows) (l11 : Rows) (l12 : Rows) (n13 : Int) : evalF T k a7 [(.g [(.v (.int .i64 n1)), (.v (.int .i64 n2)), (.v (.int .i64 n3)), (.s 13 l4), (.s 6 l5), (.s 5 l6), (.s 1 l7), (.v (.bool b8)), (.s 1 l9), (.s 5 l10), (.s 5 l11), (.s 1 l12)]), (.d (.v (.int .i64 n13)))] = (
 callT T 12 [(.g [(.v (.int .i64 n1)), (.v (.int .i64 n2)), (.v (.int .i64 n3)), (.s 13 l4), (.s 6 l5), (.s 5 l6), (.s 1 l7)]), (.d (.v (.int .i64 n13)))] fun o14 =>
 oD o14.res fun d15 =>
 dI .i64 d15 fun n16 =>
 bif (decide (n16 < 0)) then (
 some ⟨(.d (.v (.int .i64 (-1)))), []⟩) else (
 callT T 28 [(.d (.s 1 l9)), (.d (.v (.int .i64 n16)))] fun o17 =>
 oD o17.res fun d18 =>
 dI .i64 d18 fun n19 =>
 bif (decide (n19 < 0)) then (
 some ⟨(.d (.v (.int .i64 (-1)))), []⟩) else (
 callT T 29 [(.d (.s 5 l10)), (.d (.v (.int .i64 n19)))] fun o20 =>
 oD o20.res fun d21 =>
 dI .i64 d21 fun n22 =>
 bif (decide (n22 < 0)) then (
 some ⟨(.d (.v (.int .i64 (-1)))), []⟩) else (
 callT T 30 [(.d (.s 5 l11)), (.d (.v (.int .i64 n22)))] fun o23 =>
 oD o23.res fun d24 =>
 dI .i64 d24 fun n25 =>
 bif (decide (n25 < 0)) then (
 some ⟨(.d (.v (.int .i64 (-1)))), []⟩) else (
 callT T 31 [(.d (.s 1 l12)), (.d (.v (.int .i64 n25)))] fun o26 =>
 oD o26.res fun d27 =>
 dI .i64 d27 fun n28 =>
 bif (decide (n28 < 0)) then (
 some ⟨(.d (.v (.int .i64 (-1)))), []⟩) else (
 some ⟨(.d (.v (.int .i64 n28))), []⟩)))))) := by kernel_rfl
/- loop.example/g00119/spec.l11Run -/
def b32x0 : ACode := (
 .seq (.seq (.g [oM 7 6, oM 8 0, oZ 9 8, oB 10 .lss 7 9]) (
 .cond (.t 10) (.skip) (.exit 0))) (
 .seq (.block 1 (.seq (.g [oM 13 0, oM 14 6, oI 15 2 13 14, oF 16 0 15, oW 17 kI 16, oM 18 1, oB 19 .eql 17 18]) (
 .cond (.t 19) (.seq (.g [oM 20 0, oM 21 6, oI 22 2 20 21, oF 23 1 22, oW 24 kI 23, oM 4 24, oV 5 true]) (
 .ret)) (.skip)))) (
 .g [oM 11 6, oBi 12 .add 11 1, oM 6 12])))
def e32x0 : Exits := [(.ret, [(4, .c kI), (5, .c .b)]), ((.exit 0), [])]
noncomputable def l32x0 (T : Table) (k : Nat) := loopN (evalC ⟨T, []⟩ k b32x0 (Ex × List AV)) [0, 1, 6] e32x0
def a32 : AFun := ⟨[.rd, .rd], false, [.t 4, .t 5], (
 .seq (.g [oK 4 0, oV 5 false]) (
 .seq (.seq (.g [oK 6 0]) (
 .block 0 (.loop [0, 1, 6] e32x0 b32x0))) (
 .seq (.g [oK 4 0, oV 5 false]) (
 .ret))))⟩
theorem l32x0s (T : Table) (k n : Nat) (l3 : Rows) (n4 : Int) (n5 : Int) : l32x0 T k (n + 1) [(.fz 2 l3), (.v (.int .i64 n4)), (.v (.int .i64 n5))] = (
 bif (decide (n5 < (l3.length : Int))) then (
 tst (decide (0 ≤ n5)) (
 look l3 (Int.toNat n5) fun r6 =>
 cI .i64 r6 0 fun n7 =>
 bif (n7 == n4) then (
 tst (decide (0 ≤ n5)) (
 look l3 (Int.toNat n5) fun r8 =>
 cI .i64 r8 1 fun n9 =>
 some (.ret, [(.v (.int .i64 n9)), (.v (.bool true))]))) else (
 l32x0 T k n [(.fz 2 l3), (.v (.int .i64 n4)), (.v (.int .i64 (IntKind.wrap .i64 (n5 + 1))))]))) else (
 some ((.exit 0), []))) := by kernel_rfl
theorem a32q (T : Table) (k : Nat) (l1 : Rows) (n2 : Int) : evalF T k a32 [(.d (.s 2 l1)), (.d (.v (.int .i64 n2)))] = (
 aft (l32x0 T k k [(.fz 2 l1), (.v (.int .i64 n2)), (.v (.int .i64 0))]) fun e10 ys11 =>
 bif e10.same .ret then (
 aV ys11 0 fun x12 =>
 aI .i64 x12 fun n13 =>
 aV ys11 1 fun x14 =>
 aB x14 fun b15 =>
 some ⟨(.t [(.d (.v (.int .i64 n13))), (.d (.v (.bool b15)))]), []⟩) else (
 bif e10.same (.exit 0) then (
 some ⟨(.t [(.d (.v (.int .i64 0))), (.d (.v (.bool false)))]), []⟩) else (
 none))) := by kernel_rfl
/- loop.example/g00119/spec.l2Among -/
def b33x0 : ACode := (
 .seq (.seq (.g [oM 6 5, oM 7 0, oZ 8 7, oB 9 .lss 6 8]) (
 .cond (.t 9) (.skip) (.exit 0))) (
 .seq (.block 1 (.seq (.g [oM 12 0, oM 13 5, oI 14 1 12 13, oW 15 .s 14, oM 16 1, oB 17 .eql 15 16]) (
 .cond (.t 17) (.seq (.g [oV 4 true]) (
 .ret)) (.skip)))) (
 .g [oM 10 5, oBi 11 .add 10 1, oM 5 11])))
def e33x0 : Exits := [(.ret, [(4, .c .b)]), ((.exit 0), [])]
noncomputable def l33x0 (T : Table) (k : Nat) := loopN (evalC ⟨T, []⟩ k b33x0 (Ex × List AV)) [0, 1, 5] e33x0
def a33 : AFun := ⟨[.rd, .rd], false, [.t 4], (
 .seq (.g [oV 4 false]) (
 .seq (.seq (.g [oK 5 0]) (
 .block 0 (.loop [0, 1, 5] e33x0 b33x0))) (
 .seq (.g [oV 4 false]) (
 .ret))))⟩
theorem l33x0s (T : Table) (k n : Nat) (l3 : Rows) (s4 : ByteArray) (n5 : Int) : l33x0 T k (n + 1) [(.fz 1 l3), (.v (.string s4)), (.v (.int .i64 n5))] = (
 bif (decide (n5 < (l3.length : Int))) then (
 tst (decide (0 ≤ n5)) (
 look l3 (Int.toNat n5) fun r6 =>
 cS r6 0 fun s7 =>
 bif (bytesEq s7 s4) then (
 some (.ret, [(.v (.bool true))])) else (
 l33x0 T k n [(.fz 1 l3), (.v (.string s4)), (.v (.int .i64 (IntKind.wrap .i64 (n5 + 1))))]))) else (
 some ((.exit 0), []))) := by kernel_rfl
theorem a33q (T : Table) (k : Nat) (l1 : Rows) (s2 : ByteArray) : evalF T k a33 [(.d (.s 1 l1)), (.d (.v (.string s2)))] = (
 aft (l33x0 T k k [(.fz 1 l1), (.v (.string s2)), (.v (.int .i64 0))]) fun e8 ys9 =>
 bif e8.same .ret then (
 aV ys9 0 fun x10 =>
 aB x10 fun b11 =>
 some ⟨(.d (.v (.bool b11))), []⟩) else (
 bif e8.same (.exit 0) then (
 some ⟨(.d (.v (.bool false))), []⟩) else (
 none))) := by kernel_rfl
/- loop.example/g00119/spec.Served -/
def b8x0 : ACode := (
 .seq (.seq (.g [oM 9 6, oF 10 9 2, oW 11 (.sl 5) 10, oZ 12 11, oB 13 .lss 9 12]) (
 .cond (.t 13) (.skip) (.exit 0))) (
 .seq (.block 1 (.seq (.g [oF 17 9 2, oW 18 (.sl 5) 17, oM 19 6, oI 20 5 18 19, oF 21 4 20, oW 22 (.sl 2) 21, oM 23 1, oC 24 32 [.c kI, .c .b] [22, 23], oM 16 24, oX 25 16 0, oX 26 16 1, oM 7 25, oM 8 26]) (
 .seq (.dreg [] [(0, oF 27 0 2), (0, oF 28 6 27), (0, oW 29 (.sl 1) 28), (0, oF 30 9 2), (0, oW 31 (.sl 5) 30), (0, oM 32 6), (0, oI 33 5 31 32), (0, oF 34 0 33), (0, oW 35 .s 34)] [oC 36 33 [.c .b] [29, 35], oN 37 36]) (
 .cond (.t 37) (.g [oM 38 5, oM 39 7, oB 40 .add 38 39, oM 5 40]) (.skip))))) (
 .g [oM 14 6, oBi 15 .add 14 1, oM 6 15])))
def e8x0 : Exits := [((.exit 0), [(5, .c kI)])]
noncomputable def l8x0 (T : Table) (k : Nat) := loopN (evalC ⟨T, []⟩ k b8x0 (Ex × List AV)) [1, 2, 5, 6] e8x0
def a8 : AFun := ⟨[.rd, .rd], false, [.t 4], (
 .seq (.g [oQ 2 (.box (.t 0)), oK 4 0]) (
 .seq (.g [oK 5 0]) (
 .seq (.seq (.g [oK 6 0]) (
 .block 0 (.loop [1, 2, 5, 6] e8x0 b8x0))) (
 .seq (.g [oM 41 5, oM 4 41]) (
 .ret)))))⟩
theorem l8x0s (T : Table) (k n : Nat) (n14 : Int) (n15 : Int) (n16 : Int) (n17 : Int) (l18 : Rows) (l19 : Rows) (l20 : Rows) (l21 : Rows) (b22 : Bool) (l23 : Rows) (l24 : Rows) (l25 : Rows) (l26 : Rows) (n27 : Int) (n28 : Int) : l8x0 T k (n + 1) [(.v (.int .i64 n14)), (.b [(.v (.int .i64 n15)), (.v (.int .i64 n16)), (.v (.int .i64 n17)), (.fz 13 l18), (.fz 6 l19), (.fz 5 l20), (.fz 1 l21), (.v (.bool b22)), (.fz 1 l23), (.fz 5 l24), (.fz 5 l25), (.fz 1 l26)]), (.v (.int .i64 n27)), (.v (.int .i64 n28))] = (
 bif (decide (n28 < (l24.length : Int))) then (
 tst (decide (0 ≤ n28)) (
 look l24 (Int.toNat n28) fun r29 =>
 cL 2 r29 4 fun l30 =>
 callT T 32 [(.d (.s 2 l30)), (.d (.v (.int .i64 n14)))] fun o31 =>
 oT o31.res fun is32 =>
 tst (Nat.beq is32.length 2) (
 nth is32 0 fun i33 =>
 oD i33 fun d34 =>
 dI .i64 d34 fun n35 =>
 nth is32 1 fun i36 =>
 oD i36 fun d37 =>
 dB d37 fun b38 =>
 tst (decide (0 ≤ n28)) (
 look l24 (Int.toNat n28) fun r39 =>
 cS r39 0 fun s40 =>
 callT T 33 [(.d (.s 1 l21)), (.d (.v (.string s40)))] fun o41 =>
 oD o41.res fun d42 =>
 dB d42 fun b43 =>
 bif (!b43) then (
 l8x0 T k n [(.v (.int .i64 n14)), (.b [(.v (.int .i64 n15)), (.v (.int .i64 n16)), (.v (.int .i64 n17)), (.fz 13 l18), (.fz 6 l19), (.fz 5 l20), (.fz 1 l21), (.v (.bool b22)), (.fz 1 l23), (.fz 5 l24), (.fz 5 l25), (.fz 1 l26)]), (.v (.int .i64 (IntKind.wrap .i64 (n27 + n35)))), (.v (.int .i64 (IntKind.wrap .i64 (n28 + 1))))]) else (
 l8x0 T k n [(.v (.int .i64 n14)), (.b [(.v (.int .i64 n15)), (.v (.int .i64 n16)), (.v (.int .i64 n17)), (.fz 13 l18), (.fz 6 l19), (.fz 5 l20), (.fz 1 l21), (.v (.bool b22)), (.fz 1 l23), (.fz 5 l24), (.fz 5 l25), (.fz 1 l26)]), (.v (.int .i64 n27)), (.v (.int .i64 (IntKind.wrap .i64 (n28 + 1))))]))))) else (
 some ((.exit 0), [(.v (.int .i64 n27))]))) := by kernel_rfl
theorem a8q (T : Table) (k : Nat) (n1 : Int) (n2 : Int) (n3 : Int) (l4 : Rows) (l5 : Rows) (l6 : Rows) (l7 : Rows) (b8 : Bool) (l9 : Rows) (l10 : Rows) (l11 : Rows) (l12 : Rows) (n13 : Int) : evalF T k a8 [(.g [(.v (.int .i64 n1)), (.v (.int .i64 n2)), (.v (.int .i64 n3)), (.s 13 l4), (.s 6 l5), (.s 5 l6), (.s 1 l7), (.v (.bool b8)), (.s 1 l9), (.s 5 l10), (.s 5 l11), (.s 1 l12)]), (.d (.v (.int .i64 n13)))] = (
 aft (l8x0 T k k [(.v (.int .i64 n13)), (.b [(.v (.int .i64 n1)), (.v (.int .i64 n2)), (.v (.int .i64 n3)), (.fz 13 l4), (.fz 6 l5), (.fz 5 l6), (.fz 1 l7), (.v (.bool b8)), (.fz 1 l9), (.fz 5 l10), (.fz 5 l11), (.fz 1 l12)]), (.v (.int .i64 0)), (.v (.int .i64 0))]) fun e44 ys45 =>
 bif e44.same (.exit 0) then (
 aV ys45 0 fun x46 =>
 aI .i64 x46 fun n47 =>
 some ⟨(.d (.v (.int .i64 n47))), []⟩) else (
 none)) := by kernel_rfl
/- loop.example/g00119/laws.toStringS -/
def b37x0 : ACode := (
 .seq (.seq (.g [oM 8 4, oM 9 0, oZ 10 9, oB 11 .lss 8 10]) (
 .cond (.t 11) (.skip) (.exit 0))) (
 .seq (.block 1 (.g [oM 14 3, oM 15 4, oM 16 0, oM 17 4, oI 18 1 16 17, oW 19 .s 18, oI 20 1 14 15, oS (.store 1 (.t 20) (.t 19))])) (
 .g [oM 12 4, oBi 13 .add 12 1, oM 4 13])))
def e37x0 : Exits := [((.exit 0), [(3, .o 1)])]
noncomputable def l37x0 (T : Table) (k : Nat) := loopN (evalC ⟨T, []⟩ k b37x0 (Ex × List AV)) [0, 3, 4] e37x0
def a37 : AFun := ⟨[.rd], false, [.t 2], (
 .seq (.g [oQ 2 (.mv (.c (.o 1 [])))]) (
 .seq (.g [oM 5 0, oZ 6 5, oQ 7 (.mk [(.v (.string ByteArray.empty))] 16 (.t 6) (.t 6)), oM 3 7]) (
 .seq (.seq (.g [oK 4 0]) (
 .block 0 (.loop [0, 3, 4] e37x0 b37x0))) (
 .seq (.g [oM 21 3, oM 2 21]) (
 .ret)))))⟩
theorem l37x0s (T : Table) (k n : Nat) (l2 : Rows) (l3 : Rows) (n4 : Int) : l37x0 T k (n + 1) [(.fz 1 l2), (.o 1 l3), (.v (.int .i64 n4))] = (
 bif (decide (n4 < (l2.length : Int))) then (
 tst (decide (0 ≤ n4)) (
 look l2 (Int.toNat n4) fun r5 =>
 cS r5 0 fun s6 =>
 tst (decide (0 ≤ n4) && decide (Int.toNat n4 < l3.length)) (
 l37x0 T k n [(.fz 1 l2), (.o 1 (setD l3 (Int.toNat n4) 0 (.v (.string s6)))), (.v (.int .i64 (IntKind.wrap .i64 (n4 + 1))))]))) else (
 some ((.exit 0), [(.o 1 l3)]))) := by kernel_rfl
theorem a37q (T : Table) (k : Nat) (l1 : Rows) : evalF T k a37 [(.d (.s 1 l1))] = (
 tst (cutOk (l1.length : Int) (l1.length : Int) maxLen && decide (Int.toNat (l1.length : Int) * 16 ≤ maxBytes)) (
 aft (l37x0 T k k [(.fz 1 l1), (.o 1 (List.replicate (Int.toNat (l1.length : Int)) [(.v (.string ByteArray.empty))])), (.v (.int .i64 0))]) fun e7 ys8 =>
 bif e7.same (.exit 0) then (
 aV ys8 0 fun x9 =>
 aO 1 x9 fun l10 =>
 some ⟨(.d (.s 1 l10)), []⟩) else (
 none))) := by kernel_rfl
/- loop.example/g00119/laws.toTerm -/

def a203 : AFun := ⟨[.rd], false, [.c 2 true [kI, .s, (.sl 1)]], (
 .seq (.g [oQ 1 (.box (.t 0)), oQ 2 (.alloc [(.v (.int .i64 0)), (.v (.string ByteArray.empty)), (.s 1 [])])]) (
 .seq (.g [oQ 3 (.alloc [(.v (.int .i64 0)), (.v (.string ByteArray.empty)), (.s 1 [])])]) (
 .seq (.g [oF 4 0 1, oW 5 kI 4, oF 6 0 3, oS (.store 1 (.t 6) (.t 5))]) (
 .seq (.g [oF 7 1 1, oW 8 .s 7, oF 9 1 3, oS (.store 1 (.t 9) (.t 8))]) (
 .seq (.g [oF 10 2 1, oW 11 (.sl 1) 10, oC 12 37 [.c (.sl 1)] [11], oF 13 2 3, oS (.store 1 (.t 13) (.t 12))]) (
 .seq (.g [oL 14 [kI, .s, (.sl 1)] 3, oS (.store 3 (.t 2) (.t 14))]) (
 .ret)))))))⟩

theorem a203q (T : Table) (k : Nat) (n1 : Int) (s2 : ByteArray) (l3 : Rows) : evalF T k a203 [(.g [(.v (.int .i64 n1)), (.v (.string s2)), (.s 1 l3)])] = (
 callT T 37 [(.d (.s 1 l3))] fun o4 =>
 oD o4.res fun d5 =>
 dL 1 d5 fun l6 =>
 some ⟨(.g [(.v (.int .i64 n1)), (.v (.string s2)), (.s 1 l6)]), []⟩) := by kernel_rfl
/- loop.example/g00119/laws.toTermS -/
def b141x0 : ACode := (
 .seq (.seq (.g [oM 8 4, oM 9 0, oZ 10 9, oB 11 .lss 8 10]) (
 .cond (.t 11) (.skip) (.exit 0))) (
 .seq (.block 1 (.g [oM 14 3, oM 15 4, oM 16 0, oM 17 4, oI 18 3 16 17, oL 19 [kI, .s, (.sl 1)] 18, oC 20 203 [.g [kI, .s, (.sl 1)]] [19], oI 21 3 14 15, oS (.store 3 (.t 21) (.t 20))])) (
 .g [oM 12 4, oBi 13 .add 12 1, oM 4 13])))
def e141x0 : Exits := [((.exit 0), [(3, .o 3)])]
noncomputable def l141x0 (T : Table) (k : Nat) := loopN (evalC ⟨T, []⟩ k b141x0 (Ex × List AV)) [0, 3, 4] e141x0
def a141 : AFun := ⟨[.rd], false, [.t 2], (
 .seq (.g [oQ 2 (.mv (.c (.o 3 [])))]) (
 .seq (.g [oM 5 0, oZ 6 5, oQ 7 (.mk [(.v (.int .i64 0)), (.v (.string ByteArray.empty)), (.s 1 [])] 48 (.t 6) (.t 6)), oM 3 7]) (
 .seq (.seq (.g [oK 4 0]) (
 .block 0 (.loop [0, 3, 4] e141x0 b141x0))) (
 .seq (.g [oM 22 3, oM 2 22]) (
 .ret)))))⟩
theorem l141x0s (T : Table) (k n : Nat) (l2 : Rows) (l3 : Rows) (n4 : Int) : l141x0 T k (n + 1) [(.fz 3 l2), (.o 3 l3), (.v (.int .i64 n4))] = (
 bif (decide (n4 < (l2.length : Int))) then (
 tst (decide (0 ≤ n4)) (
 look l2 (Int.toNat n4) fun r5 =>
 cI .i64 r5 0 fun n6 =>
 cS r5 1 fun s7 =>
 cL 1 r5 2 fun l8 =>
 callT T 203 [(.g [(.v (.int .i64 n6)), (.v (.string s7)), (.s 1 l8)])] fun o9 =>
 oG o9.res fun r10 =>
 tst (Nat.beq r10.length 3) (
 cI .i64 r10 0 fun n11 =>
 cS r10 1 fun s12 =>
 cL 1 r10 2 fun l13 =>
 tst (decide (0 ≤ n4) && decide (Int.toNat n4 < l3.length)) (
 l141x0 T k n [(.fz 3 l2), (.o 3 (setD (setD (setD (setD l3 (Int.toNat n4) 0 (.v (.int .i64 n11))) (Int.toNat n4) 1 (.v (.string s12))) (Int.toNat n4) 2 hole) (Int.toNat n4) 2 (.s 1 l13))), (.v (.int .i64 (IntKind.wrap .i64 (n4 + 1))))])))) else (
 some ((.exit 0), [(.o 3 l3)]))) := by kernel_rfl
theorem a141q (T : Table) (k : Nat) (l1 : Rows) : evalF T k a141 [(.d (.s 3 l1))] = (
 tst (cutOk (l1.length : Int) (l1.length : Int) maxLen && decide (Int.toNat (l1.length : Int) * 48 ≤ maxBytes)) (
 aft (l141x0 T k k [(.fz 3 l1), (.o 3 (List.replicate (Int.toNat (l1.length : Int)) [(.v (.int .i64 0)), (.v (.string ByteArray.empty)), (.s 1 [])])), (.v (.int .i64 0))]) fun e14 ys15 =>
 bif e14.same (.exit 0) then (
 aV ys15 0 fun x16 =>
 aO 3 x16 fun l17 =>
 some ⟨(.d (.s 3 l17)), []⟩) else (
 none))) := by kernel_rfl
/- loop.example/g00119/laws.toWeigh -/

def a204 : AFun := ⟨[.rd], false, [.c 2 true [.s, kI]], (
 .seq (.g [oQ 1 (.box (.t 0)), oQ 2 (.alloc [(.v (.string ByteArray.empty)), (.v (.int .i64 0))])]) (
 .seq (.g [oQ 3 (.alloc [(.v (.string ByteArray.empty)), (.v (.int .i64 0))])]) (
 .seq (.g [oF 4 0 1, oW 5 .s 4, oF 6 0 3, oS (.store 1 (.t 6) (.t 5))]) (
 .seq (.g [oF 7 1 1, oW 8 kI 7, oF 9 1 3, oS (.store 1 (.t 9) (.t 8))]) (
 .seq (.g [oL 10 [.s, kI] 3, oS (.store 2 (.t 2) (.t 10))]) (
 .ret))))))⟩

theorem a204q (T : Table) (k : Nat) (s1 : ByteArray) (n2 : Int) : evalF T k a204 [(.g [(.v (.string s1)), (.v (.int .i64 n2))])] = (
 some ⟨(.g [(.v (.string s1)), (.v (.int .i64 n2))]), []⟩) := by kernel_rfl
/- loop.example/g00119/laws.toWeighS -/
def b142x0 : ACode := (
 .seq (.seq (.g [oM 8 4, oM 9 0, oZ 10 9, oB 11 .lss 8 10]) (
 .cond (.t 11) (.skip) (.exit 0))) (
 .seq (.block 1 (.g [oM 14 3, oM 15 4, oM 16 0, oM 17 4, oI 18 2 16 17, oL 19 [.s, kI] 18, oC 20 204 [.g [.s, kI]] [19], oI 21 2 14 15, oS (.store 2 (.t 21) (.t 20))])) (
 .g [oM 12 4, oBi 13 .add 12 1, oM 4 13])))
def e142x0 : Exits := [((.exit 0), [(3, .o 2)])]
noncomputable def l142x0 (T : Table) (k : Nat) := loopN (evalC ⟨T, []⟩ k b142x0 (Ex × List AV)) [0, 3, 4] e142x0
def a142 : AFun := ⟨[.rd], false, [.t 2], (
 .seq (.g [oQ 2 (.mv (.c (.o 2 [])))]) (
 .seq (.g [oM 5 0, oZ 6 5, oQ 7 (.mk [(.v (.string ByteArray.empty)), (.v (.int .i64 0))] 24 (.t 6) (.t 6)), oM 3 7]) (
 .seq (.seq (.g [oK 4 0]) (
 .block 0 (.loop [0, 3, 4] e142x0 b142x0))) (
 .seq (.g [oM 22 3, oM 2 22]) (
 .ret)))))⟩
theorem l142x0s (T : Table) (k n : Nat) (l2 : Rows) (l3 : Rows) (n4 : Int) : l142x0 T k (n + 1) [(.fz 2 l2), (.o 2 l3), (.v (.int .i64 n4))] = (
 bif (decide (n4 < (l2.length : Int))) then (
 tst (decide (0 ≤ n4)) (
 look l2 (Int.toNat n4) fun r5 =>
 cS r5 0 fun s6 =>
 cI .i64 r5 1 fun n7 =>
 callT T 204 [(.g [(.v (.string s6)), (.v (.int .i64 n7))])] fun o8 =>
 oG o8.res fun r9 =>
 tst (Nat.beq r9.length 2) (
 cS r9 0 fun s10 =>
 cI .i64 r9 1 fun n11 =>
 tst (decide (0 ≤ n4) && decide (Int.toNat n4 < l3.length)) (
 l142x0 T k n [(.fz 2 l2), (.o 2 (setD (setD l3 (Int.toNat n4) 0 (.v (.string s10))) (Int.toNat n4) 1 (.v (.int .i64 n11)))), (.v (.int .i64 (IntKind.wrap .i64 (n4 + 1))))])))) else (
 some ((.exit 0), [(.o 2 l3)]))) := by kernel_rfl
theorem a142q (T : Table) (k : Nat) (l1 : Rows) : evalF T k a142 [(.d (.s 2 l1))] = (
 tst (cutOk (l1.length : Int) (l1.length : Int) maxLen && decide (Int.toNat (l1.length : Int) * 24 ≤ maxBytes)) (
 aft (l142x0 T k k [(.fz 2 l1), (.o 2 (List.replicate (Int.toNat (l1.length : Int)) [(.v (.string ByteArray.empty)), (.v (.int .i64 0))])), (.v (.int .i64 0))]) fun e12 ys13 =>
 bif e12.same (.exit 0) then (
 aV ys13 0 fun x14 =>
 aO 2 x14 fun l15 =>
 some ⟨(.d (.s 2 l15)), []⟩) else (
 none))) := by kernel_rfl
/- loop.example/g00119/laws.toWant -/

def a75 : AFun := ⟨[.rd], false, [.c 2 true [kI, (.sl 3), (.sl 1), (.sl 2)]], (
 .seq (.g [oQ 1 (.box (.t 0)), oQ 2 (.alloc [(.v (.int .i64 0)), (.s 3 []), (.s 1 []), (.s 2 [])])]) (
 .seq (.g [oQ 3 (.alloc [(.v (.int .i64 0)), (.s 3 []), (.s 1 []), (.s 2 [])])]) (
 .seq (.g [oF 4 0 1, oW 5 kI 4, oF 6 0 3, oS (.store 1 (.t 6) (.t 5))]) (
 .seq (.g [oF 7 1 1, oW 8 (.sl 3) 7, oC 9 141 [.c (.sl 3)] [8], oF 10 1 3, oS (.store 1 (.t 10) (.t 9))]) (
 .seq (.g [oF 11 2 1, oW 12 (.sl 1) 11, oC 13 37 [.c (.sl 1)] [12], oF 14 2 3, oS (.store 1 (.t 14) (.t 13))]) (
 .seq (.g [oF 15 3 1, oW 16 (.sl 2) 15, oC 17 142 [.c (.sl 2)] [16], oF 18 3 3, oS (.store 1 (.t 18) (.t 17))]) (
 .seq (.g [oL 19 [kI, (.sl 3), (.sl 1), (.sl 2)] 3, oS (.store 4 (.t 2) (.t 19))]) (
 .ret))))))))⟩

theorem a75q (T : Table) (k : Nat) (n1 : Int) (l2 : Rows) (l3 : Rows) (l4 : Rows) : evalF T k a75 [(.g [(.v (.int .i64 n1)), (.s 3 l2), (.s 1 l3), (.s 2 l4)])] = (
 callT T 141 [(.d (.s 3 l2))] fun o5 =>
 oD o5.res fun d6 =>
 dL 3 d6 fun l7 =>
 callT T 37 [(.d (.s 1 l3))] fun o8 =>
 oD o8.res fun d9 =>
 dL 1 d9 fun l10 =>
 callT T 142 [(.d (.s 2 l4))] fun o11 =>
 oD o11.res fun d12 =>
 dL 2 d12 fun l13 =>
 some ⟨(.g [(.v (.int .i64 n1)), (.s 3 l7), (.s 1 l10), (.s 2 l13)]), []⟩) := by kernel_rfl
/- loop.example/g00119/laws.toValueS -/
def b143x0 : ACode := (
 .seq (.seq (.g [oM 8 4, oM 9 0, oZ 10 9, oB 11 .lss 8 10]) (
 .cond (.t 11) (.skip) (.exit 0))) (
 .seq (.block 1 (.g [oM 14 3, oM 15 4, oM 16 0, oM 17 4, oI 18 5 16 17, oL 19 [kI, .s, kI, (.sl 1), (.sl 5)] 18, oC 20 76 [.g [kI, .s, kI, (.sl 1), (.sl 5)]] [19], oI 21 5 14 15, oS (.store 5 (.t 21) (.t 20))])) (
 .g [oM 12 4, oBi 13 .add 12 1, oM 4 13])))
def e143x0 : Exits := [((.exit 0), [(3, .o 5)])]
noncomputable def l143x0 (T : Table) (k : Nat) := loopN (evalC ⟨T, []⟩ k b143x0 (Ex × List AV)) [0, 3, 4] e143x0
def a143 : AFun := ⟨[.rd], false, [.t 2], (
 .seq (.g [oQ 2 (.mv (.c (.o 5 [])))]) (
 .seq (.g [oM 5 0, oZ 6 5, oQ 7 (.mk [(.v (.int .i64 0)), (.v (.string ByteArray.empty)), (.v (.int .i64 0)), (.s 1 []), (.s 5 [])] 80 (.t 6) (.t 6)), oM 3 7]) (
 .seq (.seq (.g [oK 4 0]) (
 .block 0 (.loop [0, 3, 4] e143x0 b143x0))) (
 .seq (.g [oM 22 3, oM 2 22]) (
 .ret)))))⟩
theorem l143x0s (T : Table) (k n : Nat) (l2 : Rows) (l3 : Rows) (n4 : Int) : l143x0 T k (n + 1) [(.fz 5 l2), (.o 5 l3), (.v (.int .i64 n4))] = (
 bif (decide (n4 < (l2.length : Int))) then (
 tst (decide (0 ≤ n4)) (
 look l2 (Int.toNat n4) fun r5 =>
 cI .i64 r5 0 fun n6 =>
 cS r5 1 fun s7 =>
 cI .i64 r5 2 fun n8 =>
 cL 1 r5 3 fun l9 =>
 cL 5 r5 4 fun l10 =>
 callT T 76 [(.g [(.v (.int .i64 n6)), (.v (.string s7)), (.v (.int .i64 n8)), (.s 1 l9), (.s 5 l10)])] fun o11 =>
 oG o11.res fun r12 =>
 tst (Nat.beq r12.length 5) (
 cI .i64 r12 0 fun n13 =>
 cS r12 1 fun s14 =>
 cI .i64 r12 2 fun n15 =>
 cL 1 r12 3 fun l16 =>
 cL 5 r12 4 fun l17 =>
 tst (decide (0 ≤ n4) && decide (Int.toNat n4 < l3.length)) (
 l143x0 T k n [(.fz 5 l2), (.o 5 (setD (setD (setD (setD (setD (setD (setD l3 (Int.toNat n4) 0 (.v (.int .i64 n13))) (Int.toNat n4) 1 (.v (.string s14))) (Int.toNat n4) 2 (.v (.int .i64 n15))) (Int.toNat n4) 3 hole) (Int.toNat n4) 4 hole) (Int.toNat n4) 4 (.s 5 l17)) (Int.toNat n4) 3 (.s 1 l16))), (.v (.int .i64 (IntKind.wrap .i64 (n4 + 1))))])))) else (
 some ((.exit 0), [(.o 5 l3)]))) := by kernel_rfl
theorem a143q (T : Table) (k : Nat) (l1 : Rows) : evalF T k a143 [(.d (.s 5 l1))] = (
 tst (cutOk (l1.length : Int) (l1.length : Int) maxLen && decide (Int.toNat (l1.length : Int) * 80 ≤ maxBytes)) (
 aft (l143x0 T k k [(.fz 5 l1), (.o 5 (List.replicate (Int.toNat (l1.length : Int)) [(.v (.int .i64 0)), (.v (.string ByteArray.empty)), (.v (.int .i64 0)), (.s 1 []), (.s 5 [])])), (.v (.int .i64 0))]) fun e18 ys19 =>
 bif e18.same (.exit 0) then (
 aV ys19 0 fun x20 =>
 aO 5 x20 fun l21 =>
 some ⟨(.d (.s 5 l21)), []⟩) else (
 none))) := by kernel_rfl
/- loop.example/g00119/laws.toValue -/

def a76 : AFun := ⟨[.rd], false, [.c 2 true [kI, .s, kI, (.sl 1), (.sl 5)]], (
 .seq (.g [oQ 1 (.box (.t 0)), oQ 2 (.alloc [(.v (.int .i64 0)), (.v (.string ByteArray.empty)), (.v (.int .i64 0)), (.s 1 []), (.s 5 [])])]) (
 .seq (.g [oQ 3 (.alloc [(.v (.int .i64 0)), (.v (.string ByteArray.empty)), (.v (.int .i64 0)), (.s 1 []), (.s 5 [])])]) (
 .seq (.g [oF 4 0 1, oW 5 kI 4, oF 6 0 3, oS (.store 1 (.t 6) (.t 5))]) (
 .seq (.g [oF 7 1 1, oW 8 .s 7, oF 9 1 3, oS (.store 1 (.t 9) (.t 8))]) (
 .seq (.g [oF 10 2 1, oW 11 kI 10, oF 12 2 3, oS (.store 1 (.t 12) (.t 11))]) (
 .seq (.g [oF 13 3 1, oW 14 (.sl 1) 13, oC 15 37 [.c (.sl 1)] [14], oF 16 3 3, oS (.store 1 (.t 16) (.t 15))]) (
 .seq (.g [oF 17 4 1, oW 18 (.sl 5) 17, oC 19 143 [.c (.sl 5)] [18], oF 20 4 3, oS (.store 1 (.t 20) (.t 19))]) (
 .seq (.g [oL 21 [kI, .s, kI, (.sl 1), (.sl 5)] 3, oS (.store 5 (.t 2) (.t 21))]) (
 .ret)))))))))⟩

theorem a76q (T : Table) (k : Nat) (n1 : Int) (s2 : ByteArray) (n3 : Int) (l4 : Rows) (l5 : Rows) : evalF T k a76 [(.g [(.v (.int .i64 n1)), (.v (.string s2)), (.v (.int .i64 n3)), (.s 1 l4), (.s 5 l5)])] = (
 callT T 37 [(.d (.s 1 l4))] fun o6 =>
 oD o6.res fun d7 =>
 dL 1 d7 fun l8 =>
 callT T 143 [(.d (.s 5 l5))] fun o9 =>
 oD o9.res fun d10 =>
 dL 5 d10 fun l11 =>
 some ⟨(.g [(.v (.int .i64 n1)), (.v (.string s2)), (.v (.int .i64 n3)), (.s 1 l8), (.s 5 l11)]), []⟩) := by kernel_rfl
/- loop.example/g00119/laws.toOp -/

def a239 : AFun := ⟨[.rd], false, [.c 2 true [kI, (.sl 1), kI, .s, kI, (.sl 1), (.sl 5)]], (
 .seq (.g [oQ 1 (.box (.t 0)), oQ 2 (.alloc [(.v (.int .i64 0)), (.s 1 []), (.v (.int .i64 0)), (.v (.string ByteArray.empty)), (.v (.int .i64 0)), (.s 1 []), (.s 5 [])])]) (
 .seq (.g [oQ 3 (.alloc [(.v (.int .i64 0)), (.s 1 []), (.v (.int .i64 0)), (.v (.string ByteArray.empty)), (.v (.int .i64 0)), (.s 1 []), (.s 5 [])])]) (
 .seq (.g [oF 4 0 1, oW 5 kI 4, oF 6 0 3, oS (.store 1 (.t 6) (.t 5))]) (
 .seq (.g [oF 7 1 1, oW 8 (.sl 1) 7, oC 9 37 [.c (.sl 1)] [8], oF 10 1 3, oS (.store 1 (.t 10) (.t 9))]) (
 .seq (.g [oF 11 2 1, oL 12 [kI, .s, kI, (.sl 1), (.sl 5)] 11, oC 13 76 [.g [kI, .s, kI, (.sl 1), (.sl 5)]] [12], oF 14 2 3, oS (.store 5 (.t 14) (.t 13))]) (
 .seq (.g [oL 15 [kI, (.sl 1), kI, .s, kI, (.sl 1), (.sl 5)] 3, oS (.store 7 (.t 2) (.t 15))]) (
 .ret)))))))⟩

theorem a239q (T : Table) (k : Nat) (n1 : Int) (l2 : Rows) (n3 : Int) (s4 : ByteArray) (n5 : Int) (l6 : Rows) (l7 : Rows) : evalF T k a239 [(.g [(.v (.int .i64 n1)), (.s 1 l2), (.v (.int .i64 n3)), (.v (.string s4)), (.v (.int .i64 n5)), (.s 1 l6), (.s 5 l7)])] = (
 callT T 37 [(.d (.s 1 l2))] fun o8 =>
 oD o8.res fun d9 =>
 dL 1 d9 fun l10 =>
 callT T 76 [(.g [(.v (.int .i64 n3)), (.v (.string s4)), (.v (.int .i64 n5)), (.s 1 l6), (.s 5 l7)])] fun o11 =>
 oG o11.res fun r12 =>
 tst (Nat.beq r12.length 5) (
 cI .i64 r12 0 fun n13 =>
 cS r12 1 fun s14 =>
 cI .i64 r12 2 fun n15 =>
 cL 1 r12 3 fun l16 =>
 cL 5 r12 4 fun l17 =>
 some ⟨(.g [(.v (.int .i64 n1)), (.s 1 l10), (.v (.int .i64 n13)), (.v (.string s14)), (.v (.int .i64 n15)), (.s 1 l16), (.s 5 l17)]), []⟩)) := by kernel_rfl
/- loop.example/g00119/laws.toOpS -/
def b205x0 : ACode := (
 .seq (.seq (.g [oM 8 4, oM 9 0, oZ 10 9, oB 11 .lss 8 10]) (
 .cond (.t 11) (.skip) (.exit 0))) (
 .seq (.block 1 (.g [oM 14 3, oM 15 4, oM 16 0, oM 17 4, oI 18 7 16 17, oL 19 [kI, (.sl 1), kI, .s, kI, (.sl 1), (.sl 5)] 18, oC 20 239 [.g [kI, (.sl 1), kI, .s, kI, (.sl 1), (.sl 5)]] [19], oI 21 7 14 15, oS (.store 7 (.t 21) (.t 20))])) (
 .g [oM 12 4, oBi 13 .add 12 1, oM 4 13])))
def e205x0 : Exits := [((.exit 0), [(3, .o 7)])]
noncomputable def l205x0 (T : Table) (k : Nat) := loopN (evalC ⟨T, []⟩ k b205x0 (Ex × List AV)) [0, 3, 4] e205x0
def a205 : AFun := ⟨[.rd], false, [.t 2], (
 .seq (.g [oQ 2 (.mv (.c (.o 7 [])))]) (
 .seq (.g [oM 5 0, oZ 6 5, oQ 7 (.mk [(.v (.int .i64 0)), (.s 1 []), (.v (.int .i64 0)), (.v (.string ByteArray.empty)), (.v (.int .i64 0)), (.s 1 []), (.s 5 [])] 112 (.t 6) (.t 6)), oM 3 7]) (
 .seq (.seq (.g [oK 4 0]) (
 .block 0 (.loop [0, 3, 4] e205x0 b205x0))) (
 .seq (.g [oM 22 3, oM 2 22]) (
 .ret)))))⟩
theorem l205x0s (T : Table) (k n : Nat) (l2 : Rows) (l3 : Rows) (n4 : Int) : l205x0 T k (n + 1) [(.fz 7 l2), (.o 7 l3), (.v (.int .i64 n4))] = (
 bif (decide (n4 < (l2.length : Int))) then (
 tst (decide (0 ≤ n4)) (
 look l2 (Int.toNat n4) fun r5 =>
 cI .i64 r5 0 fun n6 =>
 cL 1 r5 1 fun l7 =>
 cI .i64 r5 2 fun n8 =>
 cS r5 3 fun s9 =>
 cI .i64 r5 4 fun n10 =>
 cL 1 r5 5 fun l11 =>
 cL 5 r5 6 fun l12 =>
 callT T 239 [(.g [(.v (.int .i64 n6)), (.s 1 l7), (.v (.int .i64 n8)), (.v (.string s9)), (.v (.int .i64 n10)), (.s 1 l11), (.s 5 l12)])] fun o13 =>
 oG o13.res fun r14 =>
 tst (Nat.beq r14.length 7) (
 cI .i64 r14 0 fun n15 =>
 cL 1 r14 1 fun l16 =>
 cI .i64 r14 2 fun n17 =>
 cS r14 3 fun s18 =>
 cI .i64 r14 4 fun n19 =>
 cL 1 r14 5 fun l20 =>
 cL 5 r14 6 fun l21 =>
 tst (decide (0 ≤ n4) && decide (Int.toNat n4 < l3.length)) (
 l205x0 T k n [(.fz 7 l2), (.o 7 (setD (setD (setD (setD (setD (setD (setD (setD (setD (setD l3 (Int.toNat n4) 0 (.v (.int .i64 n15))) (Int.toNat n4) 1 hole) (Int.toNat n4) 2 (.v (.int .i64 n17))) (Int.toNat n4) 3 (.v (.string s18))) (Int.toNat n4) 4 (.v (.int .i64 n19))) (Int.toNat n4) 5 hole) (Int.toNat n4) 6 hole) (Int.toNat n4) 6 (.s 5 l21)) (Int.toNat n4) 5 (.s 1 l20)) (Int.toNat n4) 1 (.s 1 l16))), (.v (.int .i64 (IntKind.wrap .i64 (n4 + 1))))])))) else (
 some ((.exit 0), [(.o 7 l3)]))) := by kernel_rfl
theorem a205q (T : Table) (k : Nat) (l1 : Rows) : evalF T k a205 [(.d (.s 7 l1))] = (
 tst (cutOk (l1.length : Int) (l1.length : Int) maxLen && decide (Int.toNat (l1.length : Int) * 112 ≤ maxBytes)) (
 aft (l205x0 T k k [(.fz 7 l1), (.o 7 (List.replicate (Int.toNat (l1.length : Int)) [(.v (.int .i64 0)), (.s 1 []), (.v (.int .i64 0)), (.v (.string ByteArray.empty)), (.v (.int .i64 0)), (.s 1 []), (.s 5 [])])), (.v (.int .i64 0))]) fun e22 ys23 =>
 bif e22.same (.exit 0) then (
 aV ys23 0 fun x24 =>
 aO 7 x24 fun l25 =>
 some ⟨(.d (.s 7 l25)), []⟩) else (
 none))) := by kernel_rfl
/- loop.example/g00119/laws.toOver -/

def a144 : AFun := ⟨[.rd], false, [.c 2 true [.s, (.sl 7)]], (
 .seq (.g [oQ 1 (.box (.t 0)), oQ 2 (.alloc [(.v (.string ByteArray.empty)), (.s 7 [])])]) (
 .seq (.g [oQ 3 (.alloc [(.v (.string ByteArray.empty)), (.s 7 [])])]) (
 .seq (.g [oF 4 0 1, oW 5 .s 4, oF 6 0 3, oS (.store 1 (.t 6) (.t 5))]) (
 .seq (.g [oF 7 1 1, oW 8 (.sl 7) 7, oC 9 205 [.c (.sl 7)] [8], oF 10 1 3, oS (.store 1 (.t 10) (.t 9))]) (
 .seq (.g [oL 11 [.s, (.sl 7)] 3, oS (.store 2 (.t 2) (.t 11))]) (
 .ret))))))⟩

theorem a144q (T : Table) (k : Nat) (s1 : ByteArray) (l2 : Rows) : evalF T k a144 [(.g [(.v (.string s1)), (.s 7 l2)])] = (
 callT T 205 [(.d (.s 7 l2))] fun o3 =>
 oD o3.res fun d4 =>
 dL 7 d4 fun l5 =>
 some ⟨(.g [(.v (.string s1)), (.s 7 l5)]), []⟩) := by kernel_rfl
/- loop.example/g00119/laws.toOverS -/
def b77x0 : ACode := (
 .seq (.seq (.g [oM 8 4, oM 9 0, oZ 10 9, oB 11 .lss 8 10]) (
 .cond (.t 11) (.skip) (.exit 0))) (
 .seq (.block 1 (.g [oM 14 3, oM 15 4, oM 16 0, oM 17 4, oI 18 2 16 17, oL 19 [.s, (.sl 7)] 18, oC 20 144 [.g [.s, (.sl 7)]] [19], oI 21 2 14 15, oS (.store 2 (.t 21) (.t 20))])) (
 .g [oM 12 4, oBi 13 .add 12 1, oM 4 13])))
def e77x0 : Exits := [((.exit 0), [(3, .o 2)])]
noncomputable def l77x0 (T : Table) (k : Nat) := loopN (evalC ⟨T, []⟩ k b77x0 (Ex × List AV)) [0, 3, 4] e77x0
def a77 : AFun := ⟨[.rd], false, [.t 2], (
 .seq (.g [oQ 2 (.mv (.c (.o 2 [])))]) (
 .seq (.g [oM 5 0, oZ 6 5, oQ 7 (.mk [(.v (.string ByteArray.empty)), (.s 7 [])] 40 (.t 6) (.t 6)), oM 3 7]) (
 .seq (.seq (.g [oK 4 0]) (
 .block 0 (.loop [0, 3, 4] e77x0 b77x0))) (
 .seq (.g [oM 22 3, oM 2 22]) (
 .ret)))))⟩
theorem l77x0s (T : Table) (k n : Nat) (l2 : Rows) (l3 : Rows) (n4 : Int) : l77x0 T k (n + 1) [(.fz 2 l2), (.o 2 l3), (.v (.int .i64 n4))] = (
 bif (decide (n4 < (l2.length : Int))) then (
 tst (decide (0 ≤ n4)) (
 look l2 (Int.toNat n4) fun r5 =>
 cS r5 0 fun s6 =>
 cL 7 r5 1 fun l7 =>
 callT T 144 [(.g [(.v (.string s6)), (.s 7 l7)])] fun o8 =>
 oG o8.res fun r9 =>
 tst (Nat.beq r9.length 2) (
 cS r9 0 fun s10 =>
 cL 7 r9 1 fun l11 =>
 tst (decide (0 ≤ n4) && decide (Int.toNat n4 < l3.length)) (
 l77x0 T k n [(.fz 2 l2), (.o 2 (setD (setD (setD l3 (Int.toNat n4) 0 (.v (.string s10))) (Int.toNat n4) 1 hole) (Int.toNat n4) 1 (.s 7 l11))), (.v (.int .i64 (IntKind.wrap .i64 (n4 + 1))))])))) else (
 some ((.exit 0), [(.o 2 l3)]))) := by kernel_rfl
theorem a77q (T : Table) (k : Nat) (l1 : Rows) : evalF T k a77 [(.d (.s 2 l1))] = (
 tst (cutOk (l1.length : Int) (l1.length : Int) maxLen && decide (Int.toNat (l1.length : Int) * 40 ≤ maxBytes)) (
 aft (l77x0 T k k [(.fz 2 l1), (.o 2 (List.replicate (Int.toNat (l1.length : Int)) [(.v (.string ByteArray.empty)), (.s 7 [])])), (.v (.int .i64 0))]) fun e12 ys13 =>
 bif e12.same (.exit 0) then (
 aV ys13 0 fun x14 =>
 aO 2 x14 fun l15 =>
 some ⟨(.d (.s 2 l15)), []⟩) else (
 none))) := by kernel_rfl
/- loop.example/g00119/laws.toJob -/

def a114 : AFun := ⟨[.rd], false, [.c 2 true [kI, .s, kI, (.sl 3), (.sl 1), (.sl 2), kI, .s, kI, (.sl 1), (.sl 5), (.sl 2), .b]], (
 .seq (.g [oQ 1 (.box (.t 0)), oQ 2 (.alloc [(.v (.int .i64 0)), (.v (.string ByteArray.empty)), (.v (.int .i64 0)), (.s 3 []), (.s 1 []), (.s 2 []), (.v (.int .i64 0)), (.v (.string ByteArray.empty)), (.v (.int .i64 0)), (.s 1 []), (.s 5 []), (.s 2 []), (.v (.bool false))])]) (
 .seq (.g [oQ 3 (.alloc [(.v (.int .i64 0)), (.v (.string ByteArray.empty)), (.v (.int .i64 0)), (.s 3 []), (.s 1 []), (.s 2 []), (.v (.int .i64 0)), (.v (.string ByteArray.empty)), (.v (.int .i64 0)), (.s 1 []), (.s 5 []), (.s 2 []), (.v (.bool false))])]) (
 .seq (.g [oF 4 0 1, oW 5 kI 4, oF 6 0 3, oS (.store 1 (.t 6) (.t 5))]) (
 .seq (.g [oF 7 1 1, oW 8 .s 7, oF 9 1 3, oS (.store 1 (.t 9) (.t 8))]) (
 .seq (.g [oF 10 2 1, oL 11 [kI, (.sl 3), (.sl 1), (.sl 2)] 10, oC 12 75 [.g [kI, (.sl 3), (.sl 1), (.sl 2)]] [11], oF 13 2 3, oS (.store 4 (.t 13) (.t 12))]) (
 .seq (.g [oF 14 6 1, oL 15 [kI, .s, kI, (.sl 1), (.sl 5)] 14, oC 16 76 [.g [kI, .s, kI, (.sl 1), (.sl 5)]] [15], oF 17 6 3, oS (.store 5 (.t 17) (.t 16))]) (
 .seq (.g [oF 18 11 1, oW 19 (.sl 2) 18, oC 20 77 [.c (.sl 2)] [19], oF 21 11 3, oS (.store 1 (.t 21) (.t 20))]) (
 .seq (.g [oF 22 12 1, oW 23 .b 22, oF 24 12 3, oS (.store 1 (.t 24) (.t 23))]) (
 .seq (.g [oL 25 [kI, .s, kI, (.sl 3), (.sl 1), (.sl 2), kI, .s, kI, (.sl 1), (.sl 5), (.sl 2), .b] 3, oS (.store 13 (.t 2) (.t 25))]) (
 .ret))))))))))⟩

theorem a114q (T : Table) (k : Nat) (n1 : Int) (s2 : ByteArray) (n3 : Int) (l4 : Rows) (l5 : Rows) (l6 : Rows) (n7 : Int) (s8 : ByteArray) (n9 : Int) (l10 : Rows) (l11 : Rows) (l12 : Rows) (b13 : Bool) : evalF T k a114 [(.g [(.v (.int .i64 n1)), (.v (.string s2)), (.v (.int .i64 n3)), (.s 3 l4), (.s 1 l5), (.s 2 l6), (.v (.int .i64 n7)), (.v (.string s8)), (.v (.int .i64 n9)), (.s 1 l10), (.s 5 l11), (.s 2 l12), (.v (.bool b13))])] = (
 callT T 75 [(.g [(.v (.int .i64 n3)), (.s 3 l4), (.s 1 l5), (.s 2 l6)])] fun o14 =>
 oG o14.res fun r15 =>
 tst (Nat.beq r15.length 4) (
 cI .i64 r15 0 fun n16 =>
 cL 3 r15 1 fun l17 =>
 cL 1 r15 2 fun l18 =>
 cL 2 r15 3 fun l19 =>
 callT T 76 [(.g [(.v (.int .i64 n7)), (.v (.string s8)), (.v (.int .i64 n9)), (.s 1 l10), (.s 5 l11)])] fun o20 =>
 oG o20.res fun r21 =>
 tst (Nat.beq r21.length 5) (
 cI .i64 r21 0 fun n22 =>
 cS r21 1 fun s23 =>
 cI .i64 r21 2 fun n24 =>
 cL 1 r21 3 fun l25 =>
 cL 5 r21 4 fun l26 =>
 callT T 77 [(.d (.s 2 l12))] fun o27 =>
 oD o27.res fun d28 =>
 dL 2 d28 fun l29 =>
 some ⟨(.g [(.v (.int .i64 n1)), (.v (.string s2)), (.v (.int .i64 n16)), (.s 3 l17), (.s 1 l18), (.s 2 l19), (.v (.int .i64 n22)), (.v (.string s23)), (.v (.int .i64 n24)), (.s 1 l25), (.s 5 l26), (.s 2 l29), (.v (.bool b13))]), []⟩))) := by kernel_rfl
/- loop.example/g00119/laws.toJobS -/
def b49x0 : ACode := (
 .seq (.seq (.g [oM 8 4, oM 9 0, oZ 10 9, oB 11 .lss 8 10]) (
 .cond (.t 11) (.skip) (.exit 0))) (
 .seq (.block 1 (.g [oM 14 3, oM 15 4, oM 16 0, oM 17 4, oI 18 13 16 17, oL 19 [kI, .s, kI, (.sl 3), (.sl 1), (.sl 2), kI, .s, kI, (.sl 1), (.sl 5), (.sl 2), .b] 18, oC 20 114 [.g [kI, .s, kI, (.sl 3), (.sl 1), (.sl 2), kI, .s, kI, (.sl 1), (.sl 5), (.sl 2), .b]] [19], oI 21 13 14 15, oS (.store 13 (.t 21) (.t 20))])) (
 .g [oM 12 4, oBi 13 .add 12 1, oM 4 13])))
def e49x0 : Exits := [((.exit 0), [(3, .o 13)])]
noncomputable def l49x0 (T : Table) (k : Nat) := loopN (evalC ⟨T, []⟩ k b49x0 (Ex × List AV)) [0, 3, 4] e49x0
def a49 : AFun := ⟨[.rd], false, [.t 2], (
 .seq (.g [oQ 2 (.mv (.c (.o 13 [])))]) (
 .seq (.g [oM 5 0, oZ 6 5, oQ 7 (.mk [(.v (.int .i64 0)), (.v (.string ByteArray.empty)), (.v (.int .i64 0)), (.s 3 []), (.s 1 []), (.s 2 []), (.v (.int .i64 0)), (.v (.string ByteArray.empty)), (.v (.int .i64 0)), (.s 1 []), (.s 5 []), (.s 2 []), (.v (.bool false))] 216 (.t 6) (.t 6)), oM 3 7]) (
 .seq (.seq (.g [oK 4 0]) (
 .block 0 (.loop [0, 3, 4] e49x0 b49x0))) (
 .seq (.g [oM 22 3, oM 2 22]) (
 .ret)))))⟩
theorem l49x0s (T : Table) (k n : Nat) (l2 : Rows) (l3 : Rows) (n4 : Int) : l49x0 T k (n + 1) [(.fz 13 l2), (.o 13 l3), (.v (.int .i64 n4))] = (
 bif (decide (n4 < (l2.length : Int))) then (
 tst (decide (0 ≤ n4)) (
 look l2 (Int.toNat n4) fun r5 =>
 cI .i64 r5 0 fun n6 =>
 cS r5 1 fun s7 =>
 cI .i64 r5 2 fun n8 =>
 cL 3 r5 3 fun l9 =>
 cL 1 r5 4 fun l10 =>
 cL 2 r5 5 fun l11 =>
 cI .i64 r5 6 fun n12 =>
 cS r5 7 fun s13 =>
 cI .i64 r5 8 fun n14 =>
 cL 1 r5 9 fun l15 =>
 cL 5 r5 10 fun l16 =>
 cL 2 r5 11 fun l17 =>
 cB r5 12 fun b18 =>
 callT T 114 [(.g [(.v (.int .i64 n6)), (.v (.string s7)), (.v (.int .i64 n8)), (.s 3 l9), (.s 1 l10), (.s 2 l11), (.v (.int .i64 n12)), (.v (.string s13)), (.v (.int .i64 n14)), (.s 1 l15), (.s 5 l16), (.s 2 l17), (.v (.bool b18))])] fun o19 =>
 oG o19.res fun r20 =>
 tst (Nat.beq r20.length 13) (
 cI .i64 r20 0 fun n21 =>
 cS r20 1 fun s22 =>
 cI .i64 r20 2 fun n23 =>
 cL 3 r20 3 fun l24 =>
 cL 1 r20 4 fun l25 =>
 cL 2 r20 5 fun l26 =>
 cI .i64 r20 6 fun n27 =>
 cS r20 7 fun s28 =>
 cI .i64 r20 8 fun n29 =>
 cL 1 r20 9 fun l30 =>
 cL 5 r20 10 fun l31 =>
 cL 2 r20 11 fun l32 =>
 cB r20 12 fun b33 =>
 tst (decide (0 ≤ n4) && decide (Int.toNat n4 < l3.length)) (
 l49x0 T k n [(.fz 13 l2), (.o 13 (setD (setD (setD (setD (setD (setD (setD (setD (setD (setD (setD (setD (setD (setD (setD (setD (setD (setD (setD l3 (Int.toNat n4) 0 (.v (.int .i64 n21))) (Int.toNat n4) 1 (.v (.string s22))) (Int.toNat n4) 2 (.v (.int .i64 n23))) (Int.toNat n4) 3 hole) (Int.toNat n4) 4 hole) (Int.toNat n4) 5 hole) (Int.toNat n4) 6 (.v (.int .i64 n27))) (Int.toNat n4) 7 (.v (.string s28))) (Int.toNat n4) 8 (.v (.int .i64 n29))) (Int.toNat n4) 9 hole) (Int.toNat n4) 10 hole) (Int.toNat n4) 11 hole) (Int.toNat n4) 12 (.v (.bool b33))) (Int.toNat n4) 11 (.s 2 l32)) (Int.toNat n4) 10 (.s 5 l31)) (Int.toNat n4) 9 (.s 1 l30)) (Int.toNat n4) 5 (.s 2 l26)) (Int.toNat n4) 4 (.s 1 l25)) (Int.toNat n4) 3 (.s 3 l24))), (.v (.int .i64 (IntKind.wrap .i64 (n4 + 1))))])))) else (
 some ((.exit 0), [(.o 13 l3)]))) := by kernel_rfl
theorem a49q (T : Table) (k : Nat) (l1 : Rows) : evalF T k a49 [(.d (.s 13 l1))] = (
 tst (cutOk (l1.length : Int) (l1.length : Int) maxLen && decide (Int.toNat (l1.length : Int) * 216 ≤ maxBytes)) (
 aft (l49x0 T k k [(.fz 13 l1), (.o 13 (List.replicate (Int.toNat (l1.length : Int)) [(.v (.int .i64 0)), (.v (.string ByteArray.empty)), (.v (.int .i64 0)), (.s 3 []), (.s 1 []), (.s 2 []), (.v (.int .i64 0)), (.v (.string ByteArray.empty)), (.v (.int .i64 0)), (.s 1 []), (.s 5 []), (.s 2 []), (.v (.bool false))])), (.v (.int .i64 0))]) fun e34 ys35 =>
 bif e34.same (.exit 0) then (
 aV ys35 0 fun x36 =>
 aO 13 x36 fun l37 =>
 some ⟨(.d (.s 13 l37)), []⟩) else (
 none))) := by kernel_rfl
/- loop.example/g00119/laws.toLabel -/

def a206 : AFun := ⟨[.rd], false, [.c 2 true [.s, .s]], (
 .seq (.g [oQ 1 (.box (.t 0)), oQ 2 (.alloc [(.v (.string ByteArray.empty)), (.v (.string ByteArray.empty))])]) (
 .seq (.g [oQ 3 (.alloc [(.v (.string ByteArray.empty)), (.v (.string ByteArray.empty))])]) (
 .seq (.g [oF 4 0 1, oW 5 .s 4, oF 6 0 3, oS (.store 1 (.t 6) (.t 5))]) (
 .seq (.g [oF 7 1 1, oW 8 .s 7, oF 9 1 3, oS (.store 1 (.t 9) (.t 8))]) (
 .seq (.g [oL 10 [.s, .s] 3, oS (.store 2 (.t 2) (.t 10))]) (
 .ret))))))⟩

theorem a206q (T : Table) (k : Nat) (s1 : ByteArray) (s2 : ByteArray) : evalF T k a206 [(.g [(.v (.string s1)), (.v (.string s2))])] = (
 some ⟨(.g [(.v (.string s1)), (.v (.string s2))]), []⟩) := by kernel_rfl
/- loop.example/g00119/laws.toLabelS -/
def b145x0 : ACode := (
 .seq (.seq (.g [oM 8 4, oM 9 0, oZ 10 9, oB 11 .lss 8 10]) (
 .cond (.t 11) (.skip) (.exit 0))) (
 .seq (.block 1 (.g [oM 14 3, oM 15 4, oM 16 0, oM 17 4, oI 18 2 16 17, oL 19 [.s, .s] 18, oC 20 206 [.g [.s, .s]] [19], oI 21 2 14 15, oS (.store 2 (.t 21) (.t 20))])) (
 .g [oM 12 4, oBi 13 .add 12 1, oM 4 13])))
def e145x0 : Exits := [((.exit 0), [(3, .o 2)])]
noncomputable def l145x0 (T : Table) (k : Nat) := loopN (evalC ⟨T, []⟩ k b145x0 (Ex × List AV)) [0, 3, 4] e145x0
def a145 : AFun := ⟨[.rd], false, [.t 2], (
 .seq (.g [oQ 2 (.mv (.c (.o 2 [])))]) (
 .seq (.g [oM 5 0, oZ 6 5, oQ 7 (.mk [(.v (.string ByteArray.empty)), (.v (.string ByteArray.empty))] 32 (.t 6) (.t 6)), oM 3 7]) (
 .seq (.seq (.g [oK 4 0]) (
 .block 0 (.loop [0, 3, 4] e145x0 b145x0))) (
 .seq (.g [oM 22 3, oM 2 22]) (
 .ret)))))⟩
theorem l145x0s (T : Table) (k n : Nat) (l2 : Rows) (l3 : Rows) (n4 : Int) : l145x0 T k (n + 1) [(.fz 2 l2), (.o 2 l3), (.v (.int .i64 n4))] = (
 bif (decide (n4 < (l2.length : Int))) then (
 tst (decide (0 ≤ n4)) (
 look l2 (Int.toNat n4) fun r5 =>
 cS r5 0 fun s6 =>
 cS r5 1 fun s7 =>
 callT T 206 [(.g [(.v (.string s6)), (.v (.string s7))])] fun o8 =>
 oG o8.res fun r9 =>
 tst (Nat.beq r9.length 2) (
 cS r9 0 fun s10 =>
 cS r9 1 fun s11 =>
 tst (decide (0 ≤ n4) && decide (Int.toNat n4 < l3.length)) (
 l145x0 T k n [(.fz 2 l2), (.o 2 (setD (setD l3 (Int.toNat n4) 0 (.v (.string s10))) (Int.toNat n4) 1 (.v (.string s11)))), (.v (.int .i64 (IntKind.wrap .i64 (n4 + 1))))])))) else (
 some ((.exit 0), [(.o 2 l3)]))) := by kernel_rfl
theorem a145q (T : Table) (k : Nat) (l1 : Rows) : evalF T k a145 [(.d (.s 2 l1))] = (
 tst (cutOk (l1.length : Int) (l1.length : Int) maxLen && decide (Int.toNat (l1.length : Int) * 32 ≤ maxBytes)) (
 aft (l145x0 T k k [(.fz 2 l1), (.o 2 (List.replicate (Int.toNat (l1.length : Int)) [(.v (.string ByteArray.empty)), (.v (.string ByteArray.empty))])), (.v (.int .i64 0))]) fun e12 ys13 =>
 bif e12.same (.exit 0) then (
 aV ys13 0 fun x14 =>
 aO 2 x14 fun l15 =>
 some ⟨(.d (.s 2 l15)), []⟩) else (
 none))) := by kernel_rfl
/- loop.example/g00119/laws.toIsland -/

def a78 : AFun := ⟨[.rd], false, [.c 2 true [.s, (.sl 2), (.sl 1), kI]], (
 .seq (.g [oQ 1 (.box (.t 0)), oQ 2 (.alloc [(.v (.string ByteArray.empty)), (.s 2 []), (.s 1 []), (.v (.int .i64 0))])]) (
 .seq (.g [oQ 3 (.alloc [(.v (.string ByteArray.empty)), (.s 2 []), (.s 1 []), (.v (.int .i64 0))])]) (
 .seq (.g [oF 4 0 1, oW 5 .s 4, oF 6 0 3, oS (.store 1 (.t 6) (.t 5))]) (
 .seq (.g [oF 7 1 1, oW 8 (.sl 2) 7, oC 9 145 [.c (.sl 2)] [8], oF 10 1 3, oS (.store 1 (.t 10) (.t 9))]) (
 .seq (.g [oF 11 2 1, oW 12 (.sl 1) 11, oC 13 37 [.c (.sl 1)] [12], oF 14 2 3, oS (.store 1 (.t 14) (.t 13))]) (
 .seq (.g [oF 15 3 1, oW 16 kI 15, oF 17 3 3, oS (.store 1 (.t 17) (.t 16))]) (
 .seq (.g [oL 18 [.s, (.sl 2), (.sl 1), kI] 3, oS (.store 4 (.t 2) (.t 18))]) (
 .ret))))))))⟩

theorem a78q (T : Table) (k : Nat) (s1 : ByteArray) (l2 : Rows) (l3 : Rows) (n4 : Int) : evalF T k a78 [(.g [(.v (.string s1)), (.s 2 l2), (.s 1 l3), (.v (.int .i64 n4))])] = (
 callT T 145 [(.d (.s 2 l2))] fun o5 =>
 oD o5.res fun d6 =>
 dL 2 d6 fun l7 =>
 callT T 37 [(.d (.s 1 l3))] fun o8 =>
 oD o8.res fun d9 =>
 dL 1 d9 fun l10 =>
 some ⟨(.g [(.v (.string s1)), (.s 2 l7), (.s 1 l10), (.v (.int .i64 n4))]), []⟩) := by kernel_rfl
/- loop.example/g00119/laws.toPost -/

def a115 : AFun := ⟨[.rd], false, [.c 2 true [.s, (.sl 2), (.sl 1), kI, kI, kI]], (
 .seq (.g [oQ 1 (.box (.t 0)), oQ 2 (.alloc [(.v (.string ByteArray.empty)), (.s 2 []), (.s 1 []), (.v (.int .i64 0)), (.v (.int .i64 0)), (.v (.int .i64 0))])]) (
 .seq (.g [oQ 3 (.alloc [(.v (.string ByteArray.empty)), (.s 2 []), (.s 1 []), (.v (.int .i64 0)), (.v (.int .i64 0)), (.v (.int .i64 0))])]) (
 .seq (.g [oF 4 0 1, oL 5 [.s, (.sl 2), (.sl 1), kI] 4, oC 6 78 [.g [.s, (.sl 2), (.sl 1), kI]] [5], oF 7 0 3, oS (.store 4 (.t 7) (.t 6))]) (
 .seq (.g [oF 8 4 1, oW 9 kI 8, oF 10 4 3, oS (.store 1 (.t 10) (.t 9))]) (
 .seq (.g [oF 11 5 1, oW 12 kI 11, oF 13 5 3, oS (.store 1 (.t 13) (.t 12))]) (
 .seq (.g [oL 14 [.s, (.sl 2), (.sl 1), kI, kI, kI] 3, oS (.store 6 (.t 2) (.t 14))]) (
 .ret)))))))⟩

theorem a115q (T : Table) (k : Nat) (s1 : ByteArray) (l2 : Rows) (l3 : Rows) (n4 : Int) (n5 : Int) (n6 : Int) : evalF T k a115 [(.g [(.v (.string s1)), (.s 2 l2), (.s 1 l3), (.v (.int .i64 n4)), (.v (.int .i64 n5)), (.v (.int .i64 n6))])] = (
 callT T 78 [(.g [(.v (.string s1)), (.s 2 l2), (.s 1 l3), (.v (.int .i64 n4))])] fun o7 =>
 oG o7.res fun r8 =>
 tst (Nat.beq r8.length 4) (
 cS r8 0 fun s9 =>
 cL 2 r8 1 fun l10 =>
 cL 1 r8 2 fun l11 =>
 cI .i64 r8 3 fun n12 =>
 some ⟨(.g [(.v (.string s9)), (.s 2 l10), (.s 1 l11), (.v (.int .i64 n12)), (.v (.int .i64 n5)), (.v (.int .i64 n6))]), []⟩)) := by kernel_rfl
/- loop.example/g00119/laws.toPostS -/
def b50x0 : ACode := (
 .seq (.seq (.g [oM 8 4, oM 9 0, oZ 10 9, oB 11 .lss 8 10]) (
 .cond (.t 11) (.skip) (.exit 0))) (
 .seq (.block 1 (.g [oM 14 3, oM 15 4, oM 16 0, oM 17 4, oI 18 6 16 17, oL 19 [.s, (.sl 2), (.sl 1), kI, kI, kI] 18, oC 20 115 [.g [.s, (.sl 2), (.sl 1), kI, kI, kI]] [19], oI 21 6 14 15, oS (.store 6 (.t 21) (.t 20))])) (
 .g [oM 12 4, oBi 13 .add 12 1, oM 4 13])))
def e50x0 : Exits := [((.exit 0), [(3, .o 6)])]
noncomputable def l50x0 (T : Table) (k : Nat) := loopN (evalC ⟨T, []⟩ k b50x0 (Ex × List AV)) [0, 3, 4] e50x0
def a50 : AFun := ⟨[.rd], false, [.t 2], (
 .seq (.g [oQ 2 (.mv (.c (.o 6 [])))]) (
 .seq (.g [oM 5 0, oZ 6 5, oQ 7 (.mk [(.v (.string ByteArray.empty)), (.s 2 []), (.s 1 []), (.v (.int .i64 0)), (.v (.int .i64 0)), (.v (.int .i64 0))] 88 (.t 6) (.t 6)), oM 3 7]) (
 .seq (.seq (.g [oK 4 0]) (
 .block 0 (.loop [0, 3, 4] e50x0 b50x0))) (
 .seq (.g [oM 22 3, oM 2 22]) (
 .ret)))))⟩
theorem l50x0s (T : Table) (k n : Nat) (l2 : Rows) (l3 : Rows) (n4 : Int) : l50x0 T k (n + 1) [(.fz 6 l2), (.o 6 l3), (.v (.int .i64 n4))] = (
 bif (decide (n4 < (l2.length : Int))) then (
 tst (decide (0 ≤ n4)) (
 look l2 (Int.toNat n4) fun r5 =>
 cS r5 0 fun s6 =>
 cL 2 r5 1 fun l7 =>
 cL 1 r5 2 fun l8 =>
 cI .i64 r5 3 fun n9 =>
 cI .i64 r5 4 fun n10 =>
 cI .i64 r5 5 fun n11 =>
 callT T 115 [(.g [(.v (.string s6)), (.s 2 l7), (.s 1 l8), (.v (.int .i64 n9)), (.v (.int .i64 n10)), (.v (.int .i64 n11))])] fun o12 =>
 oG o12.res fun r13 =>
 tst (Nat.beq r13.length 6) (
 cS r13 0 fun s14 =>
 cL 2 r13 1 fun l15 =>
 cL 1 r13 2 fun l16 =>
 cI .i64 r13 3 fun n17 =>
 cI .i64 r13 4 fun n18 =>
 cI .i64 r13 5 fun n19 =>
 tst (decide (0 ≤ n4) && decide (Int.toNat n4 < l3.length)) (
 l50x0 T k n [(.fz 6 l2), (.o 6 (setD (setD (setD (setD (setD (setD (setD (setD l3 (Int.toNat n4) 0 (.v (.string s14))) (Int.toNat n4) 1 hole) (Int.toNat n4) 2 hole) (Int.toNat n4) 3 (.v (.int .i64 n17))) (Int.toNat n4) 4 (.v (.int .i64 n18))) (Int.toNat n4) 5 (.v (.int .i64 n19))) (Int.toNat n4) 2 (.s 1 l16)) (Int.toNat n4) 1 (.s 2 l15))), (.v (.int .i64 (IntKind.wrap .i64 (n4 + 1))))])))) else (
 some ((.exit 0), [(.o 6 l3)]))) := by kernel_rfl
theorem a50q (T : Table) (k : Nat) (l1 : Rows) : evalF T k a50 [(.d (.s 6 l1))] = (
 tst (cutOk (l1.length : Int) (l1.length : Int) maxLen && decide (Int.toNat (l1.length : Int) * 88 ≤ maxBytes)) (
 aft (l50x0 T k k [(.fz 6 l1), (.o 6 (List.replicate (Int.toNat (l1.length : Int)) [(.v (.string ByteArray.empty)), (.s 2 []), (.s 1 []), (.v (.int .i64 0)), (.v (.int .i64 0)), (.v (.int .i64 0))])), (.v (.int .i64 0))]) fun e20 ys21 =>
 bif e20.same (.exit 0) then (
 aV ys21 0 fun x22 =>
 aO 6 x22 fun l23 =>
 some ⟨(.d (.s 6 l23)), []⟩) else (
 none))) := by kernel_rfl
/- loop.example/g00119/laws.toHold -/

def a116 : AFun := ⟨[.rd], false, [.c 2 true [kI, .s, kI, kI, kI]], (
 .seq (.g [oQ 1 (.box (.t 0)), oQ 2 (.alloc [(.v (.int .i64 0)), (.v (.string ByteArray.empty)), (.v (.int .i64 0)), (.v (.int .i64 0)), (.v (.int .i64 0))])]) (
 .seq (.g [oQ 3 (.alloc [(.v (.int .i64 0)), (.v (.string ByteArray.empty)), (.v (.int .i64 0)), (.v (.int .i64 0)), (.v (.int .i64 0))])]) (
 .seq (.g [oF 4 0 1, oW 5 kI 4, oF 6 0 3, oS (.store 1 (.t 6) (.t 5))]) (
 .seq (.g [oF 7 1 1, oW 8 .s 7, oF 9 1 3, oS (.store 1 (.t 9) (.t 8))]) (
 .seq (.g [oF 10 2 1, oW 11 kI 10, oF 12 2 3, oS (.store 1 (.t 12) (.t 11))]) (
 .seq (.g [oF 13 3 1, oW 14 kI 13, oF 15 3 3, oS (.store 1 (.t 15) (.t 14))]) (
 .seq (.g [oF 16 4 1, oW 17 kI 16, oF 18 4 3, oS (.store 1 (.t 18) (.t 17))]) (
 .seq (.g [oL 19 [kI, .s, kI, kI, kI] 3, oS (.store 5 (.t 2) (.t 19))]) (
 .ret)))))))))⟩

theorem a116q (T : Table) (k : Nat) (n1 : Int) (s2 : ByteArray) (n3 : Int) (n4 : Int) (n5 : Int) : evalF T k a116 [(.g [(.v (.int .i64 n1)), (.v (.string s2)), (.v (.int .i64 n3)), (.v (.int .i64 n4)), (.v (.int .i64 n5))])] = (
 some ⟨(.g [(.v (.int .i64 n1)), (.v (.string s2)), (.v (.int .i64 n3)), (.v (.int .i64 n4)), (.v (.int .i64 n5))]), []⟩) := by kernel_rfl
/- loop.example/g00119/laws.toHoldS -/
def b51x0 : ACode := (
 .seq (.seq (.g [oM 8 4, oM 9 0, oZ 10 9, oB 11 .lss 8 10]) (
 .cond (.t 11) (.skip) (.exit 0))) (
 .seq (.block 1 (.g [oM 14 3, oM 15 4, oM 16 0, oM 17 4, oI 18 5 16 17, oL 19 [kI, .s, kI, kI, kI] 18, oC 20 116 [.g [kI, .s, kI, kI, kI]] [19], oI 21 5 14 15, oS (.store 5 (.t 21) (.t 20))])) (
 .g [oM 12 4, oBi 13 .add 12 1, oM 4 13])))
def e51x0 : Exits := [((.exit 0), [(3, .o 5)])]
noncomputable def l51x0 (T : Table) (k : Nat) := loopN (evalC ⟨T, []⟩ k b51x0 (Ex × List AV)) [0, 3, 4] e51x0
def a51 : AFun := ⟨[.rd], false, [.t 2], (
 .seq (.g [oQ 2 (.mv (.c (.o 5 [])))]) (
 .seq (.g [oM 5 0, oZ 6 5, oQ 7 (.mk [(.v (.int .i64 0)), (.v (.string ByteArray.empty)), (.v (.int .i64 0)), (.v (.int .i64 0)), (.v (.int .i64 0))] 48 (.t 6) (.t 6)), oM 3 7]) (
 .seq (.seq (.g [oK 4 0]) (
 .block 0 (.loop [0, 3, 4] e51x0 b51x0))) (
 .seq (.g [oM 22 3, oM 2 22]) (
 .ret)))))⟩
theorem l51x0s (T : Table) (k n : Nat) (l2 : Rows) (l3 : Rows) (n4 : Int) : l51x0 T k (n + 1) [(.fz 5 l2), (.o 5 l3), (.v (.int .i64 n4))] = (
 bif (decide (n4 < (l2.length : Int))) then (
 tst (decide (0 ≤ n4)) (
 look l2 (Int.toNat n4) fun r5 =>
 cI .i64 r5 0 fun n6 =>
 cS r5 1 fun s7 =>
 cI .i64 r5 2 fun n8 =>
 cI .i64 r5 3 fun n9 =>
 cI .i64 r5 4 fun n10 =>
 callT T 116 [(.g [(.v (.int .i64 n6)), (.v (.string s7)), (.v (.int .i64 n8)), (.v (.int .i64 n9)), (.v (.int .i64 n10))])] fun o11 =>
 oG o11.res fun r12 =>
 tst (Nat.beq r12.length 5) (
 cI .i64 r12 0 fun n13 =>
 cS r12 1 fun s14 =>
 cI .i64 r12 2 fun n15 =>
 cI .i64 r12 3 fun n16 =>
 cI .i64 r12 4 fun n17 =>
 tst (decide (0 ≤ n4) && decide (Int.toNat n4 < l3.length)) (
 l51x0 T k n [(.fz 5 l2), (.o 5 (setD (setD (setD (setD (setD l3 (Int.toNat n4) 0 (.v (.int .i64 n13))) (Int.toNat n4) 1 (.v (.string s14))) (Int.toNat n4) 2 (.v (.int .i64 n15))) (Int.toNat n4) 3 (.v (.int .i64 n16))) (Int.toNat n4) 4 (.v (.int .i64 n17)))), (.v (.int .i64 (IntKind.wrap .i64 (n4 + 1))))])))) else (
 some ((.exit 0), [(.o 5 l3)]))) := by kernel_rfl
theorem a51q (T : Table) (k : Nat) (l1 : Rows) : evalF T k a51 [(.d (.s 5 l1))] = (
 tst (cutOk (l1.length : Int) (l1.length : Int) maxLen && decide (Int.toNat (l1.length : Int) * 48 ≤ maxBytes)) (
 aft (l51x0 T k k [(.fz 5 l1), (.o 5 (List.replicate (Int.toNat (l1.length : Int)) [(.v (.int .i64 0)), (.v (.string ByteArray.empty)), (.v (.int .i64 0)), (.v (.int .i64 0)), (.v (.int .i64 0))])), (.v (.int .i64 0))]) fun e18 ys19 =>
 bif e18.same (.exit 0) then (
 aV ys19 0 fun x20 =>
 aO 5 x20 fun l21 =>
 some ⟨(.d (.s 5 l21)), []⟩) else (
 none))) := by kernel_rfl
/- loop.example/g00119/laws.toHub -/

def a14 : AFun := ⟨[.rd], false, [.c 2 true [kI, kI, kI, (.sl 13), (.sl 6), (.sl 5), (.sl 1)]], (
 .seq (.g [oQ 1 (.box (.t 0)), oQ 2 (.alloc [(.v (.int .i64 0)), (.v (.int .i64 0)), (.v (.int .i64 0)), (.s 13 []), (.s 6 []), (.s 5 []), (.s 1 [])])]) (
 .seq (.g [oQ 3 (.alloc [(.v (.int .i64 0)), (.v (.int .i64 0)), (.v (.int .i64 0)), (.s 13 []), (.s 6 []), (.s 5 []), (.s 1 [])])]) (
 .seq (.g [oF 4 0 1, oW 5 kI 4, oF 6 0 3, oS (.store 1 (.t 6) (.t 5))]) (
 .seq (.g [oF 7 1 1, oW 8 kI 7, oF 9 1 3, oS (.store 1 (.t 9) (.t 8))]) (
 .seq (.g [oF 10 2 1, oW 11 kI 10, oF 12 2 3, oS (.store 1 (.t 12) (.t 11))]) (
 .seq (.g [oF 13 3 1, oW 14 (.sl 13) 13, oC 15 49 [.c (.sl 13)] [14], oF 16 3 3, oS (.store 1 (.t 16) (.t 15))]) (
 .seq (.g [oF 17 4 1, oW 18 (.sl 6) 17, oC 19 50 [.c (.sl 6)] [18], oF 20 4 3, oS (.store 1 (.t 20) (.t 19))]) (
 .seq (.g [oF 21 5 1, oW 22 (.sl 5) 21, oC 23 51 [.c (.sl 5)] [22], oF 24 5 3, oS (.store 1 (.t 24) (.t 23))]) (
 .seq (.g [oF 25 6 1, oW 26 (.sl 1) 25, oC 27 37 [.c (.sl 1)] [26], oF 28 6 3, oS (.store 1 (.t 28) (.t 27))]) (
 .seq (.g [oL 29 [kI, kI, kI, (.sl 13), (.sl 6), (.sl 5), (.sl 1)] 3, oS (.store 7 (.t 2) (.t 29))]) (
 .ret)))))))))))⟩

theorem a14q (T : Table) (k : Nat) (n1 : Int) (n2 : Int) (n3 : Int) (l4 : Rows) (l5 : Rows) (l6 : Rows) (l7 : Rows) : evalF T k a14 [(.g [(.v (.int .i64 n1)), (.v (.int .i64 n2)), (.v (.int .i64 n3)), (.s 13 l4), (.s 6 l5), (.s 5 l6), (.s 1 l7)])] = (
 callT T 49 [(.d (.s 13 l4))] fun o8 =>
 oD o8.res fun d9 =>
 dL 13 d9 fun l10 =>
 callT T 50 [(.d (.s 6 l5))] fun o11 =>
 oD o11.res fun d12 =>
 dL 6 d12 fun l13 =>
 callT T 51 [(.d (.s 5 l6))] fun o14 =>
 oD o14.res fun d15 =>
 dL 5 d15 fun l16 =>
 callT T 37 [(.d (.s 1 l7))] fun o17 =>
 oD o17.res fun d18 =>
 dL 1 d18 fun l19 =>
 some ⟨(.g [(.v (.int .i64 n1)), (.v (.int .i64 n2)), (.v (.int .i64 n3)), (.s 13 l10), (.s 6 l13), (.s 5 l16), (.s 1 l19)]), []⟩) := by kernel_rfl
/- loop.example/g00119/laws.toByteS -/
def b34x0 : ACode := (
 .seq (.seq (.g [oM 8 4, oM 9 0, oZ 10 9, oB 11 .lss 8 10]) (
 .cond (.t 11) (.skip) (.exit 0))) (
 .seq (.block 1 (.g [oM 14 3, oM 15 4, oM 16 0, oM 17 4, oI 18 1 16 17, oW 19 (.i .u8) 18, oI 20 1 14 15, oS (.store 1 (.t 20) (.t 19))])) (
 .g [oM 12 4, oBi 13 .add 12 1, oM 4 13])))
def e34x0 : Exits := [((.exit 0), [(3, .o 1)])]
noncomputable def l34x0 (T : Table) (k : Nat) := loopN (evalC ⟨T, []⟩ k b34x0 (Ex × List AV)) [0, 3, 4] e34x0
def a34 : AFun := ⟨[.rd], false, [.t 2], (
 .seq (.g [oQ 2 (.mv (.c (.o 1 [])))]) (
 .seq (.g [oM 5 0, oZ 6 5, oQ 7 (.mk [(.v (.int .u8 0))] 1 (.t 6) (.t 6)), oM 3 7]) (
 .seq (.seq (.g [oK 4 0]) (
 .block 0 (.loop [0, 3, 4] e34x0 b34x0))) (
 .seq (.g [oM 21 3, oM 2 21]) (
 .ret)))))⟩
theorem l34x0s (T : Table) (k n : Nat) (l2 : Rows) (l3 : Rows) (n4 : Int) : l34x0 T k (n + 1) [(.fz 1 l2), (.o 1 l3), (.v (.int .i64 n4))] = (
 bif (decide (n4 < (l2.length : Int))) then (
 tst (decide (0 ≤ n4)) (
 look l2 (Int.toNat n4) fun r5 =>
 cI .u8 r5 0 fun n6 =>
 tst (decide (0 ≤ n4) && decide (Int.toNat n4 < l3.length)) (
 l34x0 T k n [(.fz 1 l2), (.o 1 (setD l3 (Int.toNat n4) 0 (.v (.int .u8 n6)))), (.v (.int .i64 (IntKind.wrap .i64 (n4 + 1))))]))) else (
 some ((.exit 0), [(.o 1 l3)]))) := by kernel_rfl
theorem a34q (T : Table) (k : Nat) (l1 : Rows) : evalF T k a34 [(.d (.s 1 l1))] = (
 tst (cutOk (l1.length : Int) (l1.length : Int) maxLen && decide (Int.toNat (l1.length : Int) * 1 ≤ maxBytes)) (
 aft (l34x0 T k k [(.fz 1 l1), (.o 1 (List.replicate (Int.toNat (l1.length : Int)) [(.v (.int .u8 0))])), (.v (.int .i64 0))]) fun e7 ys8 =>
 bif e7.same (.exit 0) then (
 aV ys8 0 fun x9 =>
 aO 1 x9 fun l10 =>
 some ⟨(.d (.s 1 l10)), []⟩) else (
 none))) := by kernel_rfl
/- loop.example/g00119/laws.toRun -/

def a146 : AFun := ⟨[.rd], false, [.c 2 true [kI, kI]], (
 .seq (.g [oQ 1 (.box (.t 0)), oQ 2 (.alloc [(.v (.int .i64 0)), (.v (.int .i64 0))])]) (
 .seq (.g [oQ 3 (.alloc [(.v (.int .i64 0)), (.v (.int .i64 0))])]) (
 .seq (.g [oF 4 0 1, oW 5 kI 4, oF 6 0 3, oS (.store 1 (.t 6) (.t 5))]) (
 .seq (.g [oF 7 1 1, oW 8 kI 7, oF 9 1 3, oS (.store 1 (.t 9) (.t 8))]) (
 .seq (.g [oL 10 [kI, kI] 3, oS (.store 2 (.t 2) (.t 10))]) (
 .ret))))))⟩

theorem a146q (T : Table) (k : Nat) (n1 : Int) (n2 : Int) : evalF T k a146 [(.g [(.v (.int .i64 n1)), (.v (.int .i64 n2))])] = (
 some ⟨(.g [(.v (.int .i64 n1)), (.v (.int .i64 n2))]), []⟩) := by kernel_rfl
/- loop.example/g00119/laws.toRunS -/
def b79x0 : ACode := (
 .seq (.seq (.g [oM 8 4, oM 9 0, oZ 10 9, oB 11 .lss 8 10]) (
 .cond (.t 11) (.skip) (.exit 0))) (
 .seq (.block 1 (.g [oM 14 3, oM 15 4, oM 16 0, oM 17 4, oI 18 2 16 17, oL 19 [kI, kI] 18, oC 20 146 [.g [kI, kI]] [19], oI 21 2 14 15, oS (.store 2 (.t 21) (.t 20))])) (
 .g [oM 12 4, oBi 13 .add 12 1, oM 4 13])))
def e79x0 : Exits := [((.exit 0), [(3, .o 2)])]
noncomputable def l79x0 (T : Table) (k : Nat) := loopN (evalC ⟨T, []⟩ k b79x0 (Ex × List AV)) [0, 3, 4] e79x0
def a79 : AFun := ⟨[.rd], false, [.t 2], (
 .seq (.g [oQ 2 (.mv (.c (.o 2 [])))]) (
 .seq (.g [oM 5 0, oZ 6 5, oQ 7 (.mk [(.v (.int .i64 0)), (.v (.int .i64 0))] 16 (.t 6) (.t 6)), oM 3 7]) (
 .seq (.seq (.g [oK 4 0]) (
 .block 0 (.loop [0, 3, 4] e79x0 b79x0))) (
 .seq (.g [oM 22 3, oM 2 22]) (
 .ret)))))⟩
theorem l79x0s (T : Table) (k n : Nat) (l2 : Rows) (l3 : Rows) (n4 : Int) : l79x0 T k (n + 1) [(.fz 2 l2), (.o 2 l3), (.v (.int .i64 n4))] = (
 bif (decide (n4 < (l2.length : Int))) then (
 tst (decide (0 ≤ n4)) (
 look l2 (Int.toNat n4) fun r5 =>
 cI .i64 r5 0 fun n6 =>
 cI .i64 r5 1 fun n7 =>
 callT T 146 [(.g [(.v (.int .i64 n6)), (.v (.int .i64 n7))])] fun o8 =>
 oG o8.res fun r9 =>
 tst (Nat.beq r9.length 2) (
 cI .i64 r9 0 fun n10 =>
 cI .i64 r9 1 fun n11 =>
 tst (decide (0 ≤ n4) && decide (Int.toNat n4 < l3.length)) (
 l79x0 T k n [(.fz 2 l2), (.o 2 (setD (setD l3 (Int.toNat n4) 0 (.v (.int .i64 n10))) (Int.toNat n4) 1 (.v (.int .i64 n11)))), (.v (.int .i64 (IntKind.wrap .i64 (n4 + 1))))])))) else (
 some ((.exit 0), [(.o 2 l3)]))) := by kernel_rfl
theorem a79q (T : Table) (k : Nat) (l1 : Rows) : evalF T k a79 [(.d (.s 2 l1))] = (
 tst (cutOk (l1.length : Int) (l1.length : Int) maxLen && decide (Int.toNat (l1.length : Int) * 16 ≤ maxBytes)) (
 aft (l79x0 T k k [(.fz 2 l1), (.o 2 (List.replicate (Int.toNat (l1.length : Int)) [(.v (.int .i64 0)), (.v (.int .i64 0))])), (.v (.int .i64 0))]) fun e12 ys13 =>
 bif e12.same (.exit 0) then (
 aV ys13 0 fun x14 =>
 aO 2 x14 fun l15 =>
 some ⟨(.d (.s 2 l15)), []⟩) else (
 none))) := by kernel_rfl
/- loop.example/g00119/laws.toWork -/

def a226 : AFun := ⟨[.rd], false, [.c 2 true [kI, kI, kI, .s, kI, (.sl 1), (.sl 5)]], (
 .seq (.g [oQ 1 (.box (.t 0)), oQ 2 (.alloc [(.v (.int .i64 0)), (.v (.int .i64 0)), (.v (.int .i64 0)), (.v (.string ByteArray.empty)), (.v (.int .i64 0)), (.s 1 []), (.s 5 [])])]) (
 .seq (.g [oQ 3 (.alloc [(.v (.int .i64 0)), (.v (.int .i64 0)), (.v (.int .i64 0)), (.v (.string ByteArray.empty)), (.v (.int .i64 0)), (.s 1 []), (.s 5 [])])]) (
 .seq (.g [oF 4 0 1, oW 5 kI 4, oF 6 0 3, oS (.store 1 (.t 6) (.t 5))]) (
 .seq (.g [oF 7 1 1, oW 8 kI 7, oF 9 1 3, oS (.store 1 (.t 9) (.t 8))]) (
 .seq (.g [oF 10 2 1, oL 11 [kI, .s, kI, (.sl 1), (.sl 5)] 10, oC 12 76 [.g [kI, .s, kI, (.sl 1), (.sl 5)]] [11], oF 13 2 3, oS (.store 5 (.t 13) (.t 12))]) (
 .seq (.g [oL 14 [kI, kI, kI, .s, kI, (.sl 1), (.sl 5)] 3, oS (.store 7 (.t 2) (.t 14))]) (
 .ret)))))))⟩

theorem a226q (T : Table) (k : Nat) (n1 : Int) (n2 : Int) (n3 : Int) (s4 : ByteArray) (n5 : Int) (l6 : Rows) (l7 : Rows) : evalF T k a226 [(.g [(.v (.int .i64 n1)), (.v (.int .i64 n2)), (.v (.int .i64 n3)), (.v (.string s4)), (.v (.int .i64 n5)), (.s 1 l6), (.s 5 l7)])] = (
 callT T 76 [(.g [(.v (.int .i64 n3)), (.v (.string s4)), (.v (.int .i64 n5)), (.s 1 l6), (.s 5 l7)])] fun o8 =>
 oG o8.res fun r9 =>
 tst (Nat.beq r9.length 5) (
 cI .i64 r9 0 fun n10 =>
 cS r9 1 fun s11 =>
 cI .i64 r9 2 fun n12 =>
 cL 1 r9 3 fun l13 =>
 cL 5 r9 4 fun l14 =>
 some ⟨(.g [(.v (.int .i64 n1)), (.v (.int .i64 n2)), (.v (.int .i64 n10)), (.v (.string s11)), (.v (.int .i64 n12)), (.s 1 l13), (.s 5 l14)]), []⟩)) := by kernel_rfl
/- loop.example/g00119/laws.toWorkS -/
def b179x0 : ACode := (
 .seq (.seq (.g [oM 8 4, oM 9 0, oZ 10 9, oB 11 .lss 8 10]) (
 .cond (.t 11) (.skip) (.exit 0))) (
 .seq (.block 1 (.g [oM 14 3, oM 15 4, oM 16 0, oM 17 4, oI 18 7 16 17, oL 19 [kI, kI, kI, .s, kI, (.sl 1), (.sl 5)] 18, oC 20 226 [.g [kI, kI, kI, .s, kI, (.sl 1), (.sl 5)]] [19], oI 21 7 14 15, oS (.store 7 (.t 21) (.t 20))])) (
 .g [oM 12 4, oBi 13 .add 12 1, oM 4 13])))
def e179x0 : Exits := [((.exit 0), [(3, .o 7)])]
noncomputable def l179x0 (T : Table) (k : Nat) := loopN (evalC ⟨T, []⟩ k b179x0 (Ex × List AV)) [0, 3, 4] e179x0
def a179 : AFun := ⟨[.rd], false, [.t 2], (
 .seq (.g [oQ 2 (.mv (.c (.o 7 [])))]) (
 .seq (.g [oM 5 0, oZ 6 5, oQ 7 (.mk [(.v (.int .i64 0)), (.v (.int .i64 0)), (.v (.int .i64 0)), (.v (.string ByteArray.empty)), (.v (.int .i64 0)), (.s 1 []), (.s 5 [])] 96 (.t 6) (.t 6)), oM 3 7]) (
 .seq (.seq (.g [oK 4 0]) (
 .block 0 (.loop [0, 3, 4] e179x0 b179x0))) (
 .seq (.g [oM 22 3, oM 2 22]) (
 .ret)))))⟩
theorem l179x0s (T : Table) (k n : Nat) (l2 : Rows) (l3 : Rows) (n4 : Int) : l179x0 T k (n + 1) [(.fz 7 l2), (.o 7 l3), (.v (.int .i64 n4))] = (
 bif (decide (n4 < (l2.length : Int))) then (
 tst (decide (0 ≤ n4)) (
 look l2 (Int.toNat n4) fun r5 =>
 cI .i64 r5 0 fun n6 =>
 cI .i64 r5 1 fun n7 =>
 cI .i64 r5 2 fun n8 =>
 cS r5 3 fun s9 =>
 cI .i64 r5 4 fun n10 =>
 cL 1 r5 5 fun l11 =>
 cL 5 r5 6 fun l12 =>
 callT T 226 [(.g [(.v (.int .i64 n6)), (.v (.int .i64 n7)), (.v (.int .i64 n8)), (.v (.string s9)), (.v (.int .i64 n10)), (.s 1 l11), (.s 5 l12)])] fun o13 =>
 oG o13.res fun r14 =>
 tst (Nat.beq r14.length 7) (
 cI .i64 r14 0 fun n15 =>
 cI .i64 r14 1 fun n16 =>
 cI .i64 r14 2 fun n17 =>
 cS r14 3 fun s18 =>
 cI .i64 r14 4 fun n19 =>
 cL 1 r14 5 fun l20 =>
 cL 5 r14 6 fun l21 =>
 tst (decide (0 ≤ n4) && decide (Int.toNat n4 < l3.length)) (
 l179x0 T k n [(.fz 7 l2), (.o 7 (setD (setD (setD (setD (setD (setD (setD (setD (setD l3 (Int.toNat n4) 0 (.v (.int .i64 n15))) (Int.toNat n4) 1 (.v (.int .i64 n16))) (Int.toNat n4) 2 (.v (.int .i64 n17))) (Int.toNat n4) 3 (.v (.string s18))) (Int.toNat n4) 4 (.v (.int .i64 n19))) (Int.toNat n4) 5 hole) (Int.toNat n4) 6 hole) (Int.toNat n4) 6 (.s 5 l21)) (Int.toNat n4) 5 (.s 1 l20))), (.v (.int .i64 (IntKind.wrap .i64 (n4 + 1))))])))) else (
 some ((.exit 0), [(.o 7 l3)]))) := by kernel_rfl
theorem a179q (T : Table) (k : Nat) (l1 : Rows) : evalF T k a179 [(.d (.s 7 l1))] = (
 tst (cutOk (l1.length : Int) (l1.length : Int) maxLen && decide (Int.toNat (l1.length : Int) * 96 ≤ maxBytes)) (
 aft (l179x0 T k k [(.fz 7 l1), (.o 7 (List.replicate (Int.toNat (l1.length : Int)) [(.v (.int .i64 0)), (.v (.int .i64 0)), (.v (.int .i64 0)), (.v (.string ByteArray.empty)), (.v (.int .i64 0)), (.s 1 []), (.s 5 [])])), (.v (.int .i64 0))]) fun e22 ys23 =>
 bif e22.same (.exit 0) then (
 aV ys23 0 fun x24 =>
 aO 7 x24 fun l25 =>
 some ⟨(.d (.s 7 l25)), []⟩) else (
 none))) := by kernel_rfl
/- loop.example/g00119/laws.toIsle -/

def a106 : AFun := ⟨[.rd], false, [.c 2 true [.s, kI, kI, (.sl 7), (.sl 2)]], (
 .seq (.g [oQ 1 (.box (.t 0)), oQ 2 (.alloc [(.v (.string ByteArray.empty)), (.v (.int .i64 0)), (.v (.int .i64 0)), (.s 7 []), (.s 2 [])])]) (
 .seq (.g [oQ 3 (.alloc [(.v (.string ByteArray.empty)), (.v (.int .i64 0)), (.v (.int .i64 0)), (.s 7 []), (.s 2 [])])]) (
 .seq (.g [oF 4 0 1, oW 5 .s 4, oF 6 0 3, oS (.store 1 (.t 6) (.t 5))]) (
 .seq (.g [oF 7 1 1, oW 8 kI 7, oF 9 1 3, oS (.store 1 (.t 9) (.t 8))]) (
 .seq (.g [oF 10 2 1, oW 11 kI 10, oF 12 2 3, oS (.store 1 (.t 12) (.t 11))]) (
 .seq (.g [oF 13 3 1, oW 14 (.sl 7) 13, oC 15 179 [.c (.sl 7)] [14], oF 16 3 3, oS (.store 1 (.t 16) (.t 15))]) (
 .seq (.g [oF 17 4 1, oW 18 (.sl 2) 17, oC 19 79 [.c (.sl 2)] [18], oF 20 4 3, oS (.store 1 (.t 20) (.t 19))]) (
 .seq (.g [oL 21 [.s, kI, kI, (.sl 7), (.sl 2)] 3, oS (.store 5 (.t 2) (.t 21))]) (
 .ret)))))))))⟩

theorem a106q (T : Table) (k : Nat) (s1 : ByteArray) (n2 : Int) (n3 : Int) (l4 : Rows) (l5 : Rows) : evalF T k a106 [(.g [(.v (.string s1)), (.v (.int .i64 n2)), (.v (.int .i64 n3)), (.s 7 l4), (.s 2 l5)])] = (
 callT T 179 [(.d (.s 7 l4))] fun o6 =>
 oD o6.res fun d7 =>
 dL 7 d7 fun l8 =>
 callT T 79 [(.d (.s 2 l5))] fun o9 =>
 oD o9.res fun d10 =>
 dL 2 d10 fun l11 =>
 some ⟨(.g [(.v (.string s1)), (.v (.int .i64 n2)), (.v (.int .i64 n3)), (.s 7 l8), (.s 2 l11)]), []⟩) := by kernel_rfl
/- loop.example/g00119/laws.toIsleS -/
def b35x0 : ACode := (
 .seq (.seq (.g [oM 8 4, oM 9 0, oZ 10 9, oB 11 .lss 8 10]) (
 .cond (.t 11) (.skip) (.exit 0))) (
 .seq (.block 1 (.g [oM 14 3, oM 15 4, oM 16 0, oM 17 4, oI 18 5 16 17, oL 19 [.s, kI, kI, (.sl 7), (.sl 2)] 18, oC 20 106 [.g [.s, kI, kI, (.sl 7), (.sl 2)]] [19], oI 21 5 14 15, oS (.store 5 (.t 21) (.t 20))])) (
 .g [oM 12 4, oBi 13 .add 12 1, oM 4 13])))
def e35x0 : Exits := [((.exit 0), [(3, .o 5)])]
noncomputable def l35x0 (T : Table) (k : Nat) := loopN (evalC ⟨T, []⟩ k b35x0 (Ex × List AV)) [0, 3, 4] e35x0
def a35 : AFun := ⟨[.rd], false, [.t 2], (
 .seq (.g [oQ 2 (.mv (.c (.o 5 [])))]) (
 .seq (.g [oM 5 0, oZ 6 5, oQ 7 (.mk [(.v (.string ByteArray.empty)), (.v (.int .i64 0)), (.v (.int .i64 0)), (.s 7 []), (.s 2 [])] 80 (.t 6) (.t 6)), oM 3 7]) (
 .seq (.seq (.g [oK 4 0]) (
 .block 0 (.loop [0, 3, 4] e35x0 b35x0))) (
 .seq (.g [oM 22 3, oM 2 22]) (
 .ret)))))⟩
theorem l35x0s (T : Table) (k n : Nat) (l2 : Rows) (l3 : Rows) (n4 : Int) : l35x0 T k (n + 1) [(.fz 5 l2), (.o 5 l3), (.v (.int .i64 n4))] = (
 bif (decide (n4 < (l2.length : Int))) then (
 tst (decide (0 ≤ n4)) (
 look l2 (Int.toNat n4) fun r5 =>
 cS r5 0 fun s6 =>
 cI .i64 r5 1 fun n7 =>
 cI .i64 r5 2 fun n8 =>
 cL 7 r5 3 fun l9 =>
 cL 2 r5 4 fun l10 =>
 callT T 106 [(.g [(.v (.string s6)), (.v (.int .i64 n7)), (.v (.int .i64 n8)), (.s 7 l9), (.s 2 l10)])] fun o11 =>
 oG o11.res fun r12 =>
 tst (Nat.beq r12.length 5) (
 cS r12 0 fun s13 =>
 cI .i64 r12 1 fun n14 =>
 cI .i64 r12 2 fun n15 =>
 cL 7 r12 3 fun l16 =>
 cL 2 r12 4 fun l17 =>
 tst (decide (0 ≤ n4) && decide (Int.toNat n4 < l3.length)) (
 l35x0 T k n [(.fz 5 l2), (.o 5 (setD (setD (setD (setD (setD (setD (setD l3 (Int.toNat n4) 0 (.v (.string s13))) (Int.toNat n4) 1 (.v (.int .i64 n14))) (Int.toNat n4) 2 (.v (.int .i64 n15))) (Int.toNat n4) 3 hole) (Int.toNat n4) 4 hole) (Int.toNat n4) 4 (.s 2 l17)) (Int.toNat n4) 3 (.s 7 l16))), (.v (.int .i64 (IntKind.wrap .i64 (n4 + 1))))])))) else (
 some ((.exit 0), [(.o 5 l3)]))) := by kernel_rfl
theorem a35q (T : Table) (k : Nat) (l1 : Rows) : evalF T k a35 [(.d (.s 5 l1))] = (
 tst (cutOk (l1.length : Int) (l1.length : Int) maxLen && decide (Int.toNat (l1.length : Int) * 80 ≤ maxBytes)) (
 aft (l35x0 T k k [(.fz 5 l1), (.o 5 (List.replicate (Int.toNat (l1.length : Int)) [(.v (.string ByteArray.empty)), (.v (.int .i64 0)), (.v (.int .i64 0)), (.s 7 []), (.s 2 [])])), (.v (.int .i64 0))]) fun e18 ys19 =>
 bif e18.same (.exit 0) then (
 aV ys19 0 fun x20 =>
 aO 5 x20 fun l21 =>
 some ⟨(.d (.s 5 l21)), []⟩) else (
 none))) := by kernel_rfl
/- loop.example/g00119/laws.toMsg -/

def a107 : AFun := ⟨[.rd], false, [.c 2 true [kI, .s, kI, (.sl 7), (.sl 2)]], (
 .seq (.g [oQ 1 (.box (.t 0)), oQ 2 (.alloc [(.v (.int .i64 0)), (.v (.string ByteArray.empty)), (.v (.int .i64 0)), (.s 7 []), (.s 2 [])])]) (
 .seq (.g [oQ 3 (.alloc [(.v (.int .i64 0)), (.v (.string ByteArray.empty)), (.v (.int .i64 0)), (.s 7 []), (.s 2 [])])]) (
 .seq (.g [oF 4 0 1, oW 5 kI 4, oF 6 0 3, oS (.store 1 (.t 6) (.t 5))]) (
 .seq (.g [oF 7 1 1, oW 8 .s 7, oF 9 1 3, oS (.store 1 (.t 9) (.t 8))]) (
 .seq (.g [oF 10 2 1, oW 11 kI 10, oF 12 2 3, oS (.store 1 (.t 12) (.t 11))]) (
 .seq (.g [oF 13 3 1, oW 14 (.sl 7) 13, oC 15 179 [.c (.sl 7)] [14], oF 16 3 3, oS (.store 1 (.t 16) (.t 15))]) (
 .seq (.g [oF 17 4 1, oW 18 (.sl 2) 17, oC 19 79 [.c (.sl 2)] [18], oF 20 4 3, oS (.store 1 (.t 20) (.t 19))]) (
 .seq (.g [oL 21 [kI, .s, kI, (.sl 7), (.sl 2)] 3, oS (.store 5 (.t 2) (.t 21))]) (
 .ret)))))))))⟩

theorem a107q (T : Table) (k : Nat) (n1 : Int) (s2 : ByteArray) (n3 : Int) (l4 : Rows) (l5 : Rows) : evalF T k a107 [(.g [(.v (.int .i64 n1)), (.v (.string s2)), (.v (.int .i64 n3)), (.s 7 l4), (.s 2 l5)])] = (
 callT T 179 [(.d (.s 7 l4))] fun o6 =>
 oD o6.res fun d7 =>
 dL 7 d7 fun l8 =>
 callT T 79 [(.d (.s 2 l5))] fun o9 =>
 oD o9.res fun d10 =>
 dL 2 d10 fun l11 =>
 some ⟨(.g [(.v (.int .i64 n1)), (.v (.string s2)), (.v (.int .i64 n3)), (.s 7 l8), (.s 2 l11)]), []⟩) := by kernel_rfl
/- loop.example/g00119/laws.toMsgS -/
def b36x0 : ACode := (
 .seq (.seq (.g [oM 8 4, oM 9 0, oZ 10 9, oB 11 .lss 8 10]) (
 .cond (.t 11) (.skip) (.exit 0))) (
 .seq (.block 1 (.g [oM 14 3, oM 15 4, oM 16 0, oM 17 4, oI 18 5 16 17, oL 19 [kI, .s, kI, (.sl 7), (.sl 2)] 18, oC 20 107 [.g [kI, .s, kI, (.sl 7), (.sl 2)]] [19], oI 21 5 14 15, oS (.store 5 (.t 21) (.t 20))])) (
 .g [oM 12 4, oBi 13 .add 12 1, oM 4 13])))
def e36x0 : Exits := [((.exit 0), [(3, .o 5)])]
noncomputable def l36x0 (T : Table) (k : Nat) := loopN (evalC ⟨T, []⟩ k b36x0 (Ex × List AV)) [0, 3, 4] e36x0
def a36 : AFun := ⟨[.rd], false, [.t 2], (
 .seq (.g [oQ 2 (.mv (.c (.o 5 [])))]) (
 .seq (.g [oM 5 0, oZ 6 5, oQ 7 (.mk [(.v (.int .i64 0)), (.v (.string ByteArray.empty)), (.v (.int .i64 0)), (.s 7 []), (.s 2 [])] 80 (.t 6) (.t 6)), oM 3 7]) (
 .seq (.seq (.g [oK 4 0]) (
 .block 0 (.loop [0, 3, 4] e36x0 b36x0))) (
 .seq (.g [oM 22 3, oM 2 22]) (
 .ret)))))⟩
theorem l36x0s (T : Table) (k n : Nat) (l2 : Rows) (l3 : Rows) (n4 : Int) : l36x0 T k (n + 1) [(.fz 5 l2), (.o 5 l3), (.v (.int .i64 n4))] = (
 bif (decide (n4 < (l2.length : Int))) then (
 tst (decide (0 ≤ n4)) (
 look l2 (Int.toNat n4) fun r5 =>
 cI .i64 r5 0 fun n6 =>
 cS r5 1 fun s7 =>
 cI .i64 r5 2 fun n8 =>
 cL 7 r5 3 fun l9 =>
 cL 2 r5 4 fun l10 =>
 callT T 107 [(.g [(.v (.int .i64 n6)), (.v (.string s7)), (.v (.int .i64 n8)), (.s 7 l9), (.s 2 l10)])] fun o11 =>
 oG o11.res fun r12 =>
 tst (Nat.beq r12.length 5) (
 cI .i64 r12 0 fun n13 =>
 cS r12 1 fun s14 =>
 cI .i64 r12 2 fun n15 =>
 cL 7 r12 3 fun l16 =>
 cL 2 r12 4 fun l17 =>
 tst (decide (0 ≤ n4) && decide (Int.toNat n4 < l3.length)) (
 l36x0 T k n [(.fz 5 l2), (.o 5 (setD (setD (setD (setD (setD (setD (setD l3 (Int.toNat n4) 0 (.v (.int .i64 n13))) (Int.toNat n4) 1 (.v (.string s14))) (Int.toNat n4) 2 (.v (.int .i64 n15))) (Int.toNat n4) 3 hole) (Int.toNat n4) 4 hole) (Int.toNat n4) 4 (.s 2 l17)) (Int.toNat n4) 3 (.s 7 l16))), (.v (.int .i64 (IntKind.wrap .i64 (n4 + 1))))])))) else (
 some ((.exit 0), [(.o 5 l3)]))) := by kernel_rfl
theorem a36q (T : Table) (k : Nat) (l1 : Rows) : evalF T k a36 [(.d (.s 5 l1))] = (
 tst (cutOk (l1.length : Int) (l1.length : Int) maxLen && decide (Int.toNat (l1.length : Int) * 80 ≤ maxBytes)) (
 aft (l36x0 T k k [(.fz 5 l1), (.o 5 (List.replicate (Int.toNat (l1.length : Int)) [(.v (.int .i64 0)), (.v (.string ByteArray.empty)), (.v (.int .i64 0)), (.s 7 []), (.s 2 [])])), (.v (.int .i64 0))]) fun e18 ys19 =>
 bif e18.same (.exit 0) then (
 aV ys19 0 fun x20 =>
 aO 5 x20 fun l21 =>
 some ⟨(.d (.s 5 l21)), []⟩) else (
 none))) := by kernel_rfl
/- loop.example/g00119/laws.toFed -/

def a9 : AFun := ⟨[.rd], false, [.c 2 true [kI, kI, kI, (.sl 13), (.sl 6), (.sl 5), (.sl 1), .b, (.sl 1), (.sl 5), (.sl 5), (.sl 1)]], (
 .seq (.g [oQ 1 (.box (.t 0)), oQ 2 (.alloc [(.v (.int .i64 0)), (.v (.int .i64 0)), (.v (.int .i64 0)), (.s 13 []), (.s 6 []), (.s 5 []), (.s 1 []), (.v (.bool false)), (.s 1 []), (.s 5 []), (.s 5 []), (.s 1 [])])]) (
 .seq (.g [oQ 3 (.alloc [(.v (.int .i64 0)), (.v (.int .i64 0)), (.v (.int .i64 0)), (.s 13 []), (.s 6 []), (.s 5 []), (.s 1 []), (.v (.bool false)), (.s 1 []), (.s 5 []), (.s 5 []), (.s 1 [])])]) (
 .seq (.g [oF 4 0 1, oL 5 [kI, kI, kI, (.sl 13), (.sl 6), (.sl 5), (.sl 1)] 4, oC 6 14 [.g [kI, kI, kI, (.sl 13), (.sl 6), (.sl 5), (.sl 1)]] [5], oF 7 0 3, oS (.store 7 (.t 7) (.t 6))]) (
 .seq (.g [oF 8 7 1, oW 9 .b 8, oF 10 7 3, oS (.store 1 (.t 10) (.t 9))]) (
 .seq (.g [oF 11 8 1, oW 12 (.sl 1) 11, oC 13 34 [.c (.sl 1)] [12], oF 14 8 3, oS (.store 1 (.t 14) (.t 13))]) (
 .seq (.g [oF 15 9 1, oW 16 (.sl 5) 15, oC 17 35 [.c (.sl 5)] [16], oF 18 9 3, oS (.store 1 (.t 18) (.t 17))]) (
 .seq (.g [oF 19 10 1, oW 20 (.sl 5) 19, oC 21 36 [.c (.sl 5)] [20], oF 22 10 3, oS (.store 1 (.t 22) (.t 21))]) (
 .seq (.g [oF 23 11 1, oW 24 (.sl 1) 23, oC 25 37 [.c (.sl 1)] [24], oF 26 11 3, oS (.store 1 (.t 26) (.t 25))]) (
 .seq (.g [oL 27 [kI, kI, kI, (.sl 13), (.sl 6), (.sl 5), (.sl 1), .b, (.sl 1), (.sl 5), (.sl 5), (.sl 1)] 3, oS (.store 12 (.t 2) (.t 27))]) (
 .ret))))))))))⟩

theorem a9q (T : Table) (k : Nat) (n1 : Int) (n2 : Int) (n3 : Int) (l4 : Rows) (l5 : Rows) (l6 : Rows) (l7 : Rows) (b8 : Bool) (l9 : Rows) (l10 : Rows) (l11 : Rows) (l12 : Rows) : evalF T k a9 [(.g [(.v (.int .i64 n1)), (.v (.int .i64 n2)), (.v (.int .i64 n3)), (.s 13 l4), (.s 6 l5), (.s 5 l6), (.s 1 l7), (.v (.bool b8)), (.s 1 l9), (.s 5 l10), (.s 5 l11), (.s 1 l12)])] = (
 callT T 14 [(.g [(.v (.int .i64 n1)), (.v (.int .i64 n2)), (.v (.int .i64 n3)), (.s 13 l4), (.s 6 l5), (.s 5 l6), (.s 1 l7)])] fun o13 =>
 oG o13.res fun r14 =>
 tst (Nat.beq r14.length 7) (
 cI .i64 r14 0 fun n15 =>
 cI .i64 r14 1 fun n16 =>
 cI .i64 r14 2 fun n17 =>
 cL 13 r14 3 fun l18 =>
 cL 6 r14 4 fun l19 =>
 cL 5 r14 5 fun l20 =>
 cL 1 r14 6 fun l21 =>
 callT T 34 [(.d (.s 1 l9))] fun o22 =>
 oD o22.res fun d23 =>
 dL 1 d23 fun l24 =>
 callT T 35 [(.d (.s 5 l10))] fun o25 =>
 oD o25.res fun d26 =>
 dL 5 d26 fun l27 =>
 callT T 36 [(.d (.s 5 l11))] fun o28 =>
 oD o28.res fun d29 =>
 dL 5 d29 fun l30 =>
 callT T 37 [(.d (.s 1 l12))] fun o31 =>
 oD o31.res fun d32 =>
 dL 1 d32 fun l33 =>
 some ⟨(.g [(.v (.int .i64 n15)), (.v (.int .i64 n16)), (.v (.int .i64 n17)), (.s 13 l18), (.s 6 l19), (.s 5 l20), (.s 1 l21), (.v (.bool b8)), (.s 1 l24), (.s 5 l27), (.s 5 l30), (.s 1 l33)]), []⟩)) := by kernel_rfl
/- loop.example/g00119/impl.runOf -/
def b38x0 : ACode := (
 .seq (.g [oB 11 .lss 10 9]) (
 .seq (.cond (.t 11) (.skip) (.exit 0)) (
 .seq (.block 1 (.seq (.g [oI 12 2 8 10, oL 13 [kI, kI] 12, oQ 7 (.alloc [(.v (.int .i64 0)), (.v (.int .i64 0))]), oS (.store 2 (.t 7) (.t 13))]) (
 .seq (.g [oF 14 0 7, oW 15 kI 14, oM 16 1, oB 17 .eql 15 16]) (
 .cond (.t 17) (.seq (.g [oF 18 1 7, oW 19 kI 18, oM 4 19, oV 5 true]) (
 .ret)) (.skip))))) (
 .g [oBi 20 .add 10 1, oM 10 20]))))
def e38x0 : Exits := [(.ret, [(4, .c kI), (5, .c .b)]), ((.exit 0), [])]
noncomputable def l38x0 (T : Table) (k : Nat) := loopN (evalC ⟨T, []⟩ k b38x0 (Ex × List AV)) [1, 8, 9, 10] e38x0
def a38 : AFun := ⟨[.rd, .rd], false, [.t 4, .t 5], (
 .seq (.g [oK 4 0, oV 5 false]) (
 .seq (.seq (.g [oM 8 0, oZ 9 8, oK 10 0]) (
 .block 0 (.loop [1, 8, 9, 10] e38x0 b38x0))) (
 .seq (.g [oK 4 0, oV 5 false]) (
 .ret))))⟩
theorem l38x0s (T : Table) (k n : Nat) (n3 : Int) (l4 : Rows) (n5 : Int) (n6 : Int) : l38x0 T k (n + 1) [(.v (.int .i64 n3)), (.fz 2 l4), (.v (.int .i64 n5)), (.v (.int .i64 n6))] = (
 bif (decide (n6 < n5)) then (
 tst (decide (0 ≤ n6)) (
 look l4 (Int.toNat n6) fun r7 =>
 cI .i64 r7 0 fun n8 =>
 cI .i64 r7 1 fun n9 =>
 bif (n8 == n3) then (
 some (.ret, [(.v (.int .i64 n9)), (.v (.bool true))])) else (
 l38x0 T k n [(.v (.int .i64 n3)), (.fz 2 l4), (.v (.int .i64 n5)), (.v (.int .i64 (IntKind.wrap .i64 (n6 + 1))))]))) else (
 some ((.exit 0), []))) := by kernel_rfl
theorem a38q (T : Table) (k : Nat) (l1 : Rows) (n2 : Int) : evalF T k a38 [(.d (.s 2 l1)), (.d (.v (.int .i64 n2)))] = (
 aft (l38x0 T k k [(.v (.int .i64 n2)), (.fz 2 l1), (.v (.int .i64 (l1.length : Int))), (.v (.int .i64 0))]) fun e10 ys11 =>
 bif e10.same .ret then (
 aV ys11 0 fun x12 =>
 aI .i64 x12 fun n13 =>
 aV ys11 1 fun x14 =>
 aB x14 fun b15 =>
 some ⟨(.t [(.d (.v (.int .i64 n13))), (.d (.v (.bool b15)))]), []⟩) else (
 bif e10.same (.exit 0) then (
 some ⟨(.t [(.d (.v (.int .i64 0))), (.d (.v (.bool false)))]), []⟩) else (
 none))) := by kernel_rfl
/- slices.Index[[]string,string] -/
def b108x0 : ACode := (
 .seq (.g [oB 9 .lss 8 7]) (
 .seq (.cond (.t 9) (.skip) (.exit 0)) (
 .seq (.block 1 (.seq (.g [oM 10 8, oM 5 10]) (
 .seq (.g [oM 11 1, oM 12 0, oM 13 5, oI 14 1 12 13, oW 15 .s 14, oB 16 .eql 11 15]) (
 .cond (.t 16) (.seq (.g [oM 17 5, oM 4 17]) (
 .ret)) (.skip))))) (
 .g [oBi 18 .add 8 1, oM 8 18]))))
def e108x0 : Exits := [(.ret, [(4, .c kI)]), ((.exit 0), [])]
noncomputable def l108x0 (T : Table) (k : Nat) := loopN (evalC ⟨T, []⟩ k b108x0 (Ex × List AV)) [0, 1, 7, 8] e108x0
def a108 : AFun := ⟨[.rd, .rd], false, [.t 4], (
 .seq (.g [oK 4 0]) (
 .seq (.seq (.g [oM 6 0, oZ 7 6, oK 8 0]) (
 .block 0 (.loop [0, 1, 7, 8] e108x0 b108x0))) (
 .seq (.g [oK 4 (-1)]) (
 .ret))))⟩
theorem l108x0s (T : Table) (k n : Nat) (l3 : Rows) (s4 : ByteArray) (n5 : Int) (n6 : Int) : l108x0 T k (n + 1) [(.fz 1 l3), (.v (.string s4)), (.v (.int .i64 n5)), (.v (.int .i64 n6))] = (
 bif (decide (n6 < n5)) then (
 tst (decide (0 ≤ n6)) (
 look l3 (Int.toNat n6) fun r7 =>
 cS r7 0 fun s8 =>
 bif (bytesEq s4 s8) then (
 some (.ret, [(.v (.int .i64 n6))])) else (
 l108x0 T k n [(.fz 1 l3), (.v (.string s4)), (.v (.int .i64 n5)), (.v (.int .i64 (IntKind.wrap .i64 (n6 + 1))))]))) else (
 some ((.exit 0), []))) := by kernel_rfl
theorem a108q (T : Table) (k : Nat) (l1 : Rows) (s2 : ByteArray) : evalF T k a108 [(.d (.s 1 l1)), (.d (.v (.string s2)))] = (
 aft (l108x0 T k k [(.fz 1 l1), (.v (.string s2)), (.v (.int .i64 (l1.length : Int))), (.v (.int .i64 0))]) fun e9 ys10 =>
 bif e9.same .ret then (
 aV ys10 0 fun x11 =>
 aI .i64 x11 fun n12 =>
 some ⟨(.d (.v (.int .i64 n12))), []⟩) else (
 bif e9.same (.exit 0) then (
 some ⟨(.d (.v (.int .i64 (-1)))), []⟩) else (
 none))) := by kernel_rfl
/- slices.Contains[[]string,string] -/

def a39 : AFun := ⟨[.rd, .rd], false, [.t 4], (
 .seq (.g [oV 4 false]) (
 .seq (.g [oM 5 0, oM 6 1, oC 7 108 [.c kI] [5, 6], oBi 8 .geq 7 0, oM 4 8]) (
 .ret)))⟩

theorem a39q (T : Table) (k : Nat) (l1 : Rows) (s2 : ByteArray) : evalF T k a39 [(.d (.s 1 l1)), (.d (.v (.string s2)))] = (
 callT T 108 [(.d (.s 1 l1)), (.d (.v (.string s2)))] fun o3 =>
 oD o3.res fun d4 =>
 dI .i64 d4 fun n5 =>
 some ⟨(.d (.v (.bool (decide (n5 ≥ 0))))), []⟩) := by kernel_rfl
/- loop.example/g00119/impl.Served -/
def b10x0 : ACode := (
 .seq (.g [oB 18 .lss 17 16]) (
 .seq (.cond (.t 18) (.skip) (.exit 0)) (
 .seq (.block 1 (.seq (.g [oI 19 5 15 17, oL 20 [.s, kI, kI, (.sl 7), (.sl 2)] 19, oQ 8 (.alloc [(.v (.string ByteArray.empty)), (.v (.int .i64 0)), (.v (.int .i64 0)), (.s 7 []), (.s 2 [])]), oS (.store 5 (.t 8) (.t 20))]) (
 .seq (.g [oF 22 4 8, oW 23 (.sl 2) 22, oM 24 1, oC 25 38 [.c kI, .c .b] [23, 24], oM 21 25, oX 26 21 0, oX 27 21 1, oM 9 26, oM 10 27]) (
 .seq (.g [oM 28 5, oF 29 0 8, oW 30 .s 29, oC 31 39 [.c .b] [28, 30], oN 32 31]) (
 .cond (.t 32) (.g [oM 33 6, oM 34 9, oB 35 .add 33 34, oM 6 35]) (.skip)))))) (
 .g [oBi 36 .add 17 1, oM 17 36]))))
def e10x0 : Exits := [((.exit 0), [(6, .c kI)])]
noncomputable def l10x0 (T : Table) (k : Nat) := loopN (evalC ⟨T, []⟩ k b10x0 (Ex × List AV)) [1, 5, 6, 15, 16, 17] e10x0
def a10 : AFun := ⟨[.rd, .rd], false, [.t 4], (
 .seq (.g [oQ 2 (.box (.t 0)), oK 4 0]) (
 .seq (.g [oF 11 0 2, oF 12 6 11, oW 13 (.sl 1) 12, oM 5 13]) (
 .seq (.g [oK 6 0]) (
 .seq (.seq (.g [oF 14 9 2, oW 15 (.sl 5) 14, oZ 16 15, oK 17 0]) (
 .block 0 (.loop [1, 5, 6, 15, 16, 17] e10x0 b10x0))) (
 .seq (.g [oM 37 6, oM 4 37]) (
 .ret))))))⟩
theorem l10x0s (T : Table) (k n : Nat) (n14 : Int) (l15 : Rows) (n16 : Int) (l17 : Rows) (n18 : Int) (n19 : Int) : l10x0 T k (n + 1) [(.v (.int .i64 n14)), (.fz 1 l15), (.v (.int .i64 n16)), (.fz 5 l17), (.v (.int .i64 n18)), (.v (.int .i64 n19))] = (
 bif (decide (n19 < n18)) then (
 tst (decide (0 ≤ n19)) (
 look l17 (Int.toNat n19) fun r20 =>
 cS r20 0 fun s21 =>
 cI .i64 r20 1 fun n22 =>
 cI .i64 r20 2 fun n23 =>
 cL 7 r20 3 fun l24 =>
 cL 2 r20 4 fun l25 =>
 callT T 38 [(.d (.s 2 l25)), (.d (.v (.int .i64 n14)))] fun o26 =>
 oT o26.res fun is27 =>
 tst (Nat.beq is27.length 2) (
 nth is27 0 fun i28 =>
 oD i28 fun d29 =>
 dI .i64 d29 fun n30 =>
 nth is27 1 fun i31 =>
 oD i31 fun d32 =>
 dB d32 fun b33 =>
 callT T 39 [(.d (.s 1 l15)), (.d (.v (.string s21)))] fun o34 =>
 oD o34.res fun d35 =>
 dB d35 fun b36 =>
 bif (!b36) then (
 l10x0 T k n [(.v (.int .i64 n14)), (.fz 1 l15), (.v (.int .i64 (IntKind.wrap .i64 (n16 + n30)))), (.fz 5 l17), (.v (.int .i64 n18)), (.v (.int .i64 (IntKind.wrap .i64 (n19 + 1))))]) else (
 l10x0 T k n [(.v (.int .i64 n14)), (.fz 1 l15), (.v (.int .i64 n16)), (.fz 5 l17), (.v (.int .i64 n18)), (.v (.int .i64 (IntKind.wrap .i64 (n19 + 1))))])))) else (
 some ((.exit 0), [(.v (.int .i64 n16))]))) := by kernel_rfl
theorem a10q (T : Table) (k : Nat) (n1 : Int) (n2 : Int) (n3 : Int) (l4 : Rows) (l5 : Rows) (l6 : Rows) (l7 : Rows) (b8 : Bool) (l9 : Rows) (l10 : Rows) (l11 : Rows) (l12 : Rows) (n13 : Int) : evalF T k a10 [(.g [(.v (.int .i64 n1)), (.v (.int .i64 n2)), (.v (.int .i64 n3)), (.s 13 l4), (.s 6 l5), (.s 5 l6), (.s 1 l7), (.v (.bool b8)), (.s 1 l9), (.s 5 l10), (.s 5 l11), (.s 1 l12)]), (.d (.v (.int .i64 n13)))] = (
 aft (l10x0 T k k [(.v (.int .i64 n13)), (.fz 1 l7), (.v (.int .i64 0)), (.fz 5 l10), (.v (.int .i64 (l10.length : Int))), (.v (.int .i64 0))]) fun e37 ys38 =>
 bif e37.same (.exit 0) then (
 aV ys38 0 fun x39 =>
 aI .i64 x39 fun n40 =>
 some ⟨(.d (.v (.int .i64 n40))), []⟩) else (
 none)) := by kernel_rfl
/- loop.example/g00119/laws.eqStringS -/
def b43x0 : ACode := (
 .seq (.seq (.g [oM 11 5, oM 12 0, oZ 13 12, oB 14 .lss 11 13]) (
 .cond (.t 14) (.skip) (.exit 0))) (
 .seq (.block 1 (.seq (.dreg [] [(0, oM 17 0), (0, oM 18 5), (0, oI 19 1 17 18), (0, oW 20 .s 19), (0, oM 21 1), (0, oM 22 5), (0, oI 23 1 21 22), (0, oW 24 .s 23)] [oB 25 .neq 20 24]) (
 .cond (.t 25) (.seq (.g [oV 4 false]) (
 .ret)) (.skip)))) (
 .g [oM 15 5, oBi 16 .add 15 1, oM 5 16])))
def e43x0 : Exits := [(.ret, [(4, .c .b)]), ((.exit 0), [])]
noncomputable def l43x0 (T : Table) (k : Nat) := loopN (evalC ⟨T, []⟩ k b43x0 (Ex × List AV)) [0, 1, 5] e43x0
def a43 : AFun := ⟨[.rd, .rd], false, [.t 4], (
 .seq (.g [oV 4 false]) (
 .seq (.seq (.g [oM 6 0, oZ 7 6, oM 8 1, oZ 9 8, oB 10 .neq 7 9]) (
 .cond (.t 10) (.seq (.g [oV 4 false]) (
 .ret)) (.skip))) (
 .seq (.seq (.g [oK 5 0]) (
 .block 0 (.loop [0, 1, 5] e43x0 b43x0))) (
 .seq (.g [oV 4 true]) (
 .ret)))))⟩
theorem l43x0s (T : Table) (k n : Nat) (l3 : Rows) (l4 : Rows) (n5 : Int) : l43x0 T k (n + 1) [(.fz 1 l3), (.fz 1 l4), (.v (.int .i64 n5))] = (
 bif (decide (n5 < (l3.length : Int))) then (
 tst (decide (0 ≤ n5)) (
 look l3 (Int.toNat n5) fun r6 =>
 cS r6 0 fun s7 =>
 tst (decide (0 ≤ n5)) (
 look l4 (Int.toNat n5) fun r8 =>
 cS r8 0 fun s9 =>
 bif (!(bytesEq s7 s9)) then (
 some (.ret, [(.v (.bool false))])) else (
 l43x0 T k n [(.fz 1 l3), (.fz 1 l4), (.v (.int .i64 (IntKind.wrap .i64 (n5 + 1))))])))) else (
 some ((.exit 0), []))) := by kernel_rfl
theorem a43q (T : Table) (k : Nat) (l1 : Rows) (l2 : Rows) : evalF T k a43 [(.d (.s 1 l1)), (.d (.s 1 l2))] = (
 bif ((l1.length : Int) != (l2.length : Int)) then (
 some ⟨(.d (.v (.bool false))), []⟩) else (
 aft (l43x0 T k k [(.fz 1 l1), (.fz 1 l2), (.v (.int .i64 0))]) fun e10 ys11 =>
 bif e10.same .ret then (
 aV ys11 0 fun x12 =>
 aB x12 fun b13 =>
 some ⟨(.d (.v (.bool b13))), []⟩) else (
 bif e10.same (.exit 0) then (
 some ⟨(.d (.v (.bool true))), []⟩) else (
 none)))) := by kernel_rfl
/- loop.example/g00119/laws.eqTerm -/

def a215 : AFun := ⟨[.rd, .rd], false, [.t 4], (
 .seq (.g [oQ 2 (.box (.t 0)), oQ 3 (.box (.t 1)), oV 4 false]) (
 .seq (.seq (.g [oF 5 0 2, oW 6 kI 5, oF 7 0 3, oW 8 kI 7, oB 9 .neq 6 8]) (
 .cond (.t 9) (.seq (.g [oV 4 false]) (
 .ret)) (.skip))) (
 .seq (.seq (.g [oF 10 1 2, oW 11 .s 10, oF 12 1 3, oW 13 .s 12, oB 14 .neq 11 13]) (
 .cond (.t 14) (.seq (.g [oV 4 false]) (
 .ret)) (.skip))) (
 .seq (.seq (.g [oF 15 2 2, oW 16 (.sl 1) 15, oF 17 2 3, oW 18 (.sl 1) 17, oC 19 43 [.c .b] [16, 18], oN 20 19]) (
 .cond (.t 20) (.seq (.g [oV 4 false]) (
 .ret)) (.skip))) (
 .seq (.g [oV 4 true]) (
 .ret))))))⟩

theorem a215q (T : Table) (k : Nat) (n1 : Int) (s2 : ByteArray) (l3 : Rows) (n4 : Int) (s5 : ByteArray) (l6 : Rows) : evalF T k a215 [(.g [(.v (.int .i64 n1)), (.v (.string s2)), (.s 1 l3)]), (.g [(.v (.int .i64 n4)), (.v (.string s5)), (.s 1 l6)])] = (
 bif (n1 != n4) then (
 some ⟨(.d (.v (.bool false))), []⟩) else (
 bif (!(bytesEq s2 s5)) then (
 some ⟨(.d (.v (.bool false))), []⟩) else (
 callT T 43 [(.d (.s 1 l3)), (.d (.s 1 l6))] fun o7 =>
 oD o7.res fun d8 =>
 dB d8 fun b9 =>
 bif (!b9) then (
 some ⟨(.d (.v (.bool false))), []⟩) else (
 some ⟨(.d (.v (.bool true))), []⟩)))) := by kernel_rfl
/- loop.example/g00119/laws.eqTermS -/
def b157x0 : ACode := (
 .seq (.seq (.g [oM 11 5, oM 12 0, oZ 13 12, oB 14 .lss 11 13]) (
 .cond (.t 14) (.skip) (.exit 0))) (
 .seq (.block 1 (.seq (.dreg [] [(0, oM 17 0), (0, oM 18 5), (0, oI 19 3 17 18), (0, oL 20 [kI, .s, (.sl 1)] 19), (0, oM 21 1), (0, oM 22 5), (0, oI 23 3 21 22), (0, oL 24 [kI, .s, (.sl 1)] 23)] [oC 25 215 [.c .b] [20, 24], oN 26 25]) (
 .cond (.t 26) (.seq (.g [oV 4 false]) (
 .ret)) (.skip)))) (
 .g [oM 15 5, oBi 16 .add 15 1, oM 5 16])))
def e157x0 : Exits := [(.ret, [(4, .c .b)]), ((.exit 0), [])]
noncomputable def l157x0 (T : Table) (k : Nat) := loopN (evalC ⟨T, []⟩ k b157x0 (Ex × List AV)) [0, 1, 5] e157x0
def a157 : AFun := ⟨[.rd, .rd], false, [.t 4], (
 .seq (.g [oV 4 false]) (
 .seq (.seq (.g [oM 6 0, oZ 7 6, oM 8 1, oZ 9 8, oB 10 .neq 7 9]) (
 .cond (.t 10) (.seq (.g [oV 4 false]) (
 .ret)) (.skip))) (
 .seq (.seq (.g [oK 5 0]) (
 .block 0 (.loop [0, 1, 5] e157x0 b157x0))) (
 .seq (.g [oV 4 true]) (
 .ret)))))⟩
theorem l157x0s (T : Table) (k n : Nat) (l3 : Rows) (l4 : Rows) (n5 : Int) : l157x0 T k (n + 1) [(.fz 3 l3), (.fz 3 l4), (.v (.int .i64 n5))] = (
 bif (decide (n5 < (l3.length : Int))) then (
 tst (decide (0 ≤ n5)) (
 look l3 (Int.toNat n5) fun r6 =>
 cI .i64 r6 0 fun n7 =>
 cS r6 1 fun s8 =>
 cL 1 r6 2 fun l9 =>
 tst (decide (0 ≤ n5)) (
 look l4 (Int.toNat n5) fun r10 =>
 cI .i64 r10 0 fun n11 =>
 cS r10 1 fun s12 =>
 cL 1 r10 2 fun l13 =>
 callT T 215 [(.g [(.v (.int .i64 n7)), (.v (.string s8)), (.s 1 l9)]), (.g [(.v (.int .i64 n11)), (.v (.string s12)), (.s 1 l13)])] fun o14 =>
 oD o14.res fun d15 =>
 dB d15 fun b16 =>
 bif (!b16) then (
 some (.ret, [(.v (.bool false))])) else (
 l157x0 T k n [(.fz 3 l3), (.fz 3 l4), (.v (.int .i64 (IntKind.wrap .i64 (n5 + 1))))])))) else (
 some ((.exit 0), []))) := by kernel_rfl
theorem a157q (T : Table) (k : Nat) (l1 : Rows) (l2 : Rows) : evalF T k a157 [(.d (.s 3 l1)), (.d (.s 3 l2))] = (
 bif ((l1.length : Int) != (l2.length : Int)) then (
 some ⟨(.d (.v (.bool false))), []⟩) else (
 aft (l157x0 T k k [(.fz 3 l1), (.fz 3 l2), (.v (.int .i64 0))]) fun e17 ys18 =>
 bif e17.same .ret then (
 aV ys18 0 fun x19 =>
 aB x19 fun b20 =>
 some ⟨(.d (.v (.bool b20))), []⟩) else (
 bif e17.same (.exit 0) then (
 some ⟨(.d (.v (.bool true))), []⟩) else (
 none)))) := by kernel_rfl
/- loop.example/g00119/laws.eqWeigh -/

def a216 : AFun := ⟨[.rd, .rd], false, [.t 4], (
 .seq (.g [oQ 2 (.box (.t 0)), oQ 3 (.box (.t 1)), oV 4 false]) (
 .seq (.seq (.g [oF 5 0 2, oW 6 .s 5, oF 7 0 3, oW 8 .s 7, oB 9 .neq 6 8]) (
 .cond (.t 9) (.seq (.g [oV 4 false]) (
 .ret)) (.skip))) (
 .seq (.seq (.g [oF 10 1 2, oW 11 kI 10, oF 12 1 3, oW 13 kI 12, oB 14 .neq 11 13]) (
 .cond (.t 14) (.seq (.g [oV 4 false]) (
 .ret)) (.skip))) (
 .seq (.g [oV 4 true]) (
 .ret)))))⟩

theorem a216q (T : Table) (k : Nat) (s1 : ByteArray) (n2 : Int) (s3 : ByteArray) (n4 : Int) : evalF T k a216 [(.g [(.v (.string s1)), (.v (.int .i64 n2))]), (.g [(.v (.string s3)), (.v (.int .i64 n4))])] = (
 bif (!(bytesEq s1 s3)) then (
 some ⟨(.d (.v (.bool false))), []⟩) else (
 bif (n2 != n4) then (
 some ⟨(.d (.v (.bool false))), []⟩) else (
 some ⟨(.d (.v (.bool true))), []⟩))) := by kernel_rfl
/- loop.example/g00119/laws.eqWeighS -/
def b158x0 : ACode := (
 .seq (.seq (.g [oM 11 5, oM 12 0, oZ 13 12, oB 14 .lss 11 13]) (
 .cond (.t 14) (.skip) (.exit 0))) (
 .seq (.block 1 (.seq (.dreg [] [(0, oM 17 0), (0, oM 18 5), (0, oI 19 2 17 18), (0, oL 20 [.s, kI] 19), (0, oM 21 1), (0, oM 22 5), (0, oI 23 2 21 22), (0, oL 24 [.s, kI] 23)] [oC 25 216 [.c .b] [20, 24], oN 26 25]) (
 .cond (.t 26) (.seq (.g [oV 4 false]) (
 .ret)) (.skip)))) (
 .g [oM 15 5, oBi 16 .add 15 1, oM 5 16])))
def e158x0 : Exits := [(.ret, [(4, .c .b)]), ((.exit 0), [])]
noncomputable def l158x0 (T : Table) (k : Nat) := loopN (evalC ⟨T, []⟩ k b158x0 (Ex × List AV)) [0, 1, 5] e158x0
def a158 : AFun := ⟨[.rd, .rd], false, [.t 4], (
 .seq (.g [oV 4 false]) (
 .seq (.seq (.g [oM 6 0, oZ 7 6, oM 8 1, oZ 9 8, oB 10 .neq 7 9]) (
 .cond (.t 10) (.seq (.g [oV 4 false]) (
 .ret)) (.skip))) (
 .seq (.seq (.g [oK 5 0]) (
 .block 0 (.loop [0, 1, 5] e158x0 b158x0))) (
 .seq (.g [oV 4 true]) (
 .ret)))))⟩
theorem l158x0s (T : Table) (k n : Nat) (l3 : Rows) (l4 : Rows) (n5 : Int) : l158x0 T k (n + 1) [(.fz 2 l3), (.fz 2 l4), (.v (.int .i64 n5))] = (
 bif (decide (n5 < (l3.length : Int))) then (
 tst (decide (0 ≤ n5)) (
 look l3 (Int.toNat n5) fun r6 =>
 cS r6 0 fun s7 =>
 cI .i64 r6 1 fun n8 =>
 tst (decide (0 ≤ n5)) (
 look l4 (Int.toNat n5) fun r9 =>
 cS r9 0 fun s10 =>
 cI .i64 r9 1 fun n11 =>
 callT T 216 [(.g [(.v (.string s7)), (.v (.int .i64 n8))]), (.g [(.v (.string s10)), (.v (.int .i64 n11))])] fun o12 =>
 oD o12.res fun d13 =>
 dB d13 fun b14 =>
 bif (!b14) then (
 some (.ret, [(.v (.bool false))])) else (
 l158x0 T k n [(.fz 2 l3), (.fz 2 l4), (.v (.int .i64 (IntKind.wrap .i64 (n5 + 1))))])))) else (
 some ((.exit 0), []))) := by kernel_rfl
theorem a158q (T : Table) (k : Nat) (l1 : Rows) (l2 : Rows) : evalF T k a158 [(.d (.s 2 l1)), (.d (.s 2 l2))] = (
 bif ((l1.length : Int) != (l2.length : Int)) then (
 some ⟨(.d (.v (.bool false))), []⟩) else (
 aft (l158x0 T k k [(.fz 2 l1), (.fz 2 l2), (.v (.int .i64 0))]) fun e15 ys16 =>
 bif e15.same .ret then (
 aV ys16 0 fun x17 =>
 aB x17 fun b18 =>
 some ⟨(.d (.v (.bool b18))), []⟩) else (
 bif e15.same (.exit 0) then (
 some ⟨(.d (.v (.bool true))), []⟩) else (
 none)))) := by kernel_rfl
/- loop.example/g00119/laws.eqWant -/

def a89 : AFun := ⟨[.rd, .rd], false, [.t 4], (
 .seq (.g [oQ 2 (.box (.t 0)), oQ 3 (.box (.t 1)), oV 4 false]) (
 .seq (.seq (.g [oF 5 0 2, oW 6 kI 5, oF 7 0 3, oW 8 kI 7, oB 9 .neq 6 8]) (
 .cond (.t 9) (.seq (.g [oV 4 false]) (
 .ret)) (.skip))) (
 .seq (.seq (.g [oF 10 1 2, oW 11 (.sl 3) 10, oF 12 1 3, oW 13 (.sl 3) 12, oC 14 157 [.c .b] [11, 13], oN 15 14]) (
 .cond (.t 15) (.seq (.g [oV 4 false]) (
 .ret)) (.skip))) (
 .seq (.seq (.g [oF 16 2 2, oW 17 (.sl 1) 16, oF 18 2 3, oW 19 (.sl 1) 18, oC 20 43 [.c .b] [17, 19], oN 21 20]) (
 .cond (.t 21) (.seq (.g [oV 4 false]) (
 .ret)) (.skip))) (
 .seq (.seq (.g [oF 22 3 2, oW 23 (.sl 2) 22, oF 24 3 3, oW 25 (.sl 2) 24, oC 26 158 [.c .b] [23, 25], oN 27 26]) (
 .cond (.t 27) (.seq (.g [oV 4 false]) (
 .ret)) (.skip))) (
 .seq (.g [oV 4 true]) (
 .ret)))))))⟩

theorem a89q (T : Table) (k : Nat) (n1 : Int) (l2 : Rows) (l3 : Rows) (l4 : Rows) (n5 : Int) (l6 : Rows) (l7 : Rows) (l8 : Rows) : evalF T k a89 [(.g [(.v (.int .i64 n1)), (.s 3 l2), (.s 1 l3), (.s 2 l4)]), (.g [(.v (.int .i64 n5)), (.s 3 l6), (.s 1 l7), (.s 2 l8)])] = (
 bif (n1 != n5) then (
 some ⟨(.d (.v (.bool false))), []⟩) else (
 callT T 157 [(.d (.s 3 l2)), (.d (.s 3 l6))] fun o9 =>
 oD o9.res fun d10 =>
 dB d10 fun b11 =>
 bif (!b11) then (
 some ⟨(.d (.v (.bool false))), []⟩) else (
 callT T 43 [(.d (.s 1 l3)), (.d (.s 1 l7))] fun o12 =>
 oD o12.res fun d13 =>
 dB d13 fun b14 =>
 bif (!b14) then (
 some ⟨(.d (.v (.bool false))), []⟩) else (
 callT T 158 [(.d (.s 2 l4)), (.d (.s 2 l8))] fun o15 =>
 oD o15.res fun d16 =>
 dB d16 fun b17 =>
 bif (!b17) then (
 some ⟨(.d (.v (.bool false))), []⟩) else (
 some ⟨(.d (.v (.bool true))), []⟩))))) := by kernel_rfl
/- loop.example/g00119/laws.eqValueS -/
def b159x0 : ACode := (
 .seq (.seq (.g [oM 11 5, oM 12 0, oZ 13 12, oB 14 .lss 11 13]) (
 .cond (.t 14) (.skip) (.exit 0))) (
 .seq (.block 1 (.seq (.dreg [] [(0, oM 17 0), (0, oM 18 5), (0, oI 19 5 17 18), (0, oL 20 [kI, .s, kI, (.sl 1), (.sl 5)] 19), (0, oM 21 1), (0, oM 22 5), (0, oI 23 5 21 22), (0, oL 24 [kI, .s, kI, (.sl 1), (.sl 5)] 23)] [oC 25 90 [.c .b] [20, 24], oN 26 25]) (
 .cond (.t 26) (.seq (.g [oV 4 false]) (
 .ret)) (.skip)))) (
 .g [oM 15 5, oBi 16 .add 15 1, oM 5 16])))
def e159x0 : Exits := [(.ret, [(4, .c .b)]), ((.exit 0), [])]
noncomputable def l159x0 (T : Table) (k : Nat) := loopN (evalC ⟨T, []⟩ k b159x0 (Ex × List AV)) [0, 1, 5] e159x0
def a159 : AFun := ⟨[.rd, .rd], false, [.t 4], (
 .seq (.g [oV 4 false]) (
 .seq (.seq (.g [oM 6 0, oZ 7 6, oM 8 1, oZ 9 8, oB 10 .neq 7 9]) (
 .cond (.t 10) (.seq (.g [oV 4 false]) (
 .ret)) (.skip))) (
 .seq (.seq (.g [oK 5 0]) (
 .block 0 (.loop [0, 1, 5] e159x0 b159x0))) (
 .seq (.g [oV 4 true]) (
 .ret)))))⟩
theorem l159x0s (T : Table) (k n : Nat) (l3 : Rows) (l4 : Rows) (n5 : Int) : l159x0 T k (n + 1) [(.fz 5 l3), (.fz 5 l4), (.v (.int .i64 n5))] = (
 bif (decide (n5 < (l3.length : Int))) then (
 tst (decide (0 ≤ n5)) (
 look l3 (Int.toNat n5) fun r6 =>
 cI .i64 r6 0 fun n7 =>
 cS r6 1 fun s8 =>
 cI .i64 r6 2 fun n9 =>
 cL 1 r6 3 fun l10 =>
 cL 5 r6 4 fun l11 =>
 tst (decide (0 ≤ n5)) (
 look l4 (Int.toNat n5) fun r12 =>
 cI .i64 r12 0 fun n13 =>
 cS r12 1 fun s14 =>
 cI .i64 r12 2 fun n15 =>
 cL 1 r12 3 fun l16 =>
 cL 5 r12 4 fun l17 =>
 callT T 90 [(.g [(.v (.int .i64 n7)), (.v (.string s8)), (.v (.int .i64 n9)), (.s 1 l10), (.s 5 l11)]), (.g [(.v (.int .i64 n13)), (.v (.string s14)), (.v (.int .i64 n15)), (.s 1 l16), (.s 5 l17)])] fun o18 =>
 oD o18.res fun d19 =>
 dB d19 fun b20 =>
 bif (!b20) then (
 some (.ret, [(.v (.bool false))])) else (
 l159x0 T k n [(.fz 5 l3), (.fz 5 l4), (.v (.int .i64 (IntKind.wrap .i64 (n5 + 1))))])))) else (
 some ((.exit 0), []))) := by kernel_rfl
theorem a159q (T : Table) (k : Nat) (l1 : Rows) (l2 : Rows) : evalF T k a159 [(.d (.s 5 l1)), (.d (.s 5 l2))] = (
 bif ((l1.length : Int) != (l2.length : Int)) then (
 some ⟨(.d (.v (.bool false))), []⟩) else (
 aft (l159x0 T k k [(.fz 5 l1), (.fz 5 l2), (.v (.int .i64 0))]) fun e21 ys22 =>
 bif e21.same .ret then (
 aV ys22 0 fun x23 =>
 aB x23 fun b24 =>
 some ⟨(.d (.v (.bool b24))), []⟩) else (
 bif e21.same (.exit 0) then (
 some ⟨(.d (.v (.bool true))), []⟩) else (
 none)))) := by kernel_rfl
/- loop.example/g00119/laws.eqValue -/

def a90 : AFun := ⟨[.rd, .rd], false, [.t 4], (
 .seq (.g [oQ 2 (.box (.t 0)), oQ 3 (.box (.t 1)), oV 4 false]) (
 .seq (.seq (.g [oF 5 0 2, oW 6 kI 5, oF 7 0 3, oW 8 kI 7, oB 9 .neq 6 8]) (
 .cond (.t 9) (.seq (.g [oV 4 false]) (
 .ret)) (.skip))) (
 .seq (.seq (.g [oF 10 1 2, oW 11 .s 10, oF 12 1 3, oW 13 .s 12, oB 14 .neq 11 13]) (
 .cond (.t 14) (.seq (.g [oV 4 false]) (
 .ret)) (.skip))) (
 .seq (.seq (.g [oF 15 2 2, oW 16 kI 15, oF 17 2 3, oW 18 kI 17, oB 19 .neq 16 18]) (
 .cond (.t 19) (.seq (.g [oV 4 false]) (
 .ret)) (.skip))) (
 .seq (.seq (.g [oF 20 3 2, oW 21 (.sl 1) 20, oF 22 3 3, oW 23 (.sl 1) 22, oC 24 43 [.c .b] [21, 23], oN 25 24]) (
 .cond (.t 25) (.seq (.g [oV 4 false]) (
 .ret)) (.skip))) (
 .seq (.seq (.g [oF 26 4 2, oW 27 (.sl 5) 26, oF 28 4 3, oW 29 (.sl 5) 28, oC 30 159 [.c .b] [27, 29], oN 31 30]) (
 .cond (.t 31) (.seq (.g [oV 4 false]) (
 .ret)) (.skip))) (
 .seq (.g [oV 4 true]) (
 .ret))))))))⟩

theorem a90q (T : Table) (k : Nat) (n1 : Int) (s2 : ByteArray) (n3 : Int) (l4 : Rows) (l5 : Rows) (n6 : Int) (s7 : ByteArray) (n8 : Int) (l9 : Rows) (l10 : Rows) : evalF T k a90 [(.g [(.v (.int .i64 n1)), (.v (.string s2)), (.v (.int .i64 n3)), (.s 1 l4), (.s 5 l5)]), (.g [(.v (.int .i64 n6)), (.v (.string s7)), (.v (.int .i64 n8)), (.s 1 l9), (.s 5 l10)])] = (
 bif (n1 != n6) then (
 some ⟨(.d (.v (.bool false))), []⟩) else (
 bif (!(bytesEq s2 s7)) then (
 some ⟨(.d (.v (.bool false))), []⟩) else (
 bif (n3 != n8) then (
 some ⟨(.d (.v (.bool false))), []⟩) else (
 callT T 43 [(.d (.s 1 l4)), (.d (.s 1 l9))] fun o11 =>
 oD o11.res fun d12 =>
 dB d12 fun b13 =>
 bif (!b13) then (
 some ⟨(.d (.v (.bool false))), []⟩) else (
 callT T 159 [(.d (.s 5 l5)), (.d (.s 5 l10))] fun o14 =>
 oD o14.res fun d15 =>
 dB d15 fun b16 =>
 bif (!b16) then (
 some ⟨(.d (.v (.bool false))), []⟩) else (
 some ⟨(.d (.v (.bool true))), []⟩)))))) := by kernel_rfl
/- loop.example/g00119/laws.eqOp -/

def a248 : AFun := ⟨[.rd, .rd], false, [.t 4], (
 .seq (.g [oQ 2 (.box (.t 0)), oQ 3 (.box (.t 1)), oV 4 false]) (
 .seq (.seq (.g [oF 5 0 2, oW 6 kI 5, oF 7 0 3, oW 8 kI 7, oB 9 .neq 6 8]) (
 .cond (.t 9) (.seq (.g [oV 4 false]) (
 .ret)) (.skip))) (
 .seq (.seq (.g [oF 10 1 2, oW 11 (.sl 1) 10, oF 12 1 3, oW 13 (.sl 1) 12, oC 14 43 [.c .b] [11, 13], oN 15 14]) (
 .cond (.t 15) (.seq (.g [oV 4 false]) (
 .ret)) (.skip))) (
 .seq (.seq (.g [oF 16 2 2, oL 17 [kI, .s, kI, (.sl 1), (.sl 5)] 16, oF 18 2 3, oL 19 [kI, .s, kI, (.sl 1), (.sl 5)] 18, oC 20 90 [.c .b] [17, 19], oN 21 20]) (
 .cond (.t 21) (.seq (.g [oV 4 false]) (
 .ret)) (.skip))) (
 .seq (.g [oV 4 true]) (
 .ret))))))⟩

theorem a248q (T : Table) (k : Nat) (n1 : Int) (l2 : Rows) (n3 : Int) (s4 : ByteArray) (n5 : Int) (l6 : Rows) (l7 : Rows) (n8 : Int) (l9 : Rows) (n10 : Int) (s11 : ByteArray) (n12 : Int) (l13 : Rows) (l14 : Rows) : evalF T k a248 [(.g [(.v (.int .i64 n1)), (.s 1 l2), (.v (.int .i64 n3)), (.v (.string s4)), (.v (.int .i64 n5)), (.s 1 l6), (.s 5 l7)]), (.g [(.v (.int .i64 n8)), (.s 1 l9), (.v (.int .i64 n10)), (.v (.string s11)), (.v (.int .i64 n12)), (.s 1 l13), (.s 5 l14)])] = (
 bif (n1 != n8) then (
 some ⟨(.d (.v (.bool false))), []⟩) else (
 callT T 43 [(.d (.s 1 l2)), (.d (.s 1 l9))] fun o15 =>
 oD o15.res fun d16 =>
 dB d16 fun b17 =>
 bif (!b17) then (
 some ⟨(.d (.v (.bool false))), []⟩) else (
 callT T 90 [(.g [(.v (.int .i64 n3)), (.v (.string s4)), (.v (.int .i64 n5)), (.s 1 l6), (.s 5 l7)]), (.g [(.v (.int .i64 n10)), (.v (.string s11)), (.v (.int .i64 n12)), (.s 1 l13), (.s 5 l14)])] fun o18 =>
 oD o18.res fun d19 =>
 dB d19 fun b20 =>
 bif (!b20) then (
 some ⟨(.d (.v (.bool false))), []⟩) else (
 some ⟨(.d (.v (.bool true))), []⟩)))) := by kernel_rfl
/- loop.example/g00119/laws.eqOpS -/
def b217x0 : ACode := (
 .seq (.seq (.g [oM 11 5, oM 12 0, oZ 13 12, oB 14 .lss 11 13]) (
 .cond (.t 14) (.skip) (.exit 0))) (
 .seq (.block 1 (.seq (.dreg [] [(0, oM 17 0), (0, oM 18 5), (0, oI 19 7 17 18), (0, oL 20 [kI, (.sl 1), kI, .s, kI, (.sl 1), (.sl 5)] 19), (0, oM 21 1), (0, oM 22 5), (0, oI 23 7 21 22), (0, oL 24 [kI, (.sl 1), kI, .s, kI, (.sl 1), (.sl 5)] 23)] [oC 25 248 [.c .b] [20, 24], oN 26 25]) (
 .cond (.t 26) (.seq (.g [oV 4 false]) (
 .ret)) (.skip)))) (
 .g [oM 15 5, oBi 16 .add 15 1, oM 5 16])))
def e217x0 : Exits := [(.ret, [(4, .c .b)]), ((.exit 0), [])]
noncomputable def l217x0 (T : Table) (k : Nat) := loopN (evalC ⟨T, []⟩ k b217x0 (Ex × List AV)) [0, 1, 5] e217x0
def a217 : AFun := ⟨[.rd, .rd], false, [.t 4], (
 .seq (.g [oV 4 false]) (
 .seq (.seq (.g [oM 6 0, oZ 7 6, oM 8 1, oZ 9 8, oB 10 .neq 7 9]) (
 .cond (.t 10) (.seq (.g [oV 4 false]) (
 .ret)) (.skip))) (
 .seq (.seq (.g [oK 5 0]) (
 .block 0 (.loop [0, 1, 5] e217x0 b217x0))) (
 .seq (.g [oV 4 true]) (
 .ret)))))⟩
theorem l217x0s (T : Table) (k n : Nat) (l3 : Rows) (l4 : Rows) (n5 : Int) : l217x0 T k (n + 1) [(.fz 7 l3), (.fz 7 l4), (.v (.int .i64 n5))] = (
 bif (decide (n5 < (l3.length : Int))) then (
 tst (decide (0 ≤ n5)) (
 look l3 (Int.toNat n5) fun r6 =>
 cI .i64 r6 0 fun n7 =>
 cL 1 r6 1 fun l8 =>
 cI .i64 r6 2 fun n9 =>
 cS r6 3 fun s10 =>
 cI .i64 r6 4 fun n11 =>
 cL 1 r6 5 fun l12 =>
 cL 5 r6 6 fun l13 =>
 tst (decide (0 ≤ n5)) (
 look l4 (Int.toNat n5) fun r14 =>
 cI .i64 r14 0 fun n15 =>
 cL 1 r14 1 fun l16 =>
 cI .i64 r14 2 fun n17 =>
 cS r14 3 fun s18 =>
 cI .i64 r14 4 fun n19 =>
 cL 1 r14 5 fun l20 =>
 cL 5 r14 6 fun l21 =>
 callT T 248 [(.g [(.v (.int .i64 n7)), (.s 1 l8), (.v (.int .i64 n9)), (.v (.string s10)), (.v (.int .i64 n11)), (.s 1 l12), (.s 5 l13)]), (.g [(.v (.int .i64 n15)), (.s 1 l16), (.v (.int .i64 n17)), (.v (.string s18)), (.v (.int .i64 n19)), (.s 1 l20), (.s 5 l21)])] fun o22 =>
 oD o22.res fun d23 =>
 dB d23 fun b24 =>
 bif (!b24) then (
 some (.ret, [(.v (.bool false))])) else (
 l217x0 T k n [(.fz 7 l3), (.fz 7 l4), (.v (.int .i64 (IntKind.wrap .i64 (n5 + 1))))])))) else (
 some ((.exit 0), []))) := by kernel_rfl
theorem a217q (T : Table) (k : Nat) (l1 : Rows) (l2 : Rows) : evalF T k a217 [(.d (.s 7 l1)), (.d (.s 7 l2))] = (
 bif ((l1.length : Int) != (l2.length : Int)) then (
 some ⟨(.d (.v (.bool false))), []⟩) else (
 aft (l217x0 T k k [(.fz 7 l1), (.fz 7 l2), (.v (.int .i64 0))]) fun e25 ys26 =>
 bif e25.same .ret then (
 aV ys26 0 fun x27 =>
 aB x27 fun b28 =>
 some ⟨(.d (.v (.bool b28))), []⟩) else (
 bif e25.same (.exit 0) then (
 some ⟨(.d (.v (.bool true))), []⟩) else (
 none)))) := by kernel_rfl
/- loop.example/g00119/laws.eqOver -/

def a160 : AFun := ⟨[.rd, .rd], false, [.t 4], (
 .seq (.g [oQ 2 (.box (.t 0)), oQ 3 (.box (.t 1)), oV 4 false]) (
 .seq (.seq (.g [oF 5 0 2, oW 6 .s 5, oF 7 0 3, oW 8 .s 7, oB 9 .neq 6 8]) (
 .cond (.t 9) (.seq (.g [oV 4 false]) (
 .ret)) (.skip))) (
 .seq (.seq (.g [oF 10 1 2, oW 11 (.sl 7) 10, oF 12 1 3, oW 13 (.sl 7) 12, oC 14 217 [.c .b] [11, 13], oN 15 14]) (
 .cond (.t 15) (.seq (.g [oV 4 false]) (
 .ret)) (.skip))) (
 .seq (.g [oV 4 true]) (
 .ret)))))⟩

theorem a160q (T : Table) (k : Nat) (s1 : ByteArray) (l2 : Rows) (s3 : ByteArray) (l4 : Rows) : evalF T k a160 [(.g [(.v (.string s1)), (.s 7 l2)]), (.g [(.v (.string s3)), (.s 7 l4)])] = (
 bif (!(bytesEq s1 s3)) then (
 some ⟨(.d (.v (.bool false))), []⟩) else (
 callT T 217 [(.d (.s 7 l2)), (.d (.s 7 l4))] fun o5 =>
 oD o5.res fun d6 =>
 dB d6 fun b7 =>
 bif (!b7) then (
 some ⟨(.d (.v (.bool false))), []⟩) else (
 some ⟨(.d (.v (.bool true))), []⟩))) := by kernel_rfl
/- loop.example/g00119/laws.eqOverS -/
def b91x0 : ACode := (
 .seq (.seq (.g [oM 11 5, oM 12 0, oZ 13 12, oB 14 .lss 11 13]) (
 .cond (.t 14) (.skip) (.exit 0))) (
 .seq (.block 1 (.seq (.dreg [] [(0, oM 17 0), (0, oM 18 5), (0, oI 19 2 17 18), (0, oL 20 [.s, (.sl 7)] 19), (0, oM 21 1), (0, oM 22 5), (0, oI 23 2 21 22), (0, oL 24 [.s, (.sl 7)] 23)] [oC 25 160 [.c .b] [20, 24], oN 26 25]) (
 .cond (.t 26) (.seq (.g [oV 4 false]) (
 .ret)) (.skip)))) (
 .g [oM 15 5, oBi 16 .add 15 1, oM 5 16])))
def e91x0 : Exits := [(.ret, [(4, .c .b)]), ((.exit 0), [])]
noncomputable def l91x0 (T : Table) (k : Nat) := loopN (evalC ⟨T, []⟩ k b91x0 (Ex × List AV)) [0, 1, 5] e91x0
def a91 : AFun := ⟨[.rd, .rd], false, [.t 4], (
 .seq (.g [oV 4 false]) (
 .seq (.seq (.g [oM 6 0, oZ 7 6, oM 8 1, oZ 9 8, oB 10 .neq 7 9]) (
 .cond (.t 10) (.seq (.g [oV 4 false]) (
 .ret)) (.skip))) (
 .seq (.seq (.g [oK 5 0]) (
 .block 0 (.loop [0, 1, 5] e91x0 b91x0))) (
 .seq (.g [oV 4 true]) (
 .ret)))))⟩
theorem l91x0s (T : Table) (k n : Nat) (l3 : Rows) (l4 : Rows) (n5 : Int) : l91x0 T k (n + 1) [(.fz 2 l3), (.fz 2 l4), (.v (.int .i64 n5))] = (
 bif (decide (n5 < (l3.length : Int))) then (
 tst (decide (0 ≤ n5)) (
 look l3 (Int.toNat n5) fun r6 =>
 cS r6 0 fun s7 =>
 cL 7 r6 1 fun l8 =>
 tst (decide (0 ≤ n5)) (
 look l4 (Int.toNat n5) fun r9 =>
 cS r9 0 fun s10 =>
 cL 7 r9 1 fun l11 =>
 callT T 160 [(.g [(.v (.string s7)), (.s 7 l8)]), (.g [(.v (.string s10)), (.s 7 l11)])] fun o12 =>
 oD o12.res fun d13 =>
 dB d13 fun b14 =>
 bif (!b14) then (
 some (.ret, [(.v (.bool false))])) else (
 l91x0 T k n [(.fz 2 l3), (.fz 2 l4), (.v (.int .i64 (IntKind.wrap .i64 (n5 + 1))))])))) else (
 some ((.exit 0), []))) := by kernel_rfl
theorem a91q (T : Table) (k : Nat) (l1 : Rows) (l2 : Rows) : evalF T k a91 [(.d (.s 2 l1)), (.d (.s 2 l2))] = (
 bif ((l1.length : Int) != (l2.length : Int)) then (
 some ⟨(.d (.v (.bool false))), []⟩) else (
 aft (l91x0 T k k [(.fz 2 l1), (.fz 2 l2), (.v (.int .i64 0))]) fun e15 ys16 =>
 bif e15.same .ret then (
 aV ys16 0 fun x17 =>
 aB x17 fun b18 =>
 some ⟨(.d (.v (.bool b18))), []⟩) else (
 bif e15.same (.exit 0) then (
 some ⟨(.d (.v (.bool true))), []⟩) else (
 none)))) := by kernel_rfl
/- loop.example/g00119/laws.eqJob -/

def a119 : AFun := ⟨[.rd, .rd], false, [.t 4], (
 .seq (.g [oQ 2 (.box (.t 0)), oQ 3 (.box (.t 1)), oV 4 false]) (
 .seq (.seq (.g [oF 5 0 2, oW 6 kI 5, oF 7 0 3, oW 8 kI 7, oB 9 .neq 6 8]) (
 .cond (.t 9) (.seq (.g [oV 4 false]) (
 .ret)) (.skip))) (
 .seq (.seq (.g [oF 10 1 2, oW 11 .s 10, oF 12 1 3, oW 13 .s 12, oB 14 .neq 11 13]) (
 .cond (.t 14) (.seq (.g [oV 4 false]) (
 .ret)) (.skip))) (
 .seq (.seq (.g [oF 15 2 2, oL 16 [kI, (.sl 3), (.sl 1), (.sl 2)] 15, oF 17 2 3, oL 18 [kI, (.sl 3), (.sl 1), (.sl 2)] 17, oC 19 89 [.c .b] [16, 18], oN 20 19]) (
 .cond (.t 20) (.seq (.g [oV 4 false]) (
 .ret)) (.skip))) (
 .seq (.seq (.g [oF 21 6 2, oL 22 [kI, .s, kI, (.sl 1), (.sl 5)] 21, oF 23 6 3, oL 24 [kI, .s, kI, (.sl 1), (.sl 5)] 23, oC 25 90 [.c .b] [22, 24], oN 26 25]) (
 .cond (.t 26) (.seq (.g [oV 4 false]) (
 .ret)) (.skip))) (
 .seq (.seq (.g [oF 27 11 2, oW 28 (.sl 2) 27, oF 29 11 3, oW 30 (.sl 2) 29, oC 31 91 [.c .b] [28, 30], oN 32 31]) (
 .cond (.t 32) (.seq (.g [oV 4 false]) (
 .ret)) (.skip))) (
 .seq (.seq (.g [oF 33 12 2, oW 34 .b 33, oF 35 12 3, oW 36 .b 35, oQ 37 (.beq true (.t 34) (.t 36))]) (
 .cond (.t 37) (.seq (.g [oV 4 false]) (
 .ret)) (.skip))) (
 .seq (.g [oV 4 true]) (
 .ret)))))))))⟩

theorem a119q (T : Table) (k : Nat) (n1 : Int) (s2 : ByteArray) (n3 : Int) (l4 : Rows) (l5 : Rows) (l6 : Rows) (n7 : Int) (s8 : ByteArray) (n9 : Int) (l10 : Rows) (l11 : Rows) (l12 : Rows) (b13 : Bool) (n14 : Int) (s15 : ByteArray) (n16 : Int) (l17 : Rows) (l18 : Rows) (l19 : Rows) (n20 : Int) (s21 : ByteArray) (n22 : Int) (l23 : Rows) (l24 : Rows) (l25 : Rows) (b26 : Bool) : evalF T k a119 [(.g [(.v (.int .i64 n1)), (.v (.string s2)), (.v (.int .i64 n3)), (.s 3 l4), (.s 1 l5), (.s 2 l6), (.v (.int .i64 n7)), (.v (.string s8)), (.v (.int .i64 n9)), (.s 1 l10), (.s 5 l11), (.s 2 l12), (.v (.bool b13))]), (.g [(.v (.int .i64 n14)), (.v (.string s15)), (.v (.int .i64 n16)), (.s 3 l17), (.s 1 l18), (.s 2 l19), (.v (.int .i64 n20)), (.v (.string s21)), (.v (.int .i64 n22)), (.s 1 l23), (.s 5 l24), (.s 2 l25), (.v (.bool b26))])] = (
 bif (n1 != n14) then (
 some ⟨(.d (.v (.bool false))), []⟩) else (
 bif (!(bytesEq s2 s15)) then (
 some ⟨(.d (.v (.bool false))), []⟩) else (
 callT T 89 [(.g [(.v (.int .i64 n3)), (.s 3 l4), (.s 1 l5), (.s 2 l6)]), (.g [(.v (.int .i64 n16)), (.s 3 l17), (.s 1 l18), (.s 2 l19)])] fun o27 =>
 oD o27.res fun d28 =>
 dB d28 fun b29 =>
 bif (!b29) then (
 some ⟨(.d (.v (.bool false))), []⟩) else (
 callT T 90 [(.g [(.v (.int .i64 n7)), (.v (.string s8)), (.v (.int .i64 n9)), (.s 1 l10), (.s 5 l11)]), (.g [(.v (.int .i64 n20)), (.v (.string s21)), (.v (.int .i64 n22)), (.s 1 l23), (.s 5 l24)])] fun o30 =>
 oD o30.res fun d31 =>
 dB d31 fun b32 =>
 bif (!b32) then (
 some ⟨(.d (.v (.bool false))), []⟩) else (
 callT T 91 [(.d (.s 2 l12)), (.d (.s 2 l25))] fun o33 =>
 oD o33.res fun d34 =>
 dB d34 fun b35 =>
 bif (!b35) then (
 some ⟨(.d (.v (.bool false))), []⟩) else (
 bif (b13 != b26) then (
 some ⟨(.d (.v (.bool false))), []⟩) else (
 some ⟨(.d (.v (.bool true))), []⟩))))))) := by kernel_rfl
/- loop.example/g00119/laws.eqJobS -/
def b55x0 : ACode := (
 .seq (.seq (.g [oM 11 5, oM 12 0, oZ 13 12, oB 14 .lss 11 13]) (
 .cond (.t 14) (.skip) (.exit 0))) (
 .seq (.block 1 (.seq (.dreg [] [(0, oM 17 0), (0, oM 18 5), (0, oI 19 13 17 18), (0, oL 20 [kI, .s, kI, (.sl 3), (.sl 1), (.sl 2), kI, .s, kI, (.sl 1), (.sl 5), (.sl 2), .b] 19), (0, oM 21 1), (0, oM 22 5), (0, oI 23 13 21 22), (0, oL 24 [kI, .s, kI, (.sl 3), (.sl 1), (.sl 2), kI, .s, kI, (.sl 1), (.sl 5), (.sl 2), .b] 23)] [oC 25 119 [.c .b] [20, 24], oN 26 25]) (
 .cond (.t 26) (.seq (.g [oV 4 false]) (
 .ret)) (.skip)))) (
 .g [oM 15 5, oBi 16 .add 15 1, oM 5 16])))
def e55x0 : Exits := [(.ret, [(4, .c .b)]), ((.exit 0), [])]
noncomputable def l55x0 (T : Table) (k : Nat) := loopN (evalC ⟨T, []⟩ k b55x0 (Ex × List AV)) [0, 1, 5] e55x0
def a55 : AFun := ⟨[.rd, .rd], false, [.t 4], (
 .seq (.g [oV 4 false]) (
 .seq (.seq (.g [oM 6 0, oZ 7 6, oM 8 1, oZ 9 8, oB 10 .neq 7 9]) (
 .cond (.t 10) (.seq (.g [oV 4 false]) (
 .ret)) (.skip))) (
 .seq (.seq (.g [oK 5 0]) (
 .block 0 (.loop [0, 1, 5] e55x0 b55x0))) (
 .seq (.g [oV 4 true]) (
 .ret)))))⟩
theorem l55x0s (T : Table) (k n : Nat) (l3 : Rows) (l4 : Rows) (n5 : Int) : l55x0 T k (n + 1) [(.fz 13 l3), (.fz 13 l4), (.v (.int .i64 n5))] = (
 bif (decide (n5 < (l3.length : Int))) then (
 tst (decide (0 ≤ n5)) (
 look l3 (Int.toNat n5) fun r6 =>
 cI .i64 r6 0 fun n7 =>
 cS r6 1 fun s8 =>
 cI .i64 r6 2 fun n9 =>
 cL 3 r6 3 fun l10 =>
 cL 1 r6 4 fun l11 =>
 cL 2 r6 5 fun l12 =>
 cI .i64 r6 6 fun n13 =>
 cS r6 7 fun s14 =>
 cI .i64 r6 8 fun n15 =>
 cL 1 r6 9 fun l16 =>
 cL 5 r6 10 fun l17 =>
 cL 2 r6 11 fun l18 =>
 cB r6 12 fun b19 =>
 tst (decide (0 ≤ n5)) (
 look l4 (Int.toNat n5) fun r20 =>
 cI .i64 r20 0 fun n21 =>
 cS r20 1 fun s22 =>
 cI .i64 r20 2 fun n23 =>
 cL 3 r20 3 fun l24 =>
 cL 1 r20 4 fun l25 =>
 cL 2 r20 5 fun l26 =>
 cI .i64 r20 6 fun n27 =>
 cS r20 7 fun s28 =>
 cI .i64 r20 8 fun n29 =>
 cL 1 r20 9 fun l30 =>
 cL 5 r20 10 fun l31 =>
 cL 2 r20 11 fun l32 =>
 cB r20 12 fun b33 =>
 callT T 119 [(.g [(.v (.int .i64 n7)), (.v (.string s8)), (.v (.int .i64 n9)), (.s 3 l10), (.s 1 l11), (.s 2 l12), (.v (.int .i64 n13)), (.v (.string s14)), (.v (.int .i64 n15)), (.s 1 l16), (.s 5 l17), (.s 2 l18), (.v (.bool b19))]), (.g [(.v (.int .i64 n21)), (.v (.string s22)), (.v (.int .i64 n23)), (.s 3 l24), (.s 1 l25), (.s 2 l26), (.v (.int .i64 n27)), (.v (.string s28)), (.v (.int .i64 n29)), (.s 1 l30), (.s 5 l31), (.s 2 l32), (.v (.bool b33))])] fun o34 =>
 oD o34.res fun d35 =>
 dB d35 fun b36 =>
 bif (!b36) then (
 some (.ret, [(.v (.bool false))])) else (
 l55x0 T k n [(.fz 13 l3), (.fz 13 l4), (.v (.int .i64 (IntKind.wrap .i64 (n5 + 1))))])))) else (
 some ((.exit 0), []))) := by kernel_rfl
theorem a55q (T : Table) (k : Nat) (l1 : Rows) (l2 : Rows) : evalF T k a55 [(.d (.s 13 l1)), (.d (.s 13 l2))] = (
 bif ((l1.length : Int) != (l2.length : Int)) then (
 some ⟨(.d (.v (.bool false))), []⟩) else (
 aft (l55x0 T k k [(.fz 13 l1), (.fz 13 l2), (.v (.int .i64 0))]) fun e37 ys38 =>
 bif e37.same .ret then (
 aV ys38 0 fun x39 =>
 aB x39 fun b40 =>
 some ⟨(.d (.v (.bool b40))), []⟩) else (
 bif e37.same (.exit 0) then (
 some ⟨(.d (.v (.bool true))), []⟩) else (
 none)))) := by kernel_rfl
/- loop.example/g00119/laws.eqLabel -/

def a218 : AFun := ⟨[.rd, .rd], false, [.t 4], (
 .seq (.g [oQ 2 (.box (.t 0)), oQ 3 (.box (.t 1)), oV 4 false]) (
 .seq (.seq (.g [oF 5 0 2, oW 6 .s 5, oF 7 0 3, oW 8 .s 7, oB 9 .neq 6 8]) (
 .cond (.t 9) (.seq (.g [oV 4 false]) (
 .ret)) (.skip))) (
 .seq (.seq (.g [oF 10 1 2, oW 11 .s 10, oF 12 1 3, oW 13 .s 12, oB 14 .neq 11 13]) (
 .cond (.t 14) (.seq (.g [oV 4 false]) (
 .ret)) (.skip))) (
 .seq (.g [oV 4 true]) (
 .ret)))))⟩

theorem a218q (T : Table) (k : Nat) (s1 : ByteArray) (s2 : ByteArray) (s3 : ByteArray) (s4 : ByteArray) : evalF T k a218 [(.g [(.v (.string s1)), (.v (.string s2))]), (.g [(.v (.string s3)), (.v (.string s4))])] = (
 bif (!(bytesEq s1 s3)) then (
 some ⟨(.d (.v (.bool false))), []⟩) else (
 bif (!(bytesEq s2 s4)) then (
 some ⟨(.d (.v (.bool false))), []⟩) else (
 some ⟨(.d (.v (.bool true))), []⟩))) := by kernel_rfl
/- loop.example/g00119/laws.eqLabelS -/
def b161x0 : ACode := (
 .seq (.seq (.g [oM 11 5, oM 12 0, oZ 13 12, oB 14 .lss 11 13]) (
 .cond (.t 14) (.skip) (.exit 0))) (
 .seq (.block 1 (.seq (.dreg [] [(0, oM 17 0), (0, oM 18 5), (0, oI 19 2 17 18), (0, oL 20 [.s, .s] 19), (0, oM 21 1), (0, oM 22 5), (0, oI 23 2 21 22), (0, oL 24 [.s, .s] 23)] [oC 25 218 [.c .b] [20, 24], oN 26 25]) (
 .cond (.t 26) (.seq (.g [oV 4 false]) (
 .ret)) (.skip)))) (
 .g [oM 15 5, oBi 16 .add 15 1, oM 5 16])))
def e161x0 : Exits := [(.ret, [(4, .c .b)]), ((.exit 0), [])]
noncomputable def l161x0 (T : Table) (k : Nat) := loopN (evalC ⟨T, []⟩ k b161x0 (Ex × List AV)) [0, 1, 5] e161x0
def a161 : AFun := ⟨[.rd, .rd], false, [.t 4], (
 .seq (.g [oV 4 false]) (
 .seq (.seq (.g [oM 6 0, oZ 7 6, oM 8 1, oZ 9 8, oB 10 .neq 7 9]) (
 .cond (.t 10) (.seq (.g [oV 4 false]) (
 .ret)) (.skip))) (
 .seq (.seq (.g [oK 5 0]) (
 .block 0 (.loop [0, 1, 5] e161x0 b161x0))) (
 .seq (.g [oV 4 true]) (
 .ret)))))⟩
theorem l161x0s (T : Table) (k n : Nat) (l3 : Rows) (l4 : Rows) (n5 : Int) : l161x0 T k (n + 1) [(.fz 2 l3), (.fz 2 l4), (.v (.int .i64 n5))] = (
 bif (decide (n5 < (l3.length : Int))) then (
 tst (decide (0 ≤ n5)) (
 look l3 (Int.toNat n5) fun r6 =>
 cS r6 0 fun s7 =>
 cS r6 1 fun s8 =>
 tst (decide (0 ≤ n5)) (
 look l4 (Int.toNat n5) fun r9 =>
 cS r9 0 fun s10 =>
 cS r9 1 fun s11 =>
 callT T 218 [(.g [(.v (.string s7)), (.v (.string s8))]), (.g [(.v (.string s10)), (.v (.string s11))])] fun o12 =>
 oD o12.res fun d13 =>
 dB d13 fun b14 =>
 bif (!b14) then (
 some (.ret, [(.v (.bool false))])) else (
 l161x0 T k n [(.fz 2 l3), (.fz 2 l4), (.v (.int .i64 (IntKind.wrap .i64 (n5 + 1))))])))) else (
 some ((.exit 0), []))) := by kernel_rfl
theorem a161q (T : Table) (k : Nat) (l1 : Rows) (l2 : Rows) : evalF T k a161 [(.d (.s 2 l1)), (.d (.s 2 l2))] = (
 bif ((l1.length : Int) != (l2.length : Int)) then (
 some ⟨(.d (.v (.bool false))), []⟩) else (
 aft (l161x0 T k k [(.fz 2 l1), (.fz 2 l2), (.v (.int .i64 0))]) fun e15 ys16 =>
 bif e15.same .ret then (
 aV ys16 0 fun x17 =>
 aB x17 fun b18 =>
 some ⟨(.d (.v (.bool b18))), []⟩) else (
 bif e15.same (.exit 0) then (
 some ⟨(.d (.v (.bool true))), []⟩) else (
 none)))) := by kernel_rfl
/- loop.example/g00119/laws.eqIsland -/

def a92 : AFun := ⟨[.rd, .rd], false, [.t 4], (
 .seq (.g [oQ 2 (.box (.t 0)), oQ 3 (.box (.t 1)), oV 4 false]) (
 .seq (.seq (.g [oF 5 0 2, oW 6 .s 5, oF 7 0 3, oW 8 .s 7, oB 9 .neq 6 8]) (
 .cond (.t 9) (.seq (.g [oV 4 false]) (
 .ret)) (.skip))) (
 .seq (.seq (.g [oF 10 1 2, oW 11 (.sl 2) 10, oF 12 1 3, oW 13 (.sl 2) 12, oC 14 161 [.c .b] [11, 13], oN 15 14]) (
 .cond (.t 15) (.seq (.g [oV 4 false]) (
 .ret)) (.skip))) (
 .seq (.seq (.g [oF 16 2 2, oW 17 (.sl 1) 16, oF 18 2 3, oW 19 (.sl 1) 18, oC 20 43 [.c .b] [17, 19], oN 21 20]) (
 .cond (.t 21) (.seq (.g [oV 4 false]) (
 .ret)) (.skip))) (
 .seq (.seq (.g [oF 22 3 2, oW 23 kI 22, oF 24 3 3, oW 25 kI 24, oB 26 .neq 23 25]) (
 .cond (.t 26) (.seq (.g [oV 4 false]) (
 .ret)) (.skip))) (
 .seq (.g [oV 4 true]) (
 .ret)))))))⟩

theorem a92q (T : Table) (k : Nat) (s1 : ByteArray) (l2 : Rows) (l3 : Rows) (n4 : Int) (s5 : ByteArray) (l6 : Rows) (l7 : Rows) (n8 : Int) : evalF T k a92 [(.g [(.v (.string s1)), (.s 2 l2), (.s 1 l3), (.v (.int .i64 n4))]), (.g [(.v (.string s5)), (.s 2 l6), (.s 1 l7), (.v (.int .i64 n8))])] = (
 bif (!(bytesEq s1 s5)) then (
 some ⟨(.d (.v (.bool false))), []⟩) else (
 callT T 161 [(.d (.s 2 l2)), (.d (.s 2 l6))] fun o9 =>
 oD o9.res fun d10 =>
 dB d10 fun b11 =>
 bif (!b11) then (
 some ⟨(.d (.v (.bool false))), []⟩) else (
 callT T 43 [(.d (.s 1 l3)), (.d (.s 1 l7))] fun o12 =>
 oD o12.res fun d13 =>
 dB d13 fun b14 =>
 bif (!b14) then (
 some ⟨(.d (.v (.bool false))), []⟩) else (
 bif (n4 != n8) then (
 some ⟨(.d (.v (.bool false))), []⟩) else (
 some ⟨(.d (.v (.bool true))), []⟩))))) := by kernel_rfl
/- loop.example/g00119/laws.eqPost -/

def a120 : AFun := ⟨[.rd, .rd], false, [.t 4], (
 .seq (.g [oQ 2 (.box (.t 0)), oQ 3 (.box (.t 1)), oV 4 false]) (
 .seq (.seq (.g [oF 5 0 2, oL 6 [.s, (.sl 2), (.sl 1), kI] 5, oF 7 0 3, oL 8 [.s, (.sl 2), (.sl 1), kI] 7, oC 9 92 [.c .b] [6, 8], oN 10 9]) (
 .cond (.t 10) (.seq (.g [oV 4 false]) (
 .ret)) (.skip))) (
 .seq (.seq (.g [oF 11 4 2, oW 12 kI 11, oF 13 4 3, oW 14 kI 13, oB 15 .neq 12 14]) (
 .cond (.t 15) (.seq (.g [oV 4 false]) (
 .ret)) (.skip))) (
 .seq (.seq (.g [oF 16 5 2, oW 17 kI 16, oF 18 5 3, oW 19 kI 18, oB 20 .neq 17 19]) (
 .cond (.t 20) (.seq (.g [oV 4 false]) (
 .ret)) (.skip))) (
 .seq (.g [oV 4 true]) (
 .ret))))))⟩

theorem a120q (T : Table) (k : Nat) (s1 : ByteArray) (l2 : Rows) (l3 : Rows) (n4 : Int) (n5 : Int) (n6 : Int) (s7 : ByteArray) (l8 : Rows) (l9 : Rows) (n10 : Int) (n11 : Int) (n12 : Int) : evalF T k a120 [(.g [(.v (.string s1)), (.s 2 l2), (.s 1 l3), (.v (.int .i64 n4)), (.v (.int .i64 n5)), (.v (.int .i64 n6))]), (.g [(.v (.string s7)), (.s 2 l8), (.s 1 l9), (.v (.int .i64 n10)), (.v (.int .i64 n11)), (.v (.int .i64 n12))])] = (
 callT T 92 [(.g [(.v (.string s1)), (.s 2 l2), (.s 1 l3), (.v (.int .i64 n4))]), (.g [(.v (.string s7)), (.s 2 l8), (.s 1 l9), (.v (.int .i64 n10))])] fun o13 =>
 oD o13.res fun d14 =>
 dB d14 fun b15 =>
 bif (!b15) then (
 some ⟨(.d (.v (.bool false))), []⟩) else (
 bif (n5 != n11) then (
 some ⟨(.d (.v (.bool false))), []⟩) else (
 bif (n6 != n12) then (
 some ⟨(.d (.v (.bool false))), []⟩) else (
 some ⟨(.d (.v (.bool true))), []⟩)))) := by kernel_rfl
/- loop.example/g00119/laws.eqPostS -/
def b56x0 : ACode := (
 .seq (.seq (.g [oM 11 5, oM 12 0, oZ 13 12, oB 14 .lss 11 13]) (
 .cond (.t 14) (.skip) (.exit 0))) (
 .seq (.block 1 (.seq (.dreg [] [(0, oM 17 0), (0, oM 18 5), (0, oI 19 6 17 18), (0, oL 20 [.s, (.sl 2), (.sl 1), kI, kI, kI] 19), (0, oM 21 1), (0, oM 22 5), (0, oI 23 6 21 22), (0, oL 24 [.s, (.sl 2), (.sl 1), kI, kI, kI] 23)] [oC 25 120 [.c .b] [20, 24], oN 26 25]) (
 .cond (.t 26) (.seq (.g [oV 4 false]) (
 .ret)) (.skip)))) (
 .g [oM 15 5, oBi 16 .add 15 1, oM 5 16])))
def e56x0 : Exits := [(.ret, [(4, .c .b)]), ((.exit 0), [])]
noncomputable def l56x0 (T : Table) (k : Nat) := loopN (evalC ⟨T, []⟩ k b56x0 (Ex × List AV)) [0, 1, 5] e56x0
def a56 : AFun := ⟨[.rd, .rd], false, [.t 4], (
 .seq (.g [oV 4 false]) (
 .seq (.seq (.g [oM 6 0, oZ 7 6, oM 8 1, oZ 9 8, oB 10 .neq 7 9]) (
 .cond (.t 10) (.seq (.g [oV 4 false]) (
 .ret)) (.skip))) (
 .seq (.seq (.g [oK 5 0]) (
 .block 0 (.loop [0, 1, 5] e56x0 b56x0))) (
 .seq (.g [oV 4 true]) (
 .ret)))))⟩
theorem l56x0s (T : Table) (k n : Nat) (l3 : Rows) (l4 : Rows) (n5 : Int) : l56x0 T k (n + 1) [(.fz 6 l3), (.fz 6 l4), (.v (.int .i64 n5))] = (
 bif (decide (n5 < (l3.length : Int))) then (
 tst (decide (0 ≤ n5)) (
 look l3 (Int.toNat n5) fun r6 =>
 cS r6 0 fun s7 =>
 cL 2 r6 1 fun l8 =>
 cL 1 r6 2 fun l9 =>
 cI .i64 r6 3 fun n10 =>
 cI .i64 r6 4 fun n11 =>
 cI .i64 r6 5 fun n12 =>
 tst (decide (0 ≤ n5)) (
 look l4 (Int.toNat n5) fun r13 =>
 cS r13 0 fun s14 =>
 cL 2 r13 1 fun l15 =>
 cL 1 r13 2 fun l16 =>
 cI .i64 r13 3 fun n17 =>
 cI .i64 r13 4 fun n18 =>
 cI .i64 r13 5 fun n19 =>
 callT T 120 [(.g [(.v (.string s7)), (.s 2 l8), (.s 1 l9), (.v (.int .i64 n10)), (.v (.int .i64 n11)), (.v (.int .i64 n12))]), (.g [(.v (.string s14)), (.s 2 l15), (.s 1 l16), (.v (.int .i64 n17)), (.v (.int .i64 n18)), (.v (.int .i64 n19))])] fun o20 =>
 oD o20.res fun d21 =>
 dB d21 fun b22 =>
 bif (!b22) then (
 some (.ret, [(.v (.bool false))])) else (
 l56x0 T k n [(.fz 6 l3), (.fz 6 l4), (.v (.int .i64 (IntKind.wrap .i64 (n5 + 1))))])))) else (
 some ((.exit 0), []))) := by kernel_rfl
theorem a56q (T : Table) (k : Nat) (l1 : Rows) (l2 : Rows) : evalF T k a56 [(.d (.s 6 l1)), (.d (.s 6 l2))] = (
 bif ((l1.length : Int) != (l2.length : Int)) then (
 some ⟨(.d (.v (.bool false))), []⟩) else (
 aft (l56x0 T k k [(.fz 6 l1), (.fz 6 l2), (.v (.int .i64 0))]) fun e23 ys24 =>
 bif e23.same .ret then (
 aV ys24 0 fun x25 =>
 aB x25 fun b26 =>
 some ⟨(.d (.v (.bool b26))), []⟩) else (
 bif e23.same (.exit 0) then (
 some ⟨(.d (.v (.bool true))), []⟩) else (
 none)))) := by kernel_rfl
/- loop.example/g00119/laws.eqHold -/

def a121 : AFun := ⟨[.rd, .rd], false, [.t 4], (
 .seq (.g [oQ 2 (.box (.t 0)), oQ 3 (.box (.t 1)), oV 4 false]) (
 .seq (.seq (.g [oF 5 0 2, oW 6 kI 5, oF 7 0 3, oW 8 kI 7, oB 9 .neq 6 8]) (
 .cond (.t 9) (.seq (.g [oV 4 false]) (
 .ret)) (.skip))) (
 .seq (.seq (.g [oF 10 1 2, oW 11 .s 10, oF 12 1 3, oW 13 .s 12, oB 14 .neq 11 13]) (
 .cond (.t 14) (.seq (.g [oV 4 false]) (
 .ret)) (.skip))) (
 .seq (.seq (.g [oF 15 2 2, oW 16 kI 15, oF 17 2 3, oW 18 kI 17, oB 19 .neq 16 18]) (
 .cond (.t 19) (.seq (.g [oV 4 false]) (
 .ret)) (.skip))) (
 .seq (.seq (.g [oF 20 3 2, oW 21 kI 20, oF 22 3 3, oW 23 kI 22, oB 24 .neq 21 23]) (
 .cond (.t 24) (.seq (.g [oV 4 false]) (
 .ret)) (.skip))) (
 .seq (.seq (.g [oF 25 4 2, oW 26 kI 25, oF 27 4 3, oW 28 kI 27, oB 29 .neq 26 28]) (
 .cond (.t 29) (.seq (.g [oV 4 false]) (
 .ret)) (.skip))) (
 .seq (.g [oV 4 true]) (
 .ret))))))))⟩

theorem a121q (T : Table) (k : Nat) (n1 : Int) (s2 : ByteArray) (n3 : Int) (n4 : Int) (n5 : Int) (n6 : Int) (s7 : ByteArray) (n8 : Int) (n9 : Int) (n10 : Int) : evalF T k a121 [(.g [(.v (.int .i64 n1)), (.v (.string s2)), (.v (.int .i64 n3)), (.v (.int .i64 n4)), (.v (.int .i64 n5))]), (.g [(.v (.int .i64 n6)), (.v (.string s7)), (.v (.int .i64 n8)), (.v (.int .i64 n9)), (.v (.int .i64 n10))])] = (
 bif (n1 != n6) then (
 some ⟨(.d (.v (.bool false))), []⟩) else (
 bif (!(bytesEq s2 s7)) then (
 some ⟨(.d (.v (.bool false))), []⟩) else (
 bif (n3 != n8) then (
 some ⟨(.d (.v (.bool false))), []⟩) else (
 bif (n4 != n9) then (
 some ⟨(.d (.v (.bool false))), []⟩) else (
 bif (n5 != n10) then (
 some ⟨(.d (.v (.bool false))), []⟩) else (
 some ⟨(.d (.v (.bool true))), []⟩)))))) := by kernel_rfl
/- loop.example/g00119/laws.eqHoldS -/
def b57x0 : ACode := (
 .seq (.seq (.g [oM 11 5, oM 12 0, oZ 13 12, oB 14 .lss 11 13]) (
 .cond (.t 14) (.skip) (.exit 0))) (
 .seq (.block 1 (.seq (.dreg [] [(0, oM 17 0), (0, oM 18 5), (0, oI 19 5 17 18), (0, oL 20 [kI, .s, kI, kI, kI] 19), (0, oM 21 1), (0, oM 22 5), (0, oI 23 5 21 22), (0, oL 24 [kI, .s, kI, kI, kI] 23)] [oC 25 121 [.c .b] [20, 24], oN 26 25]) (
 .cond (.t 26) (.seq (.g [oV 4 false]) (
 .ret)) (.skip)))) (
 .g [oM 15 5, oBi 16 .add 15 1, oM 5 16])))
def e57x0 : Exits := [(.ret, [(4, .c .b)]), ((.exit 0), [])]
noncomputable def l57x0 (T : Table) (k : Nat) := loopN (evalC ⟨T, []⟩ k b57x0 (Ex × List AV)) [0, 1, 5] e57x0
def a57 : AFun := ⟨[.rd, .rd], false, [.t 4], (
 .seq (.g [oV 4 false]) (
 .seq (.seq (.g [oM 6 0, oZ 7 6, oM 8 1, oZ 9 8, oB 10 .neq 7 9]) (
 .cond (.t 10) (.seq (.g [oV 4 false]) (
 .ret)) (.skip))) (
 .seq (.seq (.g [oK 5 0]) (
 .block 0 (.loop [0, 1, 5] e57x0 b57x0))) (
 .seq (.g [oV 4 true]) (
 .ret)))))⟩
theorem l57x0s (T : Table) (k n : Nat) (l3 : Rows) (l4 : Rows) (n5 : Int) : l57x0 T k (n + 1) [(.fz 5 l3), (.fz 5 l4), (.v (.int .i64 n5))] = (
 bif (decide (n5 < (l3.length : Int))) then (
 tst (decide (0 ≤ n5)) (
 look l3 (Int.toNat n5) fun r6 =>
 cI .i64 r6 0 fun n7 =>
 cS r6 1 fun s8 =>
 cI .i64 r6 2 fun n9 =>
 cI .i64 r6 3 fun n10 =>
 cI .i64 r6 4 fun n11 =>
 tst (decide (0 ≤ n5)) (
 look l4 (Int.toNat n5) fun r12 =>
 cI .i64 r12 0 fun n13 =>
 cS r12 1 fun s14 =>
 cI .i64 r12 2 fun n15 =>
 cI .i64 r12 3 fun n16 =>
 cI .i64 r12 4 fun n17 =>
 callT T 121 [(.g [(.v (.int .i64 n7)), (.v (.string s8)), (.v (.int .i64 n9)), (.v (.int .i64 n10)), (.v (.int .i64 n11))]), (.g [(.v (.int .i64 n13)), (.v (.string s14)), (.v (.int .i64 n15)), (.v (.int .i64 n16)), (.v (.int .i64 n17))])] fun o18 =>
 oD o18.res fun d19 =>
 dB d19 fun b20 =>
 bif (!b20) then (
 some (.ret, [(.v (.bool false))])) else (
 l57x0 T k n [(.fz 5 l3), (.fz 5 l4), (.v (.int .i64 (IntKind.wrap .i64 (n5 + 1))))])))) else (
 some ((.exit 0), []))) := by kernel_rfl
theorem a57q (T : Table) (k : Nat) (l1 : Rows) (l2 : Rows) : evalF T k a57 [(.d (.s 5 l1)), (.d (.s 5 l2))] = (
 bif ((l1.length : Int) != (l2.length : Int)) then (
 some ⟨(.d (.v (.bool false))), []⟩) else (
 aft (l57x0 T k k [(.fz 5 l1), (.fz 5 l2), (.v (.int .i64 0))]) fun e21 ys22 =>
 bif e21.same .ret then (
 aV ys22 0 fun x23 =>
 aB x23 fun b24 =>
 some ⟨(.d (.v (.bool b24))), []⟩) else (
 bif e21.same (.exit 0) then (
 some ⟨(.d (.v (.bool true))), []⟩) else (
 none)))) := by kernel_rfl
/- loop.example/g00119/laws.eqHub -/

def a17 : AFun := ⟨[.rd, .rd], false, [.t 4], (
 .seq (.g [oQ 2 (.box (.t 0)), oQ 3 (.box (.t 1)), oV 4 false]) (
 .seq (.seq (.g [oF 5 0 2, oW 6 kI 5, oF 7 0 3, oW 8 kI 7, oB 9 .neq 6 8]) (
 .cond (.t 9) (.seq (.g [oV 4 false]) (
 .ret)) (.skip))) (
 .seq (.seq (.g [oF 10 1 2, oW 11 kI 10, oF 12 1 3, oW 13 kI 12, oB 14 .neq 11 13]) (
 .cond (.t 14) (.seq (.g [oV 4 false]) (
 .ret)) (.skip))) (
 .seq (.seq (.g [oF 15 2 2, oW 16 kI 15, oF 17 2 3, oW 18 kI 17, oB 19 .neq 16 18]) (
 .cond (.t 19) (.seq (.g [oV 4 false]) (
 .ret)) (.skip))) (
 .seq (.seq (.g [oF 20 3 2, oW 21 (.sl 13) 20, oF 22 3 3, oW 23 (.sl 13) 22, oC 24 55 [.c .b] [21, 23], oN 25 24]) (
 .cond (.t 25) (.seq (.g [oV 4 false]) (
 .ret)) (.skip))) (
 .seq (.seq (.g [oF 26 4 2, oW 27 (.sl 6) 26, oF 28 4 3, oW 29 (.sl 6) 28, oC 30 56 [.c .b] [27, 29], oN 31 30]) (
 .cond (.t 31) (.seq (.g [oV 4 false]) (
 .ret)) (.skip))) (
 .seq (.seq (.g [oF 32 5 2, oW 33 (.sl 5) 32, oF 34 5 3, oW 35 (.sl 5) 34, oC 36 57 [.c .b] [33, 35], oN 37 36]) (
 .cond (.t 37) (.seq (.g [oV 4 false]) (
 .ret)) (.skip))) (
 .seq (.seq (.g [oF 38 6 2, oW 39 (.sl 1) 38, oF 40 6 3, oW 41 (.sl 1) 40, oC 42 43 [.c .b] [39, 41], oN 43 42]) (
 .cond (.t 43) (.seq (.g [oV 4 false]) (
 .ret)) (.skip))) (
 .seq (.g [oV 4 true]) (
 .ret))))))))))⟩

theorem a17q (T : Table) (k : Nat) (n1 : Int) (n2 : Int) (n3 : Int) (l4 : Rows) (l5 : Rows) (l6 : Rows) (l7 : Rows) (n8 : Int) (n9 : Int) (n10 : Int) (l11 : Rows) (l12 : Rows) (l13 : Rows) (l14 : Rows) : evalF T k a17 [(.g [(.v (.int .i64 n1)), (.v (.int .i64 n2)), (.v (.int .i64 n3)), (.s 13 l4), (.s 6 l5), (.s 5 l6), (.s 1 l7)]), (.g [(.v (.int .i64 n8)), (.v (.int .i64 n9)), (.v (.int .i64 n10)), (.s 13 l11), (.s 6 l12), (.s 5 l13), (.s 1 l14)])] = (
 bif (n1 != n8) then (
 some ⟨(.d (.v (.bool false))), []⟩) else (
 bif (n2 != n9) then (
 some ⟨(.d (.v (.bool false))), []⟩) else (
 bif (n3 != n10) then (
 some ⟨(.d (.v (.bool false))), []⟩) else (
 callT T 55 [(.d (.s 13 l4)), (.d (.s 13 l11))] fun o15 =>
 oD o15.res fun d16 =>
 dB d16 fun b17 =>
 bif (!b17) then (
 some ⟨(.d (.v (.bool false))), []⟩) else (
 callT T 56 [(.d (.s 6 l5)), (.d (.s 6 l12))] fun o18 =>
 oD o18.res fun d19 =>
 dB d19 fun b20 =>
 bif (!b20) then (
 some ⟨(.d (.v (.bool false))), []⟩) else (
 callT T 57 [(.d (.s 5 l6)), (.d (.s 5 l13))] fun o21 =>
 oD o21.res fun d22 =>
 dB d22 fun b23 =>
 bif (!b23) then (
 some ⟨(.d (.v (.bool false))), []⟩) else (
 callT T 43 [(.d (.s 1 l7)), (.d (.s 1 l14))] fun o24 =>
 oD o24.res fun d25 =>
 dB d25 fun b26 =>
 bif (!b26) then (
 some ⟨(.d (.v (.bool false))), []⟩) else (
 some ⟨(.d (.v (.bool true))), []⟩)))))))) := by kernel_rfl
/- loop.example/g00119/laws.eqByteS -/
def b40x0 : ACode := (
 .seq (.seq (.g [oM 11 5, oM 12 0, oZ 13 12, oB 14 .lss 11 13]) (
 .cond (.t 14) (.skip) (.exit 0))) (
 .seq (.block 1 (.seq (.dreg [] [(0, oM 17 0), (0, oM 18 5), (0, oI 19 1 17 18), (0, oW 20 (.i .u8) 19), (0, oM 21 1), (0, oM 22 5), (0, oI 23 1 21 22), (0, oW 24 (.i .u8) 23)] [oB 25 .neq 20 24]) (
 .cond (.t 25) (.seq (.g [oV 4 false]) (
 .ret)) (.skip)))) (
 .g [oM 15 5, oBi 16 .add 15 1, oM 5 16])))
def e40x0 : Exits := [(.ret, [(4, .c .b)]), ((.exit 0), [])]
noncomputable def l40x0 (T : Table) (k : Nat) := loopN (evalC ⟨T, []⟩ k b40x0 (Ex × List AV)) [0, 1, 5] e40x0
def a40 : AFun := ⟨[.rd, .rd], false, [.t 4], (
 .seq (.g [oV 4 false]) (
 .seq (.seq (.g [oM 6 0, oZ 7 6, oM 8 1, oZ 9 8, oB 10 .neq 7 9]) (
 .cond (.t 10) (.seq (.g [oV 4 false]) (
 .ret)) (.skip))) (
 .seq (.seq (.g [oK 5 0]) (
 .block 0 (.loop [0, 1, 5] e40x0 b40x0))) (
 .seq (.g [oV 4 true]) (
 .ret)))))⟩
theorem l40x0s (T : Table) (k n : Nat) (l3 : Rows) (l4 : Rows) (n5 : Int) : l40x0 T k (n + 1) [(.fz 1 l3), (.fz 1 l4), (.v (.int .i64 n5))] = (
 bif (decide (n5 < (l3.length : Int))) then (
 tst (decide (0 ≤ n5)) (
 look l3 (Int.toNat n5) fun r6 =>
 cI .u8 r6 0 fun n7 =>
 tst (decide (0 ≤ n5)) (
 look l4 (Int.toNat n5) fun r8 =>
 cI .u8 r8 0 fun n9 =>
 bif (n7 != n9) then (
 some (.ret, [(.v (.bool false))])) else (
 l40x0 T k n [(.fz 1 l3), (.fz 1 l4), (.v (.int .i64 (IntKind.wrap .i64 (n5 + 1))))])))) else (
 some ((.exit 0), []))) := by kernel_rfl
theorem a40q (T : Table) (k : Nat) (l1 : Rows) (l2 : Rows) : evalF T k a40 [(.d (.s 1 l1)), (.d (.s 1 l2))] = (
 bif ((l1.length : Int) != (l2.length : Int)) then (
 some ⟨(.d (.v (.bool false))), []⟩) else (
 aft (l40x0 T k k [(.fz 1 l1), (.fz 1 l2), (.v (.int .i64 0))]) fun e10 ys11 =>
 bif e10.same .ret then (
 aV ys11 0 fun x12 =>
 aB x12 fun b13 =>
 some ⟨(.d (.v (.bool b13))), []⟩) else (
 bif e10.same (.exit 0) then (
 some ⟨(.d (.v (.bool true))), []⟩) else (
 none)))) := by kernel_rfl
/- loop.example/g00119/laws.eqRun -/

def a162 : AFun := ⟨[.rd, .rd], false, [.t 4], (
 .seq (.g [oQ 2 (.box (.t 0)), oQ 3 (.box (.t 1)), oV 4 false]) (
 .seq (.seq (.g [oF 5 0 2, oW 6 kI 5, oF 7 0 3, oW 8 kI 7, oB 9 .neq 6 8]) (
 .cond (.t 9) (.seq (.g [oV 4 false]) (
 .ret)) (.skip))) (
 .seq (.seq (.g [oF 10 1 2, oW 11 kI 10, oF 12 1 3, oW 13 kI 12, oB 14 .neq 11 13]) (
 .cond (.t 14) (.seq (.g [oV 4 false]) (
 .ret)) (.skip))) (
 .seq (.g [oV 4 true]) (
 .ret)))))⟩

theorem a162q (T : Table) (k : Nat) (n1 : Int) (n2 : Int) (n3 : Int) (n4 : Int) : evalF T k a162 [(.g [(.v (.int .i64 n1)), (.v (.int .i64 n2))]), (.g [(.v (.int .i64 n3)), (.v (.int .i64 n4))])] = (
 bif (n1 != n3) then (
 some ⟨(.d (.v (.bool false))), []⟩) else (
 bif (n2 != n4) then (
 some ⟨(.d (.v (.bool false))), []⟩) else (
 some ⟨(.d (.v (.bool true))), []⟩))) := by kernel_rfl
/- loop.example/g00119/laws.eqRunS -/
def b93x0 : ACode := (
 .seq (.seq (.g [oM 11 5, oM 12 0, oZ 13 12, oB 14 .lss 11 13]) (
 .cond (.t 14) (.skip) (.exit 0))) (
 .seq (.block 1 (.seq (.dreg [] [(0, oM 17 0), (0, oM 18 5), (0, oI 19 2 17 18), (0, oL 20 [kI, kI] 19), (0, oM 21 1), (0, oM 22 5), (0, oI 23 2 21 22), (0, oL 24 [kI, kI] 23)] [oC 25 162 [.c .b] [20, 24], oN 26 25]) (
 .cond (.t 26) (.seq (.g [oV 4 false]) (
 .ret)) (.skip)))) (
 .g [oM 15 5, oBi 16 .add 15 1, oM 5 16])))
def e93x0 : Exits := [(.ret, [(4, .c .b)]), ((.exit 0), [])]
noncomputable def l93x0 (T : Table) (k : Nat) := loopN (evalC ⟨T, []⟩ k b93x0 (Ex × List AV)) [0, 1, 5] e93x0
def a93 : AFun := ⟨[.rd, .rd], false, [.t 4], (
 .seq (.g [oV 4 false]) (
 .seq (.seq (.g [oM 6 0, oZ 7 6, oM 8 1, oZ 9 8, oB 10 .neq 7 9]) (
 .cond (.t 10) (.seq (.g [oV 4 false]) (
 .ret)) (.skip))) (
 .seq (.seq (.g [oK 5 0]) (
 .block 0 (.loop [0, 1, 5] e93x0 b93x0))) (
 .seq (.g [oV 4 true]) (
 .ret)))))⟩
theorem l93x0s (T : Table) (k n : Nat) (l3 : Rows) (l4 : Rows) (n5 : Int) : l93x0 T k (n + 1) [(.fz 2 l3), (.fz 2 l4), (.v (.int .i64 n5))] = (
 bif (decide (n5 < (l3.length : Int))) then (
 tst (decide (0 ≤ n5)) (
 look l3 (Int.toNat n5) fun r6 =>
 cI .i64 r6 0 fun n7 =>
 cI .i64 r6 1 fun n8 =>
 tst (decide (0 ≤ n5)) (
 look l4 (Int.toNat n5) fun r9 =>
 cI .i64 r9 0 fun n10 =>
 cI .i64 r9 1 fun n11 =>
 callT T 162 [(.g [(.v (.int .i64 n7)), (.v (.int .i64 n8))]), (.g [(.v (.int .i64 n10)), (.v (.int .i64 n11))])] fun o12 =>
 oD o12.res fun d13 =>
 dB d13 fun b14 =>
 bif (!b14) then (
 some (.ret, [(.v (.bool false))])) else (
 l93x0 T k n [(.fz 2 l3), (.fz 2 l4), (.v (.int .i64 (IntKind.wrap .i64 (n5 + 1))))])))) else (
 some ((.exit 0), []))) := by kernel_rfl
theorem a93q (T : Table) (k : Nat) (l1 : Rows) (l2 : Rows) : evalF T k a93 [(.d (.s 2 l1)), (.d (.s 2 l2))] = (
 bif ((l1.length : Int) != (l2.length : Int)) then (
 some ⟨(.d (.v (.bool false))), []⟩) else (
 aft (l93x0 T k k [(.fz 2 l1), (.fz 2 l2), (.v (.int .i64 0))]) fun e15 ys16 =>
 bif e15.same .ret then (
 aV ys16 0 fun x17 =>
 aB x17 fun b18 =>
 some ⟨(.d (.v (.bool b18))), []⟩) else (
 bif e15.same (.exit 0) then (
 some ⟨(.d (.v (.bool true))), []⟩) else (
 none)))) := by kernel_rfl
/- loop.example/g00119/laws.eqWork -/

def a227 : AFun := ⟨[.rd, .rd], false, [.t 4], (
 .seq (.g [oQ 2 (.box (.t 0)), oQ 3 (.box (.t 1)), oV 4 false]) (
 .seq (.seq (.g [oF 5 0 2, oW 6 kI 5, oF 7 0 3, oW 8 kI 7, oB 9 .neq 6 8]) (
 .cond (.t 9) (.seq (.g [oV 4 false]) (
 .ret)) (.skip))) (
 .seq (.seq (.g [oF 10 1 2, oW 11 kI 10, oF 12 1 3, oW 13 kI 12, oB 14 .neq 11 13]) (
 .cond (.t 14) (.seq (.g [oV 4 false]) (
 .ret)) (.skip))) (
 .seq (.seq (.g [oF 15 2 2, oL 16 [kI, .s, kI, (.sl 1), (.sl 5)] 15, oF 17 2 3, oL 18 [kI, .s, kI, (.sl 1), (.sl 5)] 17, oC 19 90 [.c .b] [16, 18], oN 20 19]) (
 .cond (.t 20) (.seq (.g [oV 4 false]) (
 .ret)) (.skip))) (
 .seq (.g [oV 4 true]) (
 .ret))))))⟩

theorem a227q (T : Table) (k : Nat) (n1 : Int) (n2 : Int) (n3 : Int) (s4 : ByteArray) (n5 : Int) (l6 : Rows) (l7 : Rows) (n8 : Int) (n9 : Int) (n10 : Int) (s11 : ByteArray) (n12 : Int) (l13 : Rows) (l14 : Rows) : evalF T k a227 [(.g [(.v (.int .i64 n1)), (.v (.int .i64 n2)), (.v (.int .i64 n3)), (.v (.string s4)), (.v (.int .i64 n5)), (.s 1 l6), (.s 5 l7)]), (.g [(.v (.int .i64 n8)), (.v (.int .i64 n9)), (.v (.int .i64 n10)), (.v (.string s11)), (.v (.int .i64 n12)), (.s 1 l13), (.s 5 l14)])] = (
 bif (n1 != n8) then (
 some ⟨(.d (.v (.bool false))), []⟩) else (
 bif (n2 != n9) then (
 some ⟨(.d (.v (.bool false))), []⟩) else (
 callT T 90 [(.g [(.v (.int .i64 n3)), (.v (.string s4)), (.v (.int .i64 n5)), (.s 1 l6), (.s 5 l7)]), (.g [(.v (.int .i64 n10)), (.v (.string s11)), (.v (.int .i64 n12)), (.s 1 l13), (.s 5 l14)])] fun o15 =>
 oD o15.res fun d16 =>
 dB d16 fun b17 =>
 bif (!b17) then (
 some ⟨(.d (.v (.bool false))), []⟩) else (
 some ⟨(.d (.v (.bool true))), []⟩)))) := by kernel_rfl

-- a228 "slices.siftDownOrdered[int]": store at fa
/- loop.example/g00119/laws.eqWorkS -/
def b180x0 : ACode := (
 .seq (.seq (.g [oM 11 5, oM 12 0, oZ 13 12, oB 14 .lss 11 13]) (
 .cond (.t 14) (.skip) (.exit 0))) (
 .seq (.block 1 (.seq (.dreg [] [(0, oM 17 0), (0, oM 18 5), (0, oI 19 7 17 18), (0, oL 20 [kI, kI, kI, .s, kI, (.sl 1), (.sl 5)] 19), (0, oM 21 1), (0, oM 22 5), (0, oI 23 7 21 22), (0, oL 24 [kI, kI, kI, .s, kI, (.sl 1), (.sl 5)] 23)] [oC 25 227 [.c .b] [20, 24], oN 26 25]) (
 .cond (.t 26) (.seq (.g [oV 4 false]) (
 .ret)) (.skip)))) (
 .g [oM 15 5, oBi 16 .add 15 1, oM 5 16])))
def e180x0 : Exits := [(.ret, [(4, .c .b)]), ((.exit 0), [])]
noncomputable def l180x0 (T : Table) (k : Nat) := loopN (evalC ⟨T, []⟩ k b180x0 (Ex × List AV)) [0, 1, 5] e180x0
def a180 : AFun := ⟨[.rd, .rd], false, [.t 4], (
 .seq (.g [oV 4 false]) (
 .seq (.seq (.g [oM 6 0, oZ 7 6, oM 8 1, oZ 9 8, oB 10 .neq 7 9]) (
 .cond (.t 10) (.seq (.g [oV 4 false]) (
 .ret)) (.skip))) (
 .seq (.seq (.g [oK 5 0]) (
 .block 0 (.loop [0, 1, 5] e180x0 b180x0))) (
 .seq (.g [oV 4 true]) (
 .ret)))))⟩
theorem l180x0s (T : Table) (k n : Nat) (l3 : Rows) (l4 : Rows) (n5 : Int) : l180x0 T k (n + 1) [(.fz 7 l3), (.fz 7 l4), (.v (.int .i64 n5))] = (
 bif (decide (n5 < (l3.length : Int))) then (
 tst (decide (0 ≤ n5)) (
 look l3 (Int.toNat n5) fun r6 =>
 cI .i64 r6 0 fun n7 =>
 cI .i64 r6 1 fun n8 =>
 cI .i64 r6 2 fun n9 =>
 cS r6 3 fun s10 =>
 cI .i64 r6 4 fun n11 =>
 cL 1 r6 5 fun l12 =>
 cL 5 r6 6 fun l13 =>
 tst (decide (0 ≤ n5)) (
 look l4 (Int.toNat n5) fun r14 =>
 cI .i64 r14 0 fun n15 =>
 cI .i64 r14 1 fun n16 =>
 cI .i64 r14 2 fun n17 =>
 cS r14 3 fun s18 =>
 cI .i64 r14 4 fun n19 =>
 cL 1 r14 5 fun l20 =>
 cL 5 r14 6 fun l21 =>
 callT T 227 [(.g [(.v (.int .i64 n7)), (.v (.int .i64 n8)), (.v (.int .i64 n9)), (.v (.string s10)), (.v (.int .i64 n11)), (.s 1 l12), (.s 5 l13)]), (.g [(.v (.int .i64 n15)), (.v (.int .i64 n16)), (.v (.int .i64 n17)), (.v (.string s18)), (.v (.int .i64 n19)), (.s 1 l20), (.s 5 l21)])] fun o22 =>
 oD o22.res fun d23 =>
 dB d23 fun b24 =>
 bif (!b24) then (
 some (.ret, [(.v (.bool false))])) else (
 l180x0 T k n [(.fz 7 l3), (.fz 7 l4), (.v (.int .i64 (IntKind.wrap .i64 (n5 + 1))))])))) else (
 some ((.exit 0), []))) := by kernel_rfl
theorem a180q (T : Table) (k : Nat) (l1 : Rows) (l2 : Rows) : evalF T k a180 [(.d (.s 7 l1)), (.d (.s 7 l2))] = (
 bif ((l1.length : Int) != (l2.length : Int)) then (
 some ⟨(.d (.v (.bool false))), []⟩) else (
 aft (l180x0 T k k [(.fz 7 l1), (.fz 7 l2), (.v (.int .i64 0))]) fun e25 ys26 =>
 bif e25.same .ret then (
 aV ys26 0 fun x27 =>
 aB x27 fun b28 =>
 some ⟨(.d (.v (.bool b28))), []⟩) else (
 bif e25.same (.exit 0) then (
 some ⟨(.d (.v (.bool true))), []⟩) else (
 none)))) := by kernel_rfl

-- a181 "slices.insertionSortOrdered[int]": store at fa
-- a182 "slices.heapSortOrdered[int]": store at fa
-- a183 "slices.breakPatternsOrdered[int]": store at fa
/- loop.example/g00119/laws.eqIsle -/

def a109 : AFun := ⟨[.rd, .rd], false, [.t 4], (
 .seq (.g [oQ 2 (.box (.t 0)), oQ 3 (.box (.t 1)), oV 4 false]) (
 .seq (.seq (.g [oF 5 0 2, oW 6 .s 5, oF 7 0 3, oW 8 .s 7, oB 9 .neq 6 8]) (
 .cond (.t 9) (.seq (.g [oV 4 false]) (
 .ret)) (.skip))) (
 .seq (.seq (.g [oF 10 1 2, oW 11 kI 10, oF 12 1 3, oW 13 kI 12, oB 14 .neq 11 13]) (
 .cond (.t 14) (.seq (.g [oV 4 false]) (
 .ret)) (.skip))) (
 .seq (.seq (.g [oF 15 2 2, oW 16 kI 15, oF 17 2 3, oW 18 kI 17, oB 19 .neq 16 18]) (
 .cond (.t 19) (.seq (.g [oV 4 false]) (
 .ret)) (.skip))) (
 .seq (.seq (.g [oF 20 3 2, oW 21 (.sl 7) 20, oF 22 3 3, oW 23 (.sl 7) 22, oC 24 180 [.c .b] [21, 23], oN 25 24]) (
 .cond (.t 25) (.seq (.g [oV 4 false]) (
 .ret)) (.skip))) (
 .seq (.seq (.g [oF 26 4 2, oW 27 (.sl 2) 26, oF 28 4 3, oW 29 (.sl 2) 28, oC 30 93 [.c .b] [27, 29], oN 31 30]) (
 .cond (.t 31) (.seq (.g [oV 4 false]) (
 .ret)) (.skip))) (
 .seq (.g [oV 4 true]) (
 .ret))))))))⟩

theorem a109q (T : Table) (k : Nat) (s1 : ByteArray) (n2 : Int) (n3 : Int) (l4 : Rows) (l5 : Rows) (s6 : ByteArray) (n7 : Int) (n8 : Int) (l9 : Rows) (l10 : Rows) : evalF T k a109 [(.g [(.v (.string s1)), (.v (.int .i64 n2)), (.v (.int .i64 n3)), (.s 7 l4), (.s 2 l5)]), (.g [(.v (.string s6)), (.v (.int .i64 n7)), (.v (.int .i64 n8)), (.s 7 l9), (.s 2 l10)])] = (
 bif (!(bytesEq s1 s6)) then (
 some ⟨(.d (.v (.bool false))), []⟩) else (
 bif (n2 != n7) then (
 some ⟨(.d (.v (.bool false))), []⟩) else (
 bif (n3 != n8) then (
 some ⟨(.d (.v (.bool false))), []⟩) else (
 callT T 180 [(.d (.s 7 l4)), (.d (.s 7 l9))] fun o11 =>
 oD o11.res fun d12 =>
 dB d12 fun b13 =>
 bif (!b13) then (
 some ⟨(.d (.v (.bool false))), []⟩) else (
 callT T 93 [(.d (.s 2 l5)), (.d (.s 2 l10))] fun o14 =>
 oD o14.res fun d15 =>
 dB d15 fun b16 =>
 bif (!b16) then (
 some ⟨(.d (.v (.bool false))), []⟩) else (
 some ⟨(.d (.v (.bool true))), []⟩)))))) := by kernel_rfl
/- loop.example/g00119/laws.eqIsleS -/
def b41x0 : ACode := (
 .seq (.seq (.g [oM 11 5, oM 12 0, oZ 13 12, oB 14 .lss 11 13]) (
 .cond (.t 14) (.skip) (.exit 0))) (
 .seq (.block 1 (.seq (.dreg [] [(0, oM 17 0), (0, oM 18 5), (0, oI 19 5 17 18), (0, oL 20 [.s, kI, kI, (.sl 7), (.sl 2)] 19), (0, oM 21 1), (0, oM 22 5), (0, oI 23 5 21 22), (0, oL 24 [.s, kI, kI, (.sl 7), (.sl 2)] 23)] [oC 25 109 [.c .b] [20, 24], oN 26 25]) (
 .cond (.t 26) (.seq (.g [oV 4 false]) (
 .ret)) (.skip)))) (
 .g [oM 15 5, oBi 16 .add 15 1, oM 5 16])))
def e41x0 : Exits := [(.ret, [(4, .c .b)]), ((.exit 0), [])]
noncomputable def l41x0 (T : Table) (k : Nat) := loopN (evalC ⟨T, []⟩ k b41x0 (Ex × List AV)) [0, 1, 5] e41x0
def a41 : AFun := ⟨[.rd, .rd], false, [.t 4], (
 .seq (.g [oV 4 false]) (
 .seq (.seq (.g [oM 6 0, oZ 7 6, oM 8 1, oZ 9 8, oB 10 .neq 7 9]) (
 .cond (.t 10) (.seq (.g [oV 4 false]) (
 .ret)) (.skip))) (
 .seq (.seq (.g [oK 5 0]) (
 .block 0 (.loop [0, 1, 5] e41x0 b41x0))) (
 .seq (.g [oV 4 true]) (
 .ret)))))⟩
theorem l41x0s (T : Table) (k n : Nat) (l3 : Rows) (l4 : Rows) (n5 : Int) : l41x0 T k (n + 1) [(.fz 5 l3), (.fz 5 l4), (.v (.int .i64 n5))] = (
 bif (decide (n5 < (l3.length : Int))) then (
 tst (decide (0 ≤ n5)) (
 look l3 (Int.toNat n5) fun r6 =>
 cS r6 0 fun s7 =>
 cI .i64 r6 1 fun n8 =>
 cI .i64 r6 2 fun n9 =>
 cL 7 r6 3 fun l10 =>
 cL 2 r6 4 fun l11 =>
 tst (decide (0 ≤ n5)) (
 look l4 (Int.toNat n5) fun r12 =>
 cS r12 0 fun s13 =>
 cI .i64 r12 1 fun n14 =>
 cI .i64 r12 2 fun n15 =>
 cL 7 r12 3 fun l16 =>
 cL 2 r12 4 fun l17 =>
 callT T 109 [(.g [(.v (.string s7)), (.v (.int .i64 n8)), (.v (.int .i64 n9)), (.s 7 l10), (.s 2 l11)]), (.g [(.v (.string s13)), (.v (.int .i64 n14)), (.v (.int .i64 n15)), (.s 7 l16), (.s 2 l17)])] fun o18 =>
 oD o18.res fun d19 =>
 dB d19 fun b20 =>
 bif (!b20) then (
 some (.ret, [(.v (.bool false))])) else (
 l41x0 T k n [(.fz 5 l3), (.fz 5 l4), (.v (.int .i64 (IntKind.wrap .i64 (n5 + 1))))])))) else (
 some ((.exit 0), []))) := by kernel_rfl
theorem a41q (T : Table) (k : Nat) (l1 : Rows) (l2 : Rows) : evalF T k a41 [(.d (.s 5 l1)), (.d (.s 5 l2))] = (
 bif ((l1.length : Int) != (l2.length : Int)) then (
 some ⟨(.d (.v (.bool false))), []⟩) else (
 aft (l41x0 T k k [(.fz 5 l1), (.fz 5 l2), (.v (.int .i64 0))]) fun e21 ys22 =>
 bif e21.same .ret then (
 aV ys22 0 fun x23 =>
 aB x23 fun b24 =>
 some ⟨(.d (.v (.bool b24))), []⟩) else (
 bif e21.same (.exit 0) then (
 some ⟨(.d (.v (.bool true))), []⟩) else (
 none)))) := by kernel_rfl
/- loop.example/g00119/laws.eqMsg -/

def a110 : AFun := ⟨[.rd, .rd], false, [.t 4], (
 .seq (.g [oQ 2 (.box (.t 0)), oQ 3 (.box (.t 1)), oV 4 false]) (
 .seq (.seq (.g [oF 5 0 2, oW 6 kI 5, oF 7 0 3, oW 8 kI 7, oB 9 .neq 6 8]) (
 .cond (.t 9) (.seq (.g [oV 4 false]) (
 .ret)) (.skip))) (
 .seq (.seq (.g [oF 10 1 2, oW 11 .s 10, oF 12 1 3, oW 13 .s 12, oB 14 .neq 11 13]) (
 .cond (.t 14) (.seq (.g [oV 4 false]) (
 .ret)) (.skip))) (
 .seq (.seq (.g [oF 15 2 2, oW 16 kI 15, oF 17 2 3, oW 18 kI 17, oB 19 .neq 16 18]) (
 .cond (.t 19) (.seq (.g [oV 4 false]) (
 .ret)) (.skip))) (
 .seq (.seq (.g [oF 20 3 2, oW 21 (.sl 7) 20, oF 22 3 3, oW 23 (.sl 7) 22, oC 24 180 [.c .b] [21, 23], oN 25 24]) (
 .cond (.t 25) (.seq (.g [oV 4 false]) (
 .ret)) (.skip))) (
 .seq (.seq (.g [oF 26 4 2, oW 27 (.sl 2) 26, oF 28 4 3, oW 29 (.sl 2) 28, oC 30 93 [.c .b] [27, 29], oN 31 30]) (
 .cond (.t 31) (.seq (.g [oV 4 false]) (
 .ret)) (.skip))) (
 .seq (.g [oV 4 true]) (
 .ret))))))))⟩

theorem a110q (T : Table) (k : Nat) (n1 : Int) (s2 : ByteArray) (n3 : Int) (l4 : Rows) (l5 : Rows) (n6 : Int) (s7 : ByteArray) (n8 : Int) (l9 : Rows) (l10 : Rows) : evalF T k a110 [(.g [(.v (.int .i64 n1)), (.v (.string s2)), (.v (.int .i64 n3)), (.s 7 l4), (.s 2 l5)]), (.g [(.v (.int .i64 n6)), (.v (.string s7)), (.v (.int .i64 n8)), (.s 7 l9), (.s 2 l10)])] = (
 bif (n1 != n6) then (
 some ⟨(.d (.v (.bool false))), []⟩) else (
 bif (!(bytesEq s2 s7)) then (
 some ⟨(.d (.v (.bool false))), []⟩) else (
 bif (n3 != n8) then (
 some ⟨(.d (.v (.bool false))), []⟩) else (
 callT T 180 [(.d (.s 7 l4)), (.d (.s 7 l9))] fun o11 =>
 oD o11.res fun d12 =>
 dB d12 fun b13 =>
 bif (!b13) then (
 some ⟨(.d (.v (.bool false))), []⟩) else (
 callT T 93 [(.d (.s 2 l5)), (.d (.s 2 l10))] fun o14 =>
 oD o14.res fun d15 =>
 dB d15 fun b16 =>
 bif (!b16) then (
 some ⟨(.d (.v (.bool false))), []⟩) else (
 some ⟨(.d (.v (.bool true))), []⟩)))))) := by kernel_rfl
/- loop.example/g00119/laws.eqMsgS -/
def b42x0 : ACode := (
 .seq (.seq (.g [oM 11 5, oM 12 0, oZ 13 12, oB 14 .lss 11 13]) (
 .cond (.t 14) (.skip) (.exit 0))) (
 .seq (.block 1 (.seq (.dreg [] [(0, oM 17 0), (0, oM 18 5), (0, oI 19 5 17 18), (0, oL 20 [kI, .s, kI, (.sl 7), (.sl 2)] 19), (0, oM 21 1), (0, oM 22 5), (0, oI 23 5 21 22), (0, oL 24 [kI, .s, kI, (.sl 7), (.sl 2)] 23)] [oC 25 110 [.c .b] [20, 24], oN 26 25]) (
 .cond (.t 26) (.seq (.g [oV 4 false]) (
 .ret)) (.skip)))) (
 .g [oM 15 5, oBi 16 .add 15 1, oM 5 16])))
def e42x0 : Exits := [(.ret, [(4, .c .b)]), ((.exit 0), [])]
noncomputable def l42x0 (T : Table) (k : Nat) := loopN (evalC ⟨T, []⟩ k b42x0 (Ex × List AV)) [0, 1, 5] e42x0
def a42 : AFun := ⟨[.rd, .rd], false, [.t 4], (
 .seq (.g [oV 4 false]) (
 .seq (.seq (.g [oM 6 0, oZ 7 6, oM 8 1, oZ 9 8, oB 10 .neq 7 9]) (
 .cond (.t 10) (.seq (.g [oV 4 false]) (
 .ret)) (.skip))) (
 .seq (.seq (.g [oK 5 0]) (
 .block 0 (.loop [0, 1, 5] e42x0 b42x0))) (
 .seq (.g [oV 4 true]) (
 .ret)))))⟩
theorem l42x0s (T : Table) (k n : Nat) (l3 : Rows) (l4 : Rows) (n5 : Int) : l42x0 T k (n + 1) [(.fz 5 l3), (.fz 5 l4), (.v (.int .i64 n5))] = (
 bif (decide (n5 < (l3.length : Int))) then (
 tst (decide (0 ≤ n5)) (
 look l3 (Int.toNat n5) fun r6 =>
 cI .i64 r6 0 fun n7 =>
 cS r6 1 fun s8 =>
 cI .i64 r6 2 fun n9 =>
 cL 7 r6 3 fun l10 =>
 cL 2 r6 4 fun l11 =>
 tst (decide (0 ≤ n5)) (
 look l4 (Int.toNat n5) fun r12 =>
 cI .i64 r12 0 fun n13 =>
 cS r12 1 fun s14 =>
 cI .i64 r12 2 fun n15 =>
 cL 7 r12 3 fun l16 =>
 cL 2 r12 4 fun l17 =>
 callT T 110 [(.g [(.v (.int .i64 n7)), (.v (.string s8)), (.v (.int .i64 n9)), (.s 7 l10), (.s 2 l11)]), (.g [(.v (.int .i64 n13)), (.v (.string s14)), (.v (.int .i64 n15)), (.s 7 l16), (.s 2 l17)])] fun o18 =>
 oD o18.res fun d19 =>
 dB d19 fun b20 =>
 bif (!b20) then (
 some (.ret, [(.v (.bool false))])) else (
 l42x0 T k n [(.fz 5 l3), (.fz 5 l4), (.v (.int .i64 (IntKind.wrap .i64 (n5 + 1))))])))) else (
 some ((.exit 0), []))) := by kernel_rfl
theorem a42q (T : Table) (k : Nat) (l1 : Rows) (l2 : Rows) : evalF T k a42 [(.d (.s 5 l1)), (.d (.s 5 l2))] = (
 bif ((l1.length : Int) != (l2.length : Int)) then (
 some ⟨(.d (.v (.bool false))), []⟩) else (
 aft (l42x0 T k k [(.fz 5 l1), (.fz 5 l2), (.v (.int .i64 0))]) fun e21 ys22 =>
 bif e21.same .ret then (
 aV ys22 0 fun x23 =>
 aB x23 fun b24 =>
 some ⟨(.d (.v (.bool b24))), []⟩) else (
 bif e21.same (.exit 0) then (
 some ⟨(.d (.v (.bool true))), []⟩) else (
 none)))) := by kernel_rfl
/- loop.example/g00119/laws.eqFed -/

def a11 : AFun := ⟨[.rd, .rd], false, [.t 4], (
 .seq (.g [oQ 2 (.box (.t 0)), oQ 3 (.box (.t 1)), oV 4 false]) (
 .seq (.seq (.g [oF 5 0 2, oL 6 [kI, kI, kI, (.sl 13), (.sl 6), (.sl 5), (.sl 1)] 5, oF 7 0 3, oL 8 [kI, kI, kI, (.sl 13), (.sl 6), (.sl 5), (.sl 1)] 7, oC 9 17 [.c .b] [6, 8], oN 10 9]) (
 .cond (.t 10) (.seq (.g [oV 4 false]) (
 .ret)) (.skip))) (
 .seq (.seq (.g [oF 11 7 2, oW 12 .b 11, oF 13 7 3, oW 14 .b 13, oQ 15 (.beq true (.t 12) (.t 14))]) (
 .cond (.t 15) (.seq (.g [oV 4 false]) (
 .ret)) (.skip))) (
 .seq (.seq (.g [oF 16 8 2, oW 17 (.sl 1) 16, oF 18 8 3, oW 19 (.sl 1) 18, oC 20 40 [.c .b] [17, 19], oN 21 20]) (
 .cond (.t 21) (.seq (.g [oV 4 false]) (
 .ret)) (.skip))) (
 .seq (.seq (.g [oF 22 9 2, oW 23 (.sl 5) 22, oF 24 9 3, oW 25 (.sl 5) 24, oC 26 41 [.c .b] [23, 25], oN 27 26]) (
 .cond (.t 27) (.seq (.g [oV 4 false]) (
 .ret)) (.skip))) (
 .seq (.seq (.g [oF 28 10 2, oW 29 (.sl 5) 28, oF 30 10 3, oW 31 (.sl 5) 30, oC 32 42 [.c .b] [29, 31], oN 33 32]) (
 .cond (.t 33) (.seq (.g [oV 4 false]) (
 .ret)) (.skip))) (
 .seq (.seq (.g [oF 34 11 2, oW 35 (.sl 1) 34, oF 36 11 3, oW 37 (.sl 1) 36, oC 38 43 [.c .b] [35, 37], oN 39 38]) (
 .cond (.t 39) (.seq (.g [oV 4 false]) (
 .ret)) (.skip))) (
 .seq (.g [oV 4 true]) (
 .ret)))))))))⟩

theorem a11q (T : Table) (k : Nat) (n1 : Int) (n2 : Int) (n3 : Int) (l4 : Rows) (l5 : Rows) (l6 : Rows) (l7 : Rows) (b8 : Bool) (l9 : Rows) (l10 : Rows) (l11 : Rows) (l12 : Rows) (n13 : Int) (n14 : Int) (n15 : Int) (l16 : Rows) (l17 : Rows) (l18 : Rows) (l19 : Rows) (b20 : Bool) (l21 : Rows) (l22 : Rows) (l23 : Rows) (l24 : Rows) : evalF T k a11 [(.g [(.v (.int .i64 n1)), (.v (.int .i64 n2)), (.v (.int .i64 n3)), (.s 13 l4), (.s 6 l5), (.s 5 l6), (.s 1 l7), (.v (.bool b8)), (.s 1 l9), (.s 5 l10), (.s 5 l11), (.s 1 l12)]), (.g [(.v (.int .i64 n13)), (.v (.int .i64 n14)), (.v (.int .i64 n15)), (.s 13 l16), (.s 6 l17), (.s 5 l18), (.s 1 l19), (.v (.bool b20)), (.s 1 l21), (.s 5 l22), (.s 5 l23), (.s 1 l24)])] = (
 callT T 17 [(.g [(.v (.int .i64 n1)), (.v (.int .i64 n2)), (.v (.int .i64 n3)), (.s 13 l4), (.s 6 l5), (.s 5 l6), (.s 1 l7)]), (.g [(.v (.int .i64 n13)), (.v (.int .i64 n14)), (.v (.int .i64 n15)), (.s 13 l16), (.s 6 l17), (.s 5 l18), (.s 1 l19)])] fun o25 =>
 oD o25.res fun d26 =>
 dB d26 fun b27 =>
 bif (!b27) then (
 some ⟨(.d (.v (.bool false))), []⟩) else (
 bif (b8 != b20) then (
 some ⟨(.d (.v (.bool false))), []⟩) else (
 callT T 40 [(.d (.s 1 l9)), (.d (.s 1 l21))] fun o28 =>
 oD o28.res fun d29 =>
 dB d29 fun b30 =>
 bif (!b30) then (
 some ⟨(.d (.v (.bool false))), []⟩) else (
 callT T 41 [(.d (.s 5 l10)), (.d (.s 5 l22))] fun o31 =>
 oD o31.res fun d32 =>
 dB d32 fun b33 =>
 bif (!b33) then (
 some ⟨(.d (.v (.bool false))), []⟩) else (
 callT T 42 [(.d (.s 5 l11)), (.d (.s 5 l23))] fun o34 =>
 oD o34.res fun d35 =>
 dB d35 fun b36 =>
 bif (!b36) then (
 some ⟨(.d (.v (.bool false))), []⟩) else (
 callT T 43 [(.d (.s 1 l12)), (.d (.s 1 l24))] fun o37 =>
 oD o37.res fun d38 =>
 dB d38 fun b39 =>
 bif (!b39) then (
 some ⟨(.d (.v (.bool false))), []⟩) else (
 some ⟨(.d (.v (.bool true))), []⟩))))))) := by kernel_rfl
/- loop.example/g00119/laws.FnExactServed -/

def a3 : AFun := ⟨[.rd, .rd], false, [.t 4], (
 .seq (.g [oQ 2 (.box (.t 0)), oV 4 false]) (
 .seq (.g [oK 5 1048576]) (
 .seq (.g [oL 9 [kI, kI, kI, (.sl 13), (.sl 6), (.sl 5), (.sl 1), .b, (.sl 1), (.sl 5), (.sl 5), (.sl 1)] 2, oM 10 5, oC 11 7 [.c kI] [9, 10], oM 5 11]) (
 .seq (.seq (.g [oM 12 5, oBi 13 .lss 12 0]) (
 .cond (.t 13) (.seq (.g [oV 4 true]) (
 .ret)) (.skip))) (
 .seq (.g [oL 14 [kI, kI, kI, (.sl 13), (.sl 6), (.sl 5), (.sl 1), .b, (.sl 1), (.sl 5), (.sl 5), (.sl 1)] 2, oC 15 9 [.g [kI, kI, kI, (.sl 13), (.sl 6), (.sl 5), (.sl 1), .b, (.sl 1), (.sl 5), (.sl 5), (.sl 1)]] [14], oM 16 1, oC 17 8 [.c kI] [15, 16], oM 6 17]) (
 .seq (.g [oL 18 [kI, kI, kI, (.sl 13), (.sl 6), (.sl 5), (.sl 1), .b, (.sl 1), (.sl 5), (.sl 5), (.sl 1)] 2, oC 19 9 [.g [kI, kI, kI, (.sl 13), (.sl 6), (.sl 5), (.sl 1), .b, (.sl 1), (.sl 5), (.sl 5), (.sl 1)]] [18], oQ 7 (.alloc [(.v (.int .i64 0)), (.v (.int .i64 0)), (.v (.int .i64 0)), (.s 13 []), (.s 6 []), (.s 5 []), (.s 1 []), (.v (.bool false)), (.s 1 []), (.s 5 []), (.s 5 []), (.s 1 [])]), oS (.store 12 (.t 7) (.t 19))]) (
 .seq (.g [oL 20 [kI, kI, kI, (.sl 13), (.sl 6), (.sl 5), (.sl 1), .b, (.sl 1), (.sl 5), (.sl 5), (.sl 1)] 7, oM 21 1, oC 22 10 [.c kI] [20, 21], oM 8 22]) (
 .seq (.seq (.g [oM 23 8, oM 24 6, oB 25 .neq 23 24]) (
 .cond (.t 25) (.seq (.g [oV 4 false]) (
 .ret)) (.skip))) (
 .seq (.seq (.dreg [] [(0, oL 26 [kI, kI, kI, (.sl 13), (.sl 6), (.sl 5), (.sl 1), .b, (.sl 1), (.sl 5), (.sl 5), (.sl 1)] 7), (0, oL 27 [kI, kI, kI, (.sl 13), (.sl 6), (.sl 5), (.sl 1), .b, (.sl 1), (.sl 5), (.sl 5), (.sl 1)] 2), (1, oC 28 9 [.g [kI, kI, kI, (.sl 13), (.sl 6), (.sl 5), (.sl 1), .b, (.sl 1), (.sl 5), (.sl 5), (.sl 1)]] [27])] [oC 29 11 [.c .b] [26, 28], oN 30 29]) (
 .cond (.t 30) (.seq (.g [oV 4 false]) (
 .ret)) (.skip))) (
 .seq (.g [oV 4 true]) (
 .ret)))))))))))⟩

theorem a3q (T : Table) (k : Nat) (n1 : Int) (n2 : Int) (n3 : Int) (l4 : Rows) (l5 : Rows) (l6 : Rows) (l7 : Rows) (b8 : Bool) (l9 : Rows) (l10 : Rows) (l11 : Rows) (l12 : Rows) (n13 : Int) : evalF T k a3 [(.g [(.v (.int .i64 n1)), (.v (.int .i64 n2)), (.v (.int .i64 n3)), (.s 13 l4), (.s 6 l5), (.s 5 l6), (.s 1 l7), (.v (.bool b8)), (.s 1 l9), (.s 5 l10), (.s 5 l11), (.s 1 l12)]), (.d (.v (.int .i64 n13)))] = (
 callT T 7 [(.g [(.v (.int .i64 n1)), (.v (.int .i64 n2)), (.v (.int .i64 n3)), (.s 13 l4), (.s 6 l5), (.s 5 l6), (.s 1 l7), (.v (.bool b8)), (.s 1 l9), (.s 5 l10), (.s 5 l11), (.s 1 l12)]), (.d (.v (.int .i64 1048576)))] fun o14 =>
 oD o14.res fun d15 =>
 dI .i64 d15 fun n16 =>
 bif (decide (n16 < 0)) then (
 some ⟨(.d (.v (.bool true))), []⟩) else (
 callT T 9 [(.g [(.v (.int .i64 n1)), (.v (.int .i64 n2)), (.v (.int .i64 n3)), (.s 13 l4), (.s 6 l5), (.s 5 l6), (.s 1 l7), (.v (.bool b8)), (.s 1 l9), (.s 5 l10), (.s 5 l11), (.s 1 l12)])] fun o17 =>
 oG o17.res fun r18 =>
 tst (Nat.beq r18.length 12) (
 cI .i64 r18 0 fun n19 =>
 cI .i64 r18 1 fun n20 =>
 cI .i64 r18 2 fun n21 =>
 cL 13 r18 3 fun l22 =>
 cL 6 r18 4 fun l23 =>
 cL 5 r18 5 fun l24 =>
 cL 1 r18 6 fun l25 =>
 cB r18 7 fun b26 =>
 cL 1 r18 8 fun l27 =>
 cL 5 r18 9 fun l28 =>
 cL 5 r18 10 fun l29 =>
 cL 1 r18 11 fun l30 =>
 callT T 8 [(.g [(.v (.int .i64 n19)), (.v (.int .i64 n20)), (.v (.int .i64 n21)), (.s 13 l22), (.s 6 l23), (.s 5 l24), (.s 1 l25), (.v (.bool b26)), (.s 1 l27), (.s 5 l28), (.s 5 l29), (.s 1 l30)]), (.d (.v (.int .i64 n13)))] fun o31 =>
 oD o31.res fun d32 =>
 dI .i64 d32 fun n33 =>
 callT T 9 [(.g [(.v (.int .i64 n1)), (.v (.int .i64 n2)), (.v (.int .i64 n3)), (.s 13 l4), (.s 6 l5), (.s 5 l6), (.s 1 l7), (.v (.bool b8)), (.s 1 l9), (.s 5 l10), (.s 5 l11), (.s 1 l12)])] fun o34 =>
 oG o34.res fun r35 =>
 tst (Nat.beq r35.length 12) (
 cI .i64 r35 0 fun n36 =>
 cI .i64 r35 1 fun n37 =>
 cI .i64 r35 2 fun n38 =>
 cL 13 r35 3 fun l39 =>
 cL 6 r35 4 fun l40 =>
 cL 5 r35 5 fun l41 =>
 cL 1 r35 6 fun l42 =>
 cB r35 7 fun b43 =>
 cL 1 r35 8 fun l44 =>
 cL 5 r35 9 fun l45 =>
 cL 5 r35 10 fun l46 =>
 cL 1 r35 11 fun l47 =>
 callT T 10 [(.g [(.v (.int .i64 n36)), (.v (.int .i64 n37)), (.v (.int .i64 n38)), (.s 13 l39), (.s 6 l40), (.s 5 l41), (.s 1 l42), (.v (.bool b43)), (.s 1 l44), (.s 5 l45), (.s 5 l46), (.s 1 l47)]), (.d (.v (.int .i64 n13)))] fun o48 =>
 oD o48.res fun d49 =>
 dI .i64 d49 fun n50 =>
 bif (n50 != n33) then (
 some ⟨(.d (.v (.bool false))), []⟩) else (
 callT T 9 [(.g [(.v (.int .i64 n1)), (.v (.int .i64 n2)), (.v (.int .i64 n3)), (.s 13 l4), (.s 6 l5), (.s 5 l6), (.s 1 l7), (.v (.bool b8)), (.s 1 l9), (.s 5 l10), (.s 5 l11), (.s 1 l12)])] fun o51 =>
 oG o51.res fun r52 =>
 tst (Nat.beq r52.length 12) (
 cI .i64 r52 0 fun n53 =>
 cI .i64 r52 1 fun n54 =>
 cI .i64 r52 2 fun n55 =>
 cL 13 r52 3 fun l56 =>
 cL 6 r52 4 fun l57 =>
 cL 5 r52 5 fun l58 =>
 cL 1 r52 6 fun l59 =>
 cB r52 7 fun b60 =>
 cL 1 r52 8 fun l61 =>
 cL 5 r52 9 fun l62 =>
 cL 5 r52 10 fun l63 =>
 cL 1 r52 11 fun l64 =>
 callT T 11 [(.g [(.v (.int .i64 n36)), (.v (.int .i64 n37)), (.v (.int .i64 n38)), (.s 13 l39), (.s 6 l40), (.s 5 l41), (.s 1 l42), (.v (.bool b43)), (.s 1 l44), (.s 5 l45), (.s 5 l46), (.s 1 l47)]), (.g [(.v (.int .i64 n53)), (.v (.int .i64 n54)), (.v (.int .i64 n55)), (.s 13 l56), (.s 6 l57), (.s 5 l58), (.s 1 l59), (.v (.bool b60)), (.s 1 l61), (.s 5 l62), (.s 5 l63), (.s 1 l64)])] fun o65 =>
 oD o65.res fun d66 =>
 dB d66 fun b67 =>
 bif (!b67) then (
 some ⟨(.d (.v (.bool false))), []⟩) else (
 some ⟨(.d (.v (.bool true))), []⟩))))))) := by kernel_rfl

end Go.Am.Sv
