/- What the functions come to, printed: equations by the kernel. Nothing is assumed. -/
import Derived.Test.YtmgeoejefnablaaDoorAmA
import Derived.KernelRfl
namespace Go.Am.Mt
set_option linter.unusedVariables false
set_option linter.unusedSimpArgs false
set_option maxRecDepth 8000
/- loop.example/g00119/laws.szStringS -/
def b103x0 : ACode := (
 .seq (.seq (.g [oM 12 5, oM 13 0, oZ 14 13, oB 15 .lss 12 14]) (
 .cond (.t 15) (.skip) (.exit 0))) (
 .seq (.block 1 (.seq (.g [oM 18 1, oM 19 0, oM 20 5, oI 21 1 19 20, oW 22 .s 21, oQ 23 (.len true (.t 22)), oB 24 .sub 18 23, oM 1 24]) (
 .seq (.g [oM 25 1, oBi 26 .lss 25 0]) (
 .cond (.t 26) (.seq (.g [oK 4 (-1)]) (
 .ret)) (.skip))))) (
 .g [oM 16 5, oBi 17 .add 16 1, oM 5 17])))
def e103x0 : Exits := [(.ret, [(4, .c kI)]), ((.exit 0), [(1, .c kI)])]
noncomputable def l103x0 (T : Table) (k : Nat) := loopN (evalC ⟨T, []⟩ k b103x0 (Ex × List AV)) [0, 1, 5] e103x0
def a103 : AFun := ⟨[.rd, .rd], false, [.t 4], (
 .seq (.g [oK 4 0]) (
 .seq (.g [oM 6 1, oM 7 0, oZ 8 7, oB 9 .sub 6 8, oM 1 9]) (
 .seq (.seq (.g [oM 10 1, oBi 11 .lss 10 0]) (
 .cond (.t 11) (.seq (.g [oK 4 (-1)]) (
 .ret)) (.skip))) (
 .seq (.seq (.g [oK 5 0]) (
 .block 0 (.loop [0, 1, 5] e103x0 b103x0))) (
 .seq (.g [oM 27 1, oM 4 27]) (
 .ret))))))⟩
theorem l103x0s (T : Table) (k n : Nat) (l3 : Rows) (n4 : Int) (n5 : Int) : l103x0 T k (n + 1) [(.fz 1 l3), (.v (.int .i64 n4)), (.v (.int .i64 n5))] = (
 bif (decide (n5 < (l3.length : Int))) then (
 tst (decide (0 ≤ n5)) (
 look l3 (Int.toNat n5) fun r6 =>
 cS r6 0 fun s7 =>
 bif (decide ((IntKind.wrap .i64 (n4 - (s7.size : Int))) < 0)) then (
 some (.ret, [(.v (.int .i64 (-1)))])) else (
 l103x0 T k n [(.fz 1 l3), (.v (.int .i64 (IntKind.wrap .i64 (n4 - (s7.size : Int))))), (.v (.int .i64 (IntKind.wrap .i64 (n5 + 1))))]))) else (
 some ((.exit 0), [(.v (.int .i64 n4))]))) := by kernel_rfl
theorem a103q (T : Table) (k : Nat) (l1 : Rows) (n2 : Int) : evalF T k a103 [(.d (.s 1 l1)), (.d (.v (.int .i64 n2)))] = (
 bif (decide ((IntKind.wrap .i64 (n2 - (l1.length : Int))) < 0)) then (
 some ⟨(.d (.v (.int .i64 (-1)))), []⟩) else (
 aft (l103x0 T k k [(.fz 1 l1), (.v (.int .i64 (IntKind.wrap .i64 (n2 - (l1.length : Int))))), (.v (.int .i64 0))]) fun e8 ys9 =>
 bif e8.same .ret then (
 aV ys9 0 fun x10 =>
 aI .i64 x10 fun n11 =>
 some ⟨(.d (.v (.int .i64 n11))), []⟩) else (
 bif e8.same (.exit 0) then (
 aV ys9 0 fun x12 =>
 aI .i64 x12 fun n13 =>
 some ⟨(.d (.v (.int .i64 n13))), []⟩) else (
 none)))) := by kernel_rfl
/- loop.example/g00119/laws.szValueS -/
def b104x0 : ACode := (
 .seq (.seq (.g [oM 12 5, oM 13 0, oZ 14 13, oB 15 .lss 12 14]) (
 .cond (.t 15) (.skip) (.exit 0))) (
 .seq (.block 1 (.seq (.g [oM 18 0, oM 19 5, oI 20 5 18 19, oL 21 [kI, .s, kI, (.sl 1), (.sl 5)] 20, oM 22 1, oC 23 83 [.c kI] [21, 22], oM 1 23]) (
 .seq (.g [oM 24 1, oBi 25 .lss 24 0]) (
 .cond (.t 25) (.seq (.g [oK 4 (-1)]) (
 .ret)) (.skip))))) (
 .g [oM 16 5, oBi 17 .add 16 1, oM 5 17])))
def e104x0 : Exits := [(.ret, [(4, .c kI)]), ((.exit 0), [(1, .c kI)])]
noncomputable def l104x0 (T : Table) (k : Nat) := loopN (evalC ⟨T, []⟩ k b104x0 (Ex × List AV)) [0, 1, 5] e104x0
def a104 : AFun := ⟨[.rd, .rd], false, [.t 4], (
 .seq (.g [oK 4 0]) (
 .seq (.g [oM 6 1, oM 7 0, oZ 8 7, oB 9 .sub 6 8, oM 1 9]) (
 .seq (.seq (.g [oM 10 1, oBi 11 .lss 10 0]) (
 .cond (.t 11) (.seq (.g [oK 4 (-1)]) (
 .ret)) (.skip))) (
 .seq (.seq (.g [oK 5 0]) (
 .block 0 (.loop [0, 1, 5] e104x0 b104x0))) (
 .seq (.g [oM 26 1, oM 4 26]) (
 .ret))))))⟩
theorem l104x0s (T : Table) (k n : Nat) (l3 : Rows) (n4 : Int) (n5 : Int) : l104x0 T k (n + 1) [(.fz 5 l3), (.v (.int .i64 n4)), (.v (.int .i64 n5))] = (
 bif (decide (n5 < (l3.length : Int))) then (
 tst (decide (0 ≤ n5)) (
 look l3 (Int.toNat n5) fun r6 =>
 cI .i64 r6 0 fun n7 =>
 cS r6 1 fun s8 =>
 cI .i64 r6 2 fun n9 =>
 cL 1 r6 3 fun l10 =>
 cL 5 r6 4 fun l11 =>
 callT T 83 [(.g [(.v (.int .i64 n7)), (.v (.string s8)), (.v (.int .i64 n9)), (.s 1 l10), (.s 5 l11)]), (.d (.v (.int .i64 n4)))] fun o12 =>
 oD o12.res fun d13 =>
 dI .i64 d13 fun n14 =>
 bif (decide (n14 < 0)) then (
 some (.ret, [(.v (.int .i64 (-1)))])) else (
 l104x0 T k n [(.fz 5 l3), (.v (.int .i64 n14)), (.v (.int .i64 (IntKind.wrap .i64 (n5 + 1))))]))) else (
 some ((.exit 0), [(.v (.int .i64 n4))]))) := by kernel_rfl
theorem a104q (T : Table) (k : Nat) (l1 : Rows) (n2 : Int) : evalF T k a104 [(.d (.s 5 l1)), (.d (.v (.int .i64 n2)))] = (
 bif (decide ((IntKind.wrap .i64 (n2 - (l1.length : Int))) < 0)) then (
 some ⟨(.d (.v (.int .i64 (-1)))), []⟩) else (
 aft (l104x0 T k k [(.fz 5 l1), (.v (.int .i64 (IntKind.wrap .i64 (n2 - (l1.length : Int))))), (.v (.int .i64 0))]) fun e15 ys16 =>
 bif e15.same .ret then (
 aV ys16 0 fun x17 =>
 aI .i64 x17 fun n18 =>
 some ⟨(.d (.v (.int .i64 n18))), []⟩) else (
 bif e15.same (.exit 0) then (
 aV ys16 0 fun x19 =>
 aI .i64 x19 fun n20 =>
 some ⟨(.d (.v (.int .i64 n20))), []⟩) else (
 none)))) := by kernel_rfl
/- loop.example/g00119/laws.szValue -/

def a83 : AFun := ⟨[.rd, .rd], false, [.t 4], (
 .seq (.g [oQ 2 (.box (.t 0)), oK 4 0]) (
 .seq (.g [oM 5 1, oF 6 1 2, oW 7 .s 6, oQ 8 (.len true (.t 7)), oB 9 .sub 5 8, oM 1 9]) (
 .seq (.seq (.g [oM 10 1, oBi 11 .lss 10 0]) (
 .cond (.t 11) (.seq (.g [oK 4 (-1)]) (
 .ret)) (.skip))) (
 .seq (.g [oF 12 3 2, oW 13 (.sl 1) 12, oM 14 1, oC 15 103 [.c kI] [13, 14], oM 1 15]) (
 .seq (.seq (.g [oM 16 1, oBi 17 .lss 16 0]) (
 .cond (.t 17) (.seq (.g [oK 4 (-1)]) (
 .ret)) (.skip))) (
 .seq (.g [oF 18 4 2, oW 19 (.sl 5) 18, oM 20 1, oC 21 104 [.c kI] [19, 20], oM 1 21]) (
 .seq (.seq (.g [oM 22 1, oBi 23 .lss 22 0]) (
 .cond (.t 23) (.seq (.g [oK 4 (-1)]) (
 .ret)) (.skip))) (
 .seq (.g [oM 24 1, oM 4 24]) (
 .ret)))))))))⟩

theorem a83q (T : Table) (k : Nat) (n1 : Int) (s2 : ByteArray) (n3 : Int) (l4 : Rows) (l5 : Rows) (n6 : Int) : evalF T k a83 [(.g [(.v (.int .i64 n1)), (.v (.string s2)), (.v (.int .i64 n3)), (.s 1 l4), (.s 5 l5)]), (.d (.v (.int .i64 n6)))] = (
 bif (decide ((IntKind.wrap .i64 (n6 - (s2.size : Int))) < 0)) then (
 some ⟨(.d (.v (.int .i64 (-1)))), []⟩) else (
 callT T 103 [(.d (.s 1 l4)), (.d (.v (.int .i64 (IntKind.wrap .i64 (n6 - (s2.size : Int))))))] fun o7 =>
 oD o7.res fun d8 =>
 dI .i64 d8 fun n9 =>
 bif (decide (n9 < 0)) then (
 some ⟨(.d (.v (.int .i64 (-1)))), []⟩) else (
 callT T 104 [(.d (.s 5 l5)), (.d (.v (.int .i64 n9)))] fun o10 =>
 oD o10.res fun d11 =>
 dI .i64 d11 fun n12 =>
 bif (decide (n12 < 0)) then (
 some ⟨(.d (.v (.int .i64 (-1)))), []⟩) else (
 some ⟨(.d (.v (.int .i64 n12))), []⟩)))) := by kernel_rfl
/- loop.example/g00119/laws.szWork -/

def a49 : AFun := ⟨[.rd, .rd], false, [.t 4], (
 .seq (.g [oQ 2 (.box (.t 0)), oK 4 0]) (
 .seq (.g [oF 5 2 2, oL 6 [kI, .s, kI, (.sl 1), (.sl 5)] 5, oM 7 1, oC 8 83 [.c kI] [6, 7], oM 1 8]) (
 .seq (.seq (.g [oM 9 1, oBi 10 .lss 9 0]) (
 .cond (.t 10) (.seq (.g [oK 4 (-1)]) (
 .ret)) (.skip))) (
 .seq (.g [oM 11 1, oM 4 11]) (
 .ret)))))⟩

theorem a49q (T : Table) (k : Nat) (n1 : Int) (n2 : Int) (n3 : Int) (s4 : ByteArray) (n5 : Int) (l6 : Rows) (l7 : Rows) (n8 : Int) : evalF T k a49 [(.g [(.v (.int .i64 n1)), (.v (.int .i64 n2)), (.v (.int .i64 n3)), (.v (.string s4)), (.v (.int .i64 n5)), (.s 1 l6), (.s 5 l7)]), (.d (.v (.int .i64 n8)))] = (
 callT T 83 [(.g [(.v (.int .i64 n3)), (.v (.string s4)), (.v (.int .i64 n5)), (.s 1 l6), (.s 5 l7)]), (.d (.v (.int .i64 n8)))] fun o9 =>
 oD o9.res fun d10 =>
 dI .i64 d10 fun n11 =>
 bif (decide (n11 < 0)) then (
 some ⟨(.d (.v (.int .i64 (-1)))), []⟩) else (
 some ⟨(.d (.v (.int .i64 n11))), []⟩)) := by kernel_rfl
/- loop.example/g00119/laws.szWorkS -/
def b23x0 : ACode := (
 .seq (.seq (.g [oM 12 5, oM 13 0, oZ 14 13, oB 15 .lss 12 14]) (
 .cond (.t 15) (.skip) (.exit 0))) (
 .seq (.block 1 (.seq (.g [oM 18 0, oM 19 5, oI 20 7 18 19, oL 21 [kI, kI, kI, .s, kI, (.sl 1), (.sl 5)] 20, oM 22 1, oC 23 49 [.c kI] [21, 22], oM 1 23]) (
 .seq (.g [oM 24 1, oBi 25 .lss 24 0]) (
 .cond (.t 25) (.seq (.g [oK 4 (-1)]) (
 .ret)) (.skip))))) (
 .g [oM 16 5, oBi 17 .add 16 1, oM 5 17])))
def e23x0 : Exits := [(.ret, [(4, .c kI)]), ((.exit 0), [(1, .c kI)])]
noncomputable def l23x0 (T : Table) (k : Nat) := loopN (evalC ⟨T, []⟩ k b23x0 (Ex × List AV)) [0, 1, 5] e23x0
def a23 : AFun := ⟨[.rd, .rd], false, [.t 4], (
 .seq (.g [oK 4 0]) (
 .seq (.g [oM 6 1, oM 7 0, oZ 8 7, oB 9 .sub 6 8, oM 1 9]) (
 .seq (.seq (.g [oM 10 1, oBi 11 .lss 10 0]) (
 .cond (.t 11) (.seq (.g [oK 4 (-1)]) (
 .ret)) (.skip))) (
 .seq (.seq (.g [oK 5 0]) (
 .block 0 (.loop [0, 1, 5] e23x0 b23x0))) (
 .seq (.g [oM 26 1, oM 4 26]) (
 .ret))))))⟩
theorem l23x0s (T : Table) (k n : Nat) (l3 : Rows) (n4 : Int) (n5 : Int) : l23x0 T k (n + 1) [(.fz 7 l3), (.v (.int .i64 n4)), (.v (.int .i64 n5))] = (
 bif (decide (n5 < (l3.length : Int))) then (
 tst (decide (0 ≤ n5)) (
 look l3 (Int.toNat n5) fun r6 =>
 cI .i64 r6 0 fun n7 =>
 cI .i64 r6 1 fun n8 =>
 cI .i64 r6 2 fun n9 =>
 cS r6 3 fun s10 =>
 cI .i64 r6 4 fun n11 =>
 cL 1 r6 5 fun l12 =>
 cL 5 r6 6 fun l13 =>
 callT T 49 [(.g [(.v (.int .i64 n7)), (.v (.int .i64 n8)), (.v (.int .i64 n9)), (.v (.string s10)), (.v (.int .i64 n11)), (.s 1 l12), (.s 5 l13)]), (.d (.v (.int .i64 n4)))] fun o14 =>
 oD o14.res fun d15 =>
 dI .i64 d15 fun n16 =>
 bif (decide (n16 < 0)) then (
 some (.ret, [(.v (.int .i64 (-1)))])) else (
 l23x0 T k n [(.fz 7 l3), (.v (.int .i64 n16)), (.v (.int .i64 (IntKind.wrap .i64 (n5 + 1))))]))) else (
 some ((.exit 0), [(.v (.int .i64 n4))]))) := by kernel_rfl
theorem a23q (T : Table) (k : Nat) (l1 : Rows) (n2 : Int) : evalF T k a23 [(.d (.s 7 l1)), (.d (.v (.int .i64 n2)))] = (
 bif (decide ((IntKind.wrap .i64 (n2 - (l1.length : Int))) < 0)) then (
 some ⟨(.d (.v (.int .i64 (-1)))), []⟩) else (
 aft (l23x0 T k k [(.fz 7 l1), (.v (.int .i64 (IntKind.wrap .i64 (n2 - (l1.length : Int))))), (.v (.int .i64 0))]) fun e17 ys18 =>
 bif e17.same .ret then (
 aV ys18 0 fun x19 =>
 aI .i64 x19 fun n20 =>
 some ⟨(.d (.v (.int .i64 n20))), []⟩) else (
 bif e17.same (.exit 0) then (
 aV ys18 0 fun x21 =>
 aI .i64 x21 fun n22 =>
 some ⟨(.d (.v (.int .i64 n22))), []⟩) else (
 none)))) := by kernel_rfl
/- loop.example/g00119/laws.szRunS -/

def a24 : AFun := ⟨[.rd, .rd], false, [.t 4], (
 .seq (.g [oK 4 0]) (
 .seq (.g [oM 5 1, oM 6 0, oZ 7 6, oB 8 .sub 5 7, oM 1 8]) (
 .seq (.seq (.g [oM 9 1, oBi 10 .lss 9 0]) (
 .cond (.t 10) (.seq (.g [oK 4 (-1)]) (
 .ret)) (.skip))) (
 .seq (.g [oM 11 1, oM 4 11]) (
 .ret)))))⟩

theorem a24q (T : Table) (k : Nat) (l1 : Rows) (n2 : Int) : evalF T k a24 [(.d (.s 2 l1)), (.d (.v (.int .i64 n2)))] = (
 bif (decide ((IntKind.wrap .i64 (n2 - (l1.length : Int))) < 0)) then (
 some ⟨(.d (.v (.int .i64 (-1)))), []⟩) else (
 some ⟨(.d (.v (.int .i64 (IntKind.wrap .i64 (n2 - (l1.length : Int)))))), []⟩)) := by kernel_rfl
/- loop.example/g00119/laws.szMsg -/

def a6 : AFun := ⟨[.rd, .rd], false, [.t 4], (
 .seq (.g [oQ 2 (.box (.t 0)), oK 4 0]) (
 .seq (.g [oM 5 1, oF 6 1 2, oW 7 .s 6, oQ 8 (.len true (.t 7)), oB 9 .sub 5 8, oM 1 9]) (
 .seq (.seq (.g [oM 10 1, oBi 11 .lss 10 0]) (
 .cond (.t 11) (.seq (.g [oK 4 (-1)]) (
 .ret)) (.skip))) (
 .seq (.g [oF 12 3 2, oW 13 (.sl 7) 12, oM 14 1, oC 15 23 [.c kI] [13, 14], oM 1 15]) (
 .seq (.seq (.g [oM 16 1, oBi 17 .lss 16 0]) (
 .cond (.t 17) (.seq (.g [oK 4 (-1)]) (
 .ret)) (.skip))) (
 .seq (.g [oF 18 4 2, oW 19 (.sl 2) 18, oM 20 1, oC 21 24 [.c kI] [19, 20], oM 1 21]) (
 .seq (.seq (.g [oM 22 1, oBi 23 .lss 22 0]) (
 .cond (.t 23) (.seq (.g [oK 4 (-1)]) (
 .ret)) (.skip))) (
 .seq (.g [oM 24 1, oM 4 24]) (
 .ret)))))))))⟩

theorem a6q (T : Table) (k : Nat) (n1 : Int) (s2 : ByteArray) (n3 : Int) (l4 : Rows) (l5 : Rows) (n6 : Int) : evalF T k a6 [(.g [(.v (.int .i64 n1)), (.v (.string s2)), (.v (.int .i64 n3)), (.s 7 l4), (.s 2 l5)]), (.d (.v (.int .i64 n6)))] = (
 bif (decide ((IntKind.wrap .i64 (n6 - (s2.size : Int))) < 0)) then (
 some ⟨(.d (.v (.int .i64 (-1)))), []⟩) else (
 callT T 23 [(.d (.s 7 l4)), (.d (.v (.int .i64 (IntKind.wrap .i64 (n6 - (s2.size : Int))))))] fun o7 =>
 oD o7.res fun d8 =>
 dI .i64 d8 fun n9 =>
 bif (decide (n9 < 0)) then (
 some ⟨(.d (.v (.int .i64 (-1)))), []⟩) else (
 callT T 24 [(.d (.s 2 l5)), (.d (.v (.int .i64 n9)))] fun o10 =>
 oD o10.res fun d11 =>
 dI .i64 d11 fun n12 =>
 bif (decide (n12 < 0)) then (
 some ⟨(.d (.v (.int .i64 (-1)))), []⟩) else (
 some ⟨(.d (.v (.int .i64 n12))), []⟩)))) := by kernel_rfl
/- loop.example/g00119/spec.l1In -/

def a51 : AFun := ⟨[.rd, .rd, .rd], false, [.t 6], (
 .seq (.g [oV 6 false]) (
 .seq (.g [oM 7 0, oM 8 1, oB 9 .geq 7 8, oM 10 9, oJ 11 10 true (.mv (.t 0)), oJ 12 10 true (.mv (.t 2)), oJ 13 10 true (.bin .leq (.t 11) (.t 12)), oQ 14 (.pick (.t 10) (.t 13) (.b false)), oM 6 14]) (
 .ret)))⟩

theorem a51q (T : Table) (k : Nat) (n1 : Int) (n2 : Int) (n3 : Int) : evalF T k a51 [(.d (.v (.int .i64 n1))), (.d (.v (.int .i64 n2))), (.d (.v (.int .i64 n3)))] = (
 bif (decide (n1 ≥ n2)) == true then (
 some ⟨(.d (.v (.bool (decide (n1 ≤ n3))))), []⟩) else (
 some ⟨(.d (.v (.bool false))), []⟩)) := by kernel_rfl
/- loop.example/g00119/spec.NameOk -/
def b50x0 : ACode := (
 .seq (.seq (.g [oM 4 3, oM 5 0, oQ 6 (.len true (.t 5)), oB 7 .lss 4 6]) (
 .cond (.t 7) (.skip) (.exit 0))) (
 .seq (.block 1 (.seq (.g [oM 10 0, oM 11 3, oQ 12 (.idx (.t 10) (.t 11)), oQ 13 (.conv (.int .i64) (.t 12)), oQ 14 (.call (.f 51) [.rd, .rd, .rd] false [.c .b] [(.t 13), (.i 97), (.i 122)]), oN 15 14, oM 16 15, oJ 17 16 true (.mv (.t 0)), oJ 18 16 true (.mv (.t 3)), oJ 19 16 true (.idx (.t 17) (.t 18)), oJ 20 16 true (.conv (.int .i64) (.t 19)), oJ 21 16 true (.call (.f 51) [.rd, .rd, .rd] false [.c .b] [(.t 20), (.i 48), (.i 57)]), oJ 22 16 true (.un .not (.t 21)), oQ 23 (.pick (.t 16) (.t 22) (.b false)), oM 24 23, oJ 25 24 true (.mv (.t 0)), oJ 26 24 true (.mv (.t 3)), oJ 27 24 true (.idx (.t 25) (.t 26)), oJ 28 24 true (.bin .neq (.t 27) (.c (.v (.int .u8 45)))), oQ 29 (.pick (.t 24) (.t 28) (.b false))]) (
 .cond (.t 29) (.seq (.g [oV 2 false]) (
 .ret)) (.skip)))) (
 .g [oM 8 3, oBi 9 .add 8 1, oM 3 9])))
def e50x0 : Exits := [(.ret, [(2, .c .b)]), ((.exit 0), [(0, .c .s)])]
noncomputable def l50x0 (T : Table) (k : Nat) := loopN (evalC ⟨T, []⟩ k b50x0 (Ex × List AV)) [0, 3] e50x0
def a50 : AFun := ⟨[.rd], false, [.t 2], (
 .seq (.g [oV 2 false]) (
 .seq (.seq (.g [oK 3 0]) (
 .block 0 (.loop [0, 3] e50x0 b50x0))) (
 .seq (.g [oM 30 0, oQ 31 (.len true (.t 30)), oQ 32 (.call (.f 51) [.rd, .rd, .rd] false [.c .b] [(.t 31), (.i 1), (.i 20)]), oM 33 32, oJ 34 33 true (.mv (.t 0)), oJ 35 33 true (.idx (.t 34) (.i 0)), oJ 36 33 true (.bin .neq (.t 35) (.c (.v (.int .u8 45)))), oQ 37 (.pick (.t 33) (.t 36) (.b false)), oM 38 37, oJ 39 38 true (.mv (.t 0)), oJ 40 38 true (.mv (.t 0)), oJ 41 38 true (.len true (.t 40)), oJ 42 38 true (.bin .sub (.t 41) (.i 1)), oJ 43 38 true (.idx (.t 39) (.t 42)), oJ 44 38 true (.bin .neq (.t 43) (.c (.v (.int .u8 45)))), oQ 45 (.pick (.t 38) (.t 44) (.b false)), oM 2 45]) (
 .ret))))⟩
theorem l50x0s (T : Table) (k n : Nat) (s2 : ByteArray) (n3 : Int) : l50x0 T k (n + 1) [(.v (.string s2)), (.v (.int .i64 n3))] = (
 bif (decide (n3 < (s2.size : Int))) then (
 tst (decide (0 ≤ n3)) (
 byteAt s2 (Int.toNat n3) fun c4 =>
 callT T 51 [(.d (.v (.int .i64 (IntKind.wrap .i64 (c4.toNat : Int))))), (.d (.v (.int .i64 97))), (.d (.v (.int .i64 122)))] fun o5 =>
 oD o5.res fun d6 =>
 dB d6 fun b7 =>
 bif (!b7) == true then (
 tst (decide (0 ≤ n3)) (
 byteAt s2 (Int.toNat n3) fun c8 =>
 callT T 51 [(.d (.v (.int .i64 (IntKind.wrap .i64 (c8.toNat : Int))))), (.d (.v (.int .i64 48))), (.d (.v (.int .i64 57)))] fun o9 =>
 oD o9.res fun d10 =>
 dB d10 fun b11 =>
 bif (!b11) == true then (
 tst (decide (0 ≤ n3)) (
 byteAt s2 (Int.toNat n3) fun c12 =>
 bif ((c12.toNat : Int) != 45) then (
 some (.ret, [(.v (.bool false))])) else (
 l50x0 T k n [(.v (.string s2)), (.v (.int .i64 (IntKind.wrap .i64 (n3 + 1))))]))) else (
 l50x0 T k n [(.v (.string s2)), (.v (.int .i64 (IntKind.wrap .i64 (n3 + 1))))]))) else (
 l50x0 T k n [(.v (.string s2)), (.v (.int .i64 (IntKind.wrap .i64 (n3 + 1))))]))) else (
 some ((.exit 0), [(.v (.string s2))]))) := by kernel_rfl
theorem a50q (T : Table) (k : Nat) (s1 : ByteArray) : evalF T k a50 [(.d (.v (.string s1)))] = (
 aft (l50x0 T k k [(.v (.string s1)), (.v (.int .i64 0))]) fun e13 ys14 =>
 bif e13.same .ret then (
 aV ys14 0 fun x15 =>
 aB x15 fun b16 =>
 some ⟨(.d (.v (.bool b16))), []⟩) else (
 bif e13.same (.exit 0) then (
 aV ys14 0 fun x17 =>
 aS x17 fun s18 =>
 callT T 51 [(.d (.v (.int .i64 (s18.size : Int)))), (.d (.v (.int .i64 1))), (.d (.v (.int .i64 20)))] fun o19 =>
 oD o19.res fun d20 =>
 dB d20 fun b21 =>
 bif b21 == true then (
 tst (decide (0 ≤ 0)) (
 byteAt s18 (Int.toNat 0) fun c22 =>
 bif ((c22.toNat : Int) != 45) == true then (
 tst (decide (0 ≤ (IntKind.wrap .i64 ((s18.size : Int) - 1)))) (
 byteAt s18 (Int.toNat (IntKind.wrap .i64 ((s18.size : Int) - 1))) fun c23 =>
 some ⟨(.d (.v (.bool ((c23.toNat : Int) != 45)))), []⟩)) else (
 some ⟨(.d (.v (.bool false))), []⟩))) else (
 some ⟨(.d (.v (.bool false))), []⟩)) else (
 none))) := by kernel_rfl
/- loop.example/g00119/spec.l11Runs -/
def b52x0 : ACode := (
 .seq (.seq (.g [oM 6 5, oM 7 0, oZ 8 7, oB 9 .lss 6 8]) (
 .cond (.t 9) (.skip) (.exit 0))) (
 .seq (.block 1 (.seq (.dreg [] [(0, oM 12 0), (0, oM 13 5), (0, oI 14 2 12 13), (0, oF 15 0 14), (0, oW 16 kI 15), (1, oQ 17 (.call (.f 51) [.rd, .rd, .rd] false [.c .b] [(.t 16), (.i 1), (.i 1000000)])), (0, oN 18 17), (0, oM 19 18), (0, oJ 20 19 false (.mv (.t 0))), (0, oJ 21 19 false (.mv (.t 5))), (0, oJ 22 19 false (.iad 2 (.t 20) (.t 21))), (0, oJ 23 19 false (.fad 1 (.t 22))), (0, oJ 24 19 false (.load false [kI] (.t 23))), (0, oJ 25 19 false (.mv (.t 1))), (1, oJ 26 19 false (.call (.f 51) [.rd, .rd, .rd] false [.c .b] [(.t 24), (.t 25), (.i 10000)])), (0, oJ 27 19 false (.un .not (.t 26))), (0, oQ 28 (.pick (.t 19) (.b true) (.t 27))), (0, oM 29 28), (0, oJ 30 29 false (.mv (.t 5))), (0, oJ 31 29 false (.bin .gtr (.t 30) (.i 0))), (0, oJ 32 29 false (.mv (.t 31))), (0, oJ 33 32 true (.mv (.t 0))), (0, oJ 34 32 true (.mv (.t 5))), (0, oJ 35 32 true (.bin .sub (.t 34) (.i 1))), (0, oJ 36 32 true (.iad 2 (.t 33) (.t 35))), (0, oJ 37 32 true (.fad 0 (.t 36))), (0, oJ 38 32 true (.load false [kI] (.t 37))), (0, oJ 39 32 true (.mv (.t 0))), (0, oJ 40 32 true (.mv (.t 5))), (0, oJ 41 32 true (.iad 2 (.t 39) (.t 40))), (0, oJ 42 32 true (.fad 0 (.t 41))), (0, oJ 43 32 true (.load false [kI] (.t 42)))] [oJ 44 32 true (.bin .geq (.t 38) (.t 43)), oJ 45 29 false (.pick (.t 32) (.t 44) (.b false)), oQ 46 (.pick (.t 29) (.b true) (.t 45))]) (
 .cond (.t 46) (.seq (.g [oV 4 false]) (
 .ret)) (.skip)))) (
 .g [oM 10 5, oBi 11 .add 10 1, oM 5 11])))
def e52x0 : Exits := [(.ret, [(4, .c .b)]), ((.exit 0), [(0, .c (.sl 2))])]
noncomputable def l52x0 (T : Table) (k : Nat) := loopN (evalC ⟨T, []⟩ k b52x0 (Ex × List AV)) [0, 1, 5] e52x0
def a52 : AFun := ⟨[.rd, .rd], false, [.t 4], (
 .seq (.g [oV 4 false]) (
 .seq (.seq (.g [oK 5 0]) (
 .block 0 (.loop [0, 1, 5] e52x0 b52x0))) (
 .seq (.g [oM 47 0, oZ 48 47, oBi 49 .leq 48 80, oM 4 49]) (
 .ret))))⟩
theorem l52x0s (T : Table) (k n : Nat) (l3 : Rows) (n4 : Int) (n5 : Int) : l52x0 T k (n + 1) [(.fz 2 l3), (.v (.int .i64 n4)), (.v (.int .i64 n5))] = (
 bif (decide (n5 < (l3.length : Int))) then (
 tst (decide (0 ≤ n5)) (
 look l3 (Int.toNat n5) fun r6 =>
 cI .i64 r6 0 fun n7 =>
 callT T 51 [(.d (.v (.int .i64 n7))), (.d (.v (.int .i64 1))), (.d (.v (.int .i64 1000000)))] fun o8 =>
 oD o8.res fun d9 =>
 dB d9 fun b10 =>
 bif (!b10) == false then (
 tst (decide (0 ≤ n5)) (
 look l3 (Int.toNat n5) fun r11 =>
 cI .i64 r11 1 fun n12 =>
 callT T 51 [(.d (.v (.int .i64 n12))), (.d (.v (.int .i64 n4))), (.d (.v (.int .i64 10000)))] fun o13 =>
 oD o13.res fun d14 =>
 dB d14 fun b15 =>
 bif (!b15) == false then (
 bif (decide (n5 > 0)) == true then (
 tst (decide (0 ≤ (IntKind.wrap .i64 (n5 - 1)))) (
 look l3 (Int.toNat (IntKind.wrap .i64 (n5 - 1))) fun r16 =>
 cI .i64 r16 0 fun n17 =>
 tst (decide (0 ≤ n5)) (
 look l3 (Int.toNat n5) fun r18 =>
 cI .i64 r18 0 fun n19 =>
 bif (decide (n17 ≥ n19)) then (
 some (.ret, [(.v (.bool false))])) else (
 l52x0 T k n [(.fz 2 l3), (.v (.int .i64 n4)), (.v (.int .i64 (IntKind.wrap .i64 (n5 + 1))))])))) else (
 l52x0 T k n [(.fz 2 l3), (.v (.int .i64 n4)), (.v (.int .i64 (IntKind.wrap .i64 (n5 + 1))))])) else (
 some (.ret, [(.v (.bool false))])))) else (
 some (.ret, [(.v (.bool false))])))) else (
 some ((.exit 0), [(.fz 2 l3)]))) := by kernel_rfl
theorem a52q (T : Table) (k : Nat) (l1 : Rows) (n2 : Int) : evalF T k a52 [(.d (.s 2 l1)), (.d (.v (.int .i64 n2)))] = (
 aft (l52x0 T k k [(.fz 2 l1), (.v (.int .i64 n2)), (.v (.int .i64 0))]) fun e20 ys21 =>
 bif e20.same .ret then (
 aV ys21 0 fun x22 =>
 aB x22 fun b23 =>
 some ⟨(.d (.v (.bool b23))), []⟩) else (
 bif e20.same (.exit 0) then (
 aV ys21 0 fun x24 =>
 aL 2 x24 fun l25 =>
 some ⟨(.d (.v (.bool (decide ((l25.length : Int) ≤ 80))))), []⟩) else (
 none))) := by kernel_rfl
/- loop.example/g00119/spec.l4Text -/
def b80x0 : ACode := (
 .seq (.seq (.g [oM 4 3, oM 5 0, oQ 6 (.len true (.t 5)), oB 7 .lss 4 6]) (
 .cond (.t 7) (.skip) (.exit 0))) (
 .seq (.block 1 (.seq (.g [oM 10 0, oM 11 3, oQ 12 (.idx (.t 10) (.t 11)), oQ 13 (.conv (.int .i64) (.t 12)), oQ 14 (.call (.f 51) [.rd, .rd, .rd] false [.c .b] [(.t 13), (.i 32), (.i 126)]), oN 15 14]) (
 .cond (.t 15) (.seq (.g [oV 2 false]) (
 .ret)) (.skip)))) (
 .g [oM 8 3, oBi 9 .add 8 1, oM 3 9])))
def e80x0 : Exits := [(.ret, [(2, .c .b)]), ((.exit 0), [(0, .c .s)])]
noncomputable def l80x0 (T : Table) (k : Nat) := loopN (evalC ⟨T, []⟩ k b80x0 (Ex × List AV)) [0, 3] e80x0
def a80 : AFun := ⟨[.rd], false, [.t 2], (
 .seq (.g [oV 2 false]) (
 .seq (.seq (.g [oK 3 0]) (
 .block 0 (.loop [0, 3] e80x0 b80x0))) (
 .seq (.g [oM 16 0, oQ 17 (.len true (.t 16)), oBi 18 .leq 17 100, oM 2 18]) (
 .ret))))⟩
theorem l80x0s (T : Table) (k n : Nat) (s2 : ByteArray) (n3 : Int) : l80x0 T k (n + 1) [(.v (.string s2)), (.v (.int .i64 n3))] = (
 bif (decide (n3 < (s2.size : Int))) then (
 tst (decide (0 ≤ n3)) (
 byteAt s2 (Int.toNat n3) fun c4 =>
 callT T 51 [(.d (.v (.int .i64 (IntKind.wrap .i64 (c4.toNat : Int))))), (.d (.v (.int .i64 32))), (.d (.v (.int .i64 126)))] fun o5 =>
 oD o5.res fun d6 =>
 dB d6 fun b7 =>
 bif (!b7) then (
 some (.ret, [(.v (.bool false))])) else (
 l80x0 T k n [(.v (.string s2)), (.v (.int .i64 (IntKind.wrap .i64 (n3 + 1))))]))) else (
 some ((.exit 0), [(.v (.string s2))]))) := by kernel_rfl
theorem a80q (T : Table) (k : Nat) (s1 : ByteArray) : evalF T k a80 [(.d (.v (.string s1)))] = (
 aft (l80x0 T k k [(.v (.string s1)), (.v (.int .i64 0))]) fun e8 ys9 =>
 bif e8.same .ret then (
 aV ys9 0 fun x10 =>
 aB x10 fun b11 =>
 some ⟨(.d (.v (.bool b11))), []⟩) else (
 bif e8.same (.exit 0) then (
 aV ys9 0 fun x12 =>
 aS x12 fun s13 =>
 some ⟨(.d (.v (.bool (decide ((s13.size : Int) ≤ 100))))), []⟩) else (
 none))) := by kernel_rfl
/- loop.example/g00119/spec.l4Keys -/
def b81x0 : ACode := (
 .seq (.seq (.g [oM 4 3, oF 5 3 1, oW 6 (.sl 1) 5, oZ 7 6, oB 8 .lss 4 7]) (
 .cond (.t 8) (.skip) (.exit 0))) (
 .seq (.block 1 (.seq (.dreg [] [(0, oF 11 3 1), (0, oW 12 (.sl 1) 11), (0, oM 13 3), (0, oI 14 1 12 13), (0, oW 15 .s 14), (1, oC 16 50 [.c .b] [15]), (0, oN 17 16), (0, oM 18 17), (0, oJ 19 18 false (.mv (.t 3))), (0, oJ 20 18 false (.bin .gtr (.t 19) (.i 0))), (0, oJ 21 18 false (.mv (.t 20))), (0, oJ 22 21 true (.fad 3 (.t 1))), (0, oJ 23 21 true (.load false [(.sl 1)] (.t 22))), (0, oJ 24 21 true (.mv (.t 3))), (0, oJ 25 21 true (.bin .sub (.t 24) (.i 1))), (0, oJ 26 21 true (.iad 1 (.t 23) (.t 25))), (0, oJ 27 21 true (.load false [.s] (.t 26))), (0, oJ 28 21 true (.fad 3 (.t 1))), (0, oJ 29 21 true (.load false [(.sl 1)] (.t 28))), (0, oJ 30 21 true (.mv (.t 3))), (0, oJ 31 21 true (.iad 1 (.t 29) (.t 30))), (0, oJ 32 21 true (.load false [.s] (.t 31)))] [oJ 33 21 true (.bin .geq (.t 27) (.t 32)), oJ 34 18 false (.pick (.t 21) (.t 33) (.b false)), oQ 35 (.pick (.t 18) (.b true) (.t 34))]) (
 .cond (.t 35) (.seq (.g [oV 2 false]) (
 .ret)) (.skip)))) (
 .g [oM 9 3, oBi 10 .add 9 1, oM 3 10])))
def e81x0 : Exits := [(.ret, [(2, .c .b)]), ((.exit 0), [(1, .b [.c kI, .c .s, .c kI, .c (.sl 1), .c (.sl 5)])])]
noncomputable def l81x0 (T : Table) (k : Nat) := loopN (evalC ⟨T, []⟩ k b81x0 (Ex × List AV)) [1, 3] e81x0
def a81 : AFun := ⟨[.rd], false, [.t 2], (
 .seq (.g [oQ 1 (.box (.t 0)), oV 2 false]) (
 .seq (.seq (.g [oK 3 0]) (
 .block 0 (.loop [1, 3] e81x0 b81x0))) (
 .seq (.g [oF 36 3 1, oW 37 (.sl 1) 36, oZ 38 37, oF 39 4 1, oW 40 (.sl 5) 39, oZ 41 40, oB 42 .eql 38 41, oM 2 42]) (
 .ret))))⟩
theorem l81x0s (T : Table) (k n : Nat) (n6 : Int) (s7 : ByteArray) (n8 : Int) (l9 : Rows) (l10 : Rows) (n11 : Int) : l81x0 T k (n + 1) [(.b [(.v (.int .i64 n6)), (.v (.string s7)), (.v (.int .i64 n8)), (.fz 1 l9), (.fz 5 l10)]), (.v (.int .i64 n11))] = (
 bif (decide (n11 < (l9.length : Int))) then (
 tst (decide (0 ≤ n11)) (
 look l9 (Int.toNat n11) fun r12 =>
 cS r12 0 fun s13 =>
 callT T 50 [(.d (.v (.string s13)))] fun o14 =>
 oD o14.res fun d15 =>
 dB d15 fun b16 =>
 bif (!b16) == false then (
 bif (decide (n11 > 0)) == true then (
 tst (decide (0 ≤ (IntKind.wrap .i64 (n11 - 1)))) (
 look l9 (Int.toNat (IntKind.wrap .i64 (n11 - 1))) fun r17 =>
 cS r17 0 fun s18 =>
 tst (decide (0 ≤ n11)) (
 look l9 (Int.toNat n11) fun r19 =>
 cS r19 0 fun s20 =>
 bif (!(bytesLess s18 s20)) then (
 some (.ret, [(.v (.bool false))])) else (
 l81x0 T k n [(.b [(.v (.int .i64 n6)), (.v (.string s7)), (.v (.int .i64 n8)), (.fz 1 l9), (.fz 5 l10)]), (.v (.int .i64 (IntKind.wrap .i64 (n11 + 1))))])))) else (
 l81x0 T k n [(.b [(.v (.int .i64 n6)), (.v (.string s7)), (.v (.int .i64 n8)), (.fz 1 l9), (.fz 5 l10)]), (.v (.int .i64 (IntKind.wrap .i64 (n11 + 1))))])) else (
 some (.ret, [(.v (.bool false))])))) else (
 some ((.exit 0), [(.b [(.v (.int .i64 n6)), (.v (.string s7)), (.v (.int .i64 n8)), (.fz 1 l9), (.fz 5 l10)])]))) := by kernel_rfl
theorem a81q (T : Table) (k : Nat) (n1 : Int) (s2 : ByteArray) (n3 : Int) (l4 : Rows) (l5 : Rows) : evalF T k a81 [(.g [(.v (.int .i64 n1)), (.v (.string s2)), (.v (.int .i64 n3)), (.s 1 l4), (.s 5 l5)])] = (
 aft (l81x0 T k k [(.b [(.v (.int .i64 n1)), (.v (.string s2)), (.v (.int .i64 n3)), (.fz 1 l4), (.fz 5 l5)]), (.v (.int .i64 0))]) fun e21 ys22 =>
 bif e21.same .ret then (
 aV ys22 0 fun x23 =>
 aB x23 fun b24 =>
 some ⟨(.d (.v (.bool b24))), []⟩) else (
 bif e21.same (.exit 0) then (
 aV ys22 0 fun x25 =>
 aX x25 fun xs26 =>
 aV xs26 0 fun x27 =>
 aI .i64 x27 fun n28 =>
 aV xs26 1 fun x29 =>
 aS x29 fun s30 =>
 aV xs26 2 fun x31 =>
 aI .i64 x31 fun n32 =>
 aV xs26 3 fun x33 =>
 aL 1 x33 fun l34 =>
 aV xs26 4 fun x35 =>
 aL 5 x35 fun l36 =>
 some ⟨(.d (.v (.bool ((l34.length : Int) == (l36.length : Int))))), []⟩) else (
 none))) := by kernel_rfl
/- loop.example/g00119/spec.l4Look -/
def b45x0 : ACode := (
 .seq (.seq (.g [oM 12 6, oF 13 4 2, oW 14 (.sl 5) 13, oZ 15 14, oB 16 .lss 12 15]) (
 .cond (.t 16) (.skip) (.exit 0))) (
 .seq (.block 1 (.seq (.g [oF 19 4 2, oW 20 (.sl 5) 19, oM 21 6, oI 22 5 20 21, oL 23 [kI, .s, kI, (.sl 1), (.sl 5)] 22, oM 24 1, oBi 25 .sub 24 1, oC 26 45 [.c kI] [23, 25], oM 7 26]) (
 .seq (.seq (.g [oM 27 7, oBi 28 .eql 27 0, oM 29 28, oJ 30 29 false (.mv (.t 5)), oJ 31 29 false (.mv (.t 7)), oJ 32 29 false (.bin .add (.t 30) (.t 31)), oJ 33 29 false (.bin .gtr (.t 32) (.i 300)), oQ 34 (.pick (.t 29) (.b true) (.t 33))]) (
 .cond (.t 34) (.seq (.g [oK 4 0]) (
 .ret)) (.skip))) (
 .g [oM 35 5, oM 36 7, oB 37 .add 35 36, oM 5 37])))) (
 .g [oM 17 6, oBi 18 .add 17 1, oM 6 18])))
def e45x0 : Exits := [(.ret, [(4, .c kI)]), ((.exit 0), [(2, .b [.c kI, .c .s, .c kI, .c (.sl 1), .c (.sl 5)]), (5, .c kI)])]
noncomputable def l45x0 (T : Table) (k : Nat) := loopN (evalC ⟨T, []⟩ k b45x0 (Ex × List AV)) [1, 2, 5, 6] e45x0
def a45 : AFun := ⟨[.rd, .rd], false, [.t 4], (
 .seq (.g [oQ 2 (.box (.t 0)), oK 4 0]) (
 .seq (.seq (.g [oM 10 1, oBi 11 .eql 10 0]) (
 .cond (.t 11) (.seq (.g [oK 4 0]) (
 .ret)) (.skip))) (
 .seq (.g [oK 5 1]) (
 .seq (.seq (.g [oK 6 0]) (
 .block 0 (.loop [1, 2, 5, 6] e45x0 b45x0))) (
 .seq (.g [oF 38 3 2, oW 39 (.sl 1) 38, oZ 40 39, oBi 41 .eql 40 0, oM 42 41, oJ 43 42 true (.fad 4 (.t 2)), oJ 44 42 true (.load false [(.sl 5)] (.t 43)), oJ 45 42 true (.len false (.t 44)), oJ 46 42 true (.bin .eql (.t 45) (.i 0)), oQ 47 (.pick (.t 42) (.t 46) (.b false)), oM 8 47]) (
 .seq (.g [oV 9 false]) (
 .seq (.seq (.g [oF 48 0 2, oW 49 kI 48]) (
 .block 2 (.seq (.g [oBi 51 .eql 49 1, oM 50 51]) (
 .cond (.t 50) (.g [oM 52 8, oM 53 52, oJ 54 53 true (.fad 2 (.t 2)), oJ 55 53 true (.load false [kI] (.t 54)), oJ 56 53 true (.bin .eql (.t 55) (.i 0)), oQ 57 (.pick (.t 53) (.t 56) (.b false)), oM 58 57, oJ 59 58 true (.fad 1 (.t 2)), oJ 60 58 true (.load false [.s] (.t 59)), oJ 61 58 true (.call (.f 80) [.rd] false [.c .b] [(.t 60)]), oQ 62 (.pick (.t 58) (.t 61) (.b false)), oM 9 62]) (.seq (.g [oBi 64 .eql 49 2, oM 63 64]) (
 .cond (.t 63) (.g [oM 65 8, oM 66 65, oJ 67 66 true (.fad 1 (.t 2)), oJ 68 66 true (.load false [.s] (.t 67)), oJ 69 66 true (.bin .eql (.t 68) (.c (.v (.string ({ data := #[] } : ByteArray))))), oQ 70 (.pick (.t 66) (.t 69) (.b false)), oM 9 70]) (.seq (.g [oBi 72 .eql 49 3, oM 71 72]) (
 .cond (.t 71) (.g [oM 73 8, oM 74 73, oJ 75 74 true (.fad 1 (.t 2)), oJ 76 74 true (.load false [.s] (.t 75)), oJ 77 74 true (.bin .eql (.t 76) (.c (.v (.string ({ data := #[] } : ByteArray))))), oQ 78 (.pick (.t 74) (.t 77) (.b false)), oM 79 78, oJ 80 79 true (.fad 2 (.t 2)), oJ 81 79 true (.load false [kI] (.t 80)), oJ 82 79 true (.call (.f 51) [.rd, .rd, .rd] false [.c .b] [(.t 81), (.i 0), (.i 1)]), oQ 83 (.pick (.t 79) (.t 82) (.b false)), oM 9 83]) (.seq (.g [oBi 85 .eql 49 4, oM 84 85]) (
 .cond (.t 84) (.g [oF 86 3 2, oW 87 (.sl 1) 86, oZ 88 87, oBi 89 .eql 88 0, oM 90 89, oJ 91 90 true (.fad 1 (.t 2)), oJ 92 90 true (.load false [.s] (.t 91)), oJ 93 90 true (.bin .eql (.t 92) (.c (.v (.string ({ data := #[] } : ByteArray))))), oQ 94 (.pick (.t 90) (.t 93) (.b false)), oM 95 94, oJ 96 95 true (.fad 2 (.t 2)), oJ 97 95 true (.load false [kI] (.t 96)), oJ 98 95 true (.bin .eql (.t 97) (.i 0)), oQ 99 (.pick (.t 95) (.t 98) (.b false)), oM 9 99]) (.seq (.g [oBi 101 .eql 49 5, oM 100 101]) (
 .cond (.t 100) (.g [oL 102 [kI, .s, kI, (.sl 1), (.sl 5)] 2, oC 103 81 [.c .b] [102], oM 104 103, oJ 105 104 true (.fad 1 (.t 2)), oJ 106 104 true (.load false [.s] (.t 105)), oJ 107 104 true (.bin .eql (.t 106) (.c (.v (.string ({ data := #[] } : ByteArray))))), oQ 108 (.pick (.t 104) (.t 107) (.b false)), oM 109 108, oJ 110 109 true (.fad 2 (.t 2)), oJ 111 109 true (.load false [kI] (.t 110)), oJ 112 109 true (.bin .eql (.t 111) (.i 0)), oQ 113 (.pick (.t 109) (.t 112) (.b false)), oM 9 113]) (.skip))))))))))))) (
 .seq (.seq (.g [oM 114 9, oN 115 114]) (
 .cond (.t 115) (.seq (.g [oK 4 0]) (
 .ret)) (.skip))) (
 .seq (.g [oM 116 5, oM 4 116]) (
 .ret))))))))))⟩
theorem l45x0s (T : Table) (k n : Nat) (n7 : Int) (n8 : Int) (s9 : ByteArray) (n10 : Int) (l11 : Rows) (l12 : Rows) (n13 : Int) (n14 : Int) : l45x0 T k (n + 1) [(.v (.int .i64 n7)), (.b [(.v (.int .i64 n8)), (.v (.string s9)), (.v (.int .i64 n10)), (.fz 1 l11), (.fz 5 l12)]), (.v (.int .i64 n13)), (.v (.int .i64 n14))] = (
 bif (decide (n14 < (l12.length : Int))) then (
 tst (decide (0 ≤ n14)) (
 look l12 (Int.toNat n14) fun r15 =>
 cI .i64 r15 0 fun n16 =>
 cS r15 1 fun s17 =>
 cI .i64 r15 2 fun n18 =>
 cL 1 r15 3 fun l19 =>
 cL 5 r15 4 fun l20 =>
 callT T 45 [(.g [(.v (.int .i64 n16)), (.v (.string s17)), (.v (.int .i64 n18)), (.s 1 l19), (.s 5 l20)]), (.d (.v (.int .i64 (IntKind.wrap .i64 (n7 - 1)))))] fun o21 =>
 oD o21.res fun d22 =>
 dI .i64 d22 fun n23 =>
 bif (n23 == 0) == false then (
 bif (decide ((IntKind.wrap .i64 (n13 + n23)) > 300)) then (
 some (.ret, [(.v (.int .i64 0))])) else (
 l45x0 T k n [(.v (.int .i64 n7)), (.b [(.v (.int .i64 n8)), (.v (.string s9)), (.v (.int .i64 n10)), (.fz 1 l11), (.fz 5 l12)]), (.v (.int .i64 (IntKind.wrap .i64 (n13 + n23)))), (.v (.int .i64 (IntKind.wrap .i64 (n14 + 1))))])) else (
 some (.ret, [(.v (.int .i64 0))])))) else (
 some ((.exit 0), [(.b [(.v (.int .i64 n8)), (.v (.string s9)), (.v (.int .i64 n10)), (.fz 1 l11), (.fz 5 l12)]), (.v (.int .i64 n13))]))) := by kernel_rfl
theorem a45q (T : Table) (k : Nat) (n1 : Int) (s2 : ByteArray) (n3 : Int) (l4 : Rows) (l5 : Rows) (n6 : Int) : evalF T k a45 [(.g [(.v (.int .i64 n1)), (.v (.string s2)), (.v (.int .i64 n3)), (.s 1 l4), (.s 5 l5)]), (.d (.v (.int .i64 n6)))] = (
 bif (n6 == 0) then (
 some ⟨(.d (.v (.int .i64 0))), []⟩) else (
 aft (l45x0 T k k [(.v (.int .i64 n6)), (.b [(.v (.int .i64 n1)), (.v (.string s2)), (.v (.int .i64 n3)), (.fz 1 l4), (.fz 5 l5)]), (.v (.int .i64 1)), (.v (.int .i64 0))]) fun e24 ys25 =>
 bif e24.same .ret then (
 aV ys25 0 fun x26 =>
 aI .i64 x26 fun n27 =>
 some ⟨(.d (.v (.int .i64 n27))), []⟩) else (
 bif e24.same (.exit 0) then (
 aV ys25 0 fun x28 =>
 aX x28 fun xs29 =>
 aV xs29 0 fun x30 =>
 aI .i64 x30 fun n31 =>
 aV xs29 1 fun x32 =>
 aS x32 fun s33 =>
 aV xs29 2 fun x34 =>
 aI .i64 x34 fun n35 =>
 aV xs29 3 fun x36 =>
 aL 1 x36 fun l37 =>
 aV xs29 4 fun x38 =>
 aL 5 x38 fun l39 =>
 aV ys25 1 fun x40 =>
 aI .i64 x40 fun n41 =>
 bif ((l37.length : Int) == 0) == true then (
 bif (n31 == 1) then (
 bif ((l39.length : Int) == 0) == true then (
 bif (n35 == 0) == true then (
 callT T 80 [(.d (.v (.string s33)))] fun o42 =>
 oD o42.res fun d43 =>
 dB d43 fun b44 =>
 bif (!b44) then (
 some ⟨(.d (.v (.int .i64 0))), []⟩) else (
 some ⟨(.d (.v (.int .i64 n41))), []⟩)) else (
 bif (!false) then (
 some ⟨(.d (.v (.int .i64 0))), []⟩) else (
 some ⟨(.d (.v (.int .i64 n41))), []⟩))) else (
 bif (!false) then (
 some ⟨(.d (.v (.int .i64 0))), []⟩) else (
 some ⟨(.d (.v (.int .i64 n41))), []⟩))) else (
 bif (n31 == 2) then (
 bif ((l39.length : Int) == 0) == true then (
 bif (!(bytesEq s33 ({ data := #[] } : ByteArray))) then (
 some ⟨(.d (.v (.int .i64 0))), []⟩) else (
 some ⟨(.d (.v (.int .i64 n41))), []⟩)) else (
 bif (!false) then (
 some ⟨(.d (.v (.int .i64 0))), []⟩) else (
 some ⟨(.d (.v (.int .i64 n41))), []⟩))) else (
 bif (n31 == 3) then (
 bif ((l39.length : Int) == 0) == true then (
 bif (bytesEq s33 ({ data := #[] } : ByteArray)) == true then (
 callT T 51 [(.d (.v (.int .i64 n35))), (.d (.v (.int .i64 0))), (.d (.v (.int .i64 1)))] fun o45 =>
 oD o45.res fun d46 =>
 dB d46 fun b47 =>
 bif (!b47) then (
 some ⟨(.d (.v (.int .i64 0))), []⟩) else (
 some ⟨(.d (.v (.int .i64 n41))), []⟩)) else (
 bif (!false) then (
 some ⟨(.d (.v (.int .i64 0))), []⟩) else (
 some ⟨(.d (.v (.int .i64 n41))), []⟩))) else (
 bif (!false) then (
 some ⟨(.d (.v (.int .i64 0))), []⟩) else (
 some ⟨(.d (.v (.int .i64 n41))), []⟩))) else (
 bif (n31 == 4) then (
 bif ((l37.length : Int) == 0) == true then (
 bif (bytesEq s33 ({ data := #[] } : ByteArray)) == true then (
 bif (!(n35 == 0)) then (
 some ⟨(.d (.v (.int .i64 0))), []⟩) else (
 some ⟨(.d (.v (.int .i64 n41))), []⟩)) else (
 bif (!false) then (
 some ⟨(.d (.v (.int .i64 0))), []⟩) else (
 some ⟨(.d (.v (.int .i64 n41))), []⟩))) else (
 bif (!false) then (
 some ⟨(.d (.v (.int .i64 0))), []⟩) else (
 some ⟨(.d (.v (.int .i64 n41))), []⟩))) else (
 bif (n31 == 5) then (
 callT T 81 [(.g [(.v (.int .i64 n31)), (.v (.string s33)), (.v (.int .i64 n35)), (.s 1 l37), (.s 5 l39)])] fun o48 =>
 oD o48.res fun d49 =>
 dB d49 fun b50 =>
 bif b50 == true then (
 bif (bytesEq s33 ({ data := #[] } : ByteArray)) == true then (
 bif (!(n35 == 0)) then (
 some ⟨(.d (.v (.int .i64 0))), []⟩) else (
 some ⟨(.d (.v (.int .i64 n41))), []⟩)) else (
 bif (!false) then (
 some ⟨(.d (.v (.int .i64 0))), []⟩) else (
 some ⟨(.d (.v (.int .i64 n41))), []⟩))) else (
 bif (!false) then (
 some ⟨(.d (.v (.int .i64 0))), []⟩) else (
 some ⟨(.d (.v (.int .i64 n41))), []⟩))) else (
 bif (!false) then (
 some ⟨(.d (.v (.int .i64 0))), []⟩) else (
 some ⟨(.d (.v (.int .i64 n41))), []⟩))))))) else (
 bif (n31 == 1) then (
 bif (!false) then (
 some ⟨(.d (.v (.int .i64 0))), []⟩) else (
 some ⟨(.d (.v (.int .i64 n41))), []⟩)) else (
 bif (n31 == 2) then (
 bif (!false) then (
 some ⟨(.d (.v (.int .i64 0))), []⟩) else (
 some ⟨(.d (.v (.int .i64 n41))), []⟩)) else (
 bif (n31 == 3) then (
 bif (!false) then (
 some ⟨(.d (.v (.int .i64 0))), []⟩) else (
 some ⟨(.d (.v (.int .i64 n41))), []⟩)) else (
 bif (n31 == 4) then (
 bif ((l37.length : Int) == 0) == true then (
 bif (bytesEq s33 ({ data := #[] } : ByteArray)) == true then (
 bif (!(n35 == 0)) then (
 some ⟨(.d (.v (.int .i64 0))), []⟩) else (
 some ⟨(.d (.v (.int .i64 n41))), []⟩)) else (
 bif (!false) then (
 some ⟨(.d (.v (.int .i64 0))), []⟩) else (
 some ⟨(.d (.v (.int .i64 n41))), []⟩))) else (
 bif (!false) then (
 some ⟨(.d (.v (.int .i64 0))), []⟩) else (
 some ⟨(.d (.v (.int .i64 n41))), []⟩))) else (
 bif (n31 == 5) then (
 callT T 81 [(.g [(.v (.int .i64 n31)), (.v (.string s33)), (.v (.int .i64 n35)), (.s 1 l37), (.s 5 l39)])] fun o51 =>
 oD o51.res fun d52 =>
 dB d52 fun b53 =>
 bif b53 == true then (
 bif (bytesEq s33 ({ data := #[] } : ByteArray)) == true then (
 bif (!(n35 == 0)) then (
 some ⟨(.d (.v (.int .i64 0))), []⟩) else (
 some ⟨(.d (.v (.int .i64 n41))), []⟩)) else (
 bif (!false) then (
 some ⟨(.d (.v (.int .i64 0))), []⟩) else (
 some ⟨(.d (.v (.int .i64 n41))), []⟩))) else (
 bif (!false) then (
 some ⟨(.d (.v (.int .i64 0))), []⟩) else (
 some ⟨(.d (.v (.int .i64 n41))), []⟩))) else (
 bif (!false) then (
 some ⟨(.d (.v (.int .i64 0))), []⟩) else (
 some ⟨(.d (.v (.int .i64 n41))), []⟩)))))))) else (
 none)))) := by kernel_rfl
/- loop.example/g00119/spec.ValueOk -/

def a19 : AFun := ⟨[.rd], false, [.t 2], (
 .seq (.g [oQ 1 (.box (.t 0)), oV 2 false]) (
 .seq (.g [oL 3 [kI, .s, kI, (.sl 1), (.sl 5)] 1, oQ 4 (.call (.f 45) [.rd, .rd] false [.c kI] [(.t 3), (.i 6)]), oBi 5 .gtr 4 0, oM 2 5]) (
 .ret)))⟩

theorem a19q (T : Table) (k : Nat) (n1 : Int) (s2 : ByteArray) (n3 : Int) (l4 : Rows) (l5 : Rows) : evalF T k a19 [(.g [(.v (.int .i64 n1)), (.v (.string s2)), (.v (.int .i64 n3)), (.s 1 l4), (.s 5 l5)])] = (
 callT T 45 [(.g [(.v (.int .i64 n1)), (.v (.string s2)), (.v (.int .i64 n3)), (.s 1 l4), (.s 5 l5)]), (.d (.v (.int .i64 6)))] fun o6 =>
 oD o6.res fun d7 =>
 dI .i64 d7 fun n8 =>
 some ⟨(.d (.v (.bool (decide (n8 > 0))))), []⟩) := by kernel_rfl
/- loop.example/g00119/spec.WorksOk -/
def b53x0 : ACode := (
 .seq (.seq (.g [oM 5 3, oM 6 0, oZ 7 6, oB 8 .lss 5 7]) (
 .cond (.t 8) (.skip) (.exit 0))) (
 .seq (.block 1 (.seq (.g [oM 11 0, oM 12 3, oI 13 7 11 12, oL 14 [kI, kI, kI, .s, kI, (.sl 1), (.sl 5)] 13, oQ 4 (.alloc [(.v (.int .i64 0)), (.v (.int .i64 0)), (.v (.int .i64 0)), (.v (.string ByteArray.empty)), (.v (.int .i64 0)), (.s 1 []), (.s 5 [])]), oS (.store 7 (.t 4) (.t 14))]) (
 .seq (.dreg [] [(0, oF 15 0 4), (0, oW 16 kI 15), (1, oQ 17 (.call (.f 51) [.rd, .rd, .rd] false [.c .b] [(.t 16), (.i 1), (.i 1000000)])), (0, oN 18 17), (0, oM 19 18), (0, oJ 20 19 false (.fad 1 (.t 4))), (0, oJ 21 19 false (.load false [kI] (.t 20))), (1, oJ 22 19 false (.call (.f 51) [.rd, .rd, .rd] false [.c .b] [(.t 21), (.i 1), (.i 10000)])), (0, oJ 23 19 false (.un .not (.t 22))), (0, oQ 24 (.pick (.t 19) (.b true) (.t 23))), (0, oM 25 24), (0, oJ 26 25 false (.fad 2 (.t 4))), (0, oJ 27 25 false (.load true [kI, .s, kI, (.sl 1), (.sl 5)] (.t 26))), (1, oJ 28 25 false (.call (.f 19) [.rd] false [.c .b] [(.t 27)])), (0, oJ 29 25 false (.un .not (.t 28))), (0, oQ 30 (.pick (.t 25) (.b true) (.t 29))), (0, oM 31 30), (0, oJ 32 31 false (.mv (.t 3))), (0, oJ 33 31 false (.bin .gtr (.t 32) (.i 0))), (0, oJ 34 31 false (.mv (.t 33))), (0, oJ 35 34 true (.mv (.t 0))), (0, oJ 36 34 true (.mv (.t 3))), (0, oJ 37 34 true (.bin .sub (.t 36) (.i 1))), (0, oJ 38 34 true (.iad 7 (.t 35) (.t 37))), (0, oJ 39 34 true (.fad 0 (.t 38))), (0, oJ 40 34 true (.load false [kI] (.t 39))), (0, oJ 41 34 true (.fad 0 (.t 4))), (0, oJ 42 34 true (.load false [kI] (.t 41)))] [oJ 43 34 true (.bin .geq (.t 40) (.t 42)), oJ 44 31 false (.pick (.t 34) (.t 43) (.b false)), oQ 45 (.pick (.t 31) (.b true) (.t 44))]) (
 .cond (.t 45) (.seq (.g [oV 2 false]) (
 .ret)) (.skip))))) (
 .g [oM 9 3, oBi 10 .add 9 1, oM 3 10])))
def e53x0 : Exits := [(.ret, [(2, .c .b)]), ((.exit 0), [(0, .c (.sl 7))])]
noncomputable def l53x0 (T : Table) (k : Nat) := loopN (evalC ⟨T, []⟩ k b53x0 (Ex × List AV)) [0, 3] e53x0
def a53 : AFun := ⟨[.rd], false, [.t 2], (
 .seq (.g [oV 2 false]) (
 .seq (.seq (.g [oK 3 0]) (
 .block 0 (.loop [0, 3] e53x0 b53x0))) (
 .seq (.g [oM 46 0, oZ 47 46, oBi 48 .leq 47 40, oM 2 48]) (
 .ret))))⟩
theorem l53x0s (T : Table) (k n : Nat) (l2 : Rows) (n3 : Int) : l53x0 T k (n + 1) [(.fz 7 l2), (.v (.int .i64 n3))] = (
 bif (decide (n3 < (l2.length : Int))) then (
 tst (decide (0 ≤ n3)) (
 look l2 (Int.toNat n3) fun r4 =>
 cI .i64 r4 0 fun n5 =>
 cI .i64 r4 1 fun n6 =>
 cI .i64 r4 2 fun n7 =>
 cS r4 3 fun s8 =>
 cI .i64 r4 4 fun n9 =>
 cL 1 r4 5 fun l10 =>
 cL 5 r4 6 fun l11 =>
 callT T 51 [(.d (.v (.int .i64 n5))), (.d (.v (.int .i64 1))), (.d (.v (.int .i64 1000000)))] fun o12 =>
 oD o12.res fun d13 =>
 dB d13 fun b14 =>
 bif (!b14) == false then (
 callT T 51 [(.d (.v (.int .i64 n6))), (.d (.v (.int .i64 1))), (.d (.v (.int .i64 10000)))] fun o15 =>
 oD o15.res fun d16 =>
 dB d16 fun b17 =>
 bif (!b17) == false then (
 callT T 19 [(.g [(.v (.int .i64 n7)), (.v (.string s8)), (.v (.int .i64 n9)), (.s 1 l10), (.s 5 l11)])] fun o18 =>
 oD o18.res fun d19 =>
 dB d19 fun b20 =>
 bif (!b20) == false then (
 bif (decide (n3 > 0)) == true then (
 tst (decide (0 ≤ (IntKind.wrap .i64 (n3 - 1)))) (
 look l2 (Int.toNat (IntKind.wrap .i64 (n3 - 1))) fun r21 =>
 cI .i64 r21 0 fun n22 =>
 bif (decide (n22 ≥ n5)) then (
 some (.ret, [(.v (.bool false))])) else (
 l53x0 T k n [(.fz 7 l2), (.v (.int .i64 (IntKind.wrap .i64 (n3 + 1))))]))) else (
 l53x0 T k n [(.fz 7 l2), (.v (.int .i64 (IntKind.wrap .i64 (n3 + 1))))])) else (
 some (.ret, [(.v (.bool false))]))) else (
 some (.ret, [(.v (.bool false))]))) else (
 some (.ret, [(.v (.bool false))])))) else (
 some ((.exit 0), [(.fz 7 l2)]))) := by kernel_rfl
theorem a53q (T : Table) (k : Nat) (l1 : Rows) : evalF T k a53 [(.d (.s 7 l1))] = (
 aft (l53x0 T k k [(.fz 7 l1), (.v (.int .i64 0))]) fun e23 ys24 =>
 bif e23.same .ret then (
 aV ys24 0 fun x25 =>
 aB x25 fun b26 =>
 some ⟨(.d (.v (.bool b26))), []⟩) else (
 bif e23.same (.exit 0) then (
 aV ys24 0 fun x27 =>
 aL 7 x27 fun l28 =>
 some ⟨(.d (.v (.bool (decide ((l28.length : Int) ≤ 40))))), []⟩) else (
 none))) := by kernel_rfl
/- loop.example/g00119/spec.MsgOk -/

def a25 : AFun := ⟨[.rd], false, [.t 2], (
 .seq (.g [oQ 1 (.box (.t 0)), oV 2 false]) (
 .seq (.block 0 (.seq (.g [oF 4 1 1, oW 5 .s 4, oC 6 50 [.c .b] [5], oN 7 6, oM 3 7]) (
 .cond (.t 3) (.seq (.g [oV 2 false]) (
 .ret)) (.seq (.g [oF 9 0 1, oW 10 kI 9, oBi 11 .eql 10 1, oM 8 11]) (
 .cond (.t 8) (.seq (.g [oF 12 2 1, oW 13 kI 12, oQ 14 (.call (.f 51) [.rd, .rd, .rd] false [.c .b] [(.t 13), (.i 0), (.i 1000000)]), oM 15 14, oJ 16 15 true (.fad 4 (.t 1)), oJ 17 15 true (.load false [(.sl 2)] (.t 16)), oJ 18 15 true (.call (.f 52) [.rd, .rd] false [.c .b] [(.t 17), (.i 0)]), oQ 19 (.pick (.t 15) (.t 18) (.b false)), oM 20 19, oJ 21 20 true (.fad 3 (.t 1)), oJ 22 20 true (.load false [(.sl 7)] (.t 21)), oJ 23 20 true (.len false (.t 22)), oJ 24 20 true (.bin .eql (.t 23) (.i 0)), oQ 25 (.pick (.t 20) (.t 24) (.b false)), oM 2 25]) (
 .ret)) (.seq (.g [oF 27 0 1, oW 28 kI 27, oBi 29 .eql 28 2, oM 26 29]) (
 .cond (.t 26) (.seq (.g [oF 30 2 1, oW 31 kI 30, oQ 32 (.call (.f 51) [.rd, .rd, .rd] false [.c .b] [(.t 31), (.i 1), (.i 1000000)]), oM 33 32, oJ 34 33 true (.fad 3 (.t 1)), oJ 35 33 true (.load false [(.sl 7)] (.t 34)), oJ 36 33 true (.call (.f 53) [.rd] false [.c .b] [(.t 35)]), oQ 37 (.pick (.t 33) (.t 36) (.b false)), oM 38 37, oJ 39 38 true (.fad 4 (.t 1)), oJ 40 38 true (.load false [(.sl 2)] (.t 39)), oJ 41 38 true (.len false (.t 40)), oJ 42 38 true (.bin .eql (.t 41) (.i 0)), oQ 43 (.pick (.t 38) (.t 42) (.b false)), oM 2 43]) (
 .ret)) (.skip)))))))) (
 .seq (.g [oV 2 false]) (
 .ret))))⟩

theorem a25q (T : Table) (k : Nat) (n1 : Int) (s2 : ByteArray) (n3 : Int) (l4 : Rows) (l5 : Rows) : evalF T k a25 [(.g [(.v (.int .i64 n1)), (.v (.string s2)), (.v (.int .i64 n3)), (.s 7 l4), (.s 2 l5)])] = (
 callT T 50 [(.d (.v (.string s2)))] fun o6 =>
 oD o6.res fun d7 =>
 dB d7 fun b8 =>
 bif (!b8) then (
 some ⟨(.d (.v (.bool false))), []⟩) else (
 bif (n1 == 1) then (
 callT T 51 [(.d (.v (.int .i64 n3))), (.d (.v (.int .i64 0))), (.d (.v (.int .i64 1000000)))] fun o9 =>
 oD o9.res fun d10 =>
 dB d10 fun b11 =>
 bif b11 == true then (
 callT T 52 [(.d (.s 2 l5)), (.d (.v (.int .i64 0)))] fun o12 =>
 oD o12.res fun d13 =>
 dB d13 fun b14 =>
 bif b14 == true then (
 some ⟨(.d (.v (.bool ((l4.length : Int) == 0)))), []⟩) else (
 some ⟨(.d (.v (.bool false))), []⟩)) else (
 some ⟨(.d (.v (.bool false))), []⟩)) else (
 bif (n1 == 2) then (
 callT T 51 [(.d (.v (.int .i64 n3))), (.d (.v (.int .i64 1))), (.d (.v (.int .i64 1000000)))] fun o15 =>
 oD o15.res fun d16 =>
 dB d16 fun b17 =>
 bif b17 == true then (
 callT T 53 [(.d (.s 7 l4))] fun o18 =>
 oD o18.res fun d19 =>
 dB d19 fun b20 =>
 bif b20 == true then (
 some ⟨(.d (.v (.bool ((l5.length : Int) == 0)))), []⟩) else (
 some ⟨(.d (.v (.bool false))), []⟩)) else (
 some ⟨(.d (.v (.bool false))), []⟩)) else (
 some ⟨(.d (.v (.bool false))), []⟩)))) := by kernel_rfl
/- loop.example/g00119/spec.l3Digits -/

def a26 : AFun := ⟨[.rd], false, [.t 2], (
 .seq (.g [oQ 2 (.mv (.c (.v (.string ({ data := #[] } : ByteArray)))))]) (
 .seq (.seq (.g [oM 3 0, oBi 4 .lss 3 0]) (
 .cond (.t 4) (.seq (.g [oM 5 0, oQ 6 (.un .neg (.t 5)), oC 7 26 [.c .s] [6], oQ 8 (.bin .add (.c (.v (.string ({ data := #[45] } : ByteArray)))) (.t 7)), oM 2 8]) (
 .ret)) (.skip))) (
 .seq (.seq (.g [oM 9 0, oBi 10 .lss 9 10]) (
 .cond (.t 10) (.seq (.g [oM 11 0, oQ 12 (.bin .add (.i 48) (.t 11)), oQ 13 (.conv (.int .u8) (.t 12)), oQ 14 (.lit 1 ([[(.v (.int .u8 0))]] : Rows) [(0, (.t 13))]), oQ 15 (.conv .bytesStr (.t 14)), oM 2 15]) (
 .ret)) (.skip))) (
 .seq (.dreg [] [(0, oM 16 0), (0, oBi 17 .quo 16 10), (0, oC 18 26 [.c .s] [17]), (0, oM 19 0), (0, oBi 20 .rem 19 10), (0, oQ 21 (.bin .add (.i 48) (.t 20))), (0, oQ 22 (.conv (.int .u8) (.t 21))), (1, oQ 23 (.lit 1 ([[(.v (.int .u8 0))]] : Rows) [(0, (.t 22))])), (1, oQ 24 (.conv .bytesStr (.t 23)))] [oB 25 .add 18 24, oM 2 25]) (
 .ret)))))⟩

theorem a26q (T : Table) (k : Nat) (n1 : Int) : evalF T k a26 [(.d (.v (.int .i64 n1)))] = (
 bif (decide (n1 < 0)) then (
 callT T 26 [(.d (.v (.int .i64 (IntKind.wrap .i64 (0 - n1)))))] fun o2 =>
 oD o2.res fun d3 =>
 dS d3 fun s4 =>
 tst (decide (({ data := #[45] } : ByteArray).size + s4.size ≤ maxLen)) (
 some ⟨(.d (.v (.string (({ data := #[45] } : ByteArray) ++ s4)))), []⟩)) else (
 bif (decide (n1 < 10)) then (
 tst (allBytes ([[(.v (.int .u8 (IntKind.wrap .u8 (IntKind.wrap .i64 (48 + n1)))))]] : Rows)) (
 some ⟨(.d (.v (.string (bytesOfRows ([[(.v (.int .u8 (IntKind.wrap .u8 (IntKind.wrap .i64 (48 + n1)))))]] : Rows))))), []⟩)) else (
 tst (decide (10 ≠ 0)) (
 callT T 26 [(.d (.v (.int .i64 (IntKind.wrap .i64 (Int.tdiv n1 10)))))] fun o5 =>
 oD o5.res fun d6 =>
 dS d6 fun s7 =>
 tst (decide (10 ≠ 0)) (
 tst (allBytes ([[(.v (.int .u8 (IntKind.wrap .u8 (IntKind.wrap .i64 (48 + (Int.tmod n1 10))))))]] : Rows)) (
 tst (decide (s7.size + (bytesOfRows ([[(.v (.int .u8 (IntKind.wrap .u8 (IntKind.wrap .i64 (48 + (Int.tmod n1 10))))))]] : Rows)).size ≤ maxLen)) (
 some ⟨(.d (.v (.string (s7 ++ (bytesOfRows ([[(.v (.int .u8 (IntKind.wrap .u8 (IntKind.wrap .i64 (48 + (Int.tmod n1 10))))))]] : Rows)))))), []⟩))))))) := by kernel_rfl
/- loop.example/g00119/spec.l4Quoted -/
def b54x0 : ACode := (
 .seq (.seq (.g [oM 6 4, oM 7 0, oQ 8 (.len true (.t 7)), oB 9 .lss 6 8]) (
 .cond (.t 9) (.skip) (.exit 0))) (
 .seq (.block 1 (.seq (.seq (.g [oM 12 0, oM 13 4, oQ 14 (.idx (.t 12) (.t 13)), oQ 15 (.bin .eql (.t 14) (.c (.v (.int .u8 34)))), oM 16 15, oJ 17 16 false (.mv (.t 0)), oJ 18 16 false (.mv (.t 4)), oJ 19 16 false (.idx (.t 17) (.t 18)), oJ 20 16 false (.bin .eql (.t 19) (.c (.v (.int .u8 92)))), oQ 21 (.pick (.t 16) (.b true) (.t 20))]) (
 .cond (.t 21) (.g [oM 22 3, oQ 23 (.lit 1 ([[(.v (.int .u8 0))]] : Rows) [(0, (.c (.v (.int .u8 92))))]), oQ 24 (.app 1 1 (.t 22) (.t 23)), oM 3 24]) (.skip))) (
 .g [oM 25 3, oM 26 0, oM 27 4, oQ 28 (.idx (.t 26) (.t 27)), oQ 29 (.lit 1 ([[(.v (.int .u8 0))]] : Rows) [(0, (.t 28))]), oQ 30 (.app 1 1 (.t 25) (.t 29)), oM 3 30]))) (
 .g [oM 10 4, oBi 11 .add 10 1, oM 4 11])))
def e54x0 : Exits := [((.exit 0), [(3, .o 1)])]
noncomputable def l54x0 (T : Table) (k : Nat) := loopN (evalC ⟨T, []⟩ k b54x0 (Ex × List AV)) [0, 3, 4] e54x0
def a54 : AFun := ⟨[.rd], false, [.t 2], (
 .seq (.g [oQ 2 (.mv (.c (.v (.string ({ data := #[] } : ByteArray)))))]) (
 .seq (.g [oQ 5 (.lit 1 ([[(.v (.int .u8 0))]] : Rows) [(0, (.c (.v (.int .u8 34))))]), oM 3 5]) (
 .seq (.seq (.g [oK 4 0]) (
 .block 0 (.loop [0, 3, 4] e54x0 b54x0))) (
 .seq (.g [oM 31 3, oQ 32 (.lit 1 ([[(.v (.int .u8 0))]] : Rows) [(0, (.c (.v (.int .u8 34))))]), oQ 33 (.app 1 1 (.t 31) (.t 32)), oQ 34 (.conv .bytesStr (.t 33)), oM 2 34]) (
 .ret)))))⟩
theorem l54x0s (T : Table) (k n : Nat) (s2 : ByteArray) (l3 : Rows) (n4 : Int) : l54x0 T k (n + 1) [(.v (.string s2)), (.o 1 l3), (.v (.int .i64 n4))] = (
 bif (decide (n4 < (s2.size : Int))) then (
 tst (decide (0 ≤ n4)) (
 byteAt s2 (Int.toNat n4) fun c5 =>
 bif ((c5.toNat : Int) == 34) == false then (
 tst (decide (0 ≤ n4)) (
 byteAt s2 (Int.toNat n4) fun c6 =>
 bif ((c6.toNat : Int) == 92) then (
 tst (decide ((l3.length + ([[(.v (.int .u8 92))]] : Rows).length) * 1 ≤ maxBytes)) (
 tst (decide (0 ≤ n4)) (
 byteAt s2 (Int.toNat n4) fun c7 =>
 tst (decide (((l3 ++ ([[(.v (.int .u8 92))]] : Rows)).length + ([[(.v (.int .u8 (c7.toNat : Int)))]] : Rows).length) * 1 ≤ maxBytes)) (
 l54x0 T k n [(.v (.string s2)), (.o 1 ((l3 ++ ([[(.v (.int .u8 92))]] : Rows)) ++ ([[(.v (.int .u8 (c7.toNat : Int)))]] : Rows))), (.v (.int .i64 (IntKind.wrap .i64 (n4 + 1))))])))) else (
 tst (decide (0 ≤ n4)) (
 byteAt s2 (Int.toNat n4) fun c8 =>
 tst (decide ((l3.length + ([[(.v (.int .u8 (c8.toNat : Int)))]] : Rows).length) * 1 ≤ maxBytes)) (
 l54x0 T k n [(.v (.string s2)), (.o 1 (l3 ++ ([[(.v (.int .u8 (c8.toNat : Int)))]] : Rows))), (.v (.int .i64 (IntKind.wrap .i64 (n4 + 1))))]))))) else (
 tst (decide ((l3.length + ([[(.v (.int .u8 92))]] : Rows).length) * 1 ≤ maxBytes)) (
 tst (decide (0 ≤ n4)) (
 byteAt s2 (Int.toNat n4) fun c9 =>
 tst (decide (((l3 ++ ([[(.v (.int .u8 92))]] : Rows)).length + ([[(.v (.int .u8 (c9.toNat : Int)))]] : Rows).length) * 1 ≤ maxBytes)) (
 l54x0 T k n [(.v (.string s2)), (.o 1 ((l3 ++ ([[(.v (.int .u8 92))]] : Rows)) ++ ([[(.v (.int .u8 (c9.toNat : Int)))]] : Rows))), (.v (.int .i64 (IntKind.wrap .i64 (n4 + 1))))])))))) else (
 some ((.exit 0), [(.o 1 l3)]))) := by kernel_rfl
theorem a54q (T : Table) (k : Nat) (s1 : ByteArray) : evalF T k a54 [(.d (.v (.string s1)))] = (
 aft (l54x0 T k k [(.v (.string s1)), (.o 1 ([[(.v (.int .u8 34))]] : Rows)), (.v (.int .i64 0))]) fun e10 ys11 =>
 bif e10.same (.exit 0) then (
 aV ys11 0 fun x12 =>
 aO 1 x12 fun l13 =>
 tst (decide ((l13.length + ([[(.v (.int .u8 34))]] : Rows).length) * 1 ≤ maxBytes)) (
 tst (allBytes (l13 ++ ([[(.v (.int .u8 34))]] : Rows))) (
 some ⟨(.d (.v (.string (bytesOfRows (l13 ++ ([[(.v (.int .u8 34))]] : Rows)))))), []⟩))) else (
 none)) := by kernel_rfl
/- loop.example/g00119/spec.l4Int -/
def b55x0 : ACode := (
 .seq (.seq (.g [oM 15 3, oQ 16 (.bin .geq (.t 15) (.c (.v (.int .u64 10))))]) (
 .cond (.t 16) (.skip) (.exit 0))) (
 .block 1 (.seq (.g [oM 17 3, oQ 18 (.bin .rem (.t 17) (.c (.v (.int .u64 10)))), oQ 19 (.bin .add (.c (.v (.int .u64 48))) (.t 18)), oQ 20 (.conv (.int .u8) (.t 19)), oQ 21 (.lit 1 ([[(.v (.int .u8 0))]] : Rows) [(0, (.t 20))]), oQ 22 (.conv .bytesStr (.t 21)), oM 23 5, oB 24 .add 22 23, oM 5 24]) (
 .g [oM 25 3, oQ 26 (.bin .quo (.t 25) (.c (.v (.int .u64 10)))), oM 3 26]))))
def e55x0 : Exits := [((.exit 0), [(3, .c (.i .u64)), (4, .c .s), (5, .c .s)])]
noncomputable def l55x0 (T : Table) (k : Nat) := loopN (evalC ⟨T, []⟩ k b55x0 (Ex × List AV)) [3, 4, 5] e55x0
def a55 : AFun := ⟨[.rd], false, [.t 2], (
 .seq (.g [oQ 2 (.mv (.c (.v (.string ({ data := #[] } : ByteArray)))))]) (
 .seq (.g [oM 6 0, oQ 7 (.conv (.int .u64) (.t 6)), oM 3 7]) (
 .seq (.g [oQ 4 (.mv (.c (.v (.string ({ data := #[] } : ByteArray)))))]) (
 .seq (.seq (.g [oM 8 0, oBi 9 .lss 8 0]) (
 .cond (.t 9) (.seq (.g [oM 10 0, oBi 11 .add 10 1, oQ 12 (.un .neg (.t 11)), oQ 13 (.conv (.int .u64) (.t 12)), oQ 14 (.bin .add (.t 13) (.c (.v (.int .u64 1)))), oM 3 14]) (
 .g [oQ 4 (.mv (.c (.v (.string ({ data := #[45] } : ByteArray)))))])) (.skip))) (
 .seq (.g [oQ 5 (.mv (.c (.v (.string ({ data := #[] } : ByteArray)))))]) (
 .seq (.block 0 (.loop [3, 4, 5] e55x0 b55x0)) (
 .seq (.g [oM 27 4, oM 28 3, oQ 29 (.bin .add (.c (.v (.int .u64 48))) (.t 28)), oQ 30 (.conv (.int .u8) (.t 29)), oQ 31 (.lit 1 ([[(.v (.int .u8 0))]] : Rows) [(0, (.t 30))]), oQ 32 (.conv .bytesStr (.t 31)), oB 33 .add 27 32, oM 34 5, oB 35 .add 33 34, oM 2 35]) (
 .ret))))))))⟩
theorem l55x0s (T : Table) (k n : Nat) (n2 : Int) (s3 : ByteArray) (s4 : ByteArray) : l55x0 T k (n + 1) [(.v (.int .u64 n2)), (.v (.string s3)), (.v (.string s4))] = (
 bif (decide (n2 ≥ 10)) then (
 tst (decide (10 ≠ 0)) (
 tst (allBytes ([[(.v (.int .u8 (IntKind.wrap .u8 (IntKind.wrap .u64 (48 + (Int.tmod n2 10))))))]] : Rows)) (
 tst (decide ((bytesOfRows ([[(.v (.int .u8 (IntKind.wrap .u8 (IntKind.wrap .u64 (48 + (Int.tmod n2 10))))))]] : Rows)).size + s4.size ≤ maxLen)) (
 tst (decide (10 ≠ 0)) (
 l55x0 T k n [(.v (.int .u64 (IntKind.wrap .u64 (Int.tdiv n2 10)))), (.v (.string s3)), (.v (.string ((bytesOfRows ([[(.v (.int .u8 (IntKind.wrap .u8 (IntKind.wrap .u64 (48 + (Int.tmod n2 10))))))]] : Rows)) ++ s4)))]))))) else (
 some ((.exit 0), [(.v (.int .u64 n2)), (.v (.string s3)), (.v (.string s4))]))) := by kernel_rfl
theorem a55q (T : Table) (k : Nat) (n1 : Int) : evalF T k a55 [(.d (.v (.int .i64 n1)))] = (
 bif (decide (n1 < 0)) then (
 aft (l55x0 T k k [(.v (.int .u64 (IntKind.wrap .u64 ((IntKind.wrap .u64 (IntKind.wrap .i64 (0 - (IntKind.wrap .i64 (n1 + 1))))) + 1)))), (.v (.string ({ data := #[45] } : ByteArray))), (.v (.string ({ data := #[] } : ByteArray)))]) fun e5 ys6 =>
 bif e5.same (.exit 0) then (
 aV ys6 0 fun x7 =>
 aI .u64 x7 fun n8 =>
 aV ys6 1 fun x9 =>
 aS x9 fun s10 =>
 aV ys6 2 fun x11 =>
 aS x11 fun s12 =>
 tst (allBytes ([[(.v (.int .u8 (IntKind.wrap .u8 (IntKind.wrap .u64 (48 + n8)))))]] : Rows)) (
 tst (decide (s10.size + (bytesOfRows ([[(.v (.int .u8 (IntKind.wrap .u8 (IntKind.wrap .u64 (48 + n8)))))]] : Rows)).size ≤ maxLen)) (
 tst (decide ((s10 ++ (bytesOfRows ([[(.v (.int .u8 (IntKind.wrap .u8 (IntKind.wrap .u64 (48 + n8)))))]] : Rows))).size + s12.size ≤ maxLen)) (
 some ⟨(.d (.v (.string ((s10 ++ (bytesOfRows ([[(.v (.int .u8 (IntKind.wrap .u8 (IntKind.wrap .u64 (48 + n8)))))]] : Rows))) ++ s12)))), []⟩)))) else (
 none)) else (
 aft (l55x0 T k k [(.v (.int .u64 (IntKind.wrap .u64 n1))), (.v (.string ({ data := #[] } : ByteArray))), (.v (.string ({ data := #[] } : ByteArray)))]) fun e13 ys14 =>
 bif e13.same (.exit 0) then (
 aV ys14 0 fun x15 =>
 aI .u64 x15 fun n16 =>
 aV ys14 1 fun x17 =>
 aS x17 fun s18 =>
 aV ys14 2 fun x19 =>
 aS x19 fun s20 =>
 tst (allBytes ([[(.v (.int .u8 (IntKind.wrap .u8 (IntKind.wrap .u64 (48 + n16)))))]] : Rows)) (
 tst (decide (s18.size + (bytesOfRows ([[(.v (.int .u8 (IntKind.wrap .u8 (IntKind.wrap .u64 (48 + n16)))))]] : Rows)).size ≤ maxLen)) (
 tst (decide ((s18 ++ (bytesOfRows ([[(.v (.int .u8 (IntKind.wrap .u8 (IntKind.wrap .u64 (48 + n16)))))]] : Rows))).size + s20.size ≤ maxLen)) (
 some ⟨(.d (.v (.string ((s18 ++ (bytesOfRows ([[(.v (.int .u8 (IntKind.wrap .u8 (IntKind.wrap .u64 (48 + n16)))))]] : Rows))) ++ s20)))), []⟩)))) else (
 none))) := by kernel_rfl
/- loop.example/g00119/spec.l4Print -/
def b27x0 : ACode := (
 .seq (.seq (.g [oM 26 5, oF 27 4 1, oW 28 (.sl 5) 27, oZ 29 28, oB 30 .lss 26 29]) (
 .cond (.t 30) (.skip) (.exit 1))) (
 .seq (.block 2 (.seq (.seq (.g [oM 33 5, oBi 34 .gtr 33 0]) (
 .cond (.t 34) (.g [oM 35 3, oQ 36 (.bin .add (.t 35) (.c (.v (.string ({ data := #[44] } : ByteArray))))), oM 3 36]) (.skip))) (
 .seq (.seq (.g [oF 37 0 1, oW 38 kI 37, oBi 39 .eql 38 5]) (
 .cond (.t 39) (.g [oM 40 3, oF 41 3 1, oW 42 (.sl 1) 41, oM 43 5, oI 44 1 42 43, oW 45 .s 44, oB 46 .add 40 45, oQ 47 (.bin .add (.t 46) (.c (.v (.string ({ data := #[58] } : ByteArray))))), oM 3 47]) (.skip))) (
 .g [oM 48 3, oF 49 4 1, oW 50 (.sl 5) 49, oM 51 5, oI 52 5 50 51, oL 53 [kI, .s, kI, (.sl 1), (.sl 5)] 52, oC 54 27 [.c .s] [53], oB 55 .add 48 54, oM 3 55])))) (
 .g [oM 31 5, oBi 32 .add 31 1, oM 5 32])))
def e27x0 : Exits := [((.exit 1), [(3, .c .s), (4, .c .s)])]
noncomputable def l27x0 (T : Table) (k : Nat) := loopN (evalC ⟨T, []⟩ k b27x0 (Ex × List AV)) [1, 3, 4, 5] e27x0
def a27 : AFun := ⟨[.rd], false, [.t 2], (
 .seq (.g [oQ 1 (.box (.t 0)), oQ 2 (.mv (.c (.v (.string ({ data := #[] } : ByteArray)))))]) (
 .seq (.seq (.g [oF 6 0 1, oW 7 kI 6]) (
 .block 0 (.seq (.g [oBi 9 .eql 7 1, oM 8 9]) (
 .cond (.t 8) (.seq (.g [oF 10 1 1, oW 11 .s 10, oC 12 54 [.c .s] [11], oM 2 12]) (
 .ret)) (.seq (.g [oBi 14 .eql 7 2, oM 13 14]) (
 .cond (.t 13) (.seq (.g [oF 15 2 1, oW 16 kI 15, oC 17 55 [.c .s] [16], oM 2 17]) (
 .ret)) (.seq (.g [oBi 19 .eql 7 3, oM 18 19]) (
 .cond (.t 18) (.seq (.seq (.g [oF 20 2 1, oW 21 kI 20, oBi 22 .eql 21 1]) (
 .cond (.t 22) (.seq (.g [oQ 2 (.mv (.c (.v (.string ({ data := #[116, 114, 117, 101] } : ByteArray)))))]) (
 .ret)) (.skip))) (
 .seq (.g [oQ 2 (.mv (.c (.v (.string ({ data := #[102, 97, 108, 115, 101] } : ByteArray)))))]) (
 .ret))) (.skip))))))))) (
 .seq (.g [oQ 3 (.mv (.c (.v (.string ({ data := #[91] } : ByteArray)))))]) (
 .seq (.g [oQ 4 (.mv (.c (.v (.string ({ data := #[93] } : ByteArray)))))]) (
 .seq (.seq (.g [oF 23 0 1, oW 24 kI 23, oBi 25 .eql 24 5]) (
 .cond (.t 25) (.seq (.g [oQ 3 (.mv (.c (.v (.string ({ data := #[123] } : ByteArray)))))]) (
 .g [oQ 4 (.mv (.c (.v (.string ({ data := #[125] } : ByteArray)))))])) (.skip))) (
 .seq (.seq (.g [oK 5 0]) (
 .block 1 (.loop [1, 3, 4, 5] e27x0 b27x0))) (
 .seq (.g [oM 56 3, oM 57 4, oB 58 .add 56 57, oM 2 58]) (
 .ret))))))))⟩
theorem l27x0s (T : Table) (k n : Nat) (n12 : Int) (s13 : ByteArray) (n14 : Int) (l15 : Rows) (l16 : Rows) (s17 : ByteArray) (s18 : ByteArray) (n19 : Int) : l27x0 T k (n + 1) [(.b [(.v (.int .i64 n12)), (.v (.string s13)), (.v (.int .i64 n14)), (.fz 1 l15), (.fz 5 l16)]), (.v (.string s17)), (.v (.string s18)), (.v (.int .i64 n19))] = (
 bif (decide (n19 < (l16.length : Int))) then (
 bif (decide (n19 > 0)) then (
 tst (decide (s17.size + ({ data := #[44] } : ByteArray).size ≤ maxLen)) (
 bif (n12 == 5) then (
 tst (decide (0 ≤ n19)) (
 look l15 (Int.toNat n19) fun r20 =>
 cS r20 0 fun s21 =>
 tst (decide ((s17 ++ ({ data := #[44] } : ByteArray)).size + s21.size ≤ maxLen)) (
 tst (decide (((s17 ++ ({ data := #[44] } : ByteArray)) ++ s21).size + ({ data := #[58] } : ByteArray).size ≤ maxLen)) (
 tst (decide (0 ≤ n19)) (
 look l16 (Int.toNat n19) fun r22 =>
 cI .i64 r22 0 fun n23 =>
 cS r22 1 fun s24 =>
 cI .i64 r22 2 fun n25 =>
 cL 1 r22 3 fun l26 =>
 cL 5 r22 4 fun l27 =>
 callT T 27 [(.g [(.v (.int .i64 n23)), (.v (.string s24)), (.v (.int .i64 n25)), (.s 1 l26), (.s 5 l27)])] fun o28 =>
 oD o28.res fun d29 =>
 dS d29 fun s30 =>
 tst (decide ((((s17 ++ ({ data := #[44] } : ByteArray)) ++ s21) ++ ({ data := #[58] } : ByteArray)).size + s30.size ≤ maxLen)) (
 l27x0 T k n [(.b [(.v (.int .i64 n12)), (.v (.string s13)), (.v (.int .i64 n14)), (.fz 1 l15), (.fz 5 l16)]), (.v (.string ((((s17 ++ ({ data := #[44] } : ByteArray)) ++ s21) ++ ({ data := #[58] } : ByteArray)) ++ s30))), (.v (.string s18)), (.v (.int .i64 (IntKind.wrap .i64 (n19 + 1))))])))))) else (
 tst (decide (0 ≤ n19)) (
 look l16 (Int.toNat n19) fun r31 =>
 cI .i64 r31 0 fun n32 =>
 cS r31 1 fun s33 =>
 cI .i64 r31 2 fun n34 =>
 cL 1 r31 3 fun l35 =>
 cL 5 r31 4 fun l36 =>
 callT T 27 [(.g [(.v (.int .i64 n32)), (.v (.string s33)), (.v (.int .i64 n34)), (.s 1 l35), (.s 5 l36)])] fun o37 =>
 oD o37.res fun d38 =>
 dS d38 fun s39 =>
 tst (decide ((s17 ++ ({ data := #[44] } : ByteArray)).size + s39.size ≤ maxLen)) (
 l27x0 T k n [(.b [(.v (.int .i64 n12)), (.v (.string s13)), (.v (.int .i64 n14)), (.fz 1 l15), (.fz 5 l16)]), (.v (.string ((s17 ++ ({ data := #[44] } : ByteArray)) ++ s39))), (.v (.string s18)), (.v (.int .i64 (IntKind.wrap .i64 (n19 + 1))))]))))) else (
 bif (n12 == 5) then (
 tst (decide (0 ≤ n19)) (
 look l15 (Int.toNat n19) fun r40 =>
 cS r40 0 fun s41 =>
 tst (decide (s17.size + s41.size ≤ maxLen)) (
 tst (decide ((s17 ++ s41).size + ({ data := #[58] } : ByteArray).size ≤ maxLen)) (
 tst (decide (0 ≤ n19)) (
 look l16 (Int.toNat n19) fun r42 =>
 cI .i64 r42 0 fun n43 =>
 cS r42 1 fun s44 =>
 cI .i64 r42 2 fun n45 =>
 cL 1 r42 3 fun l46 =>
 cL 5 r42 4 fun l47 =>
 callT T 27 [(.g [(.v (.int .i64 n43)), (.v (.string s44)), (.v (.int .i64 n45)), (.s 1 l46), (.s 5 l47)])] fun o48 =>
 oD o48.res fun d49 =>
 dS d49 fun s50 =>
 tst (decide (((s17 ++ s41) ++ ({ data := #[58] } : ByteArray)).size + s50.size ≤ maxLen)) (
 l27x0 T k n [(.b [(.v (.int .i64 n12)), (.v (.string s13)), (.v (.int .i64 n14)), (.fz 1 l15), (.fz 5 l16)]), (.v (.string (((s17 ++ s41) ++ ({ data := #[58] } : ByteArray)) ++ s50))), (.v (.string s18)), (.v (.int .i64 (IntKind.wrap .i64 (n19 + 1))))])))))) else (
 tst (decide (0 ≤ n19)) (
 look l16 (Int.toNat n19) fun r51 =>
 cI .i64 r51 0 fun n52 =>
 cS r51 1 fun s53 =>
 cI .i64 r51 2 fun n54 =>
 cL 1 r51 3 fun l55 =>
 cL 5 r51 4 fun l56 =>
 callT T 27 [(.g [(.v (.int .i64 n52)), (.v (.string s53)), (.v (.int .i64 n54)), (.s 1 l55), (.s 5 l56)])] fun o57 =>
 oD o57.res fun d58 =>
 dS d58 fun s59 =>
 tst (decide (s17.size + s59.size ≤ maxLen)) (
 l27x0 T k n [(.b [(.v (.int .i64 n12)), (.v (.string s13)), (.v (.int .i64 n14)), (.fz 1 l15), (.fz 5 l16)]), (.v (.string (s17 ++ s59))), (.v (.string s18)), (.v (.int .i64 (IntKind.wrap .i64 (n19 + 1))))]))))) else (
 some ((.exit 1), [(.v (.string s17)), (.v (.string s18))]))) := by kernel_rfl
theorem a27q (T : Table) (k : Nat) (n1 : Int) (s2 : ByteArray) (n3 : Int) (l4 : Rows) (l5 : Rows) : evalF T k a27 [(.g [(.v (.int .i64 n1)), (.v (.string s2)), (.v (.int .i64 n3)), (.s 1 l4), (.s 5 l5)])] = (
 bif (n1 == 1) then (
 callT T 54 [(.d (.v (.string s2)))] fun o6 =>
 oD o6.res fun d7 =>
 dS d7 fun s8 =>
 some ⟨(.d (.v (.string s8))), []⟩) else (
 bif (n1 == 2) then (
 callT T 55 [(.d (.v (.int .i64 n3)))] fun o9 =>
 oD o9.res fun d10 =>
 dS d10 fun s11 =>
 some ⟨(.d (.v (.string s11))), []⟩) else (
 bif (n1 == 3) then (
 bif (n3 == 1) then (
 some ⟨(.d (.v (.string ({ data := #[116, 114, 117, 101] } : ByteArray)))), []⟩) else (
 some ⟨(.d (.v (.string ({ data := #[102, 97, 108, 115, 101] } : ByteArray)))), []⟩)) else (
 bif (n1 == 5) then (
 aft (l27x0 T k k [(.b [(.v (.int .i64 n1)), (.v (.string s2)), (.v (.int .i64 n3)), (.fz 1 l4), (.fz 5 l5)]), (.v (.string ({ data := #[123] } : ByteArray))), (.v (.string ({ data := #[125] } : ByteArray))), (.v (.int .i64 0))]) fun e60 ys61 =>
 bif e60.same (.exit 1) then (
 aV ys61 0 fun x62 =>
 aS x62 fun s63 =>
 aV ys61 1 fun x64 =>
 aS x64 fun s65 =>
 tst (decide (s63.size + s65.size ≤ maxLen)) (
 some ⟨(.d (.v (.string (s63 ++ s65)))), []⟩)) else (
 none)) else (
 aft (l27x0 T k k [(.b [(.v (.int .i64 n1)), (.v (.string s2)), (.v (.int .i64 n3)), (.fz 1 l4), (.fz 5 l5)]), (.v (.string ({ data := #[91] } : ByteArray))), (.v (.string ({ data := #[93] } : ByteArray))), (.v (.int .i64 0))]) fun e66 ys67 =>
 bif e66.same (.exit 1) then (
 aV ys67 0 fun x68 =>
 aS x68 fun s69 =>
 aV ys67 1 fun x70 =>
 aS x70 fun s71 =>
 tst (decide (s69.size + s71.size ≤ maxLen)) (
 some ⟨(.d (.v (.string (s69 ++ s71)))), []⟩)) else (
 none)))))) := by kernel_rfl
/- loop.example/g00119/spec.MsgText -/
def b7x0 : ACode := (
 .seq (.seq (.g [oM 22 4, oF 23 4 1, oW 24 (.sl 2) 23, oZ 25 24, oB 26 .lss 22 25]) (
 .cond (.t 26) (.skip) (.exit 0))) (
 .seq (.block 1 (.dreg [] [(3, oM 29 3), (0, oF 30 4 1), (0, oW 31 (.sl 2) 30), (0, oM 32 4), (0, oI 33 2 31 32), (0, oF 34 0 33), (0, oW 35 kI 34), (1, oC 36 26 [.c .s] [35]), (3, oB 37 .add 29 36), (3, oQ 38 (.bin .add (.t 37) (.c (.v (.string ({ data := #[32] } : ByteArray)))))), (0, oF 39 4 1), (0, oW 40 (.sl 2) 39), (0, oM 41 4), (0, oI 42 2 40 41), (0, oF 43 1 42), (0, oW 44 kI 43)] [oC 45 26 [.c .s] [44], oB 46 .add 38 45, oQ 47 (.bin .add (.t 46) (.c (.v (.string ({ data := #[10] } : ByteArray))))), oM 3 47])) (
 .g [oM 27 4, oBi 28 .add 27 1, oM 4 28])))
def e7x0 : Exits := [((.exit 0), [(1, .b [.c kI, .c .s, .c kI, .c (.sl 7), .c (.sl 2)]), (3, .c .s)])]
noncomputable def l7x0 (T : Table) (k : Nat) := loopN (evalC ⟨T, []⟩ k b7x0 (Ex × List AV)) [1, 3, 4] e7x0
def b7x1 : ACode := (
 .seq (.seq (.g [oM 48 5, oF 49 3 1, oW 50 (.sl 7) 49, oZ 51 50, oB 52 .lss 48 51]) (
 .cond (.t 52) (.skip) (.exit 2))) (
 .seq (.block 3 (.dreg [] [(3, oM 55 3), (0, oF 56 3 1), (0, oW 57 (.sl 7) 56), (0, oM 58 5), (0, oI 59 7 57 58), (0, oF 60 0 59), (0, oW 61 kI 60), (1, oC 62 26 [.c .s] [61]), (3, oB 63 .add 55 62), (3, oQ 64 (.bin .add (.t 63) (.c (.v (.string ({ data := #[32] } : ByteArray)))))), (0, oF 65 3 1), (0, oW 66 (.sl 7) 65), (0, oM 67 5), (0, oI 68 7 66 67), (0, oF 69 1 68), (0, oW 70 kI 69), (1, oC 71 26 [.c .s] [70]), (3, oB 72 .add 64 71), (3, oQ 73 (.bin .add (.t 72) (.c (.v (.string ({ data := #[32] } : ByteArray)))))), (0, oF 74 3 1), (0, oW 75 (.sl 7) 74), (0, oM 76 5), (0, oI 77 7 75 76), (0, oF 78 2 77), (0, oL 79 [kI, .s, kI, (.sl 1), (.sl 5)] 78)] [oC 80 27 [.c .s] [79], oB 81 .add 73 80, oQ 82 (.bin .add (.t 81) (.c (.v (.string ({ data := #[10] } : ByteArray))))), oM 3 82])) (
 .g [oM 53 5, oBi 54 .add 53 1, oM 5 54])))
def e7x1 : Exits := [((.exit 2), [(3, .c .s)])]
noncomputable def l7x1 (T : Table) (k : Nat) := loopN (evalC ⟨T, []⟩ k b7x1 (Ex × List AV)) [1, 3, 5] e7x1
def a7 : AFun := ⟨[.rd], false, [.t 2], (
 .seq (.g [oQ 1 (.box (.t 0)), oQ 2 (.mv (.c (.v (.string ({ data := #[] } : ByteArray)))))]) (
 .seq (.seq (.g [oL 6 [kI, .s, kI, (.sl 7), (.sl 2)] 1, oC 7 25 [.c .b] [6], oN 8 7]) (
 .cond (.t 8) (.seq (.g [oQ 2 (.mv (.c (.v (.string ({ data := #[] } : ByteArray)))))]) (
 .ret)) (.skip))) (
 .seq (.g [oQ 3 (.mv (.c (.v (.string ({ data := #[116, 101, 108, 108, 32] } : ByteArray)))))]) (
 .seq (.seq (.g [oF 9 0 1, oW 10 kI 9, oBi 11 .eql 10 2]) (
 .cond (.t 11) (.g [oQ 3 (.mv (.c (.v (.string ({ data := #[108, 105, 115, 116, 32] } : ByteArray)))))]) (.skip))) (
 .seq (.dreg [] [(0, oM 12 3), (0, oF 13 1 1), (0, oW 14 .s 13), (0, oB 15 .add 12 14), (0, oQ 16 (.bin .add (.t 15) (.c (.v (.string ({ data := #[32] } : ByteArray)))))), (0, oF 17 2 1), (0, oW 18 kI 17), (1, oC 19 26 [.c .s] [18])] [oB 20 .add 16 19, oQ 21 (.bin .add (.t 20) (.c (.v (.string ({ data := #[10] } : ByteArray))))), oM 3 21]) (
 .seq (.seq (.g [oK 4 0]) (
 .block 0 (.loop [1, 3, 4] e7x0 b7x0))) (
 .seq (.seq (.g [oK 5 0]) (
 .block 2 (.loop [1, 3, 5] e7x1 b7x1))) (
 .seq (.g [oM 83 3, oM 2 83]) (
 .ret)))))))))⟩
theorem l7x0s (T : Table) (k n : Nat) (n12 : Int) (s13 : ByteArray) (n14 : Int) (l15 : Rows) (l16 : Rows) (s17 : ByteArray) (n18 : Int) : l7x0 T k (n + 1) [(.b [(.v (.int .i64 n12)), (.v (.string s13)), (.v (.int .i64 n14)), (.fz 7 l15), (.fz 2 l16)]), (.v (.string s17)), (.v (.int .i64 n18))] = (
 bif (decide (n18 < (l16.length : Int))) then (
 tst (decide (0 ≤ n18)) (
 look l16 (Int.toNat n18) fun r19 =>
 cI .i64 r19 0 fun n20 =>
 callT T 26 [(.d (.v (.int .i64 n20)))] fun o21 =>
 oD o21.res fun d22 =>
 dS d22 fun s23 =>
 tst (decide (s17.size + s23.size ≤ maxLen)) (
 tst (decide ((s17 ++ s23).size + ({ data := #[32] } : ByteArray).size ≤ maxLen)) (
 tst (decide (0 ≤ n18)) (
 look l16 (Int.toNat n18) fun r24 =>
 cI .i64 r24 1 fun n25 =>
 callT T 26 [(.d (.v (.int .i64 n25)))] fun o26 =>
 oD o26.res fun d27 =>
 dS d27 fun s28 =>
 tst (decide (((s17 ++ s23) ++ ({ data := #[32] } : ByteArray)).size + s28.size ≤ maxLen)) (
 tst (decide ((((s17 ++ s23) ++ ({ data := #[32] } : ByteArray)) ++ s28).size + ({ data := #[10] } : ByteArray).size ≤ maxLen)) (
 l7x0 T k n [(.b [(.v (.int .i64 n12)), (.v (.string s13)), (.v (.int .i64 n14)), (.fz 7 l15), (.fz 2 l16)]), (.v (.string ((((s17 ++ s23) ++ ({ data := #[32] } : ByteArray)) ++ s28) ++ ({ data := #[10] } : ByteArray)))), (.v (.int .i64 (IntKind.wrap .i64 (n18 + 1))))]))))))) else (
 some ((.exit 0), [(.b [(.v (.int .i64 n12)), (.v (.string s13)), (.v (.int .i64 n14)), (.fz 7 l15), (.fz 2 l16)]), (.v (.string s17))]))) := by kernel_rfl
theorem l7x1s (T : Table) (k n : Nat) (n45 : Int) (s46 : ByteArray) (n47 : Int) (l48 : Rows) (l49 : Rows) (s50 : ByteArray) (n51 : Int) : l7x1 T k (n + 1) [(.b [(.v (.int .i64 n45)), (.v (.string s46)), (.v (.int .i64 n47)), (.fz 7 l48), (.fz 2 l49)]), (.v (.string s50)), (.v (.int .i64 n51))] = (
 bif (decide (n51 < (l48.length : Int))) then (
 tst (decide (0 ≤ n51)) (
 look l48 (Int.toNat n51) fun r52 =>
 cI .i64 r52 0 fun n53 =>
 callT T 26 [(.d (.v (.int .i64 n53)))] fun o54 =>
 oD o54.res fun d55 =>
 dS d55 fun s56 =>
 tst (decide (s50.size + s56.size ≤ maxLen)) (
 tst (decide ((s50 ++ s56).size + ({ data := #[32] } : ByteArray).size ≤ maxLen)) (
 tst (decide (0 ≤ n51)) (
 look l48 (Int.toNat n51) fun r57 =>
 cI .i64 r57 1 fun n58 =>
 callT T 26 [(.d (.v (.int .i64 n58)))] fun o59 =>
 oD o59.res fun d60 =>
 dS d60 fun s61 =>
 tst (decide (((s50 ++ s56) ++ ({ data := #[32] } : ByteArray)).size + s61.size ≤ maxLen)) (
 tst (decide ((((s50 ++ s56) ++ ({ data := #[32] } : ByteArray)) ++ s61).size + ({ data := #[32] } : ByteArray).size ≤ maxLen)) (
 tst (decide (0 ≤ n51)) (
 look l48 (Int.toNat n51) fun r62 =>
 cI .i64 r62 2 fun n63 =>
 cS r62 3 fun s64 =>
 cI .i64 r62 4 fun n65 =>
 cL 1 r62 5 fun l66 =>
 cL 5 r62 6 fun l67 =>
 callT T 27 [(.g [(.v (.int .i64 n63)), (.v (.string s64)), (.v (.int .i64 n65)), (.s 1 l66), (.s 5 l67)])] fun o68 =>
 oD o68.res fun d69 =>
 dS d69 fun s70 =>
 tst (decide (((((s50 ++ s56) ++ ({ data := #[32] } : ByteArray)) ++ s61) ++ ({ data := #[32] } : ByteArray)).size + s70.size ≤ maxLen)) (
 tst (decide ((((((s50 ++ s56) ++ ({ data := #[32] } : ByteArray)) ++ s61) ++ ({ data := #[32] } : ByteArray)) ++ s70).size + ({ data := #[10] } : ByteArray).size ≤ maxLen)) (
 l7x1 T k n [(.b [(.v (.int .i64 n45)), (.v (.string s46)), (.v (.int .i64 n47)), (.fz 7 l48), (.fz 2 l49)]), (.v (.string ((((((s50 ++ s56) ++ ({ data := #[32] } : ByteArray)) ++ s61) ++ ({ data := #[32] } : ByteArray)) ++ s70) ++ ({ data := #[10] } : ByteArray)))), (.v (.int .i64 (IntKind.wrap .i64 (n51 + 1))))])))))))))) else (
 some ((.exit 2), [(.v (.string s50))]))) := by kernel_rfl
theorem a7q (T : Table) (k : Nat) (n1 : Int) (s2 : ByteArray) (n3 : Int) (l4 : Rows) (l5 : Rows) : evalF T k a7 [(.g [(.v (.int .i64 n1)), (.v (.string s2)), (.v (.int .i64 n3)), (.s 7 l4), (.s 2 l5)])] = (
 callT T 25 [(.g [(.v (.int .i64 n1)), (.v (.string s2)), (.v (.int .i64 n3)), (.s 7 l4), (.s 2 l5)])] fun o6 =>
 oD o6.res fun d7 =>
 dB d7 fun b8 =>
 bif (!b8) then (
 some ⟨(.d (.v (.string ({ data := #[] } : ByteArray)))), []⟩) else (
 bif (n1 == 2) then (
 tst (decide (({ data := #[108, 105, 115, 116, 32] } : ByteArray).size + s2.size ≤ maxLen)) (
 tst (decide ((({ data := #[108, 105, 115, 116, 32] } : ByteArray) ++ s2).size + ({ data := #[32] } : ByteArray).size ≤ maxLen)) (
 callT T 26 [(.d (.v (.int .i64 n3)))] fun o9 =>
 oD o9.res fun d10 =>
 dS d10 fun s11 =>
 tst (decide (((({ data := #[108, 105, 115, 116, 32] } : ByteArray) ++ s2) ++ ({ data := #[32] } : ByteArray)).size + s11.size ≤ maxLen)) (
 tst (decide ((((({ data := #[108, 105, 115, 116, 32] } : ByteArray) ++ s2) ++ ({ data := #[32] } : ByteArray)) ++ s11).size + ({ data := #[10] } : ByteArray).size ≤ maxLen)) (
 aft (l7x0 T k k [(.b [(.v (.int .i64 n1)), (.v (.string s2)), (.v (.int .i64 n3)), (.fz 7 l4), (.fz 2 l5)]), (.v (.string ((((({ data := #[108, 105, 115, 116, 32] } : ByteArray) ++ s2) ++ ({ data := #[32] } : ByteArray)) ++ s11) ++ ({ data := #[10] } : ByteArray)))), (.v (.int .i64 0))]) fun e29 ys30 =>
 bif e29.same (.exit 0) then (
 aV ys30 0 fun x31 =>
 aX x31 fun xs32 =>
 aV xs32 0 fun x33 =>
 aI .i64 x33 fun n34 =>
 aV xs32 1 fun x35 =>
 aS x35 fun s36 =>
 aV xs32 2 fun x37 =>
 aI .i64 x37 fun n38 =>
 aV xs32 3 fun x39 =>
 aL 7 x39 fun l40 =>
 aV xs32 4 fun x41 =>
 aL 2 x41 fun l42 =>
 aV ys30 1 fun x43 =>
 aS x43 fun s44 =>
 aft (l7x1 T k k [(.b [(.v (.int .i64 n34)), (.v (.string s36)), (.v (.int .i64 n38)), (.fz 7 l40), (.fz 2 l42)]), (.v (.string s44)), (.v (.int .i64 0))]) fun e71 ys72 =>
 bif e71.same (.exit 2) then (
 aV ys72 0 fun x73 =>
 aS x73 fun s74 =>
 some ⟨(.d (.v (.string s74))), []⟩) else (
 none)) else (
 none)))))) else (
 tst (decide (({ data := #[116, 101, 108, 108, 32] } : ByteArray).size + s2.size ≤ maxLen)) (
 tst (decide ((({ data := #[116, 101, 108, 108, 32] } : ByteArray) ++ s2).size + ({ data := #[32] } : ByteArray).size ≤ maxLen)) (
 callT T 26 [(.d (.v (.int .i64 n3)))] fun o75 =>
 oD o75.res fun d76 =>
 dS d76 fun s77 =>
 tst (decide (((({ data := #[116, 101, 108, 108, 32] } : ByteArray) ++ s2) ++ ({ data := #[32] } : ByteArray)).size + s77.size ≤ maxLen)) (
 tst (decide ((((({ data := #[116, 101, 108, 108, 32] } : ByteArray) ++ s2) ++ ({ data := #[32] } : ByteArray)) ++ s77).size + ({ data := #[10] } : ByteArray).size ≤ maxLen)) (
 aft (l7x0 T k k [(.b [(.v (.int .i64 n1)), (.v (.string s2)), (.v (.int .i64 n3)), (.fz 7 l4), (.fz 2 l5)]), (.v (.string ((((({ data := #[116, 101, 108, 108, 32] } : ByteArray) ++ s2) ++ ({ data := #[32] } : ByteArray)) ++ s77) ++ ({ data := #[10] } : ByteArray)))), (.v (.int .i64 0))]) fun e78 ys79 =>
 bif e78.same (.exit 0) then (
 aV ys79 0 fun x80 =>
 aX x80 fun xs81 =>
 aV xs81 0 fun x82 =>
 aI .i64 x82 fun n83 =>
 aV xs81 1 fun x84 =>
 aS x84 fun s85 =>
 aV xs81 2 fun x86 =>
 aI .i64 x86 fun n87 =>
 aV xs81 3 fun x88 =>
 aL 7 x88 fun l89 =>
 aV xs81 4 fun x90 =>
 aL 2 x90 fun l91 =>
 aV ys79 1 fun x92 =>
 aS x92 fun s93 =>
 aft (l7x1 T k k [(.b [(.v (.int .i64 n83)), (.v (.string s85)), (.v (.int .i64 n87)), (.fz 7 l89), (.fz 2 l91)]), (.v (.string s93)), (.v (.int .i64 0))]) fun e94 ys95 =>
 bif e94.same (.exit 2) then (
 aV ys95 0 fun x96 =>
 aS x96 fun s97 =>
 some ⟨(.d (.v (.string s97))), []⟩) else (
 none)) else (
 none)))))))) := by kernel_rfl
/- loop.example/g00119/laws.toStringS -/
def b105x0 : ACode := (
 .seq (.seq (.g [oM 8 4, oM 9 0, oZ 10 9, oB 11 .lss 8 10]) (
 .cond (.t 11) (.skip) (.exit 0))) (
 .seq (.block 1 (.g [oM 14 3, oM 15 4, oM 16 0, oM 17 4, oI 18 1 16 17, oW 19 .s 18, oI 20 1 14 15, oS (.store 1 (.t 20) (.t 19))])) (
 .g [oM 12 4, oBi 13 .add 12 1, oM 4 13])))
def e105x0 : Exits := [((.exit 0), [(3, .o 1)])]
noncomputable def l105x0 (T : Table) (k : Nat) := loopN (evalC ⟨T, []⟩ k b105x0 (Ex × List AV)) [0, 3, 4] e105x0
def a105 : AFun := ⟨[.rd], false, [.t 2], (
 .seq (.g [oQ 2 (.mv (.c (.o 1 [])))]) (
 .seq (.g [oM 5 0, oZ 6 5, oQ 7 (.mk [(.v (.string ByteArray.empty))] 16 (.t 6) (.t 6)), oM 3 7]) (
 .seq (.seq (.g [oK 4 0]) (
 .block 0 (.loop [0, 3, 4] e105x0 b105x0))) (
 .seq (.g [oM 21 3, oM 2 21]) (
 .ret)))))⟩
theorem l105x0s (T : Table) (k n : Nat) (l2 : Rows) (l3 : Rows) (n4 : Int) : l105x0 T k (n + 1) [(.fz 1 l2), (.o 1 l3), (.v (.int .i64 n4))] = (
 bif (decide (n4 < (l2.length : Int))) then (
 tst (decide (0 ≤ n4)) (
 look l2 (Int.toNat n4) fun r5 =>
 cS r5 0 fun s6 =>
 tst (decide (0 ≤ n4) && decide (Int.toNat n4 < l3.length)) (
 l105x0 T k n [(.fz 1 l2), (.o 1 (setD l3 (Int.toNat n4) 0 (.v (.string s6)))), (.v (.int .i64 (IntKind.wrap .i64 (n4 + 1))))]))) else (
 some ((.exit 0), [(.o 1 l3)]))) := by kernel_rfl
theorem a105q (T : Table) (k : Nat) (l1 : Rows) : evalF T k a105 [(.d (.s 1 l1))] = (
 tst (cutOk (l1.length : Int) (l1.length : Int) maxLen && decide (Int.toNat (l1.length : Int) * 16 ≤ maxBytes)) (
 aft (l105x0 T k k [(.fz 1 l1), (.o 1 (List.replicate (Int.toNat (l1.length : Int)) [(.v (.string ByteArray.empty))])), (.v (.int .i64 0))]) fun e7 ys8 =>
 bif e7.same (.exit 0) then (
 aV ys8 0 fun x9 =>
 aO 1 x9 fun l10 =>
 some ⟨(.d (.s 1 l10)), []⟩) else (
 none))) := by kernel_rfl
/- loop.example/g00119/laws.toValueS -/
def b106x0 : ACode := (
 .seq (.seq (.g [oM 8 4, oM 9 0, oZ 10 9, oB 11 .lss 8 10]) (
 .cond (.t 11) (.skip) (.exit 0))) (
 .seq (.block 1 (.g [oM 14 3, oM 15 4, oM 16 0, oM 17 4, oI 18 5 16 17, oL 19 [kI, .s, kI, (.sl 1), (.sl 5)] 18, oC 20 84 [.g [kI, .s, kI, (.sl 1), (.sl 5)]] [19], oI 21 5 14 15, oS (.store 5 (.t 21) (.t 20))])) (
 .g [oM 12 4, oBi 13 .add 12 1, oM 4 13])))
def e106x0 : Exits := [((.exit 0), [(3, .o 5)])]
noncomputable def l106x0 (T : Table) (k : Nat) := loopN (evalC ⟨T, []⟩ k b106x0 (Ex × List AV)) [0, 3, 4] e106x0
def a106 : AFun := ⟨[.rd], false, [.t 2], (
 .seq (.g [oQ 2 (.mv (.c (.o 5 [])))]) (
 .seq (.g [oM 5 0, oZ 6 5, oQ 7 (.mk [(.v (.int .i64 0)), (.v (.string ByteArray.empty)), (.v (.int .i64 0)), (.s 1 []), (.s 5 [])] 80 (.t 6) (.t 6)), oM 3 7]) (
 .seq (.seq (.g [oK 4 0]) (
 .block 0 (.loop [0, 3, 4] e106x0 b106x0))) (
 .seq (.g [oM 22 3, oM 2 22]) (
 .ret)))))⟩
theorem l106x0s (T : Table) (k n : Nat) (l2 : Rows) (l3 : Rows) (n4 : Int) : l106x0 T k (n + 1) [(.fz 5 l2), (.o 5 l3), (.v (.int .i64 n4))] = (
 bif (decide (n4 < (l2.length : Int))) then (
 tst (decide (0 ≤ n4)) (
 look l2 (Int.toNat n4) fun r5 =>
 cI .i64 r5 0 fun n6 =>
 cS r5 1 fun s7 =>
 cI .i64 r5 2 fun n8 =>
 cL 1 r5 3 fun l9 =>
 cL 5 r5 4 fun l10 =>
 callT T 84 [(.g [(.v (.int .i64 n6)), (.v (.string s7)), (.v (.int .i64 n8)), (.s 1 l9), (.s 5 l10)])] fun o11 =>
 oG o11.res fun r12 =>
 tst (Nat.beq r12.length 5) (
 cI .i64 r12 0 fun n13 =>
 cS r12 1 fun s14 =>
 cI .i64 r12 2 fun n15 =>
 cL 1 r12 3 fun l16 =>
 cL 5 r12 4 fun l17 =>
 tst (decide (0 ≤ n4) && decide (Int.toNat n4 < l3.length)) (
 l106x0 T k n [(.fz 5 l2), (.o 5 (setD (setD (setD (setD (setD (setD (setD l3 (Int.toNat n4) 0 (.v (.int .i64 n13))) (Int.toNat n4) 1 (.v (.string s14))) (Int.toNat n4) 2 (.v (.int .i64 n15))) (Int.toNat n4) 3 hole) (Int.toNat n4) 4 hole) (Int.toNat n4) 4 (.s 5 l17)) (Int.toNat n4) 3 (.s 1 l16))), (.v (.int .i64 (IntKind.wrap .i64 (n4 + 1))))])))) else (
 some ((.exit 0), [(.o 5 l3)]))) := by kernel_rfl
theorem a106q (T : Table) (k : Nat) (l1 : Rows) : evalF T k a106 [(.d (.s 5 l1))] = (
 tst (cutOk (l1.length : Int) (l1.length : Int) maxLen && decide (Int.toNat (l1.length : Int) * 80 ≤ maxBytes)) (
 aft (l106x0 T k k [(.fz 5 l1), (.o 5 (List.replicate (Int.toNat (l1.length : Int)) [(.v (.int .i64 0)), (.v (.string ByteArray.empty)), (.v (.int .i64 0)), (.s 1 []), (.s 5 [])])), (.v (.int .i64 0))]) fun e18 ys19 =>
 bif e18.same (.exit 0) then (
 aV ys19 0 fun x20 =>
 aO 5 x20 fun l21 =>
 some ⟨(.d (.s 5 l21)), []⟩) else (
 none))) := by kernel_rfl
/- loop.example/g00119/laws.toValue -/

def a84 : AFun := ⟨[.rd], false, [.c 2 true [kI, .s, kI, (.sl 1), (.sl 5)]], (
 .seq (.g [oQ 1 (.box (.t 0)), oQ 2 (.alloc [(.v (.int .i64 0)), (.v (.string ByteArray.empty)), (.v (.int .i64 0)), (.s 1 []), (.s 5 [])])]) (
 .seq (.g [oQ 3 (.alloc [(.v (.int .i64 0)), (.v (.string ByteArray.empty)), (.v (.int .i64 0)), (.s 1 []), (.s 5 [])])]) (
 .seq (.g [oF 4 0 1, oW 5 kI 4, oF 6 0 3, oS (.store 1 (.t 6) (.t 5))]) (
 .seq (.g [oF 7 1 1, oW 8 .s 7, oF 9 1 3, oS (.store 1 (.t 9) (.t 8))]) (
 .seq (.g [oF 10 2 1, oW 11 kI 10, oF 12 2 3, oS (.store 1 (.t 12) (.t 11))]) (
 .seq (.g [oF 13 3 1, oW 14 (.sl 1) 13, oC 15 105 [.c (.sl 1)] [14], oF 16 3 3, oS (.store 1 (.t 16) (.t 15))]) (
 .seq (.g [oF 17 4 1, oW 18 (.sl 5) 17, oC 19 106 [.c (.sl 5)] [18], oF 20 4 3, oS (.store 1 (.t 20) (.t 19))]) (
 .seq (.g [oL 21 [kI, .s, kI, (.sl 1), (.sl 5)] 3, oS (.store 5 (.t 2) (.t 21))]) (
 .ret)))))))))⟩

theorem a84q (T : Table) (k : Nat) (n1 : Int) (s2 : ByteArray) (n3 : Int) (l4 : Rows) (l5 : Rows) : evalF T k a84 [(.g [(.v (.int .i64 n1)), (.v (.string s2)), (.v (.int .i64 n3)), (.s 1 l4), (.s 5 l5)])] = (
 callT T 105 [(.d (.s 1 l4))] fun o6 =>
 oD o6.res fun d7 =>
 dL 1 d7 fun l8 =>
 callT T 106 [(.d (.s 5 l5))] fun o9 =>
 oD o9.res fun d10 =>
 dL 5 d10 fun l11 =>
 some ⟨(.g [(.v (.int .i64 n1)), (.v (.string s2)), (.v (.int .i64 n3)), (.s 1 l8), (.s 5 l11)]), []⟩) := by kernel_rfl
/- loop.example/g00119/laws.toWork -/

def a56 : AFun := ⟨[.rd], false, [.c 2 true [kI, kI, kI, .s, kI, (.sl 1), (.sl 5)]], (
 .seq (.g [oQ 1 (.box (.t 0)), oQ 2 (.alloc [(.v (.int .i64 0)), (.v (.int .i64 0)), (.v (.int .i64 0)), (.v (.string ByteArray.empty)), (.v (.int .i64 0)), (.s 1 []), (.s 5 [])])]) (
 .seq (.g [oQ 3 (.alloc [(.v (.int .i64 0)), (.v (.int .i64 0)), (.v (.int .i64 0)), (.v (.string ByteArray.empty)), (.v (.int .i64 0)), (.s 1 []), (.s 5 [])])]) (
 .seq (.g [oF 4 0 1, oW 5 kI 4, oF 6 0 3, oS (.store 1 (.t 6) (.t 5))]) (
 .seq (.g [oF 7 1 1, oW 8 kI 7, oF 9 1 3, oS (.store 1 (.t 9) (.t 8))]) (
 .seq (.g [oF 10 2 1, oL 11 [kI, .s, kI, (.sl 1), (.sl 5)] 10, oC 12 84 [.g [kI, .s, kI, (.sl 1), (.sl 5)]] [11], oF 13 2 3, oS (.store 5 (.t 13) (.t 12))]) (
 .seq (.g [oL 14 [kI, kI, kI, .s, kI, (.sl 1), (.sl 5)] 3, oS (.store 7 (.t 2) (.t 14))]) (
 .ret)))))))⟩

theorem a56q (T : Table) (k : Nat) (n1 : Int) (n2 : Int) (n3 : Int) (s4 : ByteArray) (n5 : Int) (l6 : Rows) (l7 : Rows) : evalF T k a56 [(.g [(.v (.int .i64 n1)), (.v (.int .i64 n2)), (.v (.int .i64 n3)), (.v (.string s4)), (.v (.int .i64 n5)), (.s 1 l6), (.s 5 l7)])] = (
 callT T 84 [(.g [(.v (.int .i64 n3)), (.v (.string s4)), (.v (.int .i64 n5)), (.s 1 l6), (.s 5 l7)])] fun o8 =>
 oG o8.res fun r9 =>
 tst (Nat.beq r9.length 5) (
 cI .i64 r9 0 fun n10 =>
 cS r9 1 fun s11 =>
 cI .i64 r9 2 fun n12 =>
 cL 1 r9 3 fun l13 =>
 cL 5 r9 4 fun l14 =>
 some ⟨(.g [(.v (.int .i64 n1)), (.v (.int .i64 n2)), (.v (.int .i64 n10)), (.v (.string s11)), (.v (.int .i64 n12)), (.s 1 l13), (.s 5 l14)]), []⟩)) := by kernel_rfl
/- loop.example/g00119/laws.toWorkS -/
def b28x0 : ACode := (
 .seq (.seq (.g [oM 8 4, oM 9 0, oZ 10 9, oB 11 .lss 8 10]) (
 .cond (.t 11) (.skip) (.exit 0))) (
 .seq (.block 1 (.g [oM 14 3, oM 15 4, oM 16 0, oM 17 4, oI 18 7 16 17, oL 19 [kI, kI, kI, .s, kI, (.sl 1), (.sl 5)] 18, oC 20 56 [.g [kI, kI, kI, .s, kI, (.sl 1), (.sl 5)]] [19], oI 21 7 14 15, oS (.store 7 (.t 21) (.t 20))])) (
 .g [oM 12 4, oBi 13 .add 12 1, oM 4 13])))
def e28x0 : Exits := [((.exit 0), [(3, .o 7)])]
noncomputable def l28x0 (T : Table) (k : Nat) := loopN (evalC ⟨T, []⟩ k b28x0 (Ex × List AV)) [0, 3, 4] e28x0
def a28 : AFun := ⟨[.rd], false, [.t 2], (
 .seq (.g [oQ 2 (.mv (.c (.o 7 [])))]) (
 .seq (.g [oM 5 0, oZ 6 5, oQ 7 (.mk [(.v (.int .i64 0)), (.v (.int .i64 0)), (.v (.int .i64 0)), (.v (.string ByteArray.empty)), (.v (.int .i64 0)), (.s 1 []), (.s 5 [])] 96 (.t 6) (.t 6)), oM 3 7]) (
 .seq (.seq (.g [oK 4 0]) (
 .block 0 (.loop [0, 3, 4] e28x0 b28x0))) (
 .seq (.g [oM 22 3, oM 2 22]) (
 .ret)))))⟩
theorem l28x0s (T : Table) (k n : Nat) (l2 : Rows) (l3 : Rows) (n4 : Int) : l28x0 T k (n + 1) [(.fz 7 l2), (.o 7 l3), (.v (.int .i64 n4))] = (
 bif (decide (n4 < (l2.length : Int))) then (
 tst (decide (0 ≤ n4)) (
 look l2 (Int.toNat n4) fun r5 =>
 cI .i64 r5 0 fun n6 =>
 cI .i64 r5 1 fun n7 =>
 cI .i64 r5 2 fun n8 =>
 cS r5 3 fun s9 =>
 cI .i64 r5 4 fun n10 =>
 cL 1 r5 5 fun l11 =>
 cL 5 r5 6 fun l12 =>
 callT T 56 [(.g [(.v (.int .i64 n6)), (.v (.int .i64 n7)), (.v (.int .i64 n8)), (.v (.string s9)), (.v (.int .i64 n10)), (.s 1 l11), (.s 5 l12)])] fun o13 =>
 oG o13.res fun r14 =>
 tst (Nat.beq r14.length 7) (
 cI .i64 r14 0 fun n15 =>
 cI .i64 r14 1 fun n16 =>
 cI .i64 r14 2 fun n17 =>
 cS r14 3 fun s18 =>
 cI .i64 r14 4 fun n19 =>
 cL 1 r14 5 fun l20 =>
 cL 5 r14 6 fun l21 =>
 tst (decide (0 ≤ n4) && decide (Int.toNat n4 < l3.length)) (
 l28x0 T k n [(.fz 7 l2), (.o 7 (setD (setD (setD (setD (setD (setD (setD (setD (setD l3 (Int.toNat n4) 0 (.v (.int .i64 n15))) (Int.toNat n4) 1 (.v (.int .i64 n16))) (Int.toNat n4) 2 (.v (.int .i64 n17))) (Int.toNat n4) 3 (.v (.string s18))) (Int.toNat n4) 4 (.v (.int .i64 n19))) (Int.toNat n4) 5 hole) (Int.toNat n4) 6 hole) (Int.toNat n4) 6 (.s 5 l21)) (Int.toNat n4) 5 (.s 1 l20))), (.v (.int .i64 (IntKind.wrap .i64 (n4 + 1))))])))) else (
 some ((.exit 0), [(.o 7 l3)]))) := by kernel_rfl
theorem a28q (T : Table) (k : Nat) (l1 : Rows) : evalF T k a28 [(.d (.s 7 l1))] = (
 tst (cutOk (l1.length : Int) (l1.length : Int) maxLen && decide (Int.toNat (l1.length : Int) * 96 ≤ maxBytes)) (
 aft (l28x0 T k k [(.fz 7 l1), (.o 7 (List.replicate (Int.toNat (l1.length : Int)) [(.v (.int .i64 0)), (.v (.int .i64 0)), (.v (.int .i64 0)), (.v (.string ByteArray.empty)), (.v (.int .i64 0)), (.s 1 []), (.s 5 [])])), (.v (.int .i64 0))]) fun e22 ys23 =>
 bif e22.same (.exit 0) then (
 aV ys23 0 fun x24 =>
 aO 7 x24 fun l25 =>
 some ⟨(.d (.s 7 l25)), []⟩) else (
 none))) := by kernel_rfl
/- loop.example/g00119/laws.toRun -/

def a57 : AFun := ⟨[.rd], false, [.c 2 true [kI, kI]], (
 .seq (.g [oQ 1 (.box (.t 0)), oQ 2 (.alloc [(.v (.int .i64 0)), (.v (.int .i64 0))])]) (
 .seq (.g [oQ 3 (.alloc [(.v (.int .i64 0)), (.v (.int .i64 0))])]) (
 .seq (.g [oF 4 0 1, oW 5 kI 4, oF 6 0 3, oS (.store 1 (.t 6) (.t 5))]) (
 .seq (.g [oF 7 1 1, oW 8 kI 7, oF 9 1 3, oS (.store 1 (.t 9) (.t 8))]) (
 .seq (.g [oL 10 [kI, kI] 3, oS (.store 2 (.t 2) (.t 10))]) (
 .ret))))))⟩

theorem a57q (T : Table) (k : Nat) (n1 : Int) (n2 : Int) : evalF T k a57 [(.g [(.v (.int .i64 n1)), (.v (.int .i64 n2))])] = (
 some ⟨(.g [(.v (.int .i64 n1)), (.v (.int .i64 n2))]), []⟩) := by kernel_rfl
/- loop.example/g00119/laws.toRunS -/
def b29x0 : ACode := (
 .seq (.seq (.g [oM 8 4, oM 9 0, oZ 10 9, oB 11 .lss 8 10]) (
 .cond (.t 11) (.skip) (.exit 0))) (
 .seq (.block 1 (.g [oM 14 3, oM 15 4, oM 16 0, oM 17 4, oI 18 2 16 17, oL 19 [kI, kI] 18, oC 20 57 [.g [kI, kI]] [19], oI 21 2 14 15, oS (.store 2 (.t 21) (.t 20))])) (
 .g [oM 12 4, oBi 13 .add 12 1, oM 4 13])))
def e29x0 : Exits := [((.exit 0), [(3, .o 2)])]
noncomputable def l29x0 (T : Table) (k : Nat) := loopN (evalC ⟨T, []⟩ k b29x0 (Ex × List AV)) [0, 3, 4] e29x0
def a29 : AFun := ⟨[.rd], false, [.t 2], (
 .seq (.g [oQ 2 (.mv (.c (.o 2 [])))]) (
 .seq (.g [oM 5 0, oZ 6 5, oQ 7 (.mk [(.v (.int .i64 0)), (.v (.int .i64 0))] 16 (.t 6) (.t 6)), oM 3 7]) (
 .seq (.seq (.g [oK 4 0]) (
 .block 0 (.loop [0, 3, 4] e29x0 b29x0))) (
 .seq (.g [oM 22 3, oM 2 22]) (
 .ret)))))⟩
theorem l29x0s (T : Table) (k n : Nat) (l2 : Rows) (l3 : Rows) (n4 : Int) : l29x0 T k (n + 1) [(.fz 2 l2), (.o 2 l3), (.v (.int .i64 n4))] = (
 bif (decide (n4 < (l2.length : Int))) then (
 tst (decide (0 ≤ n4)) (
 look l2 (Int.toNat n4) fun r5 =>
 cI .i64 r5 0 fun n6 =>
 cI .i64 r5 1 fun n7 =>
 callT T 57 [(.g [(.v (.int .i64 n6)), (.v (.int .i64 n7))])] fun o8 =>
 oG o8.res fun r9 =>
 tst (Nat.beq r9.length 2) (
 cI .i64 r9 0 fun n10 =>
 cI .i64 r9 1 fun n11 =>
 tst (decide (0 ≤ n4) && decide (Int.toNat n4 < l3.length)) (
 l29x0 T k n [(.fz 2 l2), (.o 2 (setD (setD l3 (Int.toNat n4) 0 (.v (.int .i64 n10))) (Int.toNat n4) 1 (.v (.int .i64 n11)))), (.v (.int .i64 (IntKind.wrap .i64 (n4 + 1))))])))) else (
 some ((.exit 0), [(.o 2 l3)]))) := by kernel_rfl
theorem a29q (T : Table) (k : Nat) (l1 : Rows) : evalF T k a29 [(.d (.s 2 l1))] = (
 tst (cutOk (l1.length : Int) (l1.length : Int) maxLen && decide (Int.toNat (l1.length : Int) * 16 ≤ maxBytes)) (
 aft (l29x0 T k k [(.fz 2 l1), (.o 2 (List.replicate (Int.toNat (l1.length : Int)) [(.v (.int .i64 0)), (.v (.int .i64 0))])), (.v (.int .i64 0))]) fun e12 ys13 =>
 bif e12.same (.exit 0) then (
 aV ys13 0 fun x14 =>
 aO 2 x14 fun l15 =>
 some ⟨(.d (.s 2 l15)), []⟩) else (
 none))) := by kernel_rfl
/- loop.example/g00119/laws.toMsg -/

def a8 : AFun := ⟨[.rd], false, [.c 2 true [kI, .s, kI, (.sl 7), (.sl 2)]], (
 .seq (.g [oQ 1 (.box (.t 0)), oQ 2 (.alloc [(.v (.int .i64 0)), (.v (.string ByteArray.empty)), (.v (.int .i64 0)), (.s 7 []), (.s 2 [])])]) (
 .seq (.g [oQ 3 (.alloc [(.v (.int .i64 0)), (.v (.string ByteArray.empty)), (.v (.int .i64 0)), (.s 7 []), (.s 2 [])])]) (
 .seq (.g [oF 4 0 1, oW 5 kI 4, oF 6 0 3, oS (.store 1 (.t 6) (.t 5))]) (
 .seq (.g [oF 7 1 1, oW 8 .s 7, oF 9 1 3, oS (.store 1 (.t 9) (.t 8))]) (
 .seq (.g [oF 10 2 1, oW 11 kI 10, oF 12 2 3, oS (.store 1 (.t 12) (.t 11))]) (
 .seq (.g [oF 13 3 1, oW 14 (.sl 7) 13, oC 15 28 [.c (.sl 7)] [14], oF 16 3 3, oS (.store 1 (.t 16) (.t 15))]) (
 .seq (.g [oF 17 4 1, oW 18 (.sl 2) 17, oC 19 29 [.c (.sl 2)] [18], oF 20 4 3, oS (.store 1 (.t 20) (.t 19))]) (
 .seq (.g [oL 21 [kI, .s, kI, (.sl 7), (.sl 2)] 3, oS (.store 5 (.t 2) (.t 21))]) (
 .ret)))))))))⟩

theorem a8q (T : Table) (k : Nat) (n1 : Int) (s2 : ByteArray) (n3 : Int) (l4 : Rows) (l5 : Rows) : evalF T k a8 [(.g [(.v (.int .i64 n1)), (.v (.string s2)), (.v (.int .i64 n3)), (.s 7 l4), (.s 2 l5)])] = (
 callT T 28 [(.d (.s 7 l4))] fun o6 =>
 oD o6.res fun d7 =>
 dL 7 d7 fun l8 =>
 callT T 29 [(.d (.s 2 l5))] fun o9 =>
 oD o9.res fun d10 =>
 dL 2 d10 fun l11 =>
 some ⟨(.g [(.v (.int .i64 n1)), (.v (.string s2)), (.v (.int .i64 n3)), (.s 7 l8), (.s 2 l11)]), []⟩) := by kernel_rfl
/- loop.example/g00119/impl.within -/

def a59 : AFun := ⟨[.rd, .rd, .rd], false, [.t 6], (
 .seq (.g [oV 6 false]) (
 .seq (.g [oM 7 0, oM 8 1, oB 9 .geq 7 8, oM 10 9, oJ 11 10 true (.mv (.t 0)), oJ 12 10 true (.mv (.t 2)), oJ 13 10 true (.bin .leq (.t 11) (.t 12)), oQ 14 (.pick (.t 10) (.t 13) (.b false)), oM 6 14]) (
 .ret)))⟩

theorem a59q (T : Table) (k : Nat) (n1 : Int) (n2 : Int) (n3 : Int) : evalF T k a59 [(.d (.v (.int .i64 n1))), (.d (.v (.int .i64 n2))), (.d (.v (.int .i64 n3)))] = (
 bif (decide (n1 ≥ n2)) == true then (
 some ⟨(.d (.v (.bool (decide (n1 ≤ n3))))), []⟩) else (
 some ⟨(.d (.v (.bool false))), []⟩)) := by kernel_rfl
/- loop.example/g00119/impl.NameOk -/
def b58x0 : ACode := (
 .seq (.g [oB 8 .lss 7 6]) (
 .seq (.cond (.t 8) (.skip) (.exit 0)) (
 .seq (.block 1 (.seq (.g [oM 9 7, oM 3 9]) (
 .seq (.g [oM 10 0, oM 11 3, oQ 12 (.idx (.t 10) (.t 11)), oM 4 12]) (
 .seq (.g [oM 13 4, oQ 14 (.bin .lss (.t 13) (.c (.v (.int .u8 97)))), oM 15 14, oJ 16 15 false (.mv (.t 4)), oJ 17 15 false (.bin .gtr (.t 16) (.c (.v (.int .u8 122)))), oQ 18 (.pick (.t 15) (.b true) (.t 17)), oM 19 18, oJ 20 19 true (.mv (.t 4)), oJ 21 19 true (.bin .lss (.t 20) (.c (.v (.int .u8 48)))), oJ 22 19 true (.mv (.t 21)), oJ 23 22 false (.mv (.t 4)), oJ 24 22 false (.bin .gtr (.t 23) (.c (.v (.int .u8 57)))), oJ 25 19 true (.pick (.t 22) (.b true) (.t 24)), oQ 26 (.pick (.t 19) (.t 25) (.b false)), oM 27 26, oJ 28 27 true (.mv (.t 4)), oJ 29 27 true (.bin .neq (.t 28) (.c (.v (.int .u8 45)))), oQ 30 (.pick (.t 27) (.t 29) (.b false))]) (
 .cond (.t 30) (.seq (.g [oV 2 false]) (
 .ret)) (.skip)))))) (
 .g [oBi 31 .add 7 1, oM 7 31]))))
def e58x0 : Exits := [(.ret, [(2, .c .b)]), ((.exit 0), [(0, .c .s)])]
noncomputable def l58x0 (T : Table) (k : Nat) := loopN (evalC ⟨T, []⟩ k b58x0 (Ex × List AV)) [0, 6, 7] e58x0
def a58 : AFun := ⟨[.rd], false, [.t 2], (
 .seq (.g [oV 2 false]) (
 .seq (.seq (.g [oM 5 0, oQ 6 (.len true (.t 5)), oK 7 0]) (
 .block 0 (.loop [0, 6, 7] e58x0 b58x0))) (
 .seq (.g [oM 32 0, oQ 33 (.len true (.t 32)), oQ 34 (.call (.f 59) [.rd, .rd, .rd] false [.c .b] [(.t 33), (.i 1), (.i 20)]), oM 35 34, oJ 36 35 true (.mv (.t 0)), oJ 37 35 true (.idx (.t 36) (.i 0)), oJ 38 35 true (.bin .neq (.t 37) (.c (.v (.int .u8 45)))), oQ 39 (.pick (.t 35) (.t 38) (.b false)), oM 40 39, oJ 41 40 true (.mv (.t 0)), oJ 42 40 true (.mv (.t 0)), oJ 43 40 true (.len true (.t 42)), oJ 44 40 true (.bin .sub (.t 43) (.i 1)), oJ 45 40 true (.idx (.t 41) (.t 44)), oJ 46 40 true (.bin .neq (.t 45) (.c (.v (.int .u8 45)))), oQ 47 (.pick (.t 40) (.t 46) (.b false)), oM 2 47]) (
 .ret))))⟩
theorem l58x0s (T : Table) (k n : Nat) (s2 : ByteArray) (n3 : Int) (n4 : Int) : l58x0 T k (n + 1) [(.v (.string s2)), (.v (.int .i64 n3)), (.v (.int .i64 n4))] = (
 bif (decide (n4 < n3)) then (
 tst (decide (0 ≤ n4)) (
 byteAt s2 (Int.toNat n4) fun c5 =>
 bif (decide ((c5.toNat : Int) < 97)) == false then (
 bif (decide ((c5.toNat : Int) > 122)) == true then (
 bif (decide ((c5.toNat : Int) < 48)) == false then (
 bif (decide ((c5.toNat : Int) > 57)) == true then (
 bif ((c5.toNat : Int) != 45) then (
 some (.ret, [(.v (.bool false))])) else (
 l58x0 T k n [(.v (.string s2)), (.v (.int .i64 n3)), (.v (.int .i64 (IntKind.wrap .i64 (n4 + 1))))])) else (
 l58x0 T k n [(.v (.string s2)), (.v (.int .i64 n3)), (.v (.int .i64 (IntKind.wrap .i64 (n4 + 1))))])) else (
 bif ((c5.toNat : Int) != 45) then (
 some (.ret, [(.v (.bool false))])) else (
 l58x0 T k n [(.v (.string s2)), (.v (.int .i64 n3)), (.v (.int .i64 (IntKind.wrap .i64 (n4 + 1))))]))) else (
 l58x0 T k n [(.v (.string s2)), (.v (.int .i64 n3)), (.v (.int .i64 (IntKind.wrap .i64 (n4 + 1))))])) else (
 bif (decide ((c5.toNat : Int) < 48)) == false then (
 bif (decide ((c5.toNat : Int) > 57)) == true then (
 bif ((c5.toNat : Int) != 45) then (
 some (.ret, [(.v (.bool false))])) else (
 l58x0 T k n [(.v (.string s2)), (.v (.int .i64 n3)), (.v (.int .i64 (IntKind.wrap .i64 (n4 + 1))))])) else (
 l58x0 T k n [(.v (.string s2)), (.v (.int .i64 n3)), (.v (.int .i64 (IntKind.wrap .i64 (n4 + 1))))])) else (
 bif ((c5.toNat : Int) != 45) then (
 some (.ret, [(.v (.bool false))])) else (
 l58x0 T k n [(.v (.string s2)), (.v (.int .i64 n3)), (.v (.int .i64 (IntKind.wrap .i64 (n4 + 1))))]))))) else (
 some ((.exit 0), [(.v (.string s2))]))) := by kernel_rfl
theorem a58q (T : Table) (k : Nat) (s1 : ByteArray) : evalF T k a58 [(.d (.v (.string s1)))] = (
 aft (l58x0 T k k [(.v (.string s1)), (.v (.int .i64 (s1.size : Int))), (.v (.int .i64 0))]) fun e6 ys7 =>
 bif e6.same .ret then (
 aV ys7 0 fun x8 =>
 aB x8 fun b9 =>
 some ⟨(.d (.v (.bool b9))), []⟩) else (
 bif e6.same (.exit 0) then (
 aV ys7 0 fun x10 =>
 aS x10 fun s11 =>
 callT T 59 [(.d (.v (.int .i64 (s11.size : Int)))), (.d (.v (.int .i64 1))), (.d (.v (.int .i64 20)))] fun o12 =>
 oD o12.res fun d13 =>
 dB d13 fun b14 =>
 bif b14 == true then (
 tst (decide (0 ≤ 0)) (
 byteAt s11 (Int.toNat 0) fun c15 =>
 bif ((c15.toNat : Int) != 45) == true then (
 tst (decide (0 ≤ (IntKind.wrap .i64 ((s11.size : Int) - 1)))) (
 byteAt s11 (Int.toNat (IntKind.wrap .i64 ((s11.size : Int) - 1))) fun c16 =>
 some ⟨(.d (.v (.bool ((c16.toNat : Int) != 45)))), []⟩)) else (
 some ⟨(.d (.v (.bool false))), []⟩))) else (
 some ⟨(.d (.v (.bool false))), []⟩)) else (
 none))) := by kernel_rfl
/- loop.example/g00119/impl.namesOk -/
def b102x0 : ACode := (
 .seq (.g [oB 10 .lss 9 8]) (
 .seq (.cond (.t 10) (.skip) (.exit 0)) (
 .seq (.block 1 (.seq (.g [oM 11 9, oI 12 1 7 9, oW 13 .s 12, oM 5 11, oM 6 13]) (
 .seq (.g [oM 14 6, oC 15 58 [.c .b] [14], oN 16 15, oM 17 16, oJ 18 17 false (.mv (.t 5)), oJ 19 17 false (.bin .gtr (.t 18) (.i 0)), oJ 20 17 false (.mv (.t 19)), oJ 21 20 true (.mv (.t 0)), oJ 22 20 true (.mv (.t 5)), oJ 23 20 true (.bin .sub (.t 22) (.i 1)), oJ 24 20 true (.iad 1 (.t 21) (.t 23)), oJ 25 20 true (.load false [.s] (.t 24)), oJ 26 20 true (.mv (.t 6)), oJ 27 20 true (.bin .geq (.t 25) (.t 26)), oJ 28 17 false (.pick (.t 20) (.t 27) (.b false)), oQ 29 (.pick (.t 17) (.b true) (.t 28))]) (
 .cond (.t 29) (.seq (.g [oV 4 false]) (
 .ret)) (.skip))))) (
 .g [oBi 30 .add 9 1, oM 9 30]))))
def e102x0 : Exits := [(.ret, [(4, .c .b)]), ((.exit 0), [(0, .c (.sl 1)), (1, .c kI)])]
noncomputable def l102x0 (T : Table) (k : Nat) := loopN (evalC ⟨T, []⟩ k b102x0 (Ex × List AV)) [0, 1, 7, 8, 9] e102x0
def a102 : AFun := ⟨[.rd, .rd], false, [.t 4], (
 .seq (.g [oV 4 false]) (
 .seq (.seq (.g [oM 7 0, oZ 8 7, oK 9 0]) (
 .block 0 (.loop [0, 1, 7, 8, 9] e102x0 b102x0))) (
 .seq (.g [oM 31 0, oZ 32 31, oM 33 1, oB 34 .leq 32 33, oM 4 34]) (
 .ret))))⟩
theorem l102x0s (T : Table) (k n : Nat) (l3 : Rows) (n4 : Int) (l5 : Rows) (n6 : Int) (n7 : Int) : l102x0 T k (n + 1) [(.fz 1 l3), (.v (.int .i64 n4)), (.fz 1 l5), (.v (.int .i64 n6)), (.v (.int .i64 n7))] = (
 bif (decide (n7 < n6)) then (
 tst (decide (0 ≤ n7)) (
 look l5 (Int.toNat n7) fun r8 =>
 cS r8 0 fun s9 =>
 callT T 58 [(.d (.v (.string s9)))] fun o10 =>
 oD o10.res fun d11 =>
 dB d11 fun b12 =>
 bif (!b12) == false then (
 bif (decide (n7 > 0)) == true then (
 tst (decide (0 ≤ (IntKind.wrap .i64 (n7 - 1)))) (
 look l3 (Int.toNat (IntKind.wrap .i64 (n7 - 1))) fun r13 =>
 cS r13 0 fun s14 =>
 bif (!(bytesLess s14 s9)) then (
 some (.ret, [(.v (.bool false))])) else (
 l102x0 T k n [(.fz 1 l3), (.v (.int .i64 n4)), (.fz 1 l5), (.v (.int .i64 n6)), (.v (.int .i64 (IntKind.wrap .i64 (n7 + 1))))]))) else (
 l102x0 T k n [(.fz 1 l3), (.v (.int .i64 n4)), (.fz 1 l5), (.v (.int .i64 n6)), (.v (.int .i64 (IntKind.wrap .i64 (n7 + 1))))])) else (
 some (.ret, [(.v (.bool false))])))) else (
 some ((.exit 0), [(.fz 1 l3), (.v (.int .i64 n4))]))) := by kernel_rfl
theorem a102q (T : Table) (k : Nat) (l1 : Rows) (n2 : Int) : evalF T k a102 [(.d (.s 1 l1)), (.d (.v (.int .i64 n2)))] = (
 aft (l102x0 T k k [(.fz 1 l1), (.v (.int .i64 n2)), (.fz 1 l1), (.v (.int .i64 (l1.length : Int))), (.v (.int .i64 0))]) fun e15 ys16 =>
 bif e15.same .ret then (
 aV ys16 0 fun x17 =>
 aB x17 fun b18 =>
 some ⟨(.d (.v (.bool b18))), []⟩) else (
 bif e15.same (.exit 0) then (
 aV ys16 0 fun x19 =>
 aL 1 x19 fun l20 =>
 aV ys16 1 fun x21 =>
 aI .i64 x21 fun n22 =>
 some ⟨(.d (.v (.bool (decide ((l20.length : Int) ≤ n22))))), []⟩) else (
 none))) := by kernel_rfl
/- loop.example/g00119/impl.shapeOk -/
def b82x0 : ACode := (
 .seq (.g [oB 30 .lss 29 28]) (
 .seq (.cond (.t 30) (.skip) (.exit 1)) (
 .seq (.block 2 (.seq (.g [oM 31 29, oM 7 31]) (
 .seq (.g [oF 32 1 1, oW 33 .s 32, oM 34 7, oQ 35 (.idx (.t 33) (.t 34)), oQ 36 (.conv (.int .i64) (.t 35)), oQ 37 (.call (.f 59) [.rd, .rd, .rd] false [.c .b] [(.t 36), (.i 32), (.i 126)]), oN 38 37]) (
 .cond (.t 38) (.seq (.g [oV 2 false]) (
 .ret)) (.skip))))) (
 .g [oBi 39 .add 29 1, oM 29 39]))))
def e82x0 : Exits := [(.ret, [(2, .c .b)]), ((.exit 1), [(1, .b [.c kI, .c .s, .c kI, .c (.sl 1), .c (.sl 5)]), (4, .c .b), (5, .c .b), (6, .c .b)])]
noncomputable def l82x0 (T : Table) (k : Nat) := loopN (evalC ⟨T, []⟩ k b82x0 (Ex × List AV)) [1, 4, 5, 6, 28, 29] e82x0
def a82 : AFun := ⟨[.rd], false, [.t 2], (
 .seq (.g [oQ 1 (.box (.t 0)), oV 2 false]) (
 .seq (.dreg [] [(0, oF 8 1 1), (0, oW 9 .s 8), (0, oQ 10 (.bin .eql (.t 9) (.c (.v (.string ({ data := #[] } : ByteArray)))))), (0, oF 11 2 1), (0, oW 12 kI 11), (0, oBi 13 .eql 12 0), (0, oF 14 3 1), (0, oW 15 (.sl 1) 14), (0, oZ 16 15), (0, oBi 17 .eql 16 0), (0, oF 18 4 1), (0, oW 19 (.sl 5) 18), (0, oZ 20 19), (0, oBi 21 .eql 20 0), (0, oM 3 10), (0, oM 4 13), (0, oM 5 17)] [oM 6 21]) (
 .seq (.seq (.g [oF 22 0 1, oW 23 kI 22]) (
 .block 0 (.seq (.g [oBi 25 .eql 23 1, oM 24 25]) (
 .cond (.t 24) (.seq (.seq (.g [oF 26 1 1, oW 27 .s 26, oQ 28 (.len true (.t 27)), oK 29 0]) (
 .block 1 (.loop [1, 4, 5, 6, 28, 29] e82x0 b82x0))) (
 .g [oF 40 1 1, oW 41 .s 40, oQ 42 (.len true (.t 41)), oBi 43 .leq 42 100, oM 3 43])) (.seq (.g [oBi 45 .eql 23 2, oM 44 45]) (
 .cond (.t 44) (.g [oV 4 true]) (.seq (.g [oBi 47 .eql 23 3, oM 46 47]) (
 .cond (.t 46) (.g [oF 48 2 1, oW 49 kI 48, oQ 50 (.call (.f 59) [.rd, .rd, .rd] false [.c .b] [(.t 49), (.i 0), (.i 1)]), oM 4 50]) (.seq (.g [oBi 52 .eql 23 4, oM 51 52]) (
 .cond (.t 51) (.g [oV 6 true]) (.seq (.g [oBi 54 .eql 23 5, oM 53 54]) (
 .cond (.t 53) (.seq (.g [oF 55 3 1, oW 56 (.sl 1) 55, oQ 57 (.call (.f 102) [.rd, .rd] false [.c .b] [(.t 56), (.i 300)]), oM 58 57, oJ 59 58 true (.fad 3 (.t 1)), oJ 60 58 true (.load false [(.sl 1)] (.t 59)), oJ 61 58 true (.len false (.t 60)), oJ 62 58 true (.fad 4 (.t 1)), oJ 63 58 true (.load false [(.sl 5)] (.t 62)), oJ 64 58 true (.len false (.t 63)), oJ 65 58 true (.bin .eql (.t 61) (.t 64)), oQ 66 (.pick (.t 58) (.t 65) (.b false)), oM 5 66]) (
 .g [oV 6 true])) (.seq (.g [oV 2 false]) (
 .ret)))))))))))))) (
 .seq (.g [oM 67 3, oM 68 67, oJ 69 68 true (.mv (.t 4)), oQ 70 (.pick (.t 68) (.t 69) (.b false)), oM 71 70, oJ 72 71 true (.mv (.t 5)), oQ 73 (.pick (.t 71) (.t 72) (.b false)), oM 74 73, oJ 75 74 true (.mv (.t 6)), oQ 76 (.pick (.t 74) (.t 75) (.b false)), oM 2 76]) (
 .ret)))))⟩
theorem l82x0s (T : Table) (k n : Nat) (n6 : Int) (s7 : ByteArray) (n8 : Int) (l9 : Rows) (l10 : Rows) (b11 : Bool) (b12 : Bool) (b13 : Bool) (n14 : Int) (n15 : Int) : l82x0 T k (n + 1) [(.b [(.v (.int .i64 n6)), (.v (.string s7)), (.v (.int .i64 n8)), (.fz 1 l9), (.fz 5 l10)]), (.v (.bool b11)), (.v (.bool b12)), (.v (.bool b13)), (.v (.int .i64 n14)), (.v (.int .i64 n15))] = (
 bif (decide (n15 < n14)) then (
 tst (decide (0 ≤ n15)) (
 byteAt s7 (Int.toNat n15) fun c16 =>
 callT T 59 [(.d (.v (.int .i64 (IntKind.wrap .i64 (c16.toNat : Int))))), (.d (.v (.int .i64 32))), (.d (.v (.int .i64 126)))] fun o17 =>
 oD o17.res fun d18 =>
 dB d18 fun b19 =>
 bif (!b19) then (
 some (.ret, [(.v (.bool false))])) else (
 l82x0 T k n [(.b [(.v (.int .i64 n6)), (.v (.string s7)), (.v (.int .i64 n8)), (.fz 1 l9), (.fz 5 l10)]), (.v (.bool b11)), (.v (.bool b12)), (.v (.bool b13)), (.v (.int .i64 n14)), (.v (.int .i64 (IntKind.wrap .i64 (n15 + 1))))]))) else (
 some ((.exit 1), [(.b [(.v (.int .i64 n6)), (.v (.string s7)), (.v (.int .i64 n8)), (.fz 1 l9), (.fz 5 l10)]), (.v (.bool b11)), (.v (.bool b12)), (.v (.bool b13))]))) := by kernel_rfl
theorem a82q (T : Table) (k : Nat) (n1 : Int) (s2 : ByteArray) (n3 : Int) (l4 : Rows) (l5 : Rows) : evalF T k a82 [(.g [(.v (.int .i64 n1)), (.v (.string s2)), (.v (.int .i64 n3)), (.s 1 l4), (.s 5 l5)])] = (
 bif (n1 == 1) then (
 aft (l82x0 T k k [(.b [(.v (.int .i64 n1)), (.v (.string s2)), (.v (.int .i64 n3)), (.fz 1 l4), (.fz 5 l5)]), (.v (.bool (n3 == 0))), (.v (.bool ((l4.length : Int) == 0))), (.v (.bool ((l5.length : Int) == 0))), (.v (.int .i64 (s2.size : Int))), (.v (.int .i64 0))]) fun e20 ys21 =>
 bif e20.same .ret then (
 aV ys21 0 fun x22 =>
 aB x22 fun b23 =>
 some ⟨(.d (.v (.bool b23))), []⟩) else (
 bif e20.same (.exit 1) then (
 aV ys21 0 fun x24 =>
 aX x24 fun xs25 =>
 aV xs25 0 fun x26 =>
 aI .i64 x26 fun n27 =>
 aV xs25 1 fun x28 =>
 aS x28 fun s29 =>
 aV xs25 2 fun x30 =>
 aI .i64 x30 fun n31 =>
 aV xs25 3 fun x32 =>
 aL 1 x32 fun l33 =>
 aV xs25 4 fun x34 =>
 aL 5 x34 fun l35 =>
 aV ys21 1 fun x36 =>
 aB x36 fun b37 =>
 aV ys21 2 fun x38 =>
 aB x38 fun b39 =>
 aV ys21 3 fun x40 =>
 aB x40 fun b41 =>
 bif (decide ((s29.size : Int) ≤ 100)) == true then (
 bif b37 == true then (
 bif b39 == true then (
 some ⟨(.d (.v (.bool b41))), []⟩) else (
 some ⟨(.d (.v (.bool false))), []⟩)) else (
 some ⟨(.d (.v (.bool false))), []⟩)) else (
 some ⟨(.d (.v (.bool false))), []⟩)) else (
 none))) else (
 bif (n1 == 2) then (
 bif (bytesEq s2 ({ data := #[] } : ByteArray)) == true then (
 bif ((l4.length : Int) == 0) == true then (
 some ⟨(.d (.v (.bool ((l5.length : Int) == 0)))), []⟩) else (
 some ⟨(.d (.v (.bool false))), []⟩)) else (
 some ⟨(.d (.v (.bool false))), []⟩)) else (
 bif (n1 == 3) then (
 callT T 59 [(.d (.v (.int .i64 n3))), (.d (.v (.int .i64 0))), (.d (.v (.int .i64 1)))] fun o42 =>
 oD o42.res fun d43 =>
 dB d43 fun b44 =>
 bif (bytesEq s2 ({ data := #[] } : ByteArray)) == true then (
 bif b44 == true then (
 bif ((l4.length : Int) == 0) == true then (
 some ⟨(.d (.v (.bool ((l5.length : Int) == 0)))), []⟩) else (
 some ⟨(.d (.v (.bool false))), []⟩)) else (
 some ⟨(.d (.v (.bool false))), []⟩)) else (
 some ⟨(.d (.v (.bool false))), []⟩)) else (
 bif (n1 == 4) then (
 bif (bytesEq s2 ({ data := #[] } : ByteArray)) == true then (
 bif (n3 == 0) == true then (
 bif ((l4.length : Int) == 0) == true then (
 some ⟨(.d (.v (.bool true))), []⟩) else (
 some ⟨(.d (.v (.bool false))), []⟩)) else (
 some ⟨(.d (.v (.bool false))), []⟩)) else (
 some ⟨(.d (.v (.bool false))), []⟩)) else (
 bif (n1 == 5) then (
 callT T 102 [(.d (.s 1 l4)), (.d (.v (.int .i64 300)))] fun o45 =>
 oD o45.res fun d46 =>
 dB d46 fun b47 =>
 bif b47 == true then (
 bif (bytesEq s2 ({ data := #[] } : ByteArray)) == true then (
 bif (n3 == 0) == true then (
 bif ((l4.length : Int) == (l5.length : Int)) == true then (
 some ⟨(.d (.v (.bool true))), []⟩) else (
 some ⟨(.d (.v (.bool false))), []⟩)) else (
 some ⟨(.d (.v (.bool false))), []⟩)) else (
 some ⟨(.d (.v (.bool false))), []⟩)) else (
 bif (bytesEq s2 ({ data := #[] } : ByteArray)) == true then (
 bif (n3 == 0) == true then (
 some ⟨(.d (.v (.bool false))), []⟩) else (
 some ⟨(.d (.v (.bool false))), []⟩)) else (
 some ⟨(.d (.v (.bool false))), []⟩))) else (
 some ⟨(.d (.v (.bool false))), []⟩)))))) := by kernel_rfl
/- loop.example/g00119/impl.measured -/
def b46x0 : ACode := (
 .seq (.g [oB 19 .lss 18 17]) (
 .seq (.cond (.t 19) (.skip) (.exit 0)) (
 .seq (.block 1 (.seq (.g [oI 20 5 16 18, oL 21 [kI, .s, kI, (.sl 1), (.sl 5)] 20, oQ 7 (.alloc [(.v (.int .i64 0)), (.v (.string ByteArray.empty)), (.v (.int .i64 0)), (.s 1 []), (.s 5 [])]), oS (.store 5 (.t 7) (.t 21))]) (
 .seq (.g [oM 22 5, oL 23 [kI, .s, kI, (.sl 1), (.sl 5)] 7, oM 24 1, oBi 25 .sub 24 1, oC 26 46 [.c kI] [23, 25], oB 27 .add 22 26, oM 5 27]) (
 .seq (.g [oM 28 5, oBi 29 .gtr 28 300]) (
 .cond (.t 29) (.seq (.g [oK 4 301]) (
 .ret)) (.skip)))))) (
 .g [oBi 30 .add 18 1, oM 18 30]))))
def e46x0 : Exits := [(.ret, [(4, .c kI)]), ((.exit 0), [(5, .c kI)])]
noncomputable def l46x0 (T : Table) (k : Nat) := loopN (evalC ⟨T, []⟩ k b46x0 (Ex × List AV)) [1, 5, 16, 17, 18] e46x0
def a46 : AFun := ⟨[.rd, .rd], false, [.t 4], (
 .seq (.g [oQ 2 (.box (.t 0)), oK 4 0]) (
 .seq (.seq (.g [oM 8 1, oBi 9 .eql 8 0, oM 10 9, oJ 11 10 false (.load true [kI, .s, kI, (.sl 1), (.sl 5)] (.t 2)), oJ 12 10 false (.call (.f 82) [.rd] false [.c .b] [(.t 11)]), oJ 13 10 false (.un .not (.t 12)), oQ 14 (.pick (.t 10) (.b true) (.t 13))]) (
 .cond (.t 14) (.seq (.g [oK 4 301]) (
 .ret)) (.skip))) (
 .seq (.g [oK 5 1]) (
 .seq (.seq (.g [oF 15 4 2, oW 16 (.sl 5) 15, oZ 17 16, oK 18 0]) (
 .block 0 (.loop [1, 5, 16, 17, 18] e46x0 b46x0))) (
 .seq (.g [oM 31 5, oM 4 31]) (
 .ret))))))⟩
theorem l46x0s (T : Table) (k n : Nat) (n10 : Int) (n11 : Int) (l12 : Rows) (n13 : Int) (n14 : Int) : l46x0 T k (n + 1) [(.v (.int .i64 n10)), (.v (.int .i64 n11)), (.fz 5 l12), (.v (.int .i64 n13)), (.v (.int .i64 n14))] = (
 bif (decide (n14 < n13)) then (
 tst (decide (0 ≤ n14)) (
 look l12 (Int.toNat n14) fun r15 =>
 cI .i64 r15 0 fun n16 =>
 cS r15 1 fun s17 =>
 cI .i64 r15 2 fun n18 =>
 cL 1 r15 3 fun l19 =>
 cL 5 r15 4 fun l20 =>
 callT T 46 [(.g [(.v (.int .i64 n16)), (.v (.string s17)), (.v (.int .i64 n18)), (.s 1 l19), (.s 5 l20)]), (.d (.v (.int .i64 (IntKind.wrap .i64 (n10 - 1)))))] fun o21 =>
 oD o21.res fun d22 =>
 dI .i64 d22 fun n23 =>
 bif (decide ((IntKind.wrap .i64 (n11 + n23)) > 300)) then (
 some (.ret, [(.v (.int .i64 301))])) else (
 l46x0 T k n [(.v (.int .i64 n10)), (.v (.int .i64 (IntKind.wrap .i64 (n11 + n23)))), (.fz 5 l12), (.v (.int .i64 n13)), (.v (.int .i64 (IntKind.wrap .i64 (n14 + 1))))]))) else (
 some ((.exit 0), [(.v (.int .i64 n11))]))) := by kernel_rfl
theorem a46q (T : Table) (k : Nat) (n1 : Int) (s2 : ByteArray) (n3 : Int) (l4 : Rows) (l5 : Rows) (n6 : Int) : evalF T k a46 [(.g [(.v (.int .i64 n1)), (.v (.string s2)), (.v (.int .i64 n3)), (.s 1 l4), (.s 5 l5)]), (.d (.v (.int .i64 n6)))] = (
 bif (n6 == 0) == false then (
 callT T 82 [(.g [(.v (.int .i64 n1)), (.v (.string s2)), (.v (.int .i64 n3)), (.s 1 l4), (.s 5 l5)])] fun o7 =>
 oD o7.res fun d8 =>
 dB d8 fun b9 =>
 bif (!b9) then (
 some ⟨(.d (.v (.int .i64 301))), []⟩) else (
 aft (l46x0 T k k [(.v (.int .i64 n6)), (.v (.int .i64 1)), (.fz 5 l5), (.v (.int .i64 (l5.length : Int))), (.v (.int .i64 0))]) fun e24 ys25 =>
 bif e24.same .ret then (
 aV ys25 0 fun x26 =>
 aI .i64 x26 fun n27 =>
 some ⟨(.d (.v (.int .i64 n27))), []⟩) else (
 bif e24.same (.exit 0) then (
 aV ys25 0 fun x28 =>
 aI .i64 x28 fun n29 =>
 some ⟨(.d (.v (.int .i64 n29))), []⟩) else (
 none)))) else (
 some ⟨(.d (.v (.int .i64 301))), []⟩)) := by kernel_rfl
/- loop.example/g00119/impl.ValueOk -/

def a20 : AFun := ⟨[.rd], false, [.t 2], (
 .seq (.g [oQ 1 (.box (.t 0)), oV 2 false]) (
 .seq (.g [oL 3 [kI, .s, kI, (.sl 1), (.sl 5)] 1, oQ 4 (.call (.f 46) [.rd, .rd] false [.c kI] [(.t 3), (.i 6)]), oBi 5 .leq 4 300, oM 2 5]) (
 .ret)))⟩

theorem a20q (T : Table) (k : Nat) (n1 : Int) (s2 : ByteArray) (n3 : Int) (l4 : Rows) (l5 : Rows) : evalF T k a20 [(.g [(.v (.int .i64 n1)), (.v (.string s2)), (.v (.int .i64 n3)), (.s 1 l4), (.s 5 l5)])] = (
 callT T 46 [(.g [(.v (.int .i64 n1)), (.v (.string s2)), (.v (.int .i64 n3)), (.s 1 l4), (.s 5 l5)]), (.d (.v (.int .i64 6)))] fun o6 =>
 oD o6.res fun d7 =>
 dI .i64 d7 fun n8 =>
 some ⟨(.d (.v (.bool (decide (n8 ≤ 300))))), []⟩) := by kernel_rfl
/- loop.example/g00119/impl.decimal -/

def a31 : AFun := ⟨[.rd], false, [.t 2], (
 .seq (.g [oQ 2 (.mv (.c (.v (.string ({ data := #[] } : ByteArray)))))]) (
 .seq (.block 0 (.seq (.g [oM 4 0, oBi 5 .lss 4 0, oM 6 5, oJ 7 6 true (.mv (.t 0)), oJ 8 6 true (.bin .gtr (.t 7) (.i (-10))), oQ 9 (.pick (.t 6) (.t 8) (.b false)), oM 3 9]) (
 .cond (.t 3) (.seq (.g [oM 10 0, oQ 11 (.un .neg (.t 10)), oC 12 31 [.c .s] [11], oQ 13 (.bin .add (.c (.v (.string ({ data := #[45] } : ByteArray)))) (.t 12)), oM 2 13]) (
 .ret)) (.seq (.g [oM 15 0, oBi 16 .lss 15 0, oM 14 16]) (
 .cond (.t 14) (.seq (.g [oM 17 0, oBi 18 .quo 17 10, oC 19 31 [.c .s] [18], oM 20 0, oBi 21 .rem 20 10, oQ 22 (.un .neg (.t 21)), oC 23 31 [.c .s] [22], oB 24 .add 19 23, oM 2 24]) (
 .ret)) (.seq (.g [oM 26 0, oBi 27 .lss 26 10, oM 25 27]) (
 .cond (.t 25) (.seq (.g [oM 28 0, oQ 29 (.bin .add (.i 48) (.t 28)), oQ 30 (.conv (.int .i32) (.t 29)), oQ 31 (.conv .intStr (.t 30)), oM 2 31]) (
 .ret)) (.skip)))))))) (
 .seq (.g [oM 32 0, oBi 33 .quo 32 10, oC 34 31 [.c .s] [33], oM 35 0, oBi 36 .rem 35 10, oQ 37 (.bin .add (.i 48) (.t 36)), oQ 38 (.conv (.int .i32) (.t 37)), oQ 39 (.conv .intStr (.t 38)), oB 40 .add 34 39, oM 2 40]) (
 .ret))))⟩

theorem a31q (T : Table) (k : Nat) (n1 : Int) : evalF T k a31 [(.d (.v (.int .i64 n1)))] = (
 bif (decide (n1 < 0)) == true then (
 bif (decide (n1 > (-10))) then (
 callT T 31 [(.d (.v (.int .i64 (IntKind.wrap .i64 (0 - n1)))))] fun o2 =>
 oD o2.res fun d3 =>
 dS d3 fun s4 =>
 tst (decide (({ data := #[45] } : ByteArray).size + s4.size ≤ maxLen)) (
 some ⟨(.d (.v (.string (({ data := #[45] } : ByteArray) ++ s4)))), []⟩)) else (
 bif (decide (n1 < 0)) then (
 tst (decide (10 ≠ 0)) (
 callT T 31 [(.d (.v (.int .i64 (IntKind.wrap .i64 (Int.tdiv n1 10)))))] fun o5 =>
 oD o5.res fun d6 =>
 dS d6 fun s7 =>
 tst (decide (10 ≠ 0)) (
 callT T 31 [(.d (.v (.int .i64 (IntKind.wrap .i64 (0 - (Int.tmod n1 10))))))] fun o8 =>
 oD o8.res fun d9 =>
 dS d9 fun s10 =>
 tst (decide (s7.size + s10.size ≤ maxLen)) (
 some ⟨(.d (.v (.string (s7 ++ s10)))), []⟩)))) else (
 bif (decide (n1 < 10)) then (
 some ⟨(.d (.v (.string (Utf8.encode (IntKind.wrap .i32 (IntKind.wrap .i64 (48 + n1))))))), []⟩) else (
 tst (decide (10 ≠ 0)) (
 callT T 31 [(.d (.v (.int .i64 (IntKind.wrap .i64 (Int.tdiv n1 10)))))] fun o11 =>
 oD o11.res fun d12 =>
 dS d12 fun s13 =>
 tst (decide (10 ≠ 0)) (
 tst (decide (s13.size + (Utf8.encode (IntKind.wrap .i32 (IntKind.wrap .i64 (48 + (Int.tmod n1 10))))).size ≤ maxLen)) (
 some ⟨(.d (.v (.string (s13 ++ (Utf8.encode (IntKind.wrap .i32 (IntKind.wrap .i64 (48 + (Int.tmod n1 10))))))))), []⟩))))))) else (
 bif (decide (n1 < 0)) then (
 tst (decide (10 ≠ 0)) (
 callT T 31 [(.d (.v (.int .i64 (IntKind.wrap .i64 (Int.tdiv n1 10)))))] fun o14 =>
 oD o14.res fun d15 =>
 dS d15 fun s16 =>
 tst (decide (10 ≠ 0)) (
 callT T 31 [(.d (.v (.int .i64 (IntKind.wrap .i64 (0 - (Int.tmod n1 10))))))] fun o17 =>
 oD o17.res fun d18 =>
 dS d18 fun s19 =>
 tst (decide (s16.size + s19.size ≤ maxLen)) (
 some ⟨(.d (.v (.string (s16 ++ s19)))), []⟩)))) else (
 bif (decide (n1 < 10)) then (
 some ⟨(.d (.v (.string (Utf8.encode (IntKind.wrap .i32 (IntKind.wrap .i64 (48 + n1))))))), []⟩) else (
 tst (decide (10 ≠ 0)) (
 callT T 31 [(.d (.v (.int .i64 (IntKind.wrap .i64 (Int.tdiv n1 10)))))] fun o20 =>
 oD o20.res fun d21 =>
 dS d21 fun s22 =>
 tst (decide (10 ≠ 0)) (
 tst (decide (s22.size + (Utf8.encode (IntKind.wrap .i32 (IntKind.wrap .i64 (48 + (Int.tmod n1 10))))).size ≤ maxLen)) (
 some ⟨(.d (.v (.string (s22 ++ (Utf8.encode (IntKind.wrap .i32 (IntKind.wrap .i64 (48 + (Int.tmod n1 10))))))))), []⟩))))))) := by kernel_rfl
/- loop.example/g00119/impl.quoted -/

def a73 : AFun := ⟨[.rd], false, [.t 2], (
 .seq (.g [oQ 2 (.mv (.c (.v (.string ({ data := #[] } : ByteArray)))))]) (
 .seq (.g [oM 3 0, oQ 4 (.call (.f 92) [.rd, .rd, .rd] false [.c .s] [(.t 3), (.c (.v (.string ({ data := #[92] } : ByteArray)))), (.c (.v (.string ({ data := #[92, 92] } : ByteArray))))]), oQ 5 (.call (.f 92) [.rd, .rd, .rd] false [.c .s] [(.t 4), (.c (.v (.string ({ data := #[34] } : ByteArray)))), (.c (.v (.string ({ data := #[92, 34] } : ByteArray))))]), oQ 6 (.bin .add (.c (.v (.string ({ data := #[34] } : ByteArray)))) (.t 5)), oQ 7 (.bin .add (.t 6) (.c (.v (.string ({ data := #[34] } : ByteArray))))), oM 2 7]) (
 .ret)))⟩

theorem a73q (T : Table) (k : Nat) (s1 : ByteArray) : evalF T k a73 [(.d (.v (.string s1)))] = (
 callT T 92 [(.d (.v (.string s1))), (.d (.v (.string ({ data := #[92] } : ByteArray)))), (.d (.v (.string ({ data := #[92, 92] } : ByteArray))))] fun o2 =>
 oD o2.res fun d3 =>
 dS d3 fun s4 =>
 callT T 92 [(.d (.v (.string s4))), (.d (.v (.string ({ data := #[34] } : ByteArray)))), (.d (.v (.string ({ data := #[92, 34] } : ByteArray))))] fun o5 =>
 oD o5.res fun d6 =>
 dS d6 fun s7 =>
 tst (decide (({ data := #[34] } : ByteArray).size + s7.size ≤ maxLen)) (
 tst (decide ((({ data := #[34] } : ByteArray) ++ s7).size + ({ data := #[34] } : ByteArray).size ≤ maxLen)) (
 some ⟨(.d (.v (.string ((({ data := #[34] } : ByteArray) ++ s7) ++ ({ data := #[34] } : ByteArray))))), []⟩))) := by kernel_rfl

-- a74 "strings.Join": op makeInterface
/- loop.example/g00119/impl.written -/
def b36x0 : ACode := (
 .seq (.g [oB 30 .lss 29 28]) (
 .seq (.cond (.t 30) (.skip) (.exit 1)) (
 .seq (.block 2 (.seq (.g [oM 31 29, oI 32 5 27 29, oL 33 [kI, .s, kI, (.sl 1), (.sl 5)] 32, oQ 5 (.alloc [(.v (.int .i64 0)), (.v (.string ByteArray.empty)), (.v (.int .i64 0)), (.s 1 []), (.s 5 [])]), oM 4 31, oS (.store 5 (.t 5) (.t 33))]) (
 .seq (.g [oL 34 [kI, .s, kI, (.sl 1), (.sl 5)] 5, oC 35 36 [.c .s] [34], oM 6 35]) (
 .seq (.seq (.g [oF 36 0 1, oW 37 kI 36, oBi 38 .eql 37 5]) (
 .cond (.t 38) (.g [oF 39 3 1, oW 40 (.sl 1) 39, oM 41 4, oI 42 1 40 41, oW 43 .s 42, oQ 44 (.bin .add (.t 43) (.c (.v (.string ({ data := #[58] } : ByteArray))))), oM 45 6, oB 46 .add 44 45, oM 6 46]) (.skip))) (
 .g [oM 47 3, oM 48 6, oQ 49 (.lit 1 ([[(.v (.string ByteArray.empty))]] : Rows) [(0, (.t 48))]), oQ 50 (.app 1 16 (.t 47) (.t 49)), oM 3 50]))))) (
 .g [oBi 51 .add 29 1, oM 29 51]))))
def e36x0 : Exits := [((.exit 1), [(1, .b [.c kI, .c .s, .c kI, .c (.sl 1), .c (.sl 5)]), (3, .o 1)])]
noncomputable def l36x0 (T : Table) (k : Nat) := loopN (evalC ⟨T, []⟩ k b36x0 (Ex × List AV)) [1, 3, 27, 28, 29] e36x0
def a36 : AFun := ⟨[.rd], false, [.t 2], (
 .seq (.g [oQ 1 (.box (.t 0)), oQ 2 (.mv (.c (.v (.string ({ data := #[] } : ByteArray)))))]) (
 .seq (.seq (.g [oF 8 0 1, oW 9 kI 8]) (
 .block 0 (.seq (.g [oBi 11 .eql 9 1, oM 10 11]) (
 .cond (.t 10) (.seq (.g [oF 12 1 1, oW 13 .s 12, oC 14 73 [.c .s] [13], oM 2 14]) (
 .ret)) (.seq (.g [oBi 16 .eql 9 2, oM 15 16]) (
 .cond (.t 15) (.seq (.g [oF 17 2 1, oW 18 kI 17, oC 19 31 [.c .s] [18], oM 2 19]) (
 .ret)) (.seq (.g [oBi 21 .eql 9 3, oM 20 21]) (
 .cond (.t 20) (.seq (.seq (.g [oF 22 2 1, oW 23 kI 22, oBi 24 .eql 23 1]) (
 .cond (.t 24) (.seq (.g [oQ 2 (.mv (.c (.v (.string ({ data := #[116, 114, 117, 101] } : ByteArray)))))]) (
 .ret)) (.skip))) (
 .seq (.g [oQ 2 (.mv (.c (.v (.string ({ data := #[102, 97, 108, 115, 101] } : ByteArray)))))]) (
 .ret))) (.skip))))))))) (
 .seq (.g [oQ 25 (.lit 1 ([] : Rows) []), oM 3 25]) (
 .seq (.seq (.g [oF 26 4 1, oW 27 (.sl 5) 26, oZ 28 27, oK 29 0]) (
 .block 1 (.loop [1, 3, 27, 28, 29] e36x0 b36x0))) (
 .seq (.g [oM 52 3, oQ 53 (.call (.f 74) [.rd, .rd] false [.c .s] [(.t 52), (.c (.v (.string ({ data := #[44] } : ByteArray))))]), oM 7 53]) (
 .seq (.seq (.g [oF 54 0 1, oW 55 kI 54, oBi 56 .eql 55 5]) (
 .cond (.t 56) (.seq (.g [oM 57 7, oQ 58 (.bin .add (.c (.v (.string ({ data := #[123] } : ByteArray)))) (.t 57)), oQ 59 (.bin .add (.t 58) (.c (.v (.string ({ data := #[125] } : ByteArray))))), oM 2 59]) (
 .ret)) (.skip))) (
 .seq (.g [oM 60 7, oQ 61 (.bin .add (.c (.v (.string ({ data := #[91] } : ByteArray)))) (.t 60)), oQ 62 (.bin .add (.t 61) (.c (.v (.string ({ data := #[93] } : ByteArray))))), oM 2 62]) (
 .ret))))))))⟩
theorem l36x0s (T : Table) (k n : Nat) (n12 : Int) (s13 : ByteArray) (n14 : Int) (l15 : Rows) (l16 : Rows) (l17 : Rows) (l18 : Rows) (n19 : Int) (n20 : Int) : l36x0 T k (n + 1) [(.b [(.v (.int .i64 n12)), (.v (.string s13)), (.v (.int .i64 n14)), (.fz 1 l15), (.fz 5 l16)]), (.o 1 l17), (.fz 5 l18), (.v (.int .i64 n19)), (.v (.int .i64 n20))] = (
 bif (decide (n20 < n19)) then (
 tst (decide (0 ≤ n20)) (
 look l18 (Int.toNat n20) fun r21 =>
 cI .i64 r21 0 fun n22 =>
 cS r21 1 fun s23 =>
 cI .i64 r21 2 fun n24 =>
 cL 1 r21 3 fun l25 =>
 cL 5 r21 4 fun l26 =>
 callT T 36 [(.g [(.v (.int .i64 n22)), (.v (.string s23)), (.v (.int .i64 n24)), (.s 1 l25), (.s 5 l26)])] fun o27 =>
 oD o27.res fun d28 =>
 dS d28 fun s29 =>
 bif (n12 == 5) then (
 tst (decide (0 ≤ n20)) (
 look l15 (Int.toNat n20) fun r30 =>
 cS r30 0 fun s31 =>
 tst (decide (s31.size + ({ data := #[58] } : ByteArray).size ≤ maxLen)) (
 tst (decide ((s31 ++ ({ data := #[58] } : ByteArray)).size + s29.size ≤ maxLen)) (
 tst (decide ((l17.length + ([[(.v (.string ((s31 ++ ({ data := #[58] } : ByteArray)) ++ s29)))]] : Rows).length) * 16 ≤ maxBytes)) (
 l36x0 T k n [(.b [(.v (.int .i64 n12)), (.v (.string s13)), (.v (.int .i64 n14)), (.fz 1 l15), (.fz 5 l16)]), (.o 1 (l17 ++ ([[(.v (.string ((s31 ++ ({ data := #[58] } : ByteArray)) ++ s29)))]] : Rows))), (.fz 5 l18), (.v (.int .i64 n19)), (.v (.int .i64 (IntKind.wrap .i64 (n20 + 1))))]))))) else (
 tst (decide ((l17.length + ([[(.v (.string s29))]] : Rows).length) * 16 ≤ maxBytes)) (
 l36x0 T k n [(.b [(.v (.int .i64 n12)), (.v (.string s13)), (.v (.int .i64 n14)), (.fz 1 l15), (.fz 5 l16)]), (.o 1 (l17 ++ ([[(.v (.string s29))]] : Rows))), (.fz 5 l18), (.v (.int .i64 n19)), (.v (.int .i64 (IntKind.wrap .i64 (n20 + 1))))])))) else (
 some ((.exit 1), [(.b [(.v (.int .i64 n12)), (.v (.string s13)), (.v (.int .i64 n14)), (.fz 1 l15), (.fz 5 l16)]), (.o 1 l17)]))) := by kernel_rfl
theorem a36q (T : Table) (k : Nat) (n1 : Int) (s2 : ByteArray) (n3 : Int) (l4 : Rows) (l5 : Rows) : evalF T k a36 [(.g [(.v (.int .i64 n1)), (.v (.string s2)), (.v (.int .i64 n3)), (.s 1 l4), (.s 5 l5)])] = (
 bif (n1 == 1) then (
 callT T 73 [(.d (.v (.string s2)))] fun o6 =>
 oD o6.res fun d7 =>
 dS d7 fun s8 =>
 some ⟨(.d (.v (.string s8))), []⟩) else (
 bif (n1 == 2) then (
 callT T 31 [(.d (.v (.int .i64 n3)))] fun o9 =>
 oD o9.res fun d10 =>
 dS d10 fun s11 =>
 some ⟨(.d (.v (.string s11))), []⟩) else (
 bif (n1 == 3) then (
 bif (n3 == 1) then (
 some ⟨(.d (.v (.string ({ data := #[116, 114, 117, 101] } : ByteArray)))), []⟩) else (
 some ⟨(.d (.v (.string ({ data := #[102, 97, 108, 115, 101] } : ByteArray)))), []⟩)) else (
 aft (l36x0 T k k [(.b [(.v (.int .i64 n1)), (.v (.string s2)), (.v (.int .i64 n3)), (.fz 1 l4), (.fz 5 l5)]), (.o 1 []), (.fz 5 l5), (.v (.int .i64 (l5.length : Int))), (.v (.int .i64 0))]) fun e32 ys33 =>
 bif e32.same (.exit 1) then (
 aV ys33 0 fun x34 =>
 aX x34 fun xs35 =>
 aV xs35 0 fun x36 =>
 aI .i64 x36 fun n37 =>
 aV xs35 1 fun x38 =>
 aS x38 fun s39 =>
 aV xs35 2 fun x40 =>
 aI .i64 x40 fun n41 =>
 aV xs35 3 fun x42 =>
 aL 1 x42 fun l43 =>
 aV xs35 4 fun x44 =>
 aL 5 x44 fun l45 =>
 aV ys33 1 fun x46 =>
 aO 1 x46 fun l47 =>
 callT T 74 [(.d (.s 1 l47)), (.d (.v (.string ({ data := #[44] } : ByteArray))))] fun o48 =>
 oD o48.res fun d49 =>
 dS d49 fun s50 =>
 bif (n37 == 5) then (
 tst (decide (({ data := #[123] } : ByteArray).size + s50.size ≤ maxLen)) (
 tst (decide ((({ data := #[123] } : ByteArray) ++ s50).size + ({ data := #[125] } : ByteArray).size ≤ maxLen)) (
 some ⟨(.d (.v (.string ((({ data := #[123] } : ByteArray) ++ s50) ++ ({ data := #[125] } : ByteArray))))), []⟩))) else (
 tst (decide (({ data := #[91] } : ByteArray).size + s50.size ≤ maxLen)) (
 tst (decide ((({ data := #[91] } : ByteArray) ++ s50).size + ({ data := #[93] } : ByteArray).size ≤ maxLen)) (
 some ⟨(.d (.v (.string ((({ data := #[91] } : ByteArray) ++ s50) ++ ({ data := #[93] } : ByteArray))))), []⟩)))) else (
 none))))) := by kernel_rfl
/- loop.example/g00119/impl.ValueText -/

def a18 : AFun := ⟨[.rd], false, [.t 2], (
 .seq (.g [oQ 1 (.box (.t 0)), oQ 2 (.mv (.c (.v (.string ({ data := #[] } : ByteArray)))))]) (
 .seq (.seq (.g [oL 3 [kI, .s, kI, (.sl 1), (.sl 5)] 1, oC 4 20 [.c .b] [3], oN 5 4]) (
 .cond (.t 5) (.seq (.g [oQ 2 (.mv (.c (.v (.string ({ data := #[] } : ByteArray)))))]) (
 .ret)) (.skip))) (
 .seq (.g [oL 6 [kI, .s, kI, (.sl 1), (.sl 5)] 1, oC 7 36 [.c .s] [6], oM 2 7]) (
 .ret))))⟩

theorem a18q (T : Table) (k : Nat) (n1 : Int) (s2 : ByteArray) (n3 : Int) (l4 : Rows) (l5 : Rows) : evalF T k a18 [(.g [(.v (.int .i64 n1)), (.v (.string s2)), (.v (.int .i64 n3)), (.s 1 l4), (.s 5 l5)])] = (
 callT T 20 [(.g [(.v (.int .i64 n1)), (.v (.string s2)), (.v (.int .i64 n3)), (.s 1 l4), (.s 5 l5)])] fun o6 =>
 oD o6.res fun d7 =>
 dB d7 fun b8 =>
 bif (!b8) then (
 some ⟨(.d (.v (.string ({ data := #[] } : ByteArray)))), []⟩) else (
 callT T 36 [(.g [(.v (.int .i64 n1)), (.v (.string s2)), (.v (.int .i64 n3)), (.s 1 l4), (.s 5 l5)])] fun o9 =>
 oD o9.res fun d10 =>
 dS d10 fun s11 =>
 some ⟨(.d (.v (.string s11))), []⟩)) := by kernel_rfl
/- loop.example/g00119/impl.isCopies -/

def a85 : AFun := ⟨[.rd], false, [.t 2], (
 .seq (.g [oV 2 false]) (
 .seq (.g [oM 3 0, oQ 4 (.call (.f 59) [.rd, .rd, .rd] false [.c .b] [(.t 3), (.i 0), (.i 10000)]), oM 2 4]) (
 .ret)))⟩

theorem a85q (T : Table) (k : Nat) (n1 : Int) : evalF T k a85 [(.d (.v (.int .i64 n1)))] = (
 callT T 59 [(.d (.v (.int .i64 n1))), (.d (.v (.int .i64 0))), (.d (.v (.int .i64 10000)))] fun o2 =>
 oD o2.res fun d3 =>
 dB d3 fun b4 =>
 some ⟨(.d (.v (.bool b4))), []⟩) := by kernel_rfl
/- loop.example/g00119/impl.runsOk -/
def b60x0 : ACode := (
 .seq (.g [oB 8 .lss 7 6]) (
 .seq (.cond (.t 8) (.skip) (.exit 0)) (
 .seq (.block 1 (.seq (.g [oM 9 7, oI 10 2 5 7, oL 11 [kI, kI] 10, oQ 4 (.alloc [(.v (.int .i64 0)), (.v (.int .i64 0))]), oM 3 9, oS (.store 2 (.t 4) (.t 11))]) (
 .seq (.dreg [] [(0, oF 12 0 4), (0, oW 13 kI 12), (1, oQ 14 (.call (.f 59) [.rd, .rd, .rd] false [.c .b] [(.t 13), (.i 1), (.i 1000000)])), (0, oN 15 14), (0, oM 16 15), (0, oJ 17 16 false (.fad 1 (.t 4))), (0, oJ 18 16 false (.load false [kI] (.t 17))), (1, oJ 19 16 false (.call (.f 85) [.rd] false [.c .b] [(.t 18)])), (0, oJ 20 16 false (.un .not (.t 19))), (0, oQ 21 (.pick (.t 16) (.b true) (.t 20))), (0, oM 22 21), (0, oJ 23 22 false (.mv (.t 3))), (0, oJ 24 22 false (.bin .gtr (.t 23) (.i 0))), (0, oJ 25 22 false (.mv (.t 24))), (0, oJ 26 25 true (.mv (.t 0))), (0, oJ 27 25 true (.mv (.t 3))), (0, oJ 28 25 true (.bin .sub (.t 27) (.i 1))), (0, oJ 29 25 true (.iad 2 (.t 26) (.t 28))), (0, oJ 30 25 true (.fad 0 (.t 29))), (0, oJ 31 25 true (.load false [kI] (.t 30))), (0, oJ 32 25 true (.fad 0 (.t 4))), (0, oJ 33 25 true (.load false [kI] (.t 32)))] [oJ 34 25 true (.bin .geq (.t 31) (.t 33)), oJ 35 22 false (.pick (.t 25) (.t 34) (.b false)), oQ 36 (.pick (.t 22) (.b true) (.t 35))]) (
 .cond (.t 36) (.seq (.g [oV 2 false]) (
 .ret)) (.skip))))) (
 .g [oBi 37 .add 7 1, oM 7 37]))))
def e60x0 : Exits := [(.ret, [(2, .c .b)]), ((.exit 0), [(0, .c (.sl 2))])]
noncomputable def l60x0 (T : Table) (k : Nat) := loopN (evalC ⟨T, []⟩ k b60x0 (Ex × List AV)) [0, 5, 6, 7] e60x0
def a60 : AFun := ⟨[.rd], false, [.t 2], (
 .seq (.g [oV 2 false]) (
 .seq (.seq (.g [oM 5 0, oZ 6 5, oK 7 0]) (
 .block 0 (.loop [0, 5, 6, 7] e60x0 b60x0))) (
 .seq (.g [oM 38 0, oZ 39 38, oBi 40 .leq 39 80, oM 2 40]) (
 .ret))))⟩
theorem l60x0s (T : Table) (k n : Nat) (l2 : Rows) (l3 : Rows) (n4 : Int) (n5 : Int) : l60x0 T k (n + 1) [(.fz 2 l2), (.fz 2 l3), (.v (.int .i64 n4)), (.v (.int .i64 n5))] = (
 bif (decide (n5 < n4)) then (
 tst (decide (0 ≤ n5)) (
 look l3 (Int.toNat n5) fun r6 =>
 cI .i64 r6 0 fun n7 =>
 cI .i64 r6 1 fun n8 =>
 callT T 59 [(.d (.v (.int .i64 n7))), (.d (.v (.int .i64 1))), (.d (.v (.int .i64 1000000)))] fun o9 =>
 oD o9.res fun d10 =>
 dB d10 fun b11 =>
 bif (!b11) == false then (
 callT T 85 [(.d (.v (.int .i64 n8)))] fun o12 =>
 oD o12.res fun d13 =>
 dB d13 fun b14 =>
 bif (!b14) == false then (
 bif (decide (n5 > 0)) == true then (
 tst (decide (0 ≤ (IntKind.wrap .i64 (n5 - 1)))) (
 look l2 (Int.toNat (IntKind.wrap .i64 (n5 - 1))) fun r15 =>
 cI .i64 r15 0 fun n16 =>
 bif (decide (n16 ≥ n7)) then (
 some (.ret, [(.v (.bool false))])) else (
 l60x0 T k n [(.fz 2 l2), (.fz 2 l3), (.v (.int .i64 n4)), (.v (.int .i64 (IntKind.wrap .i64 (n5 + 1))))]))) else (
 l60x0 T k n [(.fz 2 l2), (.fz 2 l3), (.v (.int .i64 n4)), (.v (.int .i64 (IntKind.wrap .i64 (n5 + 1))))])) else (
 some (.ret, [(.v (.bool false))]))) else (
 some (.ret, [(.v (.bool false))])))) else (
 some ((.exit 0), [(.fz 2 l2)]))) := by kernel_rfl
theorem a60q (T : Table) (k : Nat) (l1 : Rows) : evalF T k a60 [(.d (.s 2 l1))] = (
 aft (l60x0 T k k [(.fz 2 l1), (.fz 2 l1), (.v (.int .i64 (l1.length : Int))), (.v (.int .i64 0))]) fun e17 ys18 =>
 bif e17.same .ret then (
 aV ys18 0 fun x19 =>
 aB x19 fun b20 =>
 some ⟨(.d (.v (.bool b20))), []⟩) else (
 bif e17.same (.exit 0) then (
 aV ys18 0 fun x21 =>
 aL 2 x21 fun l22 =>
 some ⟨(.d (.v (.bool (decide ((l22.length : Int) ≤ 80))))), []⟩) else (
 none))) := by kernel_rfl
/- loop.example/g00119/impl.WorksOk -/
def b61x0 : ACode := (
 .seq (.g [oB 8 .lss 7 6]) (
 .seq (.cond (.t 8) (.skip) (.exit 0)) (
 .seq (.block 1 (.seq (.g [oM 9 7, oI 10 7 5 7, oL 11 [kI, kI, kI, .s, kI, (.sl 1), (.sl 5)] 10, oQ 4 (.alloc [(.v (.int .i64 0)), (.v (.int .i64 0)), (.v (.int .i64 0)), (.v (.string ByteArray.empty)), (.v (.int .i64 0)), (.s 1 []), (.s 5 [])]), oM 3 9, oS (.store 7 (.t 4) (.t 11))]) (
 .seq (.dreg [] [(0, oF 12 0 4), (0, oW 13 kI 12), (1, oQ 14 (.call (.f 59) [.rd, .rd, .rd] false [.c .b] [(.t 13), (.i 1), (.i 1000000)])), (0, oN 15 14), (0, oM 16 15), (0, oJ 17 16 false (.fad 1 (.t 4))), (0, oJ 18 16 false (.load false [kI] (.t 17))), (1, oJ 19 16 false (.call (.f 59) [.rd, .rd, .rd] false [.c .b] [(.t 18), (.i 1), (.i 10000)])), (0, oJ 20 16 false (.un .not (.t 19))), (0, oQ 21 (.pick (.t 16) (.b true) (.t 20))), (0, oM 22 21), (0, oJ 23 22 false (.fad 2 (.t 4))), (0, oJ 24 22 false (.load true [kI, .s, kI, (.sl 1), (.sl 5)] (.t 23))), (1, oJ 25 22 false (.call (.f 20) [.rd] false [.c .b] [(.t 24)])), (0, oJ 26 22 false (.un .not (.t 25))), (0, oQ 27 (.pick (.t 22) (.b true) (.t 26))), (0, oM 28 27), (0, oJ 29 28 false (.mv (.t 3))), (0, oJ 30 28 false (.bin .gtr (.t 29) (.i 0))), (0, oJ 31 28 false (.mv (.t 30))), (0, oJ 32 31 true (.mv (.t 0))), (0, oJ 33 31 true (.mv (.t 3))), (0, oJ 34 31 true (.bin .sub (.t 33) (.i 1))), (0, oJ 35 31 true (.iad 7 (.t 32) (.t 34))), (0, oJ 36 31 true (.fad 0 (.t 35))), (0, oJ 37 31 true (.load false [kI] (.t 36))), (0, oJ 38 31 true (.fad 0 (.t 4))), (0, oJ 39 31 true (.load false [kI] (.t 38)))] [oJ 40 31 true (.bin .geq (.t 37) (.t 39)), oJ 41 28 false (.pick (.t 31) (.t 40) (.b false)), oQ 42 (.pick (.t 28) (.b true) (.t 41))]) (
 .cond (.t 42) (.seq (.g [oV 2 false]) (
 .ret)) (.skip))))) (
 .g [oBi 43 .add 7 1, oM 7 43]))))
def e61x0 : Exits := [(.ret, [(2, .c .b)]), ((.exit 0), [(0, .c (.sl 7))])]
noncomputable def l61x0 (T : Table) (k : Nat) := loopN (evalC ⟨T, []⟩ k b61x0 (Ex × List AV)) [0, 5, 6, 7] e61x0
def a61 : AFun := ⟨[.rd], false, [.t 2], (
 .seq (.g [oV 2 false]) (
 .seq (.seq (.g [oM 5 0, oZ 6 5, oK 7 0]) (
 .block 0 (.loop [0, 5, 6, 7] e61x0 b61x0))) (
 .seq (.g [oM 44 0, oZ 45 44, oBi 46 .leq 45 40, oM 2 46]) (
 .ret))))⟩
theorem l61x0s (T : Table) (k n : Nat) (l2 : Rows) (l3 : Rows) (n4 : Int) (n5 : Int) : l61x0 T k (n + 1) [(.fz 7 l2), (.fz 7 l3), (.v (.int .i64 n4)), (.v (.int .i64 n5))] = (
 bif (decide (n5 < n4)) then (
 tst (decide (0 ≤ n5)) (
 look l3 (Int.toNat n5) fun r6 =>
 cI .i64 r6 0 fun n7 =>
 cI .i64 r6 1 fun n8 =>
 cI .i64 r6 2 fun n9 =>
 cS r6 3 fun s10 =>
 cI .i64 r6 4 fun n11 =>
 cL 1 r6 5 fun l12 =>
 cL 5 r6 6 fun l13 =>
 callT T 59 [(.d (.v (.int .i64 n7))), (.d (.v (.int .i64 1))), (.d (.v (.int .i64 1000000)))] fun o14 =>
 oD o14.res fun d15 =>
 dB d15 fun b16 =>
 bif (!b16) == false then (
 callT T 59 [(.d (.v (.int .i64 n8))), (.d (.v (.int .i64 1))), (.d (.v (.int .i64 10000)))] fun o17 =>
 oD o17.res fun d18 =>
 dB d18 fun b19 =>
 bif (!b19) == false then (
 callT T 20 [(.g [(.v (.int .i64 n9)), (.v (.string s10)), (.v (.int .i64 n11)), (.s 1 l12), (.s 5 l13)])] fun o20 =>
 oD o20.res fun d21 =>
 dB d21 fun b22 =>
 bif (!b22) == false then (
 bif (decide (n5 > 0)) == true then (
 tst (decide (0 ≤ (IntKind.wrap .i64 (n5 - 1)))) (
 look l2 (Int.toNat (IntKind.wrap .i64 (n5 - 1))) fun r23 =>
 cI .i64 r23 0 fun n24 =>
 bif (decide (n24 ≥ n7)) then (
 some (.ret, [(.v (.bool false))])) else (
 l61x0 T k n [(.fz 7 l2), (.fz 7 l3), (.v (.int .i64 n4)), (.v (.int .i64 (IntKind.wrap .i64 (n5 + 1))))]))) else (
 l61x0 T k n [(.fz 7 l2), (.fz 7 l3), (.v (.int .i64 n4)), (.v (.int .i64 (IntKind.wrap .i64 (n5 + 1))))])) else (
 some (.ret, [(.v (.bool false))]))) else (
 some (.ret, [(.v (.bool false))]))) else (
 some (.ret, [(.v (.bool false))])))) else (
 some ((.exit 0), [(.fz 7 l2)]))) := by kernel_rfl
theorem a61q (T : Table) (k : Nat) (l1 : Rows) : evalF T k a61 [(.d (.s 7 l1))] = (
 aft (l61x0 T k k [(.fz 7 l1), (.fz 7 l1), (.v (.int .i64 (l1.length : Int))), (.v (.int .i64 0))]) fun e25 ys26 =>
 bif e25.same .ret then (
 aV ys26 0 fun x27 =>
 aB x27 fun b28 =>
 some ⟨(.d (.v (.bool b28))), []⟩) else (
 bif e25.same (.exit 0) then (
 aV ys26 0 fun x29 =>
 aL 7 x29 fun l30 =>
 some ⟨(.d (.v (.bool (decide ((l30.length : Int) ≤ 40))))), []⟩) else (
 none))) := by kernel_rfl
/- loop.example/g00119/impl.MsgOk -/

def a30 : AFun := ⟨[.rd], false, [.t 2], (
 .seq (.g [oQ 1 (.box (.t 0)), oV 2 false]) (
 .seq (.seq (.g [oF 3 0 1, oW 4 kI 3]) (
 .block 0 (.seq (.g [oBi 6 .eql 4 1, oM 5 6]) (
 .cond (.t 5) (.seq (.g [oF 7 1 1, oW 8 .s 7, oC 9 58 [.c .b] [8], oM 10 9, oJ 11 10 true (.fad 2 (.t 1)), oJ 12 10 true (.load false [kI] (.t 11)), oJ 13 10 true (.call (.f 59) [.rd, .rd, .rd] false [.c .b] [(.t 12), (.i 0), (.i 1000000)]), oQ 14 (.pick (.t 10) (.t 13) (.b false)), oM 15 14, oJ 16 15 true (.fad 4 (.t 1)), oJ 17 15 true (.load false [(.sl 2)] (.t 16)), oJ 18 15 true (.call (.f 60) [.rd] false [.c .b] [(.t 17)]), oQ 19 (.pick (.t 15) (.t 18) (.b false)), oM 20 19, oJ 21 20 true (.fad 3 (.t 1)), oJ 22 20 true (.load false [(.sl 7)] (.t 21)), oJ 23 20 true (.len false (.t 22)), oJ 24 20 true (.bin .eql (.t 23) (.i 0)), oQ 25 (.pick (.t 20) (.t 24) (.b false)), oM 2 25]) (
 .ret)) (.seq (.g [oBi 27 .eql 4 2, oM 26 27]) (
 .cond (.t 26) (.seq (.g [oF 28 1 1, oW 29 .s 28, oC 30 58 [.c .b] [29], oM 31 30, oJ 32 31 true (.fad 2 (.t 1)), oJ 33 31 true (.load false [kI] (.t 32)), oJ 34 31 true (.call (.f 59) [.rd, .rd, .rd] false [.c .b] [(.t 33), (.i 1), (.i 1000000)]), oQ 35 (.pick (.t 31) (.t 34) (.b false)), oM 36 35, oJ 37 36 true (.fad 3 (.t 1)), oJ 38 36 true (.load false [(.sl 7)] (.t 37)), oJ 39 36 true (.call (.f 61) [.rd] false [.c .b] [(.t 38)]), oQ 40 (.pick (.t 36) (.t 39) (.b false)), oM 41 40, oJ 42 41 true (.fad 4 (.t 1)), oJ 43 41 true (.load false [(.sl 2)] (.t 42)), oJ 44 41 true (.len false (.t 43)), oJ 45 41 true (.bin .eql (.t 44) (.i 0)), oQ 46 (.pick (.t 41) (.t 45) (.b false)), oM 2 46]) (
 .ret)) (.skip))))))) (
 .seq (.g [oV 2 false]) (
 .ret))))⟩

theorem a30q (T : Table) (k : Nat) (n1 : Int) (s2 : ByteArray) (n3 : Int) (l4 : Rows) (l5 : Rows) : evalF T k a30 [(.g [(.v (.int .i64 n1)), (.v (.string s2)), (.v (.int .i64 n3)), (.s 7 l4), (.s 2 l5)])] = (
 bif (n1 == 1) then (
 callT T 58 [(.d (.v (.string s2)))] fun o6 =>
 oD o6.res fun d7 =>
 dB d7 fun b8 =>
 bif b8 == true then (
 callT T 59 [(.d (.v (.int .i64 n3))), (.d (.v (.int .i64 0))), (.d (.v (.int .i64 1000000)))] fun o9 =>
 oD o9.res fun d10 =>
 dB d10 fun b11 =>
 bif b11 == true then (
 callT T 60 [(.d (.s 2 l5))] fun o12 =>
 oD o12.res fun d13 =>
 dB d13 fun b14 =>
 bif b14 == true then (
 some ⟨(.d (.v (.bool ((l4.length : Int) == 0)))), []⟩) else (
 some ⟨(.d (.v (.bool false))), []⟩)) else (
 some ⟨(.d (.v (.bool false))), []⟩)) else (
 some ⟨(.d (.v (.bool false))), []⟩)) else (
 bif (n1 == 2) then (
 callT T 58 [(.d (.v (.string s2)))] fun o15 =>
 oD o15.res fun d16 =>
 dB d16 fun b17 =>
 bif b17 == true then (
 callT T 59 [(.d (.v (.int .i64 n3))), (.d (.v (.int .i64 1))), (.d (.v (.int .i64 1000000)))] fun o18 =>
 oD o18.res fun d19 =>
 dB d19 fun b20 =>
 bif b20 == true then (
 callT T 61 [(.d (.s 7 l4))] fun o21 =>
 oD o21.res fun d22 =>
 dB d22 fun b23 =>
 bif b23 == true then (
 some ⟨(.d (.v (.bool ((l5.length : Int) == 0)))), []⟩) else (
 some ⟨(.d (.v (.bool false))), []⟩)) else (
 some ⟨(.d (.v (.bool false))), []⟩)) else (
 some ⟨(.d (.v (.bool false))), []⟩)) else (
 some ⟨(.d (.v (.bool false))), []⟩))) := by kernel_rfl
/- loop.example/g00119/impl.MsgText -/
def b9x0 : ACode := (
 .seq (.g [oB 29 .lss 28 27]) (
 .seq (.cond (.t 29) (.skip) (.exit 0)) (
 .seq (.block 1 (.seq (.g [oI 30 2 26 28, oL 31 [kI, kI] 30, oQ 6 (.alloc [(.v (.int .i64 0)), (.v (.int .i64 0))]), oS (.store 2 (.t 6) (.t 31))]) (
 .dreg [] [(3, oM 32 4), (0, oF 33 0 6), (0, oW 34 kI 33), (1, oC 35 31 [.c .s] [34]), (3, oQ 36 (.bin .add (.t 35) (.c (.v (.string ({ data := #[32] } : ByteArray)))))), (0, oF 37 1 6), (0, oW 38 kI 37)] [oC 39 31 [.c .s] [38], oB 40 .add 36 39, oQ 41 (.bin .add (.t 40) (.c (.v (.string ({ data := #[10] } : ByteArray))))), oB 42 .add 32 41, oM 4 42]))) (
 .g [oBi 43 .add 28 1, oM 28 43]))))
def e9x0 : Exits := [((.exit 0), [(1, .b [.c kI, .c .s, .c kI, .c (.sl 7), .c (.sl 2)]), (4, .c .s)])]
noncomputable def l9x0 (T : Table) (k : Nat) := loopN (evalC ⟨T, []⟩ k b9x0 (Ex × List AV)) [1, 4, 26, 27, 28] e9x0
def b9x1 : ACode := (
 .seq (.g [oB 48 .lss 47 46]) (
 .seq (.cond (.t 48) (.skip) (.exit 2)) (
 .seq (.block 3 (.seq (.g [oI 49 7 45 47, oL 50 [kI, kI, kI, .s, kI, (.sl 1), (.sl 5)] 49, oQ 8 (.alloc [(.v (.int .i64 0)), (.v (.int .i64 0)), (.v (.int .i64 0)), (.v (.string ByteArray.empty)), (.v (.int .i64 0)), (.s 1 []), (.s 5 [])]), oS (.store 7 (.t 8) (.t 50))]) (
 .dreg [] [(3, oM 51 4), (0, oF 52 0 8), (0, oW 53 kI 52), (1, oC 54 31 [.c .s] [53]), (3, oQ 55 (.bin .add (.t 54) (.c (.v (.string ({ data := #[32] } : ByteArray)))))), (0, oF 56 1 8), (0, oW 57 kI 56), (1, oC 58 31 [.c .s] [57]), (3, oB 59 .add 55 58), (3, oQ 60 (.bin .add (.t 59) (.c (.v (.string ({ data := #[32] } : ByteArray)))))), (0, oF 61 2 8), (0, oL 62 [kI, .s, kI, (.sl 1), (.sl 5)] 61)] [oC 63 18 [.c .s] [62], oB 64 .add 60 63, oQ 65 (.bin .add (.t 64) (.c (.v (.string ({ data := #[10] } : ByteArray))))), oB 66 .add 51 65, oM 4 66]))) (
 .g [oBi 67 .add 47 1, oM 47 67]))))
def e9x1 : Exits := [((.exit 2), [(4, .c .s)])]
noncomputable def l9x1 (T : Table) (k : Nat) := loopN (evalC ⟨T, []⟩ k b9x1 (Ex × List AV)) [4, 45, 46, 47] e9x1
def a9 : AFun := ⟨[.rd], false, [.t 2], (
 .seq (.g [oQ 1 (.box (.t 0)), oQ 2 (.mv (.c (.v (.string ({ data := #[] } : ByteArray)))))]) (
 .seq (.seq (.g [oL 9 [kI, .s, kI, (.sl 7), (.sl 2)] 1, oC 10 30 [.c .b] [9], oN 11 10]) (
 .cond (.t 11) (.seq (.g [oQ 2 (.mv (.c (.v (.string ({ data := #[] } : ByteArray)))))]) (
 .ret)) (.skip))) (
 .seq (.g [oQ 3 (.mv (.c (.v (.string ({ data := #[116, 101, 108, 108, 32] } : ByteArray)))))]) (
 .seq (.seq (.g [oF 12 0 1, oW 13 kI 12, oBi 14 .eql 13 2]) (
 .cond (.t 14) (.g [oQ 3 (.mv (.c (.v (.string ({ data := #[108, 105, 115, 116, 32] } : ByteArray)))))]) (.skip))) (
 .seq (.dreg [] [(0, oM 15 3), (0, oF 16 1 1), (0, oW 17 .s 16), (0, oB 18 .add 15 17), (0, oQ 19 (.bin .add (.t 18) (.c (.v (.string ({ data := #[32] } : ByteArray)))))), (0, oF 20 2 1), (0, oW 21 kI 20), (1, oC 22 31 [.c .s] [21])] [oB 23 .add 19 22, oQ 24 (.bin .add (.t 23) (.c (.v (.string ({ data := #[10] } : ByteArray))))), oM 4 24]) (
 .seq (.seq (.g [oF 25 4 1, oW 26 (.sl 2) 25, oZ 27 26, oK 28 0]) (
 .block 0 (.loop [1, 4, 26, 27, 28] e9x0 b9x0))) (
 .seq (.seq (.g [oF 44 3 1, oW 45 (.sl 7) 44, oZ 46 45, oK 47 0]) (
 .block 2 (.loop [4, 45, 46, 47] e9x1 b9x1))) (
 .seq (.g [oM 68 4, oM 2 68]) (
 .ret)))))))))⟩
theorem l9x0s (T : Table) (k n : Nat) (n12 : Int) (s13 : ByteArray) (n14 : Int) (l15 : Rows) (l16 : Rows) (s17 : ByteArray) (l18 : Rows) (n19 : Int) (n20 : Int) : l9x0 T k (n + 1) [(.b [(.v (.int .i64 n12)), (.v (.string s13)), (.v (.int .i64 n14)), (.fz 7 l15), (.fz 2 l16)]), (.v (.string s17)), (.fz 2 l18), (.v (.int .i64 n19)), (.v (.int .i64 n20))] = (
 bif (decide (n20 < n19)) then (
 tst (decide (0 ≤ n20)) (
 look l18 (Int.toNat n20) fun r21 =>
 cI .i64 r21 0 fun n22 =>
 cI .i64 r21 1 fun n23 =>
 callT T 31 [(.d (.v (.int .i64 n22)))] fun o24 =>
 oD o24.res fun d25 =>
 dS d25 fun s26 =>
 tst (decide (s26.size + ({ data := #[32] } : ByteArray).size ≤ maxLen)) (
 callT T 31 [(.d (.v (.int .i64 n23)))] fun o27 =>
 oD o27.res fun d28 =>
 dS d28 fun s29 =>
 tst (decide ((s26 ++ ({ data := #[32] } : ByteArray)).size + s29.size ≤ maxLen)) (
 tst (decide (((s26 ++ ({ data := #[32] } : ByteArray)) ++ s29).size + ({ data := #[10] } : ByteArray).size ≤ maxLen)) (
 tst (decide (s17.size + (((s26 ++ ({ data := #[32] } : ByteArray)) ++ s29) ++ ({ data := #[10] } : ByteArray)).size ≤ maxLen)) (
 l9x0 T k n [(.b [(.v (.int .i64 n12)), (.v (.string s13)), (.v (.int .i64 n14)), (.fz 7 l15), (.fz 2 l16)]), (.v (.string (s17 ++ (((s26 ++ ({ data := #[32] } : ByteArray)) ++ s29) ++ ({ data := #[10] } : ByteArray))))), (.fz 2 l18), (.v (.int .i64 n19)), (.v (.int .i64 (IntKind.wrap .i64 (n20 + 1))))])))))) else (
 some ((.exit 0), [(.b [(.v (.int .i64 n12)), (.v (.string s13)), (.v (.int .i64 n14)), (.fz 7 l15), (.fz 2 l16)]), (.v (.string s17))]))) := by kernel_rfl
theorem l9x1s (T : Table) (k n : Nat) (s46 : ByteArray) (l47 : Rows) (n48 : Int) (n49 : Int) : l9x1 T k (n + 1) [(.v (.string s46)), (.fz 7 l47), (.v (.int .i64 n48)), (.v (.int .i64 n49))] = (
 bif (decide (n49 < n48)) then (
 tst (decide (0 ≤ n49)) (
 look l47 (Int.toNat n49) fun r50 =>
 cI .i64 r50 0 fun n51 =>
 cI .i64 r50 1 fun n52 =>
 cI .i64 r50 2 fun n53 =>
 cS r50 3 fun s54 =>
 cI .i64 r50 4 fun n55 =>
 cL 1 r50 5 fun l56 =>
 cL 5 r50 6 fun l57 =>
 callT T 31 [(.d (.v (.int .i64 n51)))] fun o58 =>
 oD o58.res fun d59 =>
 dS d59 fun s60 =>
 tst (decide (s60.size + ({ data := #[32] } : ByteArray).size ≤ maxLen)) (
 callT T 31 [(.d (.v (.int .i64 n52)))] fun o61 =>
 oD o61.res fun d62 =>
 dS d62 fun s63 =>
 tst (decide ((s60 ++ ({ data := #[32] } : ByteArray)).size + s63.size ≤ maxLen)) (
 tst (decide (((s60 ++ ({ data := #[32] } : ByteArray)) ++ s63).size + ({ data := #[32] } : ByteArray).size ≤ maxLen)) (
 callT T 18 [(.g [(.v (.int .i64 n53)), (.v (.string s54)), (.v (.int .i64 n55)), (.s 1 l56), (.s 5 l57)])] fun o64 =>
 oD o64.res fun d65 =>
 dS d65 fun s66 =>
 tst (decide ((((s60 ++ ({ data := #[32] } : ByteArray)) ++ s63) ++ ({ data := #[32] } : ByteArray)).size + s66.size ≤ maxLen)) (
 tst (decide (((((s60 ++ ({ data := #[32] } : ByteArray)) ++ s63) ++ ({ data := #[32] } : ByteArray)) ++ s66).size + ({ data := #[10] } : ByteArray).size ≤ maxLen)) (
 tst (decide (s46.size + (((((s60 ++ ({ data := #[32] } : ByteArray)) ++ s63) ++ ({ data := #[32] } : ByteArray)) ++ s66) ++ ({ data := #[10] } : ByteArray)).size ≤ maxLen)) (
 l9x1 T k n [(.v (.string (s46 ++ (((((s60 ++ ({ data := #[32] } : ByteArray)) ++ s63) ++ ({ data := #[32] } : ByteArray)) ++ s66) ++ ({ data := #[10] } : ByteArray))))), (.fz 7 l47), (.v (.int .i64 n48)), (.v (.int .i64 (IntKind.wrap .i64 (n49 + 1))))])))))))) else (
 some ((.exit 2), [(.v (.string s46))]))) := by kernel_rfl
theorem a9q (T : Table) (k : Nat) (n1 : Int) (s2 : ByteArray) (n3 : Int) (l4 : Rows) (l5 : Rows) : evalF T k a9 [(.g [(.v (.int .i64 n1)), (.v (.string s2)), (.v (.int .i64 n3)), (.s 7 l4), (.s 2 l5)])] = (
 callT T 30 [(.g [(.v (.int .i64 n1)), (.v (.string s2)), (.v (.int .i64 n3)), (.s 7 l4), (.s 2 l5)])] fun o6 =>
 oD o6.res fun d7 =>
 dB d7 fun b8 =>
 bif (!b8) then (
 some ⟨(.d (.v (.string ({ data := #[] } : ByteArray)))), []⟩) else (
 bif (n1 == 2) then (
 tst (decide (({ data := #[108, 105, 115, 116, 32] } : ByteArray).size + s2.size ≤ maxLen)) (
 tst (decide ((({ data := #[108, 105, 115, 116, 32] } : ByteArray) ++ s2).size + ({ data := #[32] } : ByteArray).size ≤ maxLen)) (
 callT T 31 [(.d (.v (.int .i64 n3)))] fun o9 =>
 oD o9.res fun d10 =>
 dS d10 fun s11 =>
 tst (decide (((({ data := #[108, 105, 115, 116, 32] } : ByteArray) ++ s2) ++ ({ data := #[32] } : ByteArray)).size + s11.size ≤ maxLen)) (
 tst (decide ((((({ data := #[108, 105, 115, 116, 32] } : ByteArray) ++ s2) ++ ({ data := #[32] } : ByteArray)) ++ s11).size + ({ data := #[10] } : ByteArray).size ≤ maxLen)) (
 aft (l9x0 T k k [(.b [(.v (.int .i64 n1)), (.v (.string s2)), (.v (.int .i64 n3)), (.fz 7 l4), (.fz 2 l5)]), (.v (.string ((((({ data := #[108, 105, 115, 116, 32] } : ByteArray) ++ s2) ++ ({ data := #[32] } : ByteArray)) ++ s11) ++ ({ data := #[10] } : ByteArray)))), (.fz 2 l5), (.v (.int .i64 (l5.length : Int))), (.v (.int .i64 0))]) fun e30 ys31 =>
 bif e30.same (.exit 0) then (
 aV ys31 0 fun x32 =>
 aX x32 fun xs33 =>
 aV xs33 0 fun x34 =>
 aI .i64 x34 fun n35 =>
 aV xs33 1 fun x36 =>
 aS x36 fun s37 =>
 aV xs33 2 fun x38 =>
 aI .i64 x38 fun n39 =>
 aV xs33 3 fun x40 =>
 aL 7 x40 fun l41 =>
 aV xs33 4 fun x42 =>
 aL 2 x42 fun l43 =>
 aV ys31 1 fun x44 =>
 aS x44 fun s45 =>
 aft (l9x1 T k k [(.v (.string s45)), (.fz 7 l41), (.v (.int .i64 (l41.length : Int))), (.v (.int .i64 0))]) fun e67 ys68 =>
 bif e67.same (.exit 2) then (
 aV ys68 0 fun x69 =>
 aS x69 fun s70 =>
 some ⟨(.d (.v (.string s70))), []⟩) else (
 none)) else (
 none)))))) else (
 tst (decide (({ data := #[116, 101, 108, 108, 32] } : ByteArray).size + s2.size ≤ maxLen)) (
 tst (decide ((({ data := #[116, 101, 108, 108, 32] } : ByteArray) ++ s2).size + ({ data := #[32] } : ByteArray).size ≤ maxLen)) (
 callT T 31 [(.d (.v (.int .i64 n3)))] fun o71 =>
 oD o71.res fun d72 =>
 dS d72 fun s73 =>
 tst (decide (((({ data := #[116, 101, 108, 108, 32] } : ByteArray) ++ s2) ++ ({ data := #[32] } : ByteArray)).size + s73.size ≤ maxLen)) (
 tst (decide ((((({ data := #[116, 101, 108, 108, 32] } : ByteArray) ++ s2) ++ ({ data := #[32] } : ByteArray)) ++ s73).size + ({ data := #[10] } : ByteArray).size ≤ maxLen)) (
 aft (l9x0 T k k [(.b [(.v (.int .i64 n1)), (.v (.string s2)), (.v (.int .i64 n3)), (.fz 7 l4), (.fz 2 l5)]), (.v (.string ((((({ data := #[116, 101, 108, 108, 32] } : ByteArray) ++ s2) ++ ({ data := #[32] } : ByteArray)) ++ s73) ++ ({ data := #[10] } : ByteArray)))), (.fz 2 l5), (.v (.int .i64 (l5.length : Int))), (.v (.int .i64 0))]) fun e74 ys75 =>
 bif e74.same (.exit 0) then (
 aV ys75 0 fun x76 =>
 aX x76 fun xs77 =>
 aV xs77 0 fun x78 =>
 aI .i64 x78 fun n79 =>
 aV xs77 1 fun x80 =>
 aS x80 fun s81 =>
 aV xs77 2 fun x82 =>
 aI .i64 x82 fun n83 =>
 aV xs77 3 fun x84 =>
 aL 7 x84 fun l85 =>
 aV xs77 4 fun x86 =>
 aL 2 x86 fun l87 =>
 aV ys75 1 fun x88 =>
 aS x88 fun s89 =>
 aft (l9x1 T k k [(.v (.string s89)), (.fz 7 l85), (.v (.int .i64 (l85.length : Int))), (.v (.int .i64 0))]) fun e90 ys91 =>
 bif e90.same (.exit 2) then (
 aV ys91 0 fun x92 =>
 aS x92 fun s93 =>
 some ⟨(.d (.v (.string s93))), []⟩) else (
 none)) else (
 none)))))))) := by kernel_rfl
/- loop.example/g00119/laws.eqStringS -/
def b37x0 : ACode := (
 .seq (.seq (.g [oM 11 5, oM 12 0, oZ 13 12, oB 14 .lss 11 13]) (
 .cond (.t 14) (.skip) (.exit 0))) (
 .seq (.block 1 (.seq (.dreg [] [(0, oM 17 0), (0, oM 18 5), (0, oI 19 1 17 18), (0, oW 20 .s 19), (0, oM 21 1), (0, oM 22 5), (0, oI 23 1 21 22), (0, oW 24 .s 23)] [oB 25 .neq 20 24]) (
 .cond (.t 25) (.seq (.g [oV 4 false]) (
 .ret)) (.skip)))) (
 .g [oM 15 5, oBi 16 .add 15 1, oM 5 16])))
def e37x0 : Exits := [(.ret, [(4, .c .b)]), ((.exit 0), [])]
noncomputable def l37x0 (T : Table) (k : Nat) := loopN (evalC ⟨T, []⟩ k b37x0 (Ex × List AV)) [0, 1, 5] e37x0
def a37 : AFun := ⟨[.rd, .rd], false, [.t 4], (
 .seq (.g [oV 4 false]) (
 .seq (.seq (.g [oM 6 0, oZ 7 6, oM 8 1, oZ 9 8, oB 10 .neq 7 9]) (
 .cond (.t 10) (.seq (.g [oV 4 false]) (
 .ret)) (.skip))) (
 .seq (.seq (.g [oK 5 0]) (
 .block 0 (.loop [0, 1, 5] e37x0 b37x0))) (
 .seq (.g [oV 4 true]) (
 .ret)))))⟩
theorem l37x0s (T : Table) (k n : Nat) (l3 : Rows) (l4 : Rows) (n5 : Int) : l37x0 T k (n + 1) [(.fz 1 l3), (.fz 1 l4), (.v (.int .i64 n5))] = (
 bif (decide (n5 < (l3.length : Int))) then (
 tst (decide (0 ≤ n5)) (
 look l3 (Int.toNat n5) fun r6 =>
 cS r6 0 fun s7 =>
 tst (decide (0 ≤ n5)) (
 look l4 (Int.toNat n5) fun r8 =>
 cS r8 0 fun s9 =>
 bif (!(bytesEq s7 s9)) then (
 some (.ret, [(.v (.bool false))])) else (
 l37x0 T k n [(.fz 1 l3), (.fz 1 l4), (.v (.int .i64 (IntKind.wrap .i64 (n5 + 1))))])))) else (
 some ((.exit 0), []))) := by kernel_rfl
theorem a37q (T : Table) (k : Nat) (l1 : Rows) (l2 : Rows) : evalF T k a37 [(.d (.s 1 l1)), (.d (.s 1 l2))] = (
 bif ((l1.length : Int) != (l2.length : Int)) then (
 some ⟨(.d (.v (.bool false))), []⟩) else (
 aft (l37x0 T k k [(.fz 1 l1), (.fz 1 l2), (.v (.int .i64 0))]) fun e10 ys11 =>
 bif e10.same .ret then (
 aV ys11 0 fun x12 =>
 aB x12 fun b13 =>
 some ⟨(.d (.v (.bool b13))), []⟩) else (
 bif e10.same (.exit 0) then (
 some ⟨(.d (.v (.bool true))), []⟩) else (
 none)))) := by kernel_rfl
/- loop.example/g00119/laws.eqValueS -/
def b38x0 : ACode := (
 .seq (.seq (.g [oM 11 5, oM 12 0, oZ 13 12, oB 14 .lss 11 13]) (
 .cond (.t 14) (.skip) (.exit 0))) (
 .seq (.block 1 (.seq (.dreg [] [(0, oM 17 0), (0, oM 18 5), (0, oI 19 5 17 18), (0, oL 20 [kI, .s, kI, (.sl 1), (.sl 5)] 19), (0, oM 21 1), (0, oM 22 5), (0, oI 23 5 21 22), (0, oL 24 [kI, .s, kI, (.sl 1), (.sl 5)] 23)] [oC 25 13 [.c .b] [20, 24], oN 26 25]) (
 .cond (.t 26) (.seq (.g [oV 4 false]) (
 .ret)) (.skip)))) (
 .g [oM 15 5, oBi 16 .add 15 1, oM 5 16])))
def e38x0 : Exits := [(.ret, [(4, .c .b)]), ((.exit 0), [])]
noncomputable def l38x0 (T : Table) (k : Nat) := loopN (evalC ⟨T, []⟩ k b38x0 (Ex × List AV)) [0, 1, 5] e38x0
def a38 : AFun := ⟨[.rd, .rd], false, [.t 4], (
 .seq (.g [oV 4 false]) (
 .seq (.seq (.g [oM 6 0, oZ 7 6, oM 8 1, oZ 9 8, oB 10 .neq 7 9]) (
 .cond (.t 10) (.seq (.g [oV 4 false]) (
 .ret)) (.skip))) (
 .seq (.seq (.g [oK 5 0]) (
 .block 0 (.loop [0, 1, 5] e38x0 b38x0))) (
 .seq (.g [oV 4 true]) (
 .ret)))))⟩
theorem l38x0s (T : Table) (k n : Nat) (l3 : Rows) (l4 : Rows) (n5 : Int) : l38x0 T k (n + 1) [(.fz 5 l3), (.fz 5 l4), (.v (.int .i64 n5))] = (
 bif (decide (n5 < (l3.length : Int))) then (
 tst (decide (0 ≤ n5)) (
 look l3 (Int.toNat n5) fun r6 =>
 cI .i64 r6 0 fun n7 =>
 cS r6 1 fun s8 =>
 cI .i64 r6 2 fun n9 =>
 cL 1 r6 3 fun l10 =>
 cL 5 r6 4 fun l11 =>
 tst (decide (0 ≤ n5)) (
 look l4 (Int.toNat n5) fun r12 =>
 cI .i64 r12 0 fun n13 =>
 cS r12 1 fun s14 =>
 cI .i64 r12 2 fun n15 =>
 cL 1 r12 3 fun l16 =>
 cL 5 r12 4 fun l17 =>
 callT T 13 [(.g [(.v (.int .i64 n7)), (.v (.string s8)), (.v (.int .i64 n9)), (.s 1 l10), (.s 5 l11)]), (.g [(.v (.int .i64 n13)), (.v (.string s14)), (.v (.int .i64 n15)), (.s 1 l16), (.s 5 l17)])] fun o18 =>
 oD o18.res fun d19 =>
 dB d19 fun b20 =>
 bif (!b20) then (
 some (.ret, [(.v (.bool false))])) else (
 l38x0 T k n [(.fz 5 l3), (.fz 5 l4), (.v (.int .i64 (IntKind.wrap .i64 (n5 + 1))))])))) else (
 some ((.exit 0), []))) := by kernel_rfl
theorem a38q (T : Table) (k : Nat) (l1 : Rows) (l2 : Rows) : evalF T k a38 [(.d (.s 5 l1)), (.d (.s 5 l2))] = (
 bif ((l1.length : Int) != (l2.length : Int)) then (
 some ⟨(.d (.v (.bool false))), []⟩) else (
 aft (l38x0 T k k [(.fz 5 l1), (.fz 5 l2), (.v (.int .i64 0))]) fun e21 ys22 =>
 bif e21.same .ret then (
 aV ys22 0 fun x23 =>
 aB x23 fun b24 =>
 some ⟨(.d (.v (.bool b24))), []⟩) else (
 bif e21.same (.exit 0) then (
 some ⟨(.d (.v (.bool true))), []⟩) else (
 none)))) := by kernel_rfl
/- loop.example/g00119/laws.eqValue -/

def a13 : AFun := ⟨[.rd, .rd], false, [.t 4], (
 .seq (.g [oQ 2 (.box (.t 0)), oQ 3 (.box (.t 1)), oV 4 false]) (
 .seq (.seq (.g [oF 5 0 2, oW 6 kI 5, oF 7 0 3, oW 8 kI 7, oB 9 .neq 6 8]) (
 .cond (.t 9) (.seq (.g [oV 4 false]) (
 .ret)) (.skip))) (
 .seq (.seq (.g [oF 10 1 2, oW 11 .s 10, oF 12 1 3, oW 13 .s 12, oB 14 .neq 11 13]) (
 .cond (.t 14) (.seq (.g [oV 4 false]) (
 .ret)) (.skip))) (
 .seq (.seq (.g [oF 15 2 2, oW 16 kI 15, oF 17 2 3, oW 18 kI 17, oB 19 .neq 16 18]) (
 .cond (.t 19) (.seq (.g [oV 4 false]) (
 .ret)) (.skip))) (
 .seq (.seq (.g [oF 20 3 2, oW 21 (.sl 1) 20, oF 22 3 3, oW 23 (.sl 1) 22, oC 24 37 [.c .b] [21, 23], oN 25 24]) (
 .cond (.t 25) (.seq (.g [oV 4 false]) (
 .ret)) (.skip))) (
 .seq (.seq (.g [oF 26 4 2, oW 27 (.sl 5) 26, oF 28 4 3, oW 29 (.sl 5) 28, oC 30 38 [.c .b] [27, 29], oN 31 30]) (
 .cond (.t 31) (.seq (.g [oV 4 false]) (
 .ret)) (.skip))) (
 .seq (.g [oV 4 true]) (
 .ret))))))))⟩

theorem a13q (T : Table) (k : Nat) (n1 : Int) (s2 : ByteArray) (n3 : Int) (l4 : Rows) (l5 : Rows) (n6 : Int) (s7 : ByteArray) (n8 : Int) (l9 : Rows) (l10 : Rows) : evalF T k a13 [(.g [(.v (.int .i64 n1)), (.v (.string s2)), (.v (.int .i64 n3)), (.s 1 l4), (.s 5 l5)]), (.g [(.v (.int .i64 n6)), (.v (.string s7)), (.v (.int .i64 n8)), (.s 1 l9), (.s 5 l10)])] = (
 bif (n1 != n6) then (
 some ⟨(.d (.v (.bool false))), []⟩) else (
 bif (!(bytesEq s2 s7)) then (
 some ⟨(.d (.v (.bool false))), []⟩) else (
 bif (n3 != n8) then (
 some ⟨(.d (.v (.bool false))), []⟩) else (
 callT T 37 [(.d (.s 1 l4)), (.d (.s 1 l9))] fun o11 =>
 oD o11.res fun d12 =>
 dB d12 fun b13 =>
 bif (!b13) then (
 some ⟨(.d (.v (.bool false))), []⟩) else (
 callT T 38 [(.d (.s 5 l5)), (.d (.s 5 l10))] fun o14 =>
 oD o14.res fun d15 =>
 dB d15 fun b16 =>
 bif (!b16) then (
 some ⟨(.d (.v (.bool false))), []⟩) else (
 some ⟨(.d (.v (.bool true))), []⟩)))))) := by kernel_rfl
/- loop.example/g00119/laws.eqWork -/

def a62 : AFun := ⟨[.rd, .rd], false, [.t 4], (
 .seq (.g [oQ 2 (.box (.t 0)), oQ 3 (.box (.t 1)), oV 4 false]) (
 .seq (.seq (.g [oF 5 0 2, oW 6 kI 5, oF 7 0 3, oW 8 kI 7, oB 9 .neq 6 8]) (
 .cond (.t 9) (.seq (.g [oV 4 false]) (
 .ret)) (.skip))) (
 .seq (.seq (.g [oF 10 1 2, oW 11 kI 10, oF 12 1 3, oW 13 kI 12, oB 14 .neq 11 13]) (
 .cond (.t 14) (.seq (.g [oV 4 false]) (
 .ret)) (.skip))) (
 .seq (.seq (.g [oF 15 2 2, oL 16 [kI, .s, kI, (.sl 1), (.sl 5)] 15, oF 17 2 3, oL 18 [kI, .s, kI, (.sl 1), (.sl 5)] 17, oC 19 13 [.c .b] [16, 18], oN 20 19]) (
 .cond (.t 20) (.seq (.g [oV 4 false]) (
 .ret)) (.skip))) (
 .seq (.g [oV 4 true]) (
 .ret))))))⟩

theorem a62q (T : Table) (k : Nat) (n1 : Int) (n2 : Int) (n3 : Int) (s4 : ByteArray) (n5 : Int) (l6 : Rows) (l7 : Rows) (n8 : Int) (n9 : Int) (n10 : Int) (s11 : ByteArray) (n12 : Int) (l13 : Rows) (l14 : Rows) : evalF T k a62 [(.g [(.v (.int .i64 n1)), (.v (.int .i64 n2)), (.v (.int .i64 n3)), (.v (.string s4)), (.v (.int .i64 n5)), (.s 1 l6), (.s 5 l7)]), (.g [(.v (.int .i64 n8)), (.v (.int .i64 n9)), (.v (.int .i64 n10)), (.v (.string s11)), (.v (.int .i64 n12)), (.s 1 l13), (.s 5 l14)])] = (
 bif (n1 != n8) then (
 some ⟨(.d (.v (.bool false))), []⟩) else (
 bif (n2 != n9) then (
 some ⟨(.d (.v (.bool false))), []⟩) else (
 callT T 13 [(.g [(.v (.int .i64 n3)), (.v (.string s4)), (.v (.int .i64 n5)), (.s 1 l6), (.s 5 l7)]), (.g [(.v (.int .i64 n10)), (.v (.string s11)), (.v (.int .i64 n12)), (.s 1 l13), (.s 5 l14)])] fun o15 =>
 oD o15.res fun d16 =>
 dB d16 fun b17 =>
 bif (!b17) then (
 some ⟨(.d (.v (.bool false))), []⟩) else (
 some ⟨(.d (.v (.bool true))), []⟩)))) := by kernel_rfl
/- loop.example/g00119/laws.eqWorkS -/
def b32x0 : ACode := (
 .seq (.seq (.g [oM 11 5, oM 12 0, oZ 13 12, oB 14 .lss 11 13]) (
 .cond (.t 14) (.skip) (.exit 0))) (
 .seq (.block 1 (.seq (.dreg [] [(0, oM 17 0), (0, oM 18 5), (0, oI 19 7 17 18), (0, oL 20 [kI, kI, kI, .s, kI, (.sl 1), (.sl 5)] 19), (0, oM 21 1), (0, oM 22 5), (0, oI 23 7 21 22), (0, oL 24 [kI, kI, kI, .s, kI, (.sl 1), (.sl 5)] 23)] [oC 25 62 [.c .b] [20, 24], oN 26 25]) (
 .cond (.t 26) (.seq (.g [oV 4 false]) (
 .ret)) (.skip)))) (
 .g [oM 15 5, oBi 16 .add 15 1, oM 5 16])))
def e32x0 : Exits := [(.ret, [(4, .c .b)]), ((.exit 0), [])]
noncomputable def l32x0 (T : Table) (k : Nat) := loopN (evalC ⟨T, []⟩ k b32x0 (Ex × List AV)) [0, 1, 5] e32x0
def a32 : AFun := ⟨[.rd, .rd], false, [.t 4], (
 .seq (.g [oV 4 false]) (
 .seq (.seq (.g [oM 6 0, oZ 7 6, oM 8 1, oZ 9 8, oB 10 .neq 7 9]) (
 .cond (.t 10) (.seq (.g [oV 4 false]) (
 .ret)) (.skip))) (
 .seq (.seq (.g [oK 5 0]) (
 .block 0 (.loop [0, 1, 5] e32x0 b32x0))) (
 .seq (.g [oV 4 true]) (
 .ret)))))⟩
theorem l32x0s (T : Table) (k n : Nat) (l3 : Rows) (l4 : Rows) (n5 : Int) : l32x0 T k (n + 1) [(.fz 7 l3), (.fz 7 l4), (.v (.int .i64 n5))] = (
 bif (decide (n5 < (l3.length : Int))) then (
 tst (decide (0 ≤ n5)) (
 look l3 (Int.toNat n5) fun r6 =>
 cI .i64 r6 0 fun n7 =>
 cI .i64 r6 1 fun n8 =>
 cI .i64 r6 2 fun n9 =>
 cS r6 3 fun s10 =>
 cI .i64 r6 4 fun n11 =>
 cL 1 r6 5 fun l12 =>
 cL 5 r6 6 fun l13 =>
 tst (decide (0 ≤ n5)) (
 look l4 (Int.toNat n5) fun r14 =>
 cI .i64 r14 0 fun n15 =>
 cI .i64 r14 1 fun n16 =>
 cI .i64 r14 2 fun n17 =>
 cS r14 3 fun s18 =>
 cI .i64 r14 4 fun n19 =>
 cL 1 r14 5 fun l20 =>
 cL 5 r14 6 fun l21 =>
 callT T 62 [(.g [(.v (.int .i64 n7)), (.v (.int .i64 n8)), (.v (.int .i64 n9)), (.v (.string s10)), (.v (.int .i64 n11)), (.s 1 l12), (.s 5 l13)]), (.g [(.v (.int .i64 n15)), (.v (.int .i64 n16)), (.v (.int .i64 n17)), (.v (.string s18)), (.v (.int .i64 n19)), (.s 1 l20), (.s 5 l21)])] fun o22 =>
 oD o22.res fun d23 =>
 dB d23 fun b24 =>
 bif (!b24) then (
 some (.ret, [(.v (.bool false))])) else (
 l32x0 T k n [(.fz 7 l3), (.fz 7 l4), (.v (.int .i64 (IntKind.wrap .i64 (n5 + 1))))])))) else (
 some ((.exit 0), []))) := by kernel_rfl
theorem a32q (T : Table) (k : Nat) (l1 : Rows) (l2 : Rows) : evalF T k a32 [(.d (.s 7 l1)), (.d (.s 7 l2))] = (
 bif ((l1.length : Int) != (l2.length : Int)) then (
 some ⟨(.d (.v (.bool false))), []⟩) else (
 aft (l32x0 T k k [(.fz 7 l1), (.fz 7 l2), (.v (.int .i64 0))]) fun e25 ys26 =>
 bif e25.same .ret then (
 aV ys26 0 fun x27 =>
 aB x27 fun b28 =>
 some ⟨(.d (.v (.bool b28))), []⟩) else (
 bif e25.same (.exit 0) then (
 some ⟨(.d (.v (.bool true))), []⟩) else (
 none)))) := by kernel_rfl
/- loop.example/g00119/laws.eqRun -/

def a63 : AFun := ⟨[.rd, .rd], false, [.t 4], (
 .seq (.g [oQ 2 (.box (.t 0)), oQ 3 (.box (.t 1)), oV 4 false]) (
 .seq (.seq (.g [oF 5 0 2, oW 6 kI 5, oF 7 0 3, oW 8 kI 7, oB 9 .neq 6 8]) (
 .cond (.t 9) (.seq (.g [oV 4 false]) (
 .ret)) (.skip))) (
 .seq (.seq (.g [oF 10 1 2, oW 11 kI 10, oF 12 1 3, oW 13 kI 12, oB 14 .neq 11 13]) (
 .cond (.t 14) (.seq (.g [oV 4 false]) (
 .ret)) (.skip))) (
 .seq (.g [oV 4 true]) (
 .ret)))))⟩

theorem a63q (T : Table) (k : Nat) (n1 : Int) (n2 : Int) (n3 : Int) (n4 : Int) : evalF T k a63 [(.g [(.v (.int .i64 n1)), (.v (.int .i64 n2))]), (.g [(.v (.int .i64 n3)), (.v (.int .i64 n4))])] = (
 bif (n1 != n3) then (
 some ⟨(.d (.v (.bool false))), []⟩) else (
 bif (n2 != n4) then (
 some ⟨(.d (.v (.bool false))), []⟩) else (
 some ⟨(.d (.v (.bool true))), []⟩))) := by kernel_rfl
/- loop.example/g00119/laws.eqRunS -/
def b33x0 : ACode := (
 .seq (.seq (.g [oM 11 5, oM 12 0, oZ 13 12, oB 14 .lss 11 13]) (
 .cond (.t 14) (.skip) (.exit 0))) (
 .seq (.block 1 (.seq (.dreg [] [(0, oM 17 0), (0, oM 18 5), (0, oI 19 2 17 18), (0, oL 20 [kI, kI] 19), (0, oM 21 1), (0, oM 22 5), (0, oI 23 2 21 22), (0, oL 24 [kI, kI] 23)] [oC 25 63 [.c .b] [20, 24], oN 26 25]) (
 .cond (.t 26) (.seq (.g [oV 4 false]) (
 .ret)) (.skip)))) (
 .g [oM 15 5, oBi 16 .add 15 1, oM 5 16])))
def e33x0 : Exits := [(.ret, [(4, .c .b)]), ((.exit 0), [])]
noncomputable def l33x0 (T : Table) (k : Nat) := loopN (evalC ⟨T, []⟩ k b33x0 (Ex × List AV)) [0, 1, 5] e33x0
def a33 : AFun := ⟨[.rd, .rd], false, [.t 4], (
 .seq (.g [oV 4 false]) (
 .seq (.seq (.g [oM 6 0, oZ 7 6, oM 8 1, oZ 9 8, oB 10 .neq 7 9]) (
 .cond (.t 10) (.seq (.g [oV 4 false]) (
 .ret)) (.skip))) (
 .seq (.seq (.g [oK 5 0]) (
 .block 0 (.loop [0, 1, 5] e33x0 b33x0))) (
 .seq (.g [oV 4 true]) (
 .ret)))))⟩
theorem l33x0s (T : Table) (k n : Nat) (l3 : Rows) (l4 : Rows) (n5 : Int) : l33x0 T k (n + 1) [(.fz 2 l3), (.fz 2 l4), (.v (.int .i64 n5))] = (
 bif (decide (n5 < (l3.length : Int))) then (
 tst (decide (0 ≤ n5)) (
 look l3 (Int.toNat n5) fun r6 =>
 cI .i64 r6 0 fun n7 =>
 cI .i64 r6 1 fun n8 =>
 tst (decide (0 ≤ n5)) (
 look l4 (Int.toNat n5) fun r9 =>
 cI .i64 r9 0 fun n10 =>
 cI .i64 r9 1 fun n11 =>
 callT T 63 [(.g [(.v (.int .i64 n7)), (.v (.int .i64 n8))]), (.g [(.v (.int .i64 n10)), (.v (.int .i64 n11))])] fun o12 =>
 oD o12.res fun d13 =>
 dB d13 fun b14 =>
 bif (!b14) then (
 some (.ret, [(.v (.bool false))])) else (
 l33x0 T k n [(.fz 2 l3), (.fz 2 l4), (.v (.int .i64 (IntKind.wrap .i64 (n5 + 1))))])))) else (
 some ((.exit 0), []))) := by kernel_rfl
theorem a33q (T : Table) (k : Nat) (l1 : Rows) (l2 : Rows) : evalF T k a33 [(.d (.s 2 l1)), (.d (.s 2 l2))] = (
 bif ((l1.length : Int) != (l2.length : Int)) then (
 some ⟨(.d (.v (.bool false))), []⟩) else (
 aft (l33x0 T k k [(.fz 2 l1), (.fz 2 l2), (.v (.int .i64 0))]) fun e15 ys16 =>
 bif e15.same .ret then (
 aV ys16 0 fun x17 =>
 aB x17 fun b18 =>
 some ⟨(.d (.v (.bool b18))), []⟩) else (
 bif e15.same (.exit 0) then (
 some ⟨(.d (.v (.bool true))), []⟩) else (
 none)))) := by kernel_rfl
/- loop.example/g00119/laws.eqMsg -/

def a10 : AFun := ⟨[.rd, .rd], false, [.t 4], (
 .seq (.g [oQ 2 (.box (.t 0)), oQ 3 (.box (.t 1)), oV 4 false]) (
 .seq (.seq (.g [oF 5 0 2, oW 6 kI 5, oF 7 0 3, oW 8 kI 7, oB 9 .neq 6 8]) (
 .cond (.t 9) (.seq (.g [oV 4 false]) (
 .ret)) (.skip))) (
 .seq (.seq (.g [oF 10 1 2, oW 11 .s 10, oF 12 1 3, oW 13 .s 12, oB 14 .neq 11 13]) (
 .cond (.t 14) (.seq (.g [oV 4 false]) (
 .ret)) (.skip))) (
 .seq (.seq (.g [oF 15 2 2, oW 16 kI 15, oF 17 2 3, oW 18 kI 17, oB 19 .neq 16 18]) (
 .cond (.t 19) (.seq (.g [oV 4 false]) (
 .ret)) (.skip))) (
 .seq (.seq (.g [oF 20 3 2, oW 21 (.sl 7) 20, oF 22 3 3, oW 23 (.sl 7) 22, oC 24 32 [.c .b] [21, 23], oN 25 24]) (
 .cond (.t 25) (.seq (.g [oV 4 false]) (
 .ret)) (.skip))) (
 .seq (.seq (.g [oF 26 4 2, oW 27 (.sl 2) 26, oF 28 4 3, oW 29 (.sl 2) 28, oC 30 33 [.c .b] [27, 29], oN 31 30]) (
 .cond (.t 31) (.seq (.g [oV 4 false]) (
 .ret)) (.skip))) (
 .seq (.g [oV 4 true]) (
 .ret))))))))⟩

theorem a10q (T : Table) (k : Nat) (n1 : Int) (s2 : ByteArray) (n3 : Int) (l4 : Rows) (l5 : Rows) (n6 : Int) (s7 : ByteArray) (n8 : Int) (l9 : Rows) (l10 : Rows) : evalF T k a10 [(.g [(.v (.int .i64 n1)), (.v (.string s2)), (.v (.int .i64 n3)), (.s 7 l4), (.s 2 l5)]), (.g [(.v (.int .i64 n6)), (.v (.string s7)), (.v (.int .i64 n8)), (.s 7 l9), (.s 2 l10)])] = (
 bif (n1 != n6) then (
 some ⟨(.d (.v (.bool false))), []⟩) else (
 bif (!(bytesEq s2 s7)) then (
 some ⟨(.d (.v (.bool false))), []⟩) else (
 bif (n3 != n8) then (
 some ⟨(.d (.v (.bool false))), []⟩) else (
 callT T 32 [(.d (.s 7 l4)), (.d (.s 7 l9))] fun o11 =>
 oD o11.res fun d12 =>
 dB d12 fun b13 =>
 bif (!b13) then (
 some ⟨(.d (.v (.bool false))), []⟩) else (
 callT T 33 [(.d (.s 2 l5)), (.d (.s 2 l10))] fun o14 =>
 oD o14.res fun d15 =>
 dB d15 fun b16 =>
 bif (!b16) then (
 some ⟨(.d (.v (.bool false))), []⟩) else (
 some ⟨(.d (.v (.bool true))), []⟩)))))) := by kernel_rfl
/- loop.example/g00119/laws.FnExactMsgText -/

def a3 : AFun := ⟨[.rd], false, [.t 2], (
 .seq (.g [oQ 1 (.box (.t 0)), oV 2 false]) (
 .seq (.g [oK 3 1048576]) (
 .seq (.g [oL 7 [kI, .s, kI, (.sl 7), (.sl 2)] 1, oM 8 3, oC 9 6 [.c kI] [7, 8], oM 3 9]) (
 .seq (.seq (.g [oM 10 3, oBi 11 .lss 10 0]) (
 .cond (.t 11) (.seq (.g [oV 2 true]) (
 .ret)) (.skip))) (
 .seq (.g [oL 12 [kI, .s, kI, (.sl 7), (.sl 2)] 1, oC 13 8 [.g [kI, .s, kI, (.sl 7), (.sl 2)]] [12], oC 14 7 [.c .s] [13], oM 4 14]) (
 .seq (.g [oL 15 [kI, .s, kI, (.sl 7), (.sl 2)] 1, oC 16 8 [.g [kI, .s, kI, (.sl 7), (.sl 2)]] [15], oQ 5 (.alloc [(.v (.int .i64 0)), (.v (.string ByteArray.empty)), (.v (.int .i64 0)), (.s 7 []), (.s 2 [])]), oS (.store 5 (.t 5) (.t 16))]) (
 .seq (.g [oL 17 [kI, .s, kI, (.sl 7), (.sl 2)] 5, oC 18 9 [.c .s] [17], oM 6 18]) (
 .seq (.seq (.g [oM 19 6, oM 20 4, oB 21 .neq 19 20]) (
 .cond (.t 21) (.seq (.g [oV 2 false]) (
 .ret)) (.skip))) (
 .seq (.seq (.dreg [] [(0, oL 22 [kI, .s, kI, (.sl 7), (.sl 2)] 5), (0, oL 23 [kI, .s, kI, (.sl 7), (.sl 2)] 1), (1, oC 24 8 [.g [kI, .s, kI, (.sl 7), (.sl 2)]] [23])] [oC 25 10 [.c .b] [22, 24], oN 26 25]) (
 .cond (.t 26) (.seq (.g [oV 2 false]) (
 .ret)) (.skip))) (
 .seq (.g [oV 2 true]) (
 .ret)))))))))))⟩

theorem a3q (T : Table) (k : Nat) (n1 : Int) (s2 : ByteArray) (n3 : Int) (l4 : Rows) (l5 : Rows) : evalF T k a3 [(.g [(.v (.int .i64 n1)), (.v (.string s2)), (.v (.int .i64 n3)), (.s 7 l4), (.s 2 l5)])] = (
 callT T 6 [(.g [(.v (.int .i64 n1)), (.v (.string s2)), (.v (.int .i64 n3)), (.s 7 l4), (.s 2 l5)]), (.d (.v (.int .i64 1048576)))] fun o6 =>
 oD o6.res fun d7 =>
 dI .i64 d7 fun n8 =>
 bif (decide (n8 < 0)) then (
 some ⟨(.d (.v (.bool true))), []⟩) else (
 callT T 8 [(.g [(.v (.int .i64 n1)), (.v (.string s2)), (.v (.int .i64 n3)), (.s 7 l4), (.s 2 l5)])] fun o9 =>
 oG o9.res fun r10 =>
 tst (Nat.beq r10.length 5) (
 cI .i64 r10 0 fun n11 =>
 cS r10 1 fun s12 =>
 cI .i64 r10 2 fun n13 =>
 cL 7 r10 3 fun l14 =>
 cL 2 r10 4 fun l15 =>
 callT T 7 [(.g [(.v (.int .i64 n11)), (.v (.string s12)), (.v (.int .i64 n13)), (.s 7 l14), (.s 2 l15)])] fun o16 =>
 oD o16.res fun d17 =>
 dS d17 fun s18 =>
 callT T 8 [(.g [(.v (.int .i64 n1)), (.v (.string s2)), (.v (.int .i64 n3)), (.s 7 l4), (.s 2 l5)])] fun o19 =>
 oG o19.res fun r20 =>
 tst (Nat.beq r20.length 5) (
 cI .i64 r20 0 fun n21 =>
 cS r20 1 fun s22 =>
 cI .i64 r20 2 fun n23 =>
 cL 7 r20 3 fun l24 =>
 cL 2 r20 4 fun l25 =>
 callT T 9 [(.g [(.v (.int .i64 n21)), (.v (.string s22)), (.v (.int .i64 n23)), (.s 7 l24), (.s 2 l25)])] fun o26 =>
 oD o26.res fun d27 =>
 dS d27 fun s28 =>
 bif (!(bytesEq s28 s18)) then (
 some ⟨(.d (.v (.bool false))), []⟩) else (
 callT T 8 [(.g [(.v (.int .i64 n1)), (.v (.string s2)), (.v (.int .i64 n3)), (.s 7 l4), (.s 2 l5)])] fun o29 =>
 oG o29.res fun r30 =>
 tst (Nat.beq r30.length 5) (
 cI .i64 r30 0 fun n31 =>
 cS r30 1 fun s32 =>
 cI .i64 r30 2 fun n33 =>
 cL 7 r30 3 fun l34 =>
 cL 2 r30 4 fun l35 =>
 callT T 10 [(.g [(.v (.int .i64 n21)), (.v (.string s22)), (.v (.int .i64 n23)), (.s 7 l24), (.s 2 l25)]), (.g [(.v (.int .i64 n31)), (.v (.string s32)), (.v (.int .i64 n33)), (.s 7 l34), (.s 2 l35)])] fun o36 =>
 oD o36.res fun d37 =>
 dB d37 fun b38 =>
 bif (!b38) then (
 some ⟨(.d (.v (.bool false))), []⟩) else (
 some ⟨(.d (.v (.bool true))), []⟩))))))) := by kernel_rfl

end Go.Am.Mt
