/- What the functions come to, printed: equations by the kernel. Nothing is assumed. -/
import Derived.Test.YtmgeoejefnablaaGreatAmA
import Derived.KernelRfl
namespace Go.Am.Lk
set_option linter.unusedVariables false
set_option linter.unusedSimpArgs false
set_option maxRecDepth 8000
/- loop.example/g00119/laws.szStringS -/
def b31x0 : ACode := (
 .seq (.seq (.g [oM 12 5, oM 13 0, oZ 14 13, oB 15 .lss 12 14]) (
 .cond (.t 15) (.skip) (.exit 0))) (
 .seq (.block 1 (.seq (.g [oM 18 1, oM 19 0, oM 20 5, oI 21 1 19 20, oW 22 .s 21, oQ 23 (.len true (.t 22)), oB 24 .sub 18 23, oM 1 24]) (
 .seq (.g [oM 25 1, oBi 26 .lss 25 0]) (
 .cond (.t 26) (.seq (.g [oK 4 (-1)]) (
 .ret)) (.skip))))) (
 .g [oM 16 5, oBi 17 .add 16 1, oM 5 17])))
def e31x0 : Exits := [(.ret, [(4, .c kI)]), ((.exit 0), [(1, .c kI)])]
noncomputable def l31x0 (T : Table) (k : Nat) := loopN (evalC ⟨T, []⟩ k b31x0 (Ex × List AV)) [0, 1, 5] e31x0
def a31 : AFun := ⟨[.rd, .rd], false, [.t 4], (
 .seq (.g [oK 4 0]) (
 .seq (.g [oM 6 1, oM 7 0, oZ 8 7, oB 9 .sub 6 8, oM 1 9]) (
 .seq (.seq (.g [oM 10 1, oBi 11 .lss 10 0]) (
 .cond (.t 11) (.seq (.g [oK 4 (-1)]) (
 .ret)) (.skip))) (
 .seq (.seq (.g [oK 5 0]) (
 .block 0 (.loop [0, 1, 5] e31x0 b31x0))) (
 .seq (.g [oM 27 1, oM 4 27]) (
 .ret))))))⟩
theorem l31x0s (T : Table) (k n : Nat) (l3 : Rows) (n4 : Int) (n5 : Int) : l31x0 T k (n + 1) [(.fz 1 l3), (.v (.int .i64 n4)), (.v (.int .i64 n5))] = (
 bif (decide (n5 < (l3.length : Int))) then (
 tst (decide (0 ≤ n5)) (
 look l3 (Int.toNat n5) fun r6 =>
 cS r6 0 fun s7 =>
 bif (decide ((IntKind.wrap .i64 (n4 - (s7.size : Int))) < 0)) then (
 some (.ret, [(.v (.int .i64 (-1)))])) else (
 l31x0 T k n [(.fz 1 l3), (.v (.int .i64 (IntKind.wrap .i64 (n4 - (s7.size : Int))))), (.v (.int .i64 (IntKind.wrap .i64 (n5 + 1))))]))) else (
 some ((.exit 0), [(.v (.int .i64 n4))]))) := by kernel_rfl
theorem a31q (T : Table) (k : Nat) (l1 : Rows) (n2 : Int) : evalF T k a31 [(.d (.s 1 l1)), (.d (.v (.int .i64 n2)))] = (
 bif (decide ((IntKind.wrap .i64 (n2 - (l1.length : Int))) < 0)) then (
 some ⟨(.d (.v (.int .i64 (-1)))), []⟩) else (
 aft (l31x0 T k k [(.fz 1 l1), (.v (.int .i64 (IntKind.wrap .i64 (n2 - (l1.length : Int))))), (.v (.int .i64 0))]) fun e8 ys9 =>
 bif e8.same .ret then (
 aV ys9 0 fun x10 =>
 aI .i64 x10 fun n11 =>
 some ⟨(.d (.v (.int .i64 n11))), []⟩) else (
 bif e8.same (.exit 0) then (
 aV ys9 0 fun x12 =>
 aI .i64 x12 fun n13 =>
 some ⟨(.d (.v (.int .i64 n13))), []⟩) else (
 none)))) := by kernel_rfl
/- loop.example/g00119/laws.szTerm -/

def a193 : AFun := ⟨[.rd, .rd], false, [.t 4], (
 .seq (.g [oQ 2 (.box (.t 0)), oK 4 0]) (
 .seq (.g [oM 5 1, oF 6 1 2, oW 7 .s 6, oQ 8 (.len true (.t 7)), oB 9 .sub 5 8, oM 1 9]) (
 .seq (.seq (.g [oM 10 1, oBi 11 .lss 10 0]) (
 .cond (.t 11) (.seq (.g [oK 4 (-1)]) (
 .ret)) (.skip))) (
 .seq (.g [oF 12 2 2, oW 13 (.sl 1) 12, oM 14 1, oC 15 31 [.c kI] [13, 14], oM 1 15]) (
 .seq (.seq (.g [oM 16 1, oBi 17 .lss 16 0]) (
 .cond (.t 17) (.seq (.g [oK 4 (-1)]) (
 .ret)) (.skip))) (
 .seq (.g [oM 18 1, oM 4 18]) (
 .ret)))))))⟩

theorem a193q (T : Table) (k : Nat) (n1 : Int) (s2 : ByteArray) (l3 : Rows) (n4 : Int) : evalF T k a193 [(.g [(.v (.int .i64 n1)), (.v (.string s2)), (.s 1 l3)]), (.d (.v (.int .i64 n4)))] = (
 bif (decide ((IntKind.wrap .i64 (n4 - (s2.size : Int))) < 0)) then (
 some ⟨(.d (.v (.int .i64 (-1)))), []⟩) else (
 callT T 31 [(.d (.s 1 l3)), (.d (.v (.int .i64 (IntKind.wrap .i64 (n4 - (s2.size : Int))))))] fun o5 =>
 oD o5.res fun d6 =>
 dI .i64 d6 fun n7 =>
 bif (decide (n7 < 0)) then (
 some ⟨(.d (.v (.int .i64 (-1)))), []⟩) else (
 some ⟨(.d (.v (.int .i64 n7))), []⟩))) := by kernel_rfl
/- loop.example/g00119/laws.szTermS -/
def b128x0 : ACode := (
 .seq (.seq (.g [oM 12 5, oM 13 0, oZ 14 13, oB 15 .lss 12 14]) (
 .cond (.t 15) (.skip) (.exit 0))) (
 .seq (.block 1 (.seq (.g [oM 18 0, oM 19 5, oI 20 3 18 19, oL 21 [kI, .s, (.sl 1)] 20, oM 22 1, oC 23 193 [.c kI] [21, 22], oM 1 23]) (
 .seq (.g [oM 24 1, oBi 25 .lss 24 0]) (
 .cond (.t 25) (.seq (.g [oK 4 (-1)]) (
 .ret)) (.skip))))) (
 .g [oM 16 5, oBi 17 .add 16 1, oM 5 17])))
def e128x0 : Exits := [(.ret, [(4, .c kI)]), ((.exit 0), [(1, .c kI)])]
noncomputable def l128x0 (T : Table) (k : Nat) := loopN (evalC ⟨T, []⟩ k b128x0 (Ex × List AV)) [0, 1, 5] e128x0
def a128 : AFun := ⟨[.rd, .rd], false, [.t 4], (
 .seq (.g [oK 4 0]) (
 .seq (.g [oM 6 1, oM 7 0, oZ 8 7, oB 9 .sub 6 8, oM 1 9]) (
 .seq (.seq (.g [oM 10 1, oBi 11 .lss 10 0]) (
 .cond (.t 11) (.seq (.g [oK 4 (-1)]) (
 .ret)) (.skip))) (
 .seq (.seq (.g [oK 5 0]) (
 .block 0 (.loop [0, 1, 5] e128x0 b128x0))) (
 .seq (.g [oM 26 1, oM 4 26]) (
 .ret))))))⟩
theorem l128x0s (T : Table) (k n : Nat) (l3 : Rows) (n4 : Int) (n5 : Int) : l128x0 T k (n + 1) [(.fz 3 l3), (.v (.int .i64 n4)), (.v (.int .i64 n5))] = (
 bif (decide (n5 < (l3.length : Int))) then (
 tst (decide (0 ≤ n5)) (
 look l3 (Int.toNat n5) fun r6 =>
 cI .i64 r6 0 fun n7 =>
 cS r6 1 fun s8 =>
 cL 1 r6 2 fun l9 =>
 callT T 193 [(.g [(.v (.int .i64 n7)), (.v (.string s8)), (.s 1 l9)]), (.d (.v (.int .i64 n4)))] fun o10 =>
 oD o10.res fun d11 =>
 dI .i64 d11 fun n12 =>
 bif (decide (n12 < 0)) then (
 some (.ret, [(.v (.int .i64 (-1)))])) else (
 l128x0 T k n [(.fz 3 l3), (.v (.int .i64 n12)), (.v (.int .i64 (IntKind.wrap .i64 (n5 + 1))))]))) else (
 some ((.exit 0), [(.v (.int .i64 n4))]))) := by kernel_rfl
theorem a128q (T : Table) (k : Nat) (l1 : Rows) (n2 : Int) : evalF T k a128 [(.d (.s 3 l1)), (.d (.v (.int .i64 n2)))] = (
 bif (decide ((IntKind.wrap .i64 (n2 - (l1.length : Int))) < 0)) then (
 some ⟨(.d (.v (.int .i64 (-1)))), []⟩) else (
 aft (l128x0 T k k [(.fz 3 l1), (.v (.int .i64 (IntKind.wrap .i64 (n2 - (l1.length : Int))))), (.v (.int .i64 0))]) fun e13 ys14 =>
 bif e13.same .ret then (
 aV ys14 0 fun x15 =>
 aI .i64 x15 fun n16 =>
 some ⟨(.d (.v (.int .i64 n16))), []⟩) else (
 bif e13.same (.exit 0) then (
 aV ys14 0 fun x17 =>
 aI .i64 x17 fun n18 =>
 some ⟨(.d (.v (.int .i64 n18))), []⟩) else (
 none)))) := by kernel_rfl
/- loop.example/g00119/laws.szWeigh -/

def a194 : AFun := ⟨[.rd, .rd], false, [.t 4], (
 .seq (.g [oQ 2 (.box (.t 0)), oK 4 0]) (
 .seq (.g [oM 5 1, oF 6 0 2, oW 7 .s 6, oQ 8 (.len true (.t 7)), oB 9 .sub 5 8, oM 1 9]) (
 .seq (.seq (.g [oM 10 1, oBi 11 .lss 10 0]) (
 .cond (.t 11) (.seq (.g [oK 4 (-1)]) (
 .ret)) (.skip))) (
 .seq (.g [oM 12 1, oM 4 12]) (
 .ret)))))⟩

theorem a194q (T : Table) (k : Nat) (s1 : ByteArray) (n2 : Int) (n3 : Int) : evalF T k a194 [(.g [(.v (.string s1)), (.v (.int .i64 n2))]), (.d (.v (.int .i64 n3)))] = (
 bif (decide ((IntKind.wrap .i64 (n3 - (s1.size : Int))) < 0)) then (
 some ⟨(.d (.v (.int .i64 (-1)))), []⟩) else (
 some ⟨(.d (.v (.int .i64 (IntKind.wrap .i64 (n3 - (s1.size : Int)))))), []⟩)) := by kernel_rfl
/- loop.example/g00119/laws.szWeighS -/
def b129x0 : ACode := (
 .seq (.seq (.g [oM 12 5, oM 13 0, oZ 14 13, oB 15 .lss 12 14]) (
 .cond (.t 15) (.skip) (.exit 0))) (
 .seq (.block 1 (.seq (.g [oM 18 0, oM 19 5, oI 20 2 18 19, oL 21 [.s, kI] 20, oM 22 1, oC 23 194 [.c kI] [21, 22], oM 1 23]) (
 .seq (.g [oM 24 1, oBi 25 .lss 24 0]) (
 .cond (.t 25) (.seq (.g [oK 4 (-1)]) (
 .ret)) (.skip))))) (
 .g [oM 16 5, oBi 17 .add 16 1, oM 5 17])))
def e129x0 : Exits := [(.ret, [(4, .c kI)]), ((.exit 0), [(1, .c kI)])]
noncomputable def l129x0 (T : Table) (k : Nat) := loopN (evalC ⟨T, []⟩ k b129x0 (Ex × List AV)) [0, 1, 5] e129x0
def a129 : AFun := ⟨[.rd, .rd], false, [.t 4], (
 .seq (.g [oK 4 0]) (
 .seq (.g [oM 6 1, oM 7 0, oZ 8 7, oB 9 .sub 6 8, oM 1 9]) (
 .seq (.seq (.g [oM 10 1, oBi 11 .lss 10 0]) (
 .cond (.t 11) (.seq (.g [oK 4 (-1)]) (
 .ret)) (.skip))) (
 .seq (.seq (.g [oK 5 0]) (
 .block 0 (.loop [0, 1, 5] e129x0 b129x0))) (
 .seq (.g [oM 26 1, oM 4 26]) (
 .ret))))))⟩
theorem l129x0s (T : Table) (k n : Nat) (l3 : Rows) (n4 : Int) (n5 : Int) : l129x0 T k (n + 1) [(.fz 2 l3), (.v (.int .i64 n4)), (.v (.int .i64 n5))] = (
 bif (decide (n5 < (l3.length : Int))) then (
 tst (decide (0 ≤ n5)) (
 look l3 (Int.toNat n5) fun r6 =>
 cS r6 0 fun s7 =>
 cI .i64 r6 1 fun n8 =>
 callT T 194 [(.g [(.v (.string s7)), (.v (.int .i64 n8))]), (.d (.v (.int .i64 n4)))] fun o9 =>
 oD o9.res fun d10 =>
 dI .i64 d10 fun n11 =>
 bif (decide (n11 < 0)) then (
 some (.ret, [(.v (.int .i64 (-1)))])) else (
 l129x0 T k n [(.fz 2 l3), (.v (.int .i64 n11)), (.v (.int .i64 (IntKind.wrap .i64 (n5 + 1))))]))) else (
 some ((.exit 0), [(.v (.int .i64 n4))]))) := by kernel_rfl
theorem a129q (T : Table) (k : Nat) (l1 : Rows) (n2 : Int) : evalF T k a129 [(.d (.s 2 l1)), (.d (.v (.int .i64 n2)))] = (
 bif (decide ((IntKind.wrap .i64 (n2 - (l1.length : Int))) < 0)) then (
 some ⟨(.d (.v (.int .i64 (-1)))), []⟩) else (
 aft (l129x0 T k k [(.fz 2 l1), (.v (.int .i64 (IntKind.wrap .i64 (n2 - (l1.length : Int))))), (.v (.int .i64 0))]) fun e12 ys13 =>
 bif e12.same .ret then (
 aV ys13 0 fun x14 =>
 aI .i64 x14 fun n15 =>
 some ⟨(.d (.v (.int .i64 n15))), []⟩) else (
 bif e12.same (.exit 0) then (
 aV ys13 0 fun x16 =>
 aI .i64 x16 fun n17 =>
 some ⟨(.d (.v (.int .i64 n17))), []⟩) else (
 none)))) := by kernel_rfl
/- loop.example/g00119/laws.szWant -/

def a62 : AFun := ⟨[.rd, .rd], false, [.t 4], (
 .seq (.g [oQ 2 (.box (.t 0)), oK 4 0]) (
 .seq (.g [oF 5 1 2, oW 6 (.sl 3) 5, oM 7 1, oC 8 128 [.c kI] [6, 7], oM 1 8]) (
 .seq (.seq (.g [oM 9 1, oBi 10 .lss 9 0]) (
 .cond (.t 10) (.seq (.g [oK 4 (-1)]) (
 .ret)) (.skip))) (
 .seq (.g [oF 11 2 2, oW 12 (.sl 1) 11, oM 13 1, oC 14 31 [.c kI] [12, 13], oM 1 14]) (
 .seq (.seq (.g [oM 15 1, oBi 16 .lss 15 0]) (
 .cond (.t 16) (.seq (.g [oK 4 (-1)]) (
 .ret)) (.skip))) (
 .seq (.g [oF 17 3 2, oW 18 (.sl 2) 17, oM 19 1, oC 20 129 [.c kI] [18, 19], oM 1 20]) (
 .seq (.seq (.g [oM 21 1, oBi 22 .lss 21 0]) (
 .cond (.t 22) (.seq (.g [oK 4 (-1)]) (
 .ret)) (.skip))) (
 .seq (.g [oM 23 1, oM 4 23]) (
 .ret)))))))))⟩

theorem a62q (T : Table) (k : Nat) (n1 : Int) (l2 : Rows) (l3 : Rows) (l4 : Rows) (n5 : Int) : evalF T k a62 [(.g [(.v (.int .i64 n1)), (.s 3 l2), (.s 1 l3), (.s 2 l4)]), (.d (.v (.int .i64 n5)))] = (
 callT T 128 [(.d (.s 3 l2)), (.d (.v (.int .i64 n5)))] fun o6 =>
 oD o6.res fun d7 =>
 dI .i64 d7 fun n8 =>
 bif (decide (n8 < 0)) then (
 some ⟨(.d (.v (.int .i64 (-1)))), []⟩) else (
 callT T 31 [(.d (.s 1 l3)), (.d (.v (.int .i64 n8)))] fun o9 =>
 oD o9.res fun d10 =>
 dI .i64 d10 fun n11 =>
 bif (decide (n11 < 0)) then (
 some ⟨(.d (.v (.int .i64 (-1)))), []⟩) else (
 callT T 129 [(.d (.s 2 l4)), (.d (.v (.int .i64 n11)))] fun o12 =>
 oD o12.res fun d13 =>
 dI .i64 d13 fun n14 =>
 bif (decide (n14 < 0)) then (
 some ⟨(.d (.v (.int .i64 (-1)))), []⟩) else (
 some ⟨(.d (.v (.int .i64 n14))), []⟩)))) := by kernel_rfl
/- loop.example/g00119/laws.szValueS -/
def b130x0 : ACode := (
 .seq (.seq (.g [oM 12 5, oM 13 0, oZ 14 13, oB 15 .lss 12 14]) (
 .cond (.t 15) (.skip) (.exit 0))) (
 .seq (.block 1 (.seq (.g [oM 18 0, oM 19 5, oI 20 5 18 19, oL 21 [kI, .s, kI, (.sl 1), (.sl 5)] 20, oM 22 1, oC 23 63 [.c kI] [21, 22], oM 1 23]) (
 .seq (.g [oM 24 1, oBi 25 .lss 24 0]) (
 .cond (.t 25) (.seq (.g [oK 4 (-1)]) (
 .ret)) (.skip))))) (
 .g [oM 16 5, oBi 17 .add 16 1, oM 5 17])))
def e130x0 : Exits := [(.ret, [(4, .c kI)]), ((.exit 0), [(1, .c kI)])]
noncomputable def l130x0 (T : Table) (k : Nat) := loopN (evalC ⟨T, []⟩ k b130x0 (Ex × List AV)) [0, 1, 5] e130x0
def a130 : AFun := ⟨[.rd, .rd], false, [.t 4], (
 .seq (.g [oK 4 0]) (
 .seq (.g [oM 6 1, oM 7 0, oZ 8 7, oB 9 .sub 6 8, oM 1 9]) (
 .seq (.seq (.g [oM 10 1, oBi 11 .lss 10 0]) (
 .cond (.t 11) (.seq (.g [oK 4 (-1)]) (
 .ret)) (.skip))) (
 .seq (.seq (.g [oK 5 0]) (
 .block 0 (.loop [0, 1, 5] e130x0 b130x0))) (
 .seq (.g [oM 26 1, oM 4 26]) (
 .ret))))))⟩
theorem l130x0s (T : Table) (k n : Nat) (l3 : Rows) (n4 : Int) (n5 : Int) : l130x0 T k (n + 1) [(.fz 5 l3), (.v (.int .i64 n4)), (.v (.int .i64 n5))] = (
 bif (decide (n5 < (l3.length : Int))) then (
 tst (decide (0 ≤ n5)) (
 look l3 (Int.toNat n5) fun r6 =>
 cI .i64 r6 0 fun n7 =>
 cS r6 1 fun s8 =>
 cI .i64 r6 2 fun n9 =>
 cL 1 r6 3 fun l10 =>
 cL 5 r6 4 fun l11 =>
 callT T 63 [(.g [(.v (.int .i64 n7)), (.v (.string s8)), (.v (.int .i64 n9)), (.s 1 l10), (.s 5 l11)]), (.d (.v (.int .i64 n4)))] fun o12 =>
 oD o12.res fun d13 =>
 dI .i64 d13 fun n14 =>
 bif (decide (n14 < 0)) then (
 some (.ret, [(.v (.int .i64 (-1)))])) else (
 l130x0 T k n [(.fz 5 l3), (.v (.int .i64 n14)), (.v (.int .i64 (IntKind.wrap .i64 (n5 + 1))))]))) else (
 some ((.exit 0), [(.v (.int .i64 n4))]))) := by kernel_rfl
theorem a130q (T : Table) (k : Nat) (l1 : Rows) (n2 : Int) : evalF T k a130 [(.d (.s 5 l1)), (.d (.v (.int .i64 n2)))] = (
 bif (decide ((IntKind.wrap .i64 (n2 - (l1.length : Int))) < 0)) then (
 some ⟨(.d (.v (.int .i64 (-1)))), []⟩) else (
 aft (l130x0 T k k [(.fz 5 l1), (.v (.int .i64 (IntKind.wrap .i64 (n2 - (l1.length : Int))))), (.v (.int .i64 0))]) fun e15 ys16 =>
 bif e15.same .ret then (
 aV ys16 0 fun x17 =>
 aI .i64 x17 fun n18 =>
 some ⟨(.d (.v (.int .i64 n18))), []⟩) else (
 bif e15.same (.exit 0) then (
 aV ys16 0 fun x19 =>
 aI .i64 x19 fun n20 =>
 some ⟨(.d (.v (.int .i64 n20))), []⟩) else (
 none)))) := by kernel_rfl
/- loop.example/g00119/laws.szValue -/

def a63 : AFun := ⟨[.rd, .rd], false, [.t 4], (
 .seq (.g [oQ 2 (.box (.t 0)), oK 4 0]) (
 .seq (.g [oM 5 1, oF 6 1 2, oW 7 .s 6, oQ 8 (.len true (.t 7)), oB 9 .sub 5 8, oM 1 9]) (
 .seq (.seq (.g [oM 10 1, oBi 11 .lss 10 0]) (
 .cond (.t 11) (.seq (.g [oK 4 (-1)]) (
 .ret)) (.skip))) (
 .seq (.g [oF 12 3 2, oW 13 (.sl 1) 12, oM 14 1, oC 15 31 [.c kI] [13, 14], oM 1 15]) (
 .seq (.seq (.g [oM 16 1, oBi 17 .lss 16 0]) (
 .cond (.t 17) (.seq (.g [oK 4 (-1)]) (
 .ret)) (.skip))) (
 .seq (.g [oF 18 4 2, oW 19 (.sl 5) 18, oM 20 1, oC 21 130 [.c kI] [19, 20], oM 1 21]) (
 .seq (.seq (.g [oM 22 1, oBi 23 .lss 22 0]) (
 .cond (.t 23) (.seq (.g [oK 4 (-1)]) (
 .ret)) (.skip))) (
 .seq (.g [oM 24 1, oM 4 24]) (
 .ret)))))))))⟩

theorem a63q (T : Table) (k : Nat) (n1 : Int) (s2 : ByteArray) (n3 : Int) (l4 : Rows) (l5 : Rows) (n6 : Int) : evalF T k a63 [(.g [(.v (.int .i64 n1)), (.v (.string s2)), (.v (.int .i64 n3)), (.s 1 l4), (.s 5 l5)]), (.d (.v (.int .i64 n6)))] = (
 bif (decide ((IntKind.wrap .i64 (n6 - (s2.size : Int))) < 0)) then (
 some ⟨(.d (.v (.int .i64 (-1)))), []⟩) else (
 callT T 31 [(.d (.s 1 l4)), (.d (.v (.int .i64 (IntKind.wrap .i64 (n6 - (s2.size : Int))))))] fun o7 =>
 oD o7.res fun d8 =>
 dI .i64 d8 fun n9 =>
 bif (decide (n9 < 0)) then (
 some ⟨(.d (.v (.int .i64 (-1)))), []⟩) else (
 callT T 130 [(.d (.s 5 l5)), (.d (.v (.int .i64 n9)))] fun o10 =>
 oD o10.res fun d11 =>
 dI .i64 d11 fun n12 =>
 bif (decide (n12 < 0)) then (
 some ⟨(.d (.v (.int .i64 (-1)))), []⟩) else (
 some ⟨(.d (.v (.int .i64 n12))), []⟩)))) := by kernel_rfl
/- loop.example/g00119/laws.szOp -/

def a234 : AFun := ⟨[.rd, .rd], false, [.t 4], (
 .seq (.g [oQ 2 (.box (.t 0)), oK 4 0]) (
 .seq (.g [oF 5 1 2, oW 6 (.sl 1) 5, oM 7 1, oC 8 31 [.c kI] [6, 7], oM 1 8]) (
 .seq (.seq (.g [oM 9 1, oBi 10 .lss 9 0]) (
 .cond (.t 10) (.seq (.g [oK 4 (-1)]) (
 .ret)) (.skip))) (
 .seq (.g [oF 11 2 2, oL 12 [kI, .s, kI, (.sl 1), (.sl 5)] 11, oM 13 1, oC 14 63 [.c kI] [12, 13], oM 1 14]) (
 .seq (.seq (.g [oM 15 1, oBi 16 .lss 15 0]) (
 .cond (.t 16) (.seq (.g [oK 4 (-1)]) (
 .ret)) (.skip))) (
 .seq (.g [oM 17 1, oM 4 17]) (
 .ret)))))))⟩

theorem a234q (T : Table) (k : Nat) (n1 : Int) (l2 : Rows) (n3 : Int) (s4 : ByteArray) (n5 : Int) (l6 : Rows) (l7 : Rows) (n8 : Int) : evalF T k a234 [(.g [(.v (.int .i64 n1)), (.s 1 l2), (.v (.int .i64 n3)), (.v (.string s4)), (.v (.int .i64 n5)), (.s 1 l6), (.s 5 l7)]), (.d (.v (.int .i64 n8)))] = (
 callT T 31 [(.d (.s 1 l2)), (.d (.v (.int .i64 n8)))] fun o9 =>
 oD o9.res fun d10 =>
 dI .i64 d10 fun n11 =>
 bif (decide (n11 < 0)) then (
 some ⟨(.d (.v (.int .i64 (-1)))), []⟩) else (
 callT T 63 [(.g [(.v (.int .i64 n3)), (.v (.string s4)), (.v (.int .i64 n5)), (.s 1 l6), (.s 5 l7)]), (.d (.v (.int .i64 n11)))] fun o12 =>
 oD o12.res fun d13 =>
 dI .i64 d13 fun n14 =>
 bif (decide (n14 < 0)) then (
 some ⟨(.d (.v (.int .i64 (-1)))), []⟩) else (
 some ⟨(.d (.v (.int .i64 n14))), []⟩))) := by kernel_rfl
/- loop.example/g00119/laws.szOpS -/
def b195x0 : ACode := (
 .seq (.seq (.g [oM 12 5, oM 13 0, oZ 14 13, oB 15 .lss 12 14]) (
 .cond (.t 15) (.skip) (.exit 0))) (
 .seq (.block 1 (.seq (.g [oM 18 0, oM 19 5, oI 20 7 18 19, oL 21 [kI, (.sl 1), kI, .s, kI, (.sl 1), (.sl 5)] 20, oM 22 1, oC 23 234 [.c kI] [21, 22], oM 1 23]) (
 .seq (.g [oM 24 1, oBi 25 .lss 24 0]) (
 .cond (.t 25) (.seq (.g [oK 4 (-1)]) (
 .ret)) (.skip))))) (
 .g [oM 16 5, oBi 17 .add 16 1, oM 5 17])))
def e195x0 : Exits := [(.ret, [(4, .c kI)]), ((.exit 0), [(1, .c kI)])]
noncomputable def l195x0 (T : Table) (k : Nat) := loopN (evalC ⟨T, []⟩ k b195x0 (Ex × List AV)) [0, 1, 5] e195x0
def a195 : AFun := ⟨[.rd, .rd], false, [.t 4], (
 .seq (.g [oK 4 0]) (
 .seq (.g [oM 6 1, oM 7 0, oZ 8 7, oB 9 .sub 6 8, oM 1 9]) (
 .seq (.seq (.g [oM 10 1, oBi 11 .lss 10 0]) (
 .cond (.t 11) (.seq (.g [oK 4 (-1)]) (
 .ret)) (.skip))) (
 .seq (.seq (.g [oK 5 0]) (
 .block 0 (.loop [0, 1, 5] e195x0 b195x0))) (
 .seq (.g [oM 26 1, oM 4 26]) (
 .ret))))))⟩
theorem l195x0s (T : Table) (k n : Nat) (l3 : Rows) (n4 : Int) (n5 : Int) : l195x0 T k (n + 1) [(.fz 7 l3), (.v (.int .i64 n4)), (.v (.int .i64 n5))] = (
 bif (decide (n5 < (l3.length : Int))) then (
 tst (decide (0 ≤ n5)) (
 look l3 (Int.toNat n5) fun r6 =>
 cI .i64 r6 0 fun n7 =>
 cL 1 r6 1 fun l8 =>
 cI .i64 r6 2 fun n9 =>
 cS r6 3 fun s10 =>
 cI .i64 r6 4 fun n11 =>
 cL 1 r6 5 fun l12 =>
 cL 5 r6 6 fun l13 =>
 callT T 234 [(.g [(.v (.int .i64 n7)), (.s 1 l8), (.v (.int .i64 n9)), (.v (.string s10)), (.v (.int .i64 n11)), (.s 1 l12), (.s 5 l13)]), (.d (.v (.int .i64 n4)))] fun o14 =>
 oD o14.res fun d15 =>
 dI .i64 d15 fun n16 =>
 bif (decide (n16 < 0)) then (
 some (.ret, [(.v (.int .i64 (-1)))])) else (
 l195x0 T k n [(.fz 7 l3), (.v (.int .i64 n16)), (.v (.int .i64 (IntKind.wrap .i64 (n5 + 1))))]))) else (
 some ((.exit 0), [(.v (.int .i64 n4))]))) := by kernel_rfl
theorem a195q (T : Table) (k : Nat) (l1 : Rows) (n2 : Int) : evalF T k a195 [(.d (.s 7 l1)), (.d (.v (.int .i64 n2)))] = (
 bif (decide ((IntKind.wrap .i64 (n2 - (l1.length : Int))) < 0)) then (
 some ⟨(.d (.v (.int .i64 (-1)))), []⟩) else (
 aft (l195x0 T k k [(.fz 7 l1), (.v (.int .i64 (IntKind.wrap .i64 (n2 - (l1.length : Int))))), (.v (.int .i64 0))]) fun e17 ys18 =>
 bif e17.same .ret then (
 aV ys18 0 fun x19 =>
 aI .i64 x19 fun n20 =>
 some ⟨(.d (.v (.int .i64 n20))), []⟩) else (
 bif e17.same (.exit 0) then (
 aV ys18 0 fun x21 =>
 aI .i64 x21 fun n22 =>
 some ⟨(.d (.v (.int .i64 n22))), []⟩) else (
 none)))) := by kernel_rfl
/- loop.example/g00119/laws.szOver -/

def a131 : AFun := ⟨[.rd, .rd], false, [.t 4], (
 .seq (.g [oQ 2 (.box (.t 0)), oK 4 0]) (
 .seq (.g [oM 5 1, oF 6 0 2, oW 7 .s 6, oQ 8 (.len true (.t 7)), oB 9 .sub 5 8, oM 1 9]) (
 .seq (.seq (.g [oM 10 1, oBi 11 .lss 10 0]) (
 .cond (.t 11) (.seq (.g [oK 4 (-1)]) (
 .ret)) (.skip))) (
 .seq (.g [oF 12 1 2, oW 13 (.sl 7) 12, oM 14 1, oC 15 195 [.c kI] [13, 14], oM 1 15]) (
 .seq (.seq (.g [oM 16 1, oBi 17 .lss 16 0]) (
 .cond (.t 17) (.seq (.g [oK 4 (-1)]) (
 .ret)) (.skip))) (
 .seq (.g [oM 18 1, oM 4 18]) (
 .ret)))))))⟩

theorem a131q (T : Table) (k : Nat) (s1 : ByteArray) (l2 : Rows) (n3 : Int) : evalF T k a131 [(.g [(.v (.string s1)), (.s 7 l2)]), (.d (.v (.int .i64 n3)))] = (
 bif (decide ((IntKind.wrap .i64 (n3 - (s1.size : Int))) < 0)) then (
 some ⟨(.d (.v (.int .i64 (-1)))), []⟩) else (
 callT T 195 [(.d (.s 7 l2)), (.d (.v (.int .i64 (IntKind.wrap .i64 (n3 - (s1.size : Int))))))] fun o4 =>
 oD o4.res fun d5 =>
 dI .i64 d5 fun n6 =>
 bif (decide (n6 < 0)) then (
 some ⟨(.d (.v (.int .i64 (-1)))), []⟩) else (
 some ⟨(.d (.v (.int .i64 n6))), []⟩))) := by kernel_rfl
/- loop.example/g00119/laws.szOverS -/
def b64x0 : ACode := (
 .seq (.seq (.g [oM 12 5, oM 13 0, oZ 14 13, oB 15 .lss 12 14]) (
 .cond (.t 15) (.skip) (.exit 0))) (
 .seq (.block 1 (.seq (.g [oM 18 0, oM 19 5, oI 20 2 18 19, oL 21 [.s, (.sl 7)] 20, oM 22 1, oC 23 131 [.c kI] [21, 22], oM 1 23]) (
 .seq (.g [oM 24 1, oBi 25 .lss 24 0]) (
 .cond (.t 25) (.seq (.g [oK 4 (-1)]) (
 .ret)) (.skip))))) (
 .g [oM 16 5, oBi 17 .add 16 1, oM 5 17])))
def e64x0 : Exits := [(.ret, [(4, .c kI)]), ((.exit 0), [(1, .c kI)])]
noncomputable def l64x0 (T : Table) (k : Nat) := loopN (evalC ⟨T, []⟩ k b64x0 (Ex × List AV)) [0, 1, 5] e64x0
def a64 : AFun := ⟨[.rd, .rd], false, [.t 4], (
 .seq (.g [oK 4 0]) (
 .seq (.g [oM 6 1, oM 7 0, oZ 8 7, oB 9 .sub 6 8, oM 1 9]) (
 .seq (.seq (.g [oM 10 1, oBi 11 .lss 10 0]) (
 .cond (.t 11) (.seq (.g [oK 4 (-1)]) (
 .ret)) (.skip))) (
 .seq (.seq (.g [oK 5 0]) (
 .block 0 (.loop [0, 1, 5] e64x0 b64x0))) (
 .seq (.g [oM 26 1, oM 4 26]) (
 .ret))))))⟩
theorem l64x0s (T : Table) (k n : Nat) (l3 : Rows) (n4 : Int) (n5 : Int) : l64x0 T k (n + 1) [(.fz 2 l3), (.v (.int .i64 n4)), (.v (.int .i64 n5))] = (
 bif (decide (n5 < (l3.length : Int))) then (
 tst (decide (0 ≤ n5)) (
 look l3 (Int.toNat n5) fun r6 =>
 cS r6 0 fun s7 =>
 cL 7 r6 1 fun l8 =>
 callT T 131 [(.g [(.v (.string s7)), (.s 7 l8)]), (.d (.v (.int .i64 n4)))] fun o9 =>
 oD o9.res fun d10 =>
 dI .i64 d10 fun n11 =>
 bif (decide (n11 < 0)) then (
 some (.ret, [(.v (.int .i64 (-1)))])) else (
 l64x0 T k n [(.fz 2 l3), (.v (.int .i64 n11)), (.v (.int .i64 (IntKind.wrap .i64 (n5 + 1))))]))) else (
 some ((.exit 0), [(.v (.int .i64 n4))]))) := by kernel_rfl
theorem a64q (T : Table) (k : Nat) (l1 : Rows) (n2 : Int) : evalF T k a64 [(.d (.s 2 l1)), (.d (.v (.int .i64 n2)))] = (
 bif (decide ((IntKind.wrap .i64 (n2 - (l1.length : Int))) < 0)) then (
 some ⟨(.d (.v (.int .i64 (-1)))), []⟩) else (
 aft (l64x0 T k k [(.fz 2 l1), (.v (.int .i64 (IntKind.wrap .i64 (n2 - (l1.length : Int))))), (.v (.int .i64 0))]) fun e12 ys13 =>
 bif e12.same .ret then (
 aV ys13 0 fun x14 =>
 aI .i64 x14 fun n15 =>
 some ⟨(.d (.v (.int .i64 n15))), []⟩) else (
 bif e12.same (.exit 0) then (
 aV ys13 0 fun x16 =>
 aI .i64 x16 fun n17 =>
 some ⟨(.d (.v (.int .i64 n17))), []⟩) else (
 none)))) := by kernel_rfl
/- loop.example/g00119/laws.szJob -/

def a111 : AFun := ⟨[.rd, .rd], false, [.t 4], (
 .seq (.g [oQ 2 (.box (.t 0)), oK 4 0]) (
 .seq (.g [oM 5 1, oF 6 1 2, oW 7 .s 6, oQ 8 (.len true (.t 7)), oB 9 .sub 5 8, oM 1 9]) (
 .seq (.seq (.g [oM 10 1, oBi 11 .lss 10 0]) (
 .cond (.t 11) (.seq (.g [oK 4 (-1)]) (
 .ret)) (.skip))) (
 .seq (.g [oF 12 2 2, oL 13 [kI, (.sl 3), (.sl 1), (.sl 2)] 12, oM 14 1, oC 15 62 [.c kI] [13, 14], oM 1 15]) (
 .seq (.seq (.g [oM 16 1, oBi 17 .lss 16 0]) (
 .cond (.t 17) (.seq (.g [oK 4 (-1)]) (
 .ret)) (.skip))) (
 .seq (.g [oF 18 6 2, oL 19 [kI, .s, kI, (.sl 1), (.sl 5)] 18, oM 20 1, oC 21 63 [.c kI] [19, 20], oM 1 21]) (
 .seq (.seq (.g [oM 22 1, oBi 23 .lss 22 0]) (
 .cond (.t 23) (.seq (.g [oK 4 (-1)]) (
 .ret)) (.skip))) (
 .seq (.g [oF 24 11 2, oW 25 (.sl 2) 24, oM 26 1, oC 27 64 [.c kI] [25, 26], oM 1 27]) (
 .seq (.seq (.g [oM 28 1, oBi 29 .lss 28 0]) (
 .cond (.t 29) (.seq (.g [oK 4 (-1)]) (
 .ret)) (.skip))) (
 .seq (.g [oM 30 1, oM 4 30]) (
 .ret)))))))))))⟩

theorem a111q (T : Table) (k : Nat) (n1 : Int) (s2 : ByteArray) (n3 : Int) (l4 : Rows) (l5 : Rows) (l6 : Rows) (n7 : Int) (s8 : ByteArray) (n9 : Int) (l10 : Rows) (l11 : Rows) (l12 : Rows) (b13 : Bool) (n14 : Int) : evalF T k a111 [(.g [(.v (.int .i64 n1)), (.v (.string s2)), (.v (.int .i64 n3)), (.s 3 l4), (.s 1 l5), (.s 2 l6), (.v (.int .i64 n7)), (.v (.string s8)), (.v (.int .i64 n9)), (.s 1 l10), (.s 5 l11), (.s 2 l12), (.v (.bool b13))]), (.d (.v (.int .i64 n14)))] = (
 bif (decide ((IntKind.wrap .i64 (n14 - (s2.size : Int))) < 0)) then (
 some ⟨(.d (.v (.int .i64 (-1)))), []⟩) else (
 callT T 62 [(.g [(.v (.int .i64 n3)), (.s 3 l4), (.s 1 l5), (.s 2 l6)]), (.d (.v (.int .i64 (IntKind.wrap .i64 (n14 - (s2.size : Int))))))] fun o15 =>
 oD o15.res fun d16 =>
 dI .i64 d16 fun n17 =>
 bif (decide (n17 < 0)) then (
 some ⟨(.d (.v (.int .i64 (-1)))), []⟩) else (
 callT T 63 [(.g [(.v (.int .i64 n7)), (.v (.string s8)), (.v (.int .i64 n9)), (.s 1 l10), (.s 5 l11)]), (.d (.v (.int .i64 n17)))] fun o18 =>
 oD o18.res fun d19 =>
 dI .i64 d19 fun n20 =>
 bif (decide (n20 < 0)) then (
 some ⟨(.d (.v (.int .i64 (-1)))), []⟩) else (
 callT T 64 [(.d (.s 2 l12)), (.d (.v (.int .i64 n20)))] fun o21 =>
 oD o21.res fun d22 =>
 dI .i64 d22 fun n23 =>
 bif (decide (n23 < 0)) then (
 some ⟨(.d (.v (.int .i64 (-1)))), []⟩) else (
 some ⟨(.d (.v (.int .i64 n23))), []⟩))))) := by kernel_rfl
/- loop.example/g00119/laws.szJobS -/
def b44x0 : ACode := (
 .seq (.seq (.g [oM 12 5, oM 13 0, oZ 14 13, oB 15 .lss 12 14]) (
 .cond (.t 15) (.skip) (.exit 0))) (
 .seq (.block 1 (.seq (.g [oM 18 0, oM 19 5, oI 20 13 18 19, oL 21 [kI, .s, kI, (.sl 3), (.sl 1), (.sl 2), kI, .s, kI, (.sl 1), (.sl 5), (.sl 2), .b] 20, oM 22 1, oC 23 111 [.c kI] [21, 22], oM 1 23]) (
 .seq (.g [oM 24 1, oBi 25 .lss 24 0]) (
 .cond (.t 25) (.seq (.g [oK 4 (-1)]) (
 .ret)) (.skip))))) (
 .g [oM 16 5, oBi 17 .add 16 1, oM 5 17])))
def e44x0 : Exits := [(.ret, [(4, .c kI)]), ((.exit 0), [(1, .c kI)])]
noncomputable def l44x0 (T : Table) (k : Nat) := loopN (evalC ⟨T, []⟩ k b44x0 (Ex × List AV)) [0, 1, 5] e44x0
def a44 : AFun := ⟨[.rd, .rd], false, [.t 4], (
 .seq (.g [oK 4 0]) (
 .seq (.g [oM 6 1, oM 7 0, oZ 8 7, oB 9 .sub 6 8, oM 1 9]) (
 .seq (.seq (.g [oM 10 1, oBi 11 .lss 10 0]) (
 .cond (.t 11) (.seq (.g [oK 4 (-1)]) (
 .ret)) (.skip))) (
 .seq (.seq (.g [oK 5 0]) (
 .block 0 (.loop [0, 1, 5] e44x0 b44x0))) (
 .seq (.g [oM 26 1, oM 4 26]) (
 .ret))))))⟩
theorem l44x0s (T : Table) (k n : Nat) (l3 : Rows) (n4 : Int) (n5 : Int) : l44x0 T k (n + 1) [(.fz 13 l3), (.v (.int .i64 n4)), (.v (.int .i64 n5))] = (
 bif (decide (n5 < (l3.length : Int))) then (
 tst (decide (0 ≤ n5)) (
 look l3 (Int.toNat n5) fun r6 =>
 cI .i64 r6 0 fun n7 =>
 cS r6 1 fun s8 =>
 cI .i64 r6 2 fun n9 =>
 cL 3 r6 3 fun l10 =>
 cL 1 r6 4 fun l11 =>
 cL 2 r6 5 fun l12 =>
 cI .i64 r6 6 fun n13 =>
 cS r6 7 fun s14 =>
 cI .i64 r6 8 fun n15 =>
 cL 1 r6 9 fun l16 =>
 cL 5 r6 10 fun l17 =>
 cL 2 r6 11 fun l18 =>
 cB r6 12 fun b19 =>
 callT T 111 [(.g [(.v (.int .i64 n7)), (.v (.string s8)), (.v (.int .i64 n9)), (.s 3 l10), (.s 1 l11), (.s 2 l12), (.v (.int .i64 n13)), (.v (.string s14)), (.v (.int .i64 n15)), (.s 1 l16), (.s 5 l17), (.s 2 l18), (.v (.bool b19))]), (.d (.v (.int .i64 n4)))] fun o20 =>
 oD o20.res fun d21 =>
 dI .i64 d21 fun n22 =>
 bif (decide (n22 < 0)) then (
 some (.ret, [(.v (.int .i64 (-1)))])) else (
 l44x0 T k n [(.fz 13 l3), (.v (.int .i64 n22)), (.v (.int .i64 (IntKind.wrap .i64 (n5 + 1))))]))) else (
 some ((.exit 0), [(.v (.int .i64 n4))]))) := by kernel_rfl
theorem a44q (T : Table) (k : Nat) (l1 : Rows) (n2 : Int) : evalF T k a44 [(.d (.s 13 l1)), (.d (.v (.int .i64 n2)))] = (
 bif (decide ((IntKind.wrap .i64 (n2 - (l1.length : Int))) < 0)) then (
 some ⟨(.d (.v (.int .i64 (-1)))), []⟩) else (
 aft (l44x0 T k k [(.fz 13 l1), (.v (.int .i64 (IntKind.wrap .i64 (n2 - (l1.length : Int))))), (.v (.int .i64 0))]) fun e23 ys24 =>
 bif e23.same .ret then (
 aV ys24 0 fun x25 =>
 aI .i64 x25 fun n26 =>
 some ⟨(.d (.v (.int .i64 n26))), []⟩) else (
 bif e23.same (.exit 0) then (
 aV ys24 0 fun x27 =>
 aI .i64 x27 fun n28 =>
 some ⟨(.d (.v (.int .i64 n28))), []⟩) else (
 none)))) := by kernel_rfl
/- loop.example/g00119/laws.szLabel -/

def a196 : AFun := ⟨[.rd, .rd], false, [.t 4], (
 .seq (.g [oQ 2 (.box (.t 0)), oK 4 0]) (
 .seq (.g [oM 5 1, oF 6 0 2, oW 7 .s 6, oQ 8 (.len true (.t 7)), oB 9 .sub 5 8, oM 1 9]) (
 .seq (.seq (.g [oM 10 1, oBi 11 .lss 10 0]) (
 .cond (.t 11) (.seq (.g [oK 4 (-1)]) (
 .ret)) (.skip))) (
 .seq (.g [oM 12 1, oF 13 1 2, oW 14 .s 13, oQ 15 (.len true (.t 14)), oB 16 .sub 12 15, oM 1 16]) (
 .seq (.seq (.g [oM 17 1, oBi 18 .lss 17 0]) (
 .cond (.t 18) (.seq (.g [oK 4 (-1)]) (
 .ret)) (.skip))) (
 .seq (.g [oM 19 1, oM 4 19]) (
 .ret)))))))⟩

theorem a196q (T : Table) (k : Nat) (s1 : ByteArray) (s2 : ByteArray) (n3 : Int) : evalF T k a196 [(.g [(.v (.string s1)), (.v (.string s2))]), (.d (.v (.int .i64 n3)))] = (
 bif (decide ((IntKind.wrap .i64 (n3 - (s1.size : Int))) < 0)) then (
 some ⟨(.d (.v (.int .i64 (-1)))), []⟩) else (
 bif (decide ((IntKind.wrap .i64 ((IntKind.wrap .i64 (n3 - (s1.size : Int))) - (s2.size : Int))) < 0)) then (
 some ⟨(.d (.v (.int .i64 (-1)))), []⟩) else (
 some ⟨(.d (.v (.int .i64 (IntKind.wrap .i64 ((IntKind.wrap .i64 (n3 - (s1.size : Int))) - (s2.size : Int)))))), []⟩))) := by kernel_rfl
/- loop.example/g00119/laws.szLabelS -/
def b132x0 : ACode := (
 .seq (.seq (.g [oM 12 5, oM 13 0, oZ 14 13, oB 15 .lss 12 14]) (
 .cond (.t 15) (.skip) (.exit 0))) (
 .seq (.block 1 (.seq (.g [oM 18 0, oM 19 5, oI 20 2 18 19, oL 21 [.s, .s] 20, oM 22 1, oC 23 196 [.c kI] [21, 22], oM 1 23]) (
 .seq (.g [oM 24 1, oBi 25 .lss 24 0]) (
 .cond (.t 25) (.seq (.g [oK 4 (-1)]) (
 .ret)) (.skip))))) (
 .g [oM 16 5, oBi 17 .add 16 1, oM 5 17])))
def e132x0 : Exits := [(.ret, [(4, .c kI)]), ((.exit 0), [(1, .c kI)])]
noncomputable def l132x0 (T : Table) (k : Nat) := loopN (evalC ⟨T, []⟩ k b132x0 (Ex × List AV)) [0, 1, 5] e132x0
def a132 : AFun := ⟨[.rd, .rd], false, [.t 4], (
 .seq (.g [oK 4 0]) (
 .seq (.g [oM 6 1, oM 7 0, oZ 8 7, oB 9 .sub 6 8, oM 1 9]) (
 .seq (.seq (.g [oM 10 1, oBi 11 .lss 10 0]) (
 .cond (.t 11) (.seq (.g [oK 4 (-1)]) (
 .ret)) (.skip))) (
 .seq (.seq (.g [oK 5 0]) (
 .block 0 (.loop [0, 1, 5] e132x0 b132x0))) (
 .seq (.g [oM 26 1, oM 4 26]) (
 .ret))))))⟩
theorem l132x0s (T : Table) (k n : Nat) (l3 : Rows) (n4 : Int) (n5 : Int) : l132x0 T k (n + 1) [(.fz 2 l3), (.v (.int .i64 n4)), (.v (.int .i64 n5))] = (
 bif (decide (n5 < (l3.length : Int))) then (
 tst (decide (0 ≤ n5)) (
 look l3 (Int.toNat n5) fun r6 =>
 cS r6 0 fun s7 =>
 cS r6 1 fun s8 =>
 callT T 196 [(.g [(.v (.string s7)), (.v (.string s8))]), (.d (.v (.int .i64 n4)))] fun o9 =>
 oD o9.res fun d10 =>
 dI .i64 d10 fun n11 =>
 bif (decide (n11 < 0)) then (
 some (.ret, [(.v (.int .i64 (-1)))])) else (
 l132x0 T k n [(.fz 2 l3), (.v (.int .i64 n11)), (.v (.int .i64 (IntKind.wrap .i64 (n5 + 1))))]))) else (
 some ((.exit 0), [(.v (.int .i64 n4))]))) := by kernel_rfl
theorem a132q (T : Table) (k : Nat) (l1 : Rows) (n2 : Int) : evalF T k a132 [(.d (.s 2 l1)), (.d (.v (.int .i64 n2)))] = (
 bif (decide ((IntKind.wrap .i64 (n2 - (l1.length : Int))) < 0)) then (
 some ⟨(.d (.v (.int .i64 (-1)))), []⟩) else (
 aft (l132x0 T k k [(.fz 2 l1), (.v (.int .i64 (IntKind.wrap .i64 (n2 - (l1.length : Int))))), (.v (.int .i64 0))]) fun e12 ys13 =>
 bif e12.same .ret then (
 aV ys13 0 fun x14 =>
 aI .i64 x14 fun n15 =>
 some ⟨(.d (.v (.int .i64 n15))), []⟩) else (
 bif e12.same (.exit 0) then (
 aV ys13 0 fun x16 =>
 aI .i64 x16 fun n17 =>
 some ⟨(.d (.v (.int .i64 n17))), []⟩) else (
 none)))) := by kernel_rfl
/- loop.example/g00119/laws.szIsland -/

def a65 : AFun := ⟨[.rd, .rd], false, [.t 4], (
 .seq (.g [oQ 2 (.box (.t 0)), oK 4 0]) (
 .seq (.g [oM 5 1, oF 6 0 2, oW 7 .s 6, oQ 8 (.len true (.t 7)), oB 9 .sub 5 8, oM 1 9]) (
 .seq (.seq (.g [oM 10 1, oBi 11 .lss 10 0]) (
 .cond (.t 11) (.seq (.g [oK 4 (-1)]) (
 .ret)) (.skip))) (
 .seq (.g [oF 12 1 2, oW 13 (.sl 2) 12, oM 14 1, oC 15 132 [.c kI] [13, 14], oM 1 15]) (
 .seq (.seq (.g [oM 16 1, oBi 17 .lss 16 0]) (
 .cond (.t 17) (.seq (.g [oK 4 (-1)]) (
 .ret)) (.skip))) (
 .seq (.g [oF 18 2 2, oW 19 (.sl 1) 18, oM 20 1, oC 21 31 [.c kI] [19, 20], oM 1 21]) (
 .seq (.seq (.g [oM 22 1, oBi 23 .lss 22 0]) (
 .cond (.t 23) (.seq (.g [oK 4 (-1)]) (
 .ret)) (.skip))) (
 .seq (.g [oM 24 1, oM 4 24]) (
 .ret)))))))))⟩

theorem a65q (T : Table) (k : Nat) (s1 : ByteArray) (l2 : Rows) (l3 : Rows) (n4 : Int) (n5 : Int) : evalF T k a65 [(.g [(.v (.string s1)), (.s 2 l2), (.s 1 l3), (.v (.int .i64 n4))]), (.d (.v (.int .i64 n5)))] = (
 bif (decide ((IntKind.wrap .i64 (n5 - (s1.size : Int))) < 0)) then (
 some ⟨(.d (.v (.int .i64 (-1)))), []⟩) else (
 callT T 132 [(.d (.s 2 l2)), (.d (.v (.int .i64 (IntKind.wrap .i64 (n5 - (s1.size : Int))))))] fun o6 =>
 oD o6.res fun d7 =>
 dI .i64 d7 fun n8 =>
 bif (decide (n8 < 0)) then (
 some ⟨(.d (.v (.int .i64 (-1)))), []⟩) else (
 callT T 31 [(.d (.s 1 l3)), (.d (.v (.int .i64 n8)))] fun o9 =>
 oD o9.res fun d10 =>
 dI .i64 d10 fun n11 =>
 bif (decide (n11 < 0)) then (
 some ⟨(.d (.v (.int .i64 (-1)))), []⟩) else (
 some ⟨(.d (.v (.int .i64 n11))), []⟩)))) := by kernel_rfl
/- loop.example/g00119/laws.szPost -/

def a112 : AFun := ⟨[.rd, .rd], false, [.t 4], (
 .seq (.g [oQ 2 (.box (.t 0)), oK 4 0]) (
 .seq (.g [oF 5 0 2, oL 6 [.s, (.sl 2), (.sl 1), kI] 5, oM 7 1, oC 8 65 [.c kI] [6, 7], oM 1 8]) (
 .seq (.seq (.g [oM 9 1, oBi 10 .lss 9 0]) (
 .cond (.t 10) (.seq (.g [oK 4 (-1)]) (
 .ret)) (.skip))) (
 .seq (.g [oM 11 1, oM 4 11]) (
 .ret)))))⟩

theorem a112q (T : Table) (k : Nat) (s1 : ByteArray) (l2 : Rows) (l3 : Rows) (n4 : Int) (n5 : Int) (n6 : Int) (n7 : Int) : evalF T k a112 [(.g [(.v (.string s1)), (.s 2 l2), (.s 1 l3), (.v (.int .i64 n4)), (.v (.int .i64 n5)), (.v (.int .i64 n6))]), (.d (.v (.int .i64 n7)))] = (
 callT T 65 [(.g [(.v (.string s1)), (.s 2 l2), (.s 1 l3), (.v (.int .i64 n4))]), (.d (.v (.int .i64 n7)))] fun o8 =>
 oD o8.res fun d9 =>
 dI .i64 d9 fun n10 =>
 bif (decide (n10 < 0)) then (
 some ⟨(.d (.v (.int .i64 (-1)))), []⟩) else (
 some ⟨(.d (.v (.int .i64 n10))), []⟩)) := by kernel_rfl
/- loop.example/g00119/laws.szPostS -/
def b45x0 : ACode := (
 .seq (.seq (.g [oM 12 5, oM 13 0, oZ 14 13, oB 15 .lss 12 14]) (
 .cond (.t 15) (.skip) (.exit 0))) (
 .seq (.block 1 (.seq (.g [oM 18 0, oM 19 5, oI 20 6 18 19, oL 21 [.s, (.sl 2), (.sl 1), kI, kI, kI] 20, oM 22 1, oC 23 112 [.c kI] [21, 22], oM 1 23]) (
 .seq (.g [oM 24 1, oBi 25 .lss 24 0]) (
 .cond (.t 25) (.seq (.g [oK 4 (-1)]) (
 .ret)) (.skip))))) (
 .g [oM 16 5, oBi 17 .add 16 1, oM 5 17])))
def e45x0 : Exits := [(.ret, [(4, .c kI)]), ((.exit 0), [(1, .c kI)])]
noncomputable def l45x0 (T : Table) (k : Nat) := loopN (evalC ⟨T, []⟩ k b45x0 (Ex × List AV)) [0, 1, 5] e45x0
def a45 : AFun := ⟨[.rd, .rd], false, [.t 4], (
 .seq (.g [oK 4 0]) (
 .seq (.g [oM 6 1, oM 7 0, oZ 8 7, oB 9 .sub 6 8, oM 1 9]) (
 .seq (.seq (.g [oM 10 1, oBi 11 .lss 10 0]) (
 .cond (.t 11) (.seq (.g [oK 4 (-1)]) (
 .ret)) (.skip))) (
 .seq (.seq (.g [oK 5 0]) (
 .block 0 (.loop [0, 1, 5] e45x0 b45x0))) (
 .seq (.g [oM 26 1, oM 4 26]) (
 .ret))))))⟩
theorem l45x0s (T : Table) (k n : Nat) (l3 : Rows) (n4 : Int) (n5 : Int) : l45x0 T k (n + 1) [(.fz 6 l3), (.v (.int .i64 n4)), (.v (.int .i64 n5))] = (
 bif (decide (n5 < (l3.length : Int))) then (
 tst (decide (0 ≤ n5)) (
 look l3 (Int.toNat n5) fun r6 =>
 cS r6 0 fun s7 =>
 cL 2 r6 1 fun l8 =>
 cL 1 r6 2 fun l9 =>
 cI .i64 r6 3 fun n10 =>
 cI .i64 r6 4 fun n11 =>
 cI .i64 r6 5 fun n12 =>
 callT T 112 [(.g [(.v (.string s7)), (.s 2 l8), (.s 1 l9), (.v (.int .i64 n10)), (.v (.int .i64 n11)), (.v (.int .i64 n12))]), (.d (.v (.int .i64 n4)))] fun o13 =>
 oD o13.res fun d14 =>
 dI .i64 d14 fun n15 =>
 bif (decide (n15 < 0)) then (
 some (.ret, [(.v (.int .i64 (-1)))])) else (
 l45x0 T k n [(.fz 6 l3), (.v (.int .i64 n15)), (.v (.int .i64 (IntKind.wrap .i64 (n5 + 1))))]))) else (
 some ((.exit 0), [(.v (.int .i64 n4))]))) := by kernel_rfl
theorem a45q (T : Table) (k : Nat) (l1 : Rows) (n2 : Int) : evalF T k a45 [(.d (.s 6 l1)), (.d (.v (.int .i64 n2)))] = (
 bif (decide ((IntKind.wrap .i64 (n2 - (l1.length : Int))) < 0)) then (
 some ⟨(.d (.v (.int .i64 (-1)))), []⟩) else (
 aft (l45x0 T k k [(.fz 6 l1), (.v (.int .i64 (IntKind.wrap .i64 (n2 - (l1.length : Int))))), (.v (.int .i64 0))]) fun e16 ys17 =>
 bif e16.same .ret then (
 aV ys17 0 fun x18 =>
 aI .i64 x18 fun n19 =>
 some ⟨(.d (.v (.int .i64 n19))), []⟩) else (
 bif e16.same (.exit 0) then (
 aV ys17 0 fun x20 =>
 aI .i64 x20 fun n21 =>
 some ⟨(.d (.v (.int .i64 n21))), []⟩) else (
 none)))) := by kernel_rfl
/- loop.example/g00119/laws.szHold -/

def a113 : AFun := ⟨[.rd, .rd], false, [.t 4], (
 .seq (.g [oQ 2 (.box (.t 0)), oK 4 0]) (
 .seq (.g [oM 5 1, oF 6 1 2, oW 7 .s 6, oQ 8 (.len true (.t 7)), oB 9 .sub 5 8, oM 1 9]) (
 .seq (.seq (.g [oM 10 1, oBi 11 .lss 10 0]) (
 .cond (.t 11) (.seq (.g [oK 4 (-1)]) (
 .ret)) (.skip))) (
 .seq (.g [oM 12 1, oM 4 12]) (
 .ret)))))⟩

theorem a113q (T : Table) (k : Nat) (n1 : Int) (s2 : ByteArray) (n3 : Int) (n4 : Int) (n5 : Int) (n6 : Int) : evalF T k a113 [(.g [(.v (.int .i64 n1)), (.v (.string s2)), (.v (.int .i64 n3)), (.v (.int .i64 n4)), (.v (.int .i64 n5))]), (.d (.v (.int .i64 n6)))] = (
 bif (decide ((IntKind.wrap .i64 (n6 - (s2.size : Int))) < 0)) then (
 some ⟨(.d (.v (.int .i64 (-1)))), []⟩) else (
 some ⟨(.d (.v (.int .i64 (IntKind.wrap .i64 (n6 - (s2.size : Int)))))), []⟩)) := by kernel_rfl
/- loop.example/g00119/laws.szHoldS -/
def b46x0 : ACode := (
 .seq (.seq (.g [oM 12 5, oM 13 0, oZ 14 13, oB 15 .lss 12 14]) (
 .cond (.t 15) (.skip) (.exit 0))) (
 .seq (.block 1 (.seq (.g [oM 18 0, oM 19 5, oI 20 5 18 19, oL 21 [kI, .s, kI, kI, kI] 20, oM 22 1, oC 23 113 [.c kI] [21, 22], oM 1 23]) (
 .seq (.g [oM 24 1, oBi 25 .lss 24 0]) (
 .cond (.t 25) (.seq (.g [oK 4 (-1)]) (
 .ret)) (.skip))))) (
 .g [oM 16 5, oBi 17 .add 16 1, oM 5 17])))
def e46x0 : Exits := [(.ret, [(4, .c kI)]), ((.exit 0), [(1, .c kI)])]
noncomputable def l46x0 (T : Table) (k : Nat) := loopN (evalC ⟨T, []⟩ k b46x0 (Ex × List AV)) [0, 1, 5] e46x0
def a46 : AFun := ⟨[.rd, .rd], false, [.t 4], (
 .seq (.g [oK 4 0]) (
 .seq (.g [oM 6 1, oM 7 0, oZ 8 7, oB 9 .sub 6 8, oM 1 9]) (
 .seq (.seq (.g [oM 10 1, oBi 11 .lss 10 0]) (
 .cond (.t 11) (.seq (.g [oK 4 (-1)]) (
 .ret)) (.skip))) (
 .seq (.seq (.g [oK 5 0]) (
 .block 0 (.loop [0, 1, 5] e46x0 b46x0))) (
 .seq (.g [oM 26 1, oM 4 26]) (
 .ret))))))⟩
theorem l46x0s (T : Table) (k n : Nat) (l3 : Rows) (n4 : Int) (n5 : Int) : l46x0 T k (n + 1) [(.fz 5 l3), (.v (.int .i64 n4)), (.v (.int .i64 n5))] = (
 bif (decide (n5 < (l3.length : Int))) then (
 tst (decide (0 ≤ n5)) (
 look l3 (Int.toNat n5) fun r6 =>
 cI .i64 r6 0 fun n7 =>
 cS r6 1 fun s8 =>
 cI .i64 r6 2 fun n9 =>
 cI .i64 r6 3 fun n10 =>
 cI .i64 r6 4 fun n11 =>
 callT T 113 [(.g [(.v (.int .i64 n7)), (.v (.string s8)), (.v (.int .i64 n9)), (.v (.int .i64 n10)), (.v (.int .i64 n11))]), (.d (.v (.int .i64 n4)))] fun o12 =>
 oD o12.res fun d13 =>
 dI .i64 d13 fun n14 =>
 bif (decide (n14 < 0)) then (
 some (.ret, [(.v (.int .i64 (-1)))])) else (
 l46x0 T k n [(.fz 5 l3), (.v (.int .i64 n14)), (.v (.int .i64 (IntKind.wrap .i64 (n5 + 1))))]))) else (
 some ((.exit 0), [(.v (.int .i64 n4))]))) := by kernel_rfl
theorem a46q (T : Table) (k : Nat) (l1 : Rows) (n2 : Int) : evalF T k a46 [(.d (.s 5 l1)), (.d (.v (.int .i64 n2)))] = (
 bif (decide ((IntKind.wrap .i64 (n2 - (l1.length : Int))) < 0)) then (
 some ⟨(.d (.v (.int .i64 (-1)))), []⟩) else (
 aft (l46x0 T k k [(.fz 5 l1), (.v (.int .i64 (IntKind.wrap .i64 (n2 - (l1.length : Int))))), (.v (.int .i64 0))]) fun e15 ys16 =>
 bif e15.same .ret then (
 aV ys16 0 fun x17 =>
 aI .i64 x17 fun n18 =>
 some ⟨(.d (.v (.int .i64 n18))), []⟩) else (
 bif e15.same (.exit 0) then (
 aV ys16 0 fun x19 =>
 aI .i64 x19 fun n20 =>
 some ⟨(.d (.v (.int .i64 n20))), []⟩) else (
 none)))) := by kernel_rfl
/- loop.example/g00119/laws.szHub -/

def a12 : AFun := ⟨[.rd, .rd], false, [.t 4], (
 .seq (.g [oQ 2 (.box (.t 0)), oK 4 0]) (
 .seq (.g [oF 5 3 2, oW 6 (.sl 13) 5, oM 7 1, oC 8 44 [.c kI] [6, 7], oM 1 8]) (
 .seq (.seq (.g [oM 9 1, oBi 10 .lss 9 0]) (
 .cond (.t 10) (.seq (.g [oK 4 (-1)]) (
 .ret)) (.skip))) (
 .seq (.g [oF 11 4 2, oW 12 (.sl 6) 11, oM 13 1, oC 14 45 [.c kI] [12, 13], oM 1 14]) (
 .seq (.seq (.g [oM 15 1, oBi 16 .lss 15 0]) (
 .cond (.t 16) (.seq (.g [oK 4 (-1)]) (
 .ret)) (.skip))) (
 .seq (.g [oF 17 5 2, oW 18 (.sl 5) 17, oM 19 1, oC 20 46 [.c kI] [18, 19], oM 1 20]) (
 .seq (.seq (.g [oM 21 1, oBi 22 .lss 21 0]) (
 .cond (.t 22) (.seq (.g [oK 4 (-1)]) (
 .ret)) (.skip))) (
 .seq (.g [oF 23 6 2, oW 24 (.sl 1) 23, oM 25 1, oC 26 31 [.c kI] [24, 25], oM 1 26]) (
 .seq (.seq (.g [oM 27 1, oBi 28 .lss 27 0]) (
 .cond (.t 28) (.seq (.g [oK 4 (-1)]) (
 .ret)) (.skip))) (
 .seq (.g [oM 29 1, oM 4 29]) (
 .ret)))))))))))⟩

theorem a12q (T : Table) (k : Nat) (n1 : Int) (n2 : Int) (n3 : Int) (l4 : Rows) (l5 : Rows) (l6 : Rows) (l7 : Rows) (n8 : Int) : evalF T k a12 [(.g [(.v (.int .i64 n1)), (.v (.int .i64 n2)), (.v (.int .i64 n3)), (.s 13 l4), (.s 6 l5), (.s 5 l6), (.s 1 l7)]), (.d (.v (.int .i64 n8)))] = (
 callT T 44 [(.d (.s 13 l4)), (.d (.v (.int .i64 n8)))] fun o9 =>
 oD o9.res fun d10 =>
 dI .i64 d10 fun n11 =>
 bif (decide (n11 < 0)) then (
 some ⟨(.d (.v (.int .i64 (-1)))), []⟩) else (
 callT T 45 [(.d (.s 6 l5)), (.d (.v (.int .i64 n11)))] fun o12 =>
 oD o12.res fun d13 =>
 dI .i64 d13 fun n14 =>
 bif (decide (n14 < 0)) then (
 some ⟨(.d (.v (.int .i64 (-1)))), []⟩) else (
 callT T 46 [(.d (.s 5 l6)), (.d (.v (.int .i64 n14)))] fun o15 =>
 oD o15.res fun d16 =>
 dI .i64 d16 fun n17 =>
 bif (decide (n17 < 0)) then (
 some ⟨(.d (.v (.int .i64 (-1)))), []⟩) else (
 callT T 31 [(.d (.s 1 l7)), (.d (.v (.int .i64 n17)))] fun o18 =>
 oD o18.res fun d19 =>
 dI .i64 d19 fun n20 =>
 bif (decide (n20 < 0)) then (
 some ⟨(.d (.v (.int .i64 (-1)))), []⟩) else (
 some ⟨(.d (.v (.int .i64 n20))), []⟩))))) := by kernel_rfl
/- loop.example/g00119/spec.Wanted -/
def b47x0 : ACode := (
 .seq (.seq (.g [oM 7 6, oF 8 5 2, oW 9 (.sl 5) 8, oZ 10 9, oB 11 .lss 7 10]) (
 .cond (.t 11) (.skip) (.exit 0))) (
 .seq (.block 1 (.seq (.g [oF 14 5 2, oW 15 (.sl 5) 14, oM 16 6, oI 17 5 15 16, oF 18 0 17, oW 19 kI 18, oM 20 1, oB 21 .eql 19 20]) (
 .cond (.t 21) (.g [oM 22 5, oF 23 5 2, oW 24 (.sl 5) 23, oM 25 6, oI 26 5 24 25, oF 27 2 26, oW 28 kI 27, oB 29 .add 22 28, oM 5 29]) (.skip)))) (
 .g [oM 12 6, oBi 13 .add 12 1, oM 6 13])))
def e47x0 : Exits := [((.exit 0), [(5, .c kI)])]
noncomputable def l47x0 (T : Table) (k : Nat) := loopN (evalC ⟨T, []⟩ k b47x0 (Ex × List AV)) [1, 2, 5, 6] e47x0
def a47 : AFun := ⟨[.rd, .rd], false, [.t 4], (
 .seq (.g [oQ 2 (.box (.t 0)), oK 4 0]) (
 .seq (.g [oK 5 0]) (
 .seq (.seq (.g [oK 6 0]) (
 .block 0 (.loop [1, 2, 5, 6] e47x0 b47x0))) (
 .seq (.g [oM 30 5, oM 4 30]) (
 .ret)))))⟩
theorem l47x0s (T : Table) (k n : Nat) (n9 : Int) (n10 : Int) (n11 : Int) (n12 : Int) (l13 : Rows) (l14 : Rows) (l15 : Rows) (l16 : Rows) (n17 : Int) (n18 : Int) : l47x0 T k (n + 1) [(.v (.int .i64 n9)), (.b [(.v (.int .i64 n10)), (.v (.int .i64 n11)), (.v (.int .i64 n12)), (.fz 13 l13), (.fz 6 l14), (.fz 5 l15), (.fz 1 l16)]), (.v (.int .i64 n17)), (.v (.int .i64 n18))] = (
 bif (decide (n18 < (l15.length : Int))) then (
 tst (decide (0 ≤ n18)) (
 look l15 (Int.toNat n18) fun r19 =>
 cI .i64 r19 0 fun n20 =>
 bif (n20 == n9) then (
 tst (decide (0 ≤ n18)) (
 look l15 (Int.toNat n18) fun r21 =>
 cI .i64 r21 2 fun n22 =>
 l47x0 T k n [(.v (.int .i64 n9)), (.b [(.v (.int .i64 n10)), (.v (.int .i64 n11)), (.v (.int .i64 n12)), (.fz 13 l13), (.fz 6 l14), (.fz 5 l15), (.fz 1 l16)]), (.v (.int .i64 (IntKind.wrap .i64 (n17 + n22)))), (.v (.int .i64 (IntKind.wrap .i64 (n18 + 1))))])) else (
 l47x0 T k n [(.v (.int .i64 n9)), (.b [(.v (.int .i64 n10)), (.v (.int .i64 n11)), (.v (.int .i64 n12)), (.fz 13 l13), (.fz 6 l14), (.fz 5 l15), (.fz 1 l16)]), (.v (.int .i64 n17)), (.v (.int .i64 (IntKind.wrap .i64 (n18 + 1))))]))) else (
 some ((.exit 0), [(.v (.int .i64 n17))]))) := by kernel_rfl
theorem a47q (T : Table) (k : Nat) (n1 : Int) (n2 : Int) (n3 : Int) (l4 : Rows) (l5 : Rows) (l6 : Rows) (l7 : Rows) (n8 : Int) : evalF T k a47 [(.g [(.v (.int .i64 n1)), (.v (.int .i64 n2)), (.v (.int .i64 n3)), (.s 13 l4), (.s 6 l5), (.s 5 l6), (.s 1 l7)]), (.d (.v (.int .i64 n8)))] = (
 aft (l47x0 T k k [(.v (.int .i64 n8)), (.b [(.v (.int .i64 n1)), (.v (.int .i64 n2)), (.v (.int .i64 n3)), (.fz 13 l4), (.fz 6 l5), (.fz 5 l6), (.fz 1 l7)]), (.v (.int .i64 0)), (.v (.int .i64 0))]) fun e23 ys24 =>
 bif e23.same (.exit 0) then (
 aV ys24 0 fun x25 =>
 aI .i64 x25 fun n26 =>
 some ⟨(.d (.v (.int .i64 n26))), []⟩) else (
 none)) := by kernel_rfl
/- loop.example/g00119/spec.l18Among -/
def b48x0 : ACode := (
 .seq (.seq (.g [oM 6 5, oM 7 0, oZ 8 7, oB 9 .lss 6 8]) (
 .cond (.t 9) (.skip) (.exit 0))) (
 .seq (.block 1 (.seq (.g [oM 12 0, oM 13 5, oI 14 1 12 13, oW 15 kI 14, oM 16 1, oB 17 .eql 15 16]) (
 .cond (.t 17) (.seq (.g [oV 4 true]) (
 .ret)) (.skip)))) (
 .g [oM 10 5, oBi 11 .add 10 1, oM 5 11])))
def e48x0 : Exits := [(.ret, [(4, .c .b)]), ((.exit 0), [])]
noncomputable def l48x0 (T : Table) (k : Nat) := loopN (evalC ⟨T, []⟩ k b48x0 (Ex × List AV)) [0, 1, 5] e48x0
def a48 : AFun := ⟨[.rd, .rd], false, [.t 4], (
 .seq (.g [oV 4 false]) (
 .seq (.seq (.g [oK 5 0]) (
 .block 0 (.loop [0, 1, 5] e48x0 b48x0))) (
 .seq (.g [oV 4 false]) (
 .ret))))⟩
theorem l48x0s (T : Table) (k n : Nat) (l3 : Rows) (n4 : Int) (n5 : Int) : l48x0 T k (n + 1) [(.fz 1 l3), (.v (.int .i64 n4)), (.v (.int .i64 n5))] = (
 bif (decide (n5 < (l3.length : Int))) then (
 tst (decide (0 ≤ n5)) (
 look l3 (Int.toNat n5) fun r6 =>
 cI .i64 r6 0 fun n7 =>
 bif (n7 == n4) then (
 some (.ret, [(.v (.bool true))])) else (
 l48x0 T k n [(.fz 1 l3), (.v (.int .i64 n4)), (.v (.int .i64 (IntKind.wrap .i64 (n5 + 1))))]))) else (
 some ((.exit 0), []))) := by kernel_rfl
theorem a48q (T : Table) (k : Nat) (l1 : Rows) (n2 : Int) : evalF T k a48 [(.d (.s 1 l1)), (.d (.v (.int .i64 n2)))] = (
 aft (l48x0 T k k [(.fz 1 l1), (.v (.int .i64 n2)), (.v (.int .i64 0))]) fun e8 ys9 =>
 bif e8.same .ret then (
 aV ys9 0 fun x10 =>
 aB x10 fun b11 =>
 some ⟨(.d (.v (.bool b11))), []⟩) else (
 bif e8.same (.exit 0) then (
 some ⟨(.d (.v (.bool false))), []⟩) else (
 none))) := by kernel_rfl
/- loop.example/g00119/spec.Lacking -/
def b13x1 : ACode := (
 .seq (.seq (.dreg [] [(0, oM 47 6), (0, oBi 48 .gtr 47 0), (0, oM 49 48), (0, oJ 50 49 true (.mv (.t 3))), (0, oJ 51 49 true (.mv (.t 6))), (0, oJ 52 49 true (.bin .sub (.t 51) (.i 1))), (0, oJ 53 49 true (.iad 1 (.t 50) (.t 52))), (0, oJ 54 49 true (.load false [kI] (.t 53))), (0, oJ 55 49 true (.fad 0 (.t 5))), (0, oJ 56 49 true (.load false [kI] (.t 55)))] [oJ 57 49 true (.bin .gtr (.t 54) (.t 56)), oQ 58 (.pick (.t 49) (.t 57) (.b false))]) (
 .cond (.t 58) (.skip) (.exit 2))) (
 .block 3 (.seq (.g [oM 59 3, oM 60 6, oM 61 3, oM 62 6, oBi 63 .sub 62 1, oI 64 1 61 63, oW 65 kI 64, oI 66 1 59 60, oS (.store 1 (.t 66) (.t 65))]) (
 .g [oM 67 6, oBi 68 .sub 67 1, oM 6 68]))))
def e13x1 : Exits := [((.exit 2), [(1, .b [.c kI, .c kI, .c kI, .c (.sl 13), .c (.sl 6), .c (.sl 5), .c (.sl 1)]), (3, .o 1), (4, .c kI), (5, .b [.c kI, .c .s, .c kI, .c (.sl 3), .c (.sl 1), .c (.sl 2), .c kI, .c .s, .c kI, .c (.sl 1), .c (.sl 5), .c (.sl 2), .c .b]), (6, .c kI)])]
noncomputable def l13x1 (T : Table) (k : Nat) := loopN (evalC ⟨T, []⟩ k b13x1 (Ex × List AV)) [1, 3, 4, 5, 6] e13x1
def b13x0 : ACode := (
 .seq (.seq (.g [oM 8 4, oF 9 3 1, oW 10 (.sl 13) 9, oZ 11 10, oB 12 .lss 8 11]) (
 .cond (.t 12) (.skip) (.exit 0))) (
 .seq (.block 1 (.seq (.g [oF 15 3 1, oW 16 (.sl 13) 15, oM 17 4, oI 18 13 16 17, oL 19 [kI, .s, kI, (.sl 3), (.sl 1), (.sl 2), kI, .s, kI, (.sl 1), (.sl 5), (.sl 2), .b] 18, oQ 5 (.alloc [(.v (.int .i64 0)), (.v (.string ByteArray.empty)), (.v (.int .i64 0)), (.s 3 []), (.s 1 []), (.s 2 []), (.v (.int .i64 0)), (.v (.string ByteArray.empty)), (.v (.int .i64 0)), (.s 1 []), (.s 5 []), (.s 2 []), (.v (.bool false))]), oS (.store 13 (.t 5) (.t 19))]) (
 .seq (.dreg [] [(0, oF 20 12 5), (0, oW 21 .b 20), (0, oN 22 21), (0, oM 23 22), (0, oJ 24 23 true (.load true [kI, kI, kI, (.sl 13), (.sl 6), (.sl 5), (.sl 1)] (.t 1))), (0, oJ 25 23 true (.fad 0 (.t 5))), (0, oJ 26 23 true (.load false [kI] (.t 25))), (1, oJ 27 23 true (.call (.f 47) [.rd, .rd] false [.c kI] [(.t 24), (.t 26)])), (0, oJ 28 23 true (.fad 2 (.t 5))), (0, oJ 29 23 true (.fad 0 (.t 28))), (0, oJ 30 23 true (.load false [kI] (.t 29))), (0, oJ 31 23 true (.bin .lss (.t 27) (.t 30))), (0, oQ 32 (.pick (.t 23) (.t 31) (.b false))), (0, oM 33 32), (0, oJ 34 33 true (.mv (.t 3))), (0, oJ 35 33 true (.fad 0 (.t 5))), (0, oJ 36 33 true (.load false [kI] (.t 35)))] [oJ 37 33 true (.call (.f 48) [.rd, .rd] false [.c .b] [(.t 34), (.t 36)]), oJ 38 33 true (.un .not (.t 37)), oQ 39 (.pick (.t 33) (.t 38) (.b false))]) (
 .cond (.t 39) (.seq (.g [oM 40 3, oZ 41 40, oM 6 41]) (
 .seq (.g [oM 42 3, oF 43 0 5, oW 44 kI 43, oQ 45 (.lit 1 ([[(.v (.int .i64 0))]] : Rows) [(0, (.t 44))]), oQ 46 (.app 1 8 (.t 42) (.t 45)), oM 3 46]) (
 .seq (.block 2 (.loop [1, 3, 4, 5, 6] e13x1 b13x1)) (
 .g [oM 69 3, oM 70 6, oF 71 0 5, oW 72 kI 71, oI 73 1 69 70, oS (.store 1 (.t 73) (.t 72))])))) (.skip))))) (
 .g [oM 13 4, oBi 14 .add 13 1, oM 4 14])))
def e13x0 : Exits := [((.exit 0), [(3, .o 1)])]
noncomputable def l13x0 (T : Table) (k : Nat) := loopN (evalC ⟨T, []⟩ k b13x0 (Ex × List AV)) [1, 3, 4] e13x0
def a13 : AFun := ⟨[.rd], false, [.t 2], (
 .seq (.g [oQ 1 (.box (.t 0)), oQ 2 (.mv (.c (.o 1 [])))]) (
 .seq (.g [oQ 7 (.lit 1 ([] : Rows) []), oM 3 7]) (
 .seq (.seq (.g [oK 4 0]) (
 .block 0 (.loop [1, 3, 4] e13x0 b13x0))) (
 .seq (.g [oM 74 3, oM 2 74]) (
 .ret)))))⟩
theorem l13x1s (T : Table) (k n : Nat) (n37 : Int) (n38 : Int) (n39 : Int) (l40 : Rows) (l41 : Rows) (l42 : Rows) (l43 : Rows) (l44 : Rows) (n45 : Int) (n46 : Int) (s47 : ByteArray) (n48 : Int) (l49 : Rows) (l50 : Rows) (l51 : Rows) (n52 : Int) (s53 : ByteArray) (n54 : Int) (l55 : Rows) (l56 : Rows) (l57 : Rows) (b58 : Bool) (n59 : Int) : l13x1 T k (n + 1) [(.b [(.v (.int .i64 n37)), (.v (.int .i64 n38)), (.v (.int .i64 n39)), (.fz 13 l40), (.fz 6 l41), (.fz 5 l42), (.fz 1 l43)]), (.o 1 l44), (.v (.int .i64 n45)), (.b [(.v (.int .i64 n46)), (.v (.string s47)), (.v (.int .i64 n48)), (.fz 3 l49), (.fz 1 l50), (.fz 2 l51), (.v (.int .i64 n52)), (.v (.string s53)), (.v (.int .i64 n54)), (.fz 1 l55), (.fz 5 l56), (.fz 2 l57), (.v (.bool b58))]), (.v (.int .i64 n59))] = (
 bif (decide (n59 > 0)) == true then (
 tst (decide (0 ≤ (IntKind.wrap .i64 (n59 - 1))) && decide (Int.toNat (IntKind.wrap .i64 (n59 - 1)) < l44.length)) (
 look l44 (Int.toNat (IntKind.wrap .i64 (n59 - 1))) fun r60 =>
 cI .i64 r60 0 fun n61 =>
 bif (decide (n61 > n46)) then (
 tst (decide (0 ≤ (IntKind.wrap .i64 (n59 - 1))) && decide (Int.toNat (IntKind.wrap .i64 (n59 - 1)) < l44.length)) (
 look l44 (Int.toNat (IntKind.wrap .i64 (n59 - 1))) fun r62 =>
 cI .i64 r62 0 fun n63 =>
 tst (decide (0 ≤ n59) && decide (Int.toNat n59 < l44.length)) (
 l13x1 T k n [(.b [(.v (.int .i64 n37)), (.v (.int .i64 n38)), (.v (.int .i64 n39)), (.fz 13 l40), (.fz 6 l41), (.fz 5 l42), (.fz 1 l43)]), (.o 1 (setD l44 (Int.toNat n59) 0 (.v (.int .i64 n63)))), (.v (.int .i64 n45)), (.b [(.v (.int .i64 n46)), (.v (.string s47)), (.v (.int .i64 n48)), (.fz 3 l49), (.fz 1 l50), (.fz 2 l51), (.v (.int .i64 n52)), (.v (.string s53)), (.v (.int .i64 n54)), (.fz 1 l55), (.fz 5 l56), (.fz 2 l57), (.v (.bool b58))]), (.v (.int .i64 (IntKind.wrap .i64 (n59 - 1))))]))) else (
 some ((.exit 2), [(.b [(.v (.int .i64 n37)), (.v (.int .i64 n38)), (.v (.int .i64 n39)), (.fz 13 l40), (.fz 6 l41), (.fz 5 l42), (.fz 1 l43)]), (.o 1 l44), (.v (.int .i64 n45)), (.b [(.v (.int .i64 n46)), (.v (.string s47)), (.v (.int .i64 n48)), (.fz 3 l49), (.fz 1 l50), (.fz 2 l51), (.v (.int .i64 n52)), (.v (.string s53)), (.v (.int .i64 n54)), (.fz 1 l55), (.fz 5 l56), (.fz 2 l57), (.v (.bool b58))]), (.v (.int .i64 n59))])))) else (
 some ((.exit 2), [(.b [(.v (.int .i64 n37)), (.v (.int .i64 n38)), (.v (.int .i64 n39)), (.fz 13 l40), (.fz 6 l41), (.fz 5 l42), (.fz 1 l43)]), (.o 1 l44), (.v (.int .i64 n45)), (.b [(.v (.int .i64 n46)), (.v (.string s47)), (.v (.int .i64 n48)), (.fz 3 l49), (.fz 1 l50), (.fz 2 l51), (.v (.int .i64 n52)), (.v (.string s53)), (.v (.int .i64 n54)), (.fz 1 l55), (.fz 5 l56), (.fz 2 l57), (.v (.bool b58))]), (.v (.int .i64 n59))]))) := by kernel_rfl
theorem l13x0s (T : Table) (k n : Nat) (n8 : Int) (n9 : Int) (n10 : Int) (l11 : Rows) (l12 : Rows) (l13 : Rows) (l14 : Rows) (l15 : Rows) (n16 : Int) : l13x0 T k (n + 1) [(.b [(.v (.int .i64 n8)), (.v (.int .i64 n9)), (.v (.int .i64 n10)), (.fz 13 l11), (.fz 6 l12), (.fz 5 l13), (.fz 1 l14)]), (.o 1 l15), (.v (.int .i64 n16))] = (
 bif (decide (n16 < (l11.length : Int))) then (
 tst (decide (0 ≤ n16)) (
 look l11 (Int.toNat n16) fun r17 =>
 cI .i64 r17 0 fun n18 =>
 cS r17 1 fun s19 =>
 cI .i64 r17 2 fun n20 =>
 cL 3 r17 3 fun l21 =>
 cL 1 r17 4 fun l22 =>
 cL 2 r17 5 fun l23 =>
 cI .i64 r17 6 fun n24 =>
 cS r17 7 fun s25 =>
 cI .i64 r17 8 fun n26 =>
 cL 1 r17 9 fun l27 =>
 cL 5 r17 10 fun l28 =>
 cL 2 r17 11 fun l29 =>
 cB r17 12 fun b30 =>
 bif (!b30) == true then (
 callT T 47 [(.g [(.v (.int .i64 n8)), (.v (.int .i64 n9)), (.v (.int .i64 n10)), (.s 13 l11), (.s 6 l12), (.s 5 l13), (.s 1 l14)]), (.d (.v (.int .i64 n18)))] fun o31 =>
 oD o31.res fun d32 =>
 dI .i64 d32 fun n33 =>
 bif (decide (n33 < n20)) == true then (
 callT T 48 [(.d (.s 1 l15)), (.d (.v (.int .i64 n18)))] fun o34 =>
 oD o34.res fun d35 =>
 dB d35 fun b36 =>
 bif (!b36) then (
 tst (decide ((l15.length + ([[(.v (.int .i64 n18))]] : Rows).length) * 8 ≤ maxBytes)) (
 aft (l13x1 T k k [(.b [(.v (.int .i64 n8)), (.v (.int .i64 n9)), (.v (.int .i64 n10)), (.fz 13 l11), (.fz 6 l12), (.fz 5 l13), (.fz 1 l14)]), (.o 1 (l15 ++ ([[(.v (.int .i64 n18))]] : Rows))), (.v (.int .i64 n16)), (.b [(.v (.int .i64 n18)), (.v (.string s19)), (.v (.int .i64 n20)), (.fz 3 l21), (.fz 1 l22), (.fz 2 l23), (.v (.int .i64 n24)), (.v (.string s25)), (.v (.int .i64 n26)), (.fz 1 l27), (.fz 5 l28), (.fz 2 l29), (.v (.bool b30))]), (.v (.int .i64 (l15.length : Int)))]) fun e64 ys65 =>
 bif e64.same (.exit 2) then (
 aV ys65 0 fun x66 =>
 aX x66 fun xs67 =>
 aV xs67 0 fun x68 =>
 aI .i64 x68 fun n69 =>
 aV xs67 1 fun x70 =>
 aI .i64 x70 fun n71 =>
 aV xs67 2 fun x72 =>
 aI .i64 x72 fun n73 =>
 aV xs67 3 fun x74 =>
 aL 13 x74 fun l75 =>
 aV xs67 4 fun x76 =>
 aL 6 x76 fun l77 =>
 aV xs67 5 fun x78 =>
 aL 5 x78 fun l79 =>
 aV xs67 6 fun x80 =>
 aL 1 x80 fun l81 =>
 aV ys65 1 fun x82 =>
 aO 1 x82 fun l83 =>
 aV ys65 2 fun x84 =>
 aI .i64 x84 fun n85 =>
 aV ys65 3 fun x86 =>
 aX x86 fun xs87 =>
 aV xs87 0 fun x88 =>
 aI .i64 x88 fun n89 =>
 aV xs87 1 fun x90 =>
 aS x90 fun s91 =>
 aV xs87 2 fun x92 =>
 aI .i64 x92 fun n93 =>
 aV xs87 3 fun x94 =>
 aL 3 x94 fun l95 =>
 aV xs87 4 fun x96 =>
 aL 1 x96 fun l97 =>
 aV xs87 5 fun x98 =>
 aL 2 x98 fun l99 =>
 aV xs87 6 fun x100 =>
 aI .i64 x100 fun n101 =>
 aV xs87 7 fun x102 =>
 aS x102 fun s103 =>
 aV xs87 8 fun x104 =>
 aI .i64 x104 fun n105 =>
 aV xs87 9 fun x106 =>
 aL 1 x106 fun l107 =>
 aV xs87 10 fun x108 =>
 aL 5 x108 fun l109 =>
 aV xs87 11 fun x110 =>
 aL 2 x110 fun l111 =>
 aV xs87 12 fun x112 =>
 aB x112 fun b113 =>
 aV ys65 4 fun x114 =>
 aI .i64 x114 fun n115 =>
 tst (decide (0 ≤ n115) && decide (Int.toNat n115 < l83.length)) (
 l13x0 T k n [(.b [(.v (.int .i64 n69)), (.v (.int .i64 n71)), (.v (.int .i64 n73)), (.fz 13 l75), (.fz 6 l77), (.fz 5 l79), (.fz 1 l81)]), (.o 1 (setD l83 (Int.toNat n115) 0 (.v (.int .i64 n89)))), (.v (.int .i64 (IntKind.wrap .i64 (n85 + 1))))])) else (
 none))) else (
 l13x0 T k n [(.b [(.v (.int .i64 n8)), (.v (.int .i64 n9)), (.v (.int .i64 n10)), (.fz 13 l11), (.fz 6 l12), (.fz 5 l13), (.fz 1 l14)]), (.o 1 l15), (.v (.int .i64 (IntKind.wrap .i64 (n16 + 1))))])) else (
 l13x0 T k n [(.b [(.v (.int .i64 n8)), (.v (.int .i64 n9)), (.v (.int .i64 n10)), (.fz 13 l11), (.fz 6 l12), (.fz 5 l13), (.fz 1 l14)]), (.o 1 l15), (.v (.int .i64 (IntKind.wrap .i64 (n16 + 1))))])) else (
 l13x0 T k n [(.b [(.v (.int .i64 n8)), (.v (.int .i64 n9)), (.v (.int .i64 n10)), (.fz 13 l11), (.fz 6 l12), (.fz 5 l13), (.fz 1 l14)]), (.o 1 l15), (.v (.int .i64 (IntKind.wrap .i64 (n16 + 1))))]))) else (
 some ((.exit 0), [(.o 1 l15)]))) := by kernel_rfl
theorem a13q (T : Table) (k : Nat) (n1 : Int) (n2 : Int) (n3 : Int) (l4 : Rows) (l5 : Rows) (l6 : Rows) (l7 : Rows) : evalF T k a13 [(.g [(.v (.int .i64 n1)), (.v (.int .i64 n2)), (.v (.int .i64 n3)), (.s 13 l4), (.s 6 l5), (.s 5 l6), (.s 1 l7)])] = (
 aft (l13x0 T k k [(.b [(.v (.int .i64 n1)), (.v (.int .i64 n2)), (.v (.int .i64 n3)), (.fz 13 l4), (.fz 6 l5), (.fz 5 l6), (.fz 1 l7)]), (.o 1 []), (.v (.int .i64 0))]) fun e116 ys117 =>
 bif e116.same (.exit 0) then (
 aV ys117 0 fun x118 =>
 aO 1 x118 fun l119 =>
 some ⟨(.d (.s 1 l119)), []⟩) else (
 none)) := by kernel_rfl
/- loop.example/g00119/laws.toStringS -/
def b37x0 : ACode := (
 .seq (.seq (.g [oM 8 4, oM 9 0, oZ 10 9, oB 11 .lss 8 10]) (
 .cond (.t 11) (.skip) (.exit 0))) (
 .seq (.block 1 (.g [oM 14 3, oM 15 4, oM 16 0, oM 17 4, oI 18 1 16 17, oW 19 .s 18, oI 20 1 14 15, oS (.store 1 (.t 20) (.t 19))])) (
 .g [oM 12 4, oBi 13 .add 12 1, oM 4 13])))
def e37x0 : Exits := [((.exit 0), [(3, .o 1)])]
noncomputable def l37x0 (T : Table) (k : Nat) := loopN (evalC ⟨T, []⟩ k b37x0 (Ex × List AV)) [0, 3, 4] e37x0
def a37 : AFun := ⟨[.rd], false, [.t 2], (
 .seq (.g [oQ 2 (.mv (.c (.o 1 [])))]) (
 .seq (.g [oM 5 0, oZ 6 5, oQ 7 (.mk [(.v (.string ByteArray.empty))] 16 (.t 6) (.t 6)), oM 3 7]) (
 .seq (.seq (.g [oK 4 0]) (
 .block 0 (.loop [0, 3, 4] e37x0 b37x0))) (
 .seq (.g [oM 21 3, oM 2 21]) (
 .ret)))))⟩
theorem l37x0s (T : Table) (k n : Nat) (l2 : Rows) (l3 : Rows) (n4 : Int) : l37x0 T k (n + 1) [(.fz 1 l2), (.o 1 l3), (.v (.int .i64 n4))] = (
 bif (decide (n4 < (l2.length : Int))) then (
 tst (decide (0 ≤ n4)) (
 look l2 (Int.toNat n4) fun r5 =>
 cS r5 0 fun s6 =>
 tst (decide (0 ≤ n4) && decide (Int.toNat n4 < l3.length)) (
 l37x0 T k n [(.fz 1 l2), (.o 1 (setD l3 (Int.toNat n4) 0 (.v (.string s6)))), (.v (.int .i64 (IntKind.wrap .i64 (n4 + 1))))]))) else (
 some ((.exit 0), [(.o 1 l3)]))) := by kernel_rfl
theorem a37q (T : Table) (k : Nat) (l1 : Rows) : evalF T k a37 [(.d (.s 1 l1))] = (
 tst (cutOk (l1.length : Int) (l1.length : Int) maxLen && decide (Int.toNat (l1.length : Int) * 16 ≤ maxBytes)) (
 aft (l37x0 T k k [(.fz 1 l1), (.o 1 (List.replicate (Int.toNat (l1.length : Int)) [(.v (.string ByteArray.empty))])), (.v (.int .i64 0))]) fun e7 ys8 =>
 bif e7.same (.exit 0) then (
 aV ys8 0 fun x9 =>
 aO 1 x9 fun l10 =>
 some ⟨(.d (.s 1 l10)), []⟩) else (
 none))) := by kernel_rfl
/- loop.example/g00119/laws.toTerm -/

def a203 : AFun := ⟨[.rd], false, [.c 2 true [kI, .s, (.sl 1)]], (
 .seq (.g [oQ 1 (.box (.t 0)), oQ 2 (.alloc [(.v (.int .i64 0)), (.v (.string ByteArray.empty)), (.s 1 [])])]) (
 .seq (.g [oQ 3 (.alloc [(.v (.int .i64 0)), (.v (.string ByteArray.empty)), (.s 1 [])])]) (
 .seq (.g [oF 4 0 1, oW 5 kI 4, oF 6 0 3, oS (.store 1 (.t 6) (.t 5))]) (
 .seq (.g [oF 7 1 1, oW 8 .s 7, oF 9 1 3, oS (.store 1 (.t 9) (.t 8))]) (
 .seq (.g [oF 10 2 1, oW 11 (.sl 1) 10, oC 12 37 [.c (.sl 1)] [11], oF 13 2 3, oS (.store 1 (.t 13) (.t 12))]) (
 .seq (.g [oL 14 [kI, .s, (.sl 1)] 3, oS (.store 3 (.t 2) (.t 14))]) (
 .ret)))))))⟩

theorem a203q (T : Table) (k : Nat) (n1 : Int) (s2 : ByteArray) (l3 : Rows) : evalF T k a203 [(.g [(.v (.int .i64 n1)), (.v (.string s2)), (.s 1 l3)])] = (
 callT T 37 [(.d (.s 1 l3))] fun o4 =>
 oD o4.res fun d5 =>
 dL 1 d5 fun l6 =>
 some ⟨(.g [(.v (.int .i64 n1)), (.v (.string s2)), (.s 1 l6)]), []⟩) := by kernel_rfl
/- loop.example/g00119/laws.toTermS -/
def b141x0 : ACode := (
 .seq (.seq (.g [oM 8 4, oM 9 0, oZ 10 9, oB 11 .lss 8 10]) (
 .cond (.t 11) (.skip) (.exit 0))) (
 .seq (.block 1 (.g [oM 14 3, oM 15 4, oM 16 0, oM 17 4, oI 18 3 16 17, oL 19 [kI, .s, (.sl 1)] 18, oC 20 203 [.g [kI, .s, (.sl 1)]] [19], oI 21 3 14 15, oS (.store 3 (.t 21) (.t 20))])) (
 .g [oM 12 4, oBi 13 .add 12 1, oM 4 13])))
def e141x0 : Exits := [((.exit 0), [(3, .o 3)])]
noncomputable def l141x0 (T : Table) (k : Nat) := loopN (evalC ⟨T, []⟩ k b141x0 (Ex × List AV)) [0, 3, 4] e141x0
def a141 : AFun := ⟨[.rd], false, [.t 2], (
 .seq (.g [oQ 2 (.mv (.c (.o 3 [])))]) (
 .seq (.g [oM 5 0, oZ 6 5, oQ 7 (.mk [(.v (.int .i64 0)), (.v (.string ByteArray.empty)), (.s 1 [])] 48 (.t 6) (.t 6)), oM 3 7]) (
 .seq (.seq (.g [oK 4 0]) (
 .block 0 (.loop [0, 3, 4] e141x0 b141x0))) (
 .seq (.g [oM 22 3, oM 2 22]) (
 .ret)))))⟩
theorem l141x0s (T : Table) (k n : Nat) (l2 : Rows) (l3 : Rows) (n4 : Int) : l141x0 T k (n + 1) [(.fz 3 l2), (.o 3 l3), (.v (.int .i64 n4))] = (
 bif (decide (n4 < (l2.length : Int))) then (
 tst (decide (0 ≤ n4)) (
 look l2 (Int.toNat n4) fun r5 =>
 cI .i64 r5 0 fun n6 =>
 cS r5 1 fun s7 =>
 cL 1 r5 2 fun l8 =>
 callT T 203 [(.g [(.v (.int .i64 n6)), (.v (.string s7)), (.s 1 l8)])] fun o9 =>
 oG o9.res fun r10 =>
 tst (Nat.beq r10.length 3) (
 cI .i64 r10 0 fun n11 =>
 cS r10 1 fun s12 =>
 cL 1 r10 2 fun l13 =>
 tst (decide (0 ≤ n4) && decide (Int.toNat n4 < l3.length)) (
 l141x0 T k n [(.fz 3 l2), (.o 3 (setD (setD (setD (setD l3 (Int.toNat n4) 0 (.v (.int .i64 n11))) (Int.toNat n4) 1 (.v (.string s12))) (Int.toNat n4) 2 hole) (Int.toNat n4) 2 (.s 1 l13))), (.v (.int .i64 (IntKind.wrap .i64 (n4 + 1))))])))) else (
 some ((.exit 0), [(.o 3 l3)]))) := by kernel_rfl
theorem a141q (T : Table) (k : Nat) (l1 : Rows) : evalF T k a141 [(.d (.s 3 l1))] = (
 tst (cutOk (l1.length : Int) (l1.length : Int) maxLen && decide (Int.toNat (l1.length : Int) * 48 ≤ maxBytes)) (
 aft (l141x0 T k k [(.fz 3 l1), (.o 3 (List.replicate (Int.toNat (l1.length : Int)) [(.v (.int .i64 0)), (.v (.string ByteArray.empty)), (.s 1 [])])), (.v (.int .i64 0))]) fun e14 ys15 =>
 bif e14.same (.exit 0) then (
 aV ys15 0 fun x16 =>
 aO 3 x16 fun l17 =>
 some ⟨(.d (.s 3 l17)), []⟩) else (
 none))) := by kernel_rfl
/- loop.example/g00119/laws.toWeigh -/

def a204 : AFun := ⟨[.rd], false, [.c 2 true [.s, kI]], (
 .seq (.g [oQ 1 (.box (.t 0)), oQ 2 (.alloc [(.v (.string ByteArray.empty)), (.v (.int .i64 0))])]) (
 .seq (.g [oQ 3 (.alloc [(.v (.string ByteArray.empty)), (.v (.int .i64 0))])]) (
 .seq (.g [oF 4 0 1, oW 5 .s 4, oF 6 0 3, oS (.store 1 (.t 6) (.t 5))]) (
 .seq (.g [oF 7 1 1, oW 8 kI 7, oF 9 1 3, oS (.store 1 (.t 9) (.t 8))]) (
 .seq (.g [oL 10 [.s, kI] 3, oS (.store 2 (.t 2) (.t 10))]) (
 .ret))))))⟩

theorem a204q (T : Table) (k : Nat) (s1 : ByteArray) (n2 : Int) : evalF T k a204 [(.g [(.v (.string s1)), (.v (.int .i64 n2))])] = (
 some ⟨(.g [(.v (.string s1)), (.v (.int .i64 n2))]), []⟩) := by kernel_rfl
/- loop.example/g00119/laws.toWeighS -/
def b142x0 : ACode := (
 .seq (.seq (.g [oM 8 4, oM 9 0, oZ 10 9, oB 11 .lss 8 10]) (
 .cond (.t 11) (.skip) (.exit 0))) (
 .seq (.block 1 (.g [oM 14 3, oM 15 4, oM 16 0, oM 17 4, oI 18 2 16 17, oL 19 [.s, kI] 18, oC 20 204 [.g [.s, kI]] [19], oI 21 2 14 15, oS (.store 2 (.t 21) (.t 20))])) (
 .g [oM 12 4, oBi 13 .add 12 1, oM 4 13])))
def e142x0 : Exits := [((.exit 0), [(3, .o 2)])]
noncomputable def l142x0 (T : Table) (k : Nat) := loopN (evalC ⟨T, []⟩ k b142x0 (Ex × List AV)) [0, 3, 4] e142x0
def a142 : AFun := ⟨[.rd], false, [.t 2], (
 .seq (.g [oQ 2 (.mv (.c (.o 2 [])))]) (
 .seq (.g [oM 5 0, oZ 6 5, oQ 7 (.mk [(.v (.string ByteArray.empty)), (.v (.int .i64 0))] 24 (.t 6) (.t 6)), oM 3 7]) (
 .seq (.seq (.g [oK 4 0]) (
 .block 0 (.loop [0, 3, 4] e142x0 b142x0))) (
 .seq (.g [oM 22 3, oM 2 22]) (
 .ret)))))⟩
theorem l142x0s (T : Table) (k n : Nat) (l2 : Rows) (l3 : Rows) (n4 : Int) : l142x0 T k (n + 1) [(.fz 2 l2), (.o 2 l3), (.v (.int .i64 n4))] = (
 bif (decide (n4 < (l2.length : Int))) then (
 tst (decide (0 ≤ n4)) (
 look l2 (Int.toNat n4) fun r5 =>
 cS r5 0 fun s6 =>
 cI .i64 r5 1 fun n7 =>
 callT T 204 [(.g [(.v (.string s6)), (.v (.int .i64 n7))])] fun o8 =>
 oG o8.res fun r9 =>
 tst (Nat.beq r9.length 2) (
 cS r9 0 fun s10 =>
 cI .i64 r9 1 fun n11 =>
 tst (decide (0 ≤ n4) && decide (Int.toNat n4 < l3.length)) (
 l142x0 T k n [(.fz 2 l2), (.o 2 (setD (setD l3 (Int.toNat n4) 0 (.v (.string s10))) (Int.toNat n4) 1 (.v (.int .i64 n11)))), (.v (.int .i64 (IntKind.wrap .i64 (n4 + 1))))])))) else (
 some ((.exit 0), [(.o 2 l3)]))) := by kernel_rfl
theorem a142q (T : Table) (k : Nat) (l1 : Rows) : evalF T k a142 [(.d (.s 2 l1))] = (
 tst (cutOk (l1.length : Int) (l1.length : Int) maxLen && decide (Int.toNat (l1.length : Int) * 24 ≤ maxBytes)) (
 aft (l142x0 T k k [(.fz 2 l1), (.o 2 (List.replicate (Int.toNat (l1.length : Int)) [(.v (.string ByteArray.empty)), (.v (.int .i64 0))])), (.v (.int .i64 0))]) fun e12 ys13 =>
 bif e12.same (.exit 0) then (
 aV ys13 0 fun x14 =>
 aO 2 x14 fun l15 =>
 some ⟨(.d (.s 2 l15)), []⟩) else (
 none))) := by kernel_rfl
/- loop.example/g00119/laws.toWant -/

def a75 : AFun := ⟨[.rd], false, [.c 2 true [kI, (.sl 3), (.sl 1), (.sl 2)]], (
 .seq (.g [oQ 1 (.box (.t 0)), oQ 2 (.alloc [(.v (.int .i64 0)), (.s 3 []), (.s 1 []), (.s 2 [])])]) (
 .seq (.g [oQ 3 (.alloc [(.v (.int .i64 0)), (.s 3 []), (.s 1 []), (.s 2 [])])]) (
 .seq (.g [oF 4 0 1, oW 5 kI 4, oF 6 0 3, oS (.store 1 (.t 6) (.t 5))]) (
 .seq (.g [oF 7 1 1, oW 8 (.sl 3) 7, oC 9 141 [.c (.sl 3)] [8], oF 10 1 3, oS (.store 1 (.t 10) (.t 9))]) (
 .seq (.g [oF 11 2 1, oW 12 (.sl 1) 11, oC 13 37 [.c (.sl 1)] [12], oF 14 2 3, oS (.store 1 (.t 14) (.t 13))]) (
 .seq (.g [oF 15 3 1, oW 16 (.sl 2) 15, oC 17 142 [.c (.sl 2)] [16], oF 18 3 3, oS (.store 1 (.t 18) (.t 17))]) (
 .seq (.g [oL 19 [kI, (.sl 3), (.sl 1), (.sl 2)] 3, oS (.store 4 (.t 2) (.t 19))]) (
 .ret))))))))⟩

theorem a75q (T : Table) (k : Nat) (n1 : Int) (l2 : Rows) (l3 : Rows) (l4 : Rows) : evalF T k a75 [(.g [(.v (.int .i64 n1)), (.s 3 l2), (.s 1 l3), (.s 2 l4)])] = (
 callT T 141 [(.d (.s 3 l2))] fun o5 =>
 oD o5.res fun d6 =>
 dL 3 d6 fun l7 =>
 callT T 37 [(.d (.s 1 l3))] fun o8 =>
 oD o8.res fun d9 =>
 dL 1 d9 fun l10 =>
 callT T 142 [(.d (.s 2 l4))] fun o11 =>
 oD o11.res fun d12 =>
 dL 2 d12 fun l13 =>
 some ⟨(.g [(.v (.int .i64 n1)), (.s 3 l7), (.s 1 l10), (.s 2 l13)]), []⟩) := by kernel_rfl
/- loop.example/g00119/laws.toValueS -/
def b143x0 : ACode := (
 .seq (.seq (.g [oM 8 4, oM 9 0, oZ 10 9, oB 11 .lss 8 10]) (
 .cond (.t 11) (.skip) (.exit 0))) (
 .seq (.block 1 (.g [oM 14 3, oM 15 4, oM 16 0, oM 17 4, oI 18 5 16 17, oL 19 [kI, .s, kI, (.sl 1), (.sl 5)] 18, oC 20 76 [.g [kI, .s, kI, (.sl 1), (.sl 5)]] [19], oI 21 5 14 15, oS (.store 5 (.t 21) (.t 20))])) (
 .g [oM 12 4, oBi 13 .add 12 1, oM 4 13])))
def e143x0 : Exits := [((.exit 0), [(3, .o 5)])]
noncomputable def l143x0 (T : Table) (k : Nat) := loopN (evalC ⟨T, []⟩ k b143x0 (Ex × List AV)) [0, 3, 4] e143x0
def a143 : AFun := ⟨[.rd], false, [.t 2], (
 .seq (.g [oQ 2 (.mv (.c (.o 5 [])))]) (
 .seq (.g [oM 5 0, oZ 6 5, oQ 7 (.mk [(.v (.int .i64 0)), (.v (.string ByteArray.empty)), (.v (.int .i64 0)), (.s 1 []), (.s 5 [])] 80 (.t 6) (.t 6)), oM 3 7]) (
 .seq (.seq (.g [oK 4 0]) (
 .block 0 (.loop [0, 3, 4] e143x0 b143x0))) (
 .seq (.g [oM 22 3, oM 2 22]) (
 .ret)))))⟩
theorem l143x0s (T : Table) (k n : Nat) (l2 : Rows) (l3 : Rows) (n4 : Int) : l143x0 T k (n + 1) [(.fz 5 l2), (.o 5 l3), (.v (.int .i64 n4))] = (
 bif (decide (n4 < (l2.length : Int))) then (
 tst (decide (0 ≤ n4)) (
 look l2 (Int.toNat n4) fun r5 =>
 cI .i64 r5 0 fun n6 =>
 cS r5 1 fun s7 =>
 cI .i64 r5 2 fun n8 =>
 cL 1 r5 3 fun l9 =>
 cL 5 r5 4 fun l10 =>
 callT T 76 [(.g [(.v (.int .i64 n6)), (.v (.string s7)), (.v (.int .i64 n8)), (.s 1 l9), (.s 5 l10)])] fun o11 =>
 oG o11.res fun r12 =>
 tst (Nat.beq r12.length 5) (
 cI .i64 r12 0 fun n13 =>
 cS r12 1 fun s14 =>
 cI .i64 r12 2 fun n15 =>
 cL 1 r12 3 fun l16 =>
 cL 5 r12 4 fun l17 =>
 tst (decide (0 ≤ n4) && decide (Int.toNat n4 < l3.length)) (
 l143x0 T k n [(.fz 5 l2), (.o 5 (setD (setD (setD (setD (setD (setD (setD l3 (Int.toNat n4) 0 (.v (.int .i64 n13))) (Int.toNat n4) 1 (.v (.string s14))) (Int.toNat n4) 2 (.v (.int .i64 n15))) (Int.toNat n4) 3 hole) (Int.toNat n4) 4 hole) (Int.toNat n4) 4 (.s 5 l17)) (Int.toNat n4) 3 (.s 1 l16))), (.v (.int .i64 (IntKind.wrap .i64 (n4 + 1))))])))) else (
 some ((.exit 0), [(.o 5 l3)]))) := by kernel_rfl
theorem a143q (T : Table) (k : Nat) (l1 : Rows) : evalF T k a143 [(.d (.s 5 l1))] = (
 tst (cutOk (l1.length : Int) (l1.length : Int) maxLen && decide (Int.toNat (l1.length : Int) * 80 ≤ maxBytes)) (
 aft (l143x0 T k k [(.fz 5 l1), (.o 5 (List.replicate (Int.toNat (l1.length : Int)) [(.v (.int .i64 0)), (.v (.string ByteArray.empty)), (.v (.int .i64 0)), (.s 1 []), (.s 5 [])])), (.v (.int .i64 0))]) fun e18 ys19 =>
 bif e18.same (.exit 0) then (
 aV ys19 0 fun x20 =>
 aO 5 x20 fun l21 =>
 some ⟨(.d (.s 5 l21)), []⟩) else (
 none))) := by kernel_rfl
/- loop.example/g00119/laws.toValue -/

def a76 : AFun := ⟨[.rd], false, [.c 2 true [kI, .s, kI, (.sl 1), (.sl 5)]], (
 .seq (.g [oQ 1 (.box (.t 0)), oQ 2 (.alloc [(.v (.int .i64 0)), (.v (.string ByteArray.empty)), (.v (.int .i64 0)), (.s 1 []), (.s 5 [])])]) (
 .seq (.g [oQ 3 (.alloc [(.v (.int .i64 0)), (.v (.string ByteArray.empty)), (.v (.int .i64 0)), (.s 1 []), (.s 5 [])])]) (
 .seq (.g [oF 4 0 1, oW 5 kI 4, oF 6 0 3, oS (.store 1 (.t 6) (.t 5))]) (
 .seq (.g [oF 7 1 1, oW 8 .s 7, oF 9 1 3, oS (.store 1 (.t 9) (.t 8))]) (
 .seq (.g [oF 10 2 1, oW 11 kI 10, oF 12 2 3, oS (.store 1 (.t 12) (.t 11))]) (
 .seq (.g [oF 13 3 1, oW 14 (.sl 1) 13, oC 15 37 [.c (.sl 1)] [14], oF 16 3 3, oS (.store 1 (.t 16) (.t 15))]) (
 .seq (.g [oF 17 4 1, oW 18 (.sl 5) 17, oC 19 143 [.c (.sl 5)] [18], oF 20 4 3, oS (.store 1 (.t 20) (.t 19))]) (
 .seq (.g [oL 21 [kI, .s, kI, (.sl 1), (.sl 5)] 3, oS (.store 5 (.t 2) (.t 21))]) (
 .ret)))))))))⟩

theorem a76q (T : Table) (k : Nat) (n1 : Int) (s2 : ByteArray) (n3 : Int) (l4 : Rows) (l5 : Rows) : evalF T k a76 [(.g [(.v (.int .i64 n1)), (.v (.string s2)), (.v (.int .i64 n3)), (.s 1 l4), (.s 5 l5)])] = (
 callT T 37 [(.d (.s 1 l4))] fun o6 =>
 oD o6.res fun d7 =>
 dL 1 d7 fun l8 =>
 callT T 143 [(.d (.s 5 l5))] fun o9 =>
 oD o9.res fun d10 =>
 dL 5 d10 fun l11 =>
 some ⟨(.g [(.v (.int .i64 n1)), (.v (.string s2)), (.v (.int .i64 n3)), (.s 1 l8), (.s 5 l11)]), []⟩) := by kernel_rfl
/- loop.example/g00119/laws.toOp -/

def a239 : AFun := ⟨[.rd], false, [.c 2 true [kI, (.sl 1), kI, .s, kI, (.sl 1), (.sl 5)]], (
 .seq (.g [oQ 1 (.box (.t 0)), oQ 2 (.alloc [(.v (.int .i64 0)), (.s 1 []), (.v (.int .i64 0)), (.v (.string ByteArray.empty)), (.v (.int .i64 0)), (.s 1 []), (.s 5 [])])]) (
 .seq (.g [oQ 3 (.alloc [(.v (.int .i64 0)), (.s 1 []), (.v (.int .i64 0)), (.v (.string ByteArray.empty)), (.v (.int .i64 0)), (.s 1 []), (.s 5 [])])]) (
 .seq (.g [oF 4 0 1, oW 5 kI 4, oF 6 0 3, oS (.store 1 (.t 6) (.t 5))]) (
 .seq (.g [oF 7 1 1, oW 8 (.sl 1) 7, oC 9 37 [.c (.sl 1)] [8], oF 10 1 3, oS (.store 1 (.t 10) (.t 9))]) (
 .seq (.g [oF 11 2 1, oL 12 [kI, .s, kI, (.sl 1), (.sl 5)] 11, oC 13 76 [.g [kI, .s, kI, (.sl 1), (.sl 5)]] [12], oF 14 2 3, oS (.store 5 (.t 14) (.t 13))]) (
 .seq (.g [oL 15 [kI, (.sl 1), kI, .s, kI, (.sl 1), (.sl 5)] 3, oS (.store 7 (.t 2) (.t 15))]) (
 .ret)))))))⟩

theorem a239q (T : Table) (k : Nat) (n1 : Int) (l2 : Rows) (n3 : Int) (s4 : ByteArray) (n5 : Int) (l6 : Rows) (l7 : Rows) : evalF T k a239 [(.g [(.v (.int .i64 n1)), (.s 1 l2), (.v (.int .i64 n3)), (.v (.string s4)), (.v (.int .i64 n5)), (.s 1 l6), (.s 5 l7)])] = (
 callT T 37 [(.d (.s 1 l2))] fun o8 =>
 oD o8.res fun d9 =>
 dL 1 d9 fun l10 =>
 callT T 76 [(.g [(.v (.int .i64 n3)), (.v (.string s4)), (.v (.int .i64 n5)), (.s 1 l6), (.s 5 l7)])] fun o11 =>
 oG o11.res fun r12 =>
 tst (Nat.beq r12.length 5) (
 cI .i64 r12 0 fun n13 =>
 cS r12 1 fun s14 =>
 cI .i64 r12 2 fun n15 =>
 cL 1 r12 3 fun l16 =>
 cL 5 r12 4 fun l17 =>
 some ⟨(.g [(.v (.int .i64 n1)), (.s 1 l10), (.v (.int .i64 n13)), (.v (.string s14)), (.v (.int .i64 n15)), (.s 1 l16), (.s 5 l17)]), []⟩)) := by kernel_rfl
/- loop.example/g00119/laws.toOpS -/
def b205x0 : ACode := (
 .seq (.seq (.g [oM 8 4, oM 9 0, oZ 10 9, oB 11 .lss 8 10]) (
 .cond (.t 11) (.skip) (.exit 0))) (
 .seq (.block 1 (.g [oM 14 3, oM 15 4, oM 16 0, oM 17 4, oI 18 7 16 17, oL 19 [kI, (.sl 1), kI, .s, kI, (.sl 1), (.sl 5)] 18, oC 20 239 [.g [kI, (.sl 1), kI, .s, kI, (.sl 1), (.sl 5)]] [19], oI 21 7 14 15, oS (.store 7 (.t 21) (.t 20))])) (
 .g [oM 12 4, oBi 13 .add 12 1, oM 4 13])))
def e205x0 : Exits := [((.exit 0), [(3, .o 7)])]
noncomputable def l205x0 (T : Table) (k : Nat) := loopN (evalC ⟨T, []⟩ k b205x0 (Ex × List AV)) [0, 3, 4] e205x0
def a205 : AFun := ⟨[.rd], false, [.t 2], (
 .seq (.g [oQ 2 (.mv (.c (.o 7 [])))]) (
 .seq (.g [oM 5 0, oZ 6 5, oQ 7 (.mk [(.v (.int .i64 0)), (.s 1 []), (.v (.int .i64 0)), (.v (.string ByteArray.empty)), (.v (.int .i64 0)), (.s 1 []), (.s 5 [])] 112 (.t 6) (.t 6)), oM 3 7]) (
 .seq (.seq (.g [oK 4 0]) (
 .block 0 (.loop [0, 3, 4] e205x0 b205x0))) (
 .seq (.g [oM 22 3, oM 2 22]) (
 .ret)))))⟩
theorem l205x0s (T : Table) (k n : Nat) (l2 : Rows) (l3 : Rows) (n4 : Int) : l205x0 T k (n + 1) [(.fz 7 l2), (.o 7 l3), (.v (.int .i64 n4))] = (
 bif (decide (n4 < (l2.length : Int))) then (
 tst (decide (0 ≤ n4)) (
 look l2 (Int.toNat n4) fun r5 =>
 cI .i64 r5 0 fun n6 =>
 cL 1 r5 1 fun l7 =>
 cI .i64 r5 2 fun n8 =>
 cS r5 3 fun s9 =>
 cI .i64 r5 4 fun n10 =>
 cL 1 r5 5 fun l11 =>
 cL 5 r5 6 fun l12 =>
 callT T 239 [(.g [(.v (.int .i64 n6)), (.s 1 l7), (.v (.int .i64 n8)), (.v (.string s9)), (.v (.int .i64 n10)), (.s 1 l11), (.s 5 l12)])] fun o13 =>
 oG o13.res fun r14 =>
 tst (Nat.beq r14.length 7) (
 cI .i64 r14 0 fun n15 =>
 cL 1 r14 1 fun l16 =>
 cI .i64 r14 2 fun n17 =>
 cS r14 3 fun s18 =>
 cI .i64 r14 4 fun n19 =>
 cL 1 r14 5 fun l20 =>
 cL 5 r14 6 fun l21 =>
 tst (decide (0 ≤ n4) && decide (Int.toNat n4 < l3.length)) (
 l205x0 T k n [(.fz 7 l2), (.o 7 (setD (setD (setD (setD (setD (setD (setD (setD (setD (setD l3 (Int.toNat n4) 0 (.v (.int .i64 n15))) (Int.toNat n4) 1 hole) (Int.toNat n4) 2 (.v (.int .i64 n17))) (Int.toNat n4) 3 (.v (.string s18))) (Int.toNat n4) 4 (.v (.int .i64 n19))) (Int.toNat n4) 5 hole) (Int.toNat n4) 6 hole) (Int.toNat n4) 6 (.s 5 l21)) (Int.toNat n4) 5 (.s 1 l20)) (Int.toNat n4) 1 (.s 1 l16))), (.v (.int .i64 (IntKind.wrap .i64 (n4 + 1))))])))) else (
 some ((.exit 0), [(.o 7 l3)]))) := by kernel_rfl
theorem a205q (T : Table) (k : Nat) (l1 : Rows) : evalF T k a205 [(.d (.s 7 l1))] = (
 tst (cutOk (l1.length : Int) (l1.length : Int) maxLen && decide (Int.toNat (l1.length : Int) * 112 ≤ maxBytes)) (
 aft (l205x0 T k k [(.fz 7 l1), (.o 7 (List.replicate (Int.toNat (l1.length : Int)) [(.v (.int .i64 0)), (.s 1 []), (.v (.int .i64 0)), (.v (.string ByteArray.empty)), (.v (.int .i64 0)), (.s 1 []), (.s 5 [])])), (.v (.int .i64 0))]) fun e22 ys23 =>
 bif e22.same (.exit 0) then (
 aV ys23 0 fun x24 =>
 aO 7 x24 fun l25 =>
 some ⟨(.d (.s 7 l25)), []⟩) else (
 none))) := by kernel_rfl
/- loop.example/g00119/laws.toOver -/

def a144 : AFun := ⟨[.rd], false, [.c 2 true [.s, (.sl 7)]], (
 .seq (.g [oQ 1 (.box (.t 0)), oQ 2 (.alloc [(.v (.string ByteArray.empty)), (.s 7 [])])]) (
 .seq (.g [oQ 3 (.alloc [(.v (.string ByteArray.empty)), (.s 7 [])])]) (
 .seq (.g [oF 4 0 1, oW 5 .s 4, oF 6 0 3, oS (.store 1 (.t 6) (.t 5))]) (
 .seq (.g [oF 7 1 1, oW 8 (.sl 7) 7, oC 9 205 [.c (.sl 7)] [8], oF 10 1 3, oS (.store 1 (.t 10) (.t 9))]) (
 .seq (.g [oL 11 [.s, (.sl 7)] 3, oS (.store 2 (.t 2) (.t 11))]) (
 .ret))))))⟩

theorem a144q (T : Table) (k : Nat) (s1 : ByteArray) (l2 : Rows) : evalF T k a144 [(.g [(.v (.string s1)), (.s 7 l2)])] = (
 callT T 205 [(.d (.s 7 l2))] fun o3 =>
 oD o3.res fun d4 =>
 dL 7 d4 fun l5 =>
 some ⟨(.g [(.v (.string s1)), (.s 7 l5)]), []⟩) := by kernel_rfl
/- loop.example/g00119/laws.toOverS -/
def b77x0 : ACode := (
 .seq (.seq (.g [oM 8 4, oM 9 0, oZ 10 9, oB 11 .lss 8 10]) (
 .cond (.t 11) (.skip) (.exit 0))) (
 .seq (.block 1 (.g [oM 14 3, oM 15 4, oM 16 0, oM 17 4, oI 18 2 16 17, oL 19 [.s, (.sl 7)] 18, oC 20 144 [.g [.s, (.sl 7)]] [19], oI 21 2 14 15, oS (.store 2 (.t 21) (.t 20))])) (
 .g [oM 12 4, oBi 13 .add 12 1, oM 4 13])))
def e77x0 : Exits := [((.exit 0), [(3, .o 2)])]
noncomputable def l77x0 (T : Table) (k : Nat) := loopN (evalC ⟨T, []⟩ k b77x0 (Ex × List AV)) [0, 3, 4] e77x0
def a77 : AFun := ⟨[.rd], false, [.t 2], (
 .seq (.g [oQ 2 (.mv (.c (.o 2 [])))]) (
 .seq (.g [oM 5 0, oZ 6 5, oQ 7 (.mk [(.v (.string ByteArray.empty)), (.s 7 [])] 40 (.t 6) (.t 6)), oM 3 7]) (
 .seq (.seq (.g [oK 4 0]) (
 .block 0 (.loop [0, 3, 4] e77x0 b77x0))) (
 .seq (.g [oM 22 3, oM 2 22]) (
 .ret)))))⟩
theorem l77x0s (T : Table) (k n : Nat) (l2 : Rows) (l3 : Rows) (n4 : Int) : l77x0 T k (n + 1) [(.fz 2 l2), (.o 2 l3), (.v (.int .i64 n4))] = (
 bif (decide (n4 < (l2.length : Int))) then (
 tst (decide (0 ≤ n4)) (
 look l2 (Int.toNat n4) fun r5 =>
 cS r5 0 fun s6 =>
 cL 7 r5 1 fun l7 =>
 callT T 144 [(.g [(.v (.string s6)), (.s 7 l7)])] fun o8 =>
 oG o8.res fun r9 =>
 tst (Nat.beq r9.length 2) (
 cS r9 0 fun s10 =>
 cL 7 r9 1 fun l11 =>
 tst (decide (0 ≤ n4) && decide (Int.toNat n4 < l3.length)) (
 l77x0 T k n [(.fz 2 l2), (.o 2 (setD (setD (setD l3 (Int.toNat n4) 0 (.v (.string s10))) (Int.toNat n4) 1 hole) (Int.toNat n4) 1 (.s 7 l11))), (.v (.int .i64 (IntKind.wrap .i64 (n4 + 1))))])))) else (
 some ((.exit 0), [(.o 2 l3)]))) := by kernel_rfl
theorem a77q (T : Table) (k : Nat) (l1 : Rows) : evalF T k a77 [(.d (.s 2 l1))] = (
 tst (cutOk (l1.length : Int) (l1.length : Int) maxLen && decide (Int.toNat (l1.length : Int) * 40 ≤ maxBytes)) (
 aft (l77x0 T k k [(.fz 2 l1), (.o 2 (List.replicate (Int.toNat (l1.length : Int)) [(.v (.string ByteArray.empty)), (.s 7 [])])), (.v (.int .i64 0))]) fun e12 ys13 =>
 bif e12.same (.exit 0) then (
 aV ys13 0 fun x14 =>
 aO 2 x14 fun l15 =>
 some ⟨(.d (.s 2 l15)), []⟩) else (
 none))) := by kernel_rfl
/- loop.example/g00119/laws.toJob -/

def a114 : AFun := ⟨[.rd], false, [.c 2 true [kI, .s, kI, (.sl 3), (.sl 1), (.sl 2), kI, .s, kI, (.sl 1), (.sl 5), (.sl 2), .b]], (
 .seq (.g [oQ 1 (.box (.t 0)), oQ 2 (.alloc [(.v (.int .i64 0)), (.v (.string ByteArray.empty)), (.v (.int .i64 0)), (.s 3 []), (.s 1 []), (.s 2 []), (.v (.int .i64 0)), (.v (.string ByteArray.empty)), (.v (.int .i64 0)), (.s 1 []), (.s 5 []), (.s 2 []), (.v (.bool false))])]) (
 .seq (.g [oQ 3 (.alloc [(.v (.int .i64 0)), (.v (.string ByteArray.empty)), (.v (.int .i64 0)), (.s 3 []), (.s 1 []), (.s 2 []), (.v (.int .i64 0)), (.v (.string ByteArray.empty)), (.v (.int .i64 0)), (.s 1 []), (.s 5 []), (.s 2 []), (.v (.bool false))])]) (
 .seq (.g [oF 4 0 1, oW 5 kI 4, oF 6 0 3, oS (.store 1 (.t 6) (.t 5))]) (
 .seq (.g [oF 7 1 1, oW 8 .s 7, oF 9 1 3, oS (.store 1 (.t 9) (.t 8))]) (
 .seq (.g [oF 10 2 1, oL 11 [kI, (.sl 3), (.sl 1), (.sl 2)] 10, oC 12 75 [.g [kI, (.sl 3), (.sl 1), (.sl 2)]] [11], oF 13 2 3, oS (.store 4 (.t 13) (.t 12))]) (
 .seq (.g [oF 14 6 1, oL 15 [kI, .s, kI, (.sl 1), (.sl 5)] 14, oC 16 76 [.g [kI, .s, kI, (.sl 1), (.sl 5)]] [15], oF 17 6 3, oS (.store 5 (.t 17) (.t 16))]) (
 .seq (.g [oF 18 11 1, oW 19 (.sl 2) 18, oC 20 77 [.c (.sl 2)] [19], oF 21 11 3, oS (.store 1 (.t 21) (.t 20))]) (
 .seq (.g [oF 22 12 1, oW 23 .b 22, oF 24 12 3, oS (.store 1 (.t 24) (.t 23))]) (
 .seq (.g [oL 25 [kI, .s, kI, (.sl 3), (.sl 1), (.sl 2), kI, .s, kI, (.sl 1), (.sl 5), (.sl 2), .b] 3, oS (.store 13 (.t 2) (.t 25))]) (
 .ret))))))))))⟩

theorem a114q (T : Table) (k : Nat) (n1 : Int) (s2 : ByteArray) (n3 : Int) (l4 : Rows) (l5 : Rows) (l6 : Rows) (n7 : Int) (s8 : ByteArray) (n9 : Int) (l10 : Rows) (l11 : Rows) (l12 : Rows) (b13 : Bool) : evalF T k a114 [(.g [(.v (.int .i64 n1)), (.v (.string s2)), (.v (.int .i64 n3)), (.s 3 l4), (.s 1 l5), (.s 2 l6), (.v (.int .i64 n7)), (.v (.string s8)), (.v (.int .i64 n9)), (.s 1 l10), (.s 5 l11), (.s 2 l12), (.v (.bool b13))])] = (
 callT T 75 [(.g [(.v (.int .i64 n3)), (.s 3 l4), (.s 1 l5), (.s 2 l6)])] fun o14 =>
 oG o14.res fun r15 =>
 tst (Nat.beq r15.length 4) (
 cI .i64 r15 0 fun n16 =>
 cL 3 r15 1 fun l17 =>
 cL 1 r15 2 fun l18 =>
 cL 2 r15 3 fun l19 =>
 callT T 76 [(.g [(.v (.int .i64 n7)), (.v (.string s8)), (.v (.int .i64 n9)), (.s 1 l10), (.s 5 l11)])] fun o20 =>
 oG o20.res fun r21 =>
 tst (Nat.beq r21.length 5) (
 cI .i64 r21 0 fun n22 =>
 cS r21 1 fun s23 =>
 cI .i64 r21 2 fun n24 =>
 cL 1 r21 3 fun l25 =>
 cL 5 r21 4 fun l26 =>
 callT T 77 [(.d (.s 2 l12))] fun o27 =>
 oD o27.res fun d28 =>
 dL 2 d28 fun l29 =>
 some ⟨(.g [(.v (.int .i64 n1)), (.v (.string s2)), (.v (.int .i64 n16)), (.s 3 l17), (.s 1 l18), (.s 2 l19), (.v (.int .i64 n22)), (.v (.string s23)), (.v (.int .i64 n24)), (.s 1 l25), (.s 5 l26), (.s 2 l29), (.v (.bool b13))]), []⟩))) := by kernel_rfl
/- loop.example/g00119/laws.toJobS -/
def b49x0 : ACode := (
 .seq (.seq (.g [oM 8 4, oM 9 0, oZ 10 9, oB 11 .lss 8 10]) (
 .cond (.t 11) (.skip) (.exit 0))) (
 .seq (.block 1 (.g [oM 14 3, oM 15 4, oM 16 0, oM 17 4, oI 18 13 16 17, oL 19 [kI, .s, kI, (.sl 3), (.sl 1), (.sl 2), kI, .s, kI, (.sl 1), (.sl 5), (.sl 2), .b] 18, oC 20 114 [.g [kI, .s, kI, (.sl 3), (.sl 1), (.sl 2), kI, .s, kI, (.sl 1), (.sl 5), (.sl 2), .b]] [19], oI 21 13 14 15, oS (.store 13 (.t 21) (.t 20))])) (
 .g [oM 12 4, oBi 13 .add 12 1, oM 4 13])))
def e49x0 : Exits := [((.exit 0), [(3, .o 13)])]
noncomputable def l49x0 (T : Table) (k : Nat) := loopN (evalC ⟨T, []⟩ k b49x0 (Ex × List AV)) [0, 3, 4] e49x0
def a49 : AFun := ⟨[.rd], false, [.t 2], (
 .seq (.g [oQ 2 (.mv (.c (.o 13 [])))]) (
 .seq (.g [oM 5 0, oZ 6 5, oQ 7 (.mk [(.v (.int .i64 0)), (.v (.string ByteArray.empty)), (.v (.int .i64 0)), (.s 3 []), (.s 1 []), (.s 2 []), (.v (.int .i64 0)), (.v (.string ByteArray.empty)), (.v (.int .i64 0)), (.s 1 []), (.s 5 []), (.s 2 []), (.v (.bool false))] 216 (.t 6) (.t 6)), oM 3 7]) (
 .seq (.seq (.g [oK 4 0]) (
 .block 0 (.loop [0, 3, 4] e49x0 b49x0))) (
 .seq (.g [oM 22 3, oM 2 22]) (
 .ret)))))⟩
theorem l49x0s (T : Table) (k n : Nat) (l2 : Rows) (l3 : Rows) (n4 : Int) : l49x0 T k (n + 1) [(.fz 13 l2), (.o 13 l3), (.v (.int .i64 n4))] = (
 bif (decide (n4 < (l2.length : Int))) then (
 tst (decide (0 ≤ n4)) (
 look l2 (Int.toNat n4) fun r5 =>
 cI .i64 r5 0 fun n6 =>
 cS r5 1 fun s7 =>
 cI .i64 r5 2 fun n8 =>
 cL 3 r5 3 fun l9 =>
 cL 1 r5 4 fun l10 =>
 cL 2 r5 5 fun l11 =>
 cI .i64 r5 6 fun n12 =>
 cS r5 7 fun s13 =>
 cI .i64 r5 8 fun n14 =>
 cL 1 r5 9 fun l15 =>
 cL 5 r5 10 fun l16 =>
 cL 2 r5 11 fun l17 =>
 cB r5 12 fun b18 =>
 callT T 114 [(.g [(.v (.int .i64 n6)), (.v (.string s7)), (.v (.int .i64 n8)), (.s 3 l9), (.s 1 l10), (.s 2 l11), (.v (.int .i64 n12)), (.v (.string s13)), (.v (.int .i64 n14)), (.s 1 l15), (.s 5 l16), (.s 2 l17), (.v (.bool b18))])] fun o19 =>
 oG o19.res fun r20 =>
 tst (Nat.beq r20.length 13) (
 cI .i64 r20 0 fun n21 =>
 cS r20 1 fun s22 =>
 cI .i64 r20 2 fun n23 =>
 cL 3 r20 3 fun l24 =>
 cL 1 r20 4 fun l25 =>
 cL 2 r20 5 fun l26 =>
 cI .i64 r20 6 fun n27 =>
 cS r20 7 fun s28 =>
 cI .i64 r20 8 fun n29 =>
 cL 1 r20 9 fun l30 =>
 cL 5 r20 10 fun l31 =>
 cL 2 r20 11 fun l32 =>
 cB r20 12 fun b33 =>
 tst (decide (0 ≤ n4) && decide (Int.toNat n4 < l3.length)) (
 l49x0 T k n [(.fz 13 l2), (.o 13 (setD (setD (setD (setD (setD (setD (setD (setD (setD (setD (setD (setD (setD (setD (setD (setD (setD (setD (setD l3 (Int.toNat n4) 0 (.v (.int .i64 n21))) (Int.toNat n4) 1 (.v (.string s22))) (Int.toNat n4) 2 (.v (.int .i64 n23))) (Int.toNat n4) 3 hole) (Int.toNat n4) 4 hole) (Int.toNat n4) 5 hole) (Int.toNat n4) 6 (.v (.int .i64 n27))) (Int.toNat n4) 7 (.v (.string s28))) (Int.toNat n4) 8 (.v (.int .i64 n29))) (Int.toNat n4) 9 hole) (Int.toNat n4) 10 hole) (Int.toNat n4) 11 hole) (Int.toNat n4) 12 (.v (.bool b33))) (Int.toNat n4) 11 (.s 2 l32)) (Int.toNat n4) 10 (.s 5 l31)) (Int.toNat n4) 9 (.s 1 l30)) (Int.toNat n4) 5 (.s 2 l26)) (Int.toNat n4) 4 (.s 1 l25)) (Int.toNat n4) 3 (.s 3 l24))), (.v (.int .i64 (IntKind.wrap .i64 (n4 + 1))))])))) else (
 some ((.exit 0), [(.o 13 l3)]))) := by kernel_rfl
theorem a49q (T : Table) (k : Nat) (l1 : Rows) : evalF T k a49 [(.d (.s 13 l1))] = (
 tst (cutOk (l1.length : Int) (l1.length : Int) maxLen && decide (Int.toNat (l1.length : Int) * 216 ≤ maxBytes)) (
 aft (l49x0 T k k [(.fz 13 l1), (.o 13 (List.replicate (Int.toNat (l1.length : Int)) [(.v (.int .i64 0)), (.v (.string ByteArray.empty)), (.v (.int .i64 0)), (.s 3 []), (.s 1 []), (.s 2 []), (.v (.int .i64 0)), (.v (.string ByteArray.empty)), (.v (.int .i64 0)), (.s 1 []), (.s 5 []), (.s 2 []), (.v (.bool false))])), (.v (.int .i64 0))]) fun e34 ys35 =>
 bif e34.same (.exit 0) then (
 aV ys35 0 fun x36 =>
 aO 13 x36 fun l37 =>
 some ⟨(.d (.s 13 l37)), []⟩) else (
 none))) := by kernel_rfl
/- loop.example/g00119/laws.toLabel -/

def a206 : AFun := ⟨[.rd], false, [.c 2 true [.s, .s]], (
 .seq (.g [oQ 1 (.box (.t 0)), oQ 2 (.alloc [(.v (.string ByteArray.empty)), (.v (.string ByteArray.empty))])]) (
 .seq (.g [oQ 3 (.alloc [(.v (.string ByteArray.empty)), (.v (.string ByteArray.empty))])]) (
 .seq (.g [oF 4 0 1, oW 5 .s 4, oF 6 0 3, oS (.store 1 (.t 6) (.t 5))]) (
 .seq (.g [oF 7 1 1, oW 8 .s 7, oF 9 1 3, oS (.store 1 (.t 9) (.t 8))]) (
 .seq (.g [oL 10 [.s, .s] 3, oS (.store 2 (.t 2) (.t 10))]) (
 .ret))))))⟩

theorem a206q (T : Table) (k : Nat) (s1 : ByteArray) (s2 : ByteArray) : evalF T k a206 [(.g [(.v (.string s1)), (.v (.string s2))])] = (
 some ⟨(.g [(.v (.string s1)), (.v (.string s2))]), []⟩) := by kernel_rfl
/- loop.example/g00119/laws.toLabelS -/
def b145x0 : ACode := (
 .seq (.seq (.g [oM 8 4, oM 9 0, oZ 10 9, oB 11 .lss 8 10]) (
 .cond (.t 11) (.skip) (.exit 0))) (
 .seq (.block 1 (.g [oM 14 3, oM 15 4, oM 16 0, oM 17 4, oI 18 2 16 17, oL 19 [.s, .s] 18, oC 20 206 [.g [.s, .s]] [19], oI 21 2 14 15, oS (.store 2 (.t 21) (.t 20))])) (
 .g [oM 12 4, oBi 13 .add 12 1, oM 4 13])))
def e145x0 : Exits := [((.exit 0), [(3, .o 2)])]
noncomputable def l145x0 (T : Table) (k : Nat) := loopN (evalC ⟨T, []⟩ k b145x0 (Ex × List AV)) [0, 3, 4] e145x0
def a145 : AFun := ⟨[.rd], false, [.t 2], (
 .seq (.g [oQ 2 (.mv (.c (.o 2 [])))]) (
 .seq (.g [oM 5 0, oZ 6 5, oQ 7 (.mk [(.v (.string ByteArray.empty)), (.v (.string ByteArray.empty))] 32 (.t 6) (.t 6)), oM 3 7]) (
 .seq (.seq (.g [oK 4 0]) (
 .block 0 (.loop [0, 3, 4] e145x0 b145x0))) (
 .seq (.g [oM 22 3, oM 2 22]) (
 .ret)))))⟩
theorem l145x0s (T : Table) (k n : Nat) (l2 : Rows) (l3 : Rows) (n4 : Int) : l145x0 T k (n + 1) [(.fz 2 l2), (.o 2 l3), (.v (.int .i64 n4))] = (
 bif (decide (n4 < (l2.length : Int))) then (
 tst (decide (0 ≤ n4)) (
 look l2 (Int.toNat n4) fun r5 =>
 cS r5 0 fun s6 =>
 cS r5 1 fun s7 =>
 callT T 206 [(.g [(.v (.string s6)), (.v (.string s7))])] fun o8 =>
 oG o8.res fun r9 =>
 tst (Nat.beq r9.length 2) (
 cS r9 0 fun s10 =>
 cS r9 1 fun s11 =>
 tst (decide (0 ≤ n4) && decide (Int.toNat n4 < l3.length)) (
 l145x0 T k n [(.fz 2 l2), (.o 2 (setD (setD l3 (Int.toNat n4) 0 (.v (.string s10))) (Int.toNat n4) 1 (.v (.string s11)))), (.v (.int .i64 (IntKind.wrap .i64 (n4 + 1))))])))) else (
 some ((.exit 0), [(.o 2 l3)]))) := by kernel_rfl
theorem a145q (T : Table) (k : Nat) (l1 : Rows) : evalF T k a145 [(.d (.s 2 l1))] = (
 tst (cutOk (l1.length : Int) (l1.length : Int) maxLen && decide (Int.toNat (l1.length : Int) * 32 ≤ maxBytes)) (
 aft (l145x0 T k k [(.fz 2 l1), (.o 2 (List.replicate (Int.toNat (l1.length : Int)) [(.v (.string ByteArray.empty)), (.v (.string ByteArray.empty))])), (.v (.int .i64 0))]) fun e12 ys13 =>
 bif e12.same (.exit 0) then (
 aV ys13 0 fun x14 =>
 aO 2 x14 fun l15 =>
 some ⟨(.d (.s 2 l15)), []⟩) else (
 none))) := by kernel_rfl
/- loop.example/g00119/laws.toIsland -/

def a78 : AFun := ⟨[.rd], false, [.c 2 true [.s, (.sl 2), (.sl 1), kI]], (
 .seq (.g [oQ 1 (.box (.t 0)), oQ 2 (.alloc [(.v (.string ByteArray.empty)), (.s 2 []), (.s 1 []), (.v (.int .i64 0))])]) (
 .seq (.g [oQ 3 (.alloc [(.v (.string ByteArray.empty)), (.s 2 []), (.s 1 []), (.v (.int .i64 0))])]) (
 .seq (.g [oF 4 0 1, oW 5 .s 4, oF 6 0 3, oS (.store 1 (.t 6) (.t 5))]) (
 .seq (.g [oF 7 1 1, oW 8 (.sl 2) 7, oC 9 145 [.c (.sl 2)] [8], oF 10 1 3, oS (.store 1 (.t 10) (.t 9))]) (
 .seq (.g [oF 11 2 1, oW 12 (.sl 1) 11, oC 13 37 [.c (.sl 1)] [12], oF 14 2 3, oS (.store 1 (.t 14) (.t 13))]) (
 .seq (.g [oF 15 3 1, oW 16 kI 15, oF 17 3 3, oS (.store 1 (.t 17) (.t 16))]) (
 .seq (.g [oL 18 [.s, (.sl 2), (.sl 1), kI] 3, oS (.store 4 (.t 2) (.t 18))]) (
 .ret))))))))⟩

theorem a78q (T : Table) (k : Nat) (s1 : ByteArray) (l2 : Rows) (l3 : Rows) (n4 : Int) : evalF T k a78 [(.g [(.v (.string s1)), (.s 2 l2), (.s 1 l3), (.v (.int .i64 n4))])] = (
 callT T 145 [(.d (.s 2 l2))] fun o5 =>
 oD o5.res fun d6 =>
 dL 2 d6 fun l7 =>
 callT T 37 [(.d (.s 1 l3))] fun o8 =>
 oD o8.res fun d9 =>
 dL 1 d9 fun l10 =>
 some ⟨(.g [(.v (.string s1)), (.s 2 l7), (.s 1 l10), (.v (.int .i64 n4))]), []⟩) := by kernel_rfl
/- loop.example/g00119/laws.toPost -/

def a115 : AFun := ⟨[.rd], false, [.c 2 true [.s, (.sl 2), (.sl 1), kI, kI, kI]], (
 .seq (.g [oQ 1 (.box (.t 0)), oQ 2 (.alloc [(.v (.string ByteArray.empty)), (.s 2 []), (.s 1 []), (.v (.int .i64 0)), (.v (.int .i64 0)), (.v (.int .i64 0))])]) (
 .seq (.g [oQ 3 (.alloc [(.v (.string ByteArray.empty)), (.s 2 []), (.s 1 []), (.v (.int .i64 0)), (.v (.int .i64 0)), (.v (.int .i64 0))])]) (
 .seq (.g [oF 4 0 1, oL 5 [.s, (.sl 2), (.sl 1), kI] 4, oC 6 78 [.g [.s, (.sl 2), (.sl 1), kI]] [5], oF 7 0 3, oS (.store 4 (.t 7) (.t 6))]) (
 .seq (.g [oF 8 4 1, oW 9 kI 8, oF 10 4 3, oS (.store 1 (.t 10) (.t 9))]) (
 .seq (.g [oF 11 5 1, oW 12 kI 11, oF 13 5 3, oS (.store 1 (.t 13) (.t 12))]) (
 .seq (.g [oL 14 [.s, (.sl 2), (.sl 1), kI, kI, kI] 3, oS (.store 6 (.t 2) (.t 14))]) (
 .ret)))))))⟩

theorem a115q (T : Table) (k : Nat) (s1 : ByteArray) (l2 : Rows) (l3 : Rows) (n4 : Int) (n5 : Int) (n6 : Int) : evalF T k a115 [(.g [(.v (.string s1)), (.s 2 l2), (.s 1 l3), (.v (.int .i64 n4)), (.v (.int .i64 n5)), (.v (.int .i64 n6))])] = (
 callT T 78 [(.g [(.v (.string s1)), (.s 2 l2), (.s 1 l3), (.v (.int .i64 n4))])] fun o7 =>
 oG o7.res fun r8 =>
 tst (Nat.beq r8.length 4) (
 cS r8 0 fun s9 =>
 cL 2 r8 1 fun l10 =>
 cL 1 r8 2 fun l11 =>
 cI .i64 r8 3 fun n12 =>
 some ⟨(.g [(.v (.string s9)), (.s 2 l10), (.s 1 l11), (.v (.int .i64 n12)), (.v (.int .i64 n5)), (.v (.int .i64 n6))]), []⟩)) := by kernel_rfl
/- loop.example/g00119/laws.toPostS -/
def b50x0 : ACode := (
 .seq (.seq (.g [oM 8 4, oM 9 0, oZ 10 9, oB 11 .lss 8 10]) (
 .cond (.t 11) (.skip) (.exit 0))) (
 .seq (.block 1 (.g [oM 14 3, oM 15 4, oM 16 0, oM 17 4, oI 18 6 16 17, oL 19 [.s, (.sl 2), (.sl 1), kI, kI, kI] 18, oC 20 115 [.g [.s, (.sl 2), (.sl 1), kI, kI, kI]] [19], oI 21 6 14 15, oS (.store 6 (.t 21) (.t 20))])) (
 .g [oM 12 4, oBi 13 .add 12 1, oM 4 13])))
def e50x0 : Exits := [((.exit 0), [(3, .o 6)])]
noncomputable def l50x0 (T : Table) (k : Nat) := loopN (evalC ⟨T, []⟩ k b50x0 (Ex × List AV)) [0, 3, 4] e50x0
def a50 : AFun := ⟨[.rd], false, [.t 2], (
 .seq (.g [oQ 2 (.mv (.c (.o 6 [])))]) (
 .seq (.g [oM 5 0, oZ 6 5, oQ 7 (.mk [(.v (.string ByteArray.empty)), (.s 2 []), (.s 1 []), (.v (.int .i64 0)), (.v (.int .i64 0)), (.v (.int .i64 0))] 88 (.t 6) (.t 6)), oM 3 7]) (
 .seq (.seq (.g [oK 4 0]) (
 .block 0 (.loop [0, 3, 4] e50x0 b50x0))) (
 .seq (.g [oM 22 3, oM 2 22]) (
 .ret)))))⟩
theorem l50x0s (T : Table) (k n : Nat) (l2 : Rows) (l3 : Rows) (n4 : Int) : l50x0 T k (n + 1) [(.fz 6 l2), (.o 6 l3), (.v (.int .i64 n4))] = (
 bif (decide (n4 < (l2.length : Int))) then (
 tst (decide (0 ≤ n4)) (
 look l2 (Int.toNat n4) fun r5 =>
 cS r5 0 fun s6 =>
 cL 2 r5 1 fun l7 =>
 cL 1 r5 2 fun l8 =>
 cI .i64 r5 3 fun n9 =>
 cI .i64 r5 4 fun n10 =>
 cI .i64 r5 5 fun n11 =>
 callT T 115 [(.g [(.v (.string s6)), (.s 2 l7), (.s 1 l8), (.v (.int .i64 n9)), (.v (.int .i64 n10)), (.v (.int .i64 n11))])] fun o12 =>
 oG o12.res fun r13 =>
 tst (Nat.beq r13.length 6) (
 cS r13 0 fun s14 =>
 cL 2 r13 1 fun l15 =>
 cL 1 r13 2 fun l16 =>
 cI .i64 r13 3 fun n17 =>
 cI .i64 r13 4 fun n18 =>
 cI .i64 r13 5 fun n19 =>
 tst (decide (0 ≤ n4) && decide (Int.toNat n4 < l3.length)) (
 l50x0 T k n [(.fz 6 l2), (.o 6 (setD (setD (setD (setD (setD (setD (setD (setD l3 (Int.toNat n4) 0 (.v (.string s14))) (Int.toNat n4) 1 hole) (Int.toNat n4) 2 hole) (Int.toNat n4) 3 (.v (.int .i64 n17))) (Int.toNat n4) 4 (.v (.int .i64 n18))) (Int.toNat n4) 5 (.v (.int .i64 n19))) (Int.toNat n4) 2 (.s 1 l16)) (Int.toNat n4) 1 (.s 2 l15))), (.v (.int .i64 (IntKind.wrap .i64 (n4 + 1))))])))) else (
 some ((.exit 0), [(.o 6 l3)]))) := by kernel_rfl
theorem a50q (T : Table) (k : Nat) (l1 : Rows) : evalF T k a50 [(.d (.s 6 l1))] = (
 tst (cutOk (l1.length : Int) (l1.length : Int) maxLen && decide (Int.toNat (l1.length : Int) * 88 ≤ maxBytes)) (
 aft (l50x0 T k k [(.fz 6 l1), (.o 6 (List.replicate (Int.toNat (l1.length : Int)) [(.v (.string ByteArray.empty)), (.s 2 []), (.s 1 []), (.v (.int .i64 0)), (.v (.int .i64 0)), (.v (.int .i64 0))])), (.v (.int .i64 0))]) fun e20 ys21 =>
 bif e20.same (.exit 0) then (
 aV ys21 0 fun x22 =>
 aO 6 x22 fun l23 =>
 some ⟨(.d (.s 6 l23)), []⟩) else (
 none))) := by kernel_rfl
/- loop.example/g00119/laws.toHold -/

def a116 : AFun := ⟨[.rd], false, [.c 2 true [kI, .s, kI, kI, kI]], (
 .seq (.g [oQ 1 (.box (.t 0)), oQ 2 (.alloc [(.v (.int .i64 0)), (.v (.string ByteArray.empty)), (.v (.int .i64 0)), (.v (.int .i64 0)), (.v (.int .i64 0))])]) (
 .seq (.g [oQ 3 (.alloc [(.v (.int .i64 0)), (.v (.string ByteArray.empty)), (.v (.int .i64 0)), (.v (.int .i64 0)), (.v (.int .i64 0))])]) (
 .seq (.g [oF 4 0 1, oW 5 kI 4, oF 6 0 3, oS (.store 1 (.t 6) (.t 5))]) (
 .seq (.g [oF 7 1 1, oW 8 .s 7, oF 9 1 3, oS (.store 1 (.t 9) (.t 8))]) (
 .seq (.g [oF 10 2 1, oW 11 kI 10, oF 12 2 3, oS (.store 1 (.t 12) (.t 11))]) (
 .seq (.g [oF 13 3 1, oW 14 kI 13, oF 15 3 3, oS (.store 1 (.t 15) (.t 14))]) (
 .seq (.g [oF 16 4 1, oW 17 kI 16, oF 18 4 3, oS (.store 1 (.t 18) (.t 17))]) (
 .seq (.g [oL 19 [kI, .s, kI, kI, kI] 3, oS (.store 5 (.t 2) (.t 19))]) (
 .ret)))))))))⟩

theorem a116q (T : Table) (k : Nat) (n1 : Int) (s2 : ByteArray) (n3 : Int) (n4 : Int) (n5 : Int) : evalF T k a116 [(.g [(.v (.int .i64 n1)), (.v (.string s2)), (.v (.int .i64 n3)), (.v (.int .i64 n4)), (.v (.int .i64 n5))])] = (
 some ⟨(.g [(.v (.int .i64 n1)), (.v (.string s2)), (.v (.int .i64 n3)), (.v (.int .i64 n4)), (.v (.int .i64 n5))]), []⟩) := by kernel_rfl
/- loop.example/g00119/laws.toHoldS -/
def b51x0 : ACode := (
 .seq (.seq (.g [oM 8 4, oM 9 0, oZ 10 9, oB 11 .lss 8 10]) (
 .cond (.t 11) (.skip) (.exit 0))) (
 .seq (.block 1 (.g [oM 14 3, oM 15 4, oM 16 0, oM 17 4, oI 18 5 16 17, oL 19 [kI, .s, kI, kI, kI] 18, oC 20 116 [.g [kI, .s, kI, kI, kI]] [19], oI 21 5 14 15, oS (.store 5 (.t 21) (.t 20))])) (
 .g [oM 12 4, oBi 13 .add 12 1, oM 4 13])))
def e51x0 : Exits := [((.exit 0), [(3, .o 5)])]
noncomputable def l51x0 (T : Table) (k : Nat) := loopN (evalC ⟨T, []⟩ k b51x0 (Ex × List AV)) [0, 3, 4] e51x0
def a51 : AFun := ⟨[.rd], false, [.t 2], (
 .seq (.g [oQ 2 (.mv (.c (.o 5 [])))]) (
 .seq (.g [oM 5 0, oZ 6 5, oQ 7 (.mk [(.v (.int .i64 0)), (.v (.string ByteArray.empty)), (.v (.int .i64 0)), (.v (.int .i64 0)), (.v (.int .i64 0))] 48 (.t 6) (.t 6)), oM 3 7]) (
 .seq (.seq (.g [oK 4 0]) (
 .block 0 (.loop [0, 3, 4] e51x0 b51x0))) (
 .seq (.g [oM 22 3, oM 2 22]) (
 .ret)))))⟩
theorem l51x0s (T : Table) (k n : Nat) (l2 : Rows) (l3 : Rows) (n4 : Int) : l51x0 T k (n + 1) [(.fz 5 l2), (.o 5 l3), (.v (.int .i64 n4))] = (
 bif (decide (n4 < (l2.length : Int))) then (
 tst (decide (0 ≤ n4)) (
 look l2 (Int.toNat n4) fun r5 =>
 cI .i64 r5 0 fun n6 =>
 cS r5 1 fun s7 =>
 cI .i64 r5 2 fun n8 =>
 cI .i64 r5 3 fun n9 =>
 cI .i64 r5 4 fun n10 =>
 callT T 116 [(.g [(.v (.int .i64 n6)), (.v (.string s7)), (.v (.int .i64 n8)), (.v (.int .i64 n9)), (.v (.int .i64 n10))])] fun o11 =>
 oG o11.res fun r12 =>
 tst (Nat.beq r12.length 5) (
 cI .i64 r12 0 fun n13 =>
 cS r12 1 fun s14 =>
 cI .i64 r12 2 fun n15 =>
 cI .i64 r12 3 fun n16 =>
 cI .i64 r12 4 fun n17 =>
 tst (decide (0 ≤ n4) && decide (Int.toNat n4 < l3.length)) (
 l51x0 T k n [(.fz 5 l2), (.o 5 (setD (setD (setD (setD (setD l3 (Int.toNat n4) 0 (.v (.int .i64 n13))) (Int.toNat n4) 1 (.v (.string s14))) (Int.toNat n4) 2 (.v (.int .i64 n15))) (Int.toNat n4) 3 (.v (.int .i64 n16))) (Int.toNat n4) 4 (.v (.int .i64 n17)))), (.v (.int .i64 (IntKind.wrap .i64 (n4 + 1))))])))) else (
 some ((.exit 0), [(.o 5 l3)]))) := by kernel_rfl
theorem a51q (T : Table) (k : Nat) (l1 : Rows) : evalF T k a51 [(.d (.s 5 l1))] = (
 tst (cutOk (l1.length : Int) (l1.length : Int) maxLen && decide (Int.toNat (l1.length : Int) * 48 ≤ maxBytes)) (
 aft (l51x0 T k k [(.fz 5 l1), (.o 5 (List.replicate (Int.toNat (l1.length : Int)) [(.v (.int .i64 0)), (.v (.string ByteArray.empty)), (.v (.int .i64 0)), (.v (.int .i64 0)), (.v (.int .i64 0))])), (.v (.int .i64 0))]) fun e18 ys19 =>
 bif e18.same (.exit 0) then (
 aV ys19 0 fun x20 =>
 aO 5 x20 fun l21 =>
 some ⟨(.d (.s 5 l21)), []⟩) else (
 none))) := by kernel_rfl
/- loop.example/g00119/laws.toHub -/

def a14 : AFun := ⟨[.rd], false, [.c 2 true [kI, kI, kI, (.sl 13), (.sl 6), (.sl 5), (.sl 1)]], (
 .seq (.g [oQ 1 (.box (.t 0)), oQ 2 (.alloc [(.v (.int .i64 0)), (.v (.int .i64 0)), (.v (.int .i64 0)), (.s 13 []), (.s 6 []), (.s 5 []), (.s 1 [])])]) (
 .seq (.g [oQ 3 (.alloc [(.v (.int .i64 0)), (.v (.int .i64 0)), (.v (.int .i64 0)), (.s 13 []), (.s 6 []), (.s 5 []), (.s 1 [])])]) (
 .seq (.g [oF 4 0 1, oW 5 kI 4, oF 6 0 3, oS (.store 1 (.t 6) (.t 5))]) (
 .seq (.g [oF 7 1 1, oW 8 kI 7, oF 9 1 3, oS (.store 1 (.t 9) (.t 8))]) (
 .seq (.g [oF 10 2 1, oW 11 kI 10, oF 12 2 3, oS (.store 1 (.t 12) (.t 11))]) (
 .seq (.g [oF 13 3 1, oW 14 (.sl 13) 13, oC 15 49 [.c (.sl 13)] [14], oF 16 3 3, oS (.store 1 (.t 16) (.t 15))]) (
 .seq (.g [oF 17 4 1, oW 18 (.sl 6) 17, oC 19 50 [.c (.sl 6)] [18], oF 20 4 3, oS (.store 1 (.t 20) (.t 19))]) (
 .seq (.g [oF 21 5 1, oW 22 (.sl 5) 21, oC 23 51 [.c (.sl 5)] [22], oF 24 5 3, oS (.store 1 (.t 24) (.t 23))]) (
 .seq (.g [oF 25 6 1, oW 26 (.sl 1) 25, oC 27 37 [.c (.sl 1)] [26], oF 28 6 3, oS (.store 1 (.t 28) (.t 27))]) (
 .seq (.g [oL 29 [kI, kI, kI, (.sl 13), (.sl 6), (.sl 5), (.sl 1)] 3, oS (.store 7 (.t 2) (.t 29))]) (
 .ret)))))))))))⟩

theorem a14q (T : Table) (k : Nat) (n1 : Int) (n2 : Int) (n3 : Int) (l4 : Rows) (l5 : Rows) (l6 : Rows) (l7 : Rows) : evalF T k a14 [(.g [(.v (.int .i64 n1)), (.v (.int .i64 n2)), (.v (.int .i64 n3)), (.s 13 l4), (.s 6 l5), (.s 5 l6), (.s 1 l7)])] = (
 callT T 49 [(.d (.s 13 l4))] fun o8 =>
 oD o8.res fun d9 =>
 dL 13 d9 fun l10 =>
 callT T 50 [(.d (.s 6 l5))] fun o11 =>
 oD o11.res fun d12 =>
 dL 6 d12 fun l13 =>
 callT T 51 [(.d (.s 5 l6))] fun o14 =>
 oD o14.res fun d15 =>
 dL 5 d15 fun l16 =>
 callT T 37 [(.d (.s 1 l7))] fun o17 =>
 oD o17.res fun d18 =>
 dL 1 d18 fun l19 =>
 some ⟨(.g [(.v (.int .i64 n1)), (.v (.int .i64 n2)), (.v (.int .i64 n3)), (.s 13 l10), (.s 6 l13), (.s 5 l16), (.s 1 l19)]), []⟩) := by kernel_rfl
/- loop.example/g00119/impl.Wanted -/
def b52x0 : ACode := (
 .seq (.g [oB 12 .lss 11 10]) (
 .seq (.cond (.t 12) (.skip) (.exit 0)) (
 .seq (.block 1 (.seq (.g [oI 13 5 9 11, oL 14 [kI, .s, kI, kI, kI] 13, oQ 7 (.alloc [(.v (.int .i64 0)), (.v (.string ByteArray.empty)), (.v (.int .i64 0)), (.v (.int .i64 0)), (.v (.int .i64 0))]), oS (.store 5 (.t 7) (.t 14))]) (
 .seq (.g [oF 15 0 7, oW 16 kI 15, oM 17 1, oB 18 .eql 16 17]) (
 .cond (.t 18) (.g [oM 19 5, oF 20 2 7, oW 21 kI 20, oB 22 .add 19 21, oM 5 22]) (.skip))))) (
 .g [oBi 23 .add 11 1, oM 11 23]))))
def e52x0 : Exits := [((.exit 0), [(5, .c kI)])]
noncomputable def l52x0 (T : Table) (k : Nat) := loopN (evalC ⟨T, []⟩ k b52x0 (Ex × List AV)) [1, 5, 9, 10, 11] e52x0
def a52 : AFun := ⟨[.rd, .rd], false, [.t 4], (
 .seq (.g [oQ 2 (.box (.t 0)), oK 4 0]) (
 .seq (.g [oK 5 0]) (
 .seq (.seq (.g [oF 8 5 2, oW 9 (.sl 5) 8, oZ 10 9, oK 11 0]) (
 .block 0 (.loop [1, 5, 9, 10, 11] e52x0 b52x0))) (
 .seq (.g [oM 24 5, oM 4 24]) (
 .ret)))))⟩
theorem l52x0s (T : Table) (k n : Nat) (n9 : Int) (n10 : Int) (l11 : Rows) (n12 : Int) (n13 : Int) : l52x0 T k (n + 1) [(.v (.int .i64 n9)), (.v (.int .i64 n10)), (.fz 5 l11), (.v (.int .i64 n12)), (.v (.int .i64 n13))] = (
 bif (decide (n13 < n12)) then (
 tst (decide (0 ≤ n13)) (
 look l11 (Int.toNat n13) fun r14 =>
 cI .i64 r14 0 fun n15 =>
 cS r14 1 fun s16 =>
 cI .i64 r14 2 fun n17 =>
 cI .i64 r14 3 fun n18 =>
 cI .i64 r14 4 fun n19 =>
 bif (n15 == n9) then (
 l52x0 T k n [(.v (.int .i64 n9)), (.v (.int .i64 (IntKind.wrap .i64 (n10 + n17)))), (.fz 5 l11), (.v (.int .i64 n12)), (.v (.int .i64 (IntKind.wrap .i64 (n13 + 1))))]) else (
 l52x0 T k n [(.v (.int .i64 n9)), (.v (.int .i64 n10)), (.fz 5 l11), (.v (.int .i64 n12)), (.v (.int .i64 (IntKind.wrap .i64 (n13 + 1))))]))) else (
 some ((.exit 0), [(.v (.int .i64 n10))]))) := by kernel_rfl
theorem a52q (T : Table) (k : Nat) (n1 : Int) (n2 : Int) (n3 : Int) (l4 : Rows) (l5 : Rows) (l6 : Rows) (l7 : Rows) (n8 : Int) : evalF T k a52 [(.g [(.v (.int .i64 n1)), (.v (.int .i64 n2)), (.v (.int .i64 n3)), (.s 13 l4), (.s 6 l5), (.s 5 l6), (.s 1 l7)]), (.d (.v (.int .i64 n8)))] = (
 aft (l52x0 T k k [(.v (.int .i64 n8)), (.v (.int .i64 0)), (.fz 5 l6), (.v (.int .i64 (l6.length : Int))), (.v (.int .i64 0))]) fun e20 ys21 =>
 bif e20.same (.exit 0) then (
 aV ys21 0 fun x22 =>
 aI .i64 x22 fun n23 =>
 some ⟨(.d (.v (.int .i64 n23))), []⟩) else (
 none)) := by kernel_rfl
/- cmp.isNaN[int] -/

def a233 : AFun := ⟨[.rd], false, [.t 2], (
 .seq (.g [oV 2 false]) (
 .seq (.g [oM 3 0, oM 4 0, oB 5 .neq 3 4, oM 2 5]) (
 .ret)))⟩

theorem a233q (T : Table) (k : Nat) (n1 : Int) : evalF T k a233 [(.d (.v (.int .i64 n1)))] = (
 some ⟨(.d (.v (.bool (n1 != n1)))), []⟩) := by kernel_rfl
/- cmp.Less[int] -/

def a187 : AFun := ⟨[.rd, .rd], false, [.t 4], (
 .seq (.g [oV 4 false]) (
 .seq (.g [oM 5 0, oC 6 233 [.c .b] [5], oM 7 6, oJ 8 7 true (.mv (.t 1)), oJ 9 7 true (.call (.f 233) [.rd] false [.c .b] [(.t 8)]), oJ 10 7 true (.un .not (.t 9)), oQ 11 (.pick (.t 7) (.t 10) (.b false)), oM 12 11, oJ 13 12 false (.mv (.t 0)), oJ 14 12 false (.mv (.t 1)), oJ 15 12 false (.bin .lss (.t 13) (.t 14)), oQ 16 (.pick (.t 12) (.b true) (.t 15)), oM 4 16]) (
 .ret)))⟩

theorem a187q (T : Table) (k : Nat) (n1 : Int) (n2 : Int) : evalF T k a187 [(.d (.v (.int .i64 n1))), (.d (.v (.int .i64 n2)))] = (
 callT T 233 [(.d (.v (.int .i64 n1)))] fun o3 =>
 oD o3.res fun d4 =>
 dB d4 fun b5 =>
 bif b5 == true then (
 callT T 233 [(.d (.v (.int .i64 n2)))] fun o6 =>
 oD o6.res fun d7 =>
 dB d7 fun b8 =>
 bif (!b8) == false then (
 some ⟨(.d (.v (.bool (decide (n1 < n2))))), []⟩) else (
 some ⟨(.d (.v (.bool true))), []⟩)) else (
 some ⟨(.d (.v (.bool (decide (n1 < n2))))), []⟩)) := by kernel_rfl
/- slices.insertionSortOrdered[int] -/
def b181x1 : ACode := (
 .seq (.seq (.dreg [] [(0, oM 16 7), (0, oM 17 1), (0, oB 18 .gtr 16 17), (0, oM 19 18), (0, oJ 20 19 true (.mv (.t 0))), (0, oJ 21 19 true (.mv (.t 7))), (0, oJ 22 19 true (.iad 1 (.t 20) (.t 21))), (0, oJ 23 19 true (.load false [kI] (.t 22))), (0, oJ 24 19 true (.mv (.t 0))), (0, oJ 25 19 true (.mv (.t 7))), (0, oJ 26 19 true (.bin .sub (.t 25) (.i 1))), (0, oJ 27 19 true (.iad 1 (.t 24) (.t 26))), (0, oJ 28 19 true (.load false [kI] (.t 27)))] [oJ 29 19 true (.call (.f 187) [.rd, .rd] false [.c .b] [(.t 23), (.t 28)]), oQ 30 (.pick (.t 19) (.t 29) (.b false))]) (
 .cond (.t 30) (.skip) (.exit 2))) (
 .seq (.block 3 (.dreg [] [(0, oM 33 0), (0, oM 34 7), (3, oM 35 0), (3, oM 36 7), (3, oBi 37 .sub 36 1), (0, oM 38 0), (0, oM 39 7), (0, oBi 40 .sub 39 1), (0, oI 41 1 38 40), (0, oW 42 kI 41), (0, oM 43 0), (0, oM 44 7), (0, oI 45 1 43 44), (0, oW 46 kI 45)] [oI 47 1 33 34, oS (.store 1 (.t 47) (.t 42)), oI 48 1 35 37, oS (.store 1 (.t 48) (.t 46))])) (
 .g [oM 31 7, oBi 32 .sub 31 1, oM 7 32])))
def e181x1 : Exits := [((.exit 2), [(0, .o 1), (1, .c kI), (2, .c kI), (6, .c kI)])]
noncomputable def l181x1 (T : Table) (k : Nat) := loopN (evalC ⟨T, [0]⟩ k b181x1 (Ex × List AV)) [0, 1, 2, 6, 7] e181x1
def b181x0 : ACode := (
 .seq (.seq (.g [oM 10 6, oM 11 2, oB 12 .lss 10 11]) (
 .cond (.t 12) (.skip) (.exit 0))) (
 .seq (.block 1 (.seq (.g [oM 15 6, oM 7 15]) (
 .block 2 (.loop [0, 1, 2, 6, 7] e181x1 b181x1)))) (
 .g [oM 13 6, oBi 14 .add 13 1, oM 6 14])))
def e181x0 : Exits := [((.exit 0), [(0, .o 1)])]
noncomputable def l181x0 (T : Table) (k : Nat) := loopN (evalC ⟨T, [0]⟩ k b181x0 (Ex × List AV)) [0, 1, 2, 6] e181x0
def a181 : AFun := ⟨[.lent, .rd, .rd], false, [], (
 .seq (.g [oM 8 1, oBi 9 .add 8 1, oM 6 9]) (
 .block 0 (.loop [0, 1, 2, 6] e181x0 b181x0)))⟩
theorem l181x1s (T : Table) (k n : Nat) (l8 : Rows) (n9 : Int) (n10 : Int) (n11 : Int) (n12 : Int) : l181x1 T k (n + 1) [(.o 1 l8), (.v (.int .i64 n9)), (.v (.int .i64 n10)), (.v (.int .i64 n11)), (.v (.int .i64 n12))] = (
 bif (decide (n12 > n9)) == true then (
 tst (decide (0 ≤ n12) && decide (Int.toNat n12 < l8.length)) (
 look l8 (Int.toNat n12) fun r13 =>
 cI .i64 r13 0 fun n14 =>
 tst (decide (0 ≤ (IntKind.wrap .i64 (n12 - 1))) && decide (Int.toNat (IntKind.wrap .i64 (n12 - 1)) < l8.length)) (
 look l8 (Int.toNat (IntKind.wrap .i64 (n12 - 1))) fun r15 =>
 cI .i64 r15 0 fun n16 =>
 callT T 187 [(.d (.v (.int .i64 n14))), (.d (.v (.int .i64 n16)))] fun o17 =>
 oD o17.res fun d18 =>
 dB d18 fun b19 =>
 bif b19 then (
 tst (decide (0 ≤ (IntKind.wrap .i64 (n12 - 1))) && decide (Int.toNat (IntKind.wrap .i64 (n12 - 1)) < l8.length)) (
 look l8 (Int.toNat (IntKind.wrap .i64 (n12 - 1))) fun r20 =>
 cI .i64 r20 0 fun n21 =>
 tst (decide (0 ≤ n12) && decide (Int.toNat n12 < l8.length)) (
 look l8 (Int.toNat n12) fun r22 =>
 cI .i64 r22 0 fun n23 =>
 tst (decide (0 ≤ n12) && decide (Int.toNat n12 < l8.length)) (
 tst (decide (0 ≤ (IntKind.wrap .i64 (n12 - 1))) && decide (Int.toNat (IntKind.wrap .i64 (n12 - 1)) < (setD l8 (Int.toNat n12) 0 (.v (.int .i64 n21))).length)) (
 l181x1 T k n [(.o 1 (setD (setD l8 (Int.toNat n12) 0 (.v (.int .i64 n21))) (Int.toNat (IntKind.wrap .i64 (n12 - 1))) 0 (.v (.int .i64 n23)))), (.v (.int .i64 n9)), (.v (.int .i64 n10)), (.v (.int .i64 n11)), (.v (.int .i64 (IntKind.wrap .i64 (n12 - 1))))]))))) else (
 some ((.exit 2), [(.o 1 l8), (.v (.int .i64 n9)), (.v (.int .i64 n10)), (.v (.int .i64 n11))]))))) else (
 some ((.exit 2), [(.o 1 l8), (.v (.int .i64 n9)), (.v (.int .i64 n10)), (.v (.int .i64 n11))]))) := by kernel_rfl
theorem l181x0s (T : Table) (k n : Nat) (l4 : Rows) (n5 : Int) (n6 : Int) (n7 : Int) : l181x0 T k (n + 1) [(.o 1 l4), (.v (.int .i64 n5)), (.v (.int .i64 n6)), (.v (.int .i64 n7))] = (
 bif (decide (n7 < n6)) then (
 aft (l181x1 T k k [(.o 1 l4), (.v (.int .i64 n5)), (.v (.int .i64 n6)), (.v (.int .i64 n7)), (.v (.int .i64 n7))]) fun e24 ys25 =>
 bif e24.same (.exit 2) then (
 aV ys25 0 fun x26 =>
 aO 1 x26 fun l27 =>
 aV ys25 1 fun x28 =>
 aI .i64 x28 fun n29 =>
 aV ys25 2 fun x30 =>
 aI .i64 x30 fun n31 =>
 aV ys25 3 fun x32 =>
 aI .i64 x32 fun n33 =>
 l181x0 T k n [(.o 1 l27), (.v (.int .i64 n29)), (.v (.int .i64 n31)), (.v (.int .i64 (IntKind.wrap .i64 (n33 + 1))))]) else (
 none)) else (
 some ((.exit 0), [(.o 1 l4)]))) := by kernel_rfl
theorem a181q (T : Table) (k : Nat) (l1 : Rows) (n2 : Int) (n3 : Int) : evalF T k a181 [(.d (.s 1 l1)), (.d (.v (.int .i64 n2))), (.d (.v (.int .i64 n3)))] = (
 aft (l181x0 T k k [(.o 1 l1), (.v (.int .i64 n2)), (.v (.int .i64 n3)), (.v (.int .i64 (IntKind.wrap .i64 (n2 + 1))))]) fun e34 ys35 =>
 bif e34.same (.exit 0) then (
 aV ys35 0 fun x36 =>
 aO 1 x36 fun l37 =>
 some ⟨(.t []), [(.d (.s 1 l37))]⟩) else (
 none)) := by kernel_rfl
/- slices.siftDownOrdered[int] -/
def b228x0 : ACode := (
 .block 1 (.seq (.g [oM 11 8, oQ 12 (.bin .mul (.i 2) (.t 11)), oBi 13 .add 12 1, oM 9 13]) (
 .seq (.seq (.g [oM 14 9, oM 15 2, oB 16 .geq 14 15]) (
 .cond (.t 16) (.exit 0) (.skip))) (
 .seq (.seq (.dreg [] [(0, oM 17 9), (0, oBi 18 .add 17 1), (0, oM 19 2), (0, oB 20 .lss 18 19), (0, oM 21 20), (0, oJ 22 21 true (.mv (.t 0))), (0, oJ 23 21 true (.mv (.t 3))), (0, oJ 24 21 true (.mv (.t 9))), (0, oJ 25 21 true (.bin .add (.t 23) (.t 24))), (0, oJ 26 21 true (.iad 1 (.t 22) (.t 25))), (0, oJ 27 21 true (.load false [kI] (.t 26))), (0, oJ 28 21 true (.mv (.t 0))), (0, oJ 29 21 true (.mv (.t 3))), (0, oJ 30 21 true (.mv (.t 9))), (0, oJ 31 21 true (.bin .add (.t 29) (.t 30))), (0, oJ 32 21 true (.bin .add (.t 31) (.i 1))), (0, oJ 33 21 true (.iad 1 (.t 28) (.t 32))), (0, oJ 34 21 true (.load false [kI] (.t 33)))] [oJ 35 21 true (.call (.f 187) [.rd, .rd] false [.c .b] [(.t 27), (.t 34)]), oQ 36 (.pick (.t 21) (.t 35) (.b false))]) (
 .cond (.t 36) (.g [oM 37 9, oBi 38 .add 37 1, oM 9 38]) (.skip))) (
 .seq (.seq (.dreg [] [(0, oM 39 0), (0, oM 40 3), (0, oM 41 8), (0, oB 42 .add 40 41), (0, oI 43 1 39 42), (0, oW 44 kI 43), (0, oM 45 0), (0, oM 46 3), (0, oM 47 9), (0, oB 48 .add 46 47), (0, oI 49 1 45 48), (0, oW 50 kI 49)] [oC 51 187 [.c .b] [44, 50], oN 52 51]) (
 .cond (.t 52) (.ret) (.skip))) (
 .seq (.dreg [] [(0, oM 53 0), (0, oM 54 3), (0, oM 55 8), (0, oB 56 .add 54 55), (3, oM 57 0), (3, oM 58 3), (3, oM 59 9), (3, oB 60 .add 58 59), (0, oM 61 0), (0, oM 62 3), (0, oM 63 9), (0, oB 64 .add 62 63), (0, oI 65 1 61 64), (0, oW 66 kI 65), (0, oM 67 0), (0, oM 68 3), (0, oM 69 8), (0, oB 70 .add 68 69), (0, oI 71 1 67 70), (0, oW 72 kI 71)] [oI 73 1 53 56, oS (.store 1 (.t 73) (.t 66)), oI 74 1 57 60, oS (.store 1 (.t 74) (.t 72))]) (
 .g [oM 75 9, oM 8 75])))))))
def e228x0 : Exits := [((.exit 0), [(0, .o 1)]), (.ret, [(0, .o 1)])]
noncomputable def l228x0 (T : Table) (k : Nat) := loopN (evalC ⟨T, [0]⟩ k b228x0 (Ex × List AV)) [0, 2, 3, 8] e228x0
def a228 : AFun := ⟨[.lent, .rd, .rd, .rd], false, [], (
 .seq (.g [oM 10 1, oM 8 10]) (
 .block 0 (.loop [0, 2, 3, 8] e228x0 b228x0)))⟩
theorem l228x0s (T : Table) (k n : Nat) (l5 : Rows) (n6 : Int) (n7 : Int) (n8 : Int) : l228x0 T k (n + 1) [(.o 1 l5), (.v (.int .i64 n6)), (.v (.int .i64 n7)), (.v (.int .i64 n8))] = (
 bif (decide ((IntKind.wrap .i64 ((IntKind.wrap .i64 (2 * n8)) + 1)) ≥ n6)) then (
 some ((.exit 0), [(.o 1 l5)])) else (
 bif (decide ((IntKind.wrap .i64 ((IntKind.wrap .i64 ((IntKind.wrap .i64 (2 * n8)) + 1)) + 1)) < n6)) == true then (
 tst (decide (0 ≤ (IntKind.wrap .i64 (n7 + (IntKind.wrap .i64 ((IntKind.wrap .i64 (2 * n8)) + 1))))) && decide (Int.toNat (IntKind.wrap .i64 (n7 + (IntKind.wrap .i64 ((IntKind.wrap .i64 (2 * n8)) + 1)))) < l5.length)) (
 look l5 (Int.toNat (IntKind.wrap .i64 (n7 + (IntKind.wrap .i64 ((IntKind.wrap .i64 (2 * n8)) + 1))))) fun r9 =>
 cI .i64 r9 0 fun n10 =>
 tst (decide (0 ≤ (IntKind.wrap .i64 ((IntKind.wrap .i64 (n7 + (IntKind.wrap .i64 ((IntKind.wrap .i64 (2 * n8)) + 1)))) + 1))) && decide (Int.toNat (IntKind.wrap .i64 ((IntKind.wrap .i64 (n7 + (IntKind.wrap .i64 ((IntKind.wrap .i64 (2 * n8)) + 1)))) + 1)) < l5.length)) (
 look l5 (Int.toNat (IntKind.wrap .i64 ((IntKind.wrap .i64 (n7 + (IntKind.wrap .i64 ((IntKind.wrap .i64 (2 * n8)) + 1)))) + 1))) fun r11 =>
 cI .i64 r11 0 fun n12 =>
 callT T 187 [(.d (.v (.int .i64 n10))), (.d (.v (.int .i64 n12)))] fun o13 =>
 oD o13.res fun d14 =>
 dB d14 fun b15 =>
 bif b15 then (
 tst (decide (0 ≤ (IntKind.wrap .i64 (n7 + n8))) && decide (Int.toNat (IntKind.wrap .i64 (n7 + n8)) < l5.length)) (
 look l5 (Int.toNat (IntKind.wrap .i64 (n7 + n8))) fun r16 =>
 cI .i64 r16 0 fun n17 =>
 tst (decide (0 ≤ (IntKind.wrap .i64 (n7 + (IntKind.wrap .i64 ((IntKind.wrap .i64 ((IntKind.wrap .i64 (2 * n8)) + 1)) + 1))))) && decide (Int.toNat (IntKind.wrap .i64 (n7 + (IntKind.wrap .i64 ((IntKind.wrap .i64 ((IntKind.wrap .i64 (2 * n8)) + 1)) + 1)))) < l5.length)) (
 look l5 (Int.toNat (IntKind.wrap .i64 (n7 + (IntKind.wrap .i64 ((IntKind.wrap .i64 ((IntKind.wrap .i64 (2 * n8)) + 1)) + 1))))) fun r18 =>
 cI .i64 r18 0 fun n19 =>
 callT T 187 [(.d (.v (.int .i64 n17))), (.d (.v (.int .i64 n19)))] fun o20 =>
 oD o20.res fun d21 =>
 dB d21 fun b22 =>
 bif (!b22) then (
 some (.ret, [(.o 1 l5)])) else (
 tst (decide (0 ≤ (IntKind.wrap .i64 (n7 + (IntKind.wrap .i64 ((IntKind.wrap .i64 ((IntKind.wrap .i64 (2 * n8)) + 1)) + 1))))) && decide (Int.toNat (IntKind.wrap .i64 (n7 + (IntKind.wrap .i64 ((IntKind.wrap .i64 ((IntKind.wrap .i64 (2 * n8)) + 1)) + 1)))) < l5.length)) (
 look l5 (Int.toNat (IntKind.wrap .i64 (n7 + (IntKind.wrap .i64 ((IntKind.wrap .i64 ((IntKind.wrap .i64 (2 * n8)) + 1)) + 1))))) fun r23 =>
 cI .i64 r23 0 fun n24 =>
 tst (decide (0 ≤ (IntKind.wrap .i64 (n7 + n8))) && decide (Int.toNat (IntKind.wrap .i64 (n7 + n8)) < l5.length)) (
 look l5 (Int.toNat (IntKind.wrap .i64 (n7 + n8))) fun r25 =>
 cI .i64 r25 0 fun n26 =>
 tst (decide (0 ≤ (IntKind.wrap .i64 (n7 + n8))) && decide (Int.toNat (IntKind.wrap .i64 (n7 + n8)) < l5.length)) (
 tst (decide (0 ≤ (IntKind.wrap .i64 (n7 + (IntKind.wrap .i64 ((IntKind.wrap .i64 ((IntKind.wrap .i64 (2 * n8)) + 1)) + 1))))) && decide (Int.toNat (IntKind.wrap .i64 (n7 + (IntKind.wrap .i64 ((IntKind.wrap .i64 ((IntKind.wrap .i64 (2 * n8)) + 1)) + 1)))) < (setD l5 (Int.toNat (IntKind.wrap .i64 (n7 + n8))) 0 (.v (.int .i64 n24))).length)) (
 l228x0 T k n [(.o 1 (setD (setD l5 (Int.toNat (IntKind.wrap .i64 (n7 + n8))) 0 (.v (.int .i64 n24))) (Int.toNat (IntKind.wrap .i64 (n7 + (IntKind.wrap .i64 ((IntKind.wrap .i64 ((IntKind.wrap .i64 (2 * n8)) + 1)) + 1))))) 0 (.v (.int .i64 n26)))), (.v (.int .i64 n6)), (.v (.int .i64 n7)), (.v (.int .i64 (IntKind.wrap .i64 ((IntKind.wrap .i64 ((IntKind.wrap .i64 (2 * n8)) + 1)) + 1))))])))))))) else (
 tst (decide (0 ≤ (IntKind.wrap .i64 (n7 + n8))) && decide (Int.toNat (IntKind.wrap .i64 (n7 + n8)) < l5.length)) (
 look l5 (Int.toNat (IntKind.wrap .i64 (n7 + n8))) fun r27 =>
 cI .i64 r27 0 fun n28 =>
 tst (decide (0 ≤ (IntKind.wrap .i64 (n7 + (IntKind.wrap .i64 ((IntKind.wrap .i64 (2 * n8)) + 1))))) && decide (Int.toNat (IntKind.wrap .i64 (n7 + (IntKind.wrap .i64 ((IntKind.wrap .i64 (2 * n8)) + 1)))) < l5.length)) (
 look l5 (Int.toNat (IntKind.wrap .i64 (n7 + (IntKind.wrap .i64 ((IntKind.wrap .i64 (2 * n8)) + 1))))) fun r29 =>
 cI .i64 r29 0 fun n30 =>
 callT T 187 [(.d (.v (.int .i64 n28))), (.d (.v (.int .i64 n30)))] fun o31 =>
 oD o31.res fun d32 =>
 dB d32 fun b33 =>
 bif (!b33) then (
 some (.ret, [(.o 1 l5)])) else (
 tst (decide (0 ≤ (IntKind.wrap .i64 (n7 + (IntKind.wrap .i64 ((IntKind.wrap .i64 (2 * n8)) + 1))))) && decide (Int.toNat (IntKind.wrap .i64 (n7 + (IntKind.wrap .i64 ((IntKind.wrap .i64 (2 * n8)) + 1)))) < l5.length)) (
 look l5 (Int.toNat (IntKind.wrap .i64 (n7 + (IntKind.wrap .i64 ((IntKind.wrap .i64 (2 * n8)) + 1))))) fun r34 =>
 cI .i64 r34 0 fun n35 =>
 tst (decide (0 ≤ (IntKind.wrap .i64 (n7 + n8))) && decide (Int.toNat (IntKind.wrap .i64 (n7 + n8)) < l5.length)) (
 look l5 (Int.toNat (IntKind.wrap .i64 (n7 + n8))) fun r36 =>
 cI .i64 r36 0 fun n37 =>
 tst (decide (0 ≤ (IntKind.wrap .i64 (n7 + n8))) && decide (Int.toNat (IntKind.wrap .i64 (n7 + n8)) < l5.length)) (
 tst (decide (0 ≤ (IntKind.wrap .i64 (n7 + (IntKind.wrap .i64 ((IntKind.wrap .i64 (2 * n8)) + 1))))) && decide (Int.toNat (IntKind.wrap .i64 (n7 + (IntKind.wrap .i64 ((IntKind.wrap .i64 (2 * n8)) + 1)))) < (setD l5 (Int.toNat (IntKind.wrap .i64 (n7 + n8))) 0 (.v (.int .i64 n35))).length)) (
 l228x0 T k n [(.o 1 (setD (setD l5 (Int.toNat (IntKind.wrap .i64 (n7 + n8))) 0 (.v (.int .i64 n35))) (Int.toNat (IntKind.wrap .i64 (n7 + (IntKind.wrap .i64 ((IntKind.wrap .i64 (2 * n8)) + 1))))) 0 (.v (.int .i64 n37)))), (.v (.int .i64 n6)), (.v (.int .i64 n7)), (.v (.int .i64 (IntKind.wrap .i64 ((IntKind.wrap .i64 (2 * n8)) + 1))))]))))))))))) else (
 tst (decide (0 ≤ (IntKind.wrap .i64 (n7 + n8))) && decide (Int.toNat (IntKind.wrap .i64 (n7 + n8)) < l5.length)) (
 look l5 (Int.toNat (IntKind.wrap .i64 (n7 + n8))) fun r38 =>
 cI .i64 r38 0 fun n39 =>
 tst (decide (0 ≤ (IntKind.wrap .i64 (n7 + (IntKind.wrap .i64 ((IntKind.wrap .i64 (2 * n8)) + 1))))) && decide (Int.toNat (IntKind.wrap .i64 (n7 + (IntKind.wrap .i64 ((IntKind.wrap .i64 (2 * n8)) + 1)))) < l5.length)) (
 look l5 (Int.toNat (IntKind.wrap .i64 (n7 + (IntKind.wrap .i64 ((IntKind.wrap .i64 (2 * n8)) + 1))))) fun r40 =>
 cI .i64 r40 0 fun n41 =>
 callT T 187 [(.d (.v (.int .i64 n39))), (.d (.v (.int .i64 n41)))] fun o42 =>
 oD o42.res fun d43 =>
 dB d43 fun b44 =>
 bif (!b44) then (
 some (.ret, [(.o 1 l5)])) else (
 tst (decide (0 ≤ (IntKind.wrap .i64 (n7 + (IntKind.wrap .i64 ((IntKind.wrap .i64 (2 * n8)) + 1))))) && decide (Int.toNat (IntKind.wrap .i64 (n7 + (IntKind.wrap .i64 ((IntKind.wrap .i64 (2 * n8)) + 1)))) < l5.length)) (
 look l5 (Int.toNat (IntKind.wrap .i64 (n7 + (IntKind.wrap .i64 ((IntKind.wrap .i64 (2 * n8)) + 1))))) fun r45 =>
 cI .i64 r45 0 fun n46 =>
 tst (decide (0 ≤ (IntKind.wrap .i64 (n7 + n8))) && decide (Int.toNat (IntKind.wrap .i64 (n7 + n8)) < l5.length)) (
 look l5 (Int.toNat (IntKind.wrap .i64 (n7 + n8))) fun r47 =>
 cI .i64 r47 0 fun n48 =>
 tst (decide (0 ≤ (IntKind.wrap .i64 (n7 + n8))) && decide (Int.toNat (IntKind.wrap .i64 (n7 + n8)) < l5.length)) (
 tst (decide (0 ≤ (IntKind.wrap .i64 (n7 + (IntKind.wrap .i64 ((IntKind.wrap .i64 (2 * n8)) + 1))))) && decide (Int.toNat (IntKind.wrap .i64 (n7 + (IntKind.wrap .i64 ((IntKind.wrap .i64 (2 * n8)) + 1)))) < (setD l5 (Int.toNat (IntKind.wrap .i64 (n7 + n8))) 0 (.v (.int .i64 n46))).length)) (
 l228x0 T k n [(.o 1 (setD (setD l5 (Int.toNat (IntKind.wrap .i64 (n7 + n8))) 0 (.v (.int .i64 n46))) (Int.toNat (IntKind.wrap .i64 (n7 + (IntKind.wrap .i64 ((IntKind.wrap .i64 (2 * n8)) + 1))))) 0 (.v (.int .i64 n48)))), (.v (.int .i64 n6)), (.v (.int .i64 n7)), (.v (.int .i64 (IntKind.wrap .i64 ((IntKind.wrap .i64 (2 * n8)) + 1))))])))))))))) := by kernel_rfl
theorem a228q (T : Table) (k : Nat) (l1 : Rows) (n2 : Int) (n3 : Int) (n4 : Int) : evalF T k a228 [(.d (.s 1 l1)), (.d (.v (.int .i64 n2))), (.d (.v (.int .i64 n3))), (.d (.v (.int .i64 n4)))] = (
 aft (l228x0 T k k [(.o 1 l1), (.v (.int .i64 n3)), (.v (.int .i64 n4)), (.v (.int .i64 n2))]) fun e49 ys50 =>
 bif e49.same (.exit 0) then (
 aV ys50 0 fun x51 =>
 aO 1 x51 fun l52 =>
 some ⟨(.t []), [(.d (.s 1 l52))]⟩) else (
 bif e49.same .ret then (
 aV ys50 0 fun x53 =>
 aO 1 x53 fun l54 =>
 some ⟨(.t []), [(.d (.s 1 l54))]⟩) else (
 none))) := by kernel_rfl
/- slices.heapSortOrdered[int] -/
def b182x0 : ACode := (
 .seq (.seq (.g [oM 18 9, oBi 19 .geq 18 0]) (
 .cond (.t 19) (.skip) (.exit 0))) (
 .seq (.block 1 (.g [oM 22 0, oM 23 9, oM 24 8, oM 25 6, oQ 26 (.call (.f 228) [.lent, .rd, .rd, .rd] false [] [(.t 22), (.t 23), (.t 24), (.t 25)])])) (
 .g [oM 20 9, oBi 21 .sub 20 1, oM 9 21])))
def e182x0 : Exits := [((.exit 0), [(0, .o 1), (6, .c kI), (7, .c kI), (8, .c kI)])]
noncomputable def l182x0 (T : Table) (k : Nat) := loopN (evalC ⟨T, [0]⟩ k b182x0 (Ex × List AV)) [0, 6, 7, 8, 9] e182x0
def b182x1 : ACode := (
 .seq (.seq (.g [oM 29 10, oBi 30 .geq 29 0]) (
 .cond (.t 30) (.skip) (.exit 2))) (
 .seq (.block 3 (.seq (.dreg [] [(0, oM 33 0), (0, oM 34 6), (3, oM 35 0), (3, oM 36 6), (3, oM 37 10), (3, oB 38 .add 36 37), (0, oM 39 0), (0, oM 40 6), (0, oM 41 10), (0, oB 42 .add 40 41), (0, oI 43 1 39 42), (0, oW 44 kI 43), (0, oM 45 0), (0, oM 46 6), (0, oI 47 1 45 46), (0, oW 48 kI 47)] [oI 49 1 33 34, oS (.store 1 (.t 49) (.t 44)), oI 50 1 35 38, oS (.store 1 (.t 50) (.t 48))]) (
 .g [oM 51 0, oM 52 7, oM 53 10, oM 54 6, oQ 55 (.call (.f 228) [.lent, .rd, .rd, .rd] false [] [(.t 51), (.t 52), (.t 53), (.t 54)])]))) (
 .g [oM 31 10, oBi 32 .sub 31 1, oM 10 32])))
def e182x1 : Exits := [((.exit 2), [(0, .o 1)])]
noncomputable def l182x1 (T : Table) (k : Nat) := loopN (evalC ⟨T, [0]⟩ k b182x1 (Ex × List AV)) [0, 6, 7, 10] e182x1
def a182 : AFun := ⟨[.lent, .rd, .rd], false, [], (
 .seq (.g [oM 11 1, oM 6 11]) (
 .seq (.g [oK 7 0]) (
 .seq (.g [oM 12 2, oM 13 1, oB 14 .sub 12 13, oM 8 14]) (
 .seq (.seq (.g [oM 15 8, oBi 16 .sub 15 1, oBi 17 .quo 16 2, oM 9 17]) (
 .block 0 (.loop [0, 6, 7, 8, 9] e182x0 b182x0))) (
 .seq (.g [oM 27 8, oBi 28 .sub 27 1, oM 10 28]) (
 .block 2 (.loop [0, 6, 7, 10] e182x1 b182x1)))))))⟩
theorem l182x0s (T : Table) (k n : Nat) (l4 : Rows) (n5 : Int) (n6 : Int) (n7 : Int) (n8 : Int) : l182x0 T k (n + 1) [(.o 1 l4), (.v (.int .i64 n5)), (.v (.int .i64 n6)), (.v (.int .i64 n7)), (.v (.int .i64 n8))] = (
 bif (decide (n8 ≥ 0)) then (
 callT T 228 [(.d (.s 1 l4)), (.d (.v (.int .i64 n8))), (.d (.v (.int .i64 n7))), (.d (.v (.int .i64 n5)))] fun o9 =>
 nth o9.back 0 fun i10 =>
 oD i10 fun d11 =>
 dL 1 d11 fun l12 =>
 oT o9.res fun is13 =>
 tst (Nat.beq is13.length 0) (
 l182x0 T k n [(.o 1 l12), (.v (.int .i64 n5)), (.v (.int .i64 n6)), (.v (.int .i64 n7)), (.v (.int .i64 (IntKind.wrap .i64 (n8 - 1))))])) else (
 some ((.exit 0), [(.o 1 l4), (.v (.int .i64 n5)), (.v (.int .i64 n6)), (.v (.int .i64 n7))]))) := by kernel_rfl
theorem l182x1s (T : Table) (k n : Nat) (l24 : Rows) (n25 : Int) (n26 : Int) (n27 : Int) : l182x1 T k (n + 1) [(.o 1 l24), (.v (.int .i64 n25)), (.v (.int .i64 n26)), (.v (.int .i64 n27))] = (
 bif (decide (n27 ≥ 0)) then (
 tst (decide (0 ≤ (IntKind.wrap .i64 (n25 + n27))) && decide (Int.toNat (IntKind.wrap .i64 (n25 + n27)) < l24.length)) (
 look l24 (Int.toNat (IntKind.wrap .i64 (n25 + n27))) fun r28 =>
 cI .i64 r28 0 fun n29 =>
 tst (decide (0 ≤ n25) && decide (Int.toNat n25 < l24.length)) (
 look l24 (Int.toNat n25) fun r30 =>
 cI .i64 r30 0 fun n31 =>
 tst (decide (0 ≤ n25) && decide (Int.toNat n25 < l24.length)) (
 tst (decide (0 ≤ (IntKind.wrap .i64 (n25 + n27))) && decide (Int.toNat (IntKind.wrap .i64 (n25 + n27)) < (setD l24 (Int.toNat n25) 0 (.v (.int .i64 n29))).length)) (
 callT T 228 [(.d (.s 1 (setD (setD l24 (Int.toNat n25) 0 (.v (.int .i64 n29))) (Int.toNat (IntKind.wrap .i64 (n25 + n27))) 0 (.v (.int .i64 n31))))), (.d (.v (.int .i64 n26))), (.d (.v (.int .i64 n27))), (.d (.v (.int .i64 n25)))] fun o32 =>
 nth o32.back 0 fun i33 =>
 oD i33 fun d34 =>
 dL 1 d34 fun l35 =>
 oT o32.res fun is36 =>
 tst (Nat.beq is36.length 0) (
 l182x1 T k n [(.o 1 l35), (.v (.int .i64 n25)), (.v (.int .i64 n26)), (.v (.int .i64 (IntKind.wrap .i64 (n27 - 1))))])))))) else (
 some ((.exit 2), [(.o 1 l24)]))) := by kernel_rfl
theorem a182q (T : Table) (k : Nat) (l1 : Rows) (n2 : Int) (n3 : Int) : evalF T k a182 [(.d (.s 1 l1)), (.d (.v (.int .i64 n2))), (.d (.v (.int .i64 n3)))] = (
 tst (decide (2 ≠ 0)) (
 aft (l182x0 T k k [(.o 1 l1), (.v (.int .i64 n2)), (.v (.int .i64 0)), (.v (.int .i64 (IntKind.wrap .i64 (n3 - n2)))), (.v (.int .i64 (IntKind.wrap .i64 (Int.tdiv (IntKind.wrap .i64 ((IntKind.wrap .i64 (n3 - n2)) - 1)) 2))))]) fun e14 ys15 =>
 bif e14.same (.exit 0) then (
 aV ys15 0 fun x16 =>
 aO 1 x16 fun l17 =>
 aV ys15 1 fun x18 =>
 aI .i64 x18 fun n19 =>
 aV ys15 2 fun x20 =>
 aI .i64 x20 fun n21 =>
 aV ys15 3 fun x22 =>
 aI .i64 x22 fun n23 =>
 aft (l182x1 T k k [(.o 1 l17), (.v (.int .i64 n19)), (.v (.int .i64 n21)), (.v (.int .i64 (IntKind.wrap .i64 (n23 - 1))))]) fun e37 ys38 =>
 bif e37.same (.exit 2) then (
 aV ys38 0 fun x39 =>
 aO 1 x39 fun l40 =>
 some ⟨(.t []), [(.d (.s 1 l40))]⟩) else (
 none)) else (
 none))) := by kernel_rfl
/- math/bits.Len64 -/

def a191 : AFun := ⟨[.rd], false, [.t 2], (
 .seq (.g [oK 2 0]) (
 .seq (.seq (.g [oM 3 0, oQ 4 (.bin .geq (.t 3) (.c (.v (.int .u64 4294967296))))]) (
 .cond (.t 4) (.seq (.g [oM 5 0, oQ 6 (.more (.shr 32 (.t 5))), oM 0 6]) (
 .g [oK 2 32])) (.skip))) (
 .seq (.seq (.g [oM 7 0, oQ 8 (.bin .geq (.t 7) (.c (.v (.int .u64 65536))))]) (
 .cond (.t 8) (.seq (.g [oM 9 0, oQ 10 (.more (.shr 16 (.t 9))), oM 0 10]) (
 .g [oM 11 2, oBi 12 .add 11 16, oM 2 12])) (.skip))) (
 .seq (.seq (.g [oM 13 0, oQ 14 (.bin .geq (.t 13) (.c (.v (.int .u64 256))))]) (
 .cond (.t 14) (.seq (.g [oM 15 0, oQ 16 (.more (.shr 8 (.t 15))), oM 0 16]) (
 .g [oM 17 2, oBi 18 .add 17 8, oM 2 18])) (.skip))) (
 .seq (.g [oM 19 2, oM 20 0, oQ 21 (.conv (.int .u8) (.t 20)), oQ 22 (.idx (.c (.v (.string ({ data := #[0, 1, 2, 2, 3, 3, 3, 3, 4, 4, 4, 4, 4, 4, 4, 4, 5, 5, 5, 5, 5, 5, 5, 5, 5, 5, 5, 5, 5, 5, 5, 5, 6, 6, 6, 6, 6, 6, 6, 6, 6, 6, 6, 6, 6, 6, 6, 6, 6, 6, 6, 6, 6, 6, 6, 6, 6, 6, 6, 6, 6, 6, 6, 6, 7, 7, 7, 7, 7, 7, 7, 7, 7, 7, 7, 7, 7, 7, 7, 7, 7, 7, 7, 7, 7, 7, 7, 7, 7, 7, 7, 7, 7, 7, 7, 7, 7, 7, 7, 7, 7, 7, 7, 7, 7, 7, 7, 7, 7, 7, 7, 7, 7, 7, 7, 7, 7, 7, 7, 7, 7, 7, 7, 7, 7, 7, 7, 7, 8, 8, 8, 8, 8, 8, 8, 8, 8, 8, 8, 8, 8, 8, 8, 8, 8, 8, 8, 8, 8, 8, 8, 8, 8, 8, 8, 8, 8, 8, 8, 8, 8, 8, 8, 8, 8, 8, 8, 8, 8, 8, 8, 8, 8, 8, 8, 8, 8, 8, 8, 8, 8, 8, 8, 8, 8, 8, 8, 8, 8, 8, 8, 8, 8, 8, 8, 8, 8, 8, 8, 8, 8, 8, 8, 8, 8, 8, 8, 8, 8, 8, 8, 8, 8, 8, 8, 8, 8, 8, 8, 8, 8, 8, 8, 8, 8, 8, 8, 8, 8, 8, 8, 8, 8, 8, 8, 8, 8, 8, 8, 8, 8, 8, 8, 8, 8, 8, 8, 8, 8, 8, 8, 8, 8, 8, 8, 8] } : ByteArray)))) (.t 21)), oQ 23 (.conv (.int .i64) (.t 22)), oB 24 .add 19 23, oM 2 24]) (
 .ret))))))⟩

theorem a191q (T : Table) (k : Nat) (n1 : Int) : evalF T k a191 [(.d (.v (.int .u64 n1)))] = (
 bif (decide (n1 ≥ 4294967296)) then (
 bif (decide ((Int.fdiv n1 (2 ^ 32)) ≥ 65536)) then (
 bif (decide ((Int.fdiv (Int.fdiv n1 (2 ^ 32)) (2 ^ 16)) ≥ 256)) then (
 tst (decide (0 ≤ (IntKind.wrap .u8 (Int.fdiv (Int.fdiv (Int.fdiv n1 (2 ^ 32)) (2 ^ 16)) (2 ^ 8))))) (
 byteAt ({ data := #[0, 1, 2, 2, 3, 3, 3, 3, 4, 4, 4, 4, 4, 4, 4, 4, 5, 5, 5, 5, 5, 5, 5, 5, 5, 5, 5, 5, 5, 5, 5, 5, 6, 6, 6, 6, 6, 6, 6, 6, 6, 6, 6, 6, 6, 6, 6, 6, 6, 6, 6, 6, 6, 6, 6, 6, 6, 6, 6, 6, 6, 6, 6, 6, 7, 7, 7, 7, 7, 7, 7, 7, 7, 7, 7, 7, 7, 7, 7, 7, 7, 7, 7, 7, 7, 7, 7, 7, 7, 7, 7, 7, 7, 7, 7, 7, 7, 7, 7, 7, 7, 7, 7, 7, 7, 7, 7, 7, 7, 7, 7, 7, 7, 7, 7, 7, 7, 7, 7, 7, 7, 7, 7, 7, 7, 7, 7, 7, 8, 8, 8, 8, 8, 8, 8, 8, 8, 8, 8, 8, 8, 8, 8, 8, 8, 8, 8, 8, 8, 8, 8, 8, 8, 8, 8, 8, 8, 8, 8, 8, 8, 8, 8, 8, 8, 8, 8, 8, 8, 8, 8, 8, 8, 8, 8, 8, 8, 8, 8, 8, 8, 8, 8, 8, 8, 8, 8, 8, 8, 8, 8, 8, 8, 8, 8, 8, 8, 8, 8, 8, 8, 8, 8, 8, 8, 8, 8, 8, 8, 8, 8, 8, 8, 8, 8, 8, 8, 8, 8, 8, 8, 8, 8, 8, 8, 8, 8, 8, 8, 8, 8, 8, 8, 8, 8, 8, 8, 8, 8, 8, 8, 8, 8, 8, 8, 8, 8, 8, 8, 8, 8, 8, 8, 8, 8, 8] } : ByteArray) (Int.toNat (IntKind.wrap .u8 (Int.fdiv (Int.fdiv (Int.fdiv n1 (2 ^ 32)) (2 ^ 16)) (2 ^ 8)))) fun c2 =>
 some ⟨(.d (.v (.int .i64 (IntKind.wrap .i64 ((IntKind.wrap .i64 ((IntKind.wrap .i64 (32 + 16)) + 8)) + (IntKind.wrap .i64 (c2.toNat : Int))))))), []⟩)) else (
 tst (decide (0 ≤ (IntKind.wrap .u8 (Int.fdiv (Int.fdiv n1 (2 ^ 32)) (2 ^ 16))))) (
 byteAt ({ data := #[0, 1, 2, 2, 3, 3, 3, 3, 4, 4, 4, 4, 4, 4, 4, 4, 5, 5, 5, 5, 5, 5, 5, 5, 5, 5, 5, 5, 5, 5, 5, 5, 6, 6, 6, 6, 6, 6, 6, 6, 6, 6, 6, 6, 6, 6, 6, 6, 6, 6, 6, 6, 6, 6, 6, 6, 6, 6, 6, 6, 6, 6, 6, 6, 7, 7, 7, 7, 7, 7, 7, 7, 7, 7, 7, 7, 7, 7, 7, 7, 7, 7, 7, 7, 7, 7, 7, 7, 7, 7, 7, 7, 7, 7, 7, 7, 7, 7, 7, 7, 7, 7, 7, 7, 7, 7, 7, 7, 7, 7, 7, 7, 7, 7, 7, 7, 7, 7, 7, 7, 7, 7, 7, 7, 7, 7, 7, 7, 8, 8, 8, 8, 8, 8, 8, 8, 8, 8, 8, 8, 8, 8, 8, 8, 8, 8, 8, 8, 8, 8, 8, 8, 8, 8, 8, 8, 8, 8, 8, 8, 8, 8, 8, 8, 8, 8, 8, 8, 8, 8, 8, 8, 8, 8, 8, 8, 8, 8, 8, 8, 8, 8, 8, 8, 8, 8, 8, 8, 8, 8, 8, 8, 8, 8, 8, 8, 8, 8, 8, 8, 8, 8, 8, 8, 8, 8, 8, 8, 8, 8, 8, 8, 8, 8, 8, 8, 8, 8, 8, 8, 8, 8, 8, 8, 8, 8, 8, 8, 8, 8, 8, 8, 8, 8, 8, 8, 8, 8, 8, 8, 8, 8, 8, 8, 8, 8, 8, 8, 8, 8, 8, 8, 8, 8, 8, 8] } : ByteArray) (Int.toNat (IntKind.wrap .u8 (Int.fdiv (Int.fdiv n1 (2 ^ 32)) (2 ^ 16)))) fun c3 =>
 some ⟨(.d (.v (.int .i64 (IntKind.wrap .i64 ((IntKind.wrap .i64 (32 + 16)) + (IntKind.wrap .i64 (c3.toNat : Int))))))), []⟩))) else (
 bif (decide ((Int.fdiv n1 (2 ^ 32)) ≥ 256)) then (
 tst (decide (0 ≤ (IntKind.wrap .u8 (Int.fdiv (Int.fdiv n1 (2 ^ 32)) (2 ^ 8))))) (
 byteAt ({ data := #[0, 1, 2, 2, 3, 3, 3, 3, 4, 4, 4, 4, 4, 4, 4, 4, 5, 5, 5, 5, 5, 5, 5, 5, 5, 5, 5, 5, 5, 5, 5, 5, 6, 6, 6, 6, 6, 6, 6, 6, 6, 6, 6, 6, 6, 6, 6, 6, 6, 6, 6, 6, 6, 6, 6, 6, 6, 6, 6, 6, 6, 6, 6, 6, 7, 7, 7, 7, 7, 7, 7, 7, 7, 7, 7, 7, 7, 7, 7, 7, 7, 7, 7, 7, 7, 7, 7, 7, 7, 7, 7, 7, 7, 7, 7, 7, 7, 7, 7, 7, 7, 7, 7, 7, 7, 7, 7, 7, 7, 7, 7, 7, 7, 7, 7, 7, 7, 7, 7, 7, 7, 7, 7, 7, 7, 7, 7, 7, 8, 8, 8, 8, 8, 8, 8, 8, 8, 8, 8, 8, 8, 8, 8, 8, 8, 8, 8, 8, 8, 8, 8, 8, 8, 8, 8, 8, 8, 8, 8, 8, 8, 8, 8, 8, 8, 8, 8, 8, 8, 8, 8, 8, 8, 8, 8, 8, 8, 8, 8, 8, 8, 8, 8, 8, 8, 8, 8, 8, 8, 8, 8, 8, 8, 8, 8, 8, 8, 8, 8, 8, 8, 8, 8, 8, 8, 8, 8, 8, 8, 8, 8, 8, 8, 8, 8, 8, 8, 8, 8, 8, 8, 8, 8, 8, 8, 8, 8, 8, 8, 8, 8, 8, 8, 8, 8, 8, 8, 8, 8, 8, 8, 8, 8, 8, 8, 8, 8, 8, 8, 8, 8, 8, 8, 8, 8, 8] } : ByteArray) (Int.toNat (IntKind.wrap .u8 (Int.fdiv (Int.fdiv n1 (2 ^ 32)) (2 ^ 8)))) fun c4 =>
 some ⟨(.d (.v (.int .i64 (IntKind.wrap .i64 ((IntKind.wrap .i64 (32 + 8)) + (IntKind.wrap .i64 (c4.toNat : Int))))))), []⟩)) else (
 tst (decide (0 ≤ (IntKind.wrap .u8 (Int.fdiv n1 (2 ^ 32))))) (
 byteAt ({ data := #[0, 1, 2, 2, 3, 3, 3, 3, 4, 4, 4, 4, 4, 4, 4, 4, 5, 5, 5, 5, 5, 5, 5, 5, 5, 5, 5, 5, 5, 5, 5, 5, 6, 6, 6, 6, 6, 6, 6, 6, 6, 6, 6, 6, 6, 6, 6, 6, 6, 6, 6, 6, 6, 6, 6, 6, 6, 6, 6, 6, 6, 6, 6, 6, 7, 7, 7, 7, 7, 7, 7, 7, 7, 7, 7, 7, 7, 7, 7, 7, 7, 7, 7, 7, 7, 7, 7, 7, 7, 7, 7, 7, 7, 7, 7, 7, 7, 7, 7, 7, 7, 7, 7, 7, 7, 7, 7, 7, 7, 7, 7, 7, 7, 7, 7, 7, 7, 7, 7, 7, 7, 7, 7, 7, 7, 7, 7, 7, 8, 8, 8, 8, 8, 8, 8, 8, 8, 8, 8, 8, 8, 8, 8, 8, 8, 8, 8, 8, 8, 8, 8, 8, 8, 8, 8, 8, 8, 8, 8, 8, 8, 8, 8, 8, 8, 8, 8, 8, 8, 8, 8, 8, 8, 8, 8, 8, 8, 8, 8, 8, 8, 8, 8, 8, 8, 8, 8, 8, 8, 8, 8, 8, 8, 8, 8, 8, 8, 8, 8, 8, 8, 8, 8, 8, 8, 8, 8, 8, 8, 8, 8, 8, 8, 8, 8, 8, 8, 8, 8, 8, 8, 8, 8, 8, 8, 8, 8, 8, 8, 8, 8, 8, 8, 8, 8, 8, 8, 8, 8, 8, 8, 8, 8, 8, 8, 8, 8, 8, 8, 8, 8, 8, 8, 8, 8, 8] } : ByteArray) (Int.toNat (IntKind.wrap .u8 (Int.fdiv n1 (2 ^ 32)))) fun c5 =>
 some ⟨(.d (.v (.int .i64 (IntKind.wrap .i64 (32 + (IntKind.wrap .i64 (c5.toNat : Int))))))), []⟩)))) else (
 bif (decide (n1 ≥ 65536)) then (
 bif (decide ((Int.fdiv n1 (2 ^ 16)) ≥ 256)) then (
 tst (decide (0 ≤ (IntKind.wrap .u8 (Int.fdiv (Int.fdiv n1 (2 ^ 16)) (2 ^ 8))))) (
 byteAt ({ data := #[0, 1, 2, 2, 3, 3, 3, 3, 4, 4, 4, 4, 4, 4, 4, 4, 5, 5, 5, 5, 5, 5, 5, 5, 5, 5, 5, 5, 5, 5, 5, 5, 6, 6, 6, 6, 6, 6, 6, 6, 6, 6, 6, 6, 6, 6, 6, 6, 6, 6, 6, 6, 6, 6, 6, 6, 6, 6, 6, 6, 6, 6, 6, 6, 7, 7, 7, 7, 7, 7, 7, 7, 7, 7, 7, 7, 7, 7, 7, 7, 7, 7, 7, 7, 7, 7, 7, 7, 7, 7, 7, 7, 7, 7, 7, 7, 7, 7, 7, 7, 7, 7, 7, 7, 7, 7, 7, 7, 7, 7, 7, 7, 7, 7, 7, 7, 7, 7, 7, 7, 7, 7, 7, 7, 7, 7, 7, 7, 8, 8, 8, 8, 8, 8, 8, 8, 8, 8, 8, 8, 8, 8, 8, 8, 8, 8, 8, 8, 8, 8, 8, 8, 8, 8, 8, 8, 8, 8, 8, 8, 8, 8, 8, 8, 8, 8, 8, 8, 8, 8, 8, 8, 8, 8, 8, 8, 8, 8, 8, 8, 8, 8, 8, 8, 8, 8, 8, 8, 8, 8, 8, 8, 8, 8, 8, 8, 8, 8, 8, 8, 8, 8, 8, 8, 8, 8, 8, 8, 8, 8, 8, 8, 8, 8, 8, 8, 8, 8, 8, 8, 8, 8, 8, 8, 8, 8, 8, 8, 8, 8, 8, 8, 8, 8, 8, 8, 8, 8, 8, 8, 8, 8, 8, 8, 8, 8, 8, 8, 8, 8, 8, 8, 8, 8, 8, 8] } : ByteArray) (Int.toNat (IntKind.wrap .u8 (Int.fdiv (Int.fdiv n1 (2 ^ 16)) (2 ^ 8)))) fun c6 =>
 some ⟨(.d (.v (.int .i64 (IntKind.wrap .i64 ((IntKind.wrap .i64 ((IntKind.wrap .i64 (0 + 16)) + 8)) + (IntKind.wrap .i64 (c6.toNat : Int))))))), []⟩)) else (
 tst (decide (0 ≤ (IntKind.wrap .u8 (Int.fdiv n1 (2 ^ 16))))) (
 byteAt ({ data := #[0, 1, 2, 2, 3, 3, 3, 3, 4, 4, 4, 4, 4, 4, 4, 4, 5, 5, 5, 5, 5, 5, 5, 5, 5, 5, 5, 5, 5, 5, 5, 5, 6, 6, 6, 6, 6, 6, 6, 6, 6, 6, 6, 6, 6, 6, 6, 6, 6, 6, 6, 6, 6, 6, 6, 6, 6, 6, 6, 6, 6, 6, 6, 6, 7, 7, 7, 7, 7, 7, 7, 7, 7, 7, 7, 7, 7, 7, 7, 7, 7, 7, 7, 7, 7, 7, 7, 7, 7, 7, 7, 7, 7, 7, 7, 7, 7, 7, 7, 7, 7, 7, 7, 7, 7, 7, 7, 7, 7, 7, 7, 7, 7, 7, 7, 7, 7, 7, 7, 7, 7, 7, 7, 7, 7, 7, 7, 7, 8, 8, 8, 8, 8, 8, 8, 8, 8, 8, 8, 8, 8, 8, 8, 8, 8, 8, 8, 8, 8, 8, 8, 8, 8, 8, 8, 8, 8, 8, 8, 8, 8, 8, 8, 8, 8, 8, 8, 8, 8, 8, 8, 8, 8, 8, 8, 8, 8, 8, 8, 8, 8, 8, 8, 8, 8, 8, 8, 8, 8, 8, 8, 8, 8, 8, 8, 8, 8, 8, 8, 8, 8, 8, 8, 8, 8, 8, 8, 8, 8, 8, 8, 8, 8, 8, 8, 8, 8, 8, 8, 8, 8, 8, 8, 8, 8, 8, 8, 8, 8, 8, 8, 8, 8, 8, 8, 8, 8, 8, 8, 8, 8, 8, 8, 8, 8, 8, 8, 8, 8, 8, 8, 8, 8, 8, 8, 8] } : ByteArray) (Int.toNat (IntKind.wrap .u8 (Int.fdiv n1 (2 ^ 16)))) fun c7 =>
 some ⟨(.d (.v (.int .i64 (IntKind.wrap .i64 ((IntKind.wrap .i64 (0 + 16)) + (IntKind.wrap .i64 (c7.toNat : Int))))))), []⟩))) else (
 bif (decide (n1 ≥ 256)) then (
 tst (decide (0 ≤ (IntKind.wrap .u8 (Int.fdiv n1 (2 ^ 8))))) (
 byteAt ({ data := #[0, 1, 2, 2, 3, 3, 3, 3, 4, 4, 4, 4, 4, 4, 4, 4, 5, 5, 5, 5, 5, 5, 5, 5, 5, 5, 5, 5, 5, 5, 5, 5, 6, 6, 6, 6, 6, 6, 6, 6, 6, 6, 6, 6, 6, 6, 6, 6, 6, 6, 6, 6, 6, 6, 6, 6, 6, 6, 6, 6, 6, 6, 6, 6, 7, 7, 7, 7, 7, 7, 7, 7, 7, 7, 7, 7, 7, 7, 7, 7, 7, 7, 7, 7, 7, 7, 7, 7, 7, 7, 7, 7, 7, 7, 7, 7, 7, 7, 7, 7, 7, 7, 7, 7, 7, 7, 7, 7, 7, 7, 7, 7, 7, 7, 7, 7, 7, 7, 7, 7, 7, 7, 7, 7, 7, 7, 7, 7, 8, 8, 8, 8, 8, 8, 8, 8, 8, 8, 8, 8, 8, 8, 8, 8, 8, 8, 8, 8, 8, 8, 8, 8, 8, 8, 8, 8, 8, 8, 8, 8, 8, 8, 8, 8, 8, 8, 8, 8, 8, 8, 8, 8, 8, 8, 8, 8, 8, 8, 8, 8, 8, 8, 8, 8, 8, 8, 8, 8, 8, 8, 8, 8, 8, 8, 8, 8, 8, 8, 8, 8, 8, 8, 8, 8, 8, 8, 8, 8, 8, 8, 8, 8, 8, 8, 8, 8, 8, 8, 8, 8, 8, 8, 8, 8, 8, 8, 8, 8, 8, 8, 8, 8, 8, 8, 8, 8, 8, 8, 8, 8, 8, 8, 8, 8, 8, 8, 8, 8, 8, 8, 8, 8, 8, 8, 8, 8] } : ByteArray) (Int.toNat (IntKind.wrap .u8 (Int.fdiv n1 (2 ^ 8)))) fun c8 =>
 some ⟨(.d (.v (.int .i64 (IntKind.wrap .i64 ((IntKind.wrap .i64 (0 + 8)) + (IntKind.wrap .i64 (c8.toNat : Int))))))), []⟩)) else (
 tst (decide (0 ≤ (IntKind.wrap .u8 n1))) (
 byteAt ({ data := #[0, 1, 2, 2, 3, 3, 3, 3, 4, 4, 4, 4, 4, 4, 4, 4, 5, 5, 5, 5, 5, 5, 5, 5, 5, 5, 5, 5, 5, 5, 5, 5, 6, 6, 6, 6, 6, 6, 6, 6, 6, 6, 6, 6, 6, 6, 6, 6, 6, 6, 6, 6, 6, 6, 6, 6, 6, 6, 6, 6, 6, 6, 6, 6, 7, 7, 7, 7, 7, 7, 7, 7, 7, 7, 7, 7, 7, 7, 7, 7, 7, 7, 7, 7, 7, 7, 7, 7, 7, 7, 7, 7, 7, 7, 7, 7, 7, 7, 7, 7, 7, 7, 7, 7, 7, 7, 7, 7, 7, 7, 7, 7, 7, 7, 7, 7, 7, 7, 7, 7, 7, 7, 7, 7, 7, 7, 7, 7, 8, 8, 8, 8, 8, 8, 8, 8, 8, 8, 8, 8, 8, 8, 8, 8, 8, 8, 8, 8, 8, 8, 8, 8, 8, 8, 8, 8, 8, 8, 8, 8, 8, 8, 8, 8, 8, 8, 8, 8, 8, 8, 8, 8, 8, 8, 8, 8, 8, 8, 8, 8, 8, 8, 8, 8, 8, 8, 8, 8, 8, 8, 8, 8, 8, 8, 8, 8, 8, 8, 8, 8, 8, 8, 8, 8, 8, 8, 8, 8, 8, 8, 8, 8, 8, 8, 8, 8, 8, 8, 8, 8, 8, 8, 8, 8, 8, 8, 8, 8, 8, 8, 8, 8, 8, 8, 8, 8, 8, 8, 8, 8, 8, 8, 8, 8, 8, 8, 8, 8, 8, 8, 8, 8, 8, 8, 8, 8] } : ByteArray) (Int.toNat (IntKind.wrap .u8 n1)) fun c9 =>
 some ⟨(.d (.v (.int .i64 (IntKind.wrap .i64 (0 + (IntKind.wrap .i64 (c9.toNat : Int))))))), []⟩))))) := by kernel_rfl
/- math/bits.Len -/

def a118 : AFun := ⟨[.rd], false, [.t 2], (
 .seq (.g [oK 2 0]) (
 .seq (.cond (.b false) (.seq (.g [oM 3 0, oQ 4 (.conv (.int .u32) (.t 3)), oC 5 190 [.c kI] [4], oM 2 5]) (
 .ret)) (.skip)) (
 .seq (.g [oM 6 0, oC 7 191 [.c kI] [6], oM 2 7]) (
 .ret))))⟩

theorem a118q (T : Table) (k : Nat) (n1 : Int) : evalF T k a118 [(.d (.v (.int .u64 n1)))] = (
 callT T 191 [(.d (.v (.int .u64 n1)))] fun o2 =>
 oD o2.res fun d3 =>
 dI .i64 d3 fun n4 =>
 some ⟨(.d (.v (.int .i64 n4))), []⟩) := by kernel_rfl
/- slices.nextPowerOfTwo -/

def a229 : AFun := ⟨[.rd], false, [.t 2], (
 .seq (.g [oQ 2 (.mv (.c (.v (.int .u64 0))))]) (
 .seq (.g [oM 3 0, oQ 4 (.conv (.int .u64) (.t 3)), oC 5 118 [.c kI] [4], oQ 6 (.bin .shl (.c (.v (.int .u64 1))) (.t 5)), oM 2 6]) (
 .ret)))⟩

theorem a229q (T : Table) (k : Nat) (n1 : Int) : evalF T k a229 [(.d (.v (.int .i64 n1)))] = (
 callT T 118 [(.d (.v (.int .u64 (IntKind.wrap .u64 n1))))] fun o2 =>
 oD o2.res fun d3 =>
 dI .i64 d3 fun n4 =>
 tst (decide (0 ≤ n4)) (
 some ⟨(.d (.v (.int .u64 (shlI .u64 1 n4)))), []⟩)) := by kernel_rfl
/- (*slices.xorshift).Next -/

def a230 : AFun := ⟨[.lent], false, [.t 2], (
 .seq (.g [oQ 2 (.mv (.c (.v (.int .u64 0))))]) (
 .seq (.dreg [] [(0, oM 3 0), (0, oQ 4 (.more (.nck (.t 3)))), (0, oW 5 (.i .u64) 4), (0, oM 6 0), (0, oQ 7 (.more (.nck (.t 6)))), (0, oW 8 (.i .u64) 7), (0, oQ 9 (.bin .shl (.t 8) (.c (.v (.int .u64 13)))))] [oB 10 .xor 5 9, oQ 11 (.more (.nck (.t 3))), oS (.store 1 (.t 11) (.t 10))]) (
 .seq (.dreg [] [(0, oM 12 0), (0, oQ 13 (.more (.nck (.t 12)))), (0, oW 14 (.i .u64) 13), (0, oM 15 0), (0, oQ 16 (.more (.nck (.t 15)))), (0, oW 17 (.i .u64) 16), (0, oQ 18 (.more (.shr 7 (.t 17))))] [oB 19 .xor 14 18, oQ 20 (.more (.nck (.t 12))), oS (.store 1 (.t 20) (.t 19))]) (
 .seq (.dreg [] [(0, oM 21 0), (0, oQ 22 (.more (.nck (.t 21)))), (0, oW 23 (.i .u64) 22), (0, oM 24 0), (0, oQ 25 (.more (.nck (.t 24)))), (0, oW 26 (.i .u64) 25), (0, oQ 27 (.bin .shl (.t 26) (.c (.v (.int .u64 17)))))] [oB 28 .xor 23 27, oQ 29 (.more (.nck (.t 21))), oS (.store 1 (.t 29) (.t 28))]) (
 .seq (.g [oM 30 0, oQ 31 (.more (.nck (.t 30))), oW 32 (.i .u64) 31, oM 2 32]) (
 .ret))))))⟩

theorem a230q (T : Table) (k : Nat) (n1 : Int) : evalF T k a230 [(.p [(.v (.int .u64 n1))])] = (
 some ⟨(.d (.v (.int .u64 (xorI .u64 (xorI .u64 (xorI .u64 n1 (shlI .u64 n1 13)) (Int.fdiv (xorI .u64 n1 (shlI .u64 n1 13)) (2 ^ 7))) (shlI .u64 (xorI .u64 (xorI .u64 n1 (shlI .u64 n1 13)) (Int.fdiv (xorI .u64 n1 (shlI .u64 n1 13)) (2 ^ 7))) 17))))), [(.p [(.v (.int .u64 (xorI .u64 (xorI .u64 (xorI .u64 n1 (shlI .u64 n1 13)) (Int.fdiv (xorI .u64 n1 (shlI .u64 n1 13)) (2 ^ 7))) (shlI .u64 (xorI .u64 (xorI .u64 n1 (shlI .u64 n1 13)) (Int.fdiv (xorI .u64 n1 (shlI .u64 n1 13)) (2 ^ 7))) 17))))])]⟩) := by kernel_rfl
/- slices.breakPatternsOrdered[int] -/
def b183x0 : ACode := (
 .seq (.seq (.g [oM 26 9, oM 27 1, oM 28 6, oBi 29 .quo 28 4, oBi 30 .mul 29 2, oB 31 .add 27 30, oBi 32 .add 31 1, oB 33 .leq 26 32]) (
 .cond (.t 33) (.skip) (.exit 0))) (
 .seq (.block 1 (.seq (.g [oQ 36 (.call (.f 230) [.lent] false [.c (.i .u64)] [(.t 7)]), oM 37 8, oQ 38 (.bin .sub (.t 37) (.c (.v (.int .u64 1)))), oB 39 .and 36 38, oQ 40 (.conv (.int .i64) (.t 39)), oM 10 40]) (
 .seq (.seq (.g [oM 41 10, oM 42 6, oB 43 .geq 41 42]) (
 .cond (.t 43) (.g [oM 44 10, oM 45 6, oB 46 .sub 44 45, oM 10 46]) (.skip))) (
 .dreg [] [(0, oM 47 0), (0, oM 48 9), (3, oM 49 0), (3, oM 50 1), (3, oM 51 10), (3, oB 52 .add 50 51), (0, oM 53 0), (0, oM 54 1), (0, oM 55 10), (0, oB 56 .add 54 55), (0, oI 57 1 53 56), (0, oW 58 kI 57), (0, oM 59 0), (0, oM 60 9), (0, oI 61 1 59 60), (0, oW 62 kI 61)] [oI 63 1 47 48, oS (.store 1 (.t 63) (.t 58)), oI 64 1 49 52, oS (.store 1 (.t 64) (.t 62))])))) (
 .g [oM 34 9, oBi 35 .add 34 1, oM 9 35])))
def e183x0 : Exits := [((.exit 0), [(0, .o 1)])]
noncomputable def l183x0 (T : Table) (k : Nat) := loopN (evalC ⟨T, [0]⟩ k b183x0 (Ex × List AV)) [0, 1, 6, 7, 8, 9] e183x0
def a183 : AFun := ⟨[.lent, .rd, .rd], false, [], (
 .seq (.g [oM 11 2, oM 12 1, oB 13 .sub 11 12, oM 6 13]) (
 .seq (.g [oM 14 6, oBi 15 .geq 14 8]) (
 .cond (.t 15) (.seq (.g [oM 16 6, oQ 17 (.conv (.int .u64) (.t 16)), oQ 7 (.alloc [(.v (.int .u64 0))]), oS (.store 1 (.t 7) (.t 17))]) (
 .seq (.g [oM 18 6, oC 19 229 [.c (.i .u64)] [18], oM 8 19]) (
 .seq (.g [oM 20 1, oM 21 6, oBi 22 .quo 21 4, oBi 23 .mul 22 2, oB 24 .add 20 23, oBi 25 .sub 24 1, oM 9 25]) (
 .block 0 (.loop [0, 1, 6, 7, 8, 9] e183x0 b183x0))))) (.skip))))⟩
theorem l183x0s (T : Table) (k n : Nat) (l7 : Rows) (n8 : Int) (n9 : Int) (n10 : Int) (n11 : Int) (n12 : Int) : l183x0 T k (n + 1) [(.o 1 l7), (.v (.int .i64 n8)), (.v (.int .i64 n9)), (.b [(.v (.int .u64 n10))]), (.v (.int .u64 n11)), (.v (.int .i64 n12))] = (
 tst (decide (4 ≠ 0)) (
 bif (decide (n12 ≤ (IntKind.wrap .i64 ((IntKind.wrap .i64 (n8 + (IntKind.wrap .i64 ((IntKind.wrap .i64 (Int.tdiv n9 4)) * 2)))) + 1)))) then (
 callT T 230 [(.p [(.v (.int .u64 n10))])] fun o13 =>
 nth o13.back 0 fun i14 =>
 oP i14 fun r15 =>
 tst (Nat.beq r15.length 1) (
 cI .u64 r15 0 fun n16 =>
 oD o13.res fun d17 =>
 dI .u64 d17 fun n18 =>
 bif (decide ((IntKind.wrap .i64 (andI .u64 n18 (IntKind.wrap .u64 (n11 - 1)))) ≥ n9)) then (
 tst (decide (0 ≤ (IntKind.wrap .i64 (n8 + (IntKind.wrap .i64 ((IntKind.wrap .i64 (andI .u64 n18 (IntKind.wrap .u64 (n11 - 1)))) - n9))))) && decide (Int.toNat (IntKind.wrap .i64 (n8 + (IntKind.wrap .i64 ((IntKind.wrap .i64 (andI .u64 n18 (IntKind.wrap .u64 (n11 - 1)))) - n9)))) < l7.length)) (
 look l7 (Int.toNat (IntKind.wrap .i64 (n8 + (IntKind.wrap .i64 ((IntKind.wrap .i64 (andI .u64 n18 (IntKind.wrap .u64 (n11 - 1)))) - n9))))) fun r19 =>
 cI .i64 r19 0 fun n20 =>
 tst (decide (0 ≤ n12) && decide (Int.toNat n12 < l7.length)) (
 look l7 (Int.toNat n12) fun r21 =>
 cI .i64 r21 0 fun n22 =>
 tst (decide (0 ≤ n12) && decide (Int.toNat n12 < l7.length)) (
 tst (decide (0 ≤ (IntKind.wrap .i64 (n8 + (IntKind.wrap .i64 ((IntKind.wrap .i64 (andI .u64 n18 (IntKind.wrap .u64 (n11 - 1)))) - n9))))) && decide (Int.toNat (IntKind.wrap .i64 (n8 + (IntKind.wrap .i64 ((IntKind.wrap .i64 (andI .u64 n18 (IntKind.wrap .u64 (n11 - 1)))) - n9)))) < (setD l7 (Int.toNat n12) 0 (.v (.int .i64 n20))).length)) (
 l183x0 T k n [(.o 1 (setD (setD l7 (Int.toNat n12) 0 (.v (.int .i64 n20))) (Int.toNat (IntKind.wrap .i64 (n8 + (IntKind.wrap .i64 ((IntKind.wrap .i64 (andI .u64 n18 (IntKind.wrap .u64 (n11 - 1)))) - n9))))) 0 (.v (.int .i64 n22)))), (.v (.int .i64 n8)), (.v (.int .i64 n9)), (.b [(.v (.int .u64 n16))]), (.v (.int .u64 n11)), (.v (.int .i64 (IntKind.wrap .i64 (n12 + 1))))]))))) else (
 tst (decide (0 ≤ (IntKind.wrap .i64 (n8 + (IntKind.wrap .i64 (andI .u64 n18 (IntKind.wrap .u64 (n11 - 1))))))) && decide (Int.toNat (IntKind.wrap .i64 (n8 + (IntKind.wrap .i64 (andI .u64 n18 (IntKind.wrap .u64 (n11 - 1)))))) < l7.length)) (
 look l7 (Int.toNat (IntKind.wrap .i64 (n8 + (IntKind.wrap .i64 (andI .u64 n18 (IntKind.wrap .u64 (n11 - 1))))))) fun r23 =>
 cI .i64 r23 0 fun n24 =>
 tst (decide (0 ≤ n12) && decide (Int.toNat n12 < l7.length)) (
 look l7 (Int.toNat n12) fun r25 =>
 cI .i64 r25 0 fun n26 =>
 tst (decide (0 ≤ n12) && decide (Int.toNat n12 < l7.length)) (
 tst (decide (0 ≤ (IntKind.wrap .i64 (n8 + (IntKind.wrap .i64 (andI .u64 n18 (IntKind.wrap .u64 (n11 - 1))))))) && decide (Int.toNat (IntKind.wrap .i64 (n8 + (IntKind.wrap .i64 (andI .u64 n18 (IntKind.wrap .u64 (n11 - 1)))))) < (setD l7 (Int.toNat n12) 0 (.v (.int .i64 n24))).length)) (
 l183x0 T k n [(.o 1 (setD (setD l7 (Int.toNat n12) 0 (.v (.int .i64 n24))) (Int.toNat (IntKind.wrap .i64 (n8 + (IntKind.wrap .i64 (andI .u64 n18 (IntKind.wrap .u64 (n11 - 1))))))) 0 (.v (.int .i64 n26)))), (.v (.int .i64 n8)), (.v (.int .i64 n9)), (.b [(.v (.int .u64 n16))]), (.v (.int .u64 n11)), (.v (.int .i64 (IntKind.wrap .i64 (n12 + 1))))]))))))) else (
 some ((.exit 0), [(.o 1 l7)])))) := by kernel_rfl
theorem a183q (T : Table) (k : Nat) (l1 : Rows) (n2 : Int) (n3 : Int) : evalF T k a183 [(.d (.s 1 l1)), (.d (.v (.int .i64 n2))), (.d (.v (.int .i64 n3)))] = (
 bif (decide ((IntKind.wrap .i64 (n3 - n2)) ≥ 8)) then (
 callT T 229 [(.d (.v (.int .i64 (IntKind.wrap .i64 (n3 - n2)))))] fun o4 =>
 oD o4.res fun d5 =>
 dI .u64 d5 fun n6 =>
 tst (decide (4 ≠ 0)) (
 aft (l183x0 T k k [(.o 1 l1), (.v (.int .i64 n2)), (.v (.int .i64 (IntKind.wrap .i64 (n3 - n2)))), (.b [(.v (.int .u64 (IntKind.wrap .u64 (IntKind.wrap .i64 (n3 - n2)))))]), (.v (.int .u64 n6)), (.v (.int .i64 (IntKind.wrap .i64 ((IntKind.wrap .i64 (n2 + (IntKind.wrap .i64 ((IntKind.wrap .i64 (Int.tdiv (IntKind.wrap .i64 (n3 - n2)) 4)) * 2)))) - 1))))]) fun e27 ys28 =>
 bif e27.same (.exit 0) then (
 aV ys28 0 fun x29 =>
 aO 1 x29 fun l30 =>
 some ⟨(.t []), [(.d (.s 1 l30))]⟩) else (
 none))) else (
 some ⟨(.t []), [(.d (.s 1 l1))]⟩)) := by kernel_rfl
/- slices.order2Ordered[int] -/

def a256 : AFun := ⟨[.rd, .rd, .rd, .lent], false, [.t 8, .t 9], (
 .seq (.g [oK 8 0, oK 9 0]) (
 .seq (.seq (.dreg [] [(0, oM 10 0), (0, oM 11 2), (0, oI 12 1 10 11), (0, oW 13 kI 12), (0, oM 14 0), (0, oM 15 1), (0, oI 16 1 14 15), (0, oW 17 kI 16)] [oC 18 187 [.c .b] [13, 17]]) (
 .cond (.t 18) (.seq (.g [oM 19 3, oQ 20 (.more (.nck (.t 19))), oW 21 kI 20, oBi 22 .add 21 1, oQ 23 (.more (.nck (.t 19))), oS (.store 1 (.t 23) (.t 22))]) (
 .seq (.g [oM 24 2, oM 25 1, oM 8 24, oM 9 25]) (
 .ret))) (.skip))) (
 .seq (.g [oM 26 1, oM 27 2, oM 8 26, oM 9 27]) (
 .ret))))⟩

theorem a256q (T : Table) (k : Nat) (l1 : Rows) (n2 : Int) (n3 : Int) (n4 : Int) : evalF T k a256 [(.d (.s 1 l1)), (.d (.v (.int .i64 n2))), (.d (.v (.int .i64 n3))), (.p [(.v (.int .i64 n4))])] = (
 tst (decide (0 ≤ n3)) (
 look l1 (Int.toNat n3) fun r5 =>
 cI .i64 r5 0 fun n6 =>
 tst (decide (0 ≤ n2)) (
 look l1 (Int.toNat n2) fun r7 =>
 cI .i64 r7 0 fun n8 =>
 callT T 187 [(.d (.v (.int .i64 n6))), (.d (.v (.int .i64 n8)))] fun o9 =>
 oD o9.res fun d10 =>
 dB d10 fun b11 =>
 bif b11 then (
 some ⟨(.t [(.d (.v (.int .i64 n3))), (.d (.v (.int .i64 n2)))]), [(.p [(.v (.int .i64 (IntKind.wrap .i64 (n4 + 1))))])]⟩) else (
 some ⟨(.t [(.d (.v (.int .i64 n2))), (.d (.v (.int .i64 n3)))]), [(.p [(.v (.int .i64 n4))])]⟩)))) := by kernel_rfl
/- slices.medianOrdered[int] -/

def a232 : AFun := ⟨[.rd, .rd, .rd, .rd, .lent], false, [.t 10], (
 .seq (.g [oK 10 0]) (
 .seq (.g [oM 12 0, oM 13 1, oM 14 2, oM 15 4, oQ 16 (.call (.f 256) [.rd, .rd, .rd, .lent] false [.c kI, .c kI] [(.t 12), (.t 13), (.t 14), (.t 15)]), oM 11 16, oX 17 11 0, oX 18 11 1, oM 1 17, oM 2 18]) (
 .seq (.g [oM 20 0, oM 21 2, oM 22 3, oM 23 4, oQ 24 (.call (.f 256) [.rd, .rd, .rd, .lent] false [.c kI, .c kI] [(.t 20), (.t 21), (.t 22), (.t 23)]), oM 19 24, oX 25 19 0, oX 26 19 1, oM 2 25, oM 3 26]) (
 .seq (.g [oM 28 0, oM 29 1, oM 30 2, oM 31 4, oQ 32 (.call (.f 256) [.rd, .rd, .rd, .lent] false [.c kI, .c kI] [(.t 28), (.t 29), (.t 30), (.t 31)]), oM 27 32, oX 33 27 0, oX 34 27 1, oM 1 33, oM 2 34]) (
 .seq (.g [oM 35 2, oM 10 35]) (
 .ret))))))⟩

theorem a232q (T : Table) (k : Nat) (l1 : Rows) (n2 : Int) (n3 : Int) (n4 : Int) (n5 : Int) : evalF T k a232 [(.d (.s 1 l1)), (.d (.v (.int .i64 n2))), (.d (.v (.int .i64 n3))), (.d (.v (.int .i64 n4))), (.p [(.v (.int .i64 n5))])] = (
 callT T 256 [(.d (.s 1 l1)), (.d (.v (.int .i64 n2))), (.d (.v (.int .i64 n3))), (.p [(.v (.int .i64 n5))])] fun o6 =>
 nth o6.back 0 fun i7 =>
 oP i7 fun r8 =>
 tst (Nat.beq r8.length 1) (
 cI .i64 r8 0 fun n9 =>
 oT o6.res fun is10 =>
 tst (Nat.beq is10.length 2) (
 nth is10 0 fun i11 =>
 oD i11 fun d12 =>
 dI .i64 d12 fun n13 =>
 nth is10 1 fun i14 =>
 oD i14 fun d15 =>
 dI .i64 d15 fun n16 =>
 callT T 256 [(.d (.s 1 l1)), (.d (.v (.int .i64 n16))), (.d (.v (.int .i64 n4))), (.p [(.v (.int .i64 n9))])] fun o17 =>
 nth o17.back 0 fun i18 =>
 oP i18 fun r19 =>
 tst (Nat.beq r19.length 1) (
 cI .i64 r19 0 fun n20 =>
 oT o17.res fun is21 =>
 tst (Nat.beq is21.length 2) (
 nth is21 0 fun i22 =>
 oD i22 fun d23 =>
 dI .i64 d23 fun n24 =>
 nth is21 1 fun i25 =>
 oD i25 fun d26 =>
 dI .i64 d26 fun n27 =>
 callT T 256 [(.d (.s 1 l1)), (.d (.v (.int .i64 n13))), (.d (.v (.int .i64 n24))), (.p [(.v (.int .i64 n20))])] fun o28 =>
 nth o28.back 0 fun i29 =>
 oP i29 fun r30 =>
 tst (Nat.beq r30.length 1) (
 cI .i64 r30 0 fun n31 =>
 oT o28.res fun is32 =>
 tst (Nat.beq is32.length 2) (
 nth is32 0 fun i33 =>
 oD i33 fun d34 =>
 dI .i64 d34 fun n35 =>
 nth is32 1 fun i36 =>
 oD i36 fun d37 =>
 dI .i64 d37 fun n38 =>
 some ⟨(.d (.v (.int .i64 n38))), [(.p [(.v (.int .i64 n31))])]⟩))))))) := by kernel_rfl
/- slices.medianAdjacentOrdered[int] -/

def a231 : AFun := ⟨[.rd, .rd, .lent], false, [.t 6], (
 .seq (.g [oK 6 0]) (
 .seq (.g [oM 7 0, oM 8 1, oBi 9 .sub 8 1, oM 10 1, oM 11 1, oBi 12 .add 11 1, oM 13 2, oQ 14 (.call (.f 232) [.rd, .rd, .rd, .rd, .lent] false [.c kI] [(.t 7), (.t 9), (.t 10), (.t 12), (.t 13)]), oM 6 14]) (
 .ret)))⟩

theorem a231q (T : Table) (k : Nat) (l1 : Rows) (n2 : Int) (n3 : Int) : evalF T k a231 [(.d (.s 1 l1)), (.d (.v (.int .i64 n2))), (.p [(.v (.int .i64 n3))])] = (
 callT T 232 [(.d (.s 1 l1)), (.d (.v (.int .i64 (IntKind.wrap .i64 (n2 - 1))))), (.d (.v (.int .i64 n2))), (.d (.v (.int .i64 (IntKind.wrap .i64 (n2 + 1))))), (.p [(.v (.int .i64 n3))])] fun o4 =>
 nth o4.back 0 fun i5 =>
 oP i5 fun r6 =>
 tst (Nat.beq r6.length 1) (
 cI .i64 r6 0 fun n7 =>
 oD o4.res fun d8 =>
 dI .i64 d8 fun n9 =>
 some ⟨(.d (.v (.int .i64 n9))), [(.p [(.v (.int .i64 n7))])]⟩)) := by kernel_rfl
/- slices.choosePivotOrdered[int] -/

def a184 : AFun := ⟨[.rd, .rd, .rd], false, [.t 6, .t 7], (
 .seq (.g [oK 6 0, oK 7 0]) (
 .seq (.g [oM 13 2, oM 14 1, oB 15 .sub 13 14, oM 8 15]) (
 .seq (.g [oQ 9 (.alloc [(.v (.int .i64 0))])]) (
 .seq (.g [oM 16 1, oM 17 8, oBi 18 .quo 17 4, oBi 19 .mul 18 1, oB 20 .add 16 19, oM 10 20]) (
 .seq (.g [oM 21 1, oM 22 8, oBi 23 .quo 22 4, oBi 24 .mul 23 2, oB 25 .add 21 24, oM 11 25]) (
 .seq (.g [oM 26 1, oM 27 8, oBi 28 .quo 27 4, oBi 29 .mul 28 3, oB 30 .add 26 29, oM 12 30]) (
 .seq (.seq (.g [oM 31 8, oBi 32 .geq 31 8]) (
 .cond (.t 32) (.seq (.seq (.g [oM 33 8, oBi 34 .geq 33 50]) (
 .cond (.t 34) (.seq (.g [oM 35 0, oM 36 10, oQ 37 (.call (.f 231) [.rd, .rd, .lent] false [.c kI] [(.t 35), (.t 36), (.t 9)]), oM 10 37]) (
 .seq (.g [oM 38 0, oM 39 11, oQ 40 (.call (.f 231) [.rd, .rd, .lent] false [.c kI] [(.t 38), (.t 39), (.t 9)]), oM 11 40]) (
 .g [oM 41 0, oM 42 12, oQ 43 (.call (.f 231) [.rd, .rd, .lent] false [.c kI] [(.t 41), (.t 42), (.t 9)]), oM 12 43]))) (.skip))) (
 .g [oM 44 0, oM 45 10, oM 46 11, oM 47 12, oQ 48 (.call (.f 232) [.rd, .rd, .rd, .rd, .lent] false [.c kI] [(.t 44), (.t 45), (.t 46), (.t 47), (.t 9)]), oM 11 48])) (.skip))) (
 .seq (.g [oW 49 kI 9]) (
 .block 0 (.seq (.g [oBi 52 .eql 49 0, oM 51 52]) (
 .cond (.t 51) (.seq (.g [oM 53 11, oM 6 53, oK 7 1]) (
 .ret)) (.seq (.g [oBi 55 .eql 49 12, oM 54 55]) (
 .cond (.t 54) (.seq (.g [oM 56 11, oM 6 56, oK 7 2]) (
 .ret)) (.seq (.g [oM 50 11, oM 6 50, oK 7 0]) (
 .ret)))))))))))))))⟩

theorem a184q (T : Table) (k : Nat) (l1 : Rows) (n2 : Int) (n3 : Int) : evalF T k a184 [(.d (.s 1 l1)), (.d (.v (.int .i64 n2))), (.d (.v (.int .i64 n3)))] = (
 tst (decide (4 ≠ 0)) (
 tst (decide (4 ≠ 0)) (
 tst (decide (4 ≠ 0)) (
 bif (decide ((IntKind.wrap .i64 (n3 - n2)) ≥ 8)) then (
 bif (decide ((IntKind.wrap .i64 (n3 - n2)) ≥ 50)) then (
 callT T 231 [(.d (.s 1 l1)), (.d (.v (.int .i64 (IntKind.wrap .i64 (n2 + (IntKind.wrap .i64 ((IntKind.wrap .i64 (Int.tdiv (IntKind.wrap .i64 (n3 - n2)) 4)) * 1))))))), (.p [(.v (.int .i64 0))])] fun o4 =>
 nth o4.back 0 fun i5 =>
 oP i5 fun r6 =>
 tst (Nat.beq r6.length 1) (
 cI .i64 r6 0 fun n7 =>
 oD o4.res fun d8 =>
 dI .i64 d8 fun n9 =>
 callT T 231 [(.d (.s 1 l1)), (.d (.v (.int .i64 (IntKind.wrap .i64 (n2 + (IntKind.wrap .i64 ((IntKind.wrap .i64 (Int.tdiv (IntKind.wrap .i64 (n3 - n2)) 4)) * 2))))))), (.p [(.v (.int .i64 n7))])] fun o10 =>
 nth o10.back 0 fun i11 =>
 oP i11 fun r12 =>
 tst (Nat.beq r12.length 1) (
 cI .i64 r12 0 fun n13 =>
 oD o10.res fun d14 =>
 dI .i64 d14 fun n15 =>
 callT T 231 [(.d (.s 1 l1)), (.d (.v (.int .i64 (IntKind.wrap .i64 (n2 + (IntKind.wrap .i64 ((IntKind.wrap .i64 (Int.tdiv (IntKind.wrap .i64 (n3 - n2)) 4)) * 3))))))), (.p [(.v (.int .i64 n13))])] fun o16 =>
 nth o16.back 0 fun i17 =>
 oP i17 fun r18 =>
 tst (Nat.beq r18.length 1) (
 cI .i64 r18 0 fun n19 =>
 oD o16.res fun d20 =>
 dI .i64 d20 fun n21 =>
 callT T 232 [(.d (.s 1 l1)), (.d (.v (.int .i64 n9))), (.d (.v (.int .i64 n15))), (.d (.v (.int .i64 n21))), (.p [(.v (.int .i64 n19))])] fun o22 =>
 nth o22.back 0 fun i23 =>
 oP i23 fun r24 =>
 tst (Nat.beq r24.length 1) (
 cI .i64 r24 0 fun n25 =>
 oD o22.res fun d26 =>
 dI .i64 d26 fun n27 =>
 bif (n25 == 0) then (
 some ⟨(.t [(.d (.v (.int .i64 n27))), (.d (.v (.int .i64 1)))]), []⟩) else (
 bif (n25 == 12) then (
 some ⟨(.t [(.d (.v (.int .i64 n27))), (.d (.v (.int .i64 2)))]), []⟩) else (
 some ⟨(.t [(.d (.v (.int .i64 n27))), (.d (.v (.int .i64 0)))]), []⟩))))))) else (
 callT T 232 [(.d (.s 1 l1)), (.d (.v (.int .i64 (IntKind.wrap .i64 (n2 + (IntKind.wrap .i64 ((IntKind.wrap .i64 (Int.tdiv (IntKind.wrap .i64 (n3 - n2)) 4)) * 1))))))), (.d (.v (.int .i64 (IntKind.wrap .i64 (n2 + (IntKind.wrap .i64 ((IntKind.wrap .i64 (Int.tdiv (IntKind.wrap .i64 (n3 - n2)) 4)) * 2))))))), (.d (.v (.int .i64 (IntKind.wrap .i64 (n2 + (IntKind.wrap .i64 ((IntKind.wrap .i64 (Int.tdiv (IntKind.wrap .i64 (n3 - n2)) 4)) * 3))))))), (.p [(.v (.int .i64 0))])] fun o28 =>
 nth o28.back 0 fun i29 =>
 oP i29 fun r30 =>
 tst (Nat.beq r30.length 1) (
 cI .i64 r30 0 fun n31 =>
 oD o28.res fun d32 =>
 dI .i64 d32 fun n33 =>
 bif (n31 == 0) then (
 some ⟨(.t [(.d (.v (.int .i64 n33))), (.d (.v (.int .i64 1)))]), []⟩) else (
 bif (n31 == 12) then (
 some ⟨(.t [(.d (.v (.int .i64 n33))), (.d (.v (.int .i64 2)))]), []⟩) else (
 some ⟨(.t [(.d (.v (.int .i64 n33))), (.d (.v (.int .i64 0)))]), []⟩))))) else (
 bif (0 == 0) then (
 some ⟨(.t [(.d (.v (.int .i64 (IntKind.wrap .i64 (n2 + (IntKind.wrap .i64 ((IntKind.wrap .i64 (Int.tdiv (IntKind.wrap .i64 (n3 - n2)) 4)) * 2))))))), (.d (.v (.int .i64 1)))]), []⟩) else (
 bif (0 == 12) then (
 some ⟨(.t [(.d (.v (.int .i64 (IntKind.wrap .i64 (n2 + (IntKind.wrap .i64 ((IntKind.wrap .i64 (Int.tdiv (IntKind.wrap .i64 (n3 - n2)) 4)) * 2))))))), (.d (.v (.int .i64 2)))]), []⟩) else (
 some ⟨(.t [(.d (.v (.int .i64 (IntKind.wrap .i64 (n2 + (IntKind.wrap .i64 ((IntKind.wrap .i64 (Int.tdiv (IntKind.wrap .i64 (n3 - n2)) 4)) * 2))))))), (.d (.v (.int .i64 0)))]), []⟩))))))) := by kernel_rfl
/- slices.reverseRangeOrdered[int] -/
def b185x0 : ACode := (
 .seq (.seq (.g [oM 11 6, oM 12 7, oB 13 .lss 11 12]) (
 .cond (.t 13) (.skip) (.exit 0))) (
 .block 1 (.seq (.dreg [] [(0, oM 14 0), (0, oM 15 6), (3, oM 16 0), (3, oM 17 7), (0, oM 18 0), (0, oM 19 7), (0, oI 20 1 18 19), (0, oW 21 kI 20), (0, oM 22 0), (0, oM 23 6), (0, oI 24 1 22 23), (0, oW 25 kI 24)] [oI 26 1 14 15, oS (.store 1 (.t 26) (.t 21)), oI 27 1 16 17, oS (.store 1 (.t 27) (.t 25))]) (
 .seq (.g [oM 28 6, oBi 29 .add 28 1, oM 6 29]) (
 .g [oM 30 7, oBi 31 .sub 30 1, oM 7 31])))))
def e185x0 : Exits := [((.exit 0), [(0, .o 1)])]
noncomputable def l185x0 (T : Table) (k : Nat) := loopN (evalC ⟨T, [0]⟩ k b185x0 (Ex × List AV)) [0, 6, 7] e185x0
def a185 : AFun := ⟨[.lent, .rd, .rd], false, [], (
 .seq (.g [oM 8 1, oM 6 8]) (
 .seq (.g [oM 9 2, oBi 10 .sub 9 1, oM 7 10]) (
 .block 0 (.loop [0, 6, 7] e185x0 b185x0))))⟩
theorem l185x0s (T : Table) (k n : Nat) (l4 : Rows) (n5 : Int) (n6 : Int) : l185x0 T k (n + 1) [(.o 1 l4), (.v (.int .i64 n5)), (.v (.int .i64 n6))] = (
 bif (decide (n5 < n6)) then (
 tst (decide (0 ≤ n6) && decide (Int.toNat n6 < l4.length)) (
 look l4 (Int.toNat n6) fun r7 =>
 cI .i64 r7 0 fun n8 =>
 tst (decide (0 ≤ n5) && decide (Int.toNat n5 < l4.length)) (
 look l4 (Int.toNat n5) fun r9 =>
 cI .i64 r9 0 fun n10 =>
 tst (decide (0 ≤ n5) && decide (Int.toNat n5 < l4.length)) (
 tst (decide (0 ≤ n6) && decide (Int.toNat n6 < (setD l4 (Int.toNat n5) 0 (.v (.int .i64 n8))).length)) (
 l185x0 T k n [(.o 1 (setD (setD l4 (Int.toNat n5) 0 (.v (.int .i64 n8))) (Int.toNat n6) 0 (.v (.int .i64 n10)))), (.v (.int .i64 (IntKind.wrap .i64 (n5 + 1)))), (.v (.int .i64 (IntKind.wrap .i64 (n6 - 1))))]))))) else (
 some ((.exit 0), [(.o 1 l4)]))) := by kernel_rfl
theorem a185q (T : Table) (k : Nat) (l1 : Rows) (n2 : Int) (n3 : Int) : evalF T k a185 [(.d (.s 1 l1)), (.d (.v (.int .i64 n2))), (.d (.v (.int .i64 n3)))] = (
 aft (l185x0 T k k [(.o 1 l1), (.v (.int .i64 n2)), (.v (.int .i64 (IntKind.wrap .i64 (n3 - 1))))]) fun e11 ys12 =>
 bif e11.same (.exit 0) then (
 aV ys12 0 fun x13 =>
 aO 1 x13 fun l14 =>
 some ⟨(.t []), [(.d (.s 1 l14))]⟩) else (
 none)) := by kernel_rfl
/- slices.partialInsertionSortOrdered[int] -/
def b186x1 : ACode := (
 .seq (.seq (.dreg [] [(0, oM 17 7), (0, oM 18 2), (0, oB 19 .lss 17 18), (0, oM 20 19), (0, oJ 21 20 true (.mv (.t 0))), (0, oJ 22 20 true (.mv (.t 7))), (0, oJ 23 20 true (.iad 1 (.t 21) (.t 22))), (0, oJ 24 20 true (.load false [kI] (.t 23))), (0, oJ 25 20 true (.mv (.t 0))), (0, oJ 26 20 true (.mv (.t 7))), (0, oJ 27 20 true (.bin .sub (.t 26) (.i 1))), (0, oJ 28 20 true (.iad 1 (.t 25) (.t 27))), (0, oJ 29 20 true (.load false [kI] (.t 28)))] [oJ 30 20 true (.call (.f 187) [.rd, .rd] false [.c .b] [(.t 24), (.t 29)]), oJ 31 20 true (.un .not (.t 30)), oQ 32 (.pick (.t 20) (.t 31) (.b false))]) (
 .cond (.t 32) (.skip) (.exit 2))) (
 .block 3 (.g [oM 33 7, oBi 34 .add 33 1, oM 7 34])))
def e186x1 : Exits := [((.exit 2), [(0, .o 1), (1, .c kI), (2, .c kI), (7, .c kI), (8, .c kI)])]
noncomputable def l186x1 (T : Table) (k : Nat) := loopN (evalC ⟨T, [0]⟩ k b186x1 (Ex × List AV)) [0, 1, 2, 7, 8] e186x1
def b186x2 : ACode := (
 .seq (.seq (.g [oM 64 9, oBi 65 .geq 64 1]) (
 .cond (.t 65) (.skip) (.exit 4))) (
 .seq (.block 5 (.seq (.seq (.dreg [] [(0, oM 68 0), (0, oM 69 9), (0, oI 70 1 68 69), (0, oW 71 kI 70), (0, oM 72 0), (0, oM 73 9), (0, oBi 74 .sub 73 1), (0, oI 75 1 72 74), (0, oW 76 kI 75)] [oC 77 187 [.c .b] [71, 76], oN 78 77]) (
 .cond (.t 78) (.exit 4) (.skip))) (
 .dreg [] [(0, oM 79 0), (0, oM 80 9), (3, oM 81 0), (3, oM 82 9), (3, oBi 83 .sub 82 1), (0, oM 84 0), (0, oM 85 9), (0, oBi 86 .sub 85 1), (0, oI 87 1 84 86), (0, oW 88 kI 87), (0, oM 89 0), (0, oM 90 9), (0, oI 91 1 89 90), (0, oW 92 kI 91)] [oI 93 1 79 80, oS (.store 1 (.t 93) (.t 88)), oI 94 1 81 83, oS (.store 1 (.t 94) (.t 92))]))) (
 .g [oM 66 9, oBi 67 .sub 66 1, oM 9 67])))
def e186x2 : Exits := [((.exit 4), [(0, .o 1), (1, .c kI), (2, .c kI), (7, .c kI), (8, .c kI)])]
noncomputable def l186x2 (T : Table) (k : Nat) := loopN (evalC ⟨T, [0]⟩ k b186x2 (Ex × List AV)) [0, 1, 2, 7, 8, 9] e186x2
def b186x3 : ACode := (
 .seq (.seq (.g [oM 101 10, oM 102 2, oB 103 .lss 101 102]) (
 .cond (.t 103) (.skip) (.exit 6))) (
 .seq (.block 7 (.seq (.seq (.dreg [] [(0, oM 106 0), (0, oM 107 10), (0, oI 108 1 106 107), (0, oW 109 kI 108), (0, oM 110 0), (0, oM 111 10), (0, oBi 112 .sub 111 1), (0, oI 113 1 110 112), (0, oW 114 kI 113)] [oC 115 187 [.c .b] [109, 114], oN 116 115]) (
 .cond (.t 116) (.exit 6) (.skip))) (
 .dreg [] [(0, oM 117 0), (0, oM 118 10), (3, oM 119 0), (3, oM 120 10), (3, oBi 121 .sub 120 1), (0, oM 122 0), (0, oM 123 10), (0, oBi 124 .sub 123 1), (0, oI 125 1 122 124), (0, oW 126 kI 125), (0, oM 127 0), (0, oM 128 10), (0, oI 129 1 127 128), (0, oW 130 kI 129)] [oI 131 1 117 118, oS (.store 1 (.t 131) (.t 126)), oI 132 1 119 121, oS (.store 1 (.t 132) (.t 130))]))) (
 .g [oM 104 10, oBi 105 .add 104 1, oM 10 105])))
def e186x3 : Exits := [((.exit 6), [(0, .o 1), (1, .c kI), (2, .c kI), (7, .c kI), (8, .c kI)])]
noncomputable def l186x3 (T : Table) (k : Nat) := loopN (evalC ⟨T, [0]⟩ k b186x3 (Ex × List AV)) [0, 1, 2, 7, 8, 10] e186x3
def b186x0 : ACode := (
 .seq (.seq (.g [oM 13 8, oBi 14 .lss 13 5]) (
 .cond (.t 14) (.skip) (.exit 0))) (
 .seq (.block 1 (.seq (.block 2 (.loop [0, 1, 2, 7, 8] e186x1 b186x1)) (
 .seq (.seq (.g [oM 35 7, oM 36 2, oB 37 .eql 35 36]) (
 .cond (.t 37) (.seq (.g [oV 6 true]) (
 .ret)) (.skip))) (
 .seq (.seq (.g [oM 38 2, oM 39 1, oB 40 .sub 38 39, oBi 41 .lss 40 50]) (
 .cond (.t 41) (.seq (.g [oV 6 false]) (
 .ret)) (.skip))) (
 .seq (.dreg [] [(0, oM 42 0), (0, oM 43 7), (3, oM 44 0), (3, oM 45 7), (3, oBi 46 .sub 45 1), (0, oM 47 0), (0, oM 48 7), (0, oBi 49 .sub 48 1), (0, oI 50 1 47 49), (0, oW 51 kI 50), (0, oM 52 0), (0, oM 53 7), (0, oI 54 1 52 53), (0, oW 55 kI 54)] [oI 56 1 42 43, oS (.store 1 (.t 56) (.t 51)), oI 57 1 44 46, oS (.store 1 (.t 57) (.t 55))]) (
 .seq (.seq (.g [oM 58 7, oM 59 1, oB 60 .sub 58 59, oBi 61 .geq 60 2]) (
 .cond (.t 61) (.seq (.g [oM 62 7, oBi 63 .sub 62 1, oM 9 63]) (
 .block 4 (.loop [0, 1, 2, 7, 8, 9] e186x2 b186x2))) (.skip))) (
 .seq (.g [oM 95 2, oM 96 7, oB 97 .sub 95 96, oBi 98 .geq 97 2]) (
 .cond (.t 98) (.seq (.g [oM 99 7, oBi 100 .add 99 1, oM 10 100]) (
 .block 6 (.loop [0, 1, 2, 7, 8, 10] e186x3 b186x3))) (.skip))))))))) (
 .g [oM 15 8, oBi 16 .add 15 1, oM 8 16])))
def e186x0 : Exits := [(.ret, [(0, .o 1), (6, .c .b)]), ((.exit 0), [(0, .o 1)])]
noncomputable def l186x0 (T : Table) (k : Nat) := loopN (evalC ⟨T, [0]⟩ k b186x0 (Ex × List AV)) [0, 1, 2, 7, 8] e186x0
def a186 : AFun := ⟨[.lent, .rd, .rd], false, [.t 6], (
 .seq (.g [oV 6 false]) (
 .seq (.g [oM 11 1, oBi 12 .add 11 1, oM 7 12]) (
 .seq (.seq (.g [oK 8 0]) (
 .block 0 (.loop [0, 1, 2, 7, 8] e186x0 b186x0))) (
 .seq (.g [oV 6 false]) (
 .ret)))))⟩
theorem l186x1s (T : Table) (k n : Nat) (l9 : Rows) (n10 : Int) (n11 : Int) (n12 : Int) (n13 : Int) : l186x1 T k (n + 1) [(.o 1 l9), (.v (.int .i64 n10)), (.v (.int .i64 n11)), (.v (.int .i64 n12)), (.v (.int .i64 n13))] = (
 bif (decide (n12 < n11)) == true then (
 tst (decide (0 ≤ n12) && decide (Int.toNat n12 < l9.length)) (
 look l9 (Int.toNat n12) fun r14 =>
 cI .i64 r14 0 fun n15 =>
 tst (decide (0 ≤ (IntKind.wrap .i64 (n12 - 1))) && decide (Int.toNat (IntKind.wrap .i64 (n12 - 1)) < l9.length)) (
 look l9 (Int.toNat (IntKind.wrap .i64 (n12 - 1))) fun r16 =>
 cI .i64 r16 0 fun n17 =>
 callT T 187 [(.d (.v (.int .i64 n15))), (.d (.v (.int .i64 n17)))] fun o18 =>
 oD o18.res fun d19 =>
 dB d19 fun b20 =>
 bif (!b20) then (
 l186x1 T k n [(.o 1 l9), (.v (.int .i64 n10)), (.v (.int .i64 n11)), (.v (.int .i64 (IntKind.wrap .i64 (n12 + 1)))), (.v (.int .i64 n13))]) else (
 some ((.exit 2), [(.o 1 l9), (.v (.int .i64 n10)), (.v (.int .i64 n11)), (.v (.int .i64 n12)), (.v (.int .i64 n13))]))))) else (
 some ((.exit 2), [(.o 1 l9), (.v (.int .i64 n10)), (.v (.int .i64 n11)), (.v (.int .i64 n12)), (.v (.int .i64 n13))]))) := by kernel_rfl
theorem l186x2s (T : Table) (k n : Nat) (l37 : Rows) (n38 : Int) (n39 : Int) (n40 : Int) (n41 : Int) (n42 : Int) : l186x2 T k (n + 1) [(.o 1 l37), (.v (.int .i64 n38)), (.v (.int .i64 n39)), (.v (.int .i64 n40)), (.v (.int .i64 n41)), (.v (.int .i64 n42))] = (
 bif (decide (n42 ≥ 1)) then (
 tst (decide (0 ≤ n42) && decide (Int.toNat n42 < l37.length)) (
 look l37 (Int.toNat n42) fun r43 =>
 cI .i64 r43 0 fun n44 =>
 tst (decide (0 ≤ (IntKind.wrap .i64 (n42 - 1))) && decide (Int.toNat (IntKind.wrap .i64 (n42 - 1)) < l37.length)) (
 look l37 (Int.toNat (IntKind.wrap .i64 (n42 - 1))) fun r45 =>
 cI .i64 r45 0 fun n46 =>
 callT T 187 [(.d (.v (.int .i64 n44))), (.d (.v (.int .i64 n46)))] fun o47 =>
 oD o47.res fun d48 =>
 dB d48 fun b49 =>
 bif (!b49) then (
 some ((.exit 4), [(.o 1 l37), (.v (.int .i64 n38)), (.v (.int .i64 n39)), (.v (.int .i64 n40)), (.v (.int .i64 n41))])) else (
 tst (decide (0 ≤ (IntKind.wrap .i64 (n42 - 1))) && decide (Int.toNat (IntKind.wrap .i64 (n42 - 1)) < l37.length)) (
 look l37 (Int.toNat (IntKind.wrap .i64 (n42 - 1))) fun r50 =>
 cI .i64 r50 0 fun n51 =>
 tst (decide (0 ≤ n42) && decide (Int.toNat n42 < l37.length)) (
 look l37 (Int.toNat n42) fun r52 =>
 cI .i64 r52 0 fun n53 =>
 tst (decide (0 ≤ n42) && decide (Int.toNat n42 < l37.length)) (
 tst (decide (0 ≤ (IntKind.wrap .i64 (n42 - 1))) && decide (Int.toNat (IntKind.wrap .i64 (n42 - 1)) < (setD l37 (Int.toNat n42) 0 (.v (.int .i64 n51))).length)) (
 l186x2 T k n [(.o 1 (setD (setD l37 (Int.toNat n42) 0 (.v (.int .i64 n51))) (Int.toNat (IntKind.wrap .i64 (n42 - 1))) 0 (.v (.int .i64 n53)))), (.v (.int .i64 n38)), (.v (.int .i64 n39)), (.v (.int .i64 n40)), (.v (.int .i64 n41)), (.v (.int .i64 (IntKind.wrap .i64 (n42 - 1))))])))))))) else (
 some ((.exit 4), [(.o 1 l37), (.v (.int .i64 n38)), (.v (.int .i64 n39)), (.v (.int .i64 n40)), (.v (.int .i64 n41))]))) := by kernel_rfl
theorem l186x3s (T : Table) (k n : Nat) (l66 : Rows) (n67 : Int) (n68 : Int) (n69 : Int) (n70 : Int) (n71 : Int) : l186x3 T k (n + 1) [(.o 1 l66), (.v (.int .i64 n67)), (.v (.int .i64 n68)), (.v (.int .i64 n69)), (.v (.int .i64 n70)), (.v (.int .i64 n71))] = (
 bif (decide (n71 < n68)) then (
 tst (decide (0 ≤ n71) && decide (Int.toNat n71 < l66.length)) (
 look l66 (Int.toNat n71) fun r72 =>
 cI .i64 r72 0 fun n73 =>
 tst (decide (0 ≤ (IntKind.wrap .i64 (n71 - 1))) && decide (Int.toNat (IntKind.wrap .i64 (n71 - 1)) < l66.length)) (
 look l66 (Int.toNat (IntKind.wrap .i64 (n71 - 1))) fun r74 =>
 cI .i64 r74 0 fun n75 =>
 callT T 187 [(.d (.v (.int .i64 n73))), (.d (.v (.int .i64 n75)))] fun o76 =>
 oD o76.res fun d77 =>
 dB d77 fun b78 =>
 bif (!b78) then (
 some ((.exit 6), [(.o 1 l66), (.v (.int .i64 n67)), (.v (.int .i64 n68)), (.v (.int .i64 n69)), (.v (.int .i64 n70))])) else (
 tst (decide (0 ≤ (IntKind.wrap .i64 (n71 - 1))) && decide (Int.toNat (IntKind.wrap .i64 (n71 - 1)) < l66.length)) (
 look l66 (Int.toNat (IntKind.wrap .i64 (n71 - 1))) fun r79 =>
 cI .i64 r79 0 fun n80 =>
 tst (decide (0 ≤ n71) && decide (Int.toNat n71 < l66.length)) (
 look l66 (Int.toNat n71) fun r81 =>
 cI .i64 r81 0 fun n82 =>
 tst (decide (0 ≤ n71) && decide (Int.toNat n71 < l66.length)) (
 tst (decide (0 ≤ (IntKind.wrap .i64 (n71 - 1))) && decide (Int.toNat (IntKind.wrap .i64 (n71 - 1)) < (setD l66 (Int.toNat n71) 0 (.v (.int .i64 n80))).length)) (
 l186x3 T k n [(.o 1 (setD (setD l66 (Int.toNat n71) 0 (.v (.int .i64 n80))) (Int.toNat (IntKind.wrap .i64 (n71 - 1))) 0 (.v (.int .i64 n82)))), (.v (.int .i64 n67)), (.v (.int .i64 n68)), (.v (.int .i64 n69)), (.v (.int .i64 n70)), (.v (.int .i64 (IntKind.wrap .i64 (n71 + 1))))])))))))) else (
 some ((.exit 6), [(.o 1 l66), (.v (.int .i64 n67)), (.v (.int .i64 n68)), (.v (.int .i64 n69)), (.v (.int .i64 n70))]))) := by kernel_rfl
theorem l186x0s (T : Table) (k n : Nat) (l4 : Rows) (n5 : Int) (n6 : Int) (n7 : Int) (n8 : Int) : l186x0 T k (n + 1) [(.o 1 l4), (.v (.int .i64 n5)), (.v (.int .i64 n6)), (.v (.int .i64 n7)), (.v (.int .i64 n8))] = (
 bif (decide (n8 < 5)) then (
 aft (l186x1 T k k [(.o 1 l4), (.v (.int .i64 n5)), (.v (.int .i64 n6)), (.v (.int .i64 n7)), (.v (.int .i64 n8))]) fun e21 ys22 =>
 bif e21.same (.exit 2) then (
 aV ys22 0 fun x23 =>
 aO 1 x23 fun l24 =>
 aV ys22 1 fun x25 =>
 aI .i64 x25 fun n26 =>
 aV ys22 2 fun x27 =>
 aI .i64 x27 fun n28 =>
 aV ys22 3 fun x29 =>
 aI .i64 x29 fun n30 =>
 aV ys22 4 fun x31 =>
 aI .i64 x31 fun n32 =>
 bif (n30 == n28) then (
 some (.ret, [(.o 1 l24), (.v (.bool true))])) else (
 bif (decide ((IntKind.wrap .i64 (n28 - n26)) < 50)) then (
 some (.ret, [(.o 1 l24), (.v (.bool false))])) else (
 tst (decide (0 ≤ (IntKind.wrap .i64 (n30 - 1))) && decide (Int.toNat (IntKind.wrap .i64 (n30 - 1)) < l24.length)) (
 look l24 (Int.toNat (IntKind.wrap .i64 (n30 - 1))) fun r33 =>
 cI .i64 r33 0 fun n34 =>
 tst (decide (0 ≤ n30) && decide (Int.toNat n30 < l24.length)) (
 look l24 (Int.toNat n30) fun r35 =>
 cI .i64 r35 0 fun n36 =>
 tst (decide (0 ≤ n30) && decide (Int.toNat n30 < l24.length)) (
 tst (decide (0 ≤ (IntKind.wrap .i64 (n30 - 1))) && decide (Int.toNat (IntKind.wrap .i64 (n30 - 1)) < (setD l24 (Int.toNat n30) 0 (.v (.int .i64 n34))).length)) (
 bif (decide ((IntKind.wrap .i64 (n30 - n26)) ≥ 2)) then (
 aft (l186x2 T k k [(.o 1 (setD (setD l24 (Int.toNat n30) 0 (.v (.int .i64 n34))) (Int.toNat (IntKind.wrap .i64 (n30 - 1))) 0 (.v (.int .i64 n36)))), (.v (.int .i64 n26)), (.v (.int .i64 n28)), (.v (.int .i64 n30)), (.v (.int .i64 n32)), (.v (.int .i64 (IntKind.wrap .i64 (n30 - 1))))]) fun e54 ys55 =>
 bif e54.same (.exit 4) then (
 aV ys55 0 fun x56 =>
 aO 1 x56 fun l57 =>
 aV ys55 1 fun x58 =>
 aI .i64 x58 fun n59 =>
 aV ys55 2 fun x60 =>
 aI .i64 x60 fun n61 =>
 aV ys55 3 fun x62 =>
 aI .i64 x62 fun n63 =>
 aV ys55 4 fun x64 =>
 aI .i64 x64 fun n65 =>
 bif (decide ((IntKind.wrap .i64 (n61 - n63)) ≥ 2)) then (
 aft (l186x3 T k k [(.o 1 l57), (.v (.int .i64 n59)), (.v (.int .i64 n61)), (.v (.int .i64 n63)), (.v (.int .i64 n65)), (.v (.int .i64 (IntKind.wrap .i64 (n63 + 1))))]) fun e83 ys84 =>
 bif e83.same (.exit 6) then (
 aV ys84 0 fun x85 =>
 aO 1 x85 fun l86 =>
 aV ys84 1 fun x87 =>
 aI .i64 x87 fun n88 =>
 aV ys84 2 fun x89 =>
 aI .i64 x89 fun n90 =>
 aV ys84 3 fun x91 =>
 aI .i64 x91 fun n92 =>
 aV ys84 4 fun x93 =>
 aI .i64 x93 fun n94 =>
 l186x0 T k n [(.o 1 l86), (.v (.int .i64 n88)), (.v (.int .i64 n90)), (.v (.int .i64 n92)), (.v (.int .i64 (IntKind.wrap .i64 (n94 + 1))))]) else (
 none)) else (
 l186x0 T k n [(.o 1 l57), (.v (.int .i64 n59)), (.v (.int .i64 n61)), (.v (.int .i64 n63)), (.v (.int .i64 (IntKind.wrap .i64 (n65 + 1))))])) else (
 none)) else (
 bif (decide ((IntKind.wrap .i64 (n28 - n30)) ≥ 2)) then (
 aft (l186x3 T k k [(.o 1 (setD (setD l24 (Int.toNat n30) 0 (.v (.int .i64 n34))) (Int.toNat (IntKind.wrap .i64 (n30 - 1))) 0 (.v (.int .i64 n36)))), (.v (.int .i64 n26)), (.v (.int .i64 n28)), (.v (.int .i64 n30)), (.v (.int .i64 n32)), (.v (.int .i64 (IntKind.wrap .i64 (n30 + 1))))]) fun e95 ys96 =>
 bif e95.same (.exit 6) then (
 aV ys96 0 fun x97 =>
 aO 1 x97 fun l98 =>
 aV ys96 1 fun x99 =>
 aI .i64 x99 fun n100 =>
 aV ys96 2 fun x101 =>
 aI .i64 x101 fun n102 =>
 aV ys96 3 fun x103 =>
 aI .i64 x103 fun n104 =>
 aV ys96 4 fun x105 =>
 aI .i64 x105 fun n106 =>
 l186x0 T k n [(.o 1 l98), (.v (.int .i64 n100)), (.v (.int .i64 n102)), (.v (.int .i64 n104)), (.v (.int .i64 (IntKind.wrap .i64 (n106 + 1))))]) else (
 none)) else (
 l186x0 T k n [(.o 1 (setD (setD l24 (Int.toNat n30) 0 (.v (.int .i64 n34))) (Int.toNat (IntKind.wrap .i64 (n30 - 1))) 0 (.v (.int .i64 n36)))), (.v (.int .i64 n26)), (.v (.int .i64 n28)), (.v (.int .i64 n30)), (.v (.int .i64 (IntKind.wrap .i64 (n32 + 1))))]))))))))) else (
 none)) else (
 some ((.exit 0), [(.o 1 l4)]))) := by kernel_rfl
theorem a186q (T : Table) (k : Nat) (l1 : Rows) (n2 : Int) (n3 : Int) : evalF T k a186 [(.d (.s 1 l1)), (.d (.v (.int .i64 n2))), (.d (.v (.int .i64 n3)))] = (
 aft (l186x0 T k k [(.o 1 l1), (.v (.int .i64 n2)), (.v (.int .i64 n3)), (.v (.int .i64 (IntKind.wrap .i64 (n2 + 1)))), (.v (.int .i64 0))]) fun e107 ys108 =>
 bif e107.same .ret then (
 aV ys108 0 fun x109 =>
 aO 1 x109 fun l110 =>
 aV ys108 1 fun x111 =>
 aB x111 fun b112 =>
 some ⟨(.d (.v (.bool b112))), [(.d (.s 1 l110))]⟩) else (
 bif e107.same (.exit 0) then (
 aV ys108 0 fun x113 =>
 aO 1 x113 fun l114 =>
 some ⟨(.d (.v (.bool false))), [(.d (.s 1 l114))]⟩) else (
 none))) := by kernel_rfl
/- slices.partitionEqualOrdered[int] -/
def b188x1 : ACode := (
 .seq (.seq (.dreg [] [(0, oM 29 9), (0, oM 30 10), (0, oB 31 .leq 29 30), (0, oM 32 31), (0, oJ 33 32 true (.mv (.t 0))), (0, oJ 34 32 true (.mv (.t 1))), (0, oJ 35 32 true (.iad 1 (.t 33) (.t 34))), (0, oJ 36 32 true (.load false [kI] (.t 35))), (0, oJ 37 32 true (.mv (.t 0))), (0, oJ 38 32 true (.mv (.t 9))), (0, oJ 39 32 true (.iad 1 (.t 37) (.t 38))), (0, oJ 40 32 true (.load false [kI] (.t 39)))] [oJ 41 32 true (.call (.f 187) [.rd, .rd] false [.c .b] [(.t 36), (.t 40)]), oJ 42 32 true (.un .not (.t 41)), oQ 43 (.pick (.t 32) (.t 42) (.b false))]) (
 .cond (.t 43) (.skip) (.exit 2))) (
 .block 3 (.g [oM 44 9, oBi 45 .add 44 1, oM 9 45])))
def e188x1 : Exits := [((.exit 2), [(0, .o 1), (1, .c kI), (9, .c kI), (10, .c kI)])]
noncomputable def l188x1 (T : Table) (k : Nat) := loopN (evalC ⟨T, [0]⟩ k b188x1 (Ex × List AV)) [0, 1, 9, 10] e188x1
def b188x2 : ACode := (
 .seq (.seq (.dreg [] [(0, oM 46 9), (0, oM 47 10), (0, oB 48 .leq 46 47), (0, oM 49 48), (0, oJ 50 49 true (.mv (.t 0))), (0, oJ 51 49 true (.mv (.t 1))), (0, oJ 52 49 true (.iad 1 (.t 50) (.t 51))), (0, oJ 53 49 true (.load false [kI] (.t 52))), (0, oJ 54 49 true (.mv (.t 0))), (0, oJ 55 49 true (.mv (.t 10))), (0, oJ 56 49 true (.iad 1 (.t 54) (.t 55))), (0, oJ 57 49 true (.load false [kI] (.t 56)))] [oJ 58 49 true (.call (.f 187) [.rd, .rd] false [.c .b] [(.t 53), (.t 57)]), oQ 59 (.pick (.t 49) (.t 58) (.b false))]) (
 .cond (.t 59) (.skip) (.exit 4))) (
 .block 5 (.g [oM 60 10, oBi 61 .sub 60 1, oM 10 61])))
def e188x2 : Exits := [((.exit 4), [(0, .o 1), (1, .c kI), (9, .c kI), (10, .c kI)])]
noncomputable def l188x2 (T : Table) (k : Nat) := loopN (evalC ⟨T, [0]⟩ k b188x2 (Ex × List AV)) [0, 1, 9, 10] e188x2
def b188x0 : ACode := (
 .block 1 (.seq (.block 2 (.loop [0, 1, 9, 10] e188x1 b188x1)) (
 .seq (.block 4 (.loop [0, 1, 9, 10] e188x2 b188x2)) (
 .seq (.seq (.g [oM 62 9, oM 63 10, oB 64 .gtr 62 63]) (
 .cond (.t 64) (.exit 0) (.skip))) (
 .seq (.dreg [] [(0, oM 65 0), (0, oM 66 9), (3, oM 67 0), (3, oM 68 10), (0, oM 69 0), (0, oM 70 10), (0, oI 71 1 69 70), (0, oW 72 kI 71), (0, oM 73 0), (0, oM 74 9), (0, oI 75 1 73 74), (0, oW 76 kI 75)] [oI 77 1 65 66, oS (.store 1 (.t 77) (.t 72)), oI 78 1 67 68, oS (.store 1 (.t 78) (.t 76))]) (
 .seq (.g [oM 79 9, oBi 80 .add 79 1, oM 9 80]) (
 .g [oM 81 10, oBi 82 .sub 81 1, oM 10 82])))))))
def e188x0 : Exits := [((.exit 0), [(0, .o 1), (9, .c kI)])]
noncomputable def l188x0 (T : Table) (k : Nat) := loopN (evalC ⟨T, [0]⟩ k b188x0 (Ex × List AV)) [0, 1, 9, 10] e188x0
def a188 : AFun := ⟨[.lent, .rd, .rd, .rd], false, [.t 8], (
 .seq (.g [oK 8 0]) (
 .seq (.dreg [] [(0, oM 11 0), (0, oM 12 1), (3, oM 13 0), (3, oM 14 3), (0, oM 15 0), (0, oM 16 3), (0, oI 17 1 15 16), (0, oW 18 kI 17), (0, oM 19 0), (0, oM 20 1), (0, oI 21 1 19 20), (0, oW 22 kI 21)] [oI 23 1 11 12, oS (.store 1 (.t 23) (.t 18)), oI 24 1 13 14, oS (.store 1 (.t 24) (.t 22))]) (
 .seq (.g [oM 25 1, oBi 26 .add 25 1, oM 27 2, oBi 28 .sub 27 1, oM 9 26, oM 10 28]) (
 .seq (.block 0 (.loop [0, 1, 9, 10] e188x0 b188x0)) (
 .seq (.g [oM 83 9, oM 8 83]) (
 .ret))))))⟩
theorem l188x1s (T : Table) (k n : Nat) (l13 : Rows) (n14 : Int) (n15 : Int) (n16 : Int) : l188x1 T k (n + 1) [(.o 1 l13), (.v (.int .i64 n14)), (.v (.int .i64 n15)), (.v (.int .i64 n16))] = (
 bif (decide (n15 ≤ n16)) == true then (
 tst (decide (0 ≤ n14) && decide (Int.toNat n14 < l13.length)) (
 look l13 (Int.toNat n14) fun r17 =>
 cI .i64 r17 0 fun n18 =>
 tst (decide (0 ≤ n15) && decide (Int.toNat n15 < l13.length)) (
 look l13 (Int.toNat n15) fun r19 =>
 cI .i64 r19 0 fun n20 =>
 callT T 187 [(.d (.v (.int .i64 n18))), (.d (.v (.int .i64 n20)))] fun o21 =>
 oD o21.res fun d22 =>
 dB d22 fun b23 =>
 bif (!b23) then (
 l188x1 T k n [(.o 1 l13), (.v (.int .i64 n14)), (.v (.int .i64 (IntKind.wrap .i64 (n15 + 1)))), (.v (.int .i64 n16))]) else (
 some ((.exit 2), [(.o 1 l13), (.v (.int .i64 n14)), (.v (.int .i64 n15)), (.v (.int .i64 n16))]))))) else (
 some ((.exit 2), [(.o 1 l13), (.v (.int .i64 n14)), (.v (.int .i64 n15)), (.v (.int .i64 n16))]))) := by kernel_rfl
theorem l188x2s (T : Table) (k n : Nat) (l34 : Rows) (n35 : Int) (n36 : Int) (n37 : Int) : l188x2 T k (n + 1) [(.o 1 l34), (.v (.int .i64 n35)), (.v (.int .i64 n36)), (.v (.int .i64 n37))] = (
 bif (decide (n36 ≤ n37)) == true then (
 tst (decide (0 ≤ n35) && decide (Int.toNat n35 < l34.length)) (
 look l34 (Int.toNat n35) fun r38 =>
 cI .i64 r38 0 fun n39 =>
 tst (decide (0 ≤ n37) && decide (Int.toNat n37 < l34.length)) (
 look l34 (Int.toNat n37) fun r40 =>
 cI .i64 r40 0 fun n41 =>
 callT T 187 [(.d (.v (.int .i64 n39))), (.d (.v (.int .i64 n41)))] fun o42 =>
 oD o42.res fun d43 =>
 dB d43 fun b44 =>
 bif b44 then (
 l188x2 T k n [(.o 1 l34), (.v (.int .i64 n35)), (.v (.int .i64 n36)), (.v (.int .i64 (IntKind.wrap .i64 (n37 - 1))))]) else (
 some ((.exit 4), [(.o 1 l34), (.v (.int .i64 n35)), (.v (.int .i64 n36)), (.v (.int .i64 n37))]))))) else (
 some ((.exit 4), [(.o 1 l34), (.v (.int .i64 n35)), (.v (.int .i64 n36)), (.v (.int .i64 n37))]))) := by kernel_rfl
theorem l188x0s (T : Table) (k n : Nat) (l9 : Rows) (n10 : Int) (n11 : Int) (n12 : Int) : l188x0 T k (n + 1) [(.o 1 l9), (.v (.int .i64 n10)), (.v (.int .i64 n11)), (.v (.int .i64 n12))] = (
 aft (l188x1 T k k [(.o 1 l9), (.v (.int .i64 n10)), (.v (.int .i64 n11)), (.v (.int .i64 n12))]) fun e24 ys25 =>
 bif e24.same (.exit 2) then (
 aV ys25 0 fun x26 =>
 aO 1 x26 fun l27 =>
 aV ys25 1 fun x28 =>
 aI .i64 x28 fun n29 =>
 aV ys25 2 fun x30 =>
 aI .i64 x30 fun n31 =>
 aV ys25 3 fun x32 =>
 aI .i64 x32 fun n33 =>
 aft (l188x2 T k k [(.o 1 l27), (.v (.int .i64 n29)), (.v (.int .i64 n31)), (.v (.int .i64 n33))]) fun e45 ys46 =>
 bif e45.same (.exit 4) then (
 aV ys46 0 fun x47 =>
 aO 1 x47 fun l48 =>
 aV ys46 1 fun x49 =>
 aI .i64 x49 fun n50 =>
 aV ys46 2 fun x51 =>
 aI .i64 x51 fun n52 =>
 aV ys46 3 fun x53 =>
 aI .i64 x53 fun n54 =>
 bif (decide (n52 > n54)) then (
 some ((.exit 0), [(.o 1 l48), (.v (.int .i64 n52))])) else (
 tst (decide (0 ≤ n54) && decide (Int.toNat n54 < l48.length)) (
 look l48 (Int.toNat n54) fun r55 =>
 cI .i64 r55 0 fun n56 =>
 tst (decide (0 ≤ n52) && decide (Int.toNat n52 < l48.length)) (
 look l48 (Int.toNat n52) fun r57 =>
 cI .i64 r57 0 fun n58 =>
 tst (decide (0 ≤ n52) && decide (Int.toNat n52 < l48.length)) (
 tst (decide (0 ≤ n54) && decide (Int.toNat n54 < (setD l48 (Int.toNat n52) 0 (.v (.int .i64 n56))).length)) (
 l188x0 T k n [(.o 1 (setD (setD l48 (Int.toNat n52) 0 (.v (.int .i64 n56))) (Int.toNat n54) 0 (.v (.int .i64 n58)))), (.v (.int .i64 n50)), (.v (.int .i64 (IntKind.wrap .i64 (n52 + 1)))), (.v (.int .i64 (IntKind.wrap .i64 (n54 - 1))))])))))) else (
 none)) else (
 none)) := by kernel_rfl
theorem a188q (T : Table) (k : Nat) (l1 : Rows) (n2 : Int) (n3 : Int) (n4 : Int) : evalF T k a188 [(.d (.s 1 l1)), (.d (.v (.int .i64 n2))), (.d (.v (.int .i64 n3))), (.d (.v (.int .i64 n4)))] = (
 tst (decide (0 ≤ n4) && decide (Int.toNat n4 < l1.length)) (
 look l1 (Int.toNat n4) fun r5 =>
 cI .i64 r5 0 fun n6 =>
 tst (decide (0 ≤ n2) && decide (Int.toNat n2 < l1.length)) (
 look l1 (Int.toNat n2) fun r7 =>
 cI .i64 r7 0 fun n8 =>
 tst (decide (0 ≤ n2) && decide (Int.toNat n2 < l1.length)) (
 tst (decide (0 ≤ n4) && decide (Int.toNat n4 < (setD l1 (Int.toNat n2) 0 (.v (.int .i64 n6))).length)) (
 aft (l188x0 T k k [(.o 1 (setD (setD l1 (Int.toNat n2) 0 (.v (.int .i64 n6))) (Int.toNat n4) 0 (.v (.int .i64 n8)))), (.v (.int .i64 n2)), (.v (.int .i64 (IntKind.wrap .i64 (n2 + 1)))), (.v (.int .i64 (IntKind.wrap .i64 (n3 - 1))))]) fun e59 ys60 =>
 bif e59.same (.exit 0) then (
 aV ys60 0 fun x61 =>
 aO 1 x61 fun l62 =>
 aV ys60 1 fun x63 =>
 aI .i64 x63 fun n64 =>
 some ⟨(.d (.v (.int .i64 n64))), [(.d (.s 1 l62))]⟩) else (
 none)))))) := by kernel_rfl
/- slices.partitionOrdered[int] -/
def b189x0 : ACode := (
 .seq (.seq (.dreg [] [(0, oM 30 10), (0, oM 31 11), (0, oB 32 .leq 30 31), (0, oM 33 32), (0, oJ 34 33 true (.mv (.t 0))), (0, oJ 35 33 true (.mv (.t 10))), (0, oJ 36 33 true (.iad 1 (.t 34) (.t 35))), (0, oJ 37 33 true (.load false [kI] (.t 36))), (0, oJ 38 33 true (.mv (.t 0))), (0, oJ 39 33 true (.mv (.t 1))), (0, oJ 40 33 true (.iad 1 (.t 38) (.t 39))), (0, oJ 41 33 true (.load false [kI] (.t 40)))] [oJ 42 33 true (.call (.f 187) [.rd, .rd] false [.c .b] [(.t 37), (.t 41)]), oQ 43 (.pick (.t 33) (.t 42) (.b false))]) (
 .cond (.t 43) (.skip) (.exit 0))) (
 .block 1 (.g [oM 44 10, oBi 45 .add 44 1, oM 10 45])))
def e189x0 : Exits := [((.exit 0), [(0, .o 1), (1, .c kI), (10, .c kI), (11, .c kI)])]
noncomputable def l189x0 (T : Table) (k : Nat) := loopN (evalC ⟨T, [0]⟩ k b189x0 (Ex × List AV)) [0, 1, 10, 11] e189x0
def b189x1 : ACode := (
 .seq (.seq (.dreg [] [(0, oM 46 10), (0, oM 47 11), (0, oB 48 .leq 46 47), (0, oM 49 48), (0, oJ 50 49 true (.mv (.t 0))), (0, oJ 51 49 true (.mv (.t 11))), (0, oJ 52 49 true (.iad 1 (.t 50) (.t 51))), (0, oJ 53 49 true (.load false [kI] (.t 52))), (0, oJ 54 49 true (.mv (.t 0))), (0, oJ 55 49 true (.mv (.t 1))), (0, oJ 56 49 true (.iad 1 (.t 54) (.t 55))), (0, oJ 57 49 true (.load false [kI] (.t 56)))] [oJ 58 49 true (.call (.f 187) [.rd, .rd] false [.c .b] [(.t 53), (.t 57)]), oJ 59 49 true (.un .not (.t 58)), oQ 60 (.pick (.t 49) (.t 59) (.b false))]) (
 .cond (.t 60) (.skip) (.exit 2))) (
 .block 3 (.g [oM 61 11, oBi 62 .sub 61 1, oM 11 62])))
def e189x1 : Exits := [((.exit 2), [(0, .o 1), (1, .c kI), (10, .c kI), (11, .c kI)])]
noncomputable def l189x1 (T : Table) (k : Nat) := loopN (evalC ⟨T, [0]⟩ k b189x1 (Ex × List AV)) [0, 1, 10, 11] e189x1
def b189x3 : ACode := (
 .seq (.seq (.dreg [] [(0, oM 99 10), (0, oM 100 11), (0, oB 101 .leq 99 100), (0, oM 102 101), (0, oJ 103 102 true (.mv (.t 0))), (0, oJ 104 102 true (.mv (.t 10))), (0, oJ 105 102 true (.iad 1 (.t 103) (.t 104))), (0, oJ 106 102 true (.load false [kI] (.t 105))), (0, oJ 107 102 true (.mv (.t 0))), (0, oJ 108 102 true (.mv (.t 1))), (0, oJ 109 102 true (.iad 1 (.t 107) (.t 108))), (0, oJ 110 102 true (.load false [kI] (.t 109)))] [oJ 111 102 true (.call (.f 187) [.rd, .rd] false [.c .b] [(.t 106), (.t 110)]), oQ 112 (.pick (.t 102) (.t 111) (.b false))]) (
 .cond (.t 112) (.skip) (.exit 6))) (
 .block 7 (.g [oM 113 10, oBi 114 .add 113 1, oM 10 114])))
def e189x3 : Exits := [((.exit 6), [(0, .o 1), (1, .c kI), (10, .c kI), (11, .c kI)])]
noncomputable def l189x3 (T : Table) (k : Nat) := loopN (evalC ⟨T, [0]⟩ k b189x3 (Ex × List AV)) [0, 1, 10, 11] e189x3
def b189x4 : ACode := (
 .seq (.seq (.dreg [] [(0, oM 115 10), (0, oM 116 11), (0, oB 117 .leq 115 116), (0, oM 118 117), (0, oJ 119 118 true (.mv (.t 0))), (0, oJ 120 118 true (.mv (.t 11))), (0, oJ 121 118 true (.iad 1 (.t 119) (.t 120))), (0, oJ 122 118 true (.load false [kI] (.t 121))), (0, oJ 123 118 true (.mv (.t 0))), (0, oJ 124 118 true (.mv (.t 1))), (0, oJ 125 118 true (.iad 1 (.t 123) (.t 124))), (0, oJ 126 118 true (.load false [kI] (.t 125)))] [oJ 127 118 true (.call (.f 187) [.rd, .rd] false [.c .b] [(.t 122), (.t 126)]), oJ 128 118 true (.un .not (.t 127)), oQ 129 (.pick (.t 118) (.t 128) (.b false))]) (
 .cond (.t 129) (.skip) (.exit 8))) (
 .block 9 (.g [oM 130 11, oBi 131 .sub 130 1, oM 11 131])))
def e189x4 : Exits := [((.exit 8), [(0, .o 1), (1, .c kI), (10, .c kI), (11, .c kI)])]
noncomputable def l189x4 (T : Table) (k : Nat) := loopN (evalC ⟨T, [0]⟩ k b189x4 (Ex × List AV)) [0, 1, 10, 11] e189x4
def b189x2 : ACode := (
 .block 5 (.seq (.block 6 (.loop [0, 1, 10, 11] e189x3 b189x3)) (
 .seq (.block 8 (.loop [0, 1, 10, 11] e189x4 b189x4)) (
 .seq (.seq (.g [oM 132 10, oM 133 11, oB 134 .gtr 132 133]) (
 .cond (.t 134) (.exit 4) (.skip))) (
 .seq (.dreg [] [(0, oM 135 0), (0, oM 136 10), (3, oM 137 0), (3, oM 138 11), (0, oM 139 0), (0, oM 140 11), (0, oI 141 1 139 140), (0, oW 142 kI 141), (0, oM 143 0), (0, oM 144 10), (0, oI 145 1 143 144), (0, oW 146 kI 145)] [oI 147 1 135 136, oS (.store 1 (.t 147) (.t 142)), oI 148 1 137 138, oS (.store 1 (.t 148) (.t 146))]) (
 .seq (.g [oM 149 10, oBi 150 .add 149 1, oM 10 150]) (
 .g [oM 151 11, oBi 152 .sub 151 1, oM 11 152])))))))
def e189x2 : Exits := [((.exit 4), [(0, .o 1), (1, .c kI), (11, .c kI)])]
noncomputable def l189x2 (T : Table) (k : Nat) := loopN (evalC ⟨T, [0]⟩ k b189x2 (Ex × List AV)) [0, 1, 10, 11] e189x2
def a189 : AFun := ⟨[.lent, .rd, .rd, .rd], false, [.t 8, .t 9], (
 .seq (.g [oK 8 0, oV 9 false]) (
 .seq (.dreg [] [(0, oM 12 0), (0, oM 13 1), (3, oM 14 0), (3, oM 15 3), (0, oM 16 0), (0, oM 17 3), (0, oI 18 1 16 17), (0, oW 19 kI 18), (0, oM 20 0), (0, oM 21 1), (0, oI 22 1 20 21), (0, oW 23 kI 22)] [oI 24 1 12 13, oS (.store 1 (.t 24) (.t 19)), oI 25 1 14 15, oS (.store 1 (.t 25) (.t 23))]) (
 .seq (.g [oM 26 1, oBi 27 .add 26 1, oM 28 2, oBi 29 .sub 28 1, oM 10 27, oM 11 29]) (
 .seq (.block 0 (.loop [0, 1, 10, 11] e189x0 b189x0)) (
 .seq (.block 2 (.loop [0, 1, 10, 11] e189x1 b189x1)) (
 .seq (.seq (.g [oM 63 10, oM 64 11, oB 65 .gtr 63 64]) (
 .cond (.t 65) (.seq (.dreg [] [(0, oM 66 0), (0, oM 67 11), (3, oM 68 0), (3, oM 69 1), (0, oM 70 0), (0, oM 71 1), (0, oI 72 1 70 71), (0, oW 73 kI 72), (0, oM 74 0), (0, oM 75 11), (0, oI 76 1 74 75), (0, oW 77 kI 76)] [oI 78 1 66 67, oS (.store 1 (.t 78) (.t 73)), oI 79 1 68 69, oS (.store 1 (.t 79) (.t 77))]) (
 .seq (.g [oM 80 11, oM 8 80, oV 9 true]) (
 .ret))) (.skip))) (
 .seq (.dreg [] [(0, oM 81 0), (0, oM 82 10), (3, oM 83 0), (3, oM 84 11), (0, oM 85 0), (0, oM 86 11), (0, oI 87 1 85 86), (0, oW 88 kI 87), (0, oM 89 0), (0, oM 90 10), (0, oI 91 1 89 90), (0, oW 92 kI 91)] [oI 93 1 81 82, oS (.store 1 (.t 93) (.t 88)), oI 94 1 83 84, oS (.store 1 (.t 94) (.t 92))]) (
 .seq (.g [oM 95 10, oBi 96 .add 95 1, oM 10 96]) (
 .seq (.g [oM 97 11, oBi 98 .sub 97 1, oM 11 98]) (
 .seq (.block 4 (.loop [0, 1, 10, 11] e189x2 b189x2)) (
 .seq (.dreg [] [(0, oM 153 0), (0, oM 154 11), (3, oM 155 0), (3, oM 156 1), (0, oM 157 0), (0, oM 158 1), (0, oI 159 1 157 158), (0, oW 160 kI 159), (0, oM 161 0), (0, oM 162 11), (0, oI 163 1 161 162), (0, oW 164 kI 163)] [oI 165 1 153 154, oS (.store 1 (.t 165) (.t 160)), oI 166 1 155 156, oS (.store 1 (.t 166) (.t 164))]) (
 .seq (.g [oM 167 11, oM 8 167, oV 9 false]) (
 .ret)))))))))))))⟩
theorem l189x0s (T : Table) (k n : Nat) (l9 : Rows) (n10 : Int) (n11 : Int) (n12 : Int) : l189x0 T k (n + 1) [(.o 1 l9), (.v (.int .i64 n10)), (.v (.int .i64 n11)), (.v (.int .i64 n12))] = (
 bif (decide (n11 ≤ n12)) == true then (
 tst (decide (0 ≤ n11) && decide (Int.toNat n11 < l9.length)) (
 look l9 (Int.toNat n11) fun r13 =>
 cI .i64 r13 0 fun n14 =>
 tst (decide (0 ≤ n10) && decide (Int.toNat n10 < l9.length)) (
 look l9 (Int.toNat n10) fun r15 =>
 cI .i64 r15 0 fun n16 =>
 callT T 187 [(.d (.v (.int .i64 n14))), (.d (.v (.int .i64 n16)))] fun o17 =>
 oD o17.res fun d18 =>
 dB d18 fun b19 =>
 bif b19 then (
 l189x0 T k n [(.o 1 l9), (.v (.int .i64 n10)), (.v (.int .i64 (IntKind.wrap .i64 (n11 + 1)))), (.v (.int .i64 n12))]) else (
 some ((.exit 0), [(.o 1 l9), (.v (.int .i64 n10)), (.v (.int .i64 n11)), (.v (.int .i64 n12))]))))) else (
 some ((.exit 0), [(.o 1 l9), (.v (.int .i64 n10)), (.v (.int .i64 n11)), (.v (.int .i64 n12))]))) := by kernel_rfl
theorem l189x1s (T : Table) (k n : Nat) (l30 : Rows) (n31 : Int) (n32 : Int) (n33 : Int) : l189x1 T k (n + 1) [(.o 1 l30), (.v (.int .i64 n31)), (.v (.int .i64 n32)), (.v (.int .i64 n33))] = (
 bif (decide (n32 ≤ n33)) == true then (
 tst (decide (0 ≤ n33) && decide (Int.toNat n33 < l30.length)) (
 look l30 (Int.toNat n33) fun r34 =>
 cI .i64 r34 0 fun n35 =>
 tst (decide (0 ≤ n31) && decide (Int.toNat n31 < l30.length)) (
 look l30 (Int.toNat n31) fun r36 =>
 cI .i64 r36 0 fun n37 =>
 callT T 187 [(.d (.v (.int .i64 n35))), (.d (.v (.int .i64 n37)))] fun o38 =>
 oD o38.res fun d39 =>
 dB d39 fun b40 =>
 bif (!b40) then (
 l189x1 T k n [(.o 1 l30), (.v (.int .i64 n31)), (.v (.int .i64 n32)), (.v (.int .i64 (IntKind.wrap .i64 (n33 - 1))))]) else (
 some ((.exit 2), [(.o 1 l30), (.v (.int .i64 n31)), (.v (.int .i64 n32)), (.v (.int .i64 n33))]))))) else (
 some ((.exit 2), [(.o 1 l30), (.v (.int .i64 n31)), (.v (.int .i64 n32)), (.v (.int .i64 n33))]))) := by kernel_rfl
theorem l189x3s (T : Table) (k n : Nat) (l63 : Rows) (n64 : Int) (n65 : Int) (n66 : Int) : l189x3 T k (n + 1) [(.o 1 l63), (.v (.int .i64 n64)), (.v (.int .i64 n65)), (.v (.int .i64 n66))] = (
 bif (decide (n65 ≤ n66)) == true then (
 tst (decide (0 ≤ n65) && decide (Int.toNat n65 < l63.length)) (
 look l63 (Int.toNat n65) fun r67 =>
 cI .i64 r67 0 fun n68 =>
 tst (decide (0 ≤ n64) && decide (Int.toNat n64 < l63.length)) (
 look l63 (Int.toNat n64) fun r69 =>
 cI .i64 r69 0 fun n70 =>
 callT T 187 [(.d (.v (.int .i64 n68))), (.d (.v (.int .i64 n70)))] fun o71 =>
 oD o71.res fun d72 =>
 dB d72 fun b73 =>
 bif b73 then (
 l189x3 T k n [(.o 1 l63), (.v (.int .i64 n64)), (.v (.int .i64 (IntKind.wrap .i64 (n65 + 1)))), (.v (.int .i64 n66))]) else (
 some ((.exit 6), [(.o 1 l63), (.v (.int .i64 n64)), (.v (.int .i64 n65)), (.v (.int .i64 n66))]))))) else (
 some ((.exit 6), [(.o 1 l63), (.v (.int .i64 n64)), (.v (.int .i64 n65)), (.v (.int .i64 n66))]))) := by kernel_rfl
theorem l189x4s (T : Table) (k n : Nat) (l84 : Rows) (n85 : Int) (n86 : Int) (n87 : Int) : l189x4 T k (n + 1) [(.o 1 l84), (.v (.int .i64 n85)), (.v (.int .i64 n86)), (.v (.int .i64 n87))] = (
 bif (decide (n86 ≤ n87)) == true then (
 tst (decide (0 ≤ n87) && decide (Int.toNat n87 < l84.length)) (
 look l84 (Int.toNat n87) fun r88 =>
 cI .i64 r88 0 fun n89 =>
 tst (decide (0 ≤ n85) && decide (Int.toNat n85 < l84.length)) (
 look l84 (Int.toNat n85) fun r90 =>
 cI .i64 r90 0 fun n91 =>
 callT T 187 [(.d (.v (.int .i64 n89))), (.d (.v (.int .i64 n91)))] fun o92 =>
 oD o92.res fun d93 =>
 dB d93 fun b94 =>
 bif (!b94) then (
 l189x4 T k n [(.o 1 l84), (.v (.int .i64 n85)), (.v (.int .i64 n86)), (.v (.int .i64 (IntKind.wrap .i64 (n87 - 1))))]) else (
 some ((.exit 8), [(.o 1 l84), (.v (.int .i64 n85)), (.v (.int .i64 n86)), (.v (.int .i64 n87))]))))) else (
 some ((.exit 8), [(.o 1 l84), (.v (.int .i64 n85)), (.v (.int .i64 n86)), (.v (.int .i64 n87))]))) := by kernel_rfl
theorem l189x2s (T : Table) (k n : Nat) (l59 : Rows) (n60 : Int) (n61 : Int) (n62 : Int) : l189x2 T k (n + 1) [(.o 1 l59), (.v (.int .i64 n60)), (.v (.int .i64 n61)), (.v (.int .i64 n62))] = (
 aft (l189x3 T k k [(.o 1 l59), (.v (.int .i64 n60)), (.v (.int .i64 n61)), (.v (.int .i64 n62))]) fun e74 ys75 =>
 bif e74.same (.exit 6) then (
 aV ys75 0 fun x76 =>
 aO 1 x76 fun l77 =>
 aV ys75 1 fun x78 =>
 aI .i64 x78 fun n79 =>
 aV ys75 2 fun x80 =>
 aI .i64 x80 fun n81 =>
 aV ys75 3 fun x82 =>
 aI .i64 x82 fun n83 =>
 aft (l189x4 T k k [(.o 1 l77), (.v (.int .i64 n79)), (.v (.int .i64 n81)), (.v (.int .i64 n83))]) fun e95 ys96 =>
 bif e95.same (.exit 8) then (
 aV ys96 0 fun x97 =>
 aO 1 x97 fun l98 =>
 aV ys96 1 fun x99 =>
 aI .i64 x99 fun n100 =>
 aV ys96 2 fun x101 =>
 aI .i64 x101 fun n102 =>
 aV ys96 3 fun x103 =>
 aI .i64 x103 fun n104 =>
 bif (decide (n102 > n104)) then (
 some ((.exit 4), [(.o 1 l98), (.v (.int .i64 n100)), (.v (.int .i64 n104))])) else (
 tst (decide (0 ≤ n104) && decide (Int.toNat n104 < l98.length)) (
 look l98 (Int.toNat n104) fun r105 =>
 cI .i64 r105 0 fun n106 =>
 tst (decide (0 ≤ n102) && decide (Int.toNat n102 < l98.length)) (
 look l98 (Int.toNat n102) fun r107 =>
 cI .i64 r107 0 fun n108 =>
 tst (decide (0 ≤ n102) && decide (Int.toNat n102 < l98.length)) (
 tst (decide (0 ≤ n104) && decide (Int.toNat n104 < (setD l98 (Int.toNat n102) 0 (.v (.int .i64 n106))).length)) (
 l189x2 T k n [(.o 1 (setD (setD l98 (Int.toNat n102) 0 (.v (.int .i64 n106))) (Int.toNat n104) 0 (.v (.int .i64 n108)))), (.v (.int .i64 n100)), (.v (.int .i64 (IntKind.wrap .i64 (n102 + 1)))), (.v (.int .i64 (IntKind.wrap .i64 (n104 - 1))))])))))) else (
 none)) else (
 none)) := by kernel_rfl
theorem a189q (T : Table) (k : Nat) (l1 : Rows) (n2 : Int) (n3 : Int) (n4 : Int) : evalF T k a189 [(.d (.s 1 l1)), (.d (.v (.int .i64 n2))), (.d (.v (.int .i64 n3))), (.d (.v (.int .i64 n4)))] = (
 tst (decide (0 ≤ n4) && decide (Int.toNat n4 < l1.length)) (
 look l1 (Int.toNat n4) fun r5 =>
 cI .i64 r5 0 fun n6 =>
 tst (decide (0 ≤ n2) && decide (Int.toNat n2 < l1.length)) (
 look l1 (Int.toNat n2) fun r7 =>
 cI .i64 r7 0 fun n8 =>
 tst (decide (0 ≤ n2) && decide (Int.toNat n2 < l1.length)) (
 tst (decide (0 ≤ n4) && decide (Int.toNat n4 < (setD l1 (Int.toNat n2) 0 (.v (.int .i64 n6))).length)) (
 aft (l189x0 T k k [(.o 1 (setD (setD l1 (Int.toNat n2) 0 (.v (.int .i64 n6))) (Int.toNat n4) 0 (.v (.int .i64 n8)))), (.v (.int .i64 n2)), (.v (.int .i64 (IntKind.wrap .i64 (n2 + 1)))), (.v (.int .i64 (IntKind.wrap .i64 (n3 - 1))))]) fun e20 ys21 =>
 bif e20.same (.exit 0) then (
 aV ys21 0 fun x22 =>
 aO 1 x22 fun l23 =>
 aV ys21 1 fun x24 =>
 aI .i64 x24 fun n25 =>
 aV ys21 2 fun x26 =>
 aI .i64 x26 fun n27 =>
 aV ys21 3 fun x28 =>
 aI .i64 x28 fun n29 =>
 aft (l189x1 T k k [(.o 1 l23), (.v (.int .i64 n25)), (.v (.int .i64 n27)), (.v (.int .i64 n29))]) fun e41 ys42 =>
 bif e41.same (.exit 2) then (
 aV ys42 0 fun x43 =>
 aO 1 x43 fun l44 =>
 aV ys42 1 fun x45 =>
 aI .i64 x45 fun n46 =>
 aV ys42 2 fun x47 =>
 aI .i64 x47 fun n48 =>
 aV ys42 3 fun x49 =>
 aI .i64 x49 fun n50 =>
 bif (decide (n48 > n50)) then (
 tst (decide (0 ≤ n46) && decide (Int.toNat n46 < l44.length)) (
 look l44 (Int.toNat n46) fun r51 =>
 cI .i64 r51 0 fun n52 =>
 tst (decide (0 ≤ n50) && decide (Int.toNat n50 < l44.length)) (
 look l44 (Int.toNat n50) fun r53 =>
 cI .i64 r53 0 fun n54 =>
 tst (decide (0 ≤ n50) && decide (Int.toNat n50 < l44.length)) (
 tst (decide (0 ≤ n46) && decide (Int.toNat n46 < (setD l44 (Int.toNat n50) 0 (.v (.int .i64 n52))).length)) (
 some ⟨(.t [(.d (.v (.int .i64 n50))), (.d (.v (.bool true)))]), [(.d (.s 1 (setD (setD l44 (Int.toNat n50) 0 (.v (.int .i64 n52))) (Int.toNat n46) 0 (.v (.int .i64 n54)))))]⟩))))) else (
 tst (decide (0 ≤ n50) && decide (Int.toNat n50 < l44.length)) (
 look l44 (Int.toNat n50) fun r55 =>
 cI .i64 r55 0 fun n56 =>
 tst (decide (0 ≤ n48) && decide (Int.toNat n48 < l44.length)) (
 look l44 (Int.toNat n48) fun r57 =>
 cI .i64 r57 0 fun n58 =>
 tst (decide (0 ≤ n48) && decide (Int.toNat n48 < l44.length)) (
 tst (decide (0 ≤ n50) && decide (Int.toNat n50 < (setD l44 (Int.toNat n48) 0 (.v (.int .i64 n56))).length)) (
 aft (l189x2 T k k [(.o 1 (setD (setD l44 (Int.toNat n48) 0 (.v (.int .i64 n56))) (Int.toNat n50) 0 (.v (.int .i64 n58)))), (.v (.int .i64 n46)), (.v (.int .i64 (IntKind.wrap .i64 (n48 + 1)))), (.v (.int .i64 (IntKind.wrap .i64 (n50 - 1))))]) fun e109 ys110 =>
 bif e109.same (.exit 4) then (
 aV ys110 0 fun x111 =>
 aO 1 x111 fun l112 =>
 aV ys110 1 fun x113 =>
 aI .i64 x113 fun n114 =>
 aV ys110 2 fun x115 =>
 aI .i64 x115 fun n116 =>
 tst (decide (0 ≤ n114) && decide (Int.toNat n114 < l112.length)) (
 look l112 (Int.toNat n114) fun r117 =>
 cI .i64 r117 0 fun n118 =>
 tst (decide (0 ≤ n116) && decide (Int.toNat n116 < l112.length)) (
 look l112 (Int.toNat n116) fun r119 =>
 cI .i64 r119 0 fun n120 =>
 tst (decide (0 ≤ n116) && decide (Int.toNat n116 < l112.length)) (
 tst (decide (0 ≤ n114) && decide (Int.toNat n114 < (setD l112 (Int.toNat n116) 0 (.v (.int .i64 n118))).length)) (
 some ⟨(.t [(.d (.v (.int .i64 n116))), (.d (.v (.bool false)))]), [(.d (.s 1 (setD (setD l112 (Int.toNat n116) 0 (.v (.int .i64 n118))) (Int.toNat n114) 0 (.v (.int .i64 n120)))))]⟩))))) else (
 none))))))) else (
 none)) else (
 none)))))) := by kernel_rfl
/- slices.pdqsortOrdered[int] -/
def b117x0 : ACode := (
 .block 1 (.seq (.g [oM 19 2, oM 20 1, oB 21 .sub 19 20, oM 10 21]) (
 .seq (.seq (.g [oM 22 10, oBi 23 .leq 22 12]) (
 .cond (.t 23) (.seq (.g [oM 24 0, oM 25 1, oM 26 2, oQ 27 (.call (.f 181) [.lent, .rd, .rd] false [] [(.t 24), (.t 25), (.t 26)])]) (
 .ret)) (.skip))) (
 .seq (.seq (.g [oM 28 3, oBi 29 .eql 28 0]) (
 .cond (.t 29) (.seq (.g [oM 30 0, oM 31 1, oM 32 2, oQ 33 (.call (.f 182) [.lent, .rd, .rd] false [] [(.t 30), (.t 31), (.t 32)])]) (
 .ret)) (.skip))) (
 .seq (.seq (.g [oM 34 8, oN 35 34]) (
 .cond (.t 35) (.seq (.g [oM 36 0, oM 37 1, oM 38 2, oQ 39 (.call (.f 183) [.lent, .rd, .rd] false [] [(.t 36), (.t 37), (.t 38)])]) (
 .g [oM 40 3, oBi 41 .sub 40 1, oM 3 41])) (.skip))) (
 .seq (.g [oM 43 0, oM 44 1, oM 45 2, oC 46 184 [.c kI, .c kI] [43, 44, 45], oM 42 46, oX 47 42 0, oX 48 42 1, oM 11 47, oM 12 48]) (
 .seq (.seq (.g [oM 49 12, oBi 50 .eql 49 2]) (
 .cond (.t 50) (.seq (.g [oM 51 0, oM 52 1, oM 53 2, oQ 54 (.call (.f 185) [.lent, .rd, .rd] false [] [(.t 51), (.t 52), (.t 53)])]) (
 .seq (.g [oM 55 2, oBi 56 .sub 55 1, oM 57 11, oM 58 1, oB 59 .sub 57 58, oB 60 .sub 56 59, oM 11 60]) (
 .g [oK 12 1]))) (.skip))) (
 .seq (.seq (.g [oM 61 8, oM 62 61, oJ 63 62 true (.mv (.t 9)), oQ 64 (.pick (.t 62) (.t 63) (.b false)), oM 65 64, oJ 66 65 true (.mv (.t 12)), oJ 67 65 true (.bin .eql (.t 66) (.i 1)), oQ 68 (.pick (.t 65) (.t 67) (.b false))]) (
 .cond (.t 68) (.seq (.g [oM 69 0, oM 70 1, oM 71 2, oQ 72 (.call (.f 186) [.lent, .rd, .rd] false [.c .b] [(.t 69), (.t 70), (.t 71)])]) (
 .cond (.t 72) (.ret) (.skip))) (.skip))) (
 .seq (.seq (.dreg [] [(0, oM 73 1), (0, oBi 74 .gtr 73 0), (0, oM 75 74), (0, oJ 76 75 true (.mv (.t 0))), (0, oJ 77 75 true (.mv (.t 1))), (0, oJ 78 75 true (.bin .sub (.t 77) (.i 1))), (0, oJ 79 75 true (.iad 1 (.t 76) (.t 78))), (0, oJ 80 75 true (.load false [kI] (.t 79))), (0, oJ 81 75 true (.mv (.t 0))), (0, oJ 82 75 true (.mv (.t 11))), (0, oJ 83 75 true (.iad 1 (.t 81) (.t 82))), (0, oJ 84 75 true (.load false [kI] (.t 83)))] [oJ 85 75 true (.call (.f 187) [.rd, .rd] false [.c .b] [(.t 80), (.t 84)]), oJ 86 75 true (.un .not (.t 85)), oQ 87 (.pick (.t 75) (.t 86) (.b false))]) (
 .cond (.t 87) (.seq (.g [oM 88 0, oM 89 1, oM 90 2, oM 91 11, oQ 92 (.call (.f 188) [.lent, .rd, .rd, .rd] false [.c kI] [(.t 88), (.t 89), (.t 90), (.t 91)]), oM 13 92]) (
 .seq (.g [oM 93 13, oM 1 93]) (
 .exit 1))) (.skip))) (
 .seq (.g [oM 95 0, oM 96 1, oM 97 2, oM 98 11, oQ 99 (.call (.f 189) [.lent, .rd, .rd, .rd] false [.c kI, .c .b] [(.t 95), (.t 96), (.t 97), (.t 98)]), oM 94 99, oX 100 94 0, oX 101 94 1, oM 14 100, oM 15 101]) (
 .seq (.g [oM 102 15, oM 9 102]) (
 .seq (.g [oM 103 14, oM 104 1, oB 105 .sub 103 104, oM 106 2, oM 107 14, oB 108 .sub 106 107, oM 16 105, oM 17 108]) (
 .seq (.g [oM 109 10, oBi 110 .quo 109 8, oM 18 110]) (
 .seq (.g [oM 111 16, oM 112 17, oB 113 .lss 111 112]) (
 .cond (.t 113) (.seq (.g [oM 114 16, oM 115 18, oB 116 .geq 114 115, oM 8 116]) (
 .seq (.g [oM 117 0, oM 118 1, oM 119 14, oM 120 3, oQ 121 (.call (.f 117) [.lent, .rd, .rd, .rd] false [] [(.t 117), (.t 118), (.t 119), (.t 120)])]) (
 .g [oM 122 14, oBi 123 .add 122 1, oM 1 123]))) (.seq (.g [oM 124 17, oM 125 18, oB 126 .geq 124 125, oM 8 126]) (
 .seq (.g [oM 127 0, oM 128 14, oBi 129 .add 128 1, oM 130 2, oM 131 3, oQ 132 (.call (.f 117) [.lent, .rd, .rd, .rd] false [] [(.t 127), (.t 129), (.t 130), (.t 131)])]) (
 .g [oM 133 14, oM 2 133]))))))))))))))))))
def e117x0 : Exits := [(.ret, [(0, .o 1)])]
noncomputable def l117x0 (T : Table) (k : Nat) := loopN (evalC ⟨T, [0]⟩ k b117x0 (Ex × List AV)) [0, 1, 2, 3, 8, 9] e117x0
def a117 : AFun := ⟨[.lent, .rd, .rd, .rd], false, [], (
 .seq (.g [oV 8 true]) (
 .seq (.g [oV 9 true]) (
 .block 0 (.loop [0, 1, 2, 3, 8, 9] e117x0 b117x0))))⟩
theorem a117q (T : Table) (k : Nat) (l1 : Rows) (n2 : Int) (n3 : Int) (n4 : Int) : evalF T k a117 [(.d (.s 1 l1)), (.d (.v (.int .i64 n2))), (.d (.v (.int .i64 n3))), (.d (.v (.int .i64 n4)))] = (
 aft (l117x0 T k k [(.o 1 l1), (.v (.int .i64 n2)), (.v (.int .i64 n3)), (.v (.int .i64 n4)), (.v (.bool true)), (.v (.bool true))]) fun e956 ys957 =>
 bif e956.same .ret then (
 aV ys957 0 fun x958 =>
 aO 1 x958 fun l959 =>
 some ⟨(.t []), [(.d (.s 1 l959))]⟩) else (
 none)) := by kernel_rfl
/- slices.Sort[[]int,int] -/

def a53 : AFun := ⟨[.lent], false, [], (
 .seq (.g [oM 3 0, oZ 4 3, oM 2 4]) (
 .g [oM 5 0, oM 6 2, oM 7 2, oQ 8 (.conv (.int .u64) (.t 7)), oC 9 118 [.c kI] [8], oQ 10 (.call (.f 117) [.lent, .rd, .rd, .rd] false [] [(.t 5), (.i 0), (.t 6), (.t 9)])]))⟩

theorem a53q (T : Table) (k : Nat) (l1 : Rows) : evalF T k a53 [(.d (.s 1 l1))] = (
 callT T 118 [(.d (.v (.int .u64 (IntKind.wrap .u64 (l1.length : Int)))))] fun o2 =>
 oD o2.res fun d3 =>
 dI .i64 d3 fun n4 =>
 callT T 117 [(.d (.s 1 l1)), (.d (.v (.int .i64 0))), (.d (.v (.int .i64 (l1.length : Int)))), (.d (.v (.int .i64 n4)))] fun o5 =>
 nth o5.back 0 fun i6 =>
 oD i6 fun d7 =>
 dL 1 d7 fun l8 =>
 oT o5.res fun is9 =>
 tst (Nat.beq is9.length 0) (
 some ⟨(.t []), [(.d (.s 1 l8))]⟩)) := by kernel_rfl
/- slices.Compact[[]int,int] -/
def b54x1 : ACode := (
 .seq (.seq (.g [oM 29 5, oM 30 4, oQ 31 (.more (.lnw (.t 30))), oB 32 .lss 29 31]) (
 .cond (.t 32) (.skip) (.exit 2))) (
 .seq (.block 3 (.seq (.dreg [] [(0, oM 35 4), (0, oM 36 5), (0, oQ 37 (.more (.iaw 1 (.t 35) (.t 36)))), (0, oW 38 kI 37), (0, oM 39 4), (0, oM 40 5), (0, oBi 41 .sub 40 1), (0, oQ 42 (.more (.iaw 1 (.t 39) (.t 41)))), (0, oW 43 kI 42)] [oB 44 .neq 38 43]) (
 .cond (.t 44) (.seq (.g [oM 45 0, oM 46 3, oM 47 4, oM 48 5, oQ 49 (.more (.iaw 1 (.t 47) (.t 48))), oW 50 kI 49, oI 51 1 45 46, oS (.store 1 (.t 51) (.t 50))]) (
 .g [oM 52 3, oBi 53 .add 52 1, oM 3 53])) (.skip)))) (
 .g [oM 33 5, oBi 34 .add 33 1, oM 5 34])))
def e54x1 : Exits := [((.exit 2), [(0, .o 1), (3, .c kI)])]
noncomputable def l54x1 (T : Table) (k : Nat) := loopN (evalC ⟨T, []⟩ k b54x1 (Ex × List AV)) [0, 3, 4, 5] e54x1
def b54x0 : ACode := (
 .seq (.seq (.g [oM 10 3, oM 11 0, oZ 12 11, oB 13 .lss 10 12]) (
 .cond (.t 13) (.skip) (.exit 0))) (
 .seq (.block 1 (.seq (.dreg [] [(0, oM 16 0), (0, oM 17 3), (0, oI 18 1 16 17), (0, oW 19 kI 18), (0, oM 20 0), (0, oM 21 3), (0, oBi 22 .sub 21 1), (0, oI 23 1 20 22), (0, oW 24 kI 23)] [oB 25 .eql 19 24]) (
 .cond (.t 25) (.seq (.g [oM 26 0, oM 27 3, oQ 28 (.more (.slo 1 (.t 26) (some (.t 27)) none)), oM 4 28]) (
 .seq (.seq (.g [oK 5 1]) (
 .block 2 (.loop [0, 3, 4, 5] e54x1 b54x1))) (
 .seq (.g [oM 54 0, oM 55 3, oQ 56 (.more (.slo 1 (.t 54) (some (.t 55)) none)), oS (.more (.clr [(.v (.int .i64 0))] (.t 56)))]) (
 .seq (.g [oM 57 0, oM 58 3, oQ 59 (.more (.slo 1 (.t 57) none (some (.t 58)))), oM 2 59]) (
 .ret))))) (.skip)))) (
 .g [oM 14 3, oBi 15 .add 14 1, oM 3 15])))
def e54x0 : Exits := [(.ret, [(2, .o 1)]), ((.exit 0), [(0, .o 1)])]
noncomputable def l54x0 (T : Table) (k : Nat) := loopN (evalC ⟨T, []⟩ k b54x0 (Ex × List AV)) [0, 3] e54x0
def a54 : AFun := ⟨[.own], false, [.t 2], (
 .seq (.g [oQ 2 (.mv (.c (.o 1 [])))]) (
 .seq (.seq (.g [oM 6 0, oZ 7 6, oBi 8 .lss 7 2]) (
 .cond (.t 8) (.seq (.g [oM 9 0, oM 2 9]) (
 .ret)) (.skip))) (
 .seq (.seq (.g [oK 3 1]) (
 .block 0 (.loop [0, 3] e54x0 b54x0))) (
 .seq (.g [oM 60 0, oM 2 60]) (
 .ret)))))⟩
theorem l54x1s (T : Table) (k n : Nat) (l8 : Rows) (n9 : Int) (m10 : Nat) (m11 : Nat) (n12 : Int) : l54x1 T k (n + 1) [(.o 1 l8), (.v (.int .i64 n9)), (.w 0 m10 m11), (.v (.int .i64 n12))] = (
 bif (decide (n12 < ((m11 - m10 : Nat) : Int))) then (
 tst (decide (0 ≤ n12) && decide (Int.toNat n12 < m11 - m10)) (
 look l8 (m10 + Int.toNat n12) fun r13 =>
 cI .i64 r13 0 fun n14 =>
 tst (decide (0 ≤ (IntKind.wrap .i64 (n12 - 1))) && decide (Int.toNat (IntKind.wrap .i64 (n12 - 1)) < m11 - m10)) (
 look l8 (m10 + Int.toNat (IntKind.wrap .i64 (n12 - 1))) fun r15 =>
 cI .i64 r15 0 fun n16 =>
 bif (n14 != n16) then (
 tst (decide (0 ≤ n12) && decide (Int.toNat n12 < m11 - m10)) (
 look l8 (m10 + Int.toNat n12) fun r17 =>
 cI .i64 r17 0 fun n18 =>
 tst (decide (0 ≤ n9) && decide (Int.toNat n9 < l8.length)) (
 l54x1 T k n [(.o 1 (setD l8 (Int.toNat n9) 0 (.v (.int .i64 n18)))), (.v (.int .i64 (IntKind.wrap .i64 (n9 + 1)))), (.w 0 m10 m11), (.v (.int .i64 (IntKind.wrap .i64 (n12 + 1))))]))) else (
 l54x1 T k n [(.o 1 l8), (.v (.int .i64 n9)), (.w 0 m10 m11), (.v (.int .i64 (IntKind.wrap .i64 (n12 + 1))))])))) else (
 some ((.exit 2), [(.o 1 l8), (.v (.int .i64 n9))]))) := by kernel_rfl
theorem l54x0s (T : Table) (k n : Nat) (l2 : Rows) (n3 : Int) : l54x0 T k (n + 1) [(.o 1 l2), (.v (.int .i64 n3))] = (
 bif (decide (n3 < (l2.length : Int))) then (
 tst (decide (0 ≤ n3) && decide (Int.toNat n3 < l2.length)) (
 look l2 (Int.toNat n3) fun r4 =>
 cI .i64 r4 0 fun n5 =>
 tst (decide (0 ≤ (IntKind.wrap .i64 (n3 - 1))) && decide (Int.toNat (IntKind.wrap .i64 (n3 - 1)) < l2.length)) (
 look l2 (Int.toNat (IntKind.wrap .i64 (n3 - 1))) fun r6 =>
 cI .i64 r6 0 fun n7 =>
 bif (n5 == n7) then (
 tst (cutOk n3 (l2.length : Int) (l2.length)) (
 aft (l54x1 T k k [(.o 1 l2), (.v (.int .i64 n3)), (.w 0 (Int.toNat n3) (Int.toNat (l2.length : Int))), (.v (.int .i64 1))]) fun e19 ys20 =>
 bif e19.same (.exit 2) then (
 aV ys20 0 fun x21 =>
 aO 1 x21 fun l22 =>
 aV ys20 1 fun x23 =>
 aI .i64 x23 fun n24 =>
 tst (cutOk n24 (l22.length : Int) (l22.length)) (
 tst (decide ((Int.toNat n24) < (Int.toNat (l22.length : Int))) && Nat.beq (Int.toNat (l22.length : Int)) l22.length) (
 tst (cutOk 0 n24 ((List.take (Int.toNat n24) l22 ++ List.replicate ((Int.toNat (l22.length : Int)) - (Int.toNat n24)) ([(.v (.int .i64 0))] : Row)).length)) (
 some (.ret, [(.o 1 ((List.take (Int.toNat n24) l22 ++ List.replicate ((Int.toNat (l22.length : Int)) - (Int.toNat n24)) ([(.v (.int .i64 0))] : Row)).take (Int.toNat n24)))]))))) else (
 none))) else (
 l54x0 T k n [(.o 1 l2), (.v (.int .i64 (IntKind.wrap .i64 (n3 + 1))))])))) else (
 some ((.exit 0), [(.o 1 l2)]))) := by kernel_rfl
theorem a54q (T : Table) (k : Nat) (l1 : Rows) : evalF T k a54 [(.d (.s 1 l1))] = (
 bif (decide ((l1.length : Int) < 2)) then (
 some ⟨(.d (.s 1 l1)), []⟩) else (
 aft (l54x0 T k k [(.o 1 l1), (.v (.int .i64 1))]) fun e25 ys26 =>
 bif e25.same .ret then (
 aV ys26 0 fun x27 =>
 aO 1 x27 fun l28 =>
 some ⟨(.d (.s 1 l28)), []⟩) else (
 bif e25.same (.exit 0) then (
 aV ys26 0 fun x29 =>
 aO 1 x29 fun l30 =>
 some ⟨(.d (.s 1 l30)), []⟩) else (
 none)))) := by kernel_rfl
/- loop.example/g00119/impl.Lacking -/
def b15x0 : ACode := (
 .seq (.g [oB 11 .lss 10 9]) (
 .seq (.cond (.t 11) (.skip) (.exit 0)) (
 .seq (.block 1 (.seq (.g [oI 12 13 8 10, oL 13 [kI, .s, kI, (.sl 3), (.sl 1), (.sl 2), kI, .s, kI, (.sl 1), (.sl 5), (.sl 2), .b] 12, oQ 5 (.alloc [(.v (.int .i64 0)), (.v (.string ByteArray.empty)), (.v (.int .i64 0)), (.s 3 []), (.s 1 []), (.s 2 []), (.v (.int .i64 0)), (.v (.string ByteArray.empty)), (.v (.int .i64 0)), (.s 1 []), (.s 5 []), (.s 2 []), (.v (.bool false))]), oS (.store 13 (.t 5) (.t 13))]) (
 .seq (.dreg [] [(0, oF 14 12 5), (0, oW 15 .b 14), (0, oN 16 15), (0, oM 17 16), (0, oJ 18 17 true (.load true [kI, kI, kI, (.sl 13), (.sl 6), (.sl 5), (.sl 1)] (.t 1))), (0, oJ 19 17 true (.fad 0 (.t 5))), (0, oJ 20 17 true (.load false [kI] (.t 19))), (1, oJ 21 17 true (.call (.f 52) [.rd, .rd] false [.c kI] [(.t 18), (.t 20)])), (0, oJ 22 17 true (.fad 2 (.t 5))), (0, oJ 23 17 true (.fad 0 (.t 22))), (0, oJ 24 17 true (.load false [kI] (.t 23)))] [oJ 25 17 true (.bin .lss (.t 21) (.t 24)), oQ 26 (.pick (.t 17) (.t 25) (.b false))]) (
 .cond (.t 26) (.g [oM 27 3, oF 28 0 5, oW 29 kI 28, oQ 30 (.lit 1 ([[(.v (.int .i64 0))]] : Rows) [(0, (.t 29))]), oQ 31 (.app 1 8 (.t 27) (.t 30)), oM 3 31]) (.skip))))) (
 .g [oBi 32 .add 10 1, oM 10 32]))))
def e15x0 : Exits := [((.exit 0), [(3, .o 1)])]
noncomputable def l15x0 (T : Table) (k : Nat) := loopN (evalC ⟨T, []⟩ k b15x0 (Ex × List AV)) [1, 3, 8, 9, 10] e15x0
def a15 : AFun := ⟨[.rd], false, [.t 2], (
 .seq (.g [oQ 1 (.box (.t 0)), oQ 2 (.mv (.c (.o 1 [])))]) (
 .seq (.g [oQ 6 (.lit 1 ([] : Rows) []), oM 3 6]) (
 .seq (.seq (.g [oF 7 3 1, oW 8 (.sl 13) 7, oZ 9 8, oK 10 0]) (
 .block 0 (.loop [1, 3, 8, 9, 10] e15x0 b15x0))) (
 .seq (.g [oM 33 3, oQ 34 (.call (.f 53) [.lent] false [] [(.t 33)])]) (
 .seq (.g [oM 35 3, oQ 36 (.call (.f 54) [.own] false [.c (.sl 1)] [(.t 35)]), oM 2 36]) (
 .ret))))))⟩
theorem l15x0s (T : Table) (k n : Nat) (n8 : Int) (n9 : Int) (n10 : Int) (l11 : Rows) (l12 : Rows) (l13 : Rows) (l14 : Rows) (l15 : Rows) (l16 : Rows) (n17 : Int) (n18 : Int) : l15x0 T k (n + 1) [(.b [(.v (.int .i64 n8)), (.v (.int .i64 n9)), (.v (.int .i64 n10)), (.fz 13 l11), (.fz 6 l12), (.fz 5 l13), (.fz 1 l14)]), (.o 1 l15), (.fz 13 l16), (.v (.int .i64 n17)), (.v (.int .i64 n18))] = (
 bif (decide (n18 < n17)) then (
 tst (decide (0 ≤ n18)) (
 look l16 (Int.toNat n18) fun r19 =>
 cI .i64 r19 0 fun n20 =>
 cS r19 1 fun s21 =>
 cI .i64 r19 2 fun n22 =>
 cL 3 r19 3 fun l23 =>
 cL 1 r19 4 fun l24 =>
 cL 2 r19 5 fun l25 =>
 cI .i64 r19 6 fun n26 =>
 cS r19 7 fun s27 =>
 cI .i64 r19 8 fun n28 =>
 cL 1 r19 9 fun l29 =>
 cL 5 r19 10 fun l30 =>
 cL 2 r19 11 fun l31 =>
 cB r19 12 fun b32 =>
 bif (!b32) == true then (
 callT T 52 [(.g [(.v (.int .i64 n8)), (.v (.int .i64 n9)), (.v (.int .i64 n10)), (.s 13 l11), (.s 6 l12), (.s 5 l13), (.s 1 l14)]), (.d (.v (.int .i64 n20)))] fun o33 =>
 oD o33.res fun d34 =>
 dI .i64 d34 fun n35 =>
 bif (decide (n35 < n22)) then (
 tst (decide ((l15.length + ([[(.v (.int .i64 n20))]] : Rows).length) * 8 ≤ maxBytes)) (
 l15x0 T k n [(.b [(.v (.int .i64 n8)), (.v (.int .i64 n9)), (.v (.int .i64 n10)), (.fz 13 l11), (.fz 6 l12), (.fz 5 l13), (.fz 1 l14)]), (.o 1 (l15 ++ ([[(.v (.int .i64 n20))]] : Rows))), (.fz 13 l16), (.v (.int .i64 n17)), (.v (.int .i64 (IntKind.wrap .i64 (n18 + 1))))])) else (
 l15x0 T k n [(.b [(.v (.int .i64 n8)), (.v (.int .i64 n9)), (.v (.int .i64 n10)), (.fz 13 l11), (.fz 6 l12), (.fz 5 l13), (.fz 1 l14)]), (.o 1 l15), (.fz 13 l16), (.v (.int .i64 n17)), (.v (.int .i64 (IntKind.wrap .i64 (n18 + 1))))])) else (
 l15x0 T k n [(.b [(.v (.int .i64 n8)), (.v (.int .i64 n9)), (.v (.int .i64 n10)), (.fz 13 l11), (.fz 6 l12), (.fz 5 l13), (.fz 1 l14)]), (.o 1 l15), (.fz 13 l16), (.v (.int .i64 n17)), (.v (.int .i64 (IntKind.wrap .i64 (n18 + 1))))]))) else (
 some ((.exit 0), [(.o 1 l15)]))) := by kernel_rfl
theorem a15q (T : Table) (k : Nat) (n1 : Int) (n2 : Int) (n3 : Int) (l4 : Rows) (l5 : Rows) (l6 : Rows) (l7 : Rows) : evalF T k a15 [(.g [(.v (.int .i64 n1)), (.v (.int .i64 n2)), (.v (.int .i64 n3)), (.s 13 l4), (.s 6 l5), (.s 5 l6), (.s 1 l7)])] = (
 aft (l15x0 T k k [(.b [(.v (.int .i64 n1)), (.v (.int .i64 n2)), (.v (.int .i64 n3)), (.fz 13 l4), (.fz 6 l5), (.fz 5 l6), (.fz 1 l7)]), (.o 1 []), (.fz 13 l4), (.v (.int .i64 (l4.length : Int))), (.v (.int .i64 0))]) fun e36 ys37 =>
 bif e36.same (.exit 0) then (
 aV ys37 0 fun x38 =>
 aO 1 x38 fun l39 =>
 callT T 53 [(.d (.s 1 l39))] fun o40 =>
 nth o40.back 0 fun i41 =>
 oD i41 fun d42 =>
 dL 1 d42 fun l43 =>
 oT o40.res fun is44 =>
 tst (Nat.beq is44.length 0) (
 callT T 54 [(.d (.s 1 l43))] fun o45 =>
 oD o45.res fun d46 =>
 dL 1 d46 fun l47 =>
 some ⟨(.d (.s 1 l47)), []⟩)) else (
 none)) := by kernel_rfl
/- loop.example/g00119/laws.eqIntS -/
def b16x0 : ACode := (
 .seq (.seq (.g [oM 11 5, oM 12 0, oZ 13 12, oB 14 .lss 11 13]) (
 .cond (.t 14) (.skip) (.exit 0))) (
 .seq (.block 1 (.seq (.dreg [] [(0, oM 17 0), (0, oM 18 5), (0, oI 19 1 17 18), (0, oW 20 kI 19), (0, oM 21 1), (0, oM 22 5), (0, oI 23 1 21 22), (0, oW 24 kI 23)] [oB 25 .neq 20 24]) (
 .cond (.t 25) (.seq (.g [oV 4 false]) (
 .ret)) (.skip)))) (
 .g [oM 15 5, oBi 16 .add 15 1, oM 5 16])))
def e16x0 : Exits := [(.ret, [(4, .c .b)]), ((.exit 0), [])]
noncomputable def l16x0 (T : Table) (k : Nat) := loopN (evalC ⟨T, []⟩ k b16x0 (Ex × List AV)) [0, 1, 5] e16x0
def a16 : AFun := ⟨[.rd, .rd], false, [.t 4], (
 .seq (.g [oV 4 false]) (
 .seq (.seq (.g [oM 6 0, oZ 7 6, oM 8 1, oZ 9 8, oB 10 .neq 7 9]) (
 .cond (.t 10) (.seq (.g [oV 4 false]) (
 .ret)) (.skip))) (
 .seq (.seq (.g [oK 5 0]) (
 .block 0 (.loop [0, 1, 5] e16x0 b16x0))) (
 .seq (.g [oV 4 true]) (
 .ret)))))⟩
theorem l16x0s (T : Table) (k n : Nat) (l3 : Rows) (l4 : Rows) (n5 : Int) : l16x0 T k (n + 1) [(.fz 1 l3), (.fz 1 l4), (.v (.int .i64 n5))] = (
 bif (decide (n5 < (l3.length : Int))) then (
 tst (decide (0 ≤ n5)) (
 look l3 (Int.toNat n5) fun r6 =>
 cI .i64 r6 0 fun n7 =>
 tst (decide (0 ≤ n5)) (
 look l4 (Int.toNat n5) fun r8 =>
 cI .i64 r8 0 fun n9 =>
 bif (n7 != n9) then (
 some (.ret, [(.v (.bool false))])) else (
 l16x0 T k n [(.fz 1 l3), (.fz 1 l4), (.v (.int .i64 (IntKind.wrap .i64 (n5 + 1))))])))) else (
 some ((.exit 0), []))) := by kernel_rfl
theorem a16q (T : Table) (k : Nat) (l1 : Rows) (l2 : Rows) : evalF T k a16 [(.d (.s 1 l1)), (.d (.s 1 l2))] = (
 bif ((l1.length : Int) != (l2.length : Int)) then (
 some ⟨(.d (.v (.bool false))), []⟩) else (
 aft (l16x0 T k k [(.fz 1 l1), (.fz 1 l2), (.v (.int .i64 0))]) fun e10 ys11 =>
 bif e10.same .ret then (
 aV ys11 0 fun x12 =>
 aB x12 fun b13 =>
 some ⟨(.d (.v (.bool b13))), []⟩) else (
 bif e10.same (.exit 0) then (
 some ⟨(.d (.v (.bool true))), []⟩) else (
 none)))) := by kernel_rfl
/- loop.example/g00119/laws.eqStringS -/
def b43x0 : ACode := (
 .seq (.seq (.g [oM 11 5, oM 12 0, oZ 13 12, oB 14 .lss 11 13]) (
 .cond (.t 14) (.skip) (.exit 0))) (
 .seq (.block 1 (.seq (.dreg [] [(0, oM 17 0), (0, oM 18 5), (0, oI 19 1 17 18), (0, oW 20 .s 19), (0, oM 21 1), (0, oM 22 5), (0, oI 23 1 21 22), (0, oW 24 .s 23)] [oB 25 .neq 20 24]) (
 .cond (.t 25) (.seq (.g [oV 4 false]) (
 .ret)) (.skip)))) (
 .g [oM 15 5, oBi 16 .add 15 1, oM 5 16])))
def e43x0 : Exits := [(.ret, [(4, .c .b)]), ((.exit 0), [])]
noncomputable def l43x0 (T : Table) (k : Nat) := loopN (evalC ⟨T, []⟩ k b43x0 (Ex × List AV)) [0, 1, 5] e43x0
def a43 : AFun := ⟨[.rd, .rd], false, [.t 4], (
 .seq (.g [oV 4 false]) (
 .seq (.seq (.g [oM 6 0, oZ 7 6, oM 8 1, oZ 9 8, oB 10 .neq 7 9]) (
 .cond (.t 10) (.seq (.g [oV 4 false]) (
 .ret)) (.skip))) (
 .seq (.seq (.g [oK 5 0]) (
 .block 0 (.loop [0, 1, 5] e43x0 b43x0))) (
 .seq (.g [oV 4 true]) (
 .ret)))))⟩
theorem l43x0s (T : Table) (k n : Nat) (l3 : Rows) (l4 : Rows) (n5 : Int) : l43x0 T k (n + 1) [(.fz 1 l3), (.fz 1 l4), (.v (.int .i64 n5))] = (
 bif (decide (n5 < (l3.length : Int))) then (
 tst (decide (0 ≤ n5)) (
 look l3 (Int.toNat n5) fun r6 =>
 cS r6 0 fun s7 =>
 tst (decide (0 ≤ n5)) (
 look l4 (Int.toNat n5) fun r8 =>
 cS r8 0 fun s9 =>
 bif (!(bytesEq s7 s9)) then (
 some (.ret, [(.v (.bool false))])) else (
 l43x0 T k n [(.fz 1 l3), (.fz 1 l4), (.v (.int .i64 (IntKind.wrap .i64 (n5 + 1))))])))) else (
 some ((.exit 0), []))) := by kernel_rfl
theorem a43q (T : Table) (k : Nat) (l1 : Rows) (l2 : Rows) : evalF T k a43 [(.d (.s 1 l1)), (.d (.s 1 l2))] = (
 bif ((l1.length : Int) != (l2.length : Int)) then (
 some ⟨(.d (.v (.bool false))), []⟩) else (
 aft (l43x0 T k k [(.fz 1 l1), (.fz 1 l2), (.v (.int .i64 0))]) fun e10 ys11 =>
 bif e10.same .ret then (
 aV ys11 0 fun x12 =>
 aB x12 fun b13 =>
 some ⟨(.d (.v (.bool b13))), []⟩) else (
 bif e10.same (.exit 0) then (
 some ⟨(.d (.v (.bool true))), []⟩) else (
 none)))) := by kernel_rfl
/- loop.example/g00119/laws.eqTerm -/

def a215 : AFun := ⟨[.rd, .rd], false, [.t 4], (
 .seq (.g [oQ 2 (.box (.t 0)), oQ 3 (.box (.t 1)), oV 4 false]) (
 .seq (.seq (.g [oF 5 0 2, oW 6 kI 5, oF 7 0 3, oW 8 kI 7, oB 9 .neq 6 8]) (
 .cond (.t 9) (.seq (.g [oV 4 false]) (
 .ret)) (.skip))) (
 .seq (.seq (.g [oF 10 1 2, oW 11 .s 10, oF 12 1 3, oW 13 .s 12, oB 14 .neq 11 13]) (
 .cond (.t 14) (.seq (.g [oV 4 false]) (
 .ret)) (.skip))) (
 .seq (.seq (.g [oF 15 2 2, oW 16 (.sl 1) 15, oF 17 2 3, oW 18 (.sl 1) 17, oC 19 43 [.c .b] [16, 18], oN 20 19]) (
 .cond (.t 20) (.seq (.g [oV 4 false]) (
 .ret)) (.skip))) (
 .seq (.g [oV 4 true]) (
 .ret))))))⟩

theorem a215q (T : Table) (k : Nat) (n1 : Int) (s2 : ByteArray) (l3 : Rows) (n4 : Int) (s5 : ByteArray) (l6 : Rows) : evalF T k a215 [(.g [(.v (.int .i64 n1)), (.v (.string s2)), (.s 1 l3)]), (.g [(.v (.int .i64 n4)), (.v (.string s5)), (.s 1 l6)])] = (
 bif (n1 != n4) then (
 some ⟨(.d (.v (.bool false))), []⟩) else (
 bif (!(bytesEq s2 s5)) then (
 some ⟨(.d (.v (.bool false))), []⟩) else (
 callT T 43 [(.d (.s 1 l3)), (.d (.s 1 l6))] fun o7 =>
 oD o7.res fun d8 =>
 dB d8 fun b9 =>
 bif (!b9) then (
 some ⟨(.d (.v (.bool false))), []⟩) else (
 some ⟨(.d (.v (.bool true))), []⟩)))) := by kernel_rfl
/- loop.example/g00119/laws.eqTermS -/
def b157x0 : ACode := (
 .seq (.seq (.g [oM 11 5, oM 12 0, oZ 13 12, oB 14 .lss 11 13]) (
 .cond (.t 14) (.skip) (.exit 0))) (
 .seq (.block 1 (.seq (.dreg [] [(0, oM 17 0), (0, oM 18 5), (0, oI 19 3 17 18), (0, oL 20 [kI, .s, (.sl 1)] 19), (0, oM 21 1), (0, oM 22 5), (0, oI 23 3 21 22), (0, oL 24 [kI, .s, (.sl 1)] 23)] [oC 25 215 [.c .b] [20, 24], oN 26 25]) (
 .cond (.t 26) (.seq (.g [oV 4 false]) (
 .ret)) (.skip)))) (
 .g [oM 15 5, oBi 16 .add 15 1, oM 5 16])))
def e157x0 : Exits := [(.ret, [(4, .c .b)]), ((.exit 0), [])]
noncomputable def l157x0 (T : Table) (k : Nat) := loopN (evalC ⟨T, []⟩ k b157x0 (Ex × List AV)) [0, 1, 5] e157x0
def a157 : AFun := ⟨[.rd, .rd], false, [.t 4], (
 .seq (.g [oV 4 false]) (
 .seq (.seq (.g [oM 6 0, oZ 7 6, oM 8 1, oZ 9 8, oB 10 .neq 7 9]) (
 .cond (.t 10) (.seq (.g [oV 4 false]) (
 .ret)) (.skip))) (
 .seq (.seq (.g [oK 5 0]) (
 .block 0 (.loop [0, 1, 5] e157x0 b157x0))) (
 .seq (.g [oV 4 true]) (
 .ret)))))⟩
theorem l157x0s (T : Table) (k n : Nat) (l3 : Rows) (l4 : Rows) (n5 : Int) : l157x0 T k (n + 1) [(.fz 3 l3), (.fz 3 l4), (.v (.int .i64 n5))] = (
 bif (decide (n5 < (l3.length : Int))) then (
 tst (decide (0 ≤ n5)) (
 look l3 (Int.toNat n5) fun r6 =>
 cI .i64 r6 0 fun n7 =>
 cS r6 1 fun s8 =>
 cL 1 r6 2 fun l9 =>
 tst (decide (0 ≤ n5)) (
 look l4 (Int.toNat n5) fun r10 =>
 cI .i64 r10 0 fun n11 =>
 cS r10 1 fun s12 =>
 cL 1 r10 2 fun l13 =>
 callT T 215 [(.g [(.v (.int .i64 n7)), (.v (.string s8)), (.s 1 l9)]), (.g [(.v (.int .i64 n11)), (.v (.string s12)), (.s 1 l13)])] fun o14 =>
 oD o14.res fun d15 =>
 dB d15 fun b16 =>
 bif (!b16) then (
 some (.ret, [(.v (.bool false))])) else (
 l157x0 T k n [(.fz 3 l3), (.fz 3 l4), (.v (.int .i64 (IntKind.wrap .i64 (n5 + 1))))])))) else (
 some ((.exit 0), []))) := by kernel_rfl
theorem a157q (T : Table) (k : Nat) (l1 : Rows) (l2 : Rows) : evalF T k a157 [(.d (.s 3 l1)), (.d (.s 3 l2))] = (
 bif ((l1.length : Int) != (l2.length : Int)) then (
 some ⟨(.d (.v (.bool false))), []⟩) else (
 aft (l157x0 T k k [(.fz 3 l1), (.fz 3 l2), (.v (.int .i64 0))]) fun e17 ys18 =>
 bif e17.same .ret then (
 aV ys18 0 fun x19 =>
 aB x19 fun b20 =>
 some ⟨(.d (.v (.bool b20))), []⟩) else (
 bif e17.same (.exit 0) then (
 some ⟨(.d (.v (.bool true))), []⟩) else (
 none)))) := by kernel_rfl
/- loop.example/g00119/laws.eqWeigh -/

def a216 : AFun := ⟨[.rd, .rd], false, [.t 4], (
 .seq (.g [oQ 2 (.box (.t 0)), oQ 3 (.box (.t 1)), oV 4 false]) (
 .seq (.seq (.g [oF 5 0 2, oW 6 .s 5, oF 7 0 3, oW 8 .s 7, oB 9 .neq 6 8]) (
 .cond (.t 9) (.seq (.g [oV 4 false]) (
 .ret)) (.skip))) (
 .seq (.seq (.g [oF 10 1 2, oW 11 kI 10, oF 12 1 3, oW 13 kI 12, oB 14 .neq 11 13]) (
 .cond (.t 14) (.seq (.g [oV 4 false]) (
 .ret)) (.skip))) (
 .seq (.g [oV 4 true]) (
 .ret)))))⟩

theorem a216q (T : Table) (k : Nat) (s1 : ByteArray) (n2 : Int) (s3 : ByteArray) (n4 : Int) : evalF T k a216 [(.g [(.v (.string s1)), (.v (.int .i64 n2))]), (.g [(.v (.string s3)), (.v (.int .i64 n4))])] = (
 bif (!(bytesEq s1 s3)) then (
 some ⟨(.d (.v (.bool false))), []⟩) else (
 bif (n2 != n4) then (
 some ⟨(.d (.v (.bool false))), []⟩) else (
 some ⟨(.d (.v (.bool true))), []⟩))) := by kernel_rfl
/- loop.example/g00119/laws.eqWeighS -/
def b158x0 : ACode := (
 .seq (.seq (.g [oM 11 5, oM 12 0, oZ 13 12, oB 14 .lss 11 13]) (
 .cond (.t 14) (.skip) (.exit 0))) (
 .seq (.block 1 (.seq (.dreg [] [(0, oM 17 0), (0, oM 18 5), (0, oI 19 2 17 18), (0, oL 20 [.s, kI] 19), (0, oM 21 1), (0, oM 22 5), (0, oI 23 2 21 22), (0, oL 24 [.s, kI] 23)] [oC 25 216 [.c .b] [20, 24], oN 26 25]) (
 .cond (.t 26) (.seq (.g [oV 4 false]) (
 .ret)) (.skip)))) (
 .g [oM 15 5, oBi 16 .add 15 1, oM 5 16])))
def e158x0 : Exits := [(.ret, [(4, .c .b)]), ((.exit 0), [])]
noncomputable def l158x0 (T : Table) (k : Nat) := loopN (evalC ⟨T, []⟩ k b158x0 (Ex × List AV)) [0, 1, 5] e158x0
def a158 : AFun := ⟨[.rd, .rd], false, [.t 4], (
 .seq (.g [oV 4 false]) (
 .seq (.seq (.g [oM 6 0, oZ 7 6, oM 8 1, oZ 9 8, oB 10 .neq 7 9]) (
 .cond (.t 10) (.seq (.g [oV 4 false]) (
 .ret)) (.skip))) (
 .seq (.seq (.g [oK 5 0]) (
 .block 0 (.loop [0, 1, 5] e158x0 b158x0))) (
 .seq (.g [oV 4 true]) (
 .ret)))))⟩
theorem l158x0s (T : Table) (k n : Nat) (l3 : Rows) (l4 : Rows) (n5 : Int) : l158x0 T k (n + 1) [(.fz 2 l3), (.fz 2 l4), (.v (.int .i64 n5))] = (
 bif (decide (n5 < (l3.length : Int))) then (
 tst (decide (0 ≤ n5)) (
 look l3 (Int.toNat n5) fun r6 =>
 cS r6 0 fun s7 =>
 cI .i64 r6 1 fun n8 =>
 tst (decide (0 ≤ n5)) (
 look l4 (Int.toNat n5) fun r9 =>
 cS r9 0 fun s10 =>
 cI .i64 r9 1 fun n11 =>
 callT T 216 [(.g [(.v (.string s7)), (.v (.int .i64 n8))]), (.g [(.v (.string s10)), (.v (.int .i64 n11))])] fun o12 =>
 oD o12.res fun d13 =>
 dB d13 fun b14 =>
 bif (!b14) then (
 some (.ret, [(.v (.bool false))])) else (
 l158x0 T k n [(.fz 2 l3), (.fz 2 l4), (.v (.int .i64 (IntKind.wrap .i64 (n5 + 1))))])))) else (
 some ((.exit 0), []))) := by kernel_rfl
theorem a158q (T : Table) (k : Nat) (l1 : Rows) (l2 : Rows) : evalF T k a158 [(.d (.s 2 l1)), (.d (.s 2 l2))] = (
 bif ((l1.length : Int) != (l2.length : Int)) then (
 some ⟨(.d (.v (.bool false))), []⟩) else (
 aft (l158x0 T k k [(.fz 2 l1), (.fz 2 l2), (.v (.int .i64 0))]) fun e15 ys16 =>
 bif e15.same .ret then (
 aV ys16 0 fun x17 =>
 aB x17 fun b18 =>
 some ⟨(.d (.v (.bool b18))), []⟩) else (
 bif e15.same (.exit 0) then (
 some ⟨(.d (.v (.bool true))), []⟩) else (
 none)))) := by kernel_rfl
/- loop.example/g00119/laws.eqWant -/

def a89 : AFun := ⟨[.rd, .rd], false, [.t 4], (
 .seq (.g [oQ 2 (.box (.t 0)), oQ 3 (.box (.t 1)), oV 4 false]) (
 .seq (.seq (.g [oF 5 0 2, oW 6 kI 5, oF 7 0 3, oW 8 kI 7, oB 9 .neq 6 8]) (
 .cond (.t 9) (.seq (.g [oV 4 false]) (
 .ret)) (.skip))) (
 .seq (.seq (.g [oF 10 1 2, oW 11 (.sl 3) 10, oF 12 1 3, oW 13 (.sl 3) 12, oC 14 157 [.c .b] [11, 13], oN 15 14]) (
 .cond (.t 15) (.seq (.g [oV 4 false]) (
 .ret)) (.skip))) (
 .seq (.seq (.g [oF 16 2 2, oW 17 (.sl 1) 16, oF 18 2 3, oW 19 (.sl 1) 18, oC 20 43 [.c .b] [17, 19], oN 21 20]) (
 .cond (.t 21) (.seq (.g [oV 4 false]) (
 .ret)) (.skip))) (
 .seq (.seq (.g [oF 22 3 2, oW 23 (.sl 2) 22, oF 24 3 3, oW 25 (.sl 2) 24, oC 26 158 [.c .b] [23, 25], oN 27 26]) (
 .cond (.t 27) (.seq (.g [oV 4 false]) (
 .ret)) (.skip))) (
 .seq (.g [oV 4 true]) (
 .ret)))))))⟩

theorem a89q (T : Table) (k : Nat) (n1 : Int) (l2 : Rows) (l3 : Rows) (l4 : Rows) (n5 : Int) (l6 : Rows) (l7 : Rows) (l8 : Rows) : evalF T k a89 [(.g [(.v (.int .i64 n1)), (.s 3 l2), (.s 1 l3), (.s 2 l4)]), (.g [(.v (.int .i64 n5)), (.s 3 l6), (.s 1 l7), (.s 2 l8)])] = (
 bif (n1 != n5) then (
 some ⟨(.d (.v (.bool false))), []⟩) else (
 callT T 157 [(.d (.s 3 l2)), (.d (.s 3 l6))] fun o9 =>
 oD o9.res fun d10 =>
 dB d10 fun b11 =>
 bif (!b11) then (
 some ⟨(.d (.v (.bool false))), []⟩) else (
 callT T 43 [(.d (.s 1 l3)), (.d (.s 1 l7))] fun o12 =>
 oD o12.res fun d13 =>
 dB d13 fun b14 =>
 bif (!b14) then (
 some ⟨(.d (.v (.bool false))), []⟩) else (
 callT T 158 [(.d (.s 2 l4)), (.d (.s 2 l8))] fun o15 =>
 oD o15.res fun d16 =>
 dB d16 fun b17 =>
 bif (!b17) then (
 some ⟨(.d (.v (.bool false))), []⟩) else (
 some ⟨(.d (.v (.bool true))), []⟩))))) := by kernel_rfl
/- loop.example/g00119/laws.eqValueS -/
def b159x0 : ACode := (
 .seq (.seq (.g [oM 11 5, oM 12 0, oZ 13 12, oB 14 .lss 11 13]) (
 .cond (.t 14) (.skip) (.exit 0))) (
 .seq (.block 1 (.seq (.dreg [] [(0, oM 17 0), (0, oM 18 5), (0, oI 19 5 17 18), (0, oL 20 [kI, .s, kI, (.sl 1), (.sl 5)] 19), (0, oM 21 1), (0, oM 22 5), (0, oI 23 5 21 22), (0, oL 24 [kI, .s, kI, (.sl 1), (.sl 5)] 23)] [oC 25 90 [.c .b] [20, 24], oN 26 25]) (
 .cond (.t 26) (.seq (.g [oV 4 false]) (
 .ret)) (.skip)))) (
 .g [oM 15 5, oBi 16 .add 15 1, oM 5 16])))
def e159x0 : Exits := [(.ret, [(4, .c .b)]), ((.exit 0), [])]
noncomputable def l159x0 (T : Table) (k : Nat) := loopN (evalC ⟨T, []⟩ k b159x0 (Ex × List AV)) [0, 1, 5] e159x0
def a159 : AFun := ⟨[.rd, .rd], false, [.t 4], (
 .seq (.g [oV 4 false]) (
 .seq (.seq (.g [oM 6 0, oZ 7 6, oM 8 1, oZ 9 8, oB 10 .neq 7 9]) (
 .cond (.t 10) (.seq (.g [oV 4 false]) (
 .ret)) (.skip))) (
 .seq (.seq (.g [oK 5 0]) (
 .block 0 (.loop [0, 1, 5] e159x0 b159x0))) (
 .seq (.g [oV 4 true]) (
 .ret)))))⟩
theorem l159x0s (T : Table) (k n : Nat) (l3 : Rows) (l4 : Rows) (n5 : Int) : l159x0 T k (n + 1) [(.fz 5 l3), (.fz 5 l4), (.v (.int .i64 n5))] = (
 bif (decide (n5 < (l3.length : Int))) then (
 tst (decide (0 ≤ n5)) (
 look l3 (Int.toNat n5) fun r6 =>
 cI .i64 r6 0 fun n7 =>
 cS r6 1 fun s8 =>
 cI .i64 r6 2 fun n9 =>
 cL 1 r6 3 fun l10 =>
 cL 5 r6 4 fun l11 =>
 tst (decide (0 ≤ n5)) (
 look l4 (Int.toNat n5) fun r12 =>
 cI .i64 r12 0 fun n13 =>
 cS r12 1 fun s14 =>
 cI .i64 r12 2 fun n15 =>
 cL 1 r12 3 fun l16 =>
 cL 5 r12 4 fun l17 =>
 callT T 90 [(.g [(.v (.int .i64 n7)), (.v (.string s8)), (.v (.int .i64 n9)), (.s 1 l10), (.s 5 l11)]), (.g [(.v (.int .i64 n13)), (.v (.string s14)), (.v (.int .i64 n15)), (.s 1 l16), (.s 5 l17)])] fun o18 =>
 oD o18.res fun d19 =>
 dB d19 fun b20 =>
 bif (!b20) then (
 some (.ret, [(.v (.bool false))])) else (
 l159x0 T k n [(.fz 5 l3), (.fz 5 l4), (.v (.int .i64 (IntKind.wrap .i64 (n5 + 1))))])))) else (
 some ((.exit 0), []))) := by kernel_rfl
theorem a159q (T : Table) (k : Nat) (l1 : Rows) (l2 : Rows) : evalF T k a159 [(.d (.s 5 l1)), (.d (.s 5 l2))] = (
 bif ((l1.length : Int) != (l2.length : Int)) then (
 some ⟨(.d (.v (.bool false))), []⟩) else (
 aft (l159x0 T k k [(.fz 5 l1), (.fz 5 l2), (.v (.int .i64 0))]) fun e21 ys22 =>
 bif e21.same .ret then (
 aV ys22 0 fun x23 =>
 aB x23 fun b24 =>
 some ⟨(.d (.v (.bool b24))), []⟩) else (
 bif e21.same (.exit 0) then (
 some ⟨(.d (.v (.bool true))), []⟩) else (
 none)))) := by kernel_rfl
/- loop.example/g00119/laws.eqValue -/

def a90 : AFun := ⟨[.rd, .rd], false, [.t 4], (
 .seq (.g [oQ 2 (.box (.t 0)), oQ 3 (.box (.t 1)), oV 4 false]) (
 .seq (.seq (.g [oF 5 0 2, oW 6 kI 5, oF 7 0 3, oW 8 kI 7, oB 9 .neq 6 8]) (
 .cond (.t 9) (.seq (.g [oV 4 false]) (
 .ret)) (.skip))) (
 .seq (.seq (.g [oF 10 1 2, oW 11 .s 10, oF 12 1 3, oW 13 .s 12, oB 14 .neq 11 13]) (
 .cond (.t 14) (.seq (.g [oV 4 false]) (
 .ret)) (.skip))) (
 .seq (.seq (.g [oF 15 2 2, oW 16 kI 15, oF 17 2 3, oW 18 kI 17, oB 19 .neq 16 18]) (
 .cond (.t 19) (.seq (.g [oV 4 false]) (
 .ret)) (.skip))) (
 .seq (.seq (.g [oF 20 3 2, oW 21 (.sl 1) 20, oF 22 3 3, oW 23 (.sl 1) 22, oC 24 43 [.c .b] [21, 23], oN 25 24]) (
 .cond (.t 25) (.seq (.g [oV 4 false]) (
 .ret)) (.skip))) (
 .seq (.seq (.g [oF 26 4 2, oW 27 (.sl 5) 26, oF 28 4 3, oW 29 (.sl 5) 28, oC 30 159 [.c .b] [27, 29], oN 31 30]) (
 .cond (.t 31) (.seq (.g [oV 4 false]) (
 .ret)) (.skip))) (
 .seq (.g [oV 4 true]) (
 .ret))))))))⟩

theorem a90q (T : Table) (k : Nat) (n1 : Int) (s2 : ByteArray) (n3 : Int) (l4 : Rows) (l5 : Rows) (n6 : Int) (s7 : ByteArray) (n8 : Int) (l9 : Rows) (l10 : Rows) : evalF T k a90 [(.g [(.v (.int .i64 n1)), (.v (.string s2)), (.v (.int .i64 n3)), (.s 1 l4), (.s 5 l5)]), (.g [(.v (.int .i64 n6)), (.v (.string s7)), (.v (.int .i64 n8)), (.s 1 l9), (.s 5 l10)])] = (
 bif (n1 != n6) then (
 some ⟨(.d (.v (.bool false))), []⟩) else (
 bif (!(bytesEq s2 s7)) then (
 some ⟨(.d (.v (.bool false))), []⟩) else (
 bif (n3 != n8) then (
 some ⟨(.d (.v (.bool false))), []⟩) else (
 callT T 43 [(.d (.s 1 l4)), (.d (.s 1 l9))] fun o11 =>
 oD o11.res fun d12 =>
 dB d12 fun b13 =>
 bif (!b13) then (
 some ⟨(.d (.v (.bool false))), []⟩) else (
 callT T 159 [(.d (.s 5 l5)), (.d (.s 5 l10))] fun o14 =>
 oD o14.res fun d15 =>
 dB d15 fun b16 =>
 bif (!b16) then (
 some ⟨(.d (.v (.bool false))), []⟩) else (
 some ⟨(.d (.v (.bool true))), []⟩)))))) := by kernel_rfl
/- loop.example/g00119/laws.eqOp -/

def a248 : AFun := ⟨[.rd, .rd], false, [.t 4], (
 .seq (.g [oQ 2 (.box (.t 0)), oQ 3 (.box (.t 1)), oV 4 false]) (
 .seq (.seq (.g [oF 5 0 2, oW 6 kI 5, oF 7 0 3, oW 8 kI 7, oB 9 .neq 6 8]) (
 .cond (.t 9) (.seq (.g [oV 4 false]) (
 .ret)) (.skip))) (
 .seq (.seq (.g [oF 10 1 2, oW 11 (.sl 1) 10, oF 12 1 3, oW 13 (.sl 1) 12, oC 14 43 [.c .b] [11, 13], oN 15 14]) (
 .cond (.t 15) (.seq (.g [oV 4 false]) (
 .ret)) (.skip))) (
 .seq (.seq (.g [oF 16 2 2, oL 17 [kI, .s, kI, (.sl 1), (.sl 5)] 16, oF 18 2 3, oL 19 [kI, .s, kI, (.sl 1), (.sl 5)] 18, oC 20 90 [.c .b] [17, 19], oN 21 20]) (
 .cond (.t 21) (.seq (.g [oV 4 false]) (
 .ret)) (.skip))) (
 .seq (.g [oV 4 true]) (
 .ret))))))⟩

theorem a248q (T : Table) (k : Nat) (n1 : Int) (l2 : Rows) (n3 : Int) (s4 : ByteArray) (n5 : Int) (l6 : Rows) (l7 : Rows) (n8 : Int) (l9 : Rows) (n10 : Int) (s11 : ByteArray) (n12 : Int) (l13 : Rows) (l14 : Rows) : evalF T k a248 [(.g [(.v (.int .i64 n1)), (.s 1 l2), (.v (.int .i64 n3)), (.v (.string s4)), (.v (.int .i64 n5)), (.s 1 l6), (.s 5 l7)]), (.g [(.v (.int .i64 n8)), (.s 1 l9), (.v (.int .i64 n10)), (.v (.string s11)), (.v (.int .i64 n12)), (.s 1 l13), (.s 5 l14)])] = (
 bif (n1 != n8) then (
 some ⟨(.d (.v (.bool false))), []⟩) else (
 callT T 43 [(.d (.s 1 l2)), (.d (.s 1 l9))] fun o15 =>
 oD o15.res fun d16 =>
 dB d16 fun b17 =>
 bif (!b17) then (
 some ⟨(.d (.v (.bool false))), []⟩) else (
 callT T 90 [(.g [(.v (.int .i64 n3)), (.v (.string s4)), (.v (.int .i64 n5)), (.s 1 l6), (.s 5 l7)]), (.g [(.v (.int .i64 n10)), (.v (.string s11)), (.v (.int .i64 n12)), (.s 1 l13), (.s 5 l14)])] fun o18 =>
 oD o18.res fun d19 =>
 dB d19 fun b20 =>
 bif (!b20) then (
 some ⟨(.d (.v (.bool false))), []⟩) else (
 some ⟨(.d (.v (.bool true))), []⟩)))) := by kernel_rfl
/- loop.example/g00119/laws.eqOpS -/
def b217x0 : ACode := (
 .seq (.seq (.g [oM 11 5, oM 12 0, oZ 13 12, oB 14 .lss 11 13]) (
 .cond (.t 14) (.skip) (.exit 0))) (
 .seq (.block 1 (.seq (.dreg [] [(0, oM 17 0), (0, oM 18 5), (0, oI 19 7 17 18), (0, oL 20 [kI, (.sl 1), kI, .s, kI, (.sl 1), (.sl 5)] 19), (0, oM 21 1), (0, oM 22 5), (0, oI 23 7 21 22), (0, oL 24 [kI, (.sl 1), kI, .s, kI, (.sl 1), (.sl 5)] 23)] [oC 25 248 [.c .b] [20, 24], oN 26 25]) (
 .cond (.t 26) (.seq (.g [oV 4 false]) (
 .ret)) (.skip)))) (
 .g [oM 15 5, oBi 16 .add 15 1, oM 5 16])))
def e217x0 : Exits := [(.ret, [(4, .c .b)]), ((.exit 0), [])]
noncomputable def l217x0 (T : Table) (k : Nat) := loopN (evalC ⟨T, []⟩ k b217x0 (Ex × List AV)) [0, 1, 5] e217x0
def a217 : AFun := ⟨[.rd, .rd], false, [.t 4], (
 .seq (.g [oV 4 false]) (
 .seq (.seq (.g [oM 6 0, oZ 7 6, oM 8 1, oZ 9 8, oB 10 .neq 7 9]) (
 .cond (.t 10) (.seq (.g [oV 4 false]) (
 .ret)) (.skip))) (
 .seq (.seq (.g [oK 5 0]) (
 .block 0 (.loop [0, 1, 5] e217x0 b217x0))) (
 .seq (.g [oV 4 true]) (
 .ret)))))⟩
theorem l217x0s (T : Table) (k n : Nat) (l3 : Rows) (l4 : Rows) (n5 : Int) : l217x0 T k (n + 1) [(.fz 7 l3), (.fz 7 l4), (.v (.int .i64 n5))] = (
 bif (decide (n5 < (l3.length : Int))) then (
 tst (decide (0 ≤ n5)) (
 look l3 (Int.toNat n5) fun r6 =>
 cI .i64 r6 0 fun n7 =>
 cL 1 r6 1 fun l8 =>
 cI .i64 r6 2 fun n9 =>
 cS r6 3 fun s10 =>
 cI .i64 r6 4 fun n11 =>
 cL 1 r6 5 fun l12 =>
 cL 5 r6 6 fun l13 =>
 tst (decide (0 ≤ n5)) (
 look l4 (Int.toNat n5) fun r14 =>
 cI .i64 r14 0 fun n15 =>
 cL 1 r14 1 fun l16 =>
 cI .i64 r14 2 fun n17 =>
 cS r14 3 fun s18 =>
 cI .i64 r14 4 fun n19 =>
 cL 1 r14 5 fun l20 =>
 cL 5 r14 6 fun l21 =>
 callT T 248 [(.g [(.v (.int .i64 n7)), (.s 1 l8), (.v (.int .i64 n9)), (.v (.string s10)), (.v (.int .i64 n11)), (.s 1 l12), (.s 5 l13)]), (.g [(.v (.int .i64 n15)), (.s 1 l16), (.v (.int .i64 n17)), (.v (.string s18)), (.v (.int .i64 n19)), (.s 1 l20), (.s 5 l21)])] fun o22 =>
 oD o22.res fun d23 =>
 dB d23 fun b24 =>
 bif (!b24) then (
 some (.ret, [(.v (.bool false))])) else (
 l217x0 T k n [(.fz 7 l3), (.fz 7 l4), (.v (.int .i64 (IntKind.wrap .i64 (n5 + 1))))])))) else (
 some ((.exit 0), []))) := by kernel_rfl
theorem a217q (T : Table) (k : Nat) (l1 : Rows) (l2 : Rows) : evalF T k a217 [(.d (.s 7 l1)), (.d (.s 7 l2))] = (
 bif ((l1.length : Int) != (l2.length : Int)) then (
 some ⟨(.d (.v (.bool false))), []⟩) else (
 aft (l217x0 T k k [(.fz 7 l1), (.fz 7 l2), (.v (.int .i64 0))]) fun e25 ys26 =>
 bif e25.same .ret then (
 aV ys26 0 fun x27 =>
 aB x27 fun b28 =>
 some ⟨(.d (.v (.bool b28))), []⟩) else (
 bif e25.same (.exit 0) then (
 some ⟨(.d (.v (.bool true))), []⟩) else (
 none)))) := by kernel_rfl
/- loop.example/g00119/laws.eqOver -/

def a160 : AFun := ⟨[.rd, .rd], false, [.t 4], (
 .seq (.g [oQ 2 (.box (.t 0)), oQ 3 (.box (.t 1)), oV 4 false]) (
 .seq (.seq (.g [oF 5 0 2, oW 6 .s 5, oF 7 0 3, oW 8 .s 7, oB 9 .neq 6 8]) (
 .cond (.t 9) (.seq (.g [oV 4 false]) (
 .ret)) (.skip))) (
 .seq (.seq (.g [oF 10 1 2, oW 11 (.sl 7) 10, oF 12 1 3, oW 13 (.sl 7) 12, oC 14 217 [.c .b] [11, 13], oN 15 14]) (
 .cond (.t 15) (.seq (.g [oV 4 false]) (
 .ret)) (.skip))) (
 .seq (.g [oV 4 true]) (
 .ret)))))⟩

theorem a160q (T : Table) (k : Nat) (s1 : ByteArray) (l2 : Rows) (s3 : ByteArray) (l4 : Rows) : evalF T k a160 [(.g [(.v (.string s1)), (.s 7 l2)]), (.g [(.v (.string s3)), (.s 7 l4)])] = (
 bif (!(bytesEq s1 s3)) then (
 some ⟨(.d (.v (.bool false))), []⟩) else (
 callT T 217 [(.d (.s 7 l2)), (.d (.s 7 l4))] fun o5 =>
 oD o5.res fun d6 =>
 dB d6 fun b7 =>
 bif (!b7) then (
 some ⟨(.d (.v (.bool false))), []⟩) else (
 some ⟨(.d (.v (.bool true))), []⟩))) := by kernel_rfl
/- loop.example/g00119/laws.eqOverS -/
def b91x0 : ACode := (
 .seq (.seq (.g [oM 11 5, oM 12 0, oZ 13 12, oB 14 .lss 11 13]) (
 .cond (.t 14) (.skip) (.exit 0))) (
 .seq (.block 1 (.seq (.dreg [] [(0, oM 17 0), (0, oM 18 5), (0, oI 19 2 17 18), (0, oL 20 [.s, (.sl 7)] 19), (0, oM 21 1), (0, oM 22 5), (0, oI 23 2 21 22), (0, oL 24 [.s, (.sl 7)] 23)] [oC 25 160 [.c .b] [20, 24], oN 26 25]) (
 .cond (.t 26) (.seq (.g [oV 4 false]) (
 .ret)) (.skip)))) (
 .g [oM 15 5, oBi 16 .add 15 1, oM 5 16])))
def e91x0 : Exits := [(.ret, [(4, .c .b)]), ((.exit 0), [])]
noncomputable def l91x0 (T : Table) (k : Nat) := loopN (evalC ⟨T, []⟩ k b91x0 (Ex × List AV)) [0, 1, 5] e91x0
def a91 : AFun := ⟨[.rd, .rd], false, [.t 4], (
 .seq (.g [oV 4 false]) (
 .seq (.seq (.g [oM 6 0, oZ 7 6, oM 8 1, oZ 9 8, oB 10 .neq 7 9]) (
 .cond (.t 10) (.seq (.g [oV 4 false]) (
 .ret)) (.skip))) (
 .seq (.seq (.g [oK 5 0]) (
 .block 0 (.loop [0, 1, 5] e91x0 b91x0))) (
 .seq (.g [oV 4 true]) (
 .ret)))))⟩
theorem l91x0s (T : Table) (k n : Nat) (l3 : Rows) (l4 : Rows) (n5 : Int) : l91x0 T k (n + 1) [(.fz 2 l3), (.fz 2 l4), (.v (.int .i64 n5))] = (
 bif (decide (n5 < (l3.length : Int))) then (
 tst (decide (0 ≤ n5)) (
 look l3 (Int.toNat n5) fun r6 =>
 cS r6 0 fun s7 =>
 cL 7 r6 1 fun l8 =>
 tst (decide (0 ≤ n5)) (
 look l4 (Int.toNat n5) fun r9 =>
 cS r9 0 fun s10 =>
 cL 7 r9 1 fun l11 =>
 callT T 160 [(.g [(.v (.string s7)), (.s 7 l8)]), (.g [(.v (.string s10)), (.s 7 l11)])] fun o12 =>
 oD o12.res fun d13 =>
 dB d13 fun b14 =>
 bif (!b14) then (
 some (.ret, [(.v (.bool false))])) else (
 l91x0 T k n [(.fz 2 l3), (.fz 2 l4), (.v (.int .i64 (IntKind.wrap .i64 (n5 + 1))))])))) else (
 some ((.exit 0), []))) := by kernel_rfl
theorem a91q (T : Table) (k : Nat) (l1 : Rows) (l2 : Rows) : evalF T k a91 [(.d (.s 2 l1)), (.d (.s 2 l2))] = (
 bif ((l1.length : Int) != (l2.length : Int)) then (
 some ⟨(.d (.v (.bool false))), []⟩) else (
 aft (l91x0 T k k [(.fz 2 l1), (.fz 2 l2), (.v (.int .i64 0))]) fun e15 ys16 =>
 bif e15.same .ret then (
 aV ys16 0 fun x17 =>
 aB x17 fun b18 =>
 some ⟨(.d (.v (.bool b18))), []⟩) else (
 bif e15.same (.exit 0) then (
 some ⟨(.d (.v (.bool true))), []⟩) else (
 none)))) := by kernel_rfl
/- loop.example/g00119/laws.eqJob -/

def a119 : AFun := ⟨[.rd, .rd], false, [.t 4], (
 .seq (.g [oQ 2 (.box (.t 0)), oQ 3 (.box (.t 1)), oV 4 false]) (
 .seq (.seq (.g [oF 5 0 2, oW 6 kI 5, oF 7 0 3, oW 8 kI 7, oB 9 .neq 6 8]) (
 .cond (.t 9) (.seq (.g [oV 4 false]) (
 .ret)) (.skip))) (
 .seq (.seq (.g [oF 10 1 2, oW 11 .s 10, oF 12 1 3, oW 13 .s 12, oB 14 .neq 11 13]) (
 .cond (.t 14) (.seq (.g [oV 4 false]) (
 .ret)) (.skip))) (
 .seq (.seq (.g [oF 15 2 2, oL 16 [kI, (.sl 3), (.sl 1), (.sl 2)] 15, oF 17 2 3, oL 18 [kI, (.sl 3), (.sl 1), (.sl 2)] 17, oC 19 89 [.c .b] [16, 18], oN 20 19]) (
 .cond (.t 20) (.seq (.g [oV 4 false]) (
 .ret)) (.skip))) (
 .seq (.seq (.g [oF 21 6 2, oL 22 [kI, .s, kI, (.sl 1), (.sl 5)] 21, oF 23 6 3, oL 24 [kI, .s, kI, (.sl 1), (.sl 5)] 23, oC 25 90 [.c .b] [22, 24], oN 26 25]) (
 .cond (.t 26) (.seq (.g [oV 4 false]) (
 .ret)) (.skip))) (
 .seq (.seq (.g [oF 27 11 2, oW 28 (.sl 2) 27, oF 29 11 3, oW 30 (.sl 2) 29, oC 31 91 [.c .b] [28, 30], oN 32 31]) (
 .cond (.t 32) (.seq (.g [oV 4 false]) (
 .ret)) (.skip))) (
 .seq (.seq (.g [oF 33 12 2, oW 34 .b 33, oF 35 12 3, oW 36 .b 35, oQ 37 (.beq true (.t 34) (.t 36))]) (
 .cond (.t 37) (.seq (.g [oV 4 false]) (
 .ret)) (.skip))) (
 .seq (.g [oV 4 true]) (
 .ret)))))))))⟩

theorem a119q (T : Table) (k : Nat) (n1 : Int) (s2 : ByteArray) (n3 : Int) (l4 : Rows) (l5 : Rows) (l6 : Rows) (n7 : Int) (s8 : ByteArray) (n9 : Int) (l10 : Rows) (l11 : Rows) (l12 : Rows) (b13 : Bool) (n14 : Int) (s15 : ByteArray) (n16 : Int) (l17 : Rows) (l18 : Rows) (l19 : Rows) (n20 : Int) (s21 : ByteArray) (n22 : Int) (l23 : Rows) (l24 : Rows) (l25 : Rows) (b26 : Bool) : evalF T k a119 [(.g [(.v (.int .i64 n1)), (.v (.string s2)), (.v (.int .i64 n3)), (.s 3 l4), (.s 1 l5), (.s 2 l6), (.v (.int .i64 n7)), (.v (.string s8)), (.v (.int .i64 n9)), (.s 1 l10), (.s 5 l11), (.s 2 l12), (.v (.bool b13))]), (.g [(.v (.int .i64 n14)), (.v (.string s15)), (.v (.int .i64 n16)), (.s 3 l17), (.s 1 l18), (.s 2 l19), (.v (.int .i64 n20)), (.v (.string s21)), (.v (.int .i64 n22)), (.s 1 l23), (.s 5 l24), (.s 2 l25), (.v (.bool b26))])] = (
 bif (n1 != n14) then (
 some ⟨(.d (.v (.bool false))), []⟩) else (
 bif (!(bytesEq s2 s15)) then (
 some ⟨(.d (.v (.bool false))), []⟩) else (
 callT T 89 [(.g [(.v (.int .i64 n3)), (.s 3 l4), (.s 1 l5), (.s 2 l6)]), (.g [(.v (.int .i64 n16)), (.s 3 l17), (.s 1 l18), (.s 2 l19)])] fun o27 =>
 oD o27.res fun d28 =>
 dB d28 fun b29 =>
 bif (!b29) then (
 some ⟨(.d (.v (.bool false))), []⟩) else (
 callT T 90 [(.g [(.v (.int .i64 n7)), (.v (.string s8)), (.v (.int .i64 n9)), (.s 1 l10), (.s 5 l11)]), (.g [(.v (.int .i64 n20)), (.v (.string s21)), (.v (.int .i64 n22)), (.s 1 l23), (.s 5 l24)])] fun o30 =>
 oD o30.res fun d31 =>
 dB d31 fun b32 =>
 bif (!b32) then (
 some ⟨(.d (.v (.bool false))), []⟩) else (
 callT T 91 [(.d (.s 2 l12)), (.d (.s 2 l25))] fun o33 =>
 oD o33.res fun d34 =>
 dB d34 fun b35 =>
 bif (!b35) then (
 some ⟨(.d (.v (.bool false))), []⟩) else (
 bif (b13 != b26) then (
 some ⟨(.d (.v (.bool false))), []⟩) else (
 some ⟨(.d (.v (.bool true))), []⟩))))))) := by kernel_rfl
/- loop.example/g00119/laws.eqJobS -/
def b55x0 : ACode := (
 .seq (.seq (.g [oM 11 5, oM 12 0, oZ 13 12, oB 14 .lss 11 13]) (
 .cond (.t 14) (.skip) (.exit 0))) (
 .seq (.block 1 (.seq (.dreg [] [(0, oM 17 0), (0, oM 18 5), (0, oI 19 13 17 18), (0, oL 20 [kI, .s, kI, (.sl 3), (.sl 1), (.sl 2), kI, .s, kI, (.sl 1), (.sl 5), (.sl 2), .b] 19), (0, oM 21 1), (0, oM 22 5), (0, oI 23 13 21 22), (0, oL 24 [kI, .s, kI, (.sl 3), (.sl 1), (.sl 2), kI, .s, kI, (.sl 1), (.sl 5), (.sl 2), .b] 23)] [oC 25 119 [.c .b] [20, 24], oN 26 25]) (
 .cond (.t 26) (.seq (.g [oV 4 false]) (
 .ret)) (.skip)))) (
 .g [oM 15 5, oBi 16 .add 15 1, oM 5 16])))
def e55x0 : Exits := [(.ret, [(4, .c .b)]), ((.exit 0), [])]
noncomputable def l55x0 (T : Table) (k : Nat) := loopN (evalC ⟨T, []⟩ k b55x0 (Ex × List AV)) [0, 1, 5] e55x0
def a55 : AFun := ⟨[.rd, .rd], false, [.t 4], (
 .seq (.g [oV 4 false]) (
 .seq (.seq (.g [oM 6 0, oZ 7 6, oM 8 1, oZ 9 8, oB 10 .neq 7 9]) (
 .cond (.t 10) (.seq (.g [oV 4 false]) (
 .ret)) (.skip))) (
 .seq (.seq (.g [oK 5 0]) (
 .block 0 (.loop [0, 1, 5] e55x0 b55x0))) (
 .seq (.g [oV 4 true]) (
 .ret)))))⟩
theorem l55x0s (T : Table) (k n : Nat) (l3 : Rows) (l4 : Rows) (n5 : Int) : l55x0 T k (n + 1) [(.fz 13 l3), (.fz 13 l4), (.v (.int .i64 n5))] = (
 bif (decide (n5 < (l3.length : Int))) then (
 tst (decide (0 ≤ n5)) (
 look l3 (Int.toNat n5) fun r6 =>
 cI .i64 r6 0 fun n7 =>
 cS r6 1 fun s8 =>
 cI .i64 r6 2 fun n9 =>
 cL 3 r6 3 fun l10 =>
 cL 1 r6 4 fun l11 =>
 cL 2 r6 5 fun l12 =>
 cI .i64 r6 6 fun n13 =>
 cS r6 7 fun s14 =>
 cI .i64 r6 8 fun n15 =>
 cL 1 r6 9 fun l16 =>
 cL 5 r6 10 fun l17 =>
 cL 2 r6 11 fun l18 =>
 cB r6 12 fun b19 =>
 tst (decide (0 ≤ n5)) (
 look l4 (Int.toNat n5) fun r20 =>
 cI .i64 r20 0 fun n21 =>
 cS r20 1 fun s22 =>
 cI .i64 r20 2 fun n23 =>
 cL 3 r20 3 fun l24 =>
 cL 1 r20 4 fun l25 =>
 cL 2 r20 5 fun l26 =>
 cI .i64 r20 6 fun n27 =>
 cS r20 7 fun s28 =>
 cI .i64 r20 8 fun n29 =>
 cL 1 r20 9 fun l30 =>
 cL 5 r20 10 fun l31 =>
 cL 2 r20 11 fun l32 =>
 cB r20 12 fun b33 =>
 callT T 119 [(.g [(.v (.int .i64 n7)), (.v (.string s8)), (.v (.int .i64 n9)), (.s 3 l10), (.s 1 l11), (.s 2 l12), (.v (.int .i64 n13)), (.v (.string s14)), (.v (.int .i64 n15)), (.s 1 l16), (.s 5 l17), (.s 2 l18), (.v (.bool b19))]), (.g [(.v (.int .i64 n21)), (.v (.string s22)), (.v (.int .i64 n23)), (.s 3 l24), (.s 1 l25), (.s 2 l26), (.v (.int .i64 n27)), (.v (.string s28)), (.v (.int .i64 n29)), (.s 1 l30), (.s 5 l31), (.s 2 l32), (.v (.bool b33))])] fun o34 =>
 oD o34.res fun d35 =>
 dB d35 fun b36 =>
 bif (!b36) then (
 some (.ret, [(.v (.bool false))])) else (
 l55x0 T k n [(.fz 13 l3), (.fz 13 l4), (.v (.int .i64 (IntKind.wrap .i64 (n5 + 1))))])))) else (
 some ((.exit 0), []))) := by kernel_rfl
theorem a55q (T : Table) (k : Nat) (l1 : Rows) (l2 : Rows) : evalF T k a55 [(.d (.s 13 l1)), (.d (.s 13 l2))] = (
 bif ((l1.length : Int) != (l2.length : Int)) then (
 some ⟨(.d (.v (.bool false))), []⟩) else (
 aft (l55x0 T k k [(.fz 13 l1), (.fz 13 l2), (.v (.int .i64 0))]) fun e37 ys38 =>
 bif e37.same .ret then (
 aV ys38 0 fun x39 =>
 aB x39 fun b40 =>
 some ⟨(.d (.v (.bool b40))), []⟩) else (
 bif e37.same (.exit 0) then (
 some ⟨(.d (.v (.bool true))), []⟩) else (
 none)))) := by kernel_rfl
/- loop.example/g00119/laws.eqLabel -/

def a218 : AFun := ⟨[.rd, .rd], false, [.t 4], (
 .seq (.g [oQ 2 (.box (.t 0)), oQ 3 (.box (.t 1)), oV 4 false]) (
 .seq (.seq (.g [oF 5 0 2, oW 6 .s 5, oF 7 0 3, oW 8 .s 7, oB 9 .neq 6 8]) (
 .cond (.t 9) (.seq (.g [oV 4 false]) (
 .ret)) (.skip))) (
 .seq (.seq (.g [oF 10 1 2, oW 11 .s 10, oF 12 1 3, oW 13 .s 12, oB 14 .neq 11 13]) (
 .cond (.t 14) (.seq (.g [oV 4 false]) (
 .ret)) (.skip))) (
 .seq (.g [oV 4 true]) (
 .ret)))))⟩

theorem a218q (T : Table) (k : Nat) (s1 : ByteArray) (s2 : ByteArray) (s3 : ByteArray) (s4 : ByteArray) : evalF T k a218 [(.g [(.v (.string s1)), (.v (.string s2))]), (.g [(.v (.string s3)), (.v (.string s4))])] = (
 bif (!(bytesEq s1 s3)) then (
 some ⟨(.d (.v (.bool false))), []⟩) else (
 bif (!(bytesEq s2 s4)) then (
 some ⟨(.d (.v (.bool false))), []⟩) else (
 some ⟨(.d (.v (.bool true))), []⟩))) := by kernel_rfl
/- loop.example/g00119/laws.eqLabelS -/
def b161x0 : ACode := (
 .seq (.seq (.g [oM 11 5, oM 12 0, oZ 13 12, oB 14 .lss 11 13]) (
 .cond (.t 14) (.skip) (.exit 0))) (
 .seq (.block 1 (.seq (.dreg [] [(0, oM 17 0), (0, oM 18 5), (0, oI 19 2 17 18), (0, oL 20 [.s, .s] 19), (0, oM 21 1), (0, oM 22 5), (0, oI 23 2 21 22), (0, oL 24 [.s, .s] 23)] [oC 25 218 [.c .b] [20, 24], oN 26 25]) (
 .cond (.t 26) (.seq (.g [oV 4 false]) (
 .ret)) (.skip)))) (
 .g [oM 15 5, oBi 16 .add 15 1, oM 5 16])))
def e161x0 : Exits := [(.ret, [(4, .c .b)]), ((.exit 0), [])]
noncomputable def l161x0 (T : Table) (k : Nat) := loopN (evalC ⟨T, []⟩ k b161x0 (Ex × List AV)) [0, 1, 5] e161x0
def a161 : AFun := ⟨[.rd, .rd], false, [.t 4], (
 .seq (.g [oV 4 false]) (
 .seq (.seq (.g [oM 6 0, oZ 7 6, oM 8 1, oZ 9 8, oB 10 .neq 7 9]) (
 .cond (.t 10) (.seq (.g [oV 4 false]) (
 .ret)) (.skip))) (
 .seq (.seq (.g [oK 5 0]) (
 .block 0 (.loop [0, 1, 5] e161x0 b161x0))) (
 .seq (.g [oV 4 true]) (
 .ret)))))⟩
theorem l161x0s (T : Table) (k n : Nat) (l3 : Rows) (l4 : Rows) (n5 : Int) : l161x0 T k (n + 1) [(.fz 2 l3), (.fz 2 l4), (.v (.int .i64 n5))] = (
 bif (decide (n5 < (l3.length : Int))) then (
 tst (decide (0 ≤ n5)) (
 look l3 (Int.toNat n5) fun r6 =>
 cS r6 0 fun s7 =>
 cS r6 1 fun s8 =>
 tst (decide (0 ≤ n5)) (
 look l4 (Int.toNat n5) fun r9 =>
 cS r9 0 fun s10 =>
 cS r9 1 fun s11 =>
 callT T 218 [(.g [(.v (.string s7)), (.v (.string s8))]), (.g [(.v (.string s10)), (.v (.string s11))])] fun o12 =>
 oD o12.res fun d13 =>
 dB d13 fun b14 =>
 bif (!b14) then (
 some (.ret, [(.v (.bool false))])) else (
 l161x0 T k n [(.fz 2 l3), (.fz 2 l4), (.v (.int .i64 (IntKind.wrap .i64 (n5 + 1))))])))) else (
 some ((.exit 0), []))) := by kernel_rfl
theorem a161q (T : Table) (k : Nat) (l1 : Rows) (l2 : Rows) : evalF T k a161 [(.d (.s 2 l1)), (.d (.s 2 l2))] = (
 bif ((l1.length : Int) != (l2.length : Int)) then (
 some ⟨(.d (.v (.bool false))), []⟩) else (
 aft (l161x0 T k k [(.fz 2 l1), (.fz 2 l2), (.v (.int .i64 0))]) fun e15 ys16 =>
 bif e15.same .ret then (
 aV ys16 0 fun x17 =>
 aB x17 fun b18 =>
 some ⟨(.d (.v (.bool b18))), []⟩) else (
 bif e15.same (.exit 0) then (
 some ⟨(.d (.v (.bool true))), []⟩) else (
 none)))) := by kernel_rfl
/- loop.example/g00119/laws.eqIsland -/

def a92 : AFun := ⟨[.rd, .rd], false, [.t 4], (
 .seq (.g [oQ 2 (.box (.t 0)), oQ 3 (.box (.t 1)), oV 4 false]) (
 .seq (.seq (.g [oF 5 0 2, oW 6 .s 5, oF 7 0 3, oW 8 .s 7, oB 9 .neq 6 8]) (
 .cond (.t 9) (.seq (.g [oV 4 false]) (
 .ret)) (.skip))) (
 .seq (.seq (.g [oF 10 1 2, oW 11 (.sl 2) 10, oF 12 1 3, oW 13 (.sl 2) 12, oC 14 161 [.c .b] [11, 13], oN 15 14]) (
 .cond (.t 15) (.seq (.g [oV 4 false]) (
 .ret)) (.skip))) (
 .seq (.seq (.g [oF 16 2 2, oW 17 (.sl 1) 16, oF 18 2 3, oW 19 (.sl 1) 18, oC 20 43 [.c .b] [17, 19], oN 21 20]) (
 .cond (.t 21) (.seq (.g [oV 4 false]) (
 .ret)) (.skip))) (
 .seq (.seq (.g [oF 22 3 2, oW 23 kI 22, oF 24 3 3, oW 25 kI 24, oB 26 .neq 23 25]) (
 .cond (.t 26) (.seq (.g [oV 4 false]) (
 .ret)) (.skip))) (
 .seq (.g [oV 4 true]) (
 .ret)))))))⟩

theorem a92q (T : Table) (k : Nat) (s1 : ByteArray) (l2 : Rows) (l3 : Rows) (n4 : Int) (s5 : ByteArray) (l6 : Rows) (l7 : Rows) (n8 : Int) : evalF T k a92 [(.g [(.v (.string s1)), (.s 2 l2), (.s 1 l3), (.v (.int .i64 n4))]), (.g [(.v (.string s5)), (.s 2 l6), (.s 1 l7), (.v (.int .i64 n8))])] = (
 bif (!(bytesEq s1 s5)) then (
 some ⟨(.d (.v (.bool false))), []⟩) else (
 callT T 161 [(.d (.s 2 l2)), (.d (.s 2 l6))] fun o9 =>
 oD o9.res fun d10 =>
 dB d10 fun b11 =>
 bif (!b11) then (
 some ⟨(.d (.v (.bool false))), []⟩) else (
 callT T 43 [(.d (.s 1 l3)), (.d (.s 1 l7))] fun o12 =>
 oD o12.res fun d13 =>
 dB d13 fun b14 =>
 bif (!b14) then (
 some ⟨(.d (.v (.bool false))), []⟩) else (
 bif (n4 != n8) then (
 some ⟨(.d (.v (.bool false))), []⟩) else (
 some ⟨(.d (.v (.bool true))), []⟩))))) := by kernel_rfl
/- loop.example/g00119/laws.eqPost -/

def a120 : AFun := ⟨[.rd, .rd], false, [.t 4], (
 .seq (.g [oQ 2 (.box (.t 0)), oQ 3 (.box (.t 1)), oV 4 false]) (
 .seq (.seq (.g [oF 5 0 2, oL 6 [.s, (.sl 2), (.sl 1), kI] 5, oF 7 0 3, oL 8 [.s, (.sl 2), (.sl 1), kI] 7, oC 9 92 [.c .b] [6, 8], oN 10 9]) (
 .cond (.t 10) (.seq (.g [oV 4 false]) (
 .ret)) (.skip))) (
 .seq (.seq (.g [oF 11 4 2, oW 12 kI 11, oF 13 4 3, oW 14 kI 13, oB 15 .neq 12 14]) (
 .cond (.t 15) (.seq (.g [oV 4 false]) (
 .ret)) (.skip))) (
 .seq (.seq (.g [oF 16 5 2, oW 17 kI 16, oF 18 5 3, oW 19 kI 18, oB 20 .neq 17 19]) (
 .cond (.t 20) (.seq (.g [oV 4 false]) (
 .ret)) (.skip))) (
 .seq (.g [oV 4 true]) (
 .ret))))))⟩

theorem a120q (T : Table) (k : Nat) (s1 : ByteArray) (l2 : Rows) (l3 : Rows) (n4 : Int) (n5 : Int) (n6 : Int) (s7 : ByteArray) (l8 : Rows) (l9 : Rows) (n10 : Int) (n11 : Int) (n12 : Int) : evalF T k a120 [(.g [(.v (.string s1)), (.s 2 l2), (.s 1 l3), (.v (.int .i64 n4)), (.v (.int .i64 n5)), (.v (.int .i64 n6))]), (.g [(.v (.string s7)), (.s 2 l8), (.s 1 l9), (.v (.int .i64 n10)), (.v (.int .i64 n11)), (.v (.int .i64 n12))])] = (
 callT T 92 [(.g [(.v (.string s1)), (.s 2 l2), (.s 1 l3), (.v (.int .i64 n4))]), (.g [(.v (.string s7)), (.s 2 l8), (.s 1 l9), (.v (.int .i64 n10))])] fun o13 =>
 oD o13.res fun d14 =>
 dB d14 fun b15 =>
 bif (!b15) then (
 some ⟨(.d (.v (.bool false))), []⟩) else (
 bif (n5 != n11) then (
 some ⟨(.d (.v (.bool false))), []⟩) else (
 bif (n6 != n12) then (
 some ⟨(.d (.v (.bool false))), []⟩) else (
 some ⟨(.d (.v (.bool true))), []⟩)))) := by kernel_rfl
/- loop.example/g00119/laws.eqPostS -/
def b56x0 : ACode := (
 .seq (.seq (.g [oM 11 5, oM 12 0, oZ 13 12, oB 14 .lss 11 13]) (
 .cond (.t 14) (.skip) (.exit 0))) (
 .seq (.block 1 (.seq (.dreg [] [(0, oM 17 0), (0, oM 18 5), (0, oI 19 6 17 18), (0, oL 20 [.s, (.sl 2), (.sl 1), kI, kI, kI] 19), (0, oM 21 1), (0, oM 22 5), (0, oI 23 6 21 22), (0, oL 24 [.s, (.sl 2), (.sl 1), kI, kI, kI] 23)] [oC 25 120 [.c .b] [20, 24], oN 26 25]) (
 .cond (.t 26) (.seq (.g [oV 4 false]) (
 .ret)) (.skip)))) (
 .g [oM 15 5, oBi 16 .add 15 1, oM 5 16])))
def e56x0 : Exits := [(.ret, [(4, .c .b)]), ((.exit 0), [])]
noncomputable def l56x0 (T : Table) (k : Nat) := loopN (evalC ⟨T, []⟩ k b56x0 (Ex × List AV)) [0, 1, 5] e56x0
def a56 : AFun := ⟨[.rd, .rd], false, [.t 4], (
 .seq (.g [oV 4 false]) (
 .seq (.seq (.g [oM 6 0, oZ 7 6, oM 8 1, oZ 9 8, oB 10 .neq 7 9]) (
 .cond (.t 10) (.seq (.g [oV 4 false]) (
 .ret)) (.skip))) (
 .seq (.seq (.g [oK 5 0]) (
 .block 0 (.loop [0, 1, 5] e56x0 b56x0))) (
 .seq (.g [oV 4 true]) (
 .ret)))))⟩
theorem l56x0s (T : Table) (k n : Nat) (l3 : Rows) (l4 : Rows) (n5 : Int) : l56x0 T k (n + 1) [(.fz 6 l3), (.fz 6 l4), (.v (.int .i64 n5))] = (
 bif (decide (n5 < (l3.length : Int))) then (
 tst (decide (0 ≤ n5)) (
 look l3 (Int.toNat n5) fun r6 =>
 cS r6 0 fun s7 =>
 cL 2 r6 1 fun l8 =>
 cL 1 r6 2 fun l9 =>
 cI .i64 r6 3 fun n10 =>
 cI .i64 r6 4 fun n11 =>
 cI .i64 r6 5 fun n12 =>
 tst (decide (0 ≤ n5)) (
 look l4 (Int.toNat n5) fun r13 =>
 cS r13 0 fun s14 =>
 cL 2 r13 1 fun l15 =>
 cL 1 r13 2 fun l16 =>
 cI .i64 r13 3 fun n17 =>
 cI .i64 r13 4 fun n18 =>
 cI .i64 r13 5 fun n19 =>
 callT T 120 [(.g [(.v (.string s7)), (.s 2 l8), (.s 1 l9), (.v (.int .i64 n10)), (.v (.int .i64 n11)), (.v (.int .i64 n12))]), (.g [(.v (.string s14)), (.s 2 l15), (.s 1 l16), (.v (.int .i64 n17)), (.v (.int .i64 n18)), (.v (.int .i64 n19))])] fun o20 =>
 oD o20.res fun d21 =>
 dB d21 fun b22 =>
 bif (!b22) then (
 some (.ret, [(.v (.bool false))])) else (
 l56x0 T k n [(.fz 6 l3), (.fz 6 l4), (.v (.int .i64 (IntKind.wrap .i64 (n5 + 1))))])))) else (
 some ((.exit 0), []))) := by kernel_rfl
theorem a56q (T : Table) (k : Nat) (l1 : Rows) (l2 : Rows) : evalF T k a56 [(.d (.s 6 l1)), (.d (.s 6 l2))] = (
 bif ((l1.length : Int) != (l2.length : Int)) then (
 some ⟨(.d (.v (.bool false))), []⟩) else (
 aft (l56x0 T k k [(.fz 6 l1), (.fz 6 l2), (.v (.int .i64 0))]) fun e23 ys24 =>
 bif e23.same .ret then (
 aV ys24 0 fun x25 =>
 aB x25 fun b26 =>
 some ⟨(.d (.v (.bool b26))), []⟩) else (
 bif e23.same (.exit 0) then (
 some ⟨(.d (.v (.bool true))), []⟩) else (
 none)))) := by kernel_rfl
/- loop.example/g00119/laws.eqHold -/

def a121 : AFun := ⟨[.rd, .rd], false, [.t 4], (
 .seq (.g [oQ 2 (.box (.t 0)), oQ 3 (.box (.t 1)), oV 4 false]) (
 .seq (.seq (.g [oF 5 0 2, oW 6 kI 5, oF 7 0 3, oW 8 kI 7, oB 9 .neq 6 8]) (
 .cond (.t 9) (.seq (.g [oV 4 false]) (
 .ret)) (.skip))) (
 .seq (.seq (.g [oF 10 1 2, oW 11 .s 10, oF 12 1 3, oW 13 .s 12, oB 14 .neq 11 13]) (
 .cond (.t 14) (.seq (.g [oV 4 false]) (
 .ret)) (.skip))) (
 .seq (.seq (.g [oF 15 2 2, oW 16 kI 15, oF 17 2 3, oW 18 kI 17, oB 19 .neq 16 18]) (
 .cond (.t 19) (.seq (.g [oV 4 false]) (
 .ret)) (.skip))) (
 .seq (.seq (.g [oF 20 3 2, oW 21 kI 20, oF 22 3 3, oW 23 kI 22, oB 24 .neq 21 23]) (
 .cond (.t 24) (.seq (.g [oV 4 false]) (
 .ret)) (.skip))) (
 .seq (.seq (.g [oF 25 4 2, oW 26 kI 25, oF 27 4 3, oW 28 kI 27, oB 29 .neq 26 28]) (
 .cond (.t 29) (.seq (.g [oV 4 false]) (
 .ret)) (.skip))) (
 .seq (.g [oV 4 true]) (
 .ret))))))))⟩

theorem a121q (T : Table) (k : Nat) (n1 : Int) (s2 : ByteArray) (n3 : Int) (n4 : Int) (n5 : Int) (n6 : Int) (s7 : ByteArray) (n8 : Int) (n9 : Int) (n10 : Int) : evalF T k a121 [(.g [(.v (.int .i64 n1)), (.v (.string s2)), (.v (.int .i64 n3)), (.v (.int .i64 n4)), (.v (.int .i64 n5))]), (.g [(.v (.int .i64 n6)), (.v (.string s7)), (.v (.int .i64 n8)), (.v (.int .i64 n9)), (.v (.int .i64 n10))])] = (
 bif (n1 != n6) then (
 some ⟨(.d (.v (.bool false))), []⟩) else (
 bif (!(bytesEq s2 s7)) then (
 some ⟨(.d (.v (.bool false))), []⟩) else (
 bif (n3 != n8) then (
 some ⟨(.d (.v (.bool false))), []⟩) else (
 bif (n4 != n9) then (
 some ⟨(.d (.v (.bool false))), []⟩) else (
 bif (n5 != n10) then (
 some ⟨(.d (.v (.bool false))), []⟩) else (
 some ⟨(.d (.v (.bool true))), []⟩)))))) := by kernel_rfl
/- loop.example/g00119/laws.eqHoldS -/
def b57x0 : ACode := (
 .seq (.seq (.g [oM 11 5, oM 12 0, oZ 13 12, oB 14 .lss 11 13]) (
 .cond (.t 14) (.skip) (.exit 0))) (
 .seq (.block 1 (.seq (.dreg [] [(0, oM 17 0), (0, oM 18 5), (0, oI 19 5 17 18), (0, oL 20 [kI, .s, kI, kI, kI] 19), (0, oM 21 1), (0, oM 22 5), (0, oI 23 5 21 22), (0, oL 24 [kI, .s, kI, kI, kI] 23)] [oC 25 121 [.c .b] [20, 24], oN 26 25]) (
 .cond (.t 26) (.seq (.g [oV 4 false]) (
 .ret)) (.skip)))) (
 .g [oM 15 5, oBi 16 .add 15 1, oM 5 16])))
def e57x0 : Exits := [(.ret, [(4, .c .b)]), ((.exit 0), [])]
noncomputable def l57x0 (T : Table) (k : Nat) := loopN (evalC ⟨T, []⟩ k b57x0 (Ex × List AV)) [0, 1, 5] e57x0
def a57 : AFun := ⟨[.rd, .rd], false, [.t 4], (
 .seq (.g [oV 4 false]) (
 .seq (.seq (.g [oM 6 0, oZ 7 6, oM 8 1, oZ 9 8, oB 10 .neq 7 9]) (
 .cond (.t 10) (.seq (.g [oV 4 false]) (
 .ret)) (.skip))) (
 .seq (.seq (.g [oK 5 0]) (
 .block 0 (.loop [0, 1, 5] e57x0 b57x0))) (
 .seq (.g [oV 4 true]) (
 .ret)))))⟩
theorem l57x0s (T : Table) (k n : Nat) (l3 : Rows) (l4 : Rows) (n5 : Int) : l57x0 T k (n + 1) [(.fz 5 l3), (.fz 5 l4), (.v (.int .i64 n5))] = (
 bif (decide (n5 < (l3.length : Int))) then (
 tst (decide (0 ≤ n5)) (
 look l3 (Int.toNat n5) fun r6 =>
 cI .i64 r6 0 fun n7 =>
 cS r6 1 fun s8 =>
 cI .i64 r6 2 fun n9 =>
 cI .i64 r6 3 fun n10 =>
 cI .i64 r6 4 fun n11 =>
 tst (decide (0 ≤ n5)) (
 look l4 (Int.toNat n5) fun r12 =>
 cI .i64 r12 0 fun n13 =>
 cS r12 1 fun s14 =>
 cI .i64 r12 2 fun n15 =>
 cI .i64 r12 3 fun n16 =>
 cI .i64 r12 4 fun n17 =>
 callT T 121 [(.g [(.v (.int .i64 n7)), (.v (.string s8)), (.v (.int .i64 n9)), (.v (.int .i64 n10)), (.v (.int .i64 n11))]), (.g [(.v (.int .i64 n13)), (.v (.string s14)), (.v (.int .i64 n15)), (.v (.int .i64 n16)), (.v (.int .i64 n17))])] fun o18 =>
 oD o18.res fun d19 =>
 dB d19 fun b20 =>
 bif (!b20) then (
 some (.ret, [(.v (.bool false))])) else (
 l57x0 T k n [(.fz 5 l3), (.fz 5 l4), (.v (.int .i64 (IntKind.wrap .i64 (n5 + 1))))])))) else (
 some ((.exit 0), []))) := by kernel_rfl
theorem a57q (T : Table) (k : Nat) (l1 : Rows) (l2 : Rows) : evalF T k a57 [(.d (.s 5 l1)), (.d (.s 5 l2))] = (
 bif ((l1.length : Int) != (l2.length : Int)) then (
 some ⟨(.d (.v (.bool false))), []⟩) else (
 aft (l57x0 T k k [(.fz 5 l1), (.fz 5 l2), (.v (.int .i64 0))]) fun e21 ys22 =>
 bif e21.same .ret then (
 aV ys22 0 fun x23 =>
 aB x23 fun b24 =>
 some ⟨(.d (.v (.bool b24))), []⟩) else (
 bif e21.same (.exit 0) then (
 some ⟨(.d (.v (.bool true))), []⟩) else (
 none)))) := by kernel_rfl
/- loop.example/g00119/laws.eqHub -/

def a17 : AFun := ⟨[.rd, .rd], false, [.t 4], (
 .seq (.g [oQ 2 (.box (.t 0)), oQ 3 (.box (.t 1)), oV 4 false]) (
 .seq (.seq (.g [oF 5 0 2, oW 6 kI 5, oF 7 0 3, oW 8 kI 7, oB 9 .neq 6 8]) (
 .cond (.t 9) (.seq (.g [oV 4 false]) (
 .ret)) (.skip))) (
 .seq (.seq (.g [oF 10 1 2, oW 11 kI 10, oF 12 1 3, oW 13 kI 12, oB 14 .neq 11 13]) (
 .cond (.t 14) (.seq (.g [oV 4 false]) (
 .ret)) (.skip))) (
 .seq (.seq (.g [oF 15 2 2, oW 16 kI 15, oF 17 2 3, oW 18 kI 17, oB 19 .neq 16 18]) (
 .cond (.t 19) (.seq (.g [oV 4 false]) (
 .ret)) (.skip))) (
 .seq (.seq (.g [oF 20 3 2, oW 21 (.sl 13) 20, oF 22 3 3, oW 23 (.sl 13) 22, oC 24 55 [.c .b] [21, 23], oN 25 24]) (
 .cond (.t 25) (.seq (.g [oV 4 false]) (
 .ret)) (.skip))) (
 .seq (.seq (.g [oF 26 4 2, oW 27 (.sl 6) 26, oF 28 4 3, oW 29 (.sl 6) 28, oC 30 56 [.c .b] [27, 29], oN 31 30]) (
 .cond (.t 31) (.seq (.g [oV 4 false]) (
 .ret)) (.skip))) (
 .seq (.seq (.g [oF 32 5 2, oW 33 (.sl 5) 32, oF 34 5 3, oW 35 (.sl 5) 34, oC 36 57 [.c .b] [33, 35], oN 37 36]) (
 .cond (.t 37) (.seq (.g [oV 4 false]) (
 .ret)) (.skip))) (
 .seq (.seq (.g [oF 38 6 2, oW 39 (.sl 1) 38, oF 40 6 3, oW 41 (.sl 1) 40, oC 42 43 [.c .b] [39, 41], oN 43 42]) (
 .cond (.t 43) (.seq (.g [oV 4 false]) (
 .ret)) (.skip))) (
 .seq (.g [oV 4 true]) (
 .ret))))))))))⟩

theorem a17q (T : Table) (k : Nat) (n1 : Int) (n2 : Int) (n3 : Int) (l4 : Rows) (l5 : Rows) (l6 : Rows) (l7 : Rows) (n8 : Int) (n9 : Int) (n10 : Int) (l11 : Rows) (l12 : Rows) (l13 : Rows) (l14 : Rows) : evalF T k a17 [(.g [(.v (.int .i64 n1)), (.v (.int .i64 n2)), (.v (.int .i64 n3)), (.s 13 l4), (.s 6 l5), (.s 5 l6), (.s 1 l7)]), (.g [(.v (.int .i64 n8)), (.v (.int .i64 n9)), (.v (.int .i64 n10)), (.s 13 l11), (.s 6 l12), (.s 5 l13), (.s 1 l14)])] = (
 bif (n1 != n8) then (
 some ⟨(.d (.v (.bool false))), []⟩) else (
 bif (n2 != n9) then (
 some ⟨(.d (.v (.bool false))), []⟩) else (
 bif (n3 != n10) then (
 some ⟨(.d (.v (.bool false))), []⟩) else (
 callT T 55 [(.d (.s 13 l4)), (.d (.s 13 l11))] fun o15 =>
 oD o15.res fun d16 =>
 dB d16 fun b17 =>
 bif (!b17) then (
 some ⟨(.d (.v (.bool false))), []⟩) else (
 callT T 56 [(.d (.s 6 l5)), (.d (.s 6 l12))] fun o18 =>
 oD o18.res fun d19 =>
 dB d19 fun b20 =>
 bif (!b20) then (
 some ⟨(.d (.v (.bool false))), []⟩) else (
 callT T 57 [(.d (.s 5 l6)), (.d (.s 5 l13))] fun o21 =>
 oD o21.res fun d22 =>
 dB d22 fun b23 =>
 bif (!b23) then (
 some ⟨(.d (.v (.bool false))), []⟩) else (
 callT T 43 [(.d (.s 1 l7)), (.d (.s 1 l14))] fun o24 =>
 oD o24.res fun d25 =>
 dB d25 fun b26 =>
 bif (!b26) then (
 some ⟨(.d (.v (.bool false))), []⟩) else (
 some ⟨(.d (.v (.bool true))), []⟩)))))))) := by kernel_rfl
/- loop.example/g00119/laws.markText -/
def b122x0 : ACode := (
 .seq (.seq (.g [oM 6 0, oBi 7 .gtr 6 0]) (
 .cond (.t 7) (.skip) (.exit 0))) (
 .block 1 (.seq (.g [oM 8 0, oBi 9 .rem 8 10, oQ 10 (.bin .add (.i 48) (.t 9)), oQ 11 (.conv (.int .u8) (.t 10)), oQ 12 (.lit 1 ([[(.v (.int .u8 0))]] : Rows) [(0, (.t 11))]), oQ 13 (.conv .bytesStr (.t 12)), oM 14 3, oB 15 .add 13 14, oM 3 15]) (
 .g [oM 16 0, oBi 17 .quo 16 10, oM 0 17]))))
def e122x0 : Exits := [((.exit 0), [(3, .c .s)])]
noncomputable def l122x0 (T : Table) (k : Nat) := loopN (evalC ⟨T, []⟩ k b122x0 (Ex × List AV)) [0, 3] e122x0
def a122 : AFun := ⟨[.rd], false, [.t 2], (
 .seq (.g [oQ 2 (.mv (.c (.v (.string ({ data := #[] } : ByteArray)))))]) (
 .seq (.seq (.g [oM 4 0, oBi 5 .leq 4 0]) (
 .cond (.t 5) (.seq (.g [oQ 2 (.mv (.c (.v (.string ({ data := #[109, 48] } : ByteArray)))))]) (
 .ret)) (.skip))) (
 .seq (.g [oQ 3 (.mv (.c (.v (.string ({ data := #[] } : ByteArray)))))]) (
 .seq (.block 0 (.loop [0, 3] e122x0 b122x0)) (
 .seq (.g [oM 18 3, oQ 19 (.bin .add (.c (.v (.string ({ data := #[109] } : ByteArray)))) (.t 18)), oM 2 19]) (
 .ret))))))⟩
theorem l122x0s (T : Table) (k n : Nat) (n2 : Int) (s3 : ByteArray) : l122x0 T k (n + 1) [(.v (.int .i64 n2)), (.v (.string s3))] = (
 bif (decide (n2 > 0)) then (
 tst (decide (10 ≠ 0)) (
 tst (allBytes ([[(.v (.int .u8 (IntKind.wrap .u8 (IntKind.wrap .i64 (48 + (Int.tmod n2 10))))))]] : Rows)) (
 tst (decide ((bytesOfRows ([[(.v (.int .u8 (IntKind.wrap .u8 (IntKind.wrap .i64 (48 + (Int.tmod n2 10))))))]] : Rows)).size + s3.size ≤ maxLen)) (
 tst (decide (10 ≠ 0)) (
 l122x0 T k n [(.v (.int .i64 (IntKind.wrap .i64 (Int.tdiv n2 10)))), (.v (.string ((bytesOfRows ([[(.v (.int .u8 (IntKind.wrap .u8 (IntKind.wrap .i64 (48 + (Int.tmod n2 10))))))]] : Rows)) ++ s3)))]))))) else (
 some ((.exit 0), [(.v (.string s3))]))) := by kernel_rfl
theorem a122q (T : Table) (k : Nat) (n1 : Int) : evalF T k a122 [(.d (.v (.int .i64 n1)))] = (
 bif (decide (n1 ≤ 0)) then (
 some ⟨(.d (.v (.string ({ data := #[109, 48] } : ByteArray)))), []⟩) else (
 aft (l122x0 T k k [(.v (.int .i64 n1)), (.v (.string ({ data := #[] } : ByteArray)))]) fun e4 ys5 =>
 bif e4.same (.exit 0) then (
 aV ys5 0 fun x6 =>
 aS x6 fun s7 =>
 tst (decide (({ data := #[109] } : ByteArray).size + s7.size ≤ maxLen)) (
 some ⟨(.d (.v (.string (({ data := #[109] } : ByteArray) ++ s7)))), []⟩)) else (
 none))) := by kernel_rfl
/- loop.example/g00119/laws.markStringS -/
def b61x0 : ACode := (
 .seq (.seq (.g [oM 6 5, oM 7 0, oZ 8 7, oB 9 .lss 6 8]) (
 .cond (.t 9) (.skip) (.exit 0))) (
 .seq (.block 1 (.seq (.g [oM 12 0, oM 13 5, oM 14 1, oC 15 122 [.c .s] [14], oI 16 1 12 13, oS (.store 1 (.t 16) (.t 15))]) (
 .g [oM 17 1, oBi 18 .add 17 1, oM 1 18]))) (
 .g [oM 10 5, oBi 11 .add 10 1, oM 5 11])))
def e61x0 : Exits := [((.exit 0), [(0, .o 1), (1, .c kI)])]
noncomputable def l61x0 (T : Table) (k : Nat) := loopN (evalC ⟨T, [0]⟩ k b61x0 (Ex × List AV)) [0, 1, 5] e61x0
def a61 : AFun := ⟨[.lent, .rd], false, [.t 4], (
 .seq (.g [oK 4 0]) (
 .seq (.seq (.g [oK 5 0]) (
 .block 0 (.loop [0, 1, 5] e61x0 b61x0))) (
 .seq (.g [oM 19 1, oM 4 19]) (
 .ret))))⟩
theorem l61x0s (T : Table) (k n : Nat) (l3 : Rows) (n4 : Int) (n5 : Int) : l61x0 T k (n + 1) [(.o 1 l3), (.v (.int .i64 n4)), (.v (.int .i64 n5))] = (
 bif (decide (n5 < (l3.length : Int))) then (
 callT T 122 [(.d (.v (.int .i64 n4)))] fun o6 =>
 oD o6.res fun d7 =>
 dS d7 fun s8 =>
 tst (decide (0 ≤ n5) && decide (Int.toNat n5 < l3.length)) (
 l61x0 T k n [(.o 1 (setD l3 (Int.toNat n5) 0 (.v (.string s8)))), (.v (.int .i64 (IntKind.wrap .i64 (n4 + 1)))), (.v (.int .i64 (IntKind.wrap .i64 (n5 + 1))))])) else (
 some ((.exit 0), [(.o 1 l3), (.v (.int .i64 n4))]))) := by kernel_rfl
theorem a61q (T : Table) (k : Nat) (l1 : Rows) (n2 : Int) : evalF T k a61 [(.d (.s 1 l1)), (.d (.v (.int .i64 n2)))] = (
 aft (l61x0 T k k [(.o 1 l1), (.v (.int .i64 n2)), (.v (.int .i64 0))]) fun e9 ys10 =>
 bif e9.same (.exit 0) then (
 aV ys10 0 fun x11 =>
 aO 1 x11 fun l12 =>
 aV ys10 1 fun x13 =>
 aI .i64 x13 fun n14 =>
 some ⟨(.d (.v (.int .i64 n14))), [(.d (.s 1 l12))]⟩) else (
 none)) := by kernel_rfl
/- loop.example/g00119/laws.markTermS -/
def b123x0 : ACode := (
 .seq (.seq (.g [oM 6 5, oM 7 0, oZ 8 7, oB 9 .lss 6 8]) (
 .cond (.t 9) (.skip) (.exit 0))) (
 .seq (.block 1 (.seq (.g [oM 12 0, oM 13 5, oM 14 1, oI 15 3 12 13, oF 16 0 15, oS (.store 1 (.t 16) (.t 14))]) (
 .seq (.g [oM 17 1, oBi 18 .add 17 1, oM 1 18]) (
 .seq (.g [oM 19 0, oM 20 5, oM 21 1, oC 22 122 [.c .s] [21], oI 23 3 19 20, oF 24 1 23, oS (.store 1 (.t 24) (.t 22))]) (
 .seq (.g [oM 25 1, oBi 26 .add 25 1, oM 1 26]) (
 .g [oM 27 0, oM 28 5, oI 29 3 27 28, oF 30 2 29, oW 31 (.sl 1) 30, oM 32 1, oQ 33 (.call (.f 61) [.lent, .rd] false [.c kI] [(.t 31), (.t 32)]), oM 1 33])))))) (
 .g [oM 10 5, oBi 11 .add 10 1, oM 5 11])))
def e123x0 : Exits := [((.exit 0), [(0, .o 3), (1, .c kI)])]
noncomputable def l123x0 (T : Table) (k : Nat) := loopN (evalC ⟨T, [0]⟩ k b123x0 (Ex × List AV)) [0, 1, 5] e123x0
def a123 : AFun := ⟨[.lent, .rd], false, [.t 4], (
 .seq (.g [oK 4 0]) (
 .seq (.seq (.g [oK 5 0]) (
 .block 0 (.loop [0, 1, 5] e123x0 b123x0))) (
 .seq (.g [oM 34 1, oM 4 34]) (
 .ret))))⟩
theorem l123x0s (T : Table) (k n : Nat) (l3 : Rows) (n4 : Int) (n5 : Int) : l123x0 T k (n + 1) [(.o 3 l3), (.v (.int .i64 n4)), (.v (.int .i64 n5))] = (
 bif (decide (n5 < (l3.length : Int))) then (
 tst (decide (0 ≤ n5) && decide (Int.toNat n5 < l3.length)) (
 callT T 122 [(.d (.v (.int .i64 (IntKind.wrap .i64 (n4 + 1)))))] fun o6 =>
 oD o6.res fun d7 =>
 dS d7 fun s8 =>
 tst (decide (0 ≤ n5) && decide (Int.toNat n5 < (setD l3 (Int.toNat n5) 0 (.v (.int .i64 n4))).length)) (
 tst (decide (0 ≤ n5) && decide (Int.toNat n5 < (setD (setD l3 (Int.toNat n5) 0 (.v (.int .i64 n4))) (Int.toNat n5) 1 (.v (.string s8))).length)) (
 look (setD (setD l3 (Int.toNat n5) 0 (.v (.int .i64 n4))) (Int.toNat n5) 1 (.v (.string s8))) (Int.toNat n5) fun r9 =>
 cL 1 r9 2 fun l10 =>
 callT T 61 [(.d (.s 1 l10)), (.d (.v (.int .i64 (IntKind.wrap .i64 ((IntKind.wrap .i64 (n4 + 1)) + 1)))))] fun o11 =>
 nth o11.back 0 fun i12 =>
 oD i12 fun d13 =>
 dL 1 d13 fun l14 =>
 oD o11.res fun d15 =>
 dI .i64 d15 fun n16 =>
 l123x0 T k n [(.o 3 (setD (setD (setD l3 (Int.toNat n5) 0 (.v (.int .i64 n4))) (Int.toNat n5) 1 (.v (.string s8))) (Int.toNat n5) 2 (.s 1 l14))), (.v (.int .i64 n16)), (.v (.int .i64 (IntKind.wrap .i64 (n5 + 1))))])))) else (
 some ((.exit 0), [(.o 3 l3), (.v (.int .i64 n4))]))) := by kernel_rfl
theorem a123q (T : Table) (k : Nat) (l1 : Rows) (n2 : Int) : evalF T k a123 [(.d (.s 3 l1)), (.d (.v (.int .i64 n2)))] = (
 aft (l123x0 T k k [(.o 3 l1), (.v (.int .i64 n2)), (.v (.int .i64 0))]) fun e17 ys18 =>
 bif e17.same (.exit 0) then (
 aV ys18 0 fun x19 =>
 aO 3 x19 fun l20 =>
 aV ys18 1 fun x21 =>
 aI .i64 x21 fun n22 =>
 some ⟨(.d (.v (.int .i64 n22))), [(.d (.s 3 l20))]⟩) else (
 none)) := by kernel_rfl
/- loop.example/g00119/laws.markWeighS -/
def b124x0 : ACode := (
 .seq (.seq (.g [oM 6 5, oM 7 0, oZ 8 7, oB 9 .lss 6 8]) (
 .cond (.t 9) (.skip) (.exit 0))) (
 .seq (.block 1 (.seq (.g [oM 12 0, oM 13 5, oM 14 1, oC 15 122 [.c .s] [14], oI 16 2 12 13, oF 17 0 16, oS (.store 1 (.t 17) (.t 15))]) (
 .seq (.g [oM 18 1, oBi 19 .add 18 1, oM 1 19]) (
 .seq (.g [oM 20 0, oM 21 5, oM 22 1, oI 23 2 20 21, oF 24 1 23, oS (.store 1 (.t 24) (.t 22))]) (
 .g [oM 25 1, oBi 26 .add 25 1, oM 1 26]))))) (
 .g [oM 10 5, oBi 11 .add 10 1, oM 5 11])))
def e124x0 : Exits := [((.exit 0), [(0, .o 2), (1, .c kI)])]
noncomputable def l124x0 (T : Table) (k : Nat) := loopN (evalC ⟨T, [0]⟩ k b124x0 (Ex × List AV)) [0, 1, 5] e124x0
def a124 : AFun := ⟨[.lent, .rd], false, [.t 4], (
 .seq (.g [oK 4 0]) (
 .seq (.seq (.g [oK 5 0]) (
 .block 0 (.loop [0, 1, 5] e124x0 b124x0))) (
 .seq (.g [oM 27 1, oM 4 27]) (
 .ret))))⟩
theorem l124x0s (T : Table) (k n : Nat) (l3 : Rows) (n4 : Int) (n5 : Int) : l124x0 T k (n + 1) [(.o 2 l3), (.v (.int .i64 n4)), (.v (.int .i64 n5))] = (
 bif (decide (n5 < (l3.length : Int))) then (
 callT T 122 [(.d (.v (.int .i64 n4)))] fun o6 =>
 oD o6.res fun d7 =>
 dS d7 fun s8 =>
 tst (decide (0 ≤ n5) && decide (Int.toNat n5 < l3.length)) (
 tst (decide (0 ≤ n5) && decide (Int.toNat n5 < (setD l3 (Int.toNat n5) 0 (.v (.string s8))).length)) (
 l124x0 T k n [(.o 2 (setD (setD l3 (Int.toNat n5) 0 (.v (.string s8))) (Int.toNat n5) 1 (.v (.int .i64 (IntKind.wrap .i64 (n4 + 1)))))), (.v (.int .i64 (IntKind.wrap .i64 ((IntKind.wrap .i64 (n4 + 1)) + 1)))), (.v (.int .i64 (IntKind.wrap .i64 (n5 + 1))))]))) else (
 some ((.exit 0), [(.o 2 l3), (.v (.int .i64 n4))]))) := by kernel_rfl
theorem a124q (T : Table) (k : Nat) (l1 : Rows) (n2 : Int) : evalF T k a124 [(.d (.s 2 l1)), (.d (.v (.int .i64 n2)))] = (
 aft (l124x0 T k k [(.o 2 l1), (.v (.int .i64 n2)), (.v (.int .i64 0))]) fun e9 ys10 =>
 bif e9.same (.exit 0) then (
 aV ys10 0 fun x11 =>
 aO 2 x11 fun l12 =>
 aV ys10 1 fun x13 =>
 aI .i64 x13 fun n14 =>
 some ⟨(.d (.v (.int .i64 n14))), [(.d (.s 2 l12))]⟩) else (
 none)) := by kernel_rfl
/- loop.example/g00119/laws.markValueS -/
def b125x0 : ACode := (
 .seq (.seq (.g [oM 6 5, oM 7 0, oZ 8 7, oB 9 .lss 6 8]) (
 .cond (.t 9) (.skip) (.exit 0))) (
 .seq (.block 1 (.seq (.g [oM 12 0, oM 13 5, oM 14 1, oI 15 5 12 13, oF 16 0 15, oS (.store 1 (.t 16) (.t 14))]) (
 .seq (.g [oM 17 1, oBi 18 .add 17 1, oM 1 18]) (
 .seq (.g [oM 19 0, oM 20 5, oM 21 1, oC 22 122 [.c .s] [21], oI 23 5 19 20, oF 24 1 23, oS (.store 1 (.t 24) (.t 22))]) (
 .seq (.g [oM 25 1, oBi 26 .add 25 1, oM 1 26]) (
 .seq (.g [oM 27 0, oM 28 5, oM 29 1, oI 30 5 27 28, oF 31 2 30, oS (.store 1 (.t 31) (.t 29))]) (
 .seq (.g [oM 32 1, oBi 33 .add 32 1, oM 1 33]) (
 .seq (.g [oM 34 0, oM 35 5, oI 36 5 34 35, oF 37 3 36, oW 38 (.sl 1) 37, oM 39 1, oQ 40 (.call (.f 61) [.lent, .rd] false [.c kI] [(.t 38), (.t 39)]), oM 1 40]) (
 .g [oM 41 0, oM 42 5, oI 43 5 41 42, oF 44 4 43, oW 45 (.sl 5) 44, oM 46 1, oQ 47 (.call (.f 125) [.lent, .rd] false [.c kI] [(.t 45), (.t 46)]), oM 1 47]))))))))) (
 .g [oM 10 5, oBi 11 .add 10 1, oM 5 11])))
def e125x0 : Exits := [((.exit 0), [(0, .o 5), (1, .c kI)])]
noncomputable def l125x0 (T : Table) (k : Nat) := loopN (evalC ⟨T, [0]⟩ k b125x0 (Ex × List AV)) [0, 1, 5] e125x0
def a125 : AFun := ⟨[.lent, .rd], false, [.t 4], (
 .seq (.g [oK 4 0]) (
 .seq (.seq (.g [oK 5 0]) (
 .block 0 (.loop [0, 1, 5] e125x0 b125x0))) (
 .seq (.g [oM 48 1, oM 4 48]) (
 .ret))))⟩
theorem l125x0s (T : Table) (k n : Nat) (l3 : Rows) (n4 : Int) (n5 : Int) : l125x0 T k (n + 1) [(.o 5 l3), (.v (.int .i64 n4)), (.v (.int .i64 n5))] = (
 bif (decide (n5 < (l3.length : Int))) then (
 tst (decide (0 ≤ n5) && decide (Int.toNat n5 < l3.length)) (
 callT T 122 [(.d (.v (.int .i64 (IntKind.wrap .i64 (n4 + 1)))))] fun o6 =>
 oD o6.res fun d7 =>
 dS d7 fun s8 =>
 tst (decide (0 ≤ n5) && decide (Int.toNat n5 < (setD l3 (Int.toNat n5) 0 (.v (.int .i64 n4))).length)) (
 tst (decide (0 ≤ n5) && decide (Int.toNat n5 < (setD (setD l3 (Int.toNat n5) 0 (.v (.int .i64 n4))) (Int.toNat n5) 1 (.v (.string s8))).length)) (
 tst (decide (0 ≤ n5) && decide (Int.toNat n5 < (setD (setD (setD l3 (Int.toNat n5) 0 (.v (.int .i64 n4))) (Int.toNat n5) 1 (.v (.string s8))) (Int.toNat n5) 2 (.v (.int .i64 (IntKind.wrap .i64 ((IntKind.wrap .i64 (n4 + 1)) + 1))))).length)) (
 look (setD (setD (setD l3 (Int.toNat n5) 0 (.v (.int .i64 n4))) (Int.toNat n5) 1 (.v (.string s8))) (Int.toNat n5) 2 (.v (.int .i64 (IntKind.wrap .i64 ((IntKind.wrap .i64 (n4 + 1)) + 1))))) (Int.toNat n5) fun r9 =>
 cL 1 r9 3 fun l10 =>
 callT T 61 [(.d (.s 1 l10)), (.d (.v (.int .i64 (IntKind.wrap .i64 ((IntKind.wrap .i64 ((IntKind.wrap .i64 (n4 + 1)) + 1)) + 1)))))] fun o11 =>
 nth o11.back 0 fun i12 =>
 oD i12 fun d13 =>
 dL 1 d13 fun l14 =>
 oD o11.res fun d15 =>
 dI .i64 d15 fun n16 =>
 tst (decide (0 ≤ n5) && decide (Int.toNat n5 < (setD (setD (setD l3 (Int.toNat n5) 0 (.v (.int .i64 n4))) (Int.toNat n5) 1 (.v (.string s8))) (Int.toNat n5) 2 (.v (.int .i64 (IntKind.wrap .i64 ((IntKind.wrap .i64 (n4 + 1)) + 1))))).length)) (
 look (setD (setD (setD l3 (Int.toNat n5) 0 (.v (.int .i64 n4))) (Int.toNat n5) 1 (.v (.string s8))) (Int.toNat n5) 2 (.v (.int .i64 (IntKind.wrap .i64 ((IntKind.wrap .i64 (n4 + 1)) + 1))))) (Int.toNat n5) fun r17 =>
 cL 5 r17 4 fun l18 =>
 callT T 125 [(.d (.s 5 l18)), (.d (.v (.int .i64 n16)))] fun o19 =>
 nth o19.back 0 fun i20 =>
 oD i20 fun d21 =>
 dL 5 d21 fun l22 =>
 oD o19.res fun d23 =>
 dI .i64 d23 fun n24 =>
 l125x0 T k n [(.o 5 (setD (setD (setD (setD (setD l3 (Int.toNat n5) 0 (.v (.int .i64 n4))) (Int.toNat n5) 1 (.v (.string s8))) (Int.toNat n5) 2 (.v (.int .i64 (IntKind.wrap .i64 ((IntKind.wrap .i64 (n4 + 1)) + 1))))) (Int.toNat n5) 4 (.s 5 l22)) (Int.toNat n5) 3 (.s 1 l14))), (.v (.int .i64 n24)), (.v (.int .i64 (IntKind.wrap .i64 (n5 + 1))))])))))) else (
 some ((.exit 0), [(.o 5 l3), (.v (.int .i64 n4))]))) := by kernel_rfl
theorem a125q (T : Table) (k : Nat) (l1 : Rows) (n2 : Int) : evalF T k a125 [(.d (.s 5 l1)), (.d (.v (.int .i64 n2)))] = (
 aft (l125x0 T k k [(.o 5 l1), (.v (.int .i64 n2)), (.v (.int .i64 0))]) fun e25 ys26 =>
 bif e25.same (.exit 0) then (
 aV ys26 0 fun x27 =>
 aO 5 x27 fun l28 =>
 aV ys26 1 fun x29 =>
 aI .i64 x29 fun n30 =>
 some ⟨(.d (.v (.int .i64 n30))), [(.d (.s 5 l28))]⟩) else (
 none)) := by kernel_rfl

end Go.Am.Lk
