/- What the functions come to, printed: equations by the kernel. Nothing is assumed. -/
import Derived.Test.YtgnicnelpcndgaaAmCore
import Derived.KernelRfl
namespace Go.Am.Sb
set_option linter.unusedVariables false
set_option linter.unusedSimpArgs false
set_option maxRecDepth 8000
/- loop.example/g00119/laws.szStringS -/
def b63x0 : ACode := (
  .seq (.seq (.reg false [⟨some 12, .mv (.t 5), none⟩,
    ⟨some 13, .mv (.t 0), none⟩,
    ⟨some 14, .len false (.t 13), none⟩,
    ⟨some 15, .bin .lss (.t 12) (.t 14), none⟩]) (
  .cond (.t 15) (.skip) (.exit 0))) (
  .seq (.block 1 (.seq (.reg false [⟨some 18, .mv (.t 1), none⟩,
      ⟨some 19, .mv (.t 0), none⟩,
      ⟨some 20, .mv (.t 5), none⟩,
      ⟨some 21, .iad 1 (.t 19) (.t 20), none⟩,
      ⟨some 22, .load false [.s] (.t 21), none⟩,
      ⟨some 23, .len true (.t 22), none⟩,
      ⟨some 24, .bin .sub (.t 18) (.t 23), none⟩,
      ⟨some 1, .mv (.t 24), none⟩]) (
    .seq (.reg false [⟨some 25, .mv (.t 1), none⟩,
      ⟨some 26, .bin .lss (.t 25) (.c (.v (.int .i64 0))), none⟩]) (
    .cond (.t 26) (.seq (.reg false [⟨some 4, .mv (.c (.v (.int .i64 (-1)))), none⟩]) (
      .ret)) (.skip))))) (
  .reg false [⟨some 16, .mv (.t 5), none⟩,
    ⟨some 17, .bin .add (.t 16) (.c (.v (.int .i64 1))), none⟩,
    ⟨some 5, .mv (.t 17), none⟩])))
def e63x0 : Exits := [(.ret, [(4, .c (.i .i64))]), ((.exit 0), [(1, .c (.i .i64))])]
def l63x0 (T : Table) (k : Nat) := loopN (evalC ⟨T, []⟩ k b63x0 (Ex × List AV)) [0, 1, 5] e63x0
def a63 : AFun := ⟨[.rd, .rd], false, [.t 4], (
  .seq (.reg false [⟨some 4, .mv (.c (.v (.int .i64 0))), none⟩]) (
  .seq (.reg false [⟨some 6, .mv (.t 1), none⟩,
    ⟨some 7, .mv (.t 0), none⟩,
    ⟨some 8, .len false (.t 7), none⟩,
    ⟨some 9, .bin .sub (.t 6) (.t 8), none⟩,
    ⟨some 1, .mv (.t 9), none⟩]) (
  .seq (.seq (.reg false [⟨some 10, .mv (.t 1), none⟩,
    ⟨some 11, .bin .lss (.t 10) (.c (.v (.int .i64 0))), none⟩]) (
  .cond (.t 11) (.seq (.reg false [⟨some 4, .mv (.c (.v (.int .i64 (-1)))), none⟩]) (
    .ret)) (.skip))) (
  .seq (.seq (.reg false [⟨some 5, .mv (.c (.v (.int .i64 0))), none⟩]) (
  .block 0 (.loop [0, 1, 5] e63x0 b63x0))) (
  .seq (.reg false [⟨some 27, .mv (.t 1), none⟩,
    ⟨some 4, .mv (.t 27), none⟩]) (
  .ret))))))⟩
theorem l63x0s (T : Table) (k n : Nat) (l3 : Rows) (n4 : Int) (n5 : Int) : l63x0 T k (n + 1) [(.fz 1 l3), (.v (.int .i64 n4)), (.v (.int .i64 n5))] = (
 bif (decide (n5 < (l3.length : Int))) then (
 tst (decide (0 ≤ n5)) (
 look l3 (Int.toNat n5) fun r6 =>
 cS r6 0 fun s7 =>
 bif (decide ((IntKind.wrap .i64 (n4 - (s7.size : Int))) < 0)) then (
 some (.ret, [(.v (.int .i64 (-1)))])) else (
 l63x0 T k n [(.fz 1 l3), (.v (.int .i64 (IntKind.wrap .i64 (n4 - (s7.size : Int))))), (.v (.int .i64 (IntKind.wrap .i64 (n5 + 1))))]))) else (
 some ((.exit 0), [(.v (.int .i64 n4))]))) := by kernel_rfl
theorem a63q (T : Table) (k : Nat) (l1 : Rows) (n2 : Int) : evalF T k a63 [(.d (.s 1 l1)), (.d (.v (.int .i64 n2)))] = (
 bif (decide ((IntKind.wrap .i64 (n2 - (l1.length : Int))) < 0)) then (
 some ⟨(.d (.v (.int .i64 (-1)))), []⟩) else (
 aft (l63x0 T k k [(.fz 1 l1), (.v (.int .i64 (IntKind.wrap .i64 (n2 - (l1.length : Int))))), (.v (.int .i64 0))]) fun e8 ys9 =>
 bif e8.same .ret then (
 aV ys9 0 fun x10 =>
 aI .i64 x10 fun n11 =>
 some ⟨(.d (.v (.int .i64 n11))), []⟩) else (
 bif e8.same (.exit 0) then (
 aV ys9 0 fun x12 =>
 aI .i64 x12 fun n13 =>
 some ⟨(.d (.v (.int .i64 n13))), []⟩) else (
 none)))) := by kernel_rfl
/- loop.example/g00119/laws.szValueS -/
def b207x0 : ACode := (
  .seq (.seq (.reg false [⟨some 12, .mv (.t 5), none⟩,
    ⟨some 13, .mv (.t 0), none⟩,
    ⟨some 14, .len false (.t 13), none⟩,
    ⟨some 15, .bin .lss (.t 12) (.t 14), none⟩]) (
  .cond (.t 15) (.skip) (.exit 0))) (
  .seq (.block 1 (.seq (.reg false [⟨some 18, .mv (.t 0), none⟩,
      ⟨some 19, .mv (.t 5), none⟩,
      ⟨some 20, .iad 5 (.t 18) (.t 19), none⟩,
      ⟨some 21, .load true [(.i .i64), .s, (.i .i64), (.sl 1), (.sl 5)] (.t 20), none⟩,
      ⟨some 22, .mv (.t 1), none⟩,
      ⟨some 23, .call (.f 173) [.rd, .rd] false [.c (.i .i64)] [(.t 21), (.t 22)], none⟩,
      ⟨some 1, .mv (.t 23), none⟩]) (
    .seq (.reg false [⟨some 24, .mv (.t 1), none⟩,
      ⟨some 25, .bin .lss (.t 24) (.c (.v (.int .i64 0))), none⟩]) (
    .cond (.t 25) (.seq (.reg false [⟨some 4, .mv (.c (.v (.int .i64 (-1)))), none⟩]) (
      .ret)) (.skip))))) (
  .reg false [⟨some 16, .mv (.t 5), none⟩,
    ⟨some 17, .bin .add (.t 16) (.c (.v (.int .i64 1))), none⟩,
    ⟨some 5, .mv (.t 17), none⟩])))
def e207x0 : Exits := [(.ret, [(4, .c (.i .i64))]), ((.exit 0), [(1, .c (.i .i64))])]
def l207x0 (T : Table) (k : Nat) := loopN (evalC ⟨T, []⟩ k b207x0 (Ex × List AV)) [0, 1, 5] e207x0
def a207 : AFun := ⟨[.rd, .rd], false, [.t 4], (
  .seq (.reg false [⟨some 4, .mv (.c (.v (.int .i64 0))), none⟩]) (
  .seq (.reg false [⟨some 6, .mv (.t 1), none⟩,
    ⟨some 7, .mv (.t 0), none⟩,
    ⟨some 8, .len false (.t 7), none⟩,
    ⟨some 9, .bin .sub (.t 6) (.t 8), none⟩,
    ⟨some 1, .mv (.t 9), none⟩]) (
  .seq (.seq (.reg false [⟨some 10, .mv (.t 1), none⟩,
    ⟨some 11, .bin .lss (.t 10) (.c (.v (.int .i64 0))), none⟩]) (
  .cond (.t 11) (.seq (.reg false [⟨some 4, .mv (.c (.v (.int .i64 (-1)))), none⟩]) (
    .ret)) (.skip))) (
  .seq (.seq (.reg false [⟨some 5, .mv (.c (.v (.int .i64 0))), none⟩]) (
  .block 0 (.loop [0, 1, 5] e207x0 b207x0))) (
  .seq (.reg false [⟨some 26, .mv (.t 1), none⟩,
    ⟨some 4, .mv (.t 26), none⟩]) (
  .ret))))))⟩
theorem l207x0s (T : Table) (k n : Nat) (l3 : Rows) (n4 : Int) (n5 : Int) : l207x0 T k (n + 1) [(.fz 5 l3), (.v (.int .i64 n4)), (.v (.int .i64 n5))] = (
 bif (decide (n5 < (l3.length : Int))) then (
 tst (decide (0 ≤ n5)) (
 look l3 (Int.toNat n5) fun r6 =>
 cI .i64 r6 0 fun n7 =>
 cS r6 1 fun s8 =>
 cI .i64 r6 2 fun n9 =>
 cL 1 r6 3 fun l10 =>
 cL 5 r6 4 fun l11 =>
 callT T 173 [(.g [(.v (.int .i64 n7)), (.v (.string s8)), (.v (.int .i64 n9)), (.s 1 l10), (.s 5 l11)]), (.d (.v (.int .i64 n4)))] fun o12 =>
 oD o12.res fun d13 =>
 dI .i64 d13 fun n14 =>
 bif (decide (n14 < 0)) then (
 some (.ret, [(.v (.int .i64 (-1)))])) else (
 l207x0 T k n [(.fz 5 l3), (.v (.int .i64 n14)), (.v (.int .i64 (IntKind.wrap .i64 (n5 + 1))))]))) else (
 some ((.exit 0), [(.v (.int .i64 n4))]))) := by kernel_rfl
theorem a207q (T : Table) (k : Nat) (l1 : Rows) (n2 : Int) : evalF T k a207 [(.d (.s 5 l1)), (.d (.v (.int .i64 n2)))] = (
 bif (decide ((IntKind.wrap .i64 (n2 - (l1.length : Int))) < 0)) then (
 some ⟨(.d (.v (.int .i64 (-1)))), []⟩) else (
 aft (l207x0 T k k [(.fz 5 l1), (.v (.int .i64 (IntKind.wrap .i64 (n2 - (l1.length : Int))))), (.v (.int .i64 0))]) fun e15 ys16 =>
 bif e15.same .ret then (
 aV ys16 0 fun x17 =>
 aI .i64 x17 fun n18 =>
 some ⟨(.d (.v (.int .i64 n18))), []⟩) else (
 bif e15.same (.exit 0) then (
 aV ys16 0 fun x19 =>
 aI .i64 x19 fun n20 =>
 some ⟨(.d (.v (.int .i64 n20))), []⟩) else (
 none)))) := by kernel_rfl
/- loop.example/g00119/laws.szValue -/

def a173 : AFun := ⟨[.rd, .rd], false, [.t 4], (
  .seq (.reg false [⟨some 2, .box (.t 0), none⟩,
    ⟨some 4, .mv (.c (.v (.int .i64 0))), none⟩]) (
  .seq (.reg false [⟨some 5, .mv (.t 1), none⟩,
    ⟨some 6, .fad 1 (.t 2), none⟩,
    ⟨some 7, .load false [.s] (.t 6), none⟩,
    ⟨some 8, .len true (.t 7), none⟩,
    ⟨some 9, .bin .sub (.t 5) (.t 8), none⟩,
    ⟨some 1, .mv (.t 9), none⟩]) (
  .seq (.seq (.reg false [⟨some 10, .mv (.t 1), none⟩,
    ⟨some 11, .bin .lss (.t 10) (.c (.v (.int .i64 0))), none⟩]) (
  .cond (.t 11) (.seq (.reg false [⟨some 4, .mv (.c (.v (.int .i64 (-1)))), none⟩]) (
    .ret)) (.skip))) (
  .seq (.reg false [⟨some 12, .fad 3 (.t 2), none⟩,
    ⟨some 13, .load false [(.sl 1)] (.t 12), none⟩,
    ⟨some 14, .mv (.t 1), none⟩,
    ⟨some 15, .call (.f 63) [.rd, .rd] false [.c (.i .i64)] [(.t 13), (.t 14)], none⟩,
    ⟨some 1, .mv (.t 15), none⟩]) (
  .seq (.seq (.reg false [⟨some 16, .mv (.t 1), none⟩,
    ⟨some 17, .bin .lss (.t 16) (.c (.v (.int .i64 0))), none⟩]) (
  .cond (.t 17) (.seq (.reg false [⟨some 4, .mv (.c (.v (.int .i64 (-1)))), none⟩]) (
    .ret)) (.skip))) (
  .seq (.reg false [⟨some 18, .fad 4 (.t 2), none⟩,
    ⟨some 19, .load false [(.sl 5)] (.t 18), none⟩,
    ⟨some 20, .mv (.t 1), none⟩,
    ⟨some 21, .call (.f 207) [.rd, .rd] false [.c (.i .i64)] [(.t 19), (.t 20)], none⟩,
    ⟨some 1, .mv (.t 21), none⟩]) (
  .seq (.seq (.reg false [⟨some 22, .mv (.t 1), none⟩,
    ⟨some 23, .bin .lss (.t 22) (.c (.v (.int .i64 0))), none⟩]) (
  .cond (.t 23) (.seq (.reg false [⟨some 4, .mv (.c (.v (.int .i64 (-1)))), none⟩]) (
    .ret)) (.skip))) (
  .seq (.reg false [⟨some 24, .mv (.t 1), none⟩,
    ⟨some 4, .mv (.t 24), none⟩]) (
  .ret)))))))))⟩

theorem a173q (T : Table) (k : Nat) (n1 : Int) (s2 : ByteArray) (n3 : Int) (l4 : Rows) (l5 : Rows) (n6 : Int) : evalF T k a173 [(.g [(.v (.int .i64 n1)), (.v (.string s2)), (.v (.int .i64 n3)), (.s 1 l4), (.s 5 l5)]), (.d (.v (.int .i64 n6)))] = (
 bif (decide ((IntKind.wrap .i64 (n6 - (s2.size : Int))) < 0)) then (
 some ⟨(.d (.v (.int .i64 (-1)))), []⟩) else (
 callT T 63 [(.d (.s 1 l4)), (.d (.v (.int .i64 (IntKind.wrap .i64 (n6 - (s2.size : Int))))))] fun o7 =>
 oD o7.res fun d8 =>
 dI .i64 d8 fun n9 =>
 bif (decide (n9 < 0)) then (
 some ⟨(.d (.v (.int .i64 (-1)))), []⟩) else (
 callT T 207 [(.d (.s 5 l5)), (.d (.v (.int .i64 n9)))] fun o10 =>
 oD o10.res fun d11 =>
 dI .i64 d11 fun n12 =>
 bif (decide (n12 < 0)) then (
 some ⟨(.d (.v (.int .i64 (-1)))), []⟩) else (
 some ⟨(.d (.v (.int .i64 n12))), []⟩)))) := by kernel_rfl
/- loop.example/g00119/laws.szTerm -/

def a233 : AFun := ⟨[.rd, .rd], false, [.t 4], (
  .seq (.reg false [⟨some 2, .box (.t 0), none⟩,
    ⟨some 4, .mv (.c (.v (.int .i64 0))), none⟩]) (
  .seq (.reg false [⟨some 5, .mv (.t 1), none⟩,
    ⟨some 6, .fad 1 (.t 2), none⟩,
    ⟨some 7, .load false [.s] (.t 6), none⟩,
    ⟨some 8, .len true (.t 7), none⟩,
    ⟨some 9, .bin .sub (.t 5) (.t 8), none⟩,
    ⟨some 1, .mv (.t 9), none⟩]) (
  .seq (.seq (.reg false [⟨some 10, .mv (.t 1), none⟩,
    ⟨some 11, .bin .lss (.t 10) (.c (.v (.int .i64 0))), none⟩]) (
  .cond (.t 11) (.seq (.reg false [⟨some 4, .mv (.c (.v (.int .i64 (-1)))), none⟩]) (
    .ret)) (.skip))) (
  .seq (.reg false [⟨some 12, .fad 2 (.t 2), none⟩,
    ⟨some 13, .load false [(.sl 1)] (.t 12), none⟩,
    ⟨some 14, .mv (.t 1), none⟩,
    ⟨some 15, .call (.f 63) [.rd, .rd] false [.c (.i .i64)] [(.t 13), (.t 14)], none⟩,
    ⟨some 1, .mv (.t 15), none⟩]) (
  .seq (.seq (.reg false [⟨some 16, .mv (.t 1), none⟩,
    ⟨some 17, .bin .lss (.t 16) (.c (.v (.int .i64 0))), none⟩]) (
  .cond (.t 17) (.seq (.reg false [⟨some 4, .mv (.c (.v (.int .i64 (-1)))), none⟩]) (
    .ret)) (.skip))) (
  .seq (.reg false [⟨some 18, .mv (.t 1), none⟩,
    ⟨some 4, .mv (.t 18), none⟩]) (
  .ret)))))))⟩

theorem a233q (T : Table) (k : Nat) (n1 : Int) (s2 : ByteArray) (l3 : Rows) (n4 : Int) : evalF T k a233 [(.g [(.v (.int .i64 n1)), (.v (.string s2)), (.s 1 l3)]), (.d (.v (.int .i64 n4)))] = (
 bif (decide ((IntKind.wrap .i64 (n4 - (s2.size : Int))) < 0)) then (
 some ⟨(.d (.v (.int .i64 (-1)))), []⟩) else (
 callT T 63 [(.d (.s 1 l3)), (.d (.v (.int .i64 (IntKind.wrap .i64 (n4 - (s2.size : Int))))))] fun o5 =>
 oD o5.res fun d6 =>
 dI .i64 d6 fun n7 =>
 bif (decide (n7 < 0)) then (
 some ⟨(.d (.v (.int .i64 (-1)))), []⟩) else (
 some ⟨(.d (.v (.int .i64 n7))), []⟩))) := by kernel_rfl
/- loop.example/g00119/laws.szTermS -/
def b213x0 : ACode := (
  .seq (.seq (.reg false [⟨some 12, .mv (.t 5), none⟩,
    ⟨some 13, .mv (.t 0), none⟩,
    ⟨some 14, .len false (.t 13), none⟩,
    ⟨some 15, .bin .lss (.t 12) (.t 14), none⟩]) (
  .cond (.t 15) (.skip) (.exit 0))) (
  .seq (.block 1 (.seq (.reg false [⟨some 18, .mv (.t 0), none⟩,
      ⟨some 19, .mv (.t 5), none⟩,
      ⟨some 20, .iad 3 (.t 18) (.t 19), none⟩,
      ⟨some 21, .load true [(.i .i64), .s, (.sl 1)] (.t 20), none⟩,
      ⟨some 22, .mv (.t 1), none⟩,
      ⟨some 23, .call (.f 233) [.rd, .rd] false [.c (.i .i64)] [(.t 21), (.t 22)], none⟩,
      ⟨some 1, .mv (.t 23), none⟩]) (
    .seq (.reg false [⟨some 24, .mv (.t 1), none⟩,
      ⟨some 25, .bin .lss (.t 24) (.c (.v (.int .i64 0))), none⟩]) (
    .cond (.t 25) (.seq (.reg false [⟨some 4, .mv (.c (.v (.int .i64 (-1)))), none⟩]) (
      .ret)) (.skip))))) (
  .reg false [⟨some 16, .mv (.t 5), none⟩,
    ⟨some 17, .bin .add (.t 16) (.c (.v (.int .i64 1))), none⟩,
    ⟨some 5, .mv (.t 17), none⟩])))
def e213x0 : Exits := [(.ret, [(4, .c (.i .i64))]), ((.exit 0), [(1, .c (.i .i64))])]
def l213x0 (T : Table) (k : Nat) := loopN (evalC ⟨T, []⟩ k b213x0 (Ex × List AV)) [0, 1, 5] e213x0
def a213 : AFun := ⟨[.rd, .rd], false, [.t 4], (
  .seq (.reg false [⟨some 4, .mv (.c (.v (.int .i64 0))), none⟩]) (
  .seq (.reg false [⟨some 6, .mv (.t 1), none⟩,
    ⟨some 7, .mv (.t 0), none⟩,
    ⟨some 8, .len false (.t 7), none⟩,
    ⟨some 9, .bin .sub (.t 6) (.t 8), none⟩,
    ⟨some 1, .mv (.t 9), none⟩]) (
  .seq (.seq (.reg false [⟨some 10, .mv (.t 1), none⟩,
    ⟨some 11, .bin .lss (.t 10) (.c (.v (.int .i64 0))), none⟩]) (
  .cond (.t 11) (.seq (.reg false [⟨some 4, .mv (.c (.v (.int .i64 (-1)))), none⟩]) (
    .ret)) (.skip))) (
  .seq (.seq (.reg false [⟨some 5, .mv (.c (.v (.int .i64 0))), none⟩]) (
  .block 0 (.loop [0, 1, 5] e213x0 b213x0))) (
  .seq (.reg false [⟨some 26, .mv (.t 1), none⟩,
    ⟨some 4, .mv (.t 26), none⟩]) (
  .ret))))))⟩
theorem l213x0s (T : Table) (k n : Nat) (l3 : Rows) (n4 : Int) (n5 : Int) : l213x0 T k (n + 1) [(.fz 3 l3), (.v (.int .i64 n4)), (.v (.int .i64 n5))] = (
 bif (decide (n5 < (l3.length : Int))) then (
 tst (decide (0 ≤ n5)) (
 look l3 (Int.toNat n5) fun r6 =>
 cI .i64 r6 0 fun n7 =>
 cS r6 1 fun s8 =>
 cL 1 r6 2 fun l9 =>
 callT T 233 [(.g [(.v (.int .i64 n7)), (.v (.string s8)), (.s 1 l9)]), (.d (.v (.int .i64 n4)))] fun o10 =>
 oD o10.res fun d11 =>
 dI .i64 d11 fun n12 =>
 bif (decide (n12 < 0)) then (
 some (.ret, [(.v (.int .i64 (-1)))])) else (
 l213x0 T k n [(.fz 3 l3), (.v (.int .i64 n12)), (.v (.int .i64 (IntKind.wrap .i64 (n5 + 1))))]))) else (
 some ((.exit 0), [(.v (.int .i64 n4))]))) := by kernel_rfl
theorem a213q (T : Table) (k : Nat) (l1 : Rows) (n2 : Int) : evalF T k a213 [(.d (.s 3 l1)), (.d (.v (.int .i64 n2)))] = (
 bif (decide ((IntKind.wrap .i64 (n2 - (l1.length : Int))) < 0)) then (
 some ⟨(.d (.v (.int .i64 (-1)))), []⟩) else (
 aft (l213x0 T k k [(.fz 3 l1), (.v (.int .i64 (IntKind.wrap .i64 (n2 - (l1.length : Int))))), (.v (.int .i64 0))]) fun e13 ys14 =>
 bif e13.same .ret then (
 aV ys14 0 fun x15 =>
 aI .i64 x15 fun n16 =>
 some ⟨(.d (.v (.int .i64 n16))), []⟩) else (
 bif e13.same (.exit 0) then (
 aV ys14 0 fun x17 =>
 aI .i64 x17 fun n18 =>
 some ⟨(.d (.v (.int .i64 n18))), []⟩) else (
 none)))) := by kernel_rfl
/- loop.example/g00119/laws.szWeigh -/

def a234 : AFun := ⟨[.rd, .rd], false, [.t 4], (
  .seq (.reg false [⟨some 2, .box (.t 0), none⟩,
    ⟨some 4, .mv (.c (.v (.int .i64 0))), none⟩]) (
  .seq (.reg false [⟨some 5, .mv (.t 1), none⟩,
    ⟨some 6, .fad 0 (.t 2), none⟩,
    ⟨some 7, .load false [.s] (.t 6), none⟩,
    ⟨some 8, .len true (.t 7), none⟩,
    ⟨some 9, .bin .sub (.t 5) (.t 8), none⟩,
    ⟨some 1, .mv (.t 9), none⟩]) (
  .seq (.seq (.reg false [⟨some 10, .mv (.t 1), none⟩,
    ⟨some 11, .bin .lss (.t 10) (.c (.v (.int .i64 0))), none⟩]) (
  .cond (.t 11) (.seq (.reg false [⟨some 4, .mv (.c (.v (.int .i64 (-1)))), none⟩]) (
    .ret)) (.skip))) (
  .seq (.reg false [⟨some 12, .mv (.t 1), none⟩,
    ⟨some 4, .mv (.t 12), none⟩]) (
  .ret)))))⟩

theorem a234q (T : Table) (k : Nat) (s1 : ByteArray) (n2 : Int) (n3 : Int) : evalF T k a234 [(.g [(.v (.string s1)), (.v (.int .i64 n2))]), (.d (.v (.int .i64 n3)))] = (
 bif (decide ((IntKind.wrap .i64 (n3 - (s1.size : Int))) < 0)) then (
 some ⟨(.d (.v (.int .i64 (-1)))), []⟩) else (
 some ⟨(.d (.v (.int .i64 (IntKind.wrap .i64 (n3 - (s1.size : Int)))))), []⟩)) := by kernel_rfl
/- loop.example/g00119/laws.szWeighS -/
def b214x0 : ACode := (
  .seq (.seq (.reg false [⟨some 12, .mv (.t 5), none⟩,
    ⟨some 13, .mv (.t 0), none⟩,
    ⟨some 14, .len false (.t 13), none⟩,
    ⟨some 15, .bin .lss (.t 12) (.t 14), none⟩]) (
  .cond (.t 15) (.skip) (.exit 0))) (
  .seq (.block 1 (.seq (.reg false [⟨some 18, .mv (.t 0), none⟩,
      ⟨some 19, .mv (.t 5), none⟩,
      ⟨some 20, .iad 2 (.t 18) (.t 19), none⟩,
      ⟨some 21, .load true [.s, (.i .i64)] (.t 20), none⟩,
      ⟨some 22, .mv (.t 1), none⟩,
      ⟨some 23, .call (.f 234) [.rd, .rd] false [.c (.i .i64)] [(.t 21), (.t 22)], none⟩,
      ⟨some 1, .mv (.t 23), none⟩]) (
    .seq (.reg false [⟨some 24, .mv (.t 1), none⟩,
      ⟨some 25, .bin .lss (.t 24) (.c (.v (.int .i64 0))), none⟩]) (
    .cond (.t 25) (.seq (.reg false [⟨some 4, .mv (.c (.v (.int .i64 (-1)))), none⟩]) (
      .ret)) (.skip))))) (
  .reg false [⟨some 16, .mv (.t 5), none⟩,
    ⟨some 17, .bin .add (.t 16) (.c (.v (.int .i64 1))), none⟩,
    ⟨some 5, .mv (.t 17), none⟩])))
def e214x0 : Exits := [(.ret, [(4, .c (.i .i64))]), ((.exit 0), [(1, .c (.i .i64))])]
def l214x0 (T : Table) (k : Nat) := loopN (evalC ⟨T, []⟩ k b214x0 (Ex × List AV)) [0, 1, 5] e214x0
def a214 : AFun := ⟨[.rd, .rd], false, [.t 4], (
  .seq (.reg false [⟨some 4, .mv (.c (.v (.int .i64 0))), none⟩]) (
  .seq (.reg false [⟨some 6, .mv (.t 1), none⟩,
    ⟨some 7, .mv (.t 0), none⟩,
    ⟨some 8, .len false (.t 7), none⟩,
    ⟨some 9, .bin .sub (.t 6) (.t 8), none⟩,
    ⟨some 1, .mv (.t 9), none⟩]) (
  .seq (.seq (.reg false [⟨some 10, .mv (.t 1), none⟩,
    ⟨some 11, .bin .lss (.t 10) (.c (.v (.int .i64 0))), none⟩]) (
  .cond (.t 11) (.seq (.reg false [⟨some 4, .mv (.c (.v (.int .i64 (-1)))), none⟩]) (
    .ret)) (.skip))) (
  .seq (.seq (.reg false [⟨some 5, .mv (.c (.v (.int .i64 0))), none⟩]) (
  .block 0 (.loop [0, 1, 5] e214x0 b214x0))) (
  .seq (.reg false [⟨some 26, .mv (.t 1), none⟩,
    ⟨some 4, .mv (.t 26), none⟩]) (
  .ret))))))⟩
theorem l214x0s (T : Table) (k n : Nat) (l3 : Rows) (n4 : Int) (n5 : Int) : l214x0 T k (n + 1) [(.fz 2 l3), (.v (.int .i64 n4)), (.v (.int .i64 n5))] = (
 bif (decide (n5 < (l3.length : Int))) then (
 tst (decide (0 ≤ n5)) (
 look l3 (Int.toNat n5) fun r6 =>
 cS r6 0 fun s7 =>
 cI .i64 r6 1 fun n8 =>
 callT T 234 [(.g [(.v (.string s7)), (.v (.int .i64 n8))]), (.d (.v (.int .i64 n4)))] fun o9 =>
 oD o9.res fun d10 =>
 dI .i64 d10 fun n11 =>
 bif (decide (n11 < 0)) then (
 some (.ret, [(.v (.int .i64 (-1)))])) else (
 l214x0 T k n [(.fz 2 l3), (.v (.int .i64 n11)), (.v (.int .i64 (IntKind.wrap .i64 (n5 + 1))))]))) else (
 some ((.exit 0), [(.v (.int .i64 n4))]))) := by kernel_rfl
theorem a214q (T : Table) (k : Nat) (l1 : Rows) (n2 : Int) : evalF T k a214 [(.d (.s 2 l1)), (.d (.v (.int .i64 n2)))] = (
 bif (decide ((IntKind.wrap .i64 (n2 - (l1.length : Int))) < 0)) then (
 some ⟨(.d (.v (.int .i64 (-1)))), []⟩) else (
 aft (l214x0 T k k [(.fz 2 l1), (.v (.int .i64 (IntKind.wrap .i64 (n2 - (l1.length : Int))))), (.v (.int .i64 0))]) fun e12 ys13 =>
 bif e12.same .ret then (
 aV ys13 0 fun x14 =>
 aI .i64 x14 fun n15 =>
 some ⟨(.d (.v (.int .i64 n15))), []⟩) else (
 bif e12.same (.exit 0) then (
 aV ys13 0 fun x16 =>
 aI .i64 x16 fun n17 =>
 some ⟨(.d (.v (.int .i64 n17))), []⟩) else (
 none)))) := by kernel_rfl
/- loop.example/g00119/laws.szWant -/

def a180 : AFun := ⟨[.rd, .rd], false, [.t 4], (
  .seq (.reg false [⟨some 2, .box (.t 0), none⟩,
    ⟨some 4, .mv (.c (.v (.int .i64 0))), none⟩]) (
  .seq (.reg false [⟨some 5, .fad 1 (.t 2), none⟩,
    ⟨some 6, .load false [(.sl 3)] (.t 5), none⟩,
    ⟨some 7, .mv (.t 1), none⟩,
    ⟨some 8, .call (.f 213) [.rd, .rd] false [.c (.i .i64)] [(.t 6), (.t 7)], none⟩,
    ⟨some 1, .mv (.t 8), none⟩]) (
  .seq (.seq (.reg false [⟨some 9, .mv (.t 1), none⟩,
    ⟨some 10, .bin .lss (.t 9) (.c (.v (.int .i64 0))), none⟩]) (
  .cond (.t 10) (.seq (.reg false [⟨some 4, .mv (.c (.v (.int .i64 (-1)))), none⟩]) (
    .ret)) (.skip))) (
  .seq (.reg false [⟨some 11, .fad 2 (.t 2), none⟩,
    ⟨some 12, .load false [(.sl 1)] (.t 11), none⟩,
    ⟨some 13, .mv (.t 1), none⟩,
    ⟨some 14, .call (.f 63) [.rd, .rd] false [.c (.i .i64)] [(.t 12), (.t 13)], none⟩,
    ⟨some 1, .mv (.t 14), none⟩]) (
  .seq (.seq (.reg false [⟨some 15, .mv (.t 1), none⟩,
    ⟨some 16, .bin .lss (.t 15) (.c (.v (.int .i64 0))), none⟩]) (
  .cond (.t 16) (.seq (.reg false [⟨some 4, .mv (.c (.v (.int .i64 (-1)))), none⟩]) (
    .ret)) (.skip))) (
  .seq (.reg false [⟨some 17, .fad 3 (.t 2), none⟩,
    ⟨some 18, .load false [(.sl 2)] (.t 17), none⟩,
    ⟨some 19, .mv (.t 1), none⟩,
    ⟨some 20, .call (.f 214) [.rd, .rd] false [.c (.i .i64)] [(.t 18), (.t 19)], none⟩,
    ⟨some 1, .mv (.t 20), none⟩]) (
  .seq (.seq (.reg false [⟨some 21, .mv (.t 1), none⟩,
    ⟨some 22, .bin .lss (.t 21) (.c (.v (.int .i64 0))), none⟩]) (
  .cond (.t 22) (.seq (.reg false [⟨some 4, .mv (.c (.v (.int .i64 (-1)))), none⟩]) (
    .ret)) (.skip))) (
  .seq (.reg false [⟨some 23, .mv (.t 1), none⟩,
    ⟨some 4, .mv (.t 23), none⟩]) (
  .ret)))))))))⟩

theorem a180q (T : Table) (k : Nat) (n1 : Int) (l2 : Rows) (l3 : Rows) (l4 : Rows) (n5 : Int) : evalF T k a180 [(.g [(.v (.int .i64 n1)), (.s 3 l2), (.s 1 l3), (.s 2 l4)]), (.d (.v (.int .i64 n5)))] = (
 callT T 213 [(.d (.s 3 l2)), (.d (.v (.int .i64 n5)))] fun o6 =>
 oD o6.res fun d7 =>
 dI .i64 d7 fun n8 =>
 bif (decide (n8 < 0)) then (
 some ⟨(.d (.v (.int .i64 (-1)))), []⟩) else (
 callT T 63 [(.d (.s 1 l3)), (.d (.v (.int .i64 n8)))] fun o9 =>
 oD o9.res fun d10 =>
 dI .i64 d10 fun n11 =>
 bif (decide (n11 < 0)) then (
 some ⟨(.d (.v (.int .i64 (-1)))), []⟩) else (
 callT T 214 [(.d (.s 2 l4)), (.d (.v (.int .i64 n11)))] fun o12 =>
 oD o12.res fun d13 =>
 dI .i64 d13 fun n14 =>
 bif (decide (n14 < 0)) then (
 some ⟨(.d (.v (.int .i64 (-1)))), []⟩) else (
 some ⟨(.d (.v (.int .i64 n14))), []⟩)))) := by kernel_rfl
/- loop.example/g00119/laws.szOp -/

def a248 : AFun := ⟨[.rd, .rd], false, [.t 4], (
  .seq (.reg false [⟨some 2, .box (.t 0), none⟩,
    ⟨some 4, .mv (.c (.v (.int .i64 0))), none⟩]) (
  .seq (.reg false [⟨some 5, .fad 1 (.t 2), none⟩,
    ⟨some 6, .load false [(.sl 1)] (.t 5), none⟩,
    ⟨some 7, .mv (.t 1), none⟩,
    ⟨some 8, .call (.f 63) [.rd, .rd] false [.c (.i .i64)] [(.t 6), (.t 7)], none⟩,
    ⟨some 1, .mv (.t 8), none⟩]) (
  .seq (.seq (.reg false [⟨some 9, .mv (.t 1), none⟩,
    ⟨some 10, .bin .lss (.t 9) (.c (.v (.int .i64 0))), none⟩]) (
  .cond (.t 10) (.seq (.reg false [⟨some 4, .mv (.c (.v (.int .i64 (-1)))), none⟩]) (
    .ret)) (.skip))) (
  .seq (.reg false [⟨some 11, .fad 2 (.t 2), none⟩,
    ⟨some 12, .load true [(.i .i64), .s, (.i .i64), (.sl 1), (.sl 5)] (.t 11), none⟩,
    ⟨some 13, .mv (.t 1), none⟩,
    ⟨some 14, .call (.f 173) [.rd, .rd] false [.c (.i .i64)] [(.t 12), (.t 13)], none⟩,
    ⟨some 1, .mv (.t 14), none⟩]) (
  .seq (.seq (.reg false [⟨some 15, .mv (.t 1), none⟩,
    ⟨some 16, .bin .lss (.t 15) (.c (.v (.int .i64 0))), none⟩]) (
  .cond (.t 16) (.seq (.reg false [⟨some 4, .mv (.c (.v (.int .i64 (-1)))), none⟩]) (
    .ret)) (.skip))) (
  .seq (.reg false [⟨some 17, .mv (.t 1), none⟩,
    ⟨some 4, .mv (.t 17), none⟩]) (
  .ret)))))))⟩

theorem a248q (T : Table) (k : Nat) (n1 : Int) (l2 : Rows) (n3 : Int) (s4 : ByteArray) (n5 : Int) (l6 : Rows) (l7 : Rows) (n8 : Int) : evalF T k a248 [(.g [(.v (.int .i64 n1)), (.s 1 l2), (.v (.int .i64 n3)), (.v (.string s4)), (.v (.int .i64 n5)), (.s 1 l6), (.s 5 l7)]), (.d (.v (.int .i64 n8)))] = (
 callT T 63 [(.d (.s 1 l2)), (.d (.v (.int .i64 n8)))] fun o9 =>
 oD o9.res fun d10 =>
 dI .i64 d10 fun n11 =>
 bif (decide (n11 < 0)) then (
 some ⟨(.d (.v (.int .i64 (-1)))), []⟩) else (
 callT T 173 [(.g [(.v (.int .i64 n3)), (.v (.string s4)), (.v (.int .i64 n5)), (.s 1 l6), (.s 5 l7)]), (.d (.v (.int .i64 n11)))] fun o12 =>
 oD o12.res fun d13 =>
 dI .i64 d13 fun n14 =>
 bif (decide (n14 < 0)) then (
 some ⟨(.d (.v (.int .i64 (-1)))), []⟩) else (
 some ⟨(.d (.v (.int .i64 n14))), []⟩))) := by kernel_rfl
/- loop.example/g00119/laws.szOpS -/
def b235x0 : ACode := (
  .seq (.seq (.reg false [⟨some 12, .mv (.t 5), none⟩,
    ⟨some 13, .mv (.t 0), none⟩,
    ⟨some 14, .len false (.t 13), none⟩,
    ⟨some 15, .bin .lss (.t 12) (.t 14), none⟩]) (
  .cond (.t 15) (.skip) (.exit 0))) (
  .seq (.block 1 (.seq (.reg false [⟨some 18, .mv (.t 0), none⟩,
      ⟨some 19, .mv (.t 5), none⟩,
      ⟨some 20, .iad 7 (.t 18) (.t 19), none⟩,
      ⟨some 21, .load true [(.i .i64), (.sl 1), (.i .i64), .s, (.i .i64), (.sl 1), (.sl 5)] (.t 20), none⟩,
      ⟨some 22, .mv (.t 1), none⟩,
      ⟨some 23, .call (.f 248) [.rd, .rd] false [.c (.i .i64)] [(.t 21), (.t 22)], none⟩,
      ⟨some 1, .mv (.t 23), none⟩]) (
    .seq (.reg false [⟨some 24, .mv (.t 1), none⟩,
      ⟨some 25, .bin .lss (.t 24) (.c (.v (.int .i64 0))), none⟩]) (
    .cond (.t 25) (.seq (.reg false [⟨some 4, .mv (.c (.v (.int .i64 (-1)))), none⟩]) (
      .ret)) (.skip))))) (
  .reg false [⟨some 16, .mv (.t 5), none⟩,
    ⟨some 17, .bin .add (.t 16) (.c (.v (.int .i64 1))), none⟩,
    ⟨some 5, .mv (.t 17), none⟩])))
def e235x0 : Exits := [(.ret, [(4, .c (.i .i64))]), ((.exit 0), [(1, .c (.i .i64))])]
def l235x0 (T : Table) (k : Nat) := loopN (evalC ⟨T, []⟩ k b235x0 (Ex × List AV)) [0, 1, 5] e235x0
def a235 : AFun := ⟨[.rd, .rd], false, [.t 4], (
  .seq (.reg false [⟨some 4, .mv (.c (.v (.int .i64 0))), none⟩]) (
  .seq (.reg false [⟨some 6, .mv (.t 1), none⟩,
    ⟨some 7, .mv (.t 0), none⟩,
    ⟨some 8, .len false (.t 7), none⟩,
    ⟨some 9, .bin .sub (.t 6) (.t 8), none⟩,
    ⟨some 1, .mv (.t 9), none⟩]) (
  .seq (.seq (.reg false [⟨some 10, .mv (.t 1), none⟩,
    ⟨some 11, .bin .lss (.t 10) (.c (.v (.int .i64 0))), none⟩]) (
  .cond (.t 11) (.seq (.reg false [⟨some 4, .mv (.c (.v (.int .i64 (-1)))), none⟩]) (
    .ret)) (.skip))) (
  .seq (.seq (.reg false [⟨some 5, .mv (.c (.v (.int .i64 0))), none⟩]) (
  .block 0 (.loop [0, 1, 5] e235x0 b235x0))) (
  .seq (.reg false [⟨some 26, .mv (.t 1), none⟩,
    ⟨some 4, .mv (.t 26), none⟩]) (
  .ret))))))⟩
theorem l235x0s (T : Table) (k n : Nat) (l3 : Rows) (n4 : Int) (n5 : Int) : l235x0 T k (n + 1) [(.fz 7 l3), (.v (.int .i64 n4)), (.v (.int .i64 n5))] = (
 bif (decide (n5 < (l3.length : Int))) then (
 tst (decide (0 ≤ n5)) (
 look l3 (Int.toNat n5) fun r6 =>
 cI .i64 r6 0 fun n7 =>
 cL 1 r6 1 fun l8 =>
 cI .i64 r6 2 fun n9 =>
 cS r6 3 fun s10 =>
 cI .i64 r6 4 fun n11 =>
 cL 1 r6 5 fun l12 =>
 cL 5 r6 6 fun l13 =>
 callT T 248 [(.g [(.v (.int .i64 n7)), (.s 1 l8), (.v (.int .i64 n9)), (.v (.string s10)), (.v (.int .i64 n11)), (.s 1 l12), (.s 5 l13)]), (.d (.v (.int .i64 n4)))] fun o14 =>
 oD o14.res fun d15 =>
 dI .i64 d15 fun n16 =>
 bif (decide (n16 < 0)) then (
 some (.ret, [(.v (.int .i64 (-1)))])) else (
 l235x0 T k n [(.fz 7 l3), (.v (.int .i64 n16)), (.v (.int .i64 (IntKind.wrap .i64 (n5 + 1))))]))) else (
 some ((.exit 0), [(.v (.int .i64 n4))]))) := by kernel_rfl
theorem a235q (T : Table) (k : Nat) (l1 : Rows) (n2 : Int) : evalF T k a235 [(.d (.s 7 l1)), (.d (.v (.int .i64 n2)))] = (
 bif (decide ((IntKind.wrap .i64 (n2 - (l1.length : Int))) < 0)) then (
 some ⟨(.d (.v (.int .i64 (-1)))), []⟩) else (
 aft (l235x0 T k k [(.fz 7 l1), (.v (.int .i64 (IntKind.wrap .i64 (n2 - (l1.length : Int))))), (.v (.int .i64 0))]) fun e17 ys18 =>
 bif e17.same .ret then (
 aV ys18 0 fun x19 =>
 aI .i64 x19 fun n20 =>
 some ⟨(.d (.v (.int .i64 n20))), []⟩) else (
 bif e17.same (.exit 0) then (
 aV ys18 0 fun x21 =>
 aI .i64 x21 fun n22 =>
 some ⟨(.d (.v (.int .i64 n22))), []⟩) else (
 none)))) := by kernel_rfl
/- loop.example/g00119/laws.szOver -/

def a215 : AFun := ⟨[.rd, .rd], false, [.t 4], (
  .seq (.reg false [⟨some 2, .box (.t 0), none⟩,
    ⟨some 4, .mv (.c (.v (.int .i64 0))), none⟩]) (
  .seq (.reg false [⟨some 5, .mv (.t 1), none⟩,
    ⟨some 6, .fad 0 (.t 2), none⟩,
    ⟨some 7, .load false [.s] (.t 6), none⟩,
    ⟨some 8, .len true (.t 7), none⟩,
    ⟨some 9, .bin .sub (.t 5) (.t 8), none⟩,
    ⟨some 1, .mv (.t 9), none⟩]) (
  .seq (.seq (.reg false [⟨some 10, .mv (.t 1), none⟩,
    ⟨some 11, .bin .lss (.t 10) (.c (.v (.int .i64 0))), none⟩]) (
  .cond (.t 11) (.seq (.reg false [⟨some 4, .mv (.c (.v (.int .i64 (-1)))), none⟩]) (
    .ret)) (.skip))) (
  .seq (.reg false [⟨some 12, .fad 1 (.t 2), none⟩,
    ⟨some 13, .load false [(.sl 7)] (.t 12), none⟩,
    ⟨some 14, .mv (.t 1), none⟩,
    ⟨some 15, .call (.f 235) [.rd, .rd] false [.c (.i .i64)] [(.t 13), (.t 14)], none⟩,
    ⟨some 1, .mv (.t 15), none⟩]) (
  .seq (.seq (.reg false [⟨some 16, .mv (.t 1), none⟩,
    ⟨some 17, .bin .lss (.t 16) (.c (.v (.int .i64 0))), none⟩]) (
  .cond (.t 17) (.seq (.reg false [⟨some 4, .mv (.c (.v (.int .i64 (-1)))), none⟩]) (
    .ret)) (.skip))) (
  .seq (.reg false [⟨some 18, .mv (.t 1), none⟩,
    ⟨some 4, .mv (.t 18), none⟩]) (
  .ret)))))))⟩

theorem a215q (T : Table) (k : Nat) (s1 : ByteArray) (l2 : Rows) (n3 : Int) : evalF T k a215 [(.g [(.v (.string s1)), (.s 7 l2)]), (.d (.v (.int .i64 n3)))] = (
 bif (decide ((IntKind.wrap .i64 (n3 - (s1.size : Int))) < 0)) then (
 some ⟨(.d (.v (.int .i64 (-1)))), []⟩) else (
 callT T 235 [(.d (.s 7 l2)), (.d (.v (.int .i64 (IntKind.wrap .i64 (n3 - (s1.size : Int))))))] fun o4 =>
 oD o4.res fun d5 =>
 dI .i64 d5 fun n6 =>
 bif (decide (n6 < 0)) then (
 some ⟨(.d (.v (.int .i64 (-1)))), []⟩) else (
 some ⟨(.d (.v (.int .i64 n6))), []⟩))) := by kernel_rfl
/- loop.example/g00119/laws.szOverS -/
def b181x0 : ACode := (
  .seq (.seq (.reg false [⟨some 12, .mv (.t 5), none⟩,
    ⟨some 13, .mv (.t 0), none⟩,
    ⟨some 14, .len false (.t 13), none⟩,
    ⟨some 15, .bin .lss (.t 12) (.t 14), none⟩]) (
  .cond (.t 15) (.skip) (.exit 0))) (
  .seq (.block 1 (.seq (.reg false [⟨some 18, .mv (.t 0), none⟩,
      ⟨some 19, .mv (.t 5), none⟩,
      ⟨some 20, .iad 2 (.t 18) (.t 19), none⟩,
      ⟨some 21, .load true [.s, (.sl 7)] (.t 20), none⟩,
      ⟨some 22, .mv (.t 1), none⟩,
      ⟨some 23, .call (.f 215) [.rd, .rd] false [.c (.i .i64)] [(.t 21), (.t 22)], none⟩,
      ⟨some 1, .mv (.t 23), none⟩]) (
    .seq (.reg false [⟨some 24, .mv (.t 1), none⟩,
      ⟨some 25, .bin .lss (.t 24) (.c (.v (.int .i64 0))), none⟩]) (
    .cond (.t 25) (.seq (.reg false [⟨some 4, .mv (.c (.v (.int .i64 (-1)))), none⟩]) (
      .ret)) (.skip))))) (
  .reg false [⟨some 16, .mv (.t 5), none⟩,
    ⟨some 17, .bin .add (.t 16) (.c (.v (.int .i64 1))), none⟩,
    ⟨some 5, .mv (.t 17), none⟩])))
def e181x0 : Exits := [(.ret, [(4, .c (.i .i64))]), ((.exit 0), [(1, .c (.i .i64))])]
def l181x0 (T : Table) (k : Nat) := loopN (evalC ⟨T, []⟩ k b181x0 (Ex × List AV)) [0, 1, 5] e181x0
def a181 : AFun := ⟨[.rd, .rd], false, [.t 4], (
  .seq (.reg false [⟨some 4, .mv (.c (.v (.int .i64 0))), none⟩]) (
  .seq (.reg false [⟨some 6, .mv (.t 1), none⟩,
    ⟨some 7, .mv (.t 0), none⟩,
    ⟨some 8, .len false (.t 7), none⟩,
    ⟨some 9, .bin .sub (.t 6) (.t 8), none⟩,
    ⟨some 1, .mv (.t 9), none⟩]) (
  .seq (.seq (.reg false [⟨some 10, .mv (.t 1), none⟩,
    ⟨some 11, .bin .lss (.t 10) (.c (.v (.int .i64 0))), none⟩]) (
  .cond (.t 11) (.seq (.reg false [⟨some 4, .mv (.c (.v (.int .i64 (-1)))), none⟩]) (
    .ret)) (.skip))) (
  .seq (.seq (.reg false [⟨some 5, .mv (.c (.v (.int .i64 0))), none⟩]) (
  .block 0 (.loop [0, 1, 5] e181x0 b181x0))) (
  .seq (.reg false [⟨some 26, .mv (.t 1), none⟩,
    ⟨some 4, .mv (.t 26), none⟩]) (
  .ret))))))⟩
theorem l181x0s (T : Table) (k n : Nat) (l3 : Rows) (n4 : Int) (n5 : Int) : l181x0 T k (n + 1) [(.fz 2 l3), (.v (.int .i64 n4)), (.v (.int .i64 n5))] = (
 bif (decide (n5 < (l3.length : Int))) then (
 tst (decide (0 ≤ n5)) (
 look l3 (Int.toNat n5) fun r6 =>
 cS r6 0 fun s7 =>
 cL 7 r6 1 fun l8 =>
 callT T 215 [(.g [(.v (.string s7)), (.s 7 l8)]), (.d (.v (.int .i64 n4)))] fun o9 =>
 oD o9.res fun d10 =>
 dI .i64 d10 fun n11 =>
 bif (decide (n11 < 0)) then (
 some (.ret, [(.v (.int .i64 (-1)))])) else (
 l181x0 T k n [(.fz 2 l3), (.v (.int .i64 n11)), (.v (.int .i64 (IntKind.wrap .i64 (n5 + 1))))]))) else (
 some ((.exit 0), [(.v (.int .i64 n4))]))) := by kernel_rfl
theorem a181q (T : Table) (k : Nat) (l1 : Rows) (n2 : Int) : evalF T k a181 [(.d (.s 2 l1)), (.d (.v (.int .i64 n2)))] = (
 bif (decide ((IntKind.wrap .i64 (n2 - (l1.length : Int))) < 0)) then (
 some ⟨(.d (.v (.int .i64 (-1)))), []⟩) else (
 aft (l181x0 T k k [(.fz 2 l1), (.v (.int .i64 (IntKind.wrap .i64 (n2 - (l1.length : Int))))), (.v (.int .i64 0))]) fun e12 ys13 =>
 bif e12.same .ret then (
 aV ys13 0 fun x14 =>
 aI .i64 x14 fun n15 =>
 some ⟨(.d (.v (.int .i64 n15))), []⟩) else (
 bif e12.same (.exit 0) then (
 aV ys13 0 fun x16 =>
 aI .i64 x16 fun n17 =>
 some ⟨(.d (.v (.int .i64 n17))), []⟩) else (
 none)))) := by kernel_rfl
/- loop.example/g00119/laws.szJob -/

def a136 : AFun := ⟨[.rd, .rd], false, [.t 4], (
  .seq (.reg false [⟨some 2, .box (.t 0), none⟩,
    ⟨some 4, .mv (.c (.v (.int .i64 0))), none⟩]) (
  .seq (.reg false [⟨some 5, .mv (.t 1), none⟩,
    ⟨some 6, .fad 1 (.t 2), none⟩,
    ⟨some 7, .load false [.s] (.t 6), none⟩,
    ⟨some 8, .len true (.t 7), none⟩,
    ⟨some 9, .bin .sub (.t 5) (.t 8), none⟩,
    ⟨some 1, .mv (.t 9), none⟩]) (
  .seq (.seq (.reg false [⟨some 10, .mv (.t 1), none⟩,
    ⟨some 11, .bin .lss (.t 10) (.c (.v (.int .i64 0))), none⟩]) (
  .cond (.t 11) (.seq (.reg false [⟨some 4, .mv (.c (.v (.int .i64 (-1)))), none⟩]) (
    .ret)) (.skip))) (
  .seq (.reg false [⟨some 12, .fad 2 (.t 2), none⟩,
    ⟨some 13, .load true [(.i .i64), (.sl 3), (.sl 1), (.sl 2)] (.t 12), none⟩,
    ⟨some 14, .mv (.t 1), none⟩,
    ⟨some 15, .call (.f 180) [.rd, .rd] false [.c (.i .i64)] [(.t 13), (.t 14)], none⟩,
    ⟨some 1, .mv (.t 15), none⟩]) (
  .seq (.seq (.reg false [⟨some 16, .mv (.t 1), none⟩,
    ⟨some 17, .bin .lss (.t 16) (.c (.v (.int .i64 0))), none⟩]) (
  .cond (.t 17) (.seq (.reg false [⟨some 4, .mv (.c (.v (.int .i64 (-1)))), none⟩]) (
    .ret)) (.skip))) (
  .seq (.reg false [⟨some 18, .fad 6 (.t 2), none⟩,
    ⟨some 19, .load true [(.i .i64), .s, (.i .i64), (.sl 1), (.sl 5)] (.t 18), none⟩,
    ⟨some 20, .mv (.t 1), none⟩,
    ⟨some 21, .call (.f 173) [.rd, .rd] false [.c (.i .i64)] [(.t 19), (.t 20)], none⟩,
    ⟨some 1, .mv (.t 21), none⟩]) (
  .seq (.seq (.reg false [⟨some 22, .mv (.t 1), none⟩,
    ⟨some 23, .bin .lss (.t 22) (.c (.v (.int .i64 0))), none⟩]) (
  .cond (.t 23) (.seq (.reg false [⟨some 4, .mv (.c (.v (.int .i64 (-1)))), none⟩]) (
    .ret)) (.skip))) (
  .seq (.reg false [⟨some 24, .fad 11 (.t 2), none⟩,
    ⟨some 25, .load false [(.sl 2)] (.t 24), none⟩,
    ⟨some 26, .mv (.t 1), none⟩,
    ⟨some 27, .call (.f 181) [.rd, .rd] false [.c (.i .i64)] [(.t 25), (.t 26)], none⟩,
    ⟨some 1, .mv (.t 27), none⟩]) (
  .seq (.seq (.reg false [⟨some 28, .mv (.t 1), none⟩,
    ⟨some 29, .bin .lss (.t 28) (.c (.v (.int .i64 0))), none⟩]) (
  .cond (.t 29) (.seq (.reg false [⟨some 4, .mv (.c (.v (.int .i64 (-1)))), none⟩]) (
    .ret)) (.skip))) (
  .seq (.reg false [⟨some 30, .mv (.t 1), none⟩,
    ⟨some 4, .mv (.t 30), none⟩]) (
  .ret)))))))))))⟩

theorem a136q (T : Table) (k : Nat) (n1 : Int) (s2 : ByteArray) (n3 : Int) (l4 : Rows) (l5 : Rows) (l6 : Rows) (n7 : Int) (s8 : ByteArray) (n9 : Int) (l10 : Rows) (l11 : Rows) (l12 : Rows) (b13 : Bool) (n14 : Int) : evalF T k a136 [(.g [(.v (.int .i64 n1)), (.v (.string s2)), (.v (.int .i64 n3)), (.s 3 l4), (.s 1 l5), (.s 2 l6), (.v (.int .i64 n7)), (.v (.string s8)), (.v (.int .i64 n9)), (.s 1 l10), (.s 5 l11), (.s 2 l12), (.v (.bool b13))]), (.d (.v (.int .i64 n14)))] = (
 bif (decide ((IntKind.wrap .i64 (n14 - (s2.size : Int))) < 0)) then (
 some ⟨(.d (.v (.int .i64 (-1)))), []⟩) else (
 callT T 180 [(.g [(.v (.int .i64 n3)), (.s 3 l4), (.s 1 l5), (.s 2 l6)]), (.d (.v (.int .i64 (IntKind.wrap .i64 (n14 - (s2.size : Int))))))] fun o15 =>
 oD o15.res fun d16 =>
 dI .i64 d16 fun n17 =>
 bif (decide (n17 < 0)) then (
 some ⟨(.d (.v (.int .i64 (-1)))), []⟩) else (
 callT T 173 [(.g [(.v (.int .i64 n7)), (.v (.string s8)), (.v (.int .i64 n9)), (.s 1 l10), (.s 5 l11)]), (.d (.v (.int .i64 n17)))] fun o18 =>
 oD o18.res fun d19 =>
 dI .i64 d19 fun n20 =>
 bif (decide (n20 < 0)) then (
 some ⟨(.d (.v (.int .i64 (-1)))), []⟩) else (
 callT T 181 [(.d (.s 2 l12)), (.d (.v (.int .i64 n20)))] fun o21 =>
 oD o21.res fun d22 =>
 dI .i64 d22 fun n23 =>
 bif (decide (n23 < 0)) then (
 some ⟨(.d (.v (.int .i64 (-1)))), []⟩) else (
 some ⟨(.d (.v (.int .i64 n23))), []⟩))))) := by kernel_rfl
/- loop.example/g00119/laws.szJobS -/
def b60x0 : ACode := (
  .seq (.seq (.reg false [⟨some 12, .mv (.t 5), none⟩,
    ⟨some 13, .mv (.t 0), none⟩,
    ⟨some 14, .len false (.t 13), none⟩,
    ⟨some 15, .bin .lss (.t 12) (.t 14), none⟩]) (
  .cond (.t 15) (.skip) (.exit 0))) (
  .seq (.block 1 (.seq (.reg false [⟨some 18, .mv (.t 0), none⟩,
      ⟨some 19, .mv (.t 5), none⟩,
      ⟨some 20, .iad 13 (.t 18) (.t 19), none⟩,
      ⟨some 21, .load true [(.i .i64), .s, (.i .i64), (.sl 3), (.sl 1), (.sl 2), (.i .i64), .s, (.i .i64), (.sl 1), (.sl 5), (.sl 2), .b] (.t 20), none⟩,
      ⟨some 22, .mv (.t 1), none⟩,
      ⟨some 23, .call (.f 136) [.rd, .rd] false [.c (.i .i64)] [(.t 21), (.t 22)], none⟩,
      ⟨some 1, .mv (.t 23), none⟩]) (
    .seq (.reg false [⟨some 24, .mv (.t 1), none⟩,
      ⟨some 25, .bin .lss (.t 24) (.c (.v (.int .i64 0))), none⟩]) (
    .cond (.t 25) (.seq (.reg false [⟨some 4, .mv (.c (.v (.int .i64 (-1)))), none⟩]) (
      .ret)) (.skip))))) (
  .reg false [⟨some 16, .mv (.t 5), none⟩,
    ⟨some 17, .bin .add (.t 16) (.c (.v (.int .i64 1))), none⟩,
    ⟨some 5, .mv (.t 17), none⟩])))
def e60x0 : Exits := [(.ret, [(4, .c (.i .i64))]), ((.exit 0), [(1, .c (.i .i64))])]
def l60x0 (T : Table) (k : Nat) := loopN (evalC ⟨T, []⟩ k b60x0 (Ex × List AV)) [0, 1, 5] e60x0
def a60 : AFun := ⟨[.rd, .rd], false, [.t 4], (
  .seq (.reg false [⟨some 4, .mv (.c (.v (.int .i64 0))), none⟩]) (
  .seq (.reg false [⟨some 6, .mv (.t 1), none⟩,
    ⟨some 7, .mv (.t 0), none⟩,
    ⟨some 8, .len false (.t 7), none⟩,
    ⟨some 9, .bin .sub (.t 6) (.t 8), none⟩,
    ⟨some 1, .mv (.t 9), none⟩]) (
  .seq (.seq (.reg false [⟨some 10, .mv (.t 1), none⟩,
    ⟨some 11, .bin .lss (.t 10) (.c (.v (.int .i64 0))), none⟩]) (
  .cond (.t 11) (.seq (.reg false [⟨some 4, .mv (.c (.v (.int .i64 (-1)))), none⟩]) (
    .ret)) (.skip))) (
  .seq (.seq (.reg false [⟨some 5, .mv (.c (.v (.int .i64 0))), none⟩]) (
  .block 0 (.loop [0, 1, 5] e60x0 b60x0))) (
  .seq (.reg false [⟨some 26, .mv (.t 1), none⟩,
    ⟨some 4, .mv (.t 26), none⟩]) (
  .ret))))))⟩
theorem l60x0s (T : Table) (k n : Nat) (l3 : Rows) (n4 : Int) (n5 : Int) : l60x0 T k (n + 1) [(.fz 13 l3), (.v (.int .i64 n4)), (.v (.int .i64 n5))] = (
 bif (decide (n5 < (l3.length : Int))) then (
 tst (decide (0 ≤ n5)) (
 look l3 (Int.toNat n5) fun r6 =>
 cI .i64 r6 0 fun n7 =>
 cS r6 1 fun s8 =>
 cI .i64 r6 2 fun n9 =>
 cL 3 r6 3 fun l10 =>
 cL 1 r6 4 fun l11 =>
 cL 2 r6 5 fun l12 =>
 cI .i64 r6 6 fun n13 =>
 cS r6 7 fun s14 =>
 cI .i64 r6 8 fun n15 =>
 cL 1 r6 9 fun l16 =>
 cL 5 r6 10 fun l17 =>
 cL 2 r6 11 fun l18 =>
 cB r6 12 fun b19 =>
 callT T 136 [(.g [(.v (.int .i64 n7)), (.v (.string s8)), (.v (.int .i64 n9)), (.s 3 l10), (.s 1 l11), (.s 2 l12), (.v (.int .i64 n13)), (.v (.string s14)), (.v (.int .i64 n15)), (.s 1 l16), (.s 5 l17), (.s 2 l18), (.v (.bool b19))]), (.d (.v (.int .i64 n4)))] fun o20 =>
 oD o20.res fun d21 =>
 dI .i64 d21 fun n22 =>
 bif (decide (n22 < 0)) then (
 some (.ret, [(.v (.int .i64 (-1)))])) else (
 l60x0 T k n [(.fz 13 l3), (.v (.int .i64 n22)), (.v (.int .i64 (IntKind.wrap .i64 (n5 + 1))))]))) else (
 some ((.exit 0), [(.v (.int .i64 n4))]))) := by kernel_rfl
theorem a60q (T : Table) (k : Nat) (l1 : Rows) (n2 : Int) : evalF T k a60 [(.d (.s 13 l1)), (.d (.v (.int .i64 n2)))] = (
 bif (decide ((IntKind.wrap .i64 (n2 - (l1.length : Int))) < 0)) then (
 some ⟨(.d (.v (.int .i64 (-1)))), []⟩) else (
 aft (l60x0 T k k [(.fz 13 l1), (.v (.int .i64 (IntKind.wrap .i64 (n2 - (l1.length : Int))))), (.v (.int .i64 0))]) fun e23 ys24 =>
 bif e23.same .ret then (
 aV ys24 0 fun x25 =>
 aI .i64 x25 fun n26 =>
 some ⟨(.d (.v (.int .i64 n26))), []⟩) else (
 bif e23.same (.exit 0) then (
 aV ys24 0 fun x27 =>
 aI .i64 x27 fun n28 =>
 some ⟨(.d (.v (.int .i64 n28))), []⟩) else (
 none)))) := by kernel_rfl
/- loop.example/g00119/laws.szLabel -/

def a236 : AFun := ⟨[.rd, .rd], false, [.t 4], (
  .seq (.reg false [⟨some 2, .box (.t 0), none⟩,
    ⟨some 4, .mv (.c (.v (.int .i64 0))), none⟩]) (
  .seq (.reg false [⟨some 5, .mv (.t 1), none⟩,
    ⟨some 6, .fad 0 (.t 2), none⟩,
    ⟨some 7, .load false [.s] (.t 6), none⟩,
    ⟨some 8, .len true (.t 7), none⟩,
    ⟨some 9, .bin .sub (.t 5) (.t 8), none⟩,
    ⟨some 1, .mv (.t 9), none⟩]) (
  .seq (.seq (.reg false [⟨some 10, .mv (.t 1), none⟩,
    ⟨some 11, .bin .lss (.t 10) (.c (.v (.int .i64 0))), none⟩]) (
  .cond (.t 11) (.seq (.reg false [⟨some 4, .mv (.c (.v (.int .i64 (-1)))), none⟩]) (
    .ret)) (.skip))) (
  .seq (.reg false [⟨some 12, .mv (.t 1), none⟩,
    ⟨some 13, .fad 1 (.t 2), none⟩,
    ⟨some 14, .load false [.s] (.t 13), none⟩,
    ⟨some 15, .len true (.t 14), none⟩,
    ⟨some 16, .bin .sub (.t 12) (.t 15), none⟩,
    ⟨some 1, .mv (.t 16), none⟩]) (
  .seq (.seq (.reg false [⟨some 17, .mv (.t 1), none⟩,
    ⟨some 18, .bin .lss (.t 17) (.c (.v (.int .i64 0))), none⟩]) (
  .cond (.t 18) (.seq (.reg false [⟨some 4, .mv (.c (.v (.int .i64 (-1)))), none⟩]) (
    .ret)) (.skip))) (
  .seq (.reg false [⟨some 19, .mv (.t 1), none⟩,
    ⟨some 4, .mv (.t 19), none⟩]) (
  .ret)))))))⟩

theorem a236q (T : Table) (k : Nat) (s1 : ByteArray) (s2 : ByteArray) (n3 : Int) : evalF T k a236 [(.g [(.v (.string s1)), (.v (.string s2))]), (.d (.v (.int .i64 n3)))] = (
 bif (decide ((IntKind.wrap .i64 (n3 - (s1.size : Int))) < 0)) then (
 some ⟨(.d (.v (.int .i64 (-1)))), []⟩) else (
 bif (decide ((IntKind.wrap .i64 ((IntKind.wrap .i64 (n3 - (s1.size : Int))) - (s2.size : Int))) < 0)) then (
 some ⟨(.d (.v (.int .i64 (-1)))), []⟩) else (
 some ⟨(.d (.v (.int .i64 (IntKind.wrap .i64 ((IntKind.wrap .i64 (n3 - (s1.size : Int))) - (s2.size : Int)))))), []⟩))) := by kernel_rfl
/- loop.example/g00119/laws.szLabelS -/
def b216x0 : ACode := (
  .seq (.seq (.reg false [⟨some 12, .mv (.t 5), none⟩,
    ⟨some 13, .mv (.t 0), none⟩,
    ⟨some 14, .len false (.t 13), none⟩,
    ⟨some 15, .bin .lss (.t 12) (.t 14), none⟩]) (
  .cond (.t 15) (.skip) (.exit 0))) (
  .seq (.block 1 (.seq (.reg false [⟨some 18, .mv (.t 0), none⟩,
      ⟨some 19, .mv (.t 5), none⟩,
      ⟨some 20, .iad 2 (.t 18) (.t 19), none⟩,
      ⟨some 21, .load true [.s, .s] (.t 20), none⟩,
      ⟨some 22, .mv (.t 1), none⟩,
      ⟨some 23, .call (.f 236) [.rd, .rd] false [.c (.i .i64)] [(.t 21), (.t 22)], none⟩,
      ⟨some 1, .mv (.t 23), none⟩]) (
    .seq (.reg false [⟨some 24, .mv (.t 1), none⟩,
      ⟨some 25, .bin .lss (.t 24) (.c (.v (.int .i64 0))), none⟩]) (
    .cond (.t 25) (.seq (.reg false [⟨some 4, .mv (.c (.v (.int .i64 (-1)))), none⟩]) (
      .ret)) (.skip))))) (
  .reg false [⟨some 16, .mv (.t 5), none⟩,
    ⟨some 17, .bin .add (.t 16) (.c (.v (.int .i64 1))), none⟩,
    ⟨some 5, .mv (.t 17), none⟩])))
def e216x0 : Exits := [(.ret, [(4, .c (.i .i64))]), ((.exit 0), [(1, .c (.i .i64))])]
def l216x0 (T : Table) (k : Nat) := loopN (evalC ⟨T, []⟩ k b216x0 (Ex × List AV)) [0, 1, 5] e216x0
def a216 : AFun := ⟨[.rd, .rd], false, [.t 4], (
  .seq (.reg false [⟨some 4, .mv (.c (.v (.int .i64 0))), none⟩]) (
  .seq (.reg false [⟨some 6, .mv (.t 1), none⟩,
    ⟨some 7, .mv (.t 0), none⟩,
    ⟨some 8, .len false (.t 7), none⟩,
    ⟨some 9, .bin .sub (.t 6) (.t 8), none⟩,
    ⟨some 1, .mv (.t 9), none⟩]) (
  .seq (.seq (.reg false [⟨some 10, .mv (.t 1), none⟩,
    ⟨some 11, .bin .lss (.t 10) (.c (.v (.int .i64 0))), none⟩]) (
  .cond (.t 11) (.seq (.reg false [⟨some 4, .mv (.c (.v (.int .i64 (-1)))), none⟩]) (
    .ret)) (.skip))) (
  .seq (.seq (.reg false [⟨some 5, .mv (.c (.v (.int .i64 0))), none⟩]) (
  .block 0 (.loop [0, 1, 5] e216x0 b216x0))) (
  .seq (.reg false [⟨some 26, .mv (.t 1), none⟩,
    ⟨some 4, .mv (.t 26), none⟩]) (
  .ret))))))⟩
theorem l216x0s (T : Table) (k n : Nat) (l3 : Rows) (n4 : Int) (n5 : Int) : l216x0 T k (n + 1) [(.fz 2 l3), (.v (.int .i64 n4)), (.v (.int .i64 n5))] = (
 bif (decide (n5 < (l3.length : Int))) then (
 tst (decide (0 ≤ n5)) (
 look l3 (Int.toNat n5) fun r6 =>
 cS r6 0 fun s7 =>
 cS r6 1 fun s8 =>
 callT T 236 [(.g [(.v (.string s7)), (.v (.string s8))]), (.d (.v (.int .i64 n4)))] fun o9 =>
 oD o9.res fun d10 =>
 dI .i64 d10 fun n11 =>
 bif (decide (n11 < 0)) then (
 some (.ret, [(.v (.int .i64 (-1)))])) else (
 l216x0 T k n [(.fz 2 l3), (.v (.int .i64 n11)), (.v (.int .i64 (IntKind.wrap .i64 (n5 + 1))))]))) else (
 some ((.exit 0), [(.v (.int .i64 n4))]))) := by kernel_rfl
theorem a216q (T : Table) (k : Nat) (l1 : Rows) (n2 : Int) : evalF T k a216 [(.d (.s 2 l1)), (.d (.v (.int .i64 n2)))] = (
 bif (decide ((IntKind.wrap .i64 (n2 - (l1.length : Int))) < 0)) then (
 some ⟨(.d (.v (.int .i64 (-1)))), []⟩) else (
 aft (l216x0 T k k [(.fz 2 l1), (.v (.int .i64 (IntKind.wrap .i64 (n2 - (l1.length : Int))))), (.v (.int .i64 0))]) fun e12 ys13 =>
 bif e12.same .ret then (
 aV ys13 0 fun x14 =>
 aI .i64 x14 fun n15 =>
 some ⟨(.d (.v (.int .i64 n15))), []⟩) else (
 bif e12.same (.exit 0) then (
 aV ys13 0 fun x16 =>
 aI .i64 x16 fun n17 =>
 some ⟨(.d (.v (.int .i64 n17))), []⟩) else (
 none)))) := by kernel_rfl
/- loop.example/g00119/laws.szIsland -/

def a182 : AFun := ⟨[.rd, .rd], false, [.t 4], (
  .seq (.reg false [⟨some 2, .box (.t 0), none⟩,
    ⟨some 4, .mv (.c (.v (.int .i64 0))), none⟩]) (
  .seq (.reg false [⟨some 5, .mv (.t 1), none⟩,
    ⟨some 6, .fad 0 (.t 2), none⟩,
    ⟨some 7, .load false [.s] (.t 6), none⟩,
    ⟨some 8, .len true (.t 7), none⟩,
    ⟨some 9, .bin .sub (.t 5) (.t 8), none⟩,
    ⟨some 1, .mv (.t 9), none⟩]) (
  .seq (.seq (.reg false [⟨some 10, .mv (.t 1), none⟩,
    ⟨some 11, .bin .lss (.t 10) (.c (.v (.int .i64 0))), none⟩]) (
  .cond (.t 11) (.seq (.reg false [⟨some 4, .mv (.c (.v (.int .i64 (-1)))), none⟩]) (
    .ret)) (.skip))) (
  .seq (.reg false [⟨some 12, .fad 1 (.t 2), none⟩,
    ⟨some 13, .load false [(.sl 2)] (.t 12), none⟩,
    ⟨some 14, .mv (.t 1), none⟩,
    ⟨some 15, .call (.f 216) [.rd, .rd] false [.c (.i .i64)] [(.t 13), (.t 14)], none⟩,
    ⟨some 1, .mv (.t 15), none⟩]) (
  .seq (.seq (.reg false [⟨some 16, .mv (.t 1), none⟩,
    ⟨some 17, .bin .lss (.t 16) (.c (.v (.int .i64 0))), none⟩]) (
  .cond (.t 17) (.seq (.reg false [⟨some 4, .mv (.c (.v (.int .i64 (-1)))), none⟩]) (
    .ret)) (.skip))) (
  .seq (.reg false [⟨some 18, .fad 2 (.t 2), none⟩,
    ⟨some 19, .load false [(.sl 1)] (.t 18), none⟩,
    ⟨some 20, .mv (.t 1), none⟩,
    ⟨some 21, .call (.f 63) [.rd, .rd] false [.c (.i .i64)] [(.t 19), (.t 20)], none⟩,
    ⟨some 1, .mv (.t 21), none⟩]) (
  .seq (.seq (.reg false [⟨some 22, .mv (.t 1), none⟩,
    ⟨some 23, .bin .lss (.t 22) (.c (.v (.int .i64 0))), none⟩]) (
  .cond (.t 23) (.seq (.reg false [⟨some 4, .mv (.c (.v (.int .i64 (-1)))), none⟩]) (
    .ret)) (.skip))) (
  .seq (.reg false [⟨some 24, .mv (.t 1), none⟩,
    ⟨some 4, .mv (.t 24), none⟩]) (
  .ret)))))))))⟩

theorem a182q (T : Table) (k : Nat) (s1 : ByteArray) (l2 : Rows) (l3 : Rows) (n4 : Int) (n5 : Int) : evalF T k a182 [(.g [(.v (.string s1)), (.s 2 l2), (.s 1 l3), (.v (.int .i64 n4))]), (.d (.v (.int .i64 n5)))] = (
 bif (decide ((IntKind.wrap .i64 (n5 - (s1.size : Int))) < 0)) then (
 some ⟨(.d (.v (.int .i64 (-1)))), []⟩) else (
 callT T 216 [(.d (.s 2 l2)), (.d (.v (.int .i64 (IntKind.wrap .i64 (n5 - (s1.size : Int))))))] fun o6 =>
 oD o6.res fun d7 =>
 dI .i64 d7 fun n8 =>
 bif (decide (n8 < 0)) then (
 some ⟨(.d (.v (.int .i64 (-1)))), []⟩) else (
 callT T 63 [(.d (.s 1 l3)), (.d (.v (.int .i64 n8)))] fun o9 =>
 oD o9.res fun d10 =>
 dI .i64 d10 fun n11 =>
 bif (decide (n11 < 0)) then (
 some ⟨(.d (.v (.int .i64 (-1)))), []⟩) else (
 some ⟨(.d (.v (.int .i64 n11))), []⟩)))) := by kernel_rfl
/- loop.example/g00119/laws.szPost -/

def a137 : AFun := ⟨[.rd, .rd], false, [.t 4], (
  .seq (.reg false [⟨some 2, .box (.t 0), none⟩,
    ⟨some 4, .mv (.c (.v (.int .i64 0))), none⟩]) (
  .seq (.reg false [⟨some 5, .fad 0 (.t 2), none⟩,
    ⟨some 6, .load true [.s, (.sl 2), (.sl 1), (.i .i64)] (.t 5), none⟩,
    ⟨some 7, .mv (.t 1), none⟩,
    ⟨some 8, .call (.f 182) [.rd, .rd] false [.c (.i .i64)] [(.t 6), (.t 7)], none⟩,
    ⟨some 1, .mv (.t 8), none⟩]) (
  .seq (.seq (.reg false [⟨some 9, .mv (.t 1), none⟩,
    ⟨some 10, .bin .lss (.t 9) (.c (.v (.int .i64 0))), none⟩]) (
  .cond (.t 10) (.seq (.reg false [⟨some 4, .mv (.c (.v (.int .i64 (-1)))), none⟩]) (
    .ret)) (.skip))) (
  .seq (.reg false [⟨some 11, .mv (.t 1), none⟩,
    ⟨some 4, .mv (.t 11), none⟩]) (
  .ret)))))⟩

theorem a137q (T : Table) (k : Nat) (s1 : ByteArray) (l2 : Rows) (l3 : Rows) (n4 : Int) (n5 : Int) (n6 : Int) (n7 : Int) : evalF T k a137 [(.g [(.v (.string s1)), (.s 2 l2), (.s 1 l3), (.v (.int .i64 n4)), (.v (.int .i64 n5)), (.v (.int .i64 n6))]), (.d (.v (.int .i64 n7)))] = (
 callT T 182 [(.g [(.v (.string s1)), (.s 2 l2), (.s 1 l3), (.v (.int .i64 n4))]), (.d (.v (.int .i64 n7)))] fun o8 =>
 oD o8.res fun d9 =>
 dI .i64 d9 fun n10 =>
 bif (decide (n10 < 0)) then (
 some ⟨(.d (.v (.int .i64 (-1)))), []⟩) else (
 some ⟨(.d (.v (.int .i64 n10))), []⟩)) := by kernel_rfl
/- loop.example/g00119/laws.szPostS -/
def b61x0 : ACode := (
  .seq (.seq (.reg false [⟨some 12, .mv (.t 5), none⟩,
    ⟨some 13, .mv (.t 0), none⟩,
    ⟨some 14, .len false (.t 13), none⟩,
    ⟨some 15, .bin .lss (.t 12) (.t 14), none⟩]) (
  .cond (.t 15) (.skip) (.exit 0))) (
  .seq (.block 1 (.seq (.reg false [⟨some 18, .mv (.t 0), none⟩,
      ⟨some 19, .mv (.t 5), none⟩,
      ⟨some 20, .iad 6 (.t 18) (.t 19), none⟩,
      ⟨some 21, .load true [.s, (.sl 2), (.sl 1), (.i .i64), (.i .i64), (.i .i64)] (.t 20), none⟩,
      ⟨some 22, .mv (.t 1), none⟩,
      ⟨some 23, .call (.f 137) [.rd, .rd] false [.c (.i .i64)] [(.t 21), (.t 22)], none⟩,
      ⟨some 1, .mv (.t 23), none⟩]) (
    .seq (.reg false [⟨some 24, .mv (.t 1), none⟩,
      ⟨some 25, .bin .lss (.t 24) (.c (.v (.int .i64 0))), none⟩]) (
    .cond (.t 25) (.seq (.reg false [⟨some 4, .mv (.c (.v (.int .i64 (-1)))), none⟩]) (
      .ret)) (.skip))))) (
  .reg false [⟨some 16, .mv (.t 5), none⟩,
    ⟨some 17, .bin .add (.t 16) (.c (.v (.int .i64 1))), none⟩,
    ⟨some 5, .mv (.t 17), none⟩])))
def e61x0 : Exits := [(.ret, [(4, .c (.i .i64))]), ((.exit 0), [(1, .c (.i .i64))])]
def l61x0 (T : Table) (k : Nat) := loopN (evalC ⟨T, []⟩ k b61x0 (Ex × List AV)) [0, 1, 5] e61x0
def a61 : AFun := ⟨[.rd, .rd], false, [.t 4], (
  .seq (.reg false [⟨some 4, .mv (.c (.v (.int .i64 0))), none⟩]) (
  .seq (.reg false [⟨some 6, .mv (.t 1), none⟩,
    ⟨some 7, .mv (.t 0), none⟩,
    ⟨some 8, .len false (.t 7), none⟩,
    ⟨some 9, .bin .sub (.t 6) (.t 8), none⟩,
    ⟨some 1, .mv (.t 9), none⟩]) (
  .seq (.seq (.reg false [⟨some 10, .mv (.t 1), none⟩,
    ⟨some 11, .bin .lss (.t 10) (.c (.v (.int .i64 0))), none⟩]) (
  .cond (.t 11) (.seq (.reg false [⟨some 4, .mv (.c (.v (.int .i64 (-1)))), none⟩]) (
    .ret)) (.skip))) (
  .seq (.seq (.reg false [⟨some 5, .mv (.c (.v (.int .i64 0))), none⟩]) (
  .block 0 (.loop [0, 1, 5] e61x0 b61x0))) (
  .seq (.reg false [⟨some 26, .mv (.t 1), none⟩,
    ⟨some 4, .mv (.t 26), none⟩]) (
  .ret))))))⟩
theorem l61x0s (T : Table) (k n : Nat) (l3 : Rows) (n4 : Int) (n5 : Int) : l61x0 T k (n + 1) [(.fz 6 l3), (.v (.int .i64 n4)), (.v (.int .i64 n5))] = (
 bif (decide (n5 < (l3.length : Int))) then (
 tst (decide (0 ≤ n5)) (
 look l3 (Int.toNat n5) fun r6 =>
 cS r6 0 fun s7 =>
 cL 2 r6 1 fun l8 =>
 cL 1 r6 2 fun l9 =>
 cI .i64 r6 3 fun n10 =>
 cI .i64 r6 4 fun n11 =>
 cI .i64 r6 5 fun n12 =>
 callT T 137 [(.g [(.v (.string s7)), (.s 2 l8), (.s 1 l9), (.v (.int .i64 n10)), (.v (.int .i64 n11)), (.v (.int .i64 n12))]), (.d (.v (.int .i64 n4)))] fun o13 =>
 oD o13.res fun d14 =>
 dI .i64 d14 fun n15 =>
 bif (decide (n15 < 0)) then (
 some (.ret, [(.v (.int .i64 (-1)))])) else (
 l61x0 T k n [(.fz 6 l3), (.v (.int .i64 n15)), (.v (.int .i64 (IntKind.wrap .i64 (n5 + 1))))]))) else (
 some ((.exit 0), [(.v (.int .i64 n4))]))) := by kernel_rfl
theorem a61q (T : Table) (k : Nat) (l1 : Rows) (n2 : Int) : evalF T k a61 [(.d (.s 6 l1)), (.d (.v (.int .i64 n2)))] = (
 bif (decide ((IntKind.wrap .i64 (n2 - (l1.length : Int))) < 0)) then (
 some ⟨(.d (.v (.int .i64 (-1)))), []⟩) else (
 aft (l61x0 T k k [(.fz 6 l1), (.v (.int .i64 (IntKind.wrap .i64 (n2 - (l1.length : Int))))), (.v (.int .i64 0))]) fun e16 ys17 =>
 bif e16.same .ret then (
 aV ys17 0 fun x18 =>
 aI .i64 x18 fun n19 =>
 some ⟨(.d (.v (.int .i64 n19))), []⟩) else (
 bif e16.same (.exit 0) then (
 aV ys17 0 fun x20 =>
 aI .i64 x20 fun n21 =>
 some ⟨(.d (.v (.int .i64 n21))), []⟩) else (
 none)))) := by kernel_rfl
/- loop.example/g00119/laws.szHold -/

def a138 : AFun := ⟨[.rd, .rd], false, [.t 4], (
  .seq (.reg false [⟨some 2, .box (.t 0), none⟩,
    ⟨some 4, .mv (.c (.v (.int .i64 0))), none⟩]) (
  .seq (.reg false [⟨some 5, .mv (.t 1), none⟩,
    ⟨some 6, .fad 1 (.t 2), none⟩,
    ⟨some 7, .load false [.s] (.t 6), none⟩,
    ⟨some 8, .len true (.t 7), none⟩,
    ⟨some 9, .bin .sub (.t 5) (.t 8), none⟩,
    ⟨some 1, .mv (.t 9), none⟩]) (
  .seq (.seq (.reg false [⟨some 10, .mv (.t 1), none⟩,
    ⟨some 11, .bin .lss (.t 10) (.c (.v (.int .i64 0))), none⟩]) (
  .cond (.t 11) (.seq (.reg false [⟨some 4, .mv (.c (.v (.int .i64 (-1)))), none⟩]) (
    .ret)) (.skip))) (
  .seq (.reg false [⟨some 12, .mv (.t 1), none⟩,
    ⟨some 4, .mv (.t 12), none⟩]) (
  .ret)))))⟩

theorem a138q (T : Table) (k : Nat) (n1 : Int) (s2 : ByteArray) (n3 : Int) (n4 : Int) (n5 : Int) (n6 : Int) : evalF T k a138 [(.g [(.v (.int .i64 n1)), (.v (.string s2)), (.v (.int .i64 n3)), (.v (.int .i64 n4)), (.v (.int .i64 n5))]), (.d (.v (.int .i64 n6)))] = (
 bif (decide ((IntKind.wrap .i64 (n6 - (s2.size : Int))) < 0)) then (
 some ⟨(.d (.v (.int .i64 (-1)))), []⟩) else (
 some ⟨(.d (.v (.int .i64 (IntKind.wrap .i64 (n6 - (s2.size : Int)))))), []⟩)) := by kernel_rfl
/- loop.example/g00119/laws.szHoldS -/
def b62x0 : ACode := (
  .seq (.seq (.reg false [⟨some 12, .mv (.t 5), none⟩,
    ⟨some 13, .mv (.t 0), none⟩,
    ⟨some 14, .len false (.t 13), none⟩,
    ⟨some 15, .bin .lss (.t 12) (.t 14), none⟩]) (
  .cond (.t 15) (.skip) (.exit 0))) (
  .seq (.block 1 (.seq (.reg false [⟨some 18, .mv (.t 0), none⟩,
      ⟨some 19, .mv (.t 5), none⟩,
      ⟨some 20, .iad 5 (.t 18) (.t 19), none⟩,
      ⟨some 21, .load true [(.i .i64), .s, (.i .i64), (.i .i64), (.i .i64)] (.t 20), none⟩,
      ⟨some 22, .mv (.t 1), none⟩,
      ⟨some 23, .call (.f 138) [.rd, .rd] false [.c (.i .i64)] [(.t 21), (.t 22)], none⟩,
      ⟨some 1, .mv (.t 23), none⟩]) (
    .seq (.reg false [⟨some 24, .mv (.t 1), none⟩,
      ⟨some 25, .bin .lss (.t 24) (.c (.v (.int .i64 0))), none⟩]) (
    .cond (.t 25) (.seq (.reg false [⟨some 4, .mv (.c (.v (.int .i64 (-1)))), none⟩]) (
      .ret)) (.skip))))) (
  .reg false [⟨some 16, .mv (.t 5), none⟩,
    ⟨some 17, .bin .add (.t 16) (.c (.v (.int .i64 1))), none⟩,
    ⟨some 5, .mv (.t 17), none⟩])))
def e62x0 : Exits := [(.ret, [(4, .c (.i .i64))]), ((.exit 0), [(1, .c (.i .i64))])]
def l62x0 (T : Table) (k : Nat) := loopN (evalC ⟨T, []⟩ k b62x0 (Ex × List AV)) [0, 1, 5] e62x0
def a62 : AFun := ⟨[.rd, .rd], false, [.t 4], (
  .seq (.reg false [⟨some 4, .mv (.c (.v (.int .i64 0))), none⟩]) (
  .seq (.reg false [⟨some 6, .mv (.t 1), none⟩,
    ⟨some 7, .mv (.t 0), none⟩,
    ⟨some 8, .len false (.t 7), none⟩,
    ⟨some 9, .bin .sub (.t 6) (.t 8), none⟩,
    ⟨some 1, .mv (.t 9), none⟩]) (
  .seq (.seq (.reg false [⟨some 10, .mv (.t 1), none⟩,
    ⟨some 11, .bin .lss (.t 10) (.c (.v (.int .i64 0))), none⟩]) (
  .cond (.t 11) (.seq (.reg false [⟨some 4, .mv (.c (.v (.int .i64 (-1)))), none⟩]) (
    .ret)) (.skip))) (
  .seq (.seq (.reg false [⟨some 5, .mv (.c (.v (.int .i64 0))), none⟩]) (
  .block 0 (.loop [0, 1, 5] e62x0 b62x0))) (
  .seq (.reg false [⟨some 26, .mv (.t 1), none⟩,
    ⟨some 4, .mv (.t 26), none⟩]) (
  .ret))))))⟩
theorem l62x0s (T : Table) (k n : Nat) (l3 : Rows) (n4 : Int) (n5 : Int) : l62x0 T k (n + 1) [(.fz 5 l3), (.v (.int .i64 n4)), (.v (.int .i64 n5))] = (
 bif (decide (n5 < (l3.length : Int))) then (
 tst (decide (0 ≤ n5)) (
 look l3 (Int.toNat n5) fun r6 =>
 cI .i64 r6 0 fun n7 =>
 cS r6 1 fun s8 =>
 cI .i64 r6 2 fun n9 =>
 cI .i64 r6 3 fun n10 =>
 cI .i64 r6 4 fun n11 =>
 callT T 138 [(.g [(.v (.int .i64 n7)), (.v (.string s8)), (.v (.int .i64 n9)), (.v (.int .i64 n10)), (.v (.int .i64 n11))]), (.d (.v (.int .i64 n4)))] fun o12 =>
 oD o12.res fun d13 =>
 dI .i64 d13 fun n14 =>
 bif (decide (n14 < 0)) then (
 some (.ret, [(.v (.int .i64 (-1)))])) else (
 l62x0 T k n [(.fz 5 l3), (.v (.int .i64 n14)), (.v (.int .i64 (IntKind.wrap .i64 (n5 + 1))))]))) else (
 some ((.exit 0), [(.v (.int .i64 n4))]))) := by kernel_rfl
theorem a62q (T : Table) (k : Nat) (l1 : Rows) (n2 : Int) : evalF T k a62 [(.d (.s 5 l1)), (.d (.v (.int .i64 n2)))] = (
 bif (decide ((IntKind.wrap .i64 (n2 - (l1.length : Int))) < 0)) then (
 some ⟨(.d (.v (.int .i64 (-1)))), []⟩) else (
 aft (l62x0 T k k [(.fz 5 l1), (.v (.int .i64 (IntKind.wrap .i64 (n2 - (l1.length : Int))))), (.v (.int .i64 0))]) fun e15 ys16 =>
 bif e15.same .ret then (
 aV ys16 0 fun x17 =>
 aI .i64 x17 fun n18 =>
 some ⟨(.d (.v (.int .i64 n18))), []⟩) else (
 bif e15.same (.exit 0) then (
 aV ys16 0 fun x19 =>
 aI .i64 x19 fun n20 =>
 some ⟨(.d (.v (.int .i64 n20))), []⟩) else (
 none)))) := by kernel_rfl
/- loop.example/g00119/laws.szHub -/

def a21 : AFun := ⟨[.rd, .rd], false, [.t 4], (
  .seq (.reg false [⟨some 2, .box (.t 0), none⟩,
    ⟨some 4, .mv (.c (.v (.int .i64 0))), none⟩]) (
  .seq (.reg false [⟨some 5, .fad 3 (.t 2), none⟩,
    ⟨some 6, .load false [(.sl 13)] (.t 5), none⟩,
    ⟨some 7, .mv (.t 1), none⟩,
    ⟨some 8, .call (.f 60) [.rd, .rd] false [.c (.i .i64)] [(.t 6), (.t 7)], none⟩,
    ⟨some 1, .mv (.t 8), none⟩]) (
  .seq (.seq (.reg false [⟨some 9, .mv (.t 1), none⟩,
    ⟨some 10, .bin .lss (.t 9) (.c (.v (.int .i64 0))), none⟩]) (
  .cond (.t 10) (.seq (.reg false [⟨some 4, .mv (.c (.v (.int .i64 (-1)))), none⟩]) (
    .ret)) (.skip))) (
  .seq (.reg false [⟨some 11, .fad 4 (.t 2), none⟩,
    ⟨some 12, .load false [(.sl 6)] (.t 11), none⟩,
    ⟨some 13, .mv (.t 1), none⟩,
    ⟨some 14, .call (.f 61) [.rd, .rd] false [.c (.i .i64)] [(.t 12), (.t 13)], none⟩,
    ⟨some 1, .mv (.t 14), none⟩]) (
  .seq (.seq (.reg false [⟨some 15, .mv (.t 1), none⟩,
    ⟨some 16, .bin .lss (.t 15) (.c (.v (.int .i64 0))), none⟩]) (
  .cond (.t 16) (.seq (.reg false [⟨some 4, .mv (.c (.v (.int .i64 (-1)))), none⟩]) (
    .ret)) (.skip))) (
  .seq (.reg false [⟨some 17, .fad 5 (.t 2), none⟩,
    ⟨some 18, .load false [(.sl 5)] (.t 17), none⟩,
    ⟨some 19, .mv (.t 1), none⟩,
    ⟨some 20, .call (.f 62) [.rd, .rd] false [.c (.i .i64)] [(.t 18), (.t 19)], none⟩,
    ⟨some 1, .mv (.t 20), none⟩]) (
  .seq (.seq (.reg false [⟨some 21, .mv (.t 1), none⟩,
    ⟨some 22, .bin .lss (.t 21) (.c (.v (.int .i64 0))), none⟩]) (
  .cond (.t 22) (.seq (.reg false [⟨some 4, .mv (.c (.v (.int .i64 (-1)))), none⟩]) (
    .ret)) (.skip))) (
  .seq (.reg false [⟨some 23, .fad 6 (.t 2), none⟩,
    ⟨some 24, .load false [(.sl 1)] (.t 23), none⟩,
    ⟨some 25, .mv (.t 1), none⟩,
    ⟨some 26, .call (.f 63) [.rd, .rd] false [.c (.i .i64)] [(.t 24), (.t 25)], none⟩,
    ⟨some 1, .mv (.t 26), none⟩]) (
  .seq (.seq (.reg false [⟨some 27, .mv (.t 1), none⟩,
    ⟨some 28, .bin .lss (.t 27) (.c (.v (.int .i64 0))), none⟩]) (
  .cond (.t 28) (.seq (.reg false [⟨some 4, .mv (.c (.v (.int .i64 (-1)))), none⟩]) (
    .ret)) (.skip))) (
  .seq (.reg false [⟨some 29, .mv (.t 1), none⟩,
    ⟨some 4, .mv (.t 29), none⟩]) (
  .ret)))))))))))⟩

theorem a21q (T : Table) (k : Nat) (n1 : Int) (n2 : Int) (n3 : Int) (l4 : Rows) (l5 : Rows) (l6 : Rows) (l7 : Rows) (n8 : Int) : evalF T k a21 [(.g [(.v (.int .i64 n1)), (.v (.int .i64 n2)), (.v (.int .i64 n3)), (.s 13 l4), (.s 6 l5), (.s 5 l6), (.s 1 l7)]), (.d (.v (.int .i64 n8)))] = (
 callT T 60 [(.d (.s 13 l4)), (.d (.v (.int .i64 n8)))] fun o9 =>
 oD o9.res fun d10 =>
 dI .i64 d10 fun n11 =>
 bif (decide (n11 < 0)) then (
 some ⟨(.d (.v (.int .i64 (-1)))), []⟩) else (
 callT T 61 [(.d (.s 6 l5)), (.d (.v (.int .i64 n11)))] fun o12 =>
 oD o12.res fun d13 =>
 dI .i64 d13 fun n14 =>
 bif (decide (n14 < 0)) then (
 some ⟨(.d (.v (.int .i64 (-1)))), []⟩) else (
 callT T 62 [(.d (.s 5 l6)), (.d (.v (.int .i64 n14)))] fun o15 =>
 oD o15.res fun d16 =>
 dI .i64 d16 fun n17 =>
 bif (decide (n17 < 0)) then (
 some ⟨(.d (.v (.int .i64 (-1)))), []⟩) else (
 callT T 63 [(.d (.s 1 l7)), (.d (.v (.int .i64 n17)))] fun o18 =>
 oD o18.res fun d19 =>
 dI .i64 d19 fun n20 =>
 bif (decide (n20 < 0)) then (
 some ⟨(.d (.v (.int .i64 (-1)))), []⟩) else (
 some ⟨(.d (.v (.int .i64 n20))), []⟩))))) := by kernel_rfl
/- loop.example/g00119/laws.toStringS -/
def b68x0 : ACode := (
  .seq (.seq (.reg false [⟨some 8, .mv (.t 4), none⟩,
    ⟨some 9, .mv (.t 0), none⟩,
    ⟨some 10, .len false (.t 9), none⟩,
    ⟨some 11, .bin .lss (.t 8) (.t 10), none⟩]) (
  .cond (.t 11) (.skip) (.exit 0))) (
  .seq (.block 1 (.reg false [⟨some 14, .mv (.t 3), none⟩,
      ⟨some 15, .mv (.t 4), none⟩,
      ⟨some 16, .mv (.t 0), none⟩,
      ⟨some 17, .mv (.t 4), none⟩,
      ⟨some 18, .iad 1 (.t 16) (.t 17), none⟩,
      ⟨some 19, .load false [.s] (.t 18), none⟩,
      ⟨some 20, .iad 1 (.t 14) (.t 15), none⟩,
      ⟨none, .store 1 (.t 20) (.t 19), none⟩])) (
  .reg false [⟨some 12, .mv (.t 4), none⟩,
    ⟨some 13, .bin .add (.t 12) (.c (.v (.int .i64 1))), none⟩,
    ⟨some 4, .mv (.t 13), none⟩])))
def e68x0 : Exits := [((.exit 0), [(3, .o 1)])]
def l68x0 (T : Table) (k : Nat) := loopN (evalC ⟨T, []⟩ k b68x0 (Ex × List AV)) [0, 3, 4] e68x0
def a68 : AFun := ⟨[.rd], false, [.t 2], (
  .seq (.reg false [⟨some 2, .mv (.c (.o 1 [])), none⟩]) (
  .seq (.reg false [⟨some 5, .mv (.t 0), none⟩,
    ⟨some 6, .len false (.t 5), none⟩,
    ⟨some 7, .mk [(.v (.string ByteArray.empty))] 16 (.t 6) (.t 6), none⟩,
    ⟨some 3, .mv (.t 7), none⟩]) (
  .seq (.seq (.reg false [⟨some 4, .mv (.c (.v (.int .i64 0))), none⟩]) (
  .block 0 (.loop [0, 3, 4] e68x0 b68x0))) (
  .seq (.reg false [⟨some 21, .mv (.t 3), none⟩,
    ⟨some 2, .mv (.t 21), none⟩]) (
  .ret)))))⟩
theorem l68x0s (T : Table) (k n : Nat) (l2 : Rows) (l3 : Rows) (n4 : Int) : l68x0 T k (n + 1) [(.fz 1 l2), (.o 1 l3), (.v (.int .i64 n4))] = (
 bif (decide (n4 < (l2.length : Int))) then (
 tst (decide (0 ≤ n4)) (
 look l2 (Int.toNat n4) fun r5 =>
 cS r5 0 fun s6 =>
 tst (decide (0 ≤ n4) && decide (Int.toNat n4 < l3.length)) (
 l68x0 T k n [(.fz 1 l2), (.o 1 (setD l3 (Int.toNat n4) 0 (.v (.string s6)))), (.v (.int .i64 (IntKind.wrap .i64 (n4 + 1))))]))) else (
 some ((.exit 0), [(.o 1 l3)]))) := by kernel_rfl
theorem a68q (T : Table) (k : Nat) (l1 : Rows) : evalF T k a68 [(.d (.s 1 l1))] = (
 tst (cutOk (l1.length : Int) (l1.length : Int) maxLen && decide (Int.toNat (l1.length : Int) * 16 ≤ maxBytes)) (
 aft (l68x0 T k k [(.fz 1 l1), (.o 1 (List.replicate (Int.toNat (l1.length : Int)) [(.v (.string ByteArray.empty))])), (.v (.int .i64 0))]) fun e7 ys8 =>
 bif e7.same (.exit 0) then (
 aV ys8 0 fun x9 =>
 aO 1 x9 fun l10 =>
 some ⟨(.d (.s 1 l10)), []⟩) else (
 none))) := by kernel_rfl
/- loop.example/g00119/laws.toValueS -/
def b209x0 : ACode := (
  .seq (.seq (.reg false [⟨some 8, .mv (.t 4), none⟩,
    ⟨some 9, .mv (.t 0), none⟩,
    ⟨some 10, .len false (.t 9), none⟩,
    ⟨some 11, .bin .lss (.t 8) (.t 10), none⟩]) (
  .cond (.t 11) (.skip) (.exit 0))) (
  .seq (.block 1 (.reg false [⟨some 14, .mv (.t 3), none⟩,
      ⟨some 15, .mv (.t 4), none⟩,
      ⟨some 16, .mv (.t 0), none⟩,
      ⟨some 17, .mv (.t 4), none⟩,
      ⟨some 18, .iad 5 (.t 16) (.t 17), none⟩,
      ⟨some 19, .load true [(.i .i64), .s, (.i .i64), (.sl 1), (.sl 5)] (.t 18), none⟩,
      ⟨some 20, .call (.f 176) [.rd] false [.g [(.i .i64), .s, (.i .i64), (.sl 1), (.sl 5)]] [(.t 19)], none⟩,
      ⟨some 21, .iad 5 (.t 14) (.t 15), none⟩,
      ⟨none, .store 5 (.t 21) (.t 20), none⟩])) (
  .reg false [⟨some 12, .mv (.t 4), none⟩,
    ⟨some 13, .bin .add (.t 12) (.c (.v (.int .i64 1))), none⟩,
    ⟨some 4, .mv (.t 13), none⟩])))
def e209x0 : Exits := [((.exit 0), [(3, .o 5)])]
def l209x0 (T : Table) (k : Nat) := loopN (evalC ⟨T, []⟩ k b209x0 (Ex × List AV)) [0, 3, 4] e209x0
def a209 : AFun := ⟨[.rd], false, [.t 2], (
  .seq (.reg false [⟨some 2, .mv (.c (.o 5 [])), none⟩]) (
  .seq (.reg false [⟨some 5, .mv (.t 0), none⟩,
    ⟨some 6, .len false (.t 5), none⟩,
    ⟨some 7, .mk [(.v (.int .i64 0)), (.v (.string ByteArray.empty)), (.v (.int .i64 0)), (.s 1 []), (.s 5 [])] 80 (.t 6) (.t 6), none⟩,
    ⟨some 3, .mv (.t 7), none⟩]) (
  .seq (.seq (.reg false [⟨some 4, .mv (.c (.v (.int .i64 0))), none⟩]) (
  .block 0 (.loop [0, 3, 4] e209x0 b209x0))) (
  .seq (.reg false [⟨some 22, .mv (.t 3), none⟩,
    ⟨some 2, .mv (.t 22), none⟩]) (
  .ret)))))⟩
theorem l209x0s (T : Table) (k n : Nat) (l2 : Rows) (l3 : Rows) (n4 : Int) : l209x0 T k (n + 1) [(.fz 5 l2), (.o 5 l3), (.v (.int .i64 n4))] = (
 bif (decide (n4 < (l2.length : Int))) then (
 tst (decide (0 ≤ n4)) (
 look l2 (Int.toNat n4) fun r5 =>
 cI .i64 r5 0 fun n6 =>
 cS r5 1 fun s7 =>
 cI .i64 r5 2 fun n8 =>
 cL 1 r5 3 fun l9 =>
 cL 5 r5 4 fun l10 =>
 callT T 176 [(.g [(.v (.int .i64 n6)), (.v (.string s7)), (.v (.int .i64 n8)), (.s 1 l9), (.s 5 l10)])] fun o11 =>
 oG o11.res fun r12 =>
 tst (Nat.beq r12.length 5) (
 cI .i64 r12 0 fun n13 =>
 cS r12 1 fun s14 =>
 cI .i64 r12 2 fun n15 =>
 cL 1 r12 3 fun l16 =>
 cL 5 r12 4 fun l17 =>
 tst (decide (0 ≤ n4) && decide (Int.toNat n4 < l3.length)) (
 l209x0 T k n [(.fz 5 l2), (.o 5 (setD (setD (setD (setD (setD (setD (setD l3 (Int.toNat n4) 0 (.v (.int .i64 n13))) (Int.toNat n4) 1 (.v (.string s14))) (Int.toNat n4) 2 (.v (.int .i64 n15))) (Int.toNat n4) 3 hole) (Int.toNat n4) 4 hole) (Int.toNat n4) 4 (.s 5 l17)) (Int.toNat n4) 3 (.s 1 l16))), (.v (.int .i64 (IntKind.wrap .i64 (n4 + 1))))])))) else (
 some ((.exit 0), [(.o 5 l3)]))) := by kernel_rfl
theorem a209q (T : Table) (k : Nat) (l1 : Rows) : evalF T k a209 [(.d (.s 5 l1))] = (
 tst (cutOk (l1.length : Int) (l1.length : Int) maxLen && decide (Int.toNat (l1.length : Int) * 80 ≤ maxBytes)) (
 aft (l209x0 T k k [(.fz 5 l1), (.o 5 (List.replicate (Int.toNat (l1.length : Int)) [(.v (.int .i64 0)), (.v (.string ByteArray.empty)), (.v (.int .i64 0)), (.s 1 []), (.s 5 [])])), (.v (.int .i64 0))]) fun e18 ys19 =>
 bif e18.same (.exit 0) then (
 aV ys19 0 fun x20 =>
 aO 5 x20 fun l21 =>
 some ⟨(.d (.s 5 l21)), []⟩) else (
 none))) := by kernel_rfl
/- loop.example/g00119/laws.toValue -/

def a176 : AFun := ⟨[.rd], false, [.c 2 true [(.i .i64), .s, (.i .i64), (.sl 1), (.sl 5)]], (
  .seq (.reg false [⟨some 1, .box (.t 0), none⟩,
    ⟨some 2, .alloc [(.v (.int .i64 0)), (.v (.string ByteArray.empty)), (.v (.int .i64 0)), (.s 1 []), (.s 5 [])], none⟩]) (
  .seq (.reg false [⟨some 3, .alloc [(.v (.int .i64 0)), (.v (.string ByteArray.empty)), (.v (.int .i64 0)), (.s 1 []), (.s 5 [])], none⟩]) (
  .seq (.reg false [⟨some 4, .fad 0 (.t 1), none⟩,
    ⟨some 5, .load false [(.i .i64)] (.t 4), none⟩,
    ⟨some 6, .fad 0 (.t 3), none⟩,
    ⟨none, .store 1 (.t 6) (.t 5), none⟩]) (
  .seq (.reg false [⟨some 7, .fad 1 (.t 1), none⟩,
    ⟨some 8, .load false [.s] (.t 7), none⟩,
    ⟨some 9, .fad 1 (.t 3), none⟩,
    ⟨none, .store 1 (.t 9) (.t 8), none⟩]) (
  .seq (.reg false [⟨some 10, .fad 2 (.t 1), none⟩,
    ⟨some 11, .load false [(.i .i64)] (.t 10), none⟩,
    ⟨some 12, .fad 2 (.t 3), none⟩,
    ⟨none, .store 1 (.t 12) (.t 11), none⟩]) (
  .seq (.reg false [⟨some 13, .fad 3 (.t 1), none⟩,
    ⟨some 14, .load false [(.sl 1)] (.t 13), none⟩,
    ⟨some 15, .call (.f 68) [.rd] false [.c (.sl 1)] [(.t 14)], none⟩,
    ⟨some 16, .fad 3 (.t 3), none⟩,
    ⟨none, .store 1 (.t 16) (.t 15), none⟩]) (
  .seq (.reg false [⟨some 17, .fad 4 (.t 1), none⟩,
    ⟨some 18, .load false [(.sl 5)] (.t 17), none⟩,
    ⟨some 19, .call (.f 209) [.rd] false [.c (.sl 5)] [(.t 18)], none⟩,
    ⟨some 20, .fad 4 (.t 3), none⟩,
    ⟨none, .store 1 (.t 20) (.t 19), none⟩]) (
  .seq (.reg false [⟨some 21, .load true [(.i .i64), .s, (.i .i64), (.sl 1), (.sl 5)] (.t 3), none⟩,
    ⟨none, .store 5 (.t 2) (.t 21), none⟩]) (
  .ret)))))))))⟩

theorem a176q (T : Table) (k : Nat) (n1 : Int) (s2 : ByteArray) (n3 : Int) (l4 : Rows) (l5 : Rows) : evalF T k a176 [(.g [(.v (.int .i64 n1)), (.v (.string s2)), (.v (.int .i64 n3)), (.s 1 l4), (.s 5 l5)])] = (
 callT T 68 [(.d (.s 1 l4))] fun o6 =>
 oD o6.res fun d7 =>
 dL 1 d7 fun l8 =>
 callT T 209 [(.d (.s 5 l5))] fun o9 =>
 oD o9.res fun d10 =>
 dL 5 d10 fun l11 =>
 some ⟨(.g [(.v (.int .i64 n1)), (.v (.string s2)), (.v (.int .i64 n3)), (.s 1 l8), (.s 5 l11)]), []⟩) := by kernel_rfl
/- loop.example/g00119/laws.toTerm -/

def a237 : AFun := ⟨[.rd], false, [.c 2 true [(.i .i64), .s, (.sl 1)]], (
  .seq (.reg false [⟨some 1, .box (.t 0), none⟩,
    ⟨some 2, .alloc [(.v (.int .i64 0)), (.v (.string ByteArray.empty)), (.s 1 [])], none⟩]) (
  .seq (.reg false [⟨some 3, .alloc [(.v (.int .i64 0)), (.v (.string ByteArray.empty)), (.s 1 [])], none⟩]) (
  .seq (.reg false [⟨some 4, .fad 0 (.t 1), none⟩,
    ⟨some 5, .load false [(.i .i64)] (.t 4), none⟩,
    ⟨some 6, .fad 0 (.t 3), none⟩,
    ⟨none, .store 1 (.t 6) (.t 5), none⟩]) (
  .seq (.reg false [⟨some 7, .fad 1 (.t 1), none⟩,
    ⟨some 8, .load false [.s] (.t 7), none⟩,
    ⟨some 9, .fad 1 (.t 3), none⟩,
    ⟨none, .store 1 (.t 9) (.t 8), none⟩]) (
  .seq (.reg false [⟨some 10, .fad 2 (.t 1), none⟩,
    ⟨some 11, .load false [(.sl 1)] (.t 10), none⟩,
    ⟨some 12, .call (.f 68) [.rd] false [.c (.sl 1)] [(.t 11)], none⟩,
    ⟨some 13, .fad 2 (.t 3), none⟩,
    ⟨none, .store 1 (.t 13) (.t 12), none⟩]) (
  .seq (.reg false [⟨some 14, .load true [(.i .i64), .s, (.sl 1)] (.t 3), none⟩,
    ⟨none, .store 3 (.t 2) (.t 14), none⟩]) (
  .ret)))))))⟩

theorem a237q (T : Table) (k : Nat) (n1 : Int) (s2 : ByteArray) (l3 : Rows) : evalF T k a237 [(.g [(.v (.int .i64 n1)), (.v (.string s2)), (.s 1 l3)])] = (
 callT T 68 [(.d (.s 1 l3))] fun o4 =>
 oD o4.res fun d5 =>
 dL 1 d5 fun l6 =>
 some ⟨(.g [(.v (.int .i64 n1)), (.v (.string s2)), (.s 1 l6)]), []⟩) := by kernel_rfl
/- loop.example/g00119/laws.toTermS -/
def b217x0 : ACode := (
  .seq (.seq (.reg false [⟨some 8, .mv (.t 4), none⟩,
    ⟨some 9, .mv (.t 0), none⟩,
    ⟨some 10, .len false (.t 9), none⟩,
    ⟨some 11, .bin .lss (.t 8) (.t 10), none⟩]) (
  .cond (.t 11) (.skip) (.exit 0))) (
  .seq (.block 1 (.reg false [⟨some 14, .mv (.t 3), none⟩,
      ⟨some 15, .mv (.t 4), none⟩,
      ⟨some 16, .mv (.t 0), none⟩,
      ⟨some 17, .mv (.t 4), none⟩,
      ⟨some 18, .iad 3 (.t 16) (.t 17), none⟩,
      ⟨some 19, .load true [(.i .i64), .s, (.sl 1)] (.t 18), none⟩,
      ⟨some 20, .call (.f 237) [.rd] false [.g [(.i .i64), .s, (.sl 1)]] [(.t 19)], none⟩,
      ⟨some 21, .iad 3 (.t 14) (.t 15), none⟩,
      ⟨none, .store 3 (.t 21) (.t 20), none⟩])) (
  .reg false [⟨some 12, .mv (.t 4), none⟩,
    ⟨some 13, .bin .add (.t 12) (.c (.v (.int .i64 1))), none⟩,
    ⟨some 4, .mv (.t 13), none⟩])))
def e217x0 : Exits := [((.exit 0), [(3, .o 3)])]
def l217x0 (T : Table) (k : Nat) := loopN (evalC ⟨T, []⟩ k b217x0 (Ex × List AV)) [0, 3, 4] e217x0
def a217 : AFun := ⟨[.rd], false, [.t 2], (
  .seq (.reg false [⟨some 2, .mv (.c (.o 3 [])), none⟩]) (
  .seq (.reg false [⟨some 5, .mv (.t 0), none⟩,
    ⟨some 6, .len false (.t 5), none⟩,
    ⟨some 7, .mk [(.v (.int .i64 0)), (.v (.string ByteArray.empty)), (.s 1 [])] 48 (.t 6) (.t 6), none⟩,
    ⟨some 3, .mv (.t 7), none⟩]) (
  .seq (.seq (.reg false [⟨some 4, .mv (.c (.v (.int .i64 0))), none⟩]) (
  .block 0 (.loop [0, 3, 4] e217x0 b217x0))) (
  .seq (.reg false [⟨some 22, .mv (.t 3), none⟩,
    ⟨some 2, .mv (.t 22), none⟩]) (
  .ret)))))⟩
theorem l217x0s (T : Table) (k n : Nat) (l2 : Rows) (l3 : Rows) (n4 : Int) : l217x0 T k (n + 1) [(.fz 3 l2), (.o 3 l3), (.v (.int .i64 n4))] = (
 bif (decide (n4 < (l2.length : Int))) then (
 tst (decide (0 ≤ n4)) (
 look l2 (Int.toNat n4) fun r5 =>
 cI .i64 r5 0 fun n6 =>
 cS r5 1 fun s7 =>
 cL 1 r5 2 fun l8 =>
 callT T 237 [(.g [(.v (.int .i64 n6)), (.v (.string s7)), (.s 1 l8)])] fun o9 =>
 oG o9.res fun r10 =>
 tst (Nat.beq r10.length 3) (
 cI .i64 r10 0 fun n11 =>
 cS r10 1 fun s12 =>
 cL 1 r10 2 fun l13 =>
 tst (decide (0 ≤ n4) && decide (Int.toNat n4 < l3.length)) (
 l217x0 T k n [(.fz 3 l2), (.o 3 (setD (setD (setD (setD l3 (Int.toNat n4) 0 (.v (.int .i64 n11))) (Int.toNat n4) 1 (.v (.string s12))) (Int.toNat n4) 2 hole) (Int.toNat n4) 2 (.s 1 l13))), (.v (.int .i64 (IntKind.wrap .i64 (n4 + 1))))])))) else (
 some ((.exit 0), [(.o 3 l3)]))) := by kernel_rfl
theorem a217q (T : Table) (k : Nat) (l1 : Rows) : evalF T k a217 [(.d (.s 3 l1))] = (
 tst (cutOk (l1.length : Int) (l1.length : Int) maxLen && decide (Int.toNat (l1.length : Int) * 48 ≤ maxBytes)) (
 aft (l217x0 T k k [(.fz 3 l1), (.o 3 (List.replicate (Int.toNat (l1.length : Int)) [(.v (.int .i64 0)), (.v (.string ByteArray.empty)), (.s 1 [])])), (.v (.int .i64 0))]) fun e14 ys15 =>
 bif e14.same (.exit 0) then (
 aV ys15 0 fun x16 =>
 aO 3 x16 fun l17 =>
 some ⟨(.d (.s 3 l17)), []⟩) else (
 none))) := by kernel_rfl
/- loop.example/g00119/laws.toWeigh -/

def a238 : AFun := ⟨[.rd], false, [.c 2 true [.s, (.i .i64)]], (
  .seq (.reg false [⟨some 1, .box (.t 0), none⟩,
    ⟨some 2, .alloc [(.v (.string ByteArray.empty)), (.v (.int .i64 0))], none⟩]) (
  .seq (.reg false [⟨some 3, .alloc [(.v (.string ByteArray.empty)), (.v (.int .i64 0))], none⟩]) (
  .seq (.reg false [⟨some 4, .fad 0 (.t 1), none⟩,
    ⟨some 5, .load false [.s] (.t 4), none⟩,
    ⟨some 6, .fad 0 (.t 3), none⟩,
    ⟨none, .store 1 (.t 6) (.t 5), none⟩]) (
  .seq (.reg false [⟨some 7, .fad 1 (.t 1), none⟩,
    ⟨some 8, .load false [(.i .i64)] (.t 7), none⟩,
    ⟨some 9, .fad 1 (.t 3), none⟩,
    ⟨none, .store 1 (.t 9) (.t 8), none⟩]) (
  .seq (.reg false [⟨some 10, .load true [.s, (.i .i64)] (.t 3), none⟩,
    ⟨none, .store 2 (.t 2) (.t 10), none⟩]) (
  .ret))))))⟩

theorem a238q (T : Table) (k : Nat) (s1 : ByteArray) (n2 : Int) : evalF T k a238 [(.g [(.v (.string s1)), (.v (.int .i64 n2))])] = (
 some ⟨(.g [(.v (.string s1)), (.v (.int .i64 n2))]), []⟩) := by kernel_rfl
/- loop.example/g00119/laws.toWeighS -/
def b218x0 : ACode := (
  .seq (.seq (.reg false [⟨some 8, .mv (.t 4), none⟩,
    ⟨some 9, .mv (.t 0), none⟩,
    ⟨some 10, .len false (.t 9), none⟩,
    ⟨some 11, .bin .lss (.t 8) (.t 10), none⟩]) (
  .cond (.t 11) (.skip) (.exit 0))) (
  .seq (.block 1 (.reg false [⟨some 14, .mv (.t 3), none⟩,
      ⟨some 15, .mv (.t 4), none⟩,
      ⟨some 16, .mv (.t 0), none⟩,
      ⟨some 17, .mv (.t 4), none⟩,
      ⟨some 18, .iad 2 (.t 16) (.t 17), none⟩,
      ⟨some 19, .load true [.s, (.i .i64)] (.t 18), none⟩,
      ⟨some 20, .call (.f 238) [.rd] false [.g [.s, (.i .i64)]] [(.t 19)], none⟩,
      ⟨some 21, .iad 2 (.t 14) (.t 15), none⟩,
      ⟨none, .store 2 (.t 21) (.t 20), none⟩])) (
  .reg false [⟨some 12, .mv (.t 4), none⟩,
    ⟨some 13, .bin .add (.t 12) (.c (.v (.int .i64 1))), none⟩,
    ⟨some 4, .mv (.t 13), none⟩])))
def e218x0 : Exits := [((.exit 0), [(3, .o 2)])]
def l218x0 (T : Table) (k : Nat) := loopN (evalC ⟨T, []⟩ k b218x0 (Ex × List AV)) [0, 3, 4] e218x0
def a218 : AFun := ⟨[.rd], false, [.t 2], (
  .seq (.reg false [⟨some 2, .mv (.c (.o 2 [])), none⟩]) (
  .seq (.reg false [⟨some 5, .mv (.t 0), none⟩,
    ⟨some 6, .len false (.t 5), none⟩,
    ⟨some 7, .mk [(.v (.string ByteArray.empty)), (.v (.int .i64 0))] 24 (.t 6) (.t 6), none⟩,
    ⟨some 3, .mv (.t 7), none⟩]) (
  .seq (.seq (.reg false [⟨some 4, .mv (.c (.v (.int .i64 0))), none⟩]) (
  .block 0 (.loop [0, 3, 4] e218x0 b218x0))) (
  .seq (.reg false [⟨some 22, .mv (.t 3), none⟩,
    ⟨some 2, .mv (.t 22), none⟩]) (
  .ret)))))⟩
theorem l218x0s (T : Table) (k n : Nat) (l2 : Rows) (l3 : Rows) (n4 : Int) : l218x0 T k (n + 1) [(.fz 2 l2), (.o 2 l3), (.v (.int .i64 n4))] = (
 bif (decide (n4 < (l2.length : Int))) then (
 tst (decide (0 ≤ n4)) (
 look l2 (Int.toNat n4) fun r5 =>
 cS r5 0 fun s6 =>
 cI .i64 r5 1 fun n7 =>
 callT T 238 [(.g [(.v (.string s6)), (.v (.int .i64 n7))])] fun o8 =>
 oG o8.res fun r9 =>
 tst (Nat.beq r9.length 2) (
 cS r9 0 fun s10 =>
 cI .i64 r9 1 fun n11 =>
 tst (decide (0 ≤ n4) && decide (Int.toNat n4 < l3.length)) (
 l218x0 T k n [(.fz 2 l2), (.o 2 (setD (setD l3 (Int.toNat n4) 0 (.v (.string s10))) (Int.toNat n4) 1 (.v (.int .i64 n11)))), (.v (.int .i64 (IntKind.wrap .i64 (n4 + 1))))])))) else (
 some ((.exit 0), [(.o 2 l3)]))) := by kernel_rfl
theorem a218q (T : Table) (k : Nat) (l1 : Rows) : evalF T k a218 [(.d (.s 2 l1))] = (
 tst (cutOk (l1.length : Int) (l1.length : Int) maxLen && decide (Int.toNat (l1.length : Int) * 24 ≤ maxBytes)) (
 aft (l218x0 T k k [(.fz 2 l1), (.o 2 (List.replicate (Int.toNat (l1.length : Int)) [(.v (.string ByteArray.empty)), (.v (.int .i64 0))])), (.v (.int .i64 0))]) fun e12 ys13 =>
 bif e12.same (.exit 0) then (
 aV ys13 0 fun x14 =>
 aO 2 x14 fun l15 =>
 some ⟨(.d (.s 2 l15)), []⟩) else (
 none))) := by kernel_rfl
/- loop.example/g00119/laws.toWant -/

def a183 : AFun := ⟨[.rd], false, [.c 2 true [(.i .i64), (.sl 3), (.sl 1), (.sl 2)]], (
  .seq (.reg false [⟨some 1, .box (.t 0), none⟩,
    ⟨some 2, .alloc [(.v (.int .i64 0)), (.s 3 []), (.s 1 []), (.s 2 [])], none⟩]) (
  .seq (.reg false [⟨some 3, .alloc [(.v (.int .i64 0)), (.s 3 []), (.s 1 []), (.s 2 [])], none⟩]) (
  .seq (.reg false [⟨some 4, .fad 0 (.t 1), none⟩,
    ⟨some 5, .load false [(.i .i64)] (.t 4), none⟩,
    ⟨some 6, .fad 0 (.t 3), none⟩,
    ⟨none, .store 1 (.t 6) (.t 5), none⟩]) (
  .seq (.reg false [⟨some 7, .fad 1 (.t 1), none⟩,
    ⟨some 8, .load false [(.sl 3)] (.t 7), none⟩,
    ⟨some 9, .call (.f 217) [.rd] false [.c (.sl 3)] [(.t 8)], none⟩,
    ⟨some 10, .fad 1 (.t 3), none⟩,
    ⟨none, .store 1 (.t 10) (.t 9), none⟩]) (
  .seq (.reg false [⟨some 11, .fad 2 (.t 1), none⟩,
    ⟨some 12, .load false [(.sl 1)] (.t 11), none⟩,
    ⟨some 13, .call (.f 68) [.rd] false [.c (.sl 1)] [(.t 12)], none⟩,
    ⟨some 14, .fad 2 (.t 3), none⟩,
    ⟨none, .store 1 (.t 14) (.t 13), none⟩]) (
  .seq (.reg false [⟨some 15, .fad 3 (.t 1), none⟩,
    ⟨some 16, .load false [(.sl 2)] (.t 15), none⟩,
    ⟨some 17, .call (.f 218) [.rd] false [.c (.sl 2)] [(.t 16)], none⟩,
    ⟨some 18, .fad 3 (.t 3), none⟩,
    ⟨none, .store 1 (.t 18) (.t 17), none⟩]) (
  .seq (.reg false [⟨some 19, .load true [(.i .i64), (.sl 3), (.sl 1), (.sl 2)] (.t 3), none⟩,
    ⟨none, .store 4 (.t 2) (.t 19), none⟩]) (
  .ret))))))))⟩

theorem a183q (T : Table) (k : Nat) (n1 : Int) (l2 : Rows) (l3 : Rows) (l4 : Rows) : evalF T k a183 [(.g [(.v (.int .i64 n1)), (.s 3 l2), (.s 1 l3), (.s 2 l4)])] = (
 callT T 217 [(.d (.s 3 l2))] fun o5 =>
 oD o5.res fun d6 =>
 dL 3 d6 fun l7 =>
 callT T 68 [(.d (.s 1 l3))] fun o8 =>
 oD o8.res fun d9 =>
 dL 1 d9 fun l10 =>
 callT T 218 [(.d (.s 2 l4))] fun o11 =>
 oD o11.res fun d12 =>
 dL 2 d12 fun l13 =>
 some ⟨(.g [(.v (.int .i64 n1)), (.s 3 l7), (.s 1 l10), (.s 2 l13)]), []⟩) := by kernel_rfl
/- loop.example/g00119/laws.toOp -/

def a249 : AFun := ⟨[.rd], false, [.c 2 true [(.i .i64), (.sl 1), (.i .i64), .s, (.i .i64), (.sl 1), (.sl 5)]], (
  .seq (.reg false [⟨some 1, .box (.t 0), none⟩,
    ⟨some 2, .alloc [(.v (.int .i64 0)), (.s 1 []), (.v (.int .i64 0)), (.v (.string ByteArray.empty)), (.v (.int .i64 0)), (.s 1 []), (.s 5 [])], none⟩]) (
  .seq (.reg false [⟨some 3, .alloc [(.v (.int .i64 0)), (.s 1 []), (.v (.int .i64 0)), (.v (.string ByteArray.empty)), (.v (.int .i64 0)), (.s 1 []), (.s 5 [])], none⟩]) (
  .seq (.reg false [⟨some 4, .fad 0 (.t 1), none⟩,
    ⟨some 5, .load false [(.i .i64)] (.t 4), none⟩,
    ⟨some 6, .fad 0 (.t 3), none⟩,
    ⟨none, .store 1 (.t 6) (.t 5), none⟩]) (
  .seq (.reg false [⟨some 7, .fad 1 (.t 1), none⟩,
    ⟨some 8, .load false [(.sl 1)] (.t 7), none⟩,
    ⟨some 9, .call (.f 68) [.rd] false [.c (.sl 1)] [(.t 8)], none⟩,
    ⟨some 10, .fad 1 (.t 3), none⟩,
    ⟨none, .store 1 (.t 10) (.t 9), none⟩]) (
  .seq (.reg false [⟨some 11, .fad 2 (.t 1), none⟩,
    ⟨some 12, .load true [(.i .i64), .s, (.i .i64), (.sl 1), (.sl 5)] (.t 11), none⟩,
    ⟨some 13, .call (.f 176) [.rd] false [.g [(.i .i64), .s, (.i .i64), (.sl 1), (.sl 5)]] [(.t 12)], none⟩,
    ⟨some 14, .fad 2 (.t 3), none⟩,
    ⟨none, .store 5 (.t 14) (.t 13), none⟩]) (
  .seq (.reg false [⟨some 15, .load true [(.i .i64), (.sl 1), (.i .i64), .s, (.i .i64), (.sl 1), (.sl 5)] (.t 3), none⟩,
    ⟨none, .store 7 (.t 2) (.t 15), none⟩]) (
  .ret)))))))⟩

theorem a249q (T : Table) (k : Nat) (n1 : Int) (l2 : Rows) (n3 : Int) (s4 : ByteArray) (n5 : Int) (l6 : Rows) (l7 : Rows) : evalF T k a249 [(.g [(.v (.int .i64 n1)), (.s 1 l2), (.v (.int .i64 n3)), (.v (.string s4)), (.v (.int .i64 n5)), (.s 1 l6), (.s 5 l7)])] = (
 callT T 68 [(.d (.s 1 l2))] fun o8 =>
 oD o8.res fun d9 =>
 dL 1 d9 fun l10 =>
 callT T 176 [(.g [(.v (.int .i64 n3)), (.v (.string s4)), (.v (.int .i64 n5)), (.s 1 l6), (.s 5 l7)])] fun o11 =>
 oG o11.res fun r12 =>
 tst (Nat.beq r12.length 5) (
 cI .i64 r12 0 fun n13 =>
 cS r12 1 fun s14 =>
 cI .i64 r12 2 fun n15 =>
 cL 1 r12 3 fun l16 =>
 cL 5 r12 4 fun l17 =>
 some ⟨(.g [(.v (.int .i64 n1)), (.s 1 l10), (.v (.int .i64 n13)), (.v (.string s14)), (.v (.int .i64 n15)), (.s 1 l16), (.s 5 l17)]), []⟩)) := by kernel_rfl
/- loop.example/g00119/laws.toOpS -/
def b239x0 : ACode := (
  .seq (.seq (.reg false [⟨some 8, .mv (.t 4), none⟩,
    ⟨some 9, .mv (.t 0), none⟩,
    ⟨some 10, .len false (.t 9), none⟩,
    ⟨some 11, .bin .lss (.t 8) (.t 10), none⟩]) (
  .cond (.t 11) (.skip) (.exit 0))) (
  .seq (.block 1 (.reg false [⟨some 14, .mv (.t 3), none⟩,
      ⟨some 15, .mv (.t 4), none⟩,
      ⟨some 16, .mv (.t 0), none⟩,
      ⟨some 17, .mv (.t 4), none⟩,
      ⟨some 18, .iad 7 (.t 16) (.t 17), none⟩,
      ⟨some 19, .load true [(.i .i64), (.sl 1), (.i .i64), .s, (.i .i64), (.sl 1), (.sl 5)] (.t 18), none⟩,
      ⟨some 20, .call (.f 249) [.rd] false [.g [(.i .i64), (.sl 1), (.i .i64), .s, (.i .i64), (.sl 1), (.sl 5)]] [(.t 19)], none⟩,
      ⟨some 21, .iad 7 (.t 14) (.t 15), none⟩,
      ⟨none, .store 7 (.t 21) (.t 20), none⟩])) (
  .reg false [⟨some 12, .mv (.t 4), none⟩,
    ⟨some 13, .bin .add (.t 12) (.c (.v (.int .i64 1))), none⟩,
    ⟨some 4, .mv (.t 13), none⟩])))
def e239x0 : Exits := [((.exit 0), [(3, .o 7)])]
def l239x0 (T : Table) (k : Nat) := loopN (evalC ⟨T, []⟩ k b239x0 (Ex × List AV)) [0, 3, 4] e239x0
def a239 : AFun := ⟨[.rd], false, [.t 2], (
  .seq (.reg false [⟨some 2, .mv (.c (.o 7 [])), none⟩]) (
  .seq (.reg false [⟨some 5, .mv (.t 0), none⟩,
    ⟨some 6, .len false (.t 5), none⟩,
    ⟨some 7, .mk [(.v (.int .i64 0)), (.s 1 []), (.v (.int .i64 0)), (.v (.string ByteArray.empty)), (.v (.int .i64 0)), (.s 1 []), (.s 5 [])] 112 (.t 6) (.t 6), none⟩,
    ⟨some 3, .mv (.t 7), none⟩]) (
  .seq (.seq (.reg false [⟨some 4, .mv (.c (.v (.int .i64 0))), none⟩]) (
  .block 0 (.loop [0, 3, 4] e239x0 b239x0))) (
  .seq (.reg false [⟨some 22, .mv (.t 3), none⟩,
    ⟨some 2, .mv (.t 22), none⟩]) (
  .ret)))))⟩
theorem l239x0s (T : Table) (k n : Nat) (l2 : Rows) (l3 : Rows) (n4 : Int) : l239x0 T k (n + 1) [(.fz 7 l2), (.o 7 l3), (.v (.int .i64 n4))] = (
 bif (decide (n4 < (l2.length : Int))) then (
 tst (decide (0 ≤ n4)) (
 look l2 (Int.toNat n4) fun r5 =>
 cI .i64 r5 0 fun n6 =>
 cL 1 r5 1 fun l7 =>
 cI .i64 r5 2 fun n8 =>
 cS r5 3 fun s9 =>
 cI .i64 r5 4 fun n10 =>
 cL 1 r5 5 fun l11 =>
 cL 5 r5 6 fun l12 =>
 callT T 249 [(.g [(.v (.int .i64 n6)), (.s 1 l7), (.v (.int .i64 n8)), (.v (.string s9)), (.v (.int .i64 n10)), (.s 1 l11), (.s 5 l12)])] fun o13 =>
 oG o13.res fun r14 =>
 tst (Nat.beq r14.length 7) (
 cI .i64 r14 0 fun n15 =>
 cL 1 r14 1 fun l16 =>
 cI .i64 r14 2 fun n17 =>
 cS r14 3 fun s18 =>
 cI .i64 r14 4 fun n19 =>
 cL 1 r14 5 fun l20 =>
 cL 5 r14 6 fun l21 =>
 tst (decide (0 ≤ n4) && decide (Int.toNat n4 < l3.length)) (
 l239x0 T k n [(.fz 7 l2), (.o 7 (setD (setD (setD (setD (setD (setD (setD (setD (setD (setD l3 (Int.toNat n4) 0 (.v (.int .i64 n15))) (Int.toNat n4) 1 hole) (Int.toNat n4) 2 (.v (.int .i64 n17))) (Int.toNat n4) 3 (.v (.string s18))) (Int.toNat n4) 4 (.v (.int .i64 n19))) (Int.toNat n4) 5 hole) (Int.toNat n4) 6 hole) (Int.toNat n4) 6 (.s 5 l21)) (Int.toNat n4) 5 (.s 1 l20)) (Int.toNat n4) 1 (.s 1 l16))), (.v (.int .i64 (IntKind.wrap .i64 (n4 + 1))))])))) else (
 some ((.exit 0), [(.o 7 l3)]))) := by kernel_rfl
theorem a239q (T : Table) (k : Nat) (l1 : Rows) : evalF T k a239 [(.d (.s 7 l1))] = (
 tst (cutOk (l1.length : Int) (l1.length : Int) maxLen && decide (Int.toNat (l1.length : Int) * 112 ≤ maxBytes)) (
 aft (l239x0 T k k [(.fz 7 l1), (.o 7 (List.replicate (Int.toNat (l1.length : Int)) [(.v (.int .i64 0)), (.s 1 []), (.v (.int .i64 0)), (.v (.string ByteArray.empty)), (.v (.int .i64 0)), (.s 1 []), (.s 5 [])])), (.v (.int .i64 0))]) fun e22 ys23 =>
 bif e22.same (.exit 0) then (
 aV ys23 0 fun x24 =>
 aO 7 x24 fun l25 =>
 some ⟨(.d (.s 7 l25)), []⟩) else (
 none))) := by kernel_rfl
/- loop.example/g00119/laws.toOver -/

def a219 : AFun := ⟨[.rd], false, [.c 2 true [.s, (.sl 7)]], (
  .seq (.reg false [⟨some 1, .box (.t 0), none⟩,
    ⟨some 2, .alloc [(.v (.string ByteArray.empty)), (.s 7 [])], none⟩]) (
  .seq (.reg false [⟨some 3, .alloc [(.v (.string ByteArray.empty)), (.s 7 [])], none⟩]) (
  .seq (.reg false [⟨some 4, .fad 0 (.t 1), none⟩,
    ⟨some 5, .load false [.s] (.t 4), none⟩,
    ⟨some 6, .fad 0 (.t 3), none⟩,
    ⟨none, .store 1 (.t 6) (.t 5), none⟩]) (
  .seq (.reg false [⟨some 7, .fad 1 (.t 1), none⟩,
    ⟨some 8, .load false [(.sl 7)] (.t 7), none⟩,
    ⟨some 9, .call (.f 239) [.rd] false [.c (.sl 7)] [(.t 8)], none⟩,
    ⟨some 10, .fad 1 (.t 3), none⟩,
    ⟨none, .store 1 (.t 10) (.t 9), none⟩]) (
  .seq (.reg false [⟨some 11, .load true [.s, (.sl 7)] (.t 3), none⟩,
    ⟨none, .store 2 (.t 2) (.t 11), none⟩]) (
  .ret))))))⟩

theorem a219q (T : Table) (k : Nat) (s1 : ByteArray) (l2 : Rows) : evalF T k a219 [(.g [(.v (.string s1)), (.s 7 l2)])] = (
 callT T 239 [(.d (.s 7 l2))] fun o3 =>
 oD o3.res fun d4 =>
 dL 7 d4 fun l5 =>
 some ⟨(.g [(.v (.string s1)), (.s 7 l5)]), []⟩) := by kernel_rfl
/- loop.example/g00119/laws.toOverS -/
def b184x0 : ACode := (
  .seq (.seq (.reg false [⟨some 8, .mv (.t 4), none⟩,
    ⟨some 9, .mv (.t 0), none⟩,
    ⟨some 10, .len false (.t 9), none⟩,
    ⟨some 11, .bin .lss (.t 8) (.t 10), none⟩]) (
  .cond (.t 11) (.skip) (.exit 0))) (
  .seq (.block 1 (.reg false [⟨some 14, .mv (.t 3), none⟩,
      ⟨some 15, .mv (.t 4), none⟩,
      ⟨some 16, .mv (.t 0), none⟩,
      ⟨some 17, .mv (.t 4), none⟩,
      ⟨some 18, .iad 2 (.t 16) (.t 17), none⟩,
      ⟨some 19, .load true [.s, (.sl 7)] (.t 18), none⟩,
      ⟨some 20, .call (.f 219) [.rd] false [.g [.s, (.sl 7)]] [(.t 19)], none⟩,
      ⟨some 21, .iad 2 (.t 14) (.t 15), none⟩,
      ⟨none, .store 2 (.t 21) (.t 20), none⟩])) (
  .reg false [⟨some 12, .mv (.t 4), none⟩,
    ⟨some 13, .bin .add (.t 12) (.c (.v (.int .i64 1))), none⟩,
    ⟨some 4, .mv (.t 13), none⟩])))
def e184x0 : Exits := [((.exit 0), [(3, .o 2)])]
def l184x0 (T : Table) (k : Nat) := loopN (evalC ⟨T, []⟩ k b184x0 (Ex × List AV)) [0, 3, 4] e184x0
def a184 : AFun := ⟨[.rd], false, [.t 2], (
  .seq (.reg false [⟨some 2, .mv (.c (.o 2 [])), none⟩]) (
  .seq (.reg false [⟨some 5, .mv (.t 0), none⟩,
    ⟨some 6, .len false (.t 5), none⟩,
    ⟨some 7, .mk [(.v (.string ByteArray.empty)), (.s 7 [])] 40 (.t 6) (.t 6), none⟩,
    ⟨some 3, .mv (.t 7), none⟩]) (
  .seq (.seq (.reg false [⟨some 4, .mv (.c (.v (.int .i64 0))), none⟩]) (
  .block 0 (.loop [0, 3, 4] e184x0 b184x0))) (
  .seq (.reg false [⟨some 22, .mv (.t 3), none⟩,
    ⟨some 2, .mv (.t 22), none⟩]) (
  .ret)))))⟩
theorem l184x0s (T : Table) (k n : Nat) (l2 : Rows) (l3 : Rows) (n4 : Int) : l184x0 T k (n + 1) [(.fz 2 l2), (.o 2 l3), (.v (.int .i64 n4))] = (
 bif (decide (n4 < (l2.length : Int))) then (
 tst (decide (0 ≤ n4)) (
 look l2 (Int.toNat n4) fun r5 =>
 cS r5 0 fun s6 =>
 cL 7 r5 1 fun l7 =>
 callT T 219 [(.g [(.v (.string s6)), (.s 7 l7)])] fun o8 =>
 oG o8.res fun r9 =>
 tst (Nat.beq r9.length 2) (
 cS r9 0 fun s10 =>
 cL 7 r9 1 fun l11 =>
 tst (decide (0 ≤ n4) && decide (Int.toNat n4 < l3.length)) (
 l184x0 T k n [(.fz 2 l2), (.o 2 (setD (setD (setD l3 (Int.toNat n4) 0 (.v (.string s10))) (Int.toNat n4) 1 hole) (Int.toNat n4) 1 (.s 7 l11))), (.v (.int .i64 (IntKind.wrap .i64 (n4 + 1))))])))) else (
 some ((.exit 0), [(.o 2 l3)]))) := by kernel_rfl
theorem a184q (T : Table) (k : Nat) (l1 : Rows) : evalF T k a184 [(.d (.s 2 l1))] = (
 tst (cutOk (l1.length : Int) (l1.length : Int) maxLen && decide (Int.toNat (l1.length : Int) * 40 ≤ maxBytes)) (
 aft (l184x0 T k k [(.fz 2 l1), (.o 2 (List.replicate (Int.toNat (l1.length : Int)) [(.v (.string ByteArray.empty)), (.s 7 [])])), (.v (.int .i64 0))]) fun e12 ys13 =>
 bif e12.same (.exit 0) then (
 aV ys13 0 fun x14 =>
 aO 2 x14 fun l15 =>
 some ⟨(.d (.s 2 l15)), []⟩) else (
 none))) := by kernel_rfl
/- loop.example/g00119/laws.toJob -/

def a139 : AFun := ⟨[.rd], false, [.c 2 true [(.i .i64), .s, (.i .i64), (.sl 3), (.sl 1), (.sl 2), (.i .i64), .s, (.i .i64), (.sl 1), (.sl 5), (.sl 2), .b]], (
  .seq (.reg false [⟨some 1, .box (.t 0), none⟩,
    ⟨some 2, .alloc [(.v (.int .i64 0)), (.v (.string ByteArray.empty)), (.v (.int .i64 0)), (.s 3 []), (.s 1 []), (.s 2 []), (.v (.int .i64 0)), (.v (.string ByteArray.empty)), (.v (.int .i64 0)), (.s 1 []), (.s 5 []), (.s 2 []), (.v (.bool false))], none⟩]) (
  .seq (.reg false [⟨some 3, .alloc [(.v (.int .i64 0)), (.v (.string ByteArray.empty)), (.v (.int .i64 0)), (.s 3 []), (.s 1 []), (.s 2 []), (.v (.int .i64 0)), (.v (.string ByteArray.empty)), (.v (.int .i64 0)), (.s 1 []), (.s 5 []), (.s 2 []), (.v (.bool false))], none⟩]) (
  .seq (.reg false [⟨some 4, .fad 0 (.t 1), none⟩,
    ⟨some 5, .load false [(.i .i64)] (.t 4), none⟩,
    ⟨some 6, .fad 0 (.t 3), none⟩,
    ⟨none, .store 1 (.t 6) (.t 5), none⟩]) (
  .seq (.reg false [⟨some 7, .fad 1 (.t 1), none⟩,
    ⟨some 8, .load false [.s] (.t 7), none⟩,
    ⟨some 9, .fad 1 (.t 3), none⟩,
    ⟨none, .store 1 (.t 9) (.t 8), none⟩]) (
  .seq (.reg false [⟨some 10, .fad 2 (.t 1), none⟩,
    ⟨some 11, .load true [(.i .i64), (.sl 3), (.sl 1), (.sl 2)] (.t 10), none⟩,
    ⟨some 12, .call (.f 183) [.rd] false [.g [(.i .i64), (.sl 3), (.sl 1), (.sl 2)]] [(.t 11)], none⟩,
    ⟨some 13, .fad 2 (.t 3), none⟩,
    ⟨none, .store 4 (.t 13) (.t 12), none⟩]) (
  .seq (.reg false [⟨some 14, .fad 6 (.t 1), none⟩,
    ⟨some 15, .load true [(.i .i64), .s, (.i .i64), (.sl 1), (.sl 5)] (.t 14), none⟩,
    ⟨some 16, .call (.f 176) [.rd] false [.g [(.i .i64), .s, (.i .i64), (.sl 1), (.sl 5)]] [(.t 15)], none⟩,
    ⟨some 17, .fad 6 (.t 3), none⟩,
    ⟨none, .store 5 (.t 17) (.t 16), none⟩]) (
  .seq (.reg false [⟨some 18, .fad 11 (.t 1), none⟩,
    ⟨some 19, .load false [(.sl 2)] (.t 18), none⟩,
    ⟨some 20, .call (.f 184) [.rd] false [.c (.sl 2)] [(.t 19)], none⟩,
    ⟨some 21, .fad 11 (.t 3), none⟩,
    ⟨none, .store 1 (.t 21) (.t 20), none⟩]) (
  .seq (.reg false [⟨some 22, .fad 12 (.t 1), none⟩,
    ⟨some 23, .load false [.b] (.t 22), none⟩,
    ⟨some 24, .fad 12 (.t 3), none⟩,
    ⟨none, .store 1 (.t 24) (.t 23), none⟩]) (
  .seq (.reg false [⟨some 25, .load true [(.i .i64), .s, (.i .i64), (.sl 3), (.sl 1), (.sl 2), (.i .i64), .s, (.i .i64), (.sl 1), (.sl 5), (.sl 2), .b] (.t 3), none⟩,
    ⟨none, .store 13 (.t 2) (.t 25), none⟩]) (
  .ret))))))))))⟩

theorem a139q (T : Table) (k : Nat) (n1 : Int) (s2 : ByteArray) (n3 : Int) (l4 : Rows) (l5 : Rows) (l6 : Rows) (n7 : Int) (s8 : ByteArray) (n9 : Int) (l10 : Rows) (l11 : Rows) (l12 : Rows) (b13 : Bool) : evalF T k a139 [(.g [(.v (.int .i64 n1)), (.v (.string s2)), (.v (.int .i64 n3)), (.s 3 l4), (.s 1 l5), (.s 2 l6), (.v (.int .i64 n7)), (.v (.string s8)), (.v (.int .i64 n9)), (.s 1 l10), (.s 5 l11), (.s 2 l12), (.v (.bool b13))])] = (
 callT T 183 [(.g [(.v (.int .i64 n3)), (.s 3 l4), (.s 1 l5), (.s 2 l6)])] fun o14 =>
 oG o14.res fun r15 =>
 tst (Nat.beq r15.length 4) (
 cI .i64 r15 0 fun n16 =>
 cL 3 r15 1 fun l17 =>
 cL 1 r15 2 fun l18 =>
 cL 2 r15 3 fun l19 =>
 callT T 176 [(.g [(.v (.int .i64 n7)), (.v (.string s8)), (.v (.int .i64 n9)), (.s 1 l10), (.s 5 l11)])] fun o20 =>
 oG o20.res fun r21 =>
 tst (Nat.beq r21.length 5) (
 cI .i64 r21 0 fun n22 =>
 cS r21 1 fun s23 =>
 cI .i64 r21 2 fun n24 =>
 cL 1 r21 3 fun l25 =>
 cL 5 r21 4 fun l26 =>
 callT T 184 [(.d (.s 2 l12))] fun o27 =>
 oD o27.res fun d28 =>
 dL 2 d28 fun l29 =>
 some ⟨(.g [(.v (.int .i64 n1)), (.v (.string s2)), (.v (.int .i64 n16)), (.s 3 l17), (.s 1 l18), (.s 2 l19), (.v (.int .i64 n22)), (.v (.string s23)), (.v (.int .i64 n24)), (.s 1 l25), (.s 5 l26), (.s 2 l29), (.v (.bool b13))]), []⟩))) := by kernel_rfl
/- loop.example/g00119/laws.toJobS -/
def b65x0 : ACode := (
  .seq (.seq (.reg false [⟨some 8, .mv (.t 4), none⟩,
    ⟨some 9, .mv (.t 0), none⟩,
    ⟨some 10, .len false (.t 9), none⟩,
    ⟨some 11, .bin .lss (.t 8) (.t 10), none⟩]) (
  .cond (.t 11) (.skip) (.exit 0))) (
  .seq (.block 1 (.reg false [⟨some 14, .mv (.t 3), none⟩,
      ⟨some 15, .mv (.t 4), none⟩,
      ⟨some 16, .mv (.t 0), none⟩,
      ⟨some 17, .mv (.t 4), none⟩,
      ⟨some 18, .iad 13 (.t 16) (.t 17), none⟩,
      ⟨some 19, .load true [(.i .i64), .s, (.i .i64), (.sl 3), (.sl 1), (.sl 2), (.i .i64), .s, (.i .i64), (.sl 1), (.sl 5), (.sl 2), .b] (.t 18), none⟩,
      ⟨some 20, .call (.f 139) [.rd] false [.g [(.i .i64), .s, (.i .i64), (.sl 3), (.sl 1), (.sl 2), (.i .i64), .s, (.i .i64), (.sl 1), (.sl 5), (.sl 2), .b]] [(.t 19)], none⟩,
      ⟨some 21, .iad 13 (.t 14) (.t 15), none⟩,
      ⟨none, .store 13 (.t 21) (.t 20), none⟩])) (
  .reg false [⟨some 12, .mv (.t 4), none⟩,
    ⟨some 13, .bin .add (.t 12) (.c (.v (.int .i64 1))), none⟩,
    ⟨some 4, .mv (.t 13), none⟩])))
def e65x0 : Exits := [((.exit 0), [(3, .o 13)])]
def l65x0 (T : Table) (k : Nat) := loopN (evalC ⟨T, []⟩ k b65x0 (Ex × List AV)) [0, 3, 4] e65x0
def a65 : AFun := ⟨[.rd], false, [.t 2], (
  .seq (.reg false [⟨some 2, .mv (.c (.o 13 [])), none⟩]) (
  .seq (.reg false [⟨some 5, .mv (.t 0), none⟩,
    ⟨some 6, .len false (.t 5), none⟩,
    ⟨some 7, .mk [(.v (.int .i64 0)), (.v (.string ByteArray.empty)), (.v (.int .i64 0)), (.s 3 []), (.s 1 []), (.s 2 []), (.v (.int .i64 0)), (.v (.string ByteArray.empty)), (.v (.int .i64 0)), (.s 1 []), (.s 5 []), (.s 2 []), (.v (.bool false))] 216 (.t 6) (.t 6), none⟩,
    ⟨some 3, .mv (.t 7), none⟩]) (
  .seq (.seq (.reg false [⟨some 4, .mv (.c (.v (.int .i64 0))), none⟩]) (
  .block 0 (.loop [0, 3, 4] e65x0 b65x0))) (
  .seq (.reg false [⟨some 22, .mv (.t 3), none⟩,
    ⟨some 2, .mv (.t 22), none⟩]) (
  .ret)))))⟩
theorem l65x0s (T : Table) (k n : Nat) (l2 : Rows) (l3 : Rows) (n4 : Int) : l65x0 T k (n + 1) [(.fz 13 l2), (.o 13 l3), (.v (.int .i64 n4))] = (
 bif (decide (n4 < (l2.length : Int))) then (
 tst (decide (0 ≤ n4)) (
 look l2 (Int.toNat n4) fun r5 =>
 cI .i64 r5 0 fun n6 =>
 cS r5 1 fun s7 =>
 cI .i64 r5 2 fun n8 =>
 cL 3 r5 3 fun l9 =>
 cL 1 r5 4 fun l10 =>
 cL 2 r5 5 fun l11 =>
 cI .i64 r5 6 fun n12 =>
 cS r5 7 fun s13 =>
 cI .i64 r5 8 fun n14 =>
 cL 1 r5 9 fun l15 =>
 cL 5 r5 10 fun l16 =>
 cL 2 r5 11 fun l17 =>
 cB r5 12 fun b18 =>
 callT T 139 [(.g [(.v (.int .i64 n6)), (.v (.string s7)), (.v (.int .i64 n8)), (.s 3 l9), (.s 1 l10), (.s 2 l11), (.v (.int .i64 n12)), (.v (.string s13)), (.v (.int .i64 n14)), (.s 1 l15), (.s 5 l16), (.s 2 l17), (.v (.bool b18))])] fun o19 =>
 oG o19.res fun r20 =>
 tst (Nat.beq r20.length 13) (
 cI .i64 r20 0 fun n21 =>
 cS r20 1 fun s22 =>
 cI .i64 r20 2 fun n23 =>
 cL 3 r20 3 fun l24 =>
 cL 1 r20 4 fun l25 =>
 cL 2 r20 5 fun l26 =>
 cI .i64 r20 6 fun n27 =>
 cS r20 7 fun s28 =>
 cI .i64 r20 8 fun n29 =>
 cL 1 r20 9 fun l30 =>
 cL 5 r20 10 fun l31 =>
 cL 2 r20 11 fun l32 =>
 cB r20 12 fun b33 =>
 tst (decide (0 ≤ n4) && decide (Int.toNat n4 < l3.length)) (
 l65x0 T k n [(.fz 13 l2), (.o 13 (setD (setD (setD (setD (setD (setD (setD (setD (setD (setD (setD (setD (setD (setD (setD (setD (setD (setD (setD l3 (Int.toNat n4) 0 (.v (.int .i64 n21))) (Int.toNat n4) 1 (.v (.string s22))) (Int.toNat n4) 2 (.v (.int .i64 n23))) (Int.toNat n4) 3 hole) (Int.toNat n4) 4 hole) (Int.toNat n4) 5 hole) (Int.toNat n4) 6 (.v (.int .i64 n27))) (Int.toNat n4) 7 (.v (.string s28))) (Int.toNat n4) 8 (.v (.int .i64 n29))) (Int.toNat n4) 9 hole) (Int.toNat n4) 10 hole) (Int.toNat n4) 11 hole) (Int.toNat n4) 12 (.v (.bool b33))) (Int.toNat n4) 11 (.s 2 l32)) (Int.toNat n4) 10 (.s 5 l31)) (Int.toNat n4) 9 (.s 1 l30)) (Int.toNat n4) 5 (.s 2 l26)) (Int.toNat n4) 4 (.s 1 l25)) (Int.toNat n4) 3 (.s 3 l24))), (.v (.int .i64 (IntKind.wrap .i64 (n4 + 1))))])))) else (
 some ((.exit 0), [(.o 13 l3)]))) := by kernel_rfl
theorem a65q (T : Table) (k : Nat) (l1 : Rows) : evalF T k a65 [(.d (.s 13 l1))] = (
 tst (cutOk (l1.length : Int) (l1.length : Int) maxLen && decide (Int.toNat (l1.length : Int) * 216 ≤ maxBytes)) (
 aft (l65x0 T k k [(.fz 13 l1), (.o 13 (List.replicate (Int.toNat (l1.length : Int)) [(.v (.int .i64 0)), (.v (.string ByteArray.empty)), (.v (.int .i64 0)), (.s 3 []), (.s 1 []), (.s 2 []), (.v (.int .i64 0)), (.v (.string ByteArray.empty)), (.v (.int .i64 0)), (.s 1 []), (.s 5 []), (.s 2 []), (.v (.bool false))])), (.v (.int .i64 0))]) fun e34 ys35 =>
 bif e34.same (.exit 0) then (
 aV ys35 0 fun x36 =>
 aO 13 x36 fun l37 =>
 some ⟨(.d (.s 13 l37)), []⟩) else (
 none))) := by kernel_rfl
/- loop.example/g00119/laws.toLabel -/

def a240 : AFun := ⟨[.rd], false, [.c 2 true [.s, .s]], (
  .seq (.reg false [⟨some 1, .box (.t 0), none⟩,
    ⟨some 2, .alloc [(.v (.string ByteArray.empty)), (.v (.string ByteArray.empty))], none⟩]) (
  .seq (.reg false [⟨some 3, .alloc [(.v (.string ByteArray.empty)), (.v (.string ByteArray.empty))], none⟩]) (
  .seq (.reg false [⟨some 4, .fad 0 (.t 1), none⟩,
    ⟨some 5, .load false [.s] (.t 4), none⟩,
    ⟨some 6, .fad 0 (.t 3), none⟩,
    ⟨none, .store 1 (.t 6) (.t 5), none⟩]) (
  .seq (.reg false [⟨some 7, .fad 1 (.t 1), none⟩,
    ⟨some 8, .load false [.s] (.t 7), none⟩,
    ⟨some 9, .fad 1 (.t 3), none⟩,
    ⟨none, .store 1 (.t 9) (.t 8), none⟩]) (
  .seq (.reg false [⟨some 10, .load true [.s, .s] (.t 3), none⟩,
    ⟨none, .store 2 (.t 2) (.t 10), none⟩]) (
  .ret))))))⟩

theorem a240q (T : Table) (k : Nat) (s1 : ByteArray) (s2 : ByteArray) : evalF T k a240 [(.g [(.v (.string s1)), (.v (.string s2))])] = (
 some ⟨(.g [(.v (.string s1)), (.v (.string s2))]), []⟩) := by kernel_rfl
/- loop.example/g00119/laws.toLabelS -/
def b220x0 : ACode := (
  .seq (.seq (.reg false [⟨some 8, .mv (.t 4), none⟩,
    ⟨some 9, .mv (.t 0), none⟩,
    ⟨some 10, .len false (.t 9), none⟩,
    ⟨some 11, .bin .lss (.t 8) (.t 10), none⟩]) (
  .cond (.t 11) (.skip) (.exit 0))) (
  .seq (.block 1 (.reg false [⟨some 14, .mv (.t 3), none⟩,
      ⟨some 15, .mv (.t 4), none⟩,
      ⟨some 16, .mv (.t 0), none⟩,
      ⟨some 17, .mv (.t 4), none⟩,
      ⟨some 18, .iad 2 (.t 16) (.t 17), none⟩,
      ⟨some 19, .load true [.s, .s] (.t 18), none⟩,
      ⟨some 20, .call (.f 240) [.rd] false [.g [.s, .s]] [(.t 19)], none⟩,
      ⟨some 21, .iad 2 (.t 14) (.t 15), none⟩,
      ⟨none, .store 2 (.t 21) (.t 20), none⟩])) (
  .reg false [⟨some 12, .mv (.t 4), none⟩,
    ⟨some 13, .bin .add (.t 12) (.c (.v (.int .i64 1))), none⟩,
    ⟨some 4, .mv (.t 13), none⟩])))
def e220x0 : Exits := [((.exit 0), [(3, .o 2)])]
def l220x0 (T : Table) (k : Nat) := loopN (evalC ⟨T, []⟩ k b220x0 (Ex × List AV)) [0, 3, 4] e220x0
def a220 : AFun := ⟨[.rd], false, [.t 2], (
  .seq (.reg false [⟨some 2, .mv (.c (.o 2 [])), none⟩]) (
  .seq (.reg false [⟨some 5, .mv (.t 0), none⟩,
    ⟨some 6, .len false (.t 5), none⟩,
    ⟨some 7, .mk [(.v (.string ByteArray.empty)), (.v (.string ByteArray.empty))] 32 (.t 6) (.t 6), none⟩,
    ⟨some 3, .mv (.t 7), none⟩]) (
  .seq (.seq (.reg false [⟨some 4, .mv (.c (.v (.int .i64 0))), none⟩]) (
  .block 0 (.loop [0, 3, 4] e220x0 b220x0))) (
  .seq (.reg false [⟨some 22, .mv (.t 3), none⟩,
    ⟨some 2, .mv (.t 22), none⟩]) (
  .ret)))))⟩
theorem l220x0s (T : Table) (k n : Nat) (l2 : Rows) (l3 : Rows) (n4 : Int) : l220x0 T k (n + 1) [(.fz 2 l2), (.o 2 l3), (.v (.int .i64 n4))] = (
 bif (decide (n4 < (l2.length : Int))) then (
 tst (decide (0 ≤ n4)) (
 look l2 (Int.toNat n4) fun r5 =>
 cS r5 0 fun s6 =>
 cS r5 1 fun s7 =>
 callT T 240 [(.g [(.v (.string s6)), (.v (.string s7))])] fun o8 =>
 oG o8.res fun r9 =>
 tst (Nat.beq r9.length 2) (
 cS r9 0 fun s10 =>
 cS r9 1 fun s11 =>
 tst (decide (0 ≤ n4) && decide (Int.toNat n4 < l3.length)) (
 l220x0 T k n [(.fz 2 l2), (.o 2 (setD (setD l3 (Int.toNat n4) 0 (.v (.string s10))) (Int.toNat n4) 1 (.v (.string s11)))), (.v (.int .i64 (IntKind.wrap .i64 (n4 + 1))))])))) else (
 some ((.exit 0), [(.o 2 l3)]))) := by kernel_rfl
theorem a220q (T : Table) (k : Nat) (l1 : Rows) : evalF T k a220 [(.d (.s 2 l1))] = (
 tst (cutOk (l1.length : Int) (l1.length : Int) maxLen && decide (Int.toNat (l1.length : Int) * 32 ≤ maxBytes)) (
 aft (l220x0 T k k [(.fz 2 l1), (.o 2 (List.replicate (Int.toNat (l1.length : Int)) [(.v (.string ByteArray.empty)), (.v (.string ByteArray.empty))])), (.v (.int .i64 0))]) fun e12 ys13 =>
 bif e12.same (.exit 0) then (
 aV ys13 0 fun x14 =>
 aO 2 x14 fun l15 =>
 some ⟨(.d (.s 2 l15)), []⟩) else (
 none))) := by kernel_rfl

-- a221 "internal/bytealg.abigen_runtime_cmpstring": IndexError('list index out of range')
/- loop.example/g00119/laws.toIsland -/

def a185 : AFun := ⟨[.rd], false, [.c 2 true [.s, (.sl 2), (.sl 1), (.i .i64)]], (
  .seq (.reg false [⟨some 1, .box (.t 0), none⟩,
    ⟨some 2, .alloc [(.v (.string ByteArray.empty)), (.s 2 []), (.s 1 []), (.v (.int .i64 0))], none⟩]) (
  .seq (.reg false [⟨some 3, .alloc [(.v (.string ByteArray.empty)), (.s 2 []), (.s 1 []), (.v (.int .i64 0))], none⟩]) (
  .seq (.reg false [⟨some 4, .fad 0 (.t 1), none⟩,
    ⟨some 5, .load false [.s] (.t 4), none⟩,
    ⟨some 6, .fad 0 (.t 3), none⟩,
    ⟨none, .store 1 (.t 6) (.t 5), none⟩]) (
  .seq (.reg false [⟨some 7, .fad 1 (.t 1), none⟩,
    ⟨some 8, .load false [(.sl 2)] (.t 7), none⟩,
    ⟨some 9, .call (.f 220) [.rd] false [.c (.sl 2)] [(.t 8)], none⟩,
    ⟨some 10, .fad 1 (.t 3), none⟩,
    ⟨none, .store 1 (.t 10) (.t 9), none⟩]) (
  .seq (.reg false [⟨some 11, .fad 2 (.t 1), none⟩,
    ⟨some 12, .load false [(.sl 1)] (.t 11), none⟩,
    ⟨some 13, .call (.f 68) [.rd] false [.c (.sl 1)] [(.t 12)], none⟩,
    ⟨some 14, .fad 2 (.t 3), none⟩,
    ⟨none, .store 1 (.t 14) (.t 13), none⟩]) (
  .seq (.reg false [⟨some 15, .fad 3 (.t 1), none⟩,
    ⟨some 16, .load false [(.i .i64)] (.t 15), none⟩,
    ⟨some 17, .fad 3 (.t 3), none⟩,
    ⟨none, .store 1 (.t 17) (.t 16), none⟩]) (
  .seq (.reg false [⟨some 18, .load true [.s, (.sl 2), (.sl 1), (.i .i64)] (.t 3), none⟩,
    ⟨none, .store 4 (.t 2) (.t 18), none⟩]) (
  .ret))))))))⟩

theorem a185q (T : Table) (k : Nat) (s1 : ByteArray) (l2 : Rows) (l3 : Rows) (n4 : Int) : evalF T k a185 [(.g [(.v (.string s1)), (.s 2 l2), (.s 1 l3), (.v (.int .i64 n4))])] = (
 callT T 220 [(.d (.s 2 l2))] fun o5 =>
 oD o5.res fun d6 =>
 dL 2 d6 fun l7 =>
 callT T 68 [(.d (.s 1 l3))] fun o8 =>
 oD o8.res fun d9 =>
 dL 1 d9 fun l10 =>
 some ⟨(.g [(.v (.string s1)), (.s 2 l7), (.s 1 l10), (.v (.int .i64 n4))]), []⟩) := by kernel_rfl
/- loop.example/g00119/laws.toPost -/

def a140 : AFun := ⟨[.rd], false, [.c 2 true [.s, (.sl 2), (.sl 1), (.i .i64), (.i .i64), (.i .i64)]], (
  .seq (.reg false [⟨some 1, .box (.t 0), none⟩,
    ⟨some 2, .alloc [(.v (.string ByteArray.empty)), (.s 2 []), (.s 1 []), (.v (.int .i64 0)), (.v (.int .i64 0)), (.v (.int .i64 0))], none⟩]) (
  .seq (.reg false [⟨some 3, .alloc [(.v (.string ByteArray.empty)), (.s 2 []), (.s 1 []), (.v (.int .i64 0)), (.v (.int .i64 0)), (.v (.int .i64 0))], none⟩]) (
  .seq (.reg false [⟨some 4, .fad 0 (.t 1), none⟩,
    ⟨some 5, .load true [.s, (.sl 2), (.sl 1), (.i .i64)] (.t 4), none⟩,
    ⟨some 6, .call (.f 185) [.rd] false [.g [.s, (.sl 2), (.sl 1), (.i .i64)]] [(.t 5)], none⟩,
    ⟨some 7, .fad 0 (.t 3), none⟩,
    ⟨none, .store 4 (.t 7) (.t 6), none⟩]) (
  .seq (.reg false [⟨some 8, .fad 4 (.t 1), none⟩,
    ⟨some 9, .load false [(.i .i64)] (.t 8), none⟩,
    ⟨some 10, .fad 4 (.t 3), none⟩,
    ⟨none, .store 1 (.t 10) (.t 9), none⟩]) (
  .seq (.reg false [⟨some 11, .fad 5 (.t 1), none⟩,
    ⟨some 12, .load false [(.i .i64)] (.t 11), none⟩,
    ⟨some 13, .fad 5 (.t 3), none⟩,
    ⟨none, .store 1 (.t 13) (.t 12), none⟩]) (
  .seq (.reg false [⟨some 14, .load true [.s, (.sl 2), (.sl 1), (.i .i64), (.i .i64), (.i .i64)] (.t 3), none⟩,
    ⟨none, .store 6 (.t 2) (.t 14), none⟩]) (
  .ret)))))))⟩

theorem a140q (T : Table) (k : Nat) (s1 : ByteArray) (l2 : Rows) (l3 : Rows) (n4 : Int) (n5 : Int) (n6 : Int) : evalF T k a140 [(.g [(.v (.string s1)), (.s 2 l2), (.s 1 l3), (.v (.int .i64 n4)), (.v (.int .i64 n5)), (.v (.int .i64 n6))])] = (
 callT T 185 [(.g [(.v (.string s1)), (.s 2 l2), (.s 1 l3), (.v (.int .i64 n4))])] fun o7 =>
 oG o7.res fun r8 =>
 tst (Nat.beq r8.length 4) (
 cS r8 0 fun s9 =>
 cL 2 r8 1 fun l10 =>
 cL 1 r8 2 fun l11 =>
 cI .i64 r8 3 fun n12 =>
 some ⟨(.g [(.v (.string s9)), (.s 2 l10), (.s 1 l11), (.v (.int .i64 n12)), (.v (.int .i64 n5)), (.v (.int .i64 n6))]), []⟩)) := by kernel_rfl
/- loop.example/g00119/laws.toPostS -/
def b66x0 : ACode := (
  .seq (.seq (.reg false [⟨some 8, .mv (.t 4), none⟩,
    ⟨some 9, .mv (.t 0), none⟩,
    ⟨some 10, .len false (.t 9), none⟩,
    ⟨some 11, .bin .lss (.t 8) (.t 10), none⟩]) (
  .cond (.t 11) (.skip) (.exit 0))) (
  .seq (.block 1 (.reg false [⟨some 14, .mv (.t 3), none⟩,
      ⟨some 15, .mv (.t 4), none⟩,
      ⟨some 16, .mv (.t 0), none⟩,
      ⟨some 17, .mv (.t 4), none⟩,
      ⟨some 18, .iad 6 (.t 16) (.t 17), none⟩,
      ⟨some 19, .load true [.s, (.sl 2), (.sl 1), (.i .i64), (.i .i64), (.i .i64)] (.t 18), none⟩,
      ⟨some 20, .call (.f 140) [.rd] false [.g [.s, (.sl 2), (.sl 1), (.i .i64), (.i .i64), (.i .i64)]] [(.t 19)], none⟩,
      ⟨some 21, .iad 6 (.t 14) (.t 15), none⟩,
      ⟨none, .store 6 (.t 21) (.t 20), none⟩])) (
  .reg false [⟨some 12, .mv (.t 4), none⟩,
    ⟨some 13, .bin .add (.t 12) (.c (.v (.int .i64 1))), none⟩,
    ⟨some 4, .mv (.t 13), none⟩])))
def e66x0 : Exits := [((.exit 0), [(3, .o 6)])]
def l66x0 (T : Table) (k : Nat) := loopN (evalC ⟨T, []⟩ k b66x0 (Ex × List AV)) [0, 3, 4] e66x0
def a66 : AFun := ⟨[.rd], false, [.t 2], (
  .seq (.reg false [⟨some 2, .mv (.c (.o 6 [])), none⟩]) (
  .seq (.reg false [⟨some 5, .mv (.t 0), none⟩,
    ⟨some 6, .len false (.t 5), none⟩,
    ⟨some 7, .mk [(.v (.string ByteArray.empty)), (.s 2 []), (.s 1 []), (.v (.int .i64 0)), (.v (.int .i64 0)), (.v (.int .i64 0))] 88 (.t 6) (.t 6), none⟩,
    ⟨some 3, .mv (.t 7), none⟩]) (
  .seq (.seq (.reg false [⟨some 4, .mv (.c (.v (.int .i64 0))), none⟩]) (
  .block 0 (.loop [0, 3, 4] e66x0 b66x0))) (
  .seq (.reg false [⟨some 22, .mv (.t 3), none⟩,
    ⟨some 2, .mv (.t 22), none⟩]) (
  .ret)))))⟩
theorem l66x0s (T : Table) (k n : Nat) (l2 : Rows) (l3 : Rows) (n4 : Int) : l66x0 T k (n + 1) [(.fz 6 l2), (.o 6 l3), (.v (.int .i64 n4))] = (
 bif (decide (n4 < (l2.length : Int))) then (
 tst (decide (0 ≤ n4)) (
 look l2 (Int.toNat n4) fun r5 =>
 cS r5 0 fun s6 =>
 cL 2 r5 1 fun l7 =>
 cL 1 r5 2 fun l8 =>
 cI .i64 r5 3 fun n9 =>
 cI .i64 r5 4 fun n10 =>
 cI .i64 r5 5 fun n11 =>
 callT T 140 [(.g [(.v (.string s6)), (.s 2 l7), (.s 1 l8), (.v (.int .i64 n9)), (.v (.int .i64 n10)), (.v (.int .i64 n11))])] fun o12 =>
 oG o12.res fun r13 =>
 tst (Nat.beq r13.length 6) (
 cS r13 0 fun s14 =>
 cL 2 r13 1 fun l15 =>
 cL 1 r13 2 fun l16 =>
 cI .i64 r13 3 fun n17 =>
 cI .i64 r13 4 fun n18 =>
 cI .i64 r13 5 fun n19 =>
 tst (decide (0 ≤ n4) && decide (Int.toNat n4 < l3.length)) (
 l66x0 T k n [(.fz 6 l2), (.o 6 (setD (setD (setD (setD (setD (setD (setD (setD l3 (Int.toNat n4) 0 (.v (.string s14))) (Int.toNat n4) 1 hole) (Int.toNat n4) 2 hole) (Int.toNat n4) 3 (.v (.int .i64 n17))) (Int.toNat n4) 4 (.v (.int .i64 n18))) (Int.toNat n4) 5 (.v (.int .i64 n19))) (Int.toNat n4) 2 (.s 1 l16)) (Int.toNat n4) 1 (.s 2 l15))), (.v (.int .i64 (IntKind.wrap .i64 (n4 + 1))))])))) else (
 some ((.exit 0), [(.o 6 l3)]))) := by kernel_rfl
theorem a66q (T : Table) (k : Nat) (l1 : Rows) : evalF T k a66 [(.d (.s 6 l1))] = (
 tst (cutOk (l1.length : Int) (l1.length : Int) maxLen && decide (Int.toNat (l1.length : Int) * 88 ≤ maxBytes)) (
 aft (l66x0 T k k [(.fz 6 l1), (.o 6 (List.replicate (Int.toNat (l1.length : Int)) [(.v (.string ByteArray.empty)), (.s 2 []), (.s 1 []), (.v (.int .i64 0)), (.v (.int .i64 0)), (.v (.int .i64 0))])), (.v (.int .i64 0))]) fun e20 ys21 =>
 bif e20.same (.exit 0) then (
 aV ys21 0 fun x22 =>
 aO 6 x22 fun l23 =>
 some ⟨(.d (.s 6 l23)), []⟩) else (
 none))) := by kernel_rfl
/- loop.example/g00119/laws.toHold -/

def a141 : AFun := ⟨[.rd], false, [.c 2 true [(.i .i64), .s, (.i .i64), (.i .i64), (.i .i64)]], (
  .seq (.reg false [⟨some 1, .box (.t 0), none⟩,
    ⟨some 2, .alloc [(.v (.int .i64 0)), (.v (.string ByteArray.empty)), (.v (.int .i64 0)), (.v (.int .i64 0)), (.v (.int .i64 0))], none⟩]) (
  .seq (.reg false [⟨some 3, .alloc [(.v (.int .i64 0)), (.v (.string ByteArray.empty)), (.v (.int .i64 0)), (.v (.int .i64 0)), (.v (.int .i64 0))], none⟩]) (
  .seq (.reg false [⟨some 4, .fad 0 (.t 1), none⟩,
    ⟨some 5, .load false [(.i .i64)] (.t 4), none⟩,
    ⟨some 6, .fad 0 (.t 3), none⟩,
    ⟨none, .store 1 (.t 6) (.t 5), none⟩]) (
  .seq (.reg false [⟨some 7, .fad 1 (.t 1), none⟩,
    ⟨some 8, .load false [.s] (.t 7), none⟩,
    ⟨some 9, .fad 1 (.t 3), none⟩,
    ⟨none, .store 1 (.t 9) (.t 8), none⟩]) (
  .seq (.reg false [⟨some 10, .fad 2 (.t 1), none⟩,
    ⟨some 11, .load false [(.i .i64)] (.t 10), none⟩,
    ⟨some 12, .fad 2 (.t 3), none⟩,
    ⟨none, .store 1 (.t 12) (.t 11), none⟩]) (
  .seq (.reg false [⟨some 13, .fad 3 (.t 1), none⟩,
    ⟨some 14, .load false [(.i .i64)] (.t 13), none⟩,
    ⟨some 15, .fad 3 (.t 3), none⟩,
    ⟨none, .store 1 (.t 15) (.t 14), none⟩]) (
  .seq (.reg false [⟨some 16, .fad 4 (.t 1), none⟩,
    ⟨some 17, .load false [(.i .i64)] (.t 16), none⟩,
    ⟨some 18, .fad 4 (.t 3), none⟩,
    ⟨none, .store 1 (.t 18) (.t 17), none⟩]) (
  .seq (.reg false [⟨some 19, .load true [(.i .i64), .s, (.i .i64), (.i .i64), (.i .i64)] (.t 3), none⟩,
    ⟨none, .store 5 (.t 2) (.t 19), none⟩]) (
  .ret)))))))))⟩

theorem a141q (T : Table) (k : Nat) (n1 : Int) (s2 : ByteArray) (n3 : Int) (n4 : Int) (n5 : Int) : evalF T k a141 [(.g [(.v (.int .i64 n1)), (.v (.string s2)), (.v (.int .i64 n3)), (.v (.int .i64 n4)), (.v (.int .i64 n5))])] = (
 some ⟨(.g [(.v (.int .i64 n1)), (.v (.string s2)), (.v (.int .i64 n3)), (.v (.int .i64 n4)), (.v (.int .i64 n5))]), []⟩) := by kernel_rfl
/- loop.example/g00119/laws.toHoldS -/
def b67x0 : ACode := (
  .seq (.seq (.reg false [⟨some 8, .mv (.t 4), none⟩,
    ⟨some 9, .mv (.t 0), none⟩,
    ⟨some 10, .len false (.t 9), none⟩,
    ⟨some 11, .bin .lss (.t 8) (.t 10), none⟩]) (
  .cond (.t 11) (.skip) (.exit 0))) (
  .seq (.block 1 (.reg false [⟨some 14, .mv (.t 3), none⟩,
      ⟨some 15, .mv (.t 4), none⟩,
      ⟨some 16, .mv (.t 0), none⟩,
      ⟨some 17, .mv (.t 4), none⟩,
      ⟨some 18, .iad 5 (.t 16) (.t 17), none⟩,
      ⟨some 19, .load true [(.i .i64), .s, (.i .i64), (.i .i64), (.i .i64)] (.t 18), none⟩,
      ⟨some 20, .call (.f 141) [.rd] false [.g [(.i .i64), .s, (.i .i64), (.i .i64), (.i .i64)]] [(.t 19)], none⟩,
      ⟨some 21, .iad 5 (.t 14) (.t 15), none⟩,
      ⟨none, .store 5 (.t 21) (.t 20), none⟩])) (
  .reg false [⟨some 12, .mv (.t 4), none⟩,
    ⟨some 13, .bin .add (.t 12) (.c (.v (.int .i64 1))), none⟩,
    ⟨some 4, .mv (.t 13), none⟩])))
def e67x0 : Exits := [((.exit 0), [(3, .o 5)])]
def l67x0 (T : Table) (k : Nat) := loopN (evalC ⟨T, []⟩ k b67x0 (Ex × List AV)) [0, 3, 4] e67x0
def a67 : AFun := ⟨[.rd], false, [.t 2], (
  .seq (.reg false [⟨some 2, .mv (.c (.o 5 [])), none⟩]) (
  .seq (.reg false [⟨some 5, .mv (.t 0), none⟩,
    ⟨some 6, .len false (.t 5), none⟩,
    ⟨some 7, .mk [(.v (.int .i64 0)), (.v (.string ByteArray.empty)), (.v (.int .i64 0)), (.v (.int .i64 0)), (.v (.int .i64 0))] 48 (.t 6) (.t 6), none⟩,
    ⟨some 3, .mv (.t 7), none⟩]) (
  .seq (.seq (.reg false [⟨some 4, .mv (.c (.v (.int .i64 0))), none⟩]) (
  .block 0 (.loop [0, 3, 4] e67x0 b67x0))) (
  .seq (.reg false [⟨some 22, .mv (.t 3), none⟩,
    ⟨some 2, .mv (.t 22), none⟩]) (
  .ret)))))⟩
theorem l67x0s (T : Table) (k n : Nat) (l2 : Rows) (l3 : Rows) (n4 : Int) : l67x0 T k (n + 1) [(.fz 5 l2), (.o 5 l3), (.v (.int .i64 n4))] = (
 bif (decide (n4 < (l2.length : Int))) then (
 tst (decide (0 ≤ n4)) (
 look l2 (Int.toNat n4) fun r5 =>
 cI .i64 r5 0 fun n6 =>
 cS r5 1 fun s7 =>
 cI .i64 r5 2 fun n8 =>
 cI .i64 r5 3 fun n9 =>
 cI .i64 r5 4 fun n10 =>
 callT T 141 [(.g [(.v (.int .i64 n6)), (.v (.string s7)), (.v (.int .i64 n8)), (.v (.int .i64 n9)), (.v (.int .i64 n10))])] fun o11 =>
 oG o11.res fun r12 =>
 tst (Nat.beq r12.length 5) (
 cI .i64 r12 0 fun n13 =>
 cS r12 1 fun s14 =>
 cI .i64 r12 2 fun n15 =>
 cI .i64 r12 3 fun n16 =>
 cI .i64 r12 4 fun n17 =>
 tst (decide (0 ≤ n4) && decide (Int.toNat n4 < l3.length)) (
 l67x0 T k n [(.fz 5 l2), (.o 5 (setD (setD (setD (setD (setD l3 (Int.toNat n4) 0 (.v (.int .i64 n13))) (Int.toNat n4) 1 (.v (.string s14))) (Int.toNat n4) 2 (.v (.int .i64 n15))) (Int.toNat n4) 3 (.v (.int .i64 n16))) (Int.toNat n4) 4 (.v (.int .i64 n17)))), (.v (.int .i64 (IntKind.wrap .i64 (n4 + 1))))])))) else (
 some ((.exit 0), [(.o 5 l3)]))) := by kernel_rfl
theorem a67q (T : Table) (k : Nat) (l1 : Rows) : evalF T k a67 [(.d (.s 5 l1))] = (
 tst (cutOk (l1.length : Int) (l1.length : Int) maxLen && decide (Int.toNat (l1.length : Int) * 48 ≤ maxBytes)) (
 aft (l67x0 T k k [(.fz 5 l1), (.o 5 (List.replicate (Int.toNat (l1.length : Int)) [(.v (.int .i64 0)), (.v (.string ByteArray.empty)), (.v (.int .i64 0)), (.v (.int .i64 0)), (.v (.int .i64 0))])), (.v (.int .i64 0))]) fun e18 ys19 =>
 bif e18.same (.exit 0) then (
 aV ys19 0 fun x20 =>
 aO 5 x20 fun l21 =>
 some ⟨(.d (.s 5 l21)), []⟩) else (
 none))) := by kernel_rfl
/- loop.example/g00119/laws.toHub -/

def a23 : AFun := ⟨[.rd], false, [.c 2 true [(.i .i64), (.i .i64), (.i .i64), (.sl 13), (.sl 6), (.sl 5), (.sl 1)]], (
  .seq (.reg false [⟨some 1, .box (.t 0), none⟩,
    ⟨some 2, .alloc [(.v (.int .i64 0)), (.v (.int .i64 0)), (.v (.int .i64 0)), (.s 13 []), (.s 6 []), (.s 5 []), (.s 1 [])], none⟩]) (
  .seq (.reg false [⟨some 3, .alloc [(.v (.int .i64 0)), (.v (.int .i64 0)), (.v (.int .i64 0)), (.s 13 []), (.s 6 []), (.s 5 []), (.s 1 [])], none⟩]) (
  .seq (.reg false [⟨some 4, .fad 0 (.t 1), none⟩,
    ⟨some 5, .load false [(.i .i64)] (.t 4), none⟩,
    ⟨some 6, .fad 0 (.t 3), none⟩,
    ⟨none, .store 1 (.t 6) (.t 5), none⟩]) (
  .seq (.reg false [⟨some 7, .fad 1 (.t 1), none⟩,
    ⟨some 8, .load false [(.i .i64)] (.t 7), none⟩,
    ⟨some 9, .fad 1 (.t 3), none⟩,
    ⟨none, .store 1 (.t 9) (.t 8), none⟩]) (
  .seq (.reg false [⟨some 10, .fad 2 (.t 1), none⟩,
    ⟨some 11, .load false [(.i .i64)] (.t 10), none⟩,
    ⟨some 12, .fad 2 (.t 3), none⟩,
    ⟨none, .store 1 (.t 12) (.t 11), none⟩]) (
  .seq (.reg false [⟨some 13, .fad 3 (.t 1), none⟩,
    ⟨some 14, .load false [(.sl 13)] (.t 13), none⟩,
    ⟨some 15, .call (.f 65) [.rd] false [.c (.sl 13)] [(.t 14)], none⟩,
    ⟨some 16, .fad 3 (.t 3), none⟩,
    ⟨none, .store 1 (.t 16) (.t 15), none⟩]) (
  .seq (.reg false [⟨some 17, .fad 4 (.t 1), none⟩,
    ⟨some 18, .load false [(.sl 6)] (.t 17), none⟩,
    ⟨some 19, .call (.f 66) [.rd] false [.c (.sl 6)] [(.t 18)], none⟩,
    ⟨some 20, .fad 4 (.t 3), none⟩,
    ⟨none, .store 1 (.t 20) (.t 19), none⟩]) (
  .seq (.reg false [⟨some 21, .fad 5 (.t 1), none⟩,
    ⟨some 22, .load false [(.sl 5)] (.t 21), none⟩,
    ⟨some 23, .call (.f 67) [.rd] false [.c (.sl 5)] [(.t 22)], none⟩,
    ⟨some 24, .fad 5 (.t 3), none⟩,
    ⟨none, .store 1 (.t 24) (.t 23), none⟩]) (
  .seq (.reg false [⟨some 25, .fad 6 (.t 1), none⟩,
    ⟨some 26, .load false [(.sl 1)] (.t 25), none⟩,
    ⟨some 27, .call (.f 68) [.rd] false [.c (.sl 1)] [(.t 26)], none⟩,
    ⟨some 28, .fad 6 (.t 3), none⟩,
    ⟨none, .store 1 (.t 28) (.t 27), none⟩]) (
  .seq (.reg false [⟨some 29, .load true [(.i .i64), (.i .i64), (.i .i64), (.sl 13), (.sl 6), (.sl 5), (.sl 1)] (.t 3), none⟩,
    ⟨none, .store 7 (.t 2) (.t 29), none⟩]) (
  .ret)))))))))))⟩

theorem a23q (T : Table) (k : Nat) (n1 : Int) (n2 : Int) (n3 : Int) (l4 : Rows) (l5 : Rows) (l6 : Rows) (l7 : Rows) : evalF T k a23 [(.g [(.v (.int .i64 n1)), (.v (.int .i64 n2)), (.v (.int .i64 n3)), (.s 13 l4), (.s 6 l5), (.s 5 l6), (.s 1 l7)])] = (
 callT T 65 [(.d (.s 13 l4))] fun o8 =>
 oD o8.res fun d9 =>
 dL 13 d9 fun l10 =>
 callT T 66 [(.d (.s 6 l5))] fun o11 =>
 oD o11.res fun d12 =>
 dL 6 d12 fun l13 =>
 callT T 67 [(.d (.s 5 l6))] fun o14 =>
 oD o14.res fun d15 =>
 dL 5 d15 fun l16 =>
 callT T 68 [(.d (.s 1 l7))] fun o17 =>
 oD o17.res fun d18 =>
 dL 1 d18 fun l19 =>
 some ⟨(.g [(.v (.int .i64 n1)), (.v (.int .i64 n2)), (.v (.int .i64 n3)), (.s 13 l10), (.s 6 l13), (.s 5 l16), (.s 1 l19)]), []⟩) := by kernel_rfl
/- loop.example/g00119/laws.eqStringS -/
def b75x0 : ACode := (
  .seq (.seq (.reg false [⟨some 11, .mv (.t 5), none⟩,
    ⟨some 12, .mv (.t 0), none⟩,
    ⟨some 13, .len false (.t 12), none⟩,
    ⟨some 14, .bin .lss (.t 11) (.t 13), none⟩]) (
  .cond (.t 14) (.skip) (.exit 0))) (
  .seq (.block 1 (.seq (.dreg [] [(0, ⟨some 17, .mv (.t 0), none⟩),
      (0, ⟨some 18, .mv (.t 5), none⟩),
      (0, ⟨some 19, .iad 1 (.t 17) (.t 18), none⟩),
      (0, ⟨some 20, .load false [.s] (.t 19), none⟩),
      (0, ⟨some 21, .mv (.t 1), none⟩),
      (0, ⟨some 22, .mv (.t 5), none⟩),
      (0, ⟨some 23, .iad 1 (.t 21) (.t 22), none⟩),
      (0, ⟨some 24, .load false [.s] (.t 23), none⟩)] [⟨some 25, .bin .neq (.t 20) (.t 24), none⟩]) (
    .cond (.t 25) (.seq (.reg false [⟨some 4, .mv (.c (.v (.bool false))), none⟩]) (
      .ret)) (.skip)))) (
  .reg false [⟨some 15, .mv (.t 5), none⟩,
    ⟨some 16, .bin .add (.t 15) (.c (.v (.int .i64 1))), none⟩,
    ⟨some 5, .mv (.t 16), none⟩])))
def e75x0 : Exits := [(.ret, [(4, .c .b)]), ((.exit 0), [])]
def l75x0 (T : Table) (k : Nat) := loopN (evalC ⟨T, []⟩ k b75x0 (Ex × List AV)) [0, 1, 5] e75x0
def a75 : AFun := ⟨[.rd, .rd], false, [.t 4], (
  .seq (.reg false [⟨some 4, .mv (.c (.v (.bool false))), none⟩]) (
  .seq (.seq (.reg false [⟨some 6, .mv (.t 0), none⟩,
    ⟨some 7, .len false (.t 6), none⟩,
    ⟨some 8, .mv (.t 1), none⟩,
    ⟨some 9, .len false (.t 8), none⟩,
    ⟨some 10, .bin .neq (.t 7) (.t 9), none⟩]) (
  .cond (.t 10) (.seq (.reg false [⟨some 4, .mv (.c (.v (.bool false))), none⟩]) (
    .ret)) (.skip))) (
  .seq (.seq (.reg false [⟨some 5, .mv (.c (.v (.int .i64 0))), none⟩]) (
  .block 0 (.loop [0, 1, 5] e75x0 b75x0))) (
  .seq (.reg false [⟨some 4, .mv (.c (.v (.bool true))), none⟩]) (
  .ret)))))⟩
theorem l75x0s (T : Table) (k n : Nat) (l3 : Rows) (l4 : Rows) (n5 : Int) : l75x0 T k (n + 1) [(.fz 1 l3), (.fz 1 l4), (.v (.int .i64 n5))] = (
 bif (decide (n5 < (l3.length : Int))) then (
 tst (decide (0 ≤ n5)) (
 look l3 (Int.toNat n5) fun r6 =>
 cS r6 0 fun s7 =>
 tst (decide (0 ≤ n5)) (
 look l4 (Int.toNat n5) fun r8 =>
 cS r8 0 fun s9 =>
 bif (!(bytesEq s7 s9)) then (
 some (.ret, [(.v (.bool false))])) else (
 l75x0 T k n [(.fz 1 l3), (.fz 1 l4), (.v (.int .i64 (IntKind.wrap .i64 (n5 + 1))))])))) else (
 some ((.exit 0), []))) := by kernel_rfl
theorem a75q (T : Table) (k : Nat) (l1 : Rows) (l2 : Rows) : evalF T k a75 [(.d (.s 1 l1)), (.d (.s 1 l2))] = (
 bif ((l1.length : Int) != (l2.length : Int)) then (
 some ⟨(.d (.v (.bool false))), []⟩) else (
 aft (l75x0 T k k [(.fz 1 l1), (.fz 1 l2), (.v (.int .i64 0))]) fun e10 ys11 =>
 bif e10.same .ret then (
 aV ys11 0 fun x12 =>
 aB x12 fun b13 =>
 some ⟨(.d (.v (.bool b13))), []⟩) else (
 bif e10.same (.exit 0) then (
 some ⟨(.d (.v (.bool true))), []⟩) else (
 none)))) := by kernel_rfl
/- loop.example/g00119/laws.eqValueS -/
def b212x0 : ACode := (
  .seq (.seq (.reg false [⟨some 11, .mv (.t 5), none⟩,
    ⟨some 12, .mv (.t 0), none⟩,
    ⟨some 13, .len false (.t 12), none⟩,
    ⟨some 14, .bin .lss (.t 11) (.t 13), none⟩]) (
  .cond (.t 14) (.skip) (.exit 0))) (
  .seq (.block 1 (.seq (.dreg [] [(0, ⟨some 17, .mv (.t 0), none⟩),
      (0, ⟨some 18, .mv (.t 5), none⟩),
      (0, ⟨some 19, .iad 5 (.t 17) (.t 18), none⟩),
      (0, ⟨some 20, .load true [(.i .i64), .s, (.i .i64), (.sl 1), (.sl 5)] (.t 19), none⟩),
      (0, ⟨some 21, .mv (.t 1), none⟩),
      (0, ⟨some 22, .mv (.t 5), none⟩),
      (0, ⟨some 23, .iad 5 (.t 21) (.t 22), none⟩),
      (0, ⟨some 24, .load true [(.i .i64), .s, (.i .i64), (.sl 1), (.sl 5)] (.t 23), none⟩)] [⟨some 25, .call (.f 179) [.rd, .rd] false [.c .b] [(.t 20), (.t 24)], none⟩,
      ⟨some 26, .un .not (.t 25), none⟩]) (
    .cond (.t 26) (.seq (.reg false [⟨some 4, .mv (.c (.v (.bool false))), none⟩]) (
      .ret)) (.skip)))) (
  .reg false [⟨some 15, .mv (.t 5), none⟩,
    ⟨some 16, .bin .add (.t 15) (.c (.v (.int .i64 1))), none⟩,
    ⟨some 5, .mv (.t 16), none⟩])))
def e212x0 : Exits := [(.ret, [(4, .c .b)]), ((.exit 0), [])]
def l212x0 (T : Table) (k : Nat) := loopN (evalC ⟨T, []⟩ k b212x0 (Ex × List AV)) [0, 1, 5] e212x0
def a212 : AFun := ⟨[.rd, .rd], false, [.t 4], (
  .seq (.reg false [⟨some 4, .mv (.c (.v (.bool false))), none⟩]) (
  .seq (.seq (.reg false [⟨some 6, .mv (.t 0), none⟩,
    ⟨some 7, .len false (.t 6), none⟩,
    ⟨some 8, .mv (.t 1), none⟩,
    ⟨some 9, .len false (.t 8), none⟩,
    ⟨some 10, .bin .neq (.t 7) (.t 9), none⟩]) (
  .cond (.t 10) (.seq (.reg false [⟨some 4, .mv (.c (.v (.bool false))), none⟩]) (
    .ret)) (.skip))) (
  .seq (.seq (.reg false [⟨some 5, .mv (.c (.v (.int .i64 0))), none⟩]) (
  .block 0 (.loop [0, 1, 5] e212x0 b212x0))) (
  .seq (.reg false [⟨some 4, .mv (.c (.v (.bool true))), none⟩]) (
  .ret)))))⟩
theorem l212x0s (T : Table) (k n : Nat) (l3 : Rows) (l4 : Rows) (n5 : Int) : l212x0 T k (n + 1) [(.fz 5 l3), (.fz 5 l4), (.v (.int .i64 n5))] = (
 bif (decide (n5 < (l3.length : Int))) then (
 tst (decide (0 ≤ n5)) (
 look l3 (Int.toNat n5) fun r6 =>
 cI .i64 r6 0 fun n7 =>
 cS r6 1 fun s8 =>
 cI .i64 r6 2 fun n9 =>
 cL 1 r6 3 fun l10 =>
 cL 5 r6 4 fun l11 =>
 tst (decide (0 ≤ n5)) (
 look l4 (Int.toNat n5) fun r12 =>
 cI .i64 r12 0 fun n13 =>
 cS r12 1 fun s14 =>
 cI .i64 r12 2 fun n15 =>
 cL 1 r12 3 fun l16 =>
 cL 5 r12 4 fun l17 =>
 callT T 179 [(.g [(.v (.int .i64 n7)), (.v (.string s8)), (.v (.int .i64 n9)), (.s 1 l10), (.s 5 l11)]), (.g [(.v (.int .i64 n13)), (.v (.string s14)), (.v (.int .i64 n15)), (.s 1 l16), (.s 5 l17)])] fun o18 =>
 oD o18.res fun d19 =>
 dB d19 fun b20 =>
 bif (!b20) then (
 some (.ret, [(.v (.bool false))])) else (
 l212x0 T k n [(.fz 5 l3), (.fz 5 l4), (.v (.int .i64 (IntKind.wrap .i64 (n5 + 1))))])))) else (
 some ((.exit 0), []))) := by kernel_rfl
theorem a212q (T : Table) (k : Nat) (l1 : Rows) (l2 : Rows) : evalF T k a212 [(.d (.s 5 l1)), (.d (.s 5 l2))] = (
 bif ((l1.length : Int) != (l2.length : Int)) then (
 some ⟨(.d (.v (.bool false))), []⟩) else (
 aft (l212x0 T k k [(.fz 5 l1), (.fz 5 l2), (.v (.int .i64 0))]) fun e21 ys22 =>
 bif e21.same .ret then (
 aV ys22 0 fun x23 =>
 aB x23 fun b24 =>
 some ⟨(.d (.v (.bool b24))), []⟩) else (
 bif e21.same (.exit 0) then (
 some ⟨(.d (.v (.bool true))), []⟩) else (
 none)))) := by kernel_rfl
/- loop.example/g00119/laws.eqValue -/

def a179 : AFun := ⟨[.rd, .rd], false, [.t 4], (
  .seq (.reg false [⟨some 2, .box (.t 0), none⟩,
    ⟨some 3, .box (.t 1), none⟩,
    ⟨some 4, .mv (.c (.v (.bool false))), none⟩]) (
  .seq (.seq (.reg false [⟨some 5, .fad 0 (.t 2), none⟩,
    ⟨some 6, .load false [(.i .i64)] (.t 5), none⟩,
    ⟨some 7, .fad 0 (.t 3), none⟩,
    ⟨some 8, .load false [(.i .i64)] (.t 7), none⟩,
    ⟨some 9, .bin .neq (.t 6) (.t 8), none⟩]) (
  .cond (.t 9) (.seq (.reg false [⟨some 4, .mv (.c (.v (.bool false))), none⟩]) (
    .ret)) (.skip))) (
  .seq (.seq (.reg false [⟨some 10, .fad 1 (.t 2), none⟩,
    ⟨some 11, .load false [.s] (.t 10), none⟩,
    ⟨some 12, .fad 1 (.t 3), none⟩,
    ⟨some 13, .load false [.s] (.t 12), none⟩,
    ⟨some 14, .bin .neq (.t 11) (.t 13), none⟩]) (
  .cond (.t 14) (.seq (.reg false [⟨some 4, .mv (.c (.v (.bool false))), none⟩]) (
    .ret)) (.skip))) (
  .seq (.seq (.reg false [⟨some 15, .fad 2 (.t 2), none⟩,
    ⟨some 16, .load false [(.i .i64)] (.t 15), none⟩,
    ⟨some 17, .fad 2 (.t 3), none⟩,
    ⟨some 18, .load false [(.i .i64)] (.t 17), none⟩,
    ⟨some 19, .bin .neq (.t 16) (.t 18), none⟩]) (
  .cond (.t 19) (.seq (.reg false [⟨some 4, .mv (.c (.v (.bool false))), none⟩]) (
    .ret)) (.skip))) (
  .seq (.seq (.reg false [⟨some 20, .fad 3 (.t 2), none⟩,
    ⟨some 21, .load false [(.sl 1)] (.t 20), none⟩,
    ⟨some 22, .fad 3 (.t 3), none⟩,
    ⟨some 23, .load false [(.sl 1)] (.t 22), none⟩,
    ⟨some 24, .call (.f 75) [.rd, .rd] false [.c .b] [(.t 21), (.t 23)], none⟩,
    ⟨some 25, .un .not (.t 24), none⟩]) (
  .cond (.t 25) (.seq (.reg false [⟨some 4, .mv (.c (.v (.bool false))), none⟩]) (
    .ret)) (.skip))) (
  .seq (.seq (.reg false [⟨some 26, .fad 4 (.t 2), none⟩,
    ⟨some 27, .load false [(.sl 5)] (.t 26), none⟩,
    ⟨some 28, .fad 4 (.t 3), none⟩,
    ⟨some 29, .load false [(.sl 5)] (.t 28), none⟩,
    ⟨some 30, .call (.f 212) [.rd, .rd] false [.c .b] [(.t 27), (.t 29)], none⟩,
    ⟨some 31, .un .not (.t 30), none⟩]) (
  .cond (.t 31) (.seq (.reg false [⟨some 4, .mv (.c (.v (.bool false))), none⟩]) (
    .ret)) (.skip))) (
  .seq (.reg false [⟨some 4, .mv (.c (.v (.bool true))), none⟩]) (
  .ret))))))))⟩

theorem a179q (T : Table) (k : Nat) (n1 : Int) (s2 : ByteArray) (n3 : Int) (l4 : Rows) (l5 : Rows) (n6 : Int) (s7 : ByteArray) (n8 : Int) (l9 : Rows) (l10 : Rows) : evalF T k a179 [(.g [(.v (.int .i64 n1)), (.v (.string s2)), (.v (.int .i64 n3)), (.s 1 l4), (.s 5 l5)]), (.g [(.v (.int .i64 n6)), (.v (.string s7)), (.v (.int .i64 n8)), (.s 1 l9), (.s 5 l10)])] = (
 bif (n1 != n6) then (
 some ⟨(.d (.v (.bool false))), []⟩) else (
 bif (!(bytesEq s2 s7)) then (
 some ⟨(.d (.v (.bool false))), []⟩) else (
 bif (n3 != n8) then (
 some ⟨(.d (.v (.bool false))), []⟩) else (
 callT T 75 [(.d (.s 1 l4)), (.d (.s 1 l9))] fun o11 =>
 oD o11.res fun d12 =>
 dB d12 fun b13 =>
 bif (!b13) then (
 some ⟨(.d (.v (.bool false))), []⟩) else (
 callT T 212 [(.d (.s 5 l5)), (.d (.s 5 l10))] fun o14 =>
 oD o14.res fun d15 =>
 dB d15 fun b16 =>
 bif (!b16) then (
 some ⟨(.d (.v (.bool false))), []⟩) else (
 some ⟨(.d (.v (.bool true))), []⟩)))))) := by kernel_rfl
/- loop.example/g00119/laws.eqTerm -/

def a241 : AFun := ⟨[.rd, .rd], false, [.t 4], (
  .seq (.reg false [⟨some 2, .box (.t 0), none⟩,
    ⟨some 3, .box (.t 1), none⟩,
    ⟨some 4, .mv (.c (.v (.bool false))), none⟩]) (
  .seq (.seq (.reg false [⟨some 5, .fad 0 (.t 2), none⟩,
    ⟨some 6, .load false [(.i .i64)] (.t 5), none⟩,
    ⟨some 7, .fad 0 (.t 3), none⟩,
    ⟨some 8, .load false [(.i .i64)] (.t 7), none⟩,
    ⟨some 9, .bin .neq (.t 6) (.t 8), none⟩]) (
  .cond (.t 9) (.seq (.reg false [⟨some 4, .mv (.c (.v (.bool false))), none⟩]) (
    .ret)) (.skip))) (
  .seq (.seq (.reg false [⟨some 10, .fad 1 (.t 2), none⟩,
    ⟨some 11, .load false [.s] (.t 10), none⟩,
    ⟨some 12, .fad 1 (.t 3), none⟩,
    ⟨some 13, .load false [.s] (.t 12), none⟩,
    ⟨some 14, .bin .neq (.t 11) (.t 13), none⟩]) (
  .cond (.t 14) (.seq (.reg false [⟨some 4, .mv (.c (.v (.bool false))), none⟩]) (
    .ret)) (.skip))) (
  .seq (.seq (.reg false [⟨some 15, .fad 2 (.t 2), none⟩,
    ⟨some 16, .load false [(.sl 1)] (.t 15), none⟩,
    ⟨some 17, .fad 2 (.t 3), none⟩,
    ⟨some 18, .load false [(.sl 1)] (.t 17), none⟩,
    ⟨some 19, .call (.f 75) [.rd, .rd] false [.c .b] [(.t 16), (.t 18)], none⟩,
    ⟨some 20, .un .not (.t 19), none⟩]) (
  .cond (.t 20) (.seq (.reg false [⟨some 4, .mv (.c (.v (.bool false))), none⟩]) (
    .ret)) (.skip))) (
  .seq (.reg false [⟨some 4, .mv (.c (.v (.bool true))), none⟩]) (
  .ret))))))⟩

theorem a241q (T : Table) (k : Nat) (n1 : Int) (s2 : ByteArray) (l3 : Rows) (n4 : Int) (s5 : ByteArray) (l6 : Rows) : evalF T k a241 [(.g [(.v (.int .i64 n1)), (.v (.string s2)), (.s 1 l3)]), (.g [(.v (.int .i64 n4)), (.v (.string s5)), (.s 1 l6)])] = (
 bif (n1 != n4) then (
 some ⟨(.d (.v (.bool false))), []⟩) else (
 bif (!(bytesEq s2 s5)) then (
 some ⟨(.d (.v (.bool false))), []⟩) else (
 callT T 75 [(.d (.s 1 l3)), (.d (.s 1 l6))] fun o7 =>
 oD o7.res fun d8 =>
 dB d8 fun b9 =>
 bif (!b9) then (
 some ⟨(.d (.v (.bool false))), []⟩) else (
 some ⟨(.d (.v (.bool true))), []⟩)))) := by kernel_rfl
/- loop.example/g00119/laws.eqTermS -/
def b222x0 : ACode := (
  .seq (.seq (.reg false [⟨some 11, .mv (.t 5), none⟩,
    ⟨some 12, .mv (.t 0), none⟩,
    ⟨some 13, .len false (.t 12), none⟩,
    ⟨some 14, .bin .lss (.t 11) (.t 13), none⟩]) (
  .cond (.t 14) (.skip) (.exit 0))) (
  .seq (.block 1 (.seq (.dreg [] [(0, ⟨some 17, .mv (.t 0), none⟩),
      (0, ⟨some 18, .mv (.t 5), none⟩),
      (0, ⟨some 19, .iad 3 (.t 17) (.t 18), none⟩),
      (0, ⟨some 20, .load true [(.i .i64), .s, (.sl 1)] (.t 19), none⟩),
      (0, ⟨some 21, .mv (.t 1), none⟩),
      (0, ⟨some 22, .mv (.t 5), none⟩),
      (0, ⟨some 23, .iad 3 (.t 21) (.t 22), none⟩),
      (0, ⟨some 24, .load true [(.i .i64), .s, (.sl 1)] (.t 23), none⟩)] [⟨some 25, .call (.f 241) [.rd, .rd] false [.c .b] [(.t 20), (.t 24)], none⟩,
      ⟨some 26, .un .not (.t 25), none⟩]) (
    .cond (.t 26) (.seq (.reg false [⟨some 4, .mv (.c (.v (.bool false))), none⟩]) (
      .ret)) (.skip)))) (
  .reg false [⟨some 15, .mv (.t 5), none⟩,
    ⟨some 16, .bin .add (.t 15) (.c (.v (.int .i64 1))), none⟩,
    ⟨some 5, .mv (.t 16), none⟩])))
def e222x0 : Exits := [(.ret, [(4, .c .b)]), ((.exit 0), [])]
def l222x0 (T : Table) (k : Nat) := loopN (evalC ⟨T, []⟩ k b222x0 (Ex × List AV)) [0, 1, 5] e222x0
def a222 : AFun := ⟨[.rd, .rd], false, [.t 4], (
  .seq (.reg false [⟨some 4, .mv (.c (.v (.bool false))), none⟩]) (
  .seq (.seq (.reg false [⟨some 6, .mv (.t 0), none⟩,
    ⟨some 7, .len false (.t 6), none⟩,
    ⟨some 8, .mv (.t 1), none⟩,
    ⟨some 9, .len false (.t 8), none⟩,
    ⟨some 10, .bin .neq (.t 7) (.t 9), none⟩]) (
  .cond (.t 10) (.seq (.reg false [⟨some 4, .mv (.c (.v (.bool false))), none⟩]) (
    .ret)) (.skip))) (
  .seq (.seq (.reg false [⟨some 5, .mv (.c (.v (.int .i64 0))), none⟩]) (
  .block 0 (.loop [0, 1, 5] e222x0 b222x0))) (
  .seq (.reg false [⟨some 4, .mv (.c (.v (.bool true))), none⟩]) (
  .ret)))))⟩
theorem l222x0s (T : Table) (k n : Nat) (l3 : Rows) (l4 : Rows) (n5 : Int) : l222x0 T k (n + 1) [(.fz 3 l3), (.fz 3 l4), (.v (.int .i64 n5))] = (
 bif (decide (n5 < (l3.length : Int))) then (
 tst (decide (0 ≤ n5)) (
 look l3 (Int.toNat n5) fun r6 =>
 cI .i64 r6 0 fun n7 =>
 cS r6 1 fun s8 =>
 cL 1 r6 2 fun l9 =>
 tst (decide (0 ≤ n5)) (
 look l4 (Int.toNat n5) fun r10 =>
 cI .i64 r10 0 fun n11 =>
 cS r10 1 fun s12 =>
 cL 1 r10 2 fun l13 =>
 callT T 241 [(.g [(.v (.int .i64 n7)), (.v (.string s8)), (.s 1 l9)]), (.g [(.v (.int .i64 n11)), (.v (.string s12)), (.s 1 l13)])] fun o14 =>
 oD o14.res fun d15 =>
 dB d15 fun b16 =>
 bif (!b16) then (
 some (.ret, [(.v (.bool false))])) else (
 l222x0 T k n [(.fz 3 l3), (.fz 3 l4), (.v (.int .i64 (IntKind.wrap .i64 (n5 + 1))))])))) else (
 some ((.exit 0), []))) := by kernel_rfl
theorem a222q (T : Table) (k : Nat) (l1 : Rows) (l2 : Rows) : evalF T k a222 [(.d (.s 3 l1)), (.d (.s 3 l2))] = (
 bif ((l1.length : Int) != (l2.length : Int)) then (
 some ⟨(.d (.v (.bool false))), []⟩) else (
 aft (l222x0 T k k [(.fz 3 l1), (.fz 3 l2), (.v (.int .i64 0))]) fun e17 ys18 =>
 bif e17.same .ret then (
 aV ys18 0 fun x19 =>
 aB x19 fun b20 =>
 some ⟨(.d (.v (.bool b20))), []⟩) else (
 bif e17.same (.exit 0) then (
 some ⟨(.d (.v (.bool true))), []⟩) else (
 none)))) := by kernel_rfl
/- loop.example/g00119/laws.eqWeigh -/

def a242 : AFun := ⟨[.rd, .rd], false, [.t 4], (
  .seq (.reg false [⟨some 2, .box (.t 0), none⟩,
    ⟨some 3, .box (.t 1), none⟩,
    ⟨some 4, .mv (.c (.v (.bool false))), none⟩]) (
  .seq (.seq (.reg false [⟨some 5, .fad 0 (.t 2), none⟩,
    ⟨some 6, .load false [.s] (.t 5), none⟩,
    ⟨some 7, .fad 0 (.t 3), none⟩,
    ⟨some 8, .load false [.s] (.t 7), none⟩,
    ⟨some 9, .bin .neq (.t 6) (.t 8), none⟩]) (
  .cond (.t 9) (.seq (.reg false [⟨some 4, .mv (.c (.v (.bool false))), none⟩]) (
    .ret)) (.skip))) (
  .seq (.seq (.reg false [⟨some 10, .fad 1 (.t 2), none⟩,
    ⟨some 11, .load false [(.i .i64)] (.t 10), none⟩,
    ⟨some 12, .fad 1 (.t 3), none⟩,
    ⟨some 13, .load false [(.i .i64)] (.t 12), none⟩,
    ⟨some 14, .bin .neq (.t 11) (.t 13), none⟩]) (
  .cond (.t 14) (.seq (.reg false [⟨some 4, .mv (.c (.v (.bool false))), none⟩]) (
    .ret)) (.skip))) (
  .seq (.reg false [⟨some 4, .mv (.c (.v (.bool true))), none⟩]) (
  .ret)))))⟩

theorem a242q (T : Table) (k : Nat) (s1 : ByteArray) (n2 : Int) (s3 : ByteArray) (n4 : Int) : evalF T k a242 [(.g [(.v (.string s1)), (.v (.int .i64 n2))]), (.g [(.v (.string s3)), (.v (.int .i64 n4))])] = (
 bif (!(bytesEq s1 s3)) then (
 some ⟨(.d (.v (.bool false))), []⟩) else (
 bif (n2 != n4) then (
 some ⟨(.d (.v (.bool false))), []⟩) else (
 some ⟨(.d (.v (.bool true))), []⟩))) := by kernel_rfl
/- loop.example/g00119/laws.eqWeighS -/
def b223x0 : ACode := (
  .seq (.seq (.reg false [⟨some 11, .mv (.t 5), none⟩,
    ⟨some 12, .mv (.t 0), none⟩,
    ⟨some 13, .len false (.t 12), none⟩,
    ⟨some 14, .bin .lss (.t 11) (.t 13), none⟩]) (
  .cond (.t 14) (.skip) (.exit 0))) (
  .seq (.block 1 (.seq (.dreg [] [(0, ⟨some 17, .mv (.t 0), none⟩),
      (0, ⟨some 18, .mv (.t 5), none⟩),
      (0, ⟨some 19, .iad 2 (.t 17) (.t 18), none⟩),
      (0, ⟨some 20, .load true [.s, (.i .i64)] (.t 19), none⟩),
      (0, ⟨some 21, .mv (.t 1), none⟩),
      (0, ⟨some 22, .mv (.t 5), none⟩),
      (0, ⟨some 23, .iad 2 (.t 21) (.t 22), none⟩),
      (0, ⟨some 24, .load true [.s, (.i .i64)] (.t 23), none⟩)] [⟨some 25, .call (.f 242) [.rd, .rd] false [.c .b] [(.t 20), (.t 24)], none⟩,
      ⟨some 26, .un .not (.t 25), none⟩]) (
    .cond (.t 26) (.seq (.reg false [⟨some 4, .mv (.c (.v (.bool false))), none⟩]) (
      .ret)) (.skip)))) (
  .reg false [⟨some 15, .mv (.t 5), none⟩,
    ⟨some 16, .bin .add (.t 15) (.c (.v (.int .i64 1))), none⟩,
    ⟨some 5, .mv (.t 16), none⟩])))
def e223x0 : Exits := [(.ret, [(4, .c .b)]), ((.exit 0), [])]
def l223x0 (T : Table) (k : Nat) := loopN (evalC ⟨T, []⟩ k b223x0 (Ex × List AV)) [0, 1, 5] e223x0
def a223 : AFun := ⟨[.rd, .rd], false, [.t 4], (
  .seq (.reg false [⟨some 4, .mv (.c (.v (.bool false))), none⟩]) (
  .seq (.seq (.reg false [⟨some 6, .mv (.t 0), none⟩,
    ⟨some 7, .len false (.t 6), none⟩,
    ⟨some 8, .mv (.t 1), none⟩,
    ⟨some 9, .len false (.t 8), none⟩,
    ⟨some 10, .bin .neq (.t 7) (.t 9), none⟩]) (
  .cond (.t 10) (.seq (.reg false [⟨some 4, .mv (.c (.v (.bool false))), none⟩]) (
    .ret)) (.skip))) (
  .seq (.seq (.reg false [⟨some 5, .mv (.c (.v (.int .i64 0))), none⟩]) (
  .block 0 (.loop [0, 1, 5] e223x0 b223x0))) (
  .seq (.reg false [⟨some 4, .mv (.c (.v (.bool true))), none⟩]) (
  .ret)))))⟩
theorem l223x0s (T : Table) (k n : Nat) (l3 : Rows) (l4 : Rows) (n5 : Int) : l223x0 T k (n + 1) [(.fz 2 l3), (.fz 2 l4), (.v (.int .i64 n5))] = (
 bif (decide (n5 < (l3.length : Int))) then (
 tst (decide (0 ≤ n5)) (
 look l3 (Int.toNat n5) fun r6 =>
 cS r6 0 fun s7 =>
 cI .i64 r6 1 fun n8 =>
 tst (decide (0 ≤ n5)) (
 look l4 (Int.toNat n5) fun r9 =>
 cS r9 0 fun s10 =>
 cI .i64 r9 1 fun n11 =>
 callT T 242 [(.g [(.v (.string s7)), (.v (.int .i64 n8))]), (.g [(.v (.string s10)), (.v (.int .i64 n11))])] fun o12 =>
 oD o12.res fun d13 =>
 dB d13 fun b14 =>
 bif (!b14) then (
 some (.ret, [(.v (.bool false))])) else (
 l223x0 T k n [(.fz 2 l3), (.fz 2 l4), (.v (.int .i64 (IntKind.wrap .i64 (n5 + 1))))])))) else (
 some ((.exit 0), []))) := by kernel_rfl
theorem a223q (T : Table) (k : Nat) (l1 : Rows) (l2 : Rows) : evalF T k a223 [(.d (.s 2 l1)), (.d (.s 2 l2))] = (
 bif ((l1.length : Int) != (l2.length : Int)) then (
 some ⟨(.d (.v (.bool false))), []⟩) else (
 aft (l223x0 T k k [(.fz 2 l1), (.fz 2 l2), (.v (.int .i64 0))]) fun e15 ys16 =>
 bif e15.same .ret then (
 aV ys16 0 fun x17 =>
 aB x17 fun b18 =>
 some ⟨(.d (.v (.bool b18))), []⟩) else (
 bif e15.same (.exit 0) then (
 some ⟨(.d (.v (.bool true))), []⟩) else (
 none)))) := by kernel_rfl
/- loop.example/g00119/laws.eqWant -/

def a188 : AFun := ⟨[.rd, .rd], false, [.t 4], (
  .seq (.reg false [⟨some 2, .box (.t 0), none⟩,
    ⟨some 3, .box (.t 1), none⟩,
    ⟨some 4, .mv (.c (.v (.bool false))), none⟩]) (
  .seq (.seq (.reg false [⟨some 5, .fad 0 (.t 2), none⟩,
    ⟨some 6, .load false [(.i .i64)] (.t 5), none⟩,
    ⟨some 7, .fad 0 (.t 3), none⟩,
    ⟨some 8, .load false [(.i .i64)] (.t 7), none⟩,
    ⟨some 9, .bin .neq (.t 6) (.t 8), none⟩]) (
  .cond (.t 9) (.seq (.reg false [⟨some 4, .mv (.c (.v (.bool false))), none⟩]) (
    .ret)) (.skip))) (
  .seq (.seq (.reg false [⟨some 10, .fad 1 (.t 2), none⟩,
    ⟨some 11, .load false [(.sl 3)] (.t 10), none⟩,
    ⟨some 12, .fad 1 (.t 3), none⟩,
    ⟨some 13, .load false [(.sl 3)] (.t 12), none⟩,
    ⟨some 14, .call (.f 222) [.rd, .rd] false [.c .b] [(.t 11), (.t 13)], none⟩,
    ⟨some 15, .un .not (.t 14), none⟩]) (
  .cond (.t 15) (.seq (.reg false [⟨some 4, .mv (.c (.v (.bool false))), none⟩]) (
    .ret)) (.skip))) (
  .seq (.seq (.reg false [⟨some 16, .fad 2 (.t 2), none⟩,
    ⟨some 17, .load false [(.sl 1)] (.t 16), none⟩,
    ⟨some 18, .fad 2 (.t 3), none⟩,
    ⟨some 19, .load false [(.sl 1)] (.t 18), none⟩,
    ⟨some 20, .call (.f 75) [.rd, .rd] false [.c .b] [(.t 17), (.t 19)], none⟩,
    ⟨some 21, .un .not (.t 20), none⟩]) (
  .cond (.t 21) (.seq (.reg false [⟨some 4, .mv (.c (.v (.bool false))), none⟩]) (
    .ret)) (.skip))) (
  .seq (.seq (.reg false [⟨some 22, .fad 3 (.t 2), none⟩,
    ⟨some 23, .load false [(.sl 2)] (.t 22), none⟩,
    ⟨some 24, .fad 3 (.t 3), none⟩,
    ⟨some 25, .load false [(.sl 2)] (.t 24), none⟩,
    ⟨some 26, .call (.f 223) [.rd, .rd] false [.c .b] [(.t 23), (.t 25)], none⟩,
    ⟨some 27, .un .not (.t 26), none⟩]) (
  .cond (.t 27) (.seq (.reg false [⟨some 4, .mv (.c (.v (.bool false))), none⟩]) (
    .ret)) (.skip))) (
  .seq (.reg false [⟨some 4, .mv (.c (.v (.bool true))), none⟩]) (
  .ret)))))))⟩

theorem a188q (T : Table) (k : Nat) (n1 : Int) (l2 : Rows) (l3 : Rows) (l4 : Rows) (n5 : Int) (l6 : Rows) (l7 : Rows) (l8 : Rows) : evalF T k a188 [(.g [(.v (.int .i64 n1)), (.s 3 l2), (.s 1 l3), (.s 2 l4)]), (.g [(.v (.int .i64 n5)), (.s 3 l6), (.s 1 l7), (.s 2 l8)])] = (
 bif (n1 != n5) then (
 some ⟨(.d (.v (.bool false))), []⟩) else (
 callT T 222 [(.d (.s 3 l2)), (.d (.s 3 l6))] fun o9 =>
 oD o9.res fun d10 =>
 dB d10 fun b11 =>
 bif (!b11) then (
 some ⟨(.d (.v (.bool false))), []⟩) else (
 callT T 75 [(.d (.s 1 l3)), (.d (.s 1 l7))] fun o12 =>
 oD o12.res fun d13 =>
 dB d13 fun b14 =>
 bif (!b14) then (
 some ⟨(.d (.v (.bool false))), []⟩) else (
 callT T 223 [(.d (.s 2 l4)), (.d (.s 2 l8))] fun o15 =>
 oD o15.res fun d16 =>
 dB d16 fun b17 =>
 bif (!b17) then (
 some ⟨(.d (.v (.bool false))), []⟩) else (
 some ⟨(.d (.v (.bool true))), []⟩))))) := by kernel_rfl
/- loop.example/g00119/laws.eqOp -/

def a250 : AFun := ⟨[.rd, .rd], false, [.t 4], (
  .seq (.reg false [⟨some 2, .box (.t 0), none⟩,
    ⟨some 3, .box (.t 1), none⟩,
    ⟨some 4, .mv (.c (.v (.bool false))), none⟩]) (
  .seq (.seq (.reg false [⟨some 5, .fad 0 (.t 2), none⟩,
    ⟨some 6, .load false [(.i .i64)] (.t 5), none⟩,
    ⟨some 7, .fad 0 (.t 3), none⟩,
    ⟨some 8, .load false [(.i .i64)] (.t 7), none⟩,
    ⟨some 9, .bin .neq (.t 6) (.t 8), none⟩]) (
  .cond (.t 9) (.seq (.reg false [⟨some 4, .mv (.c (.v (.bool false))), none⟩]) (
    .ret)) (.skip))) (
  .seq (.seq (.reg false [⟨some 10, .fad 1 (.t 2), none⟩,
    ⟨some 11, .load false [(.sl 1)] (.t 10), none⟩,
    ⟨some 12, .fad 1 (.t 3), none⟩,
    ⟨some 13, .load false [(.sl 1)] (.t 12), none⟩,
    ⟨some 14, .call (.f 75) [.rd, .rd] false [.c .b] [(.t 11), (.t 13)], none⟩,
    ⟨some 15, .un .not (.t 14), none⟩]) (
  .cond (.t 15) (.seq (.reg false [⟨some 4, .mv (.c (.v (.bool false))), none⟩]) (
    .ret)) (.skip))) (
  .seq (.seq (.reg false [⟨some 16, .fad 2 (.t 2), none⟩,
    ⟨some 17, .load true [(.i .i64), .s, (.i .i64), (.sl 1), (.sl 5)] (.t 16), none⟩,
    ⟨some 18, .fad 2 (.t 3), none⟩,
    ⟨some 19, .load true [(.i .i64), .s, (.i .i64), (.sl 1), (.sl 5)] (.t 18), none⟩,
    ⟨some 20, .call (.f 179) [.rd, .rd] false [.c .b] [(.t 17), (.t 19)], none⟩,
    ⟨some 21, .un .not (.t 20), none⟩]) (
  .cond (.t 21) (.seq (.reg false [⟨some 4, .mv (.c (.v (.bool false))), none⟩]) (
    .ret)) (.skip))) (
  .seq (.reg false [⟨some 4, .mv (.c (.v (.bool true))), none⟩]) (
  .ret))))))⟩

theorem a250q (T : Table) (k : Nat) (n1 : Int) (l2 : Rows) (n3 : Int) (s4 : ByteArray) (n5 : Int) (l6 : Rows) (l7 : Rows) (n8 : Int) (l9 : Rows) (n10 : Int) (s11 : ByteArray) (n12 : Int) (l13 : Rows) (l14 : Rows) : evalF T k a250 [(.g [(.v (.int .i64 n1)), (.s 1 l2), (.v (.int .i64 n3)), (.v (.string s4)), (.v (.int .i64 n5)), (.s 1 l6), (.s 5 l7)]), (.g [(.v (.int .i64 n8)), (.s 1 l9), (.v (.int .i64 n10)), (.v (.string s11)), (.v (.int .i64 n12)), (.s 1 l13), (.s 5 l14)])] = (
 bif (n1 != n8) then (
 some ⟨(.d (.v (.bool false))), []⟩) else (
 callT T 75 [(.d (.s 1 l2)), (.d (.s 1 l9))] fun o15 =>
 oD o15.res fun d16 =>
 dB d16 fun b17 =>
 bif (!b17) then (
 some ⟨(.d (.v (.bool false))), []⟩) else (
 callT T 179 [(.g [(.v (.int .i64 n3)), (.v (.string s4)), (.v (.int .i64 n5)), (.s 1 l6), (.s 5 l7)]), (.g [(.v (.int .i64 n10)), (.v (.string s11)), (.v (.int .i64 n12)), (.s 1 l13), (.s 5 l14)])] fun o18 =>
 oD o18.res fun d19 =>
 dB d19 fun b20 =>
 bif (!b20) then (
 some ⟨(.d (.v (.bool false))), []⟩) else (
 some ⟨(.d (.v (.bool true))), []⟩)))) := by kernel_rfl

-- a251 "slices.swapRangeCmpFunc[loop.example/g00119/impl.Run]": store at fa
-- a252 "(runtime.boundsError).Error": IndexError('list index out of range')
-- a253 "(runtime.boundsError).RuntimeError": IndexError('list index out of range')
-- a254 "(runtime.errorString).Error": IndexError('list index out of range')
-- a255 "(runtime.errorString).RuntimeError": IndexError('list index out of range')
-- a256 "(runtime.plainError).Error": IndexError('list index out of range')
-- a257 "(runtime.plainError).RuntimeError": IndexError('list index out of range')
-- a258 "(runtime.errorAddressString).Error": IndexError('list index out of range')
-- a259 "(runtime.errorAddressString).RuntimeError": IndexError('list index out of range')
-- a260 "(*runtime.TypeAssertionError).Error": IndexError('list index out of range')
-- a261 "(*runtime.TypeAssertionError).RuntimeError": IndexError('list index out of range')
-- a262 "(*runtime.PanicNilError).Error": IndexError('list index out of range')
-- a263 "(*runtime.PanicNilError).RuntimeError": IndexError('list index out of range')
-- a264 "(*internal/abi.Type).Align": IndexError('list index out of range')
-- a265 "(internal/runtime/maps.unhashableTypeError).Error": IndexError('list index out of range')
-- a266 "(internal/runtime/maps.unhashableTypeError).RuntimeError": IndexError('list index out of range')
-- a267 "(internal/abi.Kind).String": IndexError('list index out of range')
/- loop.example/g00119/laws.eqOpS -/
def b243x0 : ACode := (
  .seq (.seq (.reg false [⟨some 11, .mv (.t 5), none⟩,
    ⟨some 12, .mv (.t 0), none⟩,
    ⟨some 13, .len false (.t 12), none⟩,
    ⟨some 14, .bin .lss (.t 11) (.t 13), none⟩]) (
  .cond (.t 14) (.skip) (.exit 0))) (
  .seq (.block 1 (.seq (.dreg [] [(0, ⟨some 17, .mv (.t 0), none⟩),
      (0, ⟨some 18, .mv (.t 5), none⟩),
      (0, ⟨some 19, .iad 7 (.t 17) (.t 18), none⟩),
      (0, ⟨some 20, .load true [(.i .i64), (.sl 1), (.i .i64), .s, (.i .i64), (.sl 1), (.sl 5)] (.t 19), none⟩),
      (0, ⟨some 21, .mv (.t 1), none⟩),
      (0, ⟨some 22, .mv (.t 5), none⟩),
      (0, ⟨some 23, .iad 7 (.t 21) (.t 22), none⟩),
      (0, ⟨some 24, .load true [(.i .i64), (.sl 1), (.i .i64), .s, (.i .i64), (.sl 1), (.sl 5)] (.t 23), none⟩)] [⟨some 25, .call (.f 250) [.rd, .rd] false [.c .b] [(.t 20), (.t 24)], none⟩,
      ⟨some 26, .un .not (.t 25), none⟩]) (
    .cond (.t 26) (.seq (.reg false [⟨some 4, .mv (.c (.v (.bool false))), none⟩]) (
      .ret)) (.skip)))) (
  .reg false [⟨some 15, .mv (.t 5), none⟩,
    ⟨some 16, .bin .add (.t 15) (.c (.v (.int .i64 1))), none⟩,
    ⟨some 5, .mv (.t 16), none⟩])))
def e243x0 : Exits := [(.ret, [(4, .c .b)]), ((.exit 0), [])]
def l243x0 (T : Table) (k : Nat) := loopN (evalC ⟨T, []⟩ k b243x0 (Ex × List AV)) [0, 1, 5] e243x0
def a243 : AFun := ⟨[.rd, .rd], false, [.t 4], (
  .seq (.reg false [⟨some 4, .mv (.c (.v (.bool false))), none⟩]) (
  .seq (.seq (.reg false [⟨some 6, .mv (.t 0), none⟩,
    ⟨some 7, .len false (.t 6), none⟩,
    ⟨some 8, .mv (.t 1), none⟩,
    ⟨some 9, .len false (.t 8), none⟩,
    ⟨some 10, .bin .neq (.t 7) (.t 9), none⟩]) (
  .cond (.t 10) (.seq (.reg false [⟨some 4, .mv (.c (.v (.bool false))), none⟩]) (
    .ret)) (.skip))) (
  .seq (.seq (.reg false [⟨some 5, .mv (.c (.v (.int .i64 0))), none⟩]) (
  .block 0 (.loop [0, 1, 5] e243x0 b243x0))) (
  .seq (.reg false [⟨some 4, .mv (.c (.v (.bool true))), none⟩]) (
  .ret)))))⟩
theorem l243x0s (T : Table) (k n : Nat) (l3 : Rows) (l4 : Rows) (n5 : Int) : l243x0 T k (n + 1) [(.fz 7 l3), (.fz 7 l4), (.v (.int .i64 n5))] = (
 bif (decide (n5 < (l3.length : Int))) then (
 tst (decide (0 ≤ n5)) (
 look l3 (Int.toNat n5) fun r6 =>
 cI .i64 r6 0 fun n7 =>
 cL 1 r6 1 fun l8 =>
 cI .i64 r6 2 fun n9 =>
 cS r6 3 fun s10 =>
 cI .i64 r6 4 fun n11 =>
 cL 1 r6 5 fun l12 =>
 cL 5 r6 6 fun l13 =>
 tst (decide (0 ≤ n5)) (
 look l4 (Int.toNat n5) fun r14 =>
 cI .i64 r14 0 fun n15 =>
 cL 1 r14 1 fun l16 =>
 cI .i64 r14 2 fun n17 =>
 cS r14 3 fun s18 =>
 cI .i64 r14 4 fun n19 =>
 cL 1 r14 5 fun l20 =>
 cL 5 r14 6 fun l21 =>
 callT T 250 [(.g [(.v (.int .i64 n7)), (.s 1 l8), (.v (.int .i64 n9)), (.v (.string s10)), (.v (.int .i64 n11)), (.s 1 l12), (.s 5 l13)]), (.g [(.v (.int .i64 n15)), (.s 1 l16), (.v (.int .i64 n17)), (.v (.string s18)), (.v (.int .i64 n19)), (.s 1 l20), (.s 5 l21)])] fun o22 =>
 oD o22.res fun d23 =>
 dB d23 fun b24 =>
 bif (!b24) then (
 some (.ret, [(.v (.bool false))])) else (
 l243x0 T k n [(.fz 7 l3), (.fz 7 l4), (.v (.int .i64 (IntKind.wrap .i64 (n5 + 1))))])))) else (
 some ((.exit 0), []))) := by kernel_rfl
theorem a243q (T : Table) (k : Nat) (l1 : Rows) (l2 : Rows) : evalF T k a243 [(.d (.s 7 l1)), (.d (.s 7 l2))] = (
 bif ((l1.length : Int) != (l2.length : Int)) then (
 some ⟨(.d (.v (.bool false))), []⟩) else (
 aft (l243x0 T k k [(.fz 7 l1), (.fz 7 l2), (.v (.int .i64 0))]) fun e25 ys26 =>
 bif e25.same .ret then (
 aV ys26 0 fun x27 =>
 aB x27 fun b28 =>
 some ⟨(.d (.v (.bool b28))), []⟩) else (
 bif e25.same (.exit 0) then (
 some ⟨(.d (.v (.bool true))), []⟩) else (
 none)))) := by kernel_rfl
/- loop.example/g00119/laws.eqOver -/

def a224 : AFun := ⟨[.rd, .rd], false, [.t 4], (
  .seq (.reg false [⟨some 2, .box (.t 0), none⟩,
    ⟨some 3, .box (.t 1), none⟩,
    ⟨some 4, .mv (.c (.v (.bool false))), none⟩]) (
  .seq (.seq (.reg false [⟨some 5, .fad 0 (.t 2), none⟩,
    ⟨some 6, .load false [.s] (.t 5), none⟩,
    ⟨some 7, .fad 0 (.t 3), none⟩,
    ⟨some 8, .load false [.s] (.t 7), none⟩,
    ⟨some 9, .bin .neq (.t 6) (.t 8), none⟩]) (
  .cond (.t 9) (.seq (.reg false [⟨some 4, .mv (.c (.v (.bool false))), none⟩]) (
    .ret)) (.skip))) (
  .seq (.seq (.reg false [⟨some 10, .fad 1 (.t 2), none⟩,
    ⟨some 11, .load false [(.sl 7)] (.t 10), none⟩,
    ⟨some 12, .fad 1 (.t 3), none⟩,
    ⟨some 13, .load false [(.sl 7)] (.t 12), none⟩,
    ⟨some 14, .call (.f 243) [.rd, .rd] false [.c .b] [(.t 11), (.t 13)], none⟩,
    ⟨some 15, .un .not (.t 14), none⟩]) (
  .cond (.t 15) (.seq (.reg false [⟨some 4, .mv (.c (.v (.bool false))), none⟩]) (
    .ret)) (.skip))) (
  .seq (.reg false [⟨some 4, .mv (.c (.v (.bool true))), none⟩]) (
  .ret)))))⟩

theorem a224q (T : Table) (k : Nat) (s1 : ByteArray) (l2 : Rows) (s3 : ByteArray) (l4 : Rows) : evalF T k a224 [(.g [(.v (.string s1)), (.s 7 l2)]), (.g [(.v (.string s3)), (.s 7 l4)])] = (
 bif (!(bytesEq s1 s3)) then (
 some ⟨(.d (.v (.bool false))), []⟩) else (
 callT T 243 [(.d (.s 7 l2)), (.d (.s 7 l4))] fun o5 =>
 oD o5.res fun d6 =>
 dB d6 fun b7 =>
 bif (!b7) then (
 some ⟨(.d (.v (.bool false))), []⟩) else (
 some ⟨(.d (.v (.bool true))), []⟩))) := by kernel_rfl
/- loop.example/g00119/laws.eqOverS -/
def b189x0 : ACode := (
  .seq (.seq (.reg false [⟨some 11, .mv (.t 5), none⟩,
    ⟨some 12, .mv (.t 0), none⟩,
    ⟨some 13, .len false (.t 12), none⟩,
    ⟨some 14, .bin .lss (.t 11) (.t 13), none⟩]) (
  .cond (.t 14) (.skip) (.exit 0))) (
  .seq (.block 1 (.seq (.dreg [] [(0, ⟨some 17, .mv (.t 0), none⟩),
      (0, ⟨some 18, .mv (.t 5), none⟩),
      (0, ⟨some 19, .iad 2 (.t 17) (.t 18), none⟩),
      (0, ⟨some 20, .load true [.s, (.sl 7)] (.t 19), none⟩),
      (0, ⟨some 21, .mv (.t 1), none⟩),
      (0, ⟨some 22, .mv (.t 5), none⟩),
      (0, ⟨some 23, .iad 2 (.t 21) (.t 22), none⟩),
      (0, ⟨some 24, .load true [.s, (.sl 7)] (.t 23), none⟩)] [⟨some 25, .call (.f 224) [.rd, .rd] false [.c .b] [(.t 20), (.t 24)], none⟩,
      ⟨some 26, .un .not (.t 25), none⟩]) (
    .cond (.t 26) (.seq (.reg false [⟨some 4, .mv (.c (.v (.bool false))), none⟩]) (
      .ret)) (.skip)))) (
  .reg false [⟨some 15, .mv (.t 5), none⟩,
    ⟨some 16, .bin .add (.t 15) (.c (.v (.int .i64 1))), none⟩,
    ⟨some 5, .mv (.t 16), none⟩])))
def e189x0 : Exits := [(.ret, [(4, .c .b)]), ((.exit 0), [])]
def l189x0 (T : Table) (k : Nat) := loopN (evalC ⟨T, []⟩ k b189x0 (Ex × List AV)) [0, 1, 5] e189x0
def a189 : AFun := ⟨[.rd, .rd], false, [.t 4], (
  .seq (.reg false [⟨some 4, .mv (.c (.v (.bool false))), none⟩]) (
  .seq (.seq (.reg false [⟨some 6, .mv (.t 0), none⟩,
    ⟨some 7, .len false (.t 6), none⟩,
    ⟨some 8, .mv (.t 1), none⟩,
    ⟨some 9, .len false (.t 8), none⟩,
    ⟨some 10, .bin .neq (.t 7) (.t 9), none⟩]) (
  .cond (.t 10) (.seq (.reg false [⟨some 4, .mv (.c (.v (.bool false))), none⟩]) (
    .ret)) (.skip))) (
  .seq (.seq (.reg false [⟨some 5, .mv (.c (.v (.int .i64 0))), none⟩]) (
  .block 0 (.loop [0, 1, 5] e189x0 b189x0))) (
  .seq (.reg false [⟨some 4, .mv (.c (.v (.bool true))), none⟩]) (
  .ret)))))⟩
theorem l189x0s (T : Table) (k n : Nat) (l3 : Rows) (l4 : Rows) (n5 : Int) : l189x0 T k (n + 1) [(.fz 2 l3), (.fz 2 l4), (.v (.int .i64 n5))] = (
 bif (decide (n5 < (l3.length : Int))) then (
 tst (decide (0 ≤ n5)) (
 look l3 (Int.toNat n5) fun r6 =>
 cS r6 0 fun s7 =>
 cL 7 r6 1 fun l8 =>
 tst (decide (0 ≤ n5)) (
 look l4 (Int.toNat n5) fun r9 =>
 cS r9 0 fun s10 =>
 cL 7 r9 1 fun l11 =>
 callT T 224 [(.g [(.v (.string s7)), (.s 7 l8)]), (.g [(.v (.string s10)), (.s 7 l11)])] fun o12 =>
 oD o12.res fun d13 =>
 dB d13 fun b14 =>
 bif (!b14) then (
 some (.ret, [(.v (.bool false))])) else (
 l189x0 T k n [(.fz 2 l3), (.fz 2 l4), (.v (.int .i64 (IntKind.wrap .i64 (n5 + 1))))])))) else (
 some ((.exit 0), []))) := by kernel_rfl
theorem a189q (T : Table) (k : Nat) (l1 : Rows) (l2 : Rows) : evalF T k a189 [(.d (.s 2 l1)), (.d (.s 2 l2))] = (
 bif ((l1.length : Int) != (l2.length : Int)) then (
 some ⟨(.d (.v (.bool false))), []⟩) else (
 aft (l189x0 T k k [(.fz 2 l1), (.fz 2 l2), (.v (.int .i64 0))]) fun e15 ys16 =>
 bif e15.same .ret then (
 aV ys16 0 fun x17 =>
 aB x17 fun b18 =>
 some ⟨(.d (.v (.bool b18))), []⟩) else (
 bif e15.same (.exit 0) then (
 some ⟨(.d (.v (.bool true))), []⟩) else (
 none)))) := by kernel_rfl
/- loop.example/g00119/laws.eqJob -/

def a144 : AFun := ⟨[.rd, .rd], false, [.t 4], (
  .seq (.reg false [⟨some 2, .box (.t 0), none⟩,
    ⟨some 3, .box (.t 1), none⟩,
    ⟨some 4, .mv (.c (.v (.bool false))), none⟩]) (
  .seq (.seq (.reg false [⟨some 5, .fad 0 (.t 2), none⟩,
    ⟨some 6, .load false [(.i .i64)] (.t 5), none⟩,
    ⟨some 7, .fad 0 (.t 3), none⟩,
    ⟨some 8, .load false [(.i .i64)] (.t 7), none⟩,
    ⟨some 9, .bin .neq (.t 6) (.t 8), none⟩]) (
  .cond (.t 9) (.seq (.reg false [⟨some 4, .mv (.c (.v (.bool false))), none⟩]) (
    .ret)) (.skip))) (
  .seq (.seq (.reg false [⟨some 10, .fad 1 (.t 2), none⟩,
    ⟨some 11, .load false [.s] (.t 10), none⟩,
    ⟨some 12, .fad 1 (.t 3), none⟩,
    ⟨some 13, .load false [.s] (.t 12), none⟩,
    ⟨some 14, .bin .neq (.t 11) (.t 13), none⟩]) (
  .cond (.t 14) (.seq (.reg false [⟨some 4, .mv (.c (.v (.bool false))), none⟩]) (
    .ret)) (.skip))) (
  .seq (.seq (.reg false [⟨some 15, .fad 2 (.t 2), none⟩,
    ⟨some 16, .load true [(.i .i64), (.sl 3), (.sl 1), (.sl 2)] (.t 15), none⟩,
    ⟨some 17, .fad 2 (.t 3), none⟩,
    ⟨some 18, .load true [(.i .i64), (.sl 3), (.sl 1), (.sl 2)] (.t 17), none⟩,
    ⟨some 19, .call (.f 188) [.rd, .rd] false [.c .b] [(.t 16), (.t 18)], none⟩,
    ⟨some 20, .un .not (.t 19), none⟩]) (
  .cond (.t 20) (.seq (.reg false [⟨some 4, .mv (.c (.v (.bool false))), none⟩]) (
    .ret)) (.skip))) (
  .seq (.seq (.reg false [⟨some 21, .fad 6 (.t 2), none⟩,
    ⟨some 22, .load true [(.i .i64), .s, (.i .i64), (.sl 1), (.sl 5)] (.t 21), none⟩,
    ⟨some 23, .fad 6 (.t 3), none⟩,
    ⟨some 24, .load true [(.i .i64), .s, (.i .i64), (.sl 1), (.sl 5)] (.t 23), none⟩,
    ⟨some 25, .call (.f 179) [.rd, .rd] false [.c .b] [(.t 22), (.t 24)], none⟩,
    ⟨some 26, .un .not (.t 25), none⟩]) (
  .cond (.t 26) (.seq (.reg false [⟨some 4, .mv (.c (.v (.bool false))), none⟩]) (
    .ret)) (.skip))) (
  .seq (.seq (.reg false [⟨some 27, .fad 11 (.t 2), none⟩,
    ⟨some 28, .load false [(.sl 2)] (.t 27), none⟩,
    ⟨some 29, .fad 11 (.t 3), none⟩,
    ⟨some 30, .load false [(.sl 2)] (.t 29), none⟩,
    ⟨some 31, .call (.f 189) [.rd, .rd] false [.c .b] [(.t 28), (.t 30)], none⟩,
    ⟨some 32, .un .not (.t 31), none⟩]) (
  .cond (.t 32) (.seq (.reg false [⟨some 4, .mv (.c (.v (.bool false))), none⟩]) (
    .ret)) (.skip))) (
  .seq (.seq (.reg false [⟨some 33, .fad 12 (.t 2), none⟩,
    ⟨some 34, .load false [.b] (.t 33), none⟩,
    ⟨some 35, .fad 12 (.t 3), none⟩,
    ⟨some 36, .load false [.b] (.t 35), none⟩,
    ⟨some 37, .beq true (.t 34) (.t 36), none⟩]) (
  .cond (.t 37) (.seq (.reg false [⟨some 4, .mv (.c (.v (.bool false))), none⟩]) (
    .ret)) (.skip))) (
  .seq (.reg false [⟨some 4, .mv (.c (.v (.bool true))), none⟩]) (
  .ret)))))))))⟩

theorem a144q (T : Table) (k : Nat) (n1 : Int) (s2 : ByteArray) (n3 : Int) (l4 : Rows) (l5 : Rows) (l6 : Rows) (n7 : Int) (s8 : ByteArray) (n9 : Int) (l10 : Rows) (l11 : Rows) (l12 : Rows) (b13 : Bool) (n14 : Int) (s15 : ByteArray) (n16 : Int) (l17 : Rows) (l18 : Rows) (l19 : Rows) (n20 : Int) (s21 : ByteArray) (n22 : Int) (l23 : Rows) (l24 : Rows) (l25 : Rows) (b26 : Bool) : evalF T k a144 [(.g [(.v (.int .i64 n1)), (.v (.string s2)), (.v (.int .i64 n3)), (.s 3 l4), (.s 1 l5), (.s 2 l6), (.v (.int .i64 n7)), (.v (.string s8)), (.v (.int .i64 n9)), (.s 1 l10), (.s 5 l11), (.s 2 l12), (.v (.bool b13))]), (.g [(.v (.int .i64 n14)), (.v (.string s15)), (.v (.int .i64 n16)), (.s 3 l17), (.s 1 l18), (.s 2 l19), (.v (.int .i64 n20)), (.v (.string s21)), (.v (.int .i64 n22)), (.s 1 l23), (.s 5 l24), (.s 2 l25), (.v (.bool b26))])] = (
 bif (n1 != n14) then (
 some ⟨(.d (.v (.bool false))), []⟩) else (
 bif (!(bytesEq s2 s15)) then (
 some ⟨(.d (.v (.bool false))), []⟩) else (
 callT T 188 [(.g [(.v (.int .i64 n3)), (.s 3 l4), (.s 1 l5), (.s 2 l6)]), (.g [(.v (.int .i64 n16)), (.s 3 l17), (.s 1 l18), (.s 2 l19)])] fun o27 =>
 oD o27.res fun d28 =>
 dB d28 fun b29 =>
 bif (!b29) then (
 some ⟨(.d (.v (.bool false))), []⟩) else (
 callT T 179 [(.g [(.v (.int .i64 n7)), (.v (.string s8)), (.v (.int .i64 n9)), (.s 1 l10), (.s 5 l11)]), (.g [(.v (.int .i64 n20)), (.v (.string s21)), (.v (.int .i64 n22)), (.s 1 l23), (.s 5 l24)])] fun o30 =>
 oD o30.res fun d31 =>
 dB d31 fun b32 =>
 bif (!b32) then (
 some ⟨(.d (.v (.bool false))), []⟩) else (
 callT T 189 [(.d (.s 2 l12)), (.d (.s 2 l25))] fun o33 =>
 oD o33.res fun d34 =>
 dB d34 fun b35 =>
 bif (!b35) then (
 some ⟨(.d (.v (.bool false))), []⟩) else (
 bif (b13 != b26) then (
 some ⟨(.d (.v (.bool false))), []⟩) else (
 some ⟨(.d (.v (.bool true))), []⟩))))))) := by kernel_rfl
/- loop.example/g00119/laws.eqJobS -/
def b72x0 : ACode := (
  .seq (.seq (.reg false [⟨some 11, .mv (.t 5), none⟩,
    ⟨some 12, .mv (.t 0), none⟩,
    ⟨some 13, .len false (.t 12), none⟩,
    ⟨some 14, .bin .lss (.t 11) (.t 13), none⟩]) (
  .cond (.t 14) (.skip) (.exit 0))) (
  .seq (.block 1 (.seq (.dreg [] [(0, ⟨some 17, .mv (.t 0), none⟩),
      (0, ⟨some 18, .mv (.t 5), none⟩),
      (0, ⟨some 19, .iad 13 (.t 17) (.t 18), none⟩),
      (0, ⟨some 20, .load true [(.i .i64), .s, (.i .i64), (.sl 3), (.sl 1), (.sl 2), (.i .i64), .s, (.i .i64), (.sl 1), (.sl 5), (.sl 2), .b] (.t 19), none⟩),
      (0, ⟨some 21, .mv (.t 1), none⟩),
      (0, ⟨some 22, .mv (.t 5), none⟩),
      (0, ⟨some 23, .iad 13 (.t 21) (.t 22), none⟩),
      (0, ⟨some 24, .load true [(.i .i64), .s, (.i .i64), (.sl 3), (.sl 1), (.sl 2), (.i .i64), .s, (.i .i64), (.sl 1), (.sl 5), (.sl 2), .b] (.t 23), none⟩)] [⟨some 25, .call (.f 144) [.rd, .rd] false [.c .b] [(.t 20), (.t 24)], none⟩,
      ⟨some 26, .un .not (.t 25), none⟩]) (
    .cond (.t 26) (.seq (.reg false [⟨some 4, .mv (.c (.v (.bool false))), none⟩]) (
      .ret)) (.skip)))) (
  .reg false [⟨some 15, .mv (.t 5), none⟩,
    ⟨some 16, .bin .add (.t 15) (.c (.v (.int .i64 1))), none⟩,
    ⟨some 5, .mv (.t 16), none⟩])))
def e72x0 : Exits := [(.ret, [(4, .c .b)]), ((.exit 0), [])]
def l72x0 (T : Table) (k : Nat) := loopN (evalC ⟨T, []⟩ k b72x0 (Ex × List AV)) [0, 1, 5] e72x0
def a72 : AFun := ⟨[.rd, .rd], false, [.t 4], (
  .seq (.reg false [⟨some 4, .mv (.c (.v (.bool false))), none⟩]) (
  .seq (.seq (.reg false [⟨some 6, .mv (.t 0), none⟩,
    ⟨some 7, .len false (.t 6), none⟩,
    ⟨some 8, .mv (.t 1), none⟩,
    ⟨some 9, .len false (.t 8), none⟩,
    ⟨some 10, .bin .neq (.t 7) (.t 9), none⟩]) (
  .cond (.t 10) (.seq (.reg false [⟨some 4, .mv (.c (.v (.bool false))), none⟩]) (
    .ret)) (.skip))) (
  .seq (.seq (.reg false [⟨some 5, .mv (.c (.v (.int .i64 0))), none⟩]) (
  .block 0 (.loop [0, 1, 5] e72x0 b72x0))) (
  .seq (.reg false [⟨some 4, .mv (.c (.v (.bool true))), none⟩]) (
  .ret)))))⟩
theorem l72x0s (T : Table) (k n : Nat) (l3 : Rows) (l4 : Rows) (n5 : Int) : l72x0 T k (n + 1) [(.fz 13 l3), (.fz 13 l4), (.v (.int .i64 n5))] = (
 bif (decide (n5 < (l3.length : Int))) then (
 tst (decide (0 ≤ n5)) (
 look l3 (Int.toNat n5) fun r6 =>
 cI .i64 r6 0 fun n7 =>
 cS r6 1 fun s8 =>
 cI .i64 r6 2 fun n9 =>
 cL 3 r6 3 fun l10 =>
 cL 1 r6 4 fun l11 =>
 cL 2 r6 5 fun l12 =>
 cI .i64 r6 6 fun n13 =>
 cS r6 7 fun s14 =>
 cI .i64 r6 8 fun n15 =>
 cL 1 r6 9 fun l16 =>
 cL 5 r6 10 fun l17 =>
 cL 2 r6 11 fun l18 =>
 cB r6 12 fun b19 =>
 tst (decide (0 ≤ n5)) (
 look l4 (Int.toNat n5) fun r20 =>
 cI .i64 r20 0 fun n21 =>
 cS r20 1 fun s22 =>
 cI .i64 r20 2 fun n23 =>
 cL 3 r20 3 fun l24 =>
 cL 1 r20 4 fun l25 =>
 cL 2 r20 5 fun l26 =>
 cI .i64 r20 6 fun n27 =>
 cS r20 7 fun s28 =>
 cI .i64 r20 8 fun n29 =>
 cL 1 r20 9 fun l30 =>
 cL 5 r20 10 fun l31 =>
 cL 2 r20 11 fun l32 =>
 cB r20 12 fun b33 =>
 callT T 144 [(.g [(.v (.int .i64 n7)), (.v (.string s8)), (.v (.int .i64 n9)), (.s 3 l10), (.s 1 l11), (.s 2 l12), (.v (.int .i64 n13)), (.v (.string s14)), (.v (.int .i64 n15)), (.s 1 l16), (.s 5 l17), (.s 2 l18), (.v (.bool b19))]), (.g [(.v (.int .i64 n21)), (.v (.string s22)), (.v (.int .i64 n23)), (.s 3 l24), (.s 1 l25), (.s 2 l26), (.v (.int .i64 n27)), (.v (.string s28)), (.v (.int .i64 n29)), (.s 1 l30), (.s 5 l31), (.s 2 l32), (.v (.bool b33))])] fun o34 =>
 oD o34.res fun d35 =>
 dB d35 fun b36 =>
 bif (!b36) then (
 some (.ret, [(.v (.bool false))])) else (
 l72x0 T k n [(.fz 13 l3), (.fz 13 l4), (.v (.int .i64 (IntKind.wrap .i64 (n5 + 1))))])))) else (
 some ((.exit 0), []))) := by kernel_rfl
theorem a72q (T : Table) (k : Nat) (l1 : Rows) (l2 : Rows) : evalF T k a72 [(.d (.s 13 l1)), (.d (.s 13 l2))] = (
 bif ((l1.length : Int) != (l2.length : Int)) then (
 some ⟨(.d (.v (.bool false))), []⟩) else (
 aft (l72x0 T k k [(.fz 13 l1), (.fz 13 l2), (.v (.int .i64 0))]) fun e37 ys38 =>
 bif e37.same .ret then (
 aV ys38 0 fun x39 =>
 aB x39 fun b40 =>
 some ⟨(.d (.v (.bool b40))), []⟩) else (
 bif e37.same (.exit 0) then (
 some ⟨(.d (.v (.bool true))), []⟩) else (
 none)))) := by kernel_rfl
/- loop.example/g00119/laws.eqLabel -/

def a244 : AFun := ⟨[.rd, .rd], false, [.t 4], (
  .seq (.reg false [⟨some 2, .box (.t 0), none⟩,
    ⟨some 3, .box (.t 1), none⟩,
    ⟨some 4, .mv (.c (.v (.bool false))), none⟩]) (
  .seq (.seq (.reg false [⟨some 5, .fad 0 (.t 2), none⟩,
    ⟨some 6, .load false [.s] (.t 5), none⟩,
    ⟨some 7, .fad 0 (.t 3), none⟩,
    ⟨some 8, .load false [.s] (.t 7), none⟩,
    ⟨some 9, .bin .neq (.t 6) (.t 8), none⟩]) (
  .cond (.t 9) (.seq (.reg false [⟨some 4, .mv (.c (.v (.bool false))), none⟩]) (
    .ret)) (.skip))) (
  .seq (.seq (.reg false [⟨some 10, .fad 1 (.t 2), none⟩,
    ⟨some 11, .load false [.s] (.t 10), none⟩,
    ⟨some 12, .fad 1 (.t 3), none⟩,
    ⟨some 13, .load false [.s] (.t 12), none⟩,
    ⟨some 14, .bin .neq (.t 11) (.t 13), none⟩]) (
  .cond (.t 14) (.seq (.reg false [⟨some 4, .mv (.c (.v (.bool false))), none⟩]) (
    .ret)) (.skip))) (
  .seq (.reg false [⟨some 4, .mv (.c (.v (.bool true))), none⟩]) (
  .ret)))))⟩

theorem a244q (T : Table) (k : Nat) (s1 : ByteArray) (s2 : ByteArray) (s3 : ByteArray) (s4 : ByteArray) : evalF T k a244 [(.g [(.v (.string s1)), (.v (.string s2))]), (.g [(.v (.string s3)), (.v (.string s4))])] = (
 bif (!(bytesEq s1 s3)) then (
 some ⟨(.d (.v (.bool false))), []⟩) else (
 bif (!(bytesEq s2 s4)) then (
 some ⟨(.d (.v (.bool false))), []⟩) else (
 some ⟨(.d (.v (.bool true))), []⟩))) := by kernel_rfl

-- a245 "slices.rotateCmpFunc[loop.example/g00119/impl.Run]": shape of ff
-- a246 "slices.swapRangeCmpFunc[loop.example/g00119/impl.Part]": store at fa
/- loop.example/g00119/laws.eqLabelS -/
def b225x0 : ACode := (
  .seq (.seq (.reg false [⟨some 11, .mv (.t 5), none⟩,
    ⟨some 12, .mv (.t 0), none⟩,
    ⟨some 13, .len false (.t 12), none⟩,
    ⟨some 14, .bin .lss (.t 11) (.t 13), none⟩]) (
  .cond (.t 14) (.skip) (.exit 0))) (
  .seq (.block 1 (.seq (.dreg [] [(0, ⟨some 17, .mv (.t 0), none⟩),
      (0, ⟨some 18, .mv (.t 5), none⟩),
      (0, ⟨some 19, .iad 2 (.t 17) (.t 18), none⟩),
      (0, ⟨some 20, .load true [.s, .s] (.t 19), none⟩),
      (0, ⟨some 21, .mv (.t 1), none⟩),
      (0, ⟨some 22, .mv (.t 5), none⟩),
      (0, ⟨some 23, .iad 2 (.t 21) (.t 22), none⟩),
      (0, ⟨some 24, .load true [.s, .s] (.t 23), none⟩)] [⟨some 25, .call (.f 244) [.rd, .rd] false [.c .b] [(.t 20), (.t 24)], none⟩,
      ⟨some 26, .un .not (.t 25), none⟩]) (
    .cond (.t 26) (.seq (.reg false [⟨some 4, .mv (.c (.v (.bool false))), none⟩]) (
      .ret)) (.skip)))) (
  .reg false [⟨some 15, .mv (.t 5), none⟩,
    ⟨some 16, .bin .add (.t 15) (.c (.v (.int .i64 1))), none⟩,
    ⟨some 5, .mv (.t 16), none⟩])))
def e225x0 : Exits := [(.ret, [(4, .c .b)]), ((.exit 0), [])]
def l225x0 (T : Table) (k : Nat) := loopN (evalC ⟨T, []⟩ k b225x0 (Ex × List AV)) [0, 1, 5] e225x0
def a225 : AFun := ⟨[.rd, .rd], false, [.t 4], (
  .seq (.reg false [⟨some 4, .mv (.c (.v (.bool false))), none⟩]) (
  .seq (.seq (.reg false [⟨some 6, .mv (.t 0), none⟩,
    ⟨some 7, .len false (.t 6), none⟩,
    ⟨some 8, .mv (.t 1), none⟩,
    ⟨some 9, .len false (.t 8), none⟩,
    ⟨some 10, .bin .neq (.t 7) (.t 9), none⟩]) (
  .cond (.t 10) (.seq (.reg false [⟨some 4, .mv (.c (.v (.bool false))), none⟩]) (
    .ret)) (.skip))) (
  .seq (.seq (.reg false [⟨some 5, .mv (.c (.v (.int .i64 0))), none⟩]) (
  .block 0 (.loop [0, 1, 5] e225x0 b225x0))) (
  .seq (.reg false [⟨some 4, .mv (.c (.v (.bool true))), none⟩]) (
  .ret)))))⟩
theorem l225x0s (T : Table) (k n : Nat) (l3 : Rows) (l4 : Rows) (n5 : Int) : l225x0 T k (n + 1) [(.fz 2 l3), (.fz 2 l4), (.v (.int .i64 n5))] = (
 bif (decide (n5 < (l3.length : Int))) then (
 tst (decide (0 ≤ n5)) (
 look l3 (Int.toNat n5) fun r6 =>
 cS r6 0 fun s7 =>
 cS r6 1 fun s8 =>
 tst (decide (0 ≤ n5)) (
 look l4 (Int.toNat n5) fun r9 =>
 cS r9 0 fun s10 =>
 cS r9 1 fun s11 =>
 callT T 244 [(.g [(.v (.string s7)), (.v (.string s8))]), (.g [(.v (.string s10)), (.v (.string s11))])] fun o12 =>
 oD o12.res fun d13 =>
 dB d13 fun b14 =>
 bif (!b14) then (
 some (.ret, [(.v (.bool false))])) else (
 l225x0 T k n [(.fz 2 l3), (.fz 2 l4), (.v (.int .i64 (IntKind.wrap .i64 (n5 + 1))))])))) else (
 some ((.exit 0), []))) := by kernel_rfl
theorem a225q (T : Table) (k : Nat) (l1 : Rows) (l2 : Rows) : evalF T k a225 [(.d (.s 2 l1)), (.d (.s 2 l2))] = (
 bif ((l1.length : Int) != (l2.length : Int)) then (
 some ⟨(.d (.v (.bool false))), []⟩) else (
 aft (l225x0 T k k [(.fz 2 l1), (.fz 2 l2), (.v (.int .i64 0))]) fun e15 ys16 =>
 bif e15.same .ret then (
 aV ys16 0 fun x17 =>
 aB x17 fun b18 =>
 some ⟨(.d (.v (.bool b18))), []⟩) else (
 bif e15.same (.exit 0) then (
 some ⟨(.d (.v (.bool true))), []⟩) else (
 none)))) := by kernel_rfl

-- a226 "slices.insertionSortCmpFunc[loop.example/g00119/impl.Run]": store at fa
-- a227 "slices.symMergeCmpFunc[loop.example/g00119/impl.Run]": bin shr
/- loop.example/g00119/laws.eqIsland -/

def a190 : AFun := ⟨[.rd, .rd], false, [.t 4], (
  .seq (.reg false [⟨some 2, .box (.t 0), none⟩,
    ⟨some 3, .box (.t 1), none⟩,
    ⟨some 4, .mv (.c (.v (.bool false))), none⟩]) (
  .seq (.seq (.reg false [⟨some 5, .fad 0 (.t 2), none⟩,
    ⟨some 6, .load false [.s] (.t 5), none⟩,
    ⟨some 7, .fad 0 (.t 3), none⟩,
    ⟨some 8, .load false [.s] (.t 7), none⟩,
    ⟨some 9, .bin .neq (.t 6) (.t 8), none⟩]) (
  .cond (.t 9) (.seq (.reg false [⟨some 4, .mv (.c (.v (.bool false))), none⟩]) (
    .ret)) (.skip))) (
  .seq (.seq (.reg false [⟨some 10, .fad 1 (.t 2), none⟩,
    ⟨some 11, .load false [(.sl 2)] (.t 10), none⟩,
    ⟨some 12, .fad 1 (.t 3), none⟩,
    ⟨some 13, .load false [(.sl 2)] (.t 12), none⟩,
    ⟨some 14, .call (.f 225) [.rd, .rd] false [.c .b] [(.t 11), (.t 13)], none⟩,
    ⟨some 15, .un .not (.t 14), none⟩]) (
  .cond (.t 15) (.seq (.reg false [⟨some 4, .mv (.c (.v (.bool false))), none⟩]) (
    .ret)) (.skip))) (
  .seq (.seq (.reg false [⟨some 16, .fad 2 (.t 2), none⟩,
    ⟨some 17, .load false [(.sl 1)] (.t 16), none⟩,
    ⟨some 18, .fad 2 (.t 3), none⟩,
    ⟨some 19, .load false [(.sl 1)] (.t 18), none⟩,
    ⟨some 20, .call (.f 75) [.rd, .rd] false [.c .b] [(.t 17), (.t 19)], none⟩,
    ⟨some 21, .un .not (.t 20), none⟩]) (
  .cond (.t 21) (.seq (.reg false [⟨some 4, .mv (.c (.v (.bool false))), none⟩]) (
    .ret)) (.skip))) (
  .seq (.seq (.reg false [⟨some 22, .fad 3 (.t 2), none⟩,
    ⟨some 23, .load false [(.i .i64)] (.t 22), none⟩,
    ⟨some 24, .fad 3 (.t 3), none⟩,
    ⟨some 25, .load false [(.i .i64)] (.t 24), none⟩,
    ⟨some 26, .bin .neq (.t 23) (.t 25), none⟩]) (
  .cond (.t 26) (.seq (.reg false [⟨some 4, .mv (.c (.v (.bool false))), none⟩]) (
    .ret)) (.skip))) (
  .seq (.reg false [⟨some 4, .mv (.c (.v (.bool true))), none⟩]) (
  .ret)))))))⟩

theorem a190q (T : Table) (k : Nat) (s1 : ByteArray) (l2 : Rows) (l3 : Rows) (n4 : Int) (s5 : ByteArray) (l6 : Rows) (l7 : Rows) (n8 : Int) : evalF T k a190 [(.g [(.v (.string s1)), (.s 2 l2), (.s 1 l3), (.v (.int .i64 n4))]), (.g [(.v (.string s5)), (.s 2 l6), (.s 1 l7), (.v (.int .i64 n8))])] = (
 bif (!(bytesEq s1 s5)) then (
 some ⟨(.d (.v (.bool false))), []⟩) else (
 callT T 225 [(.d (.s 2 l2)), (.d (.s 2 l6))] fun o9 =>
 oD o9.res fun d10 =>
 dB d10 fun b11 =>
 bif (!b11) then (
 some ⟨(.d (.v (.bool false))), []⟩) else (
 callT T 75 [(.d (.s 1 l3)), (.d (.s 1 l7))] fun o12 =>
 oD o12.res fun d13 =>
 dB d13 fun b14 =>
 bif (!b14) then (
 some ⟨(.d (.v (.bool false))), []⟩) else (
 bif (n4 != n8) then (
 some ⟨(.d (.v (.bool false))), []⟩) else (
 some ⟨(.d (.v (.bool true))), []⟩))))) := by kernel_rfl
/- loop.example/g00119/laws.eqPost -/

def a145 : AFun := ⟨[.rd, .rd], false, [.t 4], (
  .seq (.reg false [⟨some 2, .box (.t 0), none⟩,
    ⟨some 3, .box (.t 1), none⟩,
    ⟨some 4, .mv (.c (.v (.bool false))), none⟩]) (
  .seq (.seq (.reg false [⟨some 5, .fad 0 (.t 2), none⟩,
    ⟨some 6, .load true [.s, (.sl 2), (.sl 1), (.i .i64)] (.t 5), none⟩,
    ⟨some 7, .fad 0 (.t 3), none⟩,
    ⟨some 8, .load true [.s, (.sl 2), (.sl 1), (.i .i64)] (.t 7), none⟩,
    ⟨some 9, .call (.f 190) [.rd, .rd] false [.c .b] [(.t 6), (.t 8)], none⟩,
    ⟨some 10, .un .not (.t 9), none⟩]) (
  .cond (.t 10) (.seq (.reg false [⟨some 4, .mv (.c (.v (.bool false))), none⟩]) (
    .ret)) (.skip))) (
  .seq (.seq (.reg false [⟨some 11, .fad 4 (.t 2), none⟩,
    ⟨some 12, .load false [(.i .i64)] (.t 11), none⟩,
    ⟨some 13, .fad 4 (.t 3), none⟩,
    ⟨some 14, .load false [(.i .i64)] (.t 13), none⟩,
    ⟨some 15, .bin .neq (.t 12) (.t 14), none⟩]) (
  .cond (.t 15) (.seq (.reg false [⟨some 4, .mv (.c (.v (.bool false))), none⟩]) (
    .ret)) (.skip))) (
  .seq (.seq (.reg false [⟨some 16, .fad 5 (.t 2), none⟩,
    ⟨some 17, .load false [(.i .i64)] (.t 16), none⟩,
    ⟨some 18, .fad 5 (.t 3), none⟩,
    ⟨some 19, .load false [(.i .i64)] (.t 18), none⟩,
    ⟨some 20, .bin .neq (.t 17) (.t 19), none⟩]) (
  .cond (.t 20) (.seq (.reg false [⟨some 4, .mv (.c (.v (.bool false))), none⟩]) (
    .ret)) (.skip))) (
  .seq (.reg false [⟨some 4, .mv (.c (.v (.bool true))), none⟩]) (
  .ret))))))⟩

theorem a145q (T : Table) (k : Nat) (s1 : ByteArray) (l2 : Rows) (l3 : Rows) (n4 : Int) (n5 : Int) (n6 : Int) (s7 : ByteArray) (l8 : Rows) (l9 : Rows) (n10 : Int) (n11 : Int) (n12 : Int) : evalF T k a145 [(.g [(.v (.string s1)), (.s 2 l2), (.s 1 l3), (.v (.int .i64 n4)), (.v (.int .i64 n5)), (.v (.int .i64 n6))]), (.g [(.v (.string s7)), (.s 2 l8), (.s 1 l9), (.v (.int .i64 n10)), (.v (.int .i64 n11)), (.v (.int .i64 n12))])] = (
 callT T 190 [(.g [(.v (.string s1)), (.s 2 l2), (.s 1 l3), (.v (.int .i64 n4))]), (.g [(.v (.string s7)), (.s 2 l8), (.s 1 l9), (.v (.int .i64 n10))])] fun o13 =>
 oD o13.res fun d14 =>
 dB d14 fun b15 =>
 bif (!b15) then (
 some ⟨(.d (.v (.bool false))), []⟩) else (
 bif (n5 != n11) then (
 some ⟨(.d (.v (.bool false))), []⟩) else (
 bif (n6 != n12) then (
 some ⟨(.d (.v (.bool false))), []⟩) else (
 some ⟨(.d (.v (.bool true))), []⟩)))) := by kernel_rfl
/- loop.example/g00119/laws.eqPostS -/
def b73x0 : ACode := (
  .seq (.seq (.reg false [⟨some 11, .mv (.t 5), none⟩,
    ⟨some 12, .mv (.t 0), none⟩,
    ⟨some 13, .len false (.t 12), none⟩,
    ⟨some 14, .bin .lss (.t 11) (.t 13), none⟩]) (
  .cond (.t 14) (.skip) (.exit 0))) (
  .seq (.block 1 (.seq (.dreg [] [(0, ⟨some 17, .mv (.t 0), none⟩),
      (0, ⟨some 18, .mv (.t 5), none⟩),
      (0, ⟨some 19, .iad 6 (.t 17) (.t 18), none⟩),
      (0, ⟨some 20, .load true [.s, (.sl 2), (.sl 1), (.i .i64), (.i .i64), (.i .i64)] (.t 19), none⟩),
      (0, ⟨some 21, .mv (.t 1), none⟩),
      (0, ⟨some 22, .mv (.t 5), none⟩),
      (0, ⟨some 23, .iad 6 (.t 21) (.t 22), none⟩),
      (0, ⟨some 24, .load true [.s, (.sl 2), (.sl 1), (.i .i64), (.i .i64), (.i .i64)] (.t 23), none⟩)] [⟨some 25, .call (.f 145) [.rd, .rd] false [.c .b] [(.t 20), (.t 24)], none⟩,
      ⟨some 26, .un .not (.t 25), none⟩]) (
    .cond (.t 26) (.seq (.reg false [⟨some 4, .mv (.c (.v (.bool false))), none⟩]) (
      .ret)) (.skip)))) (
  .reg false [⟨some 15, .mv (.t 5), none⟩,
    ⟨some 16, .bin .add (.t 15) (.c (.v (.int .i64 1))), none⟩,
    ⟨some 5, .mv (.t 16), none⟩])))
def e73x0 : Exits := [(.ret, [(4, .c .b)]), ((.exit 0), [])]
def l73x0 (T : Table) (k : Nat) := loopN (evalC ⟨T, []⟩ k b73x0 (Ex × List AV)) [0, 1, 5] e73x0
def a73 : AFun := ⟨[.rd, .rd], false, [.t 4], (
  .seq (.reg false [⟨some 4, .mv (.c (.v (.bool false))), none⟩]) (
  .seq (.seq (.reg false [⟨some 6, .mv (.t 0), none⟩,
    ⟨some 7, .len false (.t 6), none⟩,
    ⟨some 8, .mv (.t 1), none⟩,
    ⟨some 9, .len false (.t 8), none⟩,
    ⟨some 10, .bin .neq (.t 7) (.t 9), none⟩]) (
  .cond (.t 10) (.seq (.reg false [⟨some 4, .mv (.c (.v (.bool false))), none⟩]) (
    .ret)) (.skip))) (
  .seq (.seq (.reg false [⟨some 5, .mv (.c (.v (.int .i64 0))), none⟩]) (
  .block 0 (.loop [0, 1, 5] e73x0 b73x0))) (
  .seq (.reg false [⟨some 4, .mv (.c (.v (.bool true))), none⟩]) (
  .ret)))))⟩
theorem l73x0s (T : Table) (k n : Nat) (l3 : Rows) (l4 : Rows) (n5 : Int) : l73x0 T k (n + 1) [(.fz 6 l3), (.fz 6 l4), (.v (.int .i64 n5))] = (
 bif (decide (n5 < (l3.length : Int))) then (
 tst (decide (0 ≤ n5)) (
 look l3 (Int.toNat n5) fun r6 =>
 cS r6 0 fun s7 =>
 cL 2 r6 1 fun l8 =>
 cL 1 r6 2 fun l9 =>
 cI .i64 r6 3 fun n10 =>
 cI .i64 r6 4 fun n11 =>
 cI .i64 r6 5 fun n12 =>
 tst (decide (0 ≤ n5)) (
 look l4 (Int.toNat n5) fun r13 =>
 cS r13 0 fun s14 =>
 cL 2 r13 1 fun l15 =>
 cL 1 r13 2 fun l16 =>
 cI .i64 r13 3 fun n17 =>
 cI .i64 r13 4 fun n18 =>
 cI .i64 r13 5 fun n19 =>
 callT T 145 [(.g [(.v (.string s7)), (.s 2 l8), (.s 1 l9), (.v (.int .i64 n10)), (.v (.int .i64 n11)), (.v (.int .i64 n12))]), (.g [(.v (.string s14)), (.s 2 l15), (.s 1 l16), (.v (.int .i64 n17)), (.v (.int .i64 n18)), (.v (.int .i64 n19))])] fun o20 =>
 oD o20.res fun d21 =>
 dB d21 fun b22 =>
 bif (!b22) then (
 some (.ret, [(.v (.bool false))])) else (
 l73x0 T k n [(.fz 6 l3), (.fz 6 l4), (.v (.int .i64 (IntKind.wrap .i64 (n5 + 1))))])))) else (
 some ((.exit 0), []))) := by kernel_rfl
theorem a73q (T : Table) (k : Nat) (l1 : Rows) (l2 : Rows) : evalF T k a73 [(.d (.s 6 l1)), (.d (.s 6 l2))] = (
 bif ((l1.length : Int) != (l2.length : Int)) then (
 some ⟨(.d (.v (.bool false))), []⟩) else (
 aft (l73x0 T k k [(.fz 6 l1), (.fz 6 l2), (.v (.int .i64 0))]) fun e23 ys24 =>
 bif e23.same .ret then (
 aV ys24 0 fun x25 =>
 aB x25 fun b26 =>
 some ⟨(.d (.v (.bool b26))), []⟩) else (
 bif e23.same (.exit 0) then (
 some ⟨(.d (.v (.bool true))), []⟩) else (
 none)))) := by kernel_rfl
/- loop.example/g00119/laws.eqHold -/

def a146 : AFun := ⟨[.rd, .rd], false, [.t 4], (
  .seq (.reg false [⟨some 2, .box (.t 0), none⟩,
    ⟨some 3, .box (.t 1), none⟩,
    ⟨some 4, .mv (.c (.v (.bool false))), none⟩]) (
  .seq (.seq (.reg false [⟨some 5, .fad 0 (.t 2), none⟩,
    ⟨some 6, .load false [(.i .i64)] (.t 5), none⟩,
    ⟨some 7, .fad 0 (.t 3), none⟩,
    ⟨some 8, .load false [(.i .i64)] (.t 7), none⟩,
    ⟨some 9, .bin .neq (.t 6) (.t 8), none⟩]) (
  .cond (.t 9) (.seq (.reg false [⟨some 4, .mv (.c (.v (.bool false))), none⟩]) (
    .ret)) (.skip))) (
  .seq (.seq (.reg false [⟨some 10, .fad 1 (.t 2), none⟩,
    ⟨some 11, .load false [.s] (.t 10), none⟩,
    ⟨some 12, .fad 1 (.t 3), none⟩,
    ⟨some 13, .load false [.s] (.t 12), none⟩,
    ⟨some 14, .bin .neq (.t 11) (.t 13), none⟩]) (
  .cond (.t 14) (.seq (.reg false [⟨some 4, .mv (.c (.v (.bool false))), none⟩]) (
    .ret)) (.skip))) (
  .seq (.seq (.reg false [⟨some 15, .fad 2 (.t 2), none⟩,
    ⟨some 16, .load false [(.i .i64)] (.t 15), none⟩,
    ⟨some 17, .fad 2 (.t 3), none⟩,
    ⟨some 18, .load false [(.i .i64)] (.t 17), none⟩,
    ⟨some 19, .bin .neq (.t 16) (.t 18), none⟩]) (
  .cond (.t 19) (.seq (.reg false [⟨some 4, .mv (.c (.v (.bool false))), none⟩]) (
    .ret)) (.skip))) (
  .seq (.seq (.reg false [⟨some 20, .fad 3 (.t 2), none⟩,
    ⟨some 21, .load false [(.i .i64)] (.t 20), none⟩,
    ⟨some 22, .fad 3 (.t 3), none⟩,
    ⟨some 23, .load false [(.i .i64)] (.t 22), none⟩,
    ⟨some 24, .bin .neq (.t 21) (.t 23), none⟩]) (
  .cond (.t 24) (.seq (.reg false [⟨some 4, .mv (.c (.v (.bool false))), none⟩]) (
    .ret)) (.skip))) (
  .seq (.seq (.reg false [⟨some 25, .fad 4 (.t 2), none⟩,
    ⟨some 26, .load false [(.i .i64)] (.t 25), none⟩,
    ⟨some 27, .fad 4 (.t 3), none⟩,
    ⟨some 28, .load false [(.i .i64)] (.t 27), none⟩,
    ⟨some 29, .bin .neq (.t 26) (.t 28), none⟩]) (
  .cond (.t 29) (.seq (.reg false [⟨some 4, .mv (.c (.v (.bool false))), none⟩]) (
    .ret)) (.skip))) (
  .seq (.reg false [⟨some 4, .mv (.c (.v (.bool true))), none⟩]) (
  .ret))))))))⟩

theorem a146q (T : Table) (k : Nat) (n1 : Int) (s2 : ByteArray) (n3 : Int) (n4 : Int) (n5 : Int) (n6 : Int) (s7 : ByteArray) (n8 : Int) (n9 : Int) (n10 : Int) : evalF T k a146 [(.g [(.v (.int .i64 n1)), (.v (.string s2)), (.v (.int .i64 n3)), (.v (.int .i64 n4)), (.v (.int .i64 n5))]), (.g [(.v (.int .i64 n6)), (.v (.string s7)), (.v (.int .i64 n8)), (.v (.int .i64 n9)), (.v (.int .i64 n10))])] = (
 bif (n1 != n6) then (
 some ⟨(.d (.v (.bool false))), []⟩) else (
 bif (!(bytesEq s2 s7)) then (
 some ⟨(.d (.v (.bool false))), []⟩) else (
 bif (n3 != n8) then (
 some ⟨(.d (.v (.bool false))), []⟩) else (
 bif (n4 != n9) then (
 some ⟨(.d (.v (.bool false))), []⟩) else (
 bif (n5 != n10) then (
 some ⟨(.d (.v (.bool false))), []⟩) else (
 some ⟨(.d (.v (.bool true))), []⟩)))))) := by kernel_rfl
/- loop.example/g00119/laws.eqHoldS -/
def b74x0 : ACode := (
  .seq (.seq (.reg false [⟨some 11, .mv (.t 5), none⟩,
    ⟨some 12, .mv (.t 0), none⟩,
    ⟨some 13, .len false (.t 12), none⟩,
    ⟨some 14, .bin .lss (.t 11) (.t 13), none⟩]) (
  .cond (.t 14) (.skip) (.exit 0))) (
  .seq (.block 1 (.seq (.dreg [] [(0, ⟨some 17, .mv (.t 0), none⟩),
      (0, ⟨some 18, .mv (.t 5), none⟩),
      (0, ⟨some 19, .iad 5 (.t 17) (.t 18), none⟩),
      (0, ⟨some 20, .load true [(.i .i64), .s, (.i .i64), (.i .i64), (.i .i64)] (.t 19), none⟩),
      (0, ⟨some 21, .mv (.t 1), none⟩),
      (0, ⟨some 22, .mv (.t 5), none⟩),
      (0, ⟨some 23, .iad 5 (.t 21) (.t 22), none⟩),
      (0, ⟨some 24, .load true [(.i .i64), .s, (.i .i64), (.i .i64), (.i .i64)] (.t 23), none⟩)] [⟨some 25, .call (.f 146) [.rd, .rd] false [.c .b] [(.t 20), (.t 24)], none⟩,
      ⟨some 26, .un .not (.t 25), none⟩]) (
    .cond (.t 26) (.seq (.reg false [⟨some 4, .mv (.c (.v (.bool false))), none⟩]) (
      .ret)) (.skip)))) (
  .reg false [⟨some 15, .mv (.t 5), none⟩,
    ⟨some 16, .bin .add (.t 15) (.c (.v (.int .i64 1))), none⟩,
    ⟨some 5, .mv (.t 16), none⟩])))
def e74x0 : Exits := [(.ret, [(4, .c .b)]), ((.exit 0), [])]
def l74x0 (T : Table) (k : Nat) := loopN (evalC ⟨T, []⟩ k b74x0 (Ex × List AV)) [0, 1, 5] e74x0
def a74 : AFun := ⟨[.rd, .rd], false, [.t 4], (
  .seq (.reg false [⟨some 4, .mv (.c (.v (.bool false))), none⟩]) (
  .seq (.seq (.reg false [⟨some 6, .mv (.t 0), none⟩,
    ⟨some 7, .len false (.t 6), none⟩,
    ⟨some 8, .mv (.t 1), none⟩,
    ⟨some 9, .len false (.t 8), none⟩,
    ⟨some 10, .bin .neq (.t 7) (.t 9), none⟩]) (
  .cond (.t 10) (.seq (.reg false [⟨some 4, .mv (.c (.v (.bool false))), none⟩]) (
    .ret)) (.skip))) (
  .seq (.seq (.reg false [⟨some 5, .mv (.c (.v (.int .i64 0))), none⟩]) (
  .block 0 (.loop [0, 1, 5] e74x0 b74x0))) (
  .seq (.reg false [⟨some 4, .mv (.c (.v (.bool true))), none⟩]) (
  .ret)))))⟩
theorem l74x0s (T : Table) (k n : Nat) (l3 : Rows) (l4 : Rows) (n5 : Int) : l74x0 T k (n + 1) [(.fz 5 l3), (.fz 5 l4), (.v (.int .i64 n5))] = (
 bif (decide (n5 < (l3.length : Int))) then (
 tst (decide (0 ≤ n5)) (
 look l3 (Int.toNat n5) fun r6 =>
 cI .i64 r6 0 fun n7 =>
 cS r6 1 fun s8 =>
 cI .i64 r6 2 fun n9 =>
 cI .i64 r6 3 fun n10 =>
 cI .i64 r6 4 fun n11 =>
 tst (decide (0 ≤ n5)) (
 look l4 (Int.toNat n5) fun r12 =>
 cI .i64 r12 0 fun n13 =>
 cS r12 1 fun s14 =>
 cI .i64 r12 2 fun n15 =>
 cI .i64 r12 3 fun n16 =>
 cI .i64 r12 4 fun n17 =>
 callT T 146 [(.g [(.v (.int .i64 n7)), (.v (.string s8)), (.v (.int .i64 n9)), (.v (.int .i64 n10)), (.v (.int .i64 n11))]), (.g [(.v (.int .i64 n13)), (.v (.string s14)), (.v (.int .i64 n15)), (.v (.int .i64 n16)), (.v (.int .i64 n17))])] fun o18 =>
 oD o18.res fun d19 =>
 dB d19 fun b20 =>
 bif (!b20) then (
 some (.ret, [(.v (.bool false))])) else (
 l74x0 T k n [(.fz 5 l3), (.fz 5 l4), (.v (.int .i64 (IntKind.wrap .i64 (n5 + 1))))])))) else (
 some ((.exit 0), []))) := by kernel_rfl
theorem a74q (T : Table) (k : Nat) (l1 : Rows) (l2 : Rows) : evalF T k a74 [(.d (.s 5 l1)), (.d (.s 5 l2))] = (
 bif ((l1.length : Int) != (l2.length : Int)) then (
 some ⟨(.d (.v (.bool false))), []⟩) else (
 aft (l74x0 T k k [(.fz 5 l1), (.fz 5 l2), (.v (.int .i64 0))]) fun e21 ys22 =>
 bif e21.same .ret then (
 aV ys22 0 fun x23 =>
 aB x23 fun b24 =>
 some ⟨(.d (.v (.bool b24))), []⟩) else (
 bif e21.same (.exit 0) then (
 some ⟨(.d (.v (.bool true))), []⟩) else (
 none)))) := by kernel_rfl
/- loop.example/g00119/laws.eqHub -/

def a25 : AFun := ⟨[.rd, .rd], false, [.t 4], (
  .seq (.reg false [⟨some 2, .box (.t 0), none⟩,
    ⟨some 3, .box (.t 1), none⟩,
    ⟨some 4, .mv (.c (.v (.bool false))), none⟩]) (
  .seq (.seq (.reg false [⟨some 5, .fad 0 (.t 2), none⟩,
    ⟨some 6, .load false [(.i .i64)] (.t 5), none⟩,
    ⟨some 7, .fad 0 (.t 3), none⟩,
    ⟨some 8, .load false [(.i .i64)] (.t 7), none⟩,
    ⟨some 9, .bin .neq (.t 6) (.t 8), none⟩]) (
  .cond (.t 9) (.seq (.reg false [⟨some 4, .mv (.c (.v (.bool false))), none⟩]) (
    .ret)) (.skip))) (
  .seq (.seq (.reg false [⟨some 10, .fad 1 (.t 2), none⟩,
    ⟨some 11, .load false [(.i .i64)] (.t 10), none⟩,
    ⟨some 12, .fad 1 (.t 3), none⟩,
    ⟨some 13, .load false [(.i .i64)] (.t 12), none⟩,
    ⟨some 14, .bin .neq (.t 11) (.t 13), none⟩]) (
  .cond (.t 14) (.seq (.reg false [⟨some 4, .mv (.c (.v (.bool false))), none⟩]) (
    .ret)) (.skip))) (
  .seq (.seq (.reg false [⟨some 15, .fad 2 (.t 2), none⟩,
    ⟨some 16, .load false [(.i .i64)] (.t 15), none⟩,
    ⟨some 17, .fad 2 (.t 3), none⟩,
    ⟨some 18, .load false [(.i .i64)] (.t 17), none⟩,
    ⟨some 19, .bin .neq (.t 16) (.t 18), none⟩]) (
  .cond (.t 19) (.seq (.reg false [⟨some 4, .mv (.c (.v (.bool false))), none⟩]) (
    .ret)) (.skip))) (
  .seq (.seq (.reg false [⟨some 20, .fad 3 (.t 2), none⟩,
    ⟨some 21, .load false [(.sl 13)] (.t 20), none⟩,
    ⟨some 22, .fad 3 (.t 3), none⟩,
    ⟨some 23, .load false [(.sl 13)] (.t 22), none⟩,
    ⟨some 24, .call (.f 72) [.rd, .rd] false [.c .b] [(.t 21), (.t 23)], none⟩,
    ⟨some 25, .un .not (.t 24), none⟩]) (
  .cond (.t 25) (.seq (.reg false [⟨some 4, .mv (.c (.v (.bool false))), none⟩]) (
    .ret)) (.skip))) (
  .seq (.seq (.reg false [⟨some 26, .fad 4 (.t 2), none⟩,
    ⟨some 27, .load false [(.sl 6)] (.t 26), none⟩,
    ⟨some 28, .fad 4 (.t 3), none⟩,
    ⟨some 29, .load false [(.sl 6)] (.t 28), none⟩,
    ⟨some 30, .call (.f 73) [.rd, .rd] false [.c .b] [(.t 27), (.t 29)], none⟩,
    ⟨some 31, .un .not (.t 30), none⟩]) (
  .cond (.t 31) (.seq (.reg false [⟨some 4, .mv (.c (.v (.bool false))), none⟩]) (
    .ret)) (.skip))) (
  .seq (.seq (.reg false [⟨some 32, .fad 5 (.t 2), none⟩,
    ⟨some 33, .load false [(.sl 5)] (.t 32), none⟩,
    ⟨some 34, .fad 5 (.t 3), none⟩,
    ⟨some 35, .load false [(.sl 5)] (.t 34), none⟩,
    ⟨some 36, .call (.f 74) [.rd, .rd] false [.c .b] [(.t 33), (.t 35)], none⟩,
    ⟨some 37, .un .not (.t 36), none⟩]) (
  .cond (.t 37) (.seq (.reg false [⟨some 4, .mv (.c (.v (.bool false))), none⟩]) (
    .ret)) (.skip))) (
  .seq (.seq (.reg false [⟨some 38, .fad 6 (.t 2), none⟩,
    ⟨some 39, .load false [(.sl 1)] (.t 38), none⟩,
    ⟨some 40, .fad 6 (.t 3), none⟩,
    ⟨some 41, .load false [(.sl 1)] (.t 40), none⟩,
    ⟨some 42, .call (.f 75) [.rd, .rd] false [.c .b] [(.t 39), (.t 41)], none⟩,
    ⟨some 43, .un .not (.t 42), none⟩]) (
  .cond (.t 43) (.seq (.reg false [⟨some 4, .mv (.c (.v (.bool false))), none⟩]) (
    .ret)) (.skip))) (
  .seq (.reg false [⟨some 4, .mv (.c (.v (.bool true))), none⟩]) (
  .ret))))))))))⟩

theorem a25q (T : Table) (k : Nat) (n1 : Int) (n2 : Int) (n3 : Int) (l4 : Rows) (l5 : Rows) (l6 : Rows) (l7 : Rows) (n8 : Int) (n9 : Int) (n10 : Int) (l11 : Rows) (l12 : Rows) (l13 : Rows) (l14 : Rows) : evalF T k a25 [(.g [(.v (.int .i64 n1)), (.v (.int .i64 n2)), (.v (.int .i64 n3)), (.s 13 l4), (.s 6 l5), (.s 5 l6), (.s 1 l7)]), (.g [(.v (.int .i64 n8)), (.v (.int .i64 n9)), (.v (.int .i64 n10)), (.s 13 l11), (.s 6 l12), (.s 5 l13), (.s 1 l14)])] = (
 bif (n1 != n8) then (
 some ⟨(.d (.v (.bool false))), []⟩) else (
 bif (n2 != n9) then (
 some ⟨(.d (.v (.bool false))), []⟩) else (
 bif (n3 != n10) then (
 some ⟨(.d (.v (.bool false))), []⟩) else (
 callT T 72 [(.d (.s 13 l4)), (.d (.s 13 l11))] fun o15 =>
 oD o15.res fun d16 =>
 dB d16 fun b17 =>
 bif (!b17) then (
 some ⟨(.d (.v (.bool false))), []⟩) else (
 callT T 73 [(.d (.s 6 l5)), (.d (.s 6 l12))] fun o18 =>
 oD o18.res fun d19 =>
 dB d19 fun b20 =>
 bif (!b20) then (
 some ⟨(.d (.v (.bool false))), []⟩) else (
 callT T 74 [(.d (.s 5 l6)), (.d (.s 5 l13))] fun o21 =>
 oD o21.res fun d22 =>
 dB d22 fun b23 =>
 bif (!b23) then (
 some ⟨(.d (.v (.bool false))), []⟩) else (
 callT T 75 [(.d (.s 1 l7)), (.d (.s 1 l14))] fun o24 =>
 oD o24.res fun d25 =>
 dB d25 fun b26 =>
 bif (!b26) then (
 some ⟨(.d (.v (.bool false))), []⟩) else (
 some ⟨(.d (.v (.bool true))), []⟩)))))))) := by kernel_rfl
/- loop.example/g00119/spec.l17SameTexts -/
def b88x0 : ACode := (
  .seq (.seq (.reg false [⟨some 11, .mv (.t 5), none⟩,
    ⟨some 12, .mv (.t 0), none⟩,
    ⟨some 13, .len false (.t 12), none⟩,
    ⟨some 14, .bin .lss (.t 11) (.t 13), none⟩]) (
  .cond (.t 14) (.skip) (.exit 0))) (
  .seq (.block 1 (.seq (.dreg [] [(0, ⟨some 17, .mv (.t 0), none⟩),
      (0, ⟨some 18, .mv (.t 5), none⟩),
      (0, ⟨some 19, .iad 1 (.t 17) (.t 18), none⟩),
      (0, ⟨some 20, .load false [.s] (.t 19), none⟩),
      (0, ⟨some 21, .mv (.t 1), none⟩),
      (0, ⟨some 22, .mv (.t 5), none⟩),
      (0, ⟨some 23, .iad 1 (.t 21) (.t 22), none⟩),
      (0, ⟨some 24, .load false [.s] (.t 23), none⟩)] [⟨some 25, .bin .neq (.t 20) (.t 24), none⟩]) (
    .cond (.t 25) (.seq (.reg false [⟨some 4, .mv (.c (.v (.bool false))), none⟩]) (
      .ret)) (.skip)))) (
  .reg false [⟨some 15, .mv (.t 5), none⟩,
    ⟨some 16, .bin .add (.t 15) (.c (.v (.int .i64 1))), none⟩,
    ⟨some 5, .mv (.t 16), none⟩])))
def e88x0 : Exits := [(.ret, [(4, .c .b)]), ((.exit 0), [])]
def l88x0 (T : Table) (k : Nat) := loopN (evalC ⟨T, []⟩ k b88x0 (Ex × List AV)) [0, 1, 5] e88x0
def a88 : AFun := ⟨[.rd, .rd], false, [.t 4], (
  .seq (.reg false [⟨some 4, .mv (.c (.v (.bool false))), none⟩]) (
  .seq (.seq (.reg false [⟨some 6, .mv (.t 0), none⟩,
    ⟨some 7, .len false (.t 6), none⟩,
    ⟨some 8, .mv (.t 1), none⟩,
    ⟨some 9, .len false (.t 8), none⟩,
    ⟨some 10, .bin .neq (.t 7) (.t 9), none⟩]) (
  .cond (.t 10) (.seq (.reg false [⟨some 4, .mv (.c (.v (.bool false))), none⟩]) (
    .ret)) (.skip))) (
  .seq (.seq (.reg false [⟨some 5, .mv (.c (.v (.int .i64 0))), none⟩]) (
  .block 0 (.loop [0, 1, 5] e88x0 b88x0))) (
  .seq (.reg false [⟨some 4, .mv (.c (.v (.bool true))), none⟩]) (
  .ret)))))⟩
theorem l88x0s (T : Table) (k n : Nat) (l3 : Rows) (l4 : Rows) (n5 : Int) : l88x0 T k (n + 1) [(.fz 1 l3), (.fz 1 l4), (.v (.int .i64 n5))] = (
 bif (decide (n5 < (l3.length : Int))) then (
 tst (decide (0 ≤ n5)) (
 look l3 (Int.toNat n5) fun r6 =>
 cS r6 0 fun s7 =>
 tst (decide (0 ≤ n5)) (
 look l4 (Int.toNat n5) fun r8 =>
 cS r8 0 fun s9 =>
 bif (!(bytesEq s7 s9)) then (
 some (.ret, [(.v (.bool false))])) else (
 l88x0 T k n [(.fz 1 l3), (.fz 1 l4), (.v (.int .i64 (IntKind.wrap .i64 (n5 + 1))))])))) else (
 some ((.exit 0), []))) := by kernel_rfl
theorem a88q (T : Table) (k : Nat) (l1 : Rows) (l2 : Rows) : evalF T k a88 [(.d (.s 1 l1)), (.d (.s 1 l2))] = (
 bif ((l1.length : Int) != (l2.length : Int)) then (
 some ⟨(.d (.v (.bool false))), []⟩) else (
 aft (l88x0 T k k [(.fz 1 l1), (.fz 1 l2), (.v (.int .i64 0))]) fun e10 ys11 =>
 bif e10.same .ret then (
 aV ys11 0 fun x12 =>
 aB x12 fun b13 =>
 some ⟨(.d (.v (.bool b13))), []⟩) else (
 bif e10.same (.exit 0) then (
 some ⟨(.d (.v (.bool true))), []⟩) else (
 none)))) := by kernel_rfl
/- loop.example/g00119/spec.l17SameTerms -/
def b193x0 : ACode := (
  .seq (.seq (.reg false [⟨some 11, .mv (.t 5), none⟩,
    ⟨some 12, .mv (.t 0), none⟩,
    ⟨some 13, .len false (.t 12), none⟩,
    ⟨some 14, .bin .lss (.t 11) (.t 13), none⟩]) (
  .cond (.t 14) (.skip) (.exit 0))) (
  .seq (.block 1 (.seq (.dreg [] [(0, ⟨some 17, .mv (.t 0), none⟩),
      (0, ⟨some 18, .mv (.t 5), none⟩),
      (0, ⟨some 19, .iad 3 (.t 17) (.t 18), none⟩),
      (0, ⟨some 20, .fad 0 (.t 19), none⟩),
      (0, ⟨some 21, .load false [(.i .i64)] (.t 20), none⟩),
      (0, ⟨some 22, .mv (.t 1), none⟩),
      (0, ⟨some 23, .mv (.t 5), none⟩),
      (0, ⟨some 24, .iad 3 (.t 22) (.t 23), none⟩),
      (0, ⟨some 25, .fad 0 (.t 24), none⟩),
      (0, ⟨some 26, .load false [(.i .i64)] (.t 25), none⟩),
      (0, ⟨some 27, .bin .neq (.t 21) (.t 26), none⟩),
      (0, ⟨some 28, .mv (.t 27), none⟩),
      (0, ⟨some 29, .mv (.t 0), some (28, false)⟩),
      (0, ⟨some 30, .mv (.t 5), some (28, false)⟩),
      (0, ⟨some 31, .iad 3 (.t 29) (.t 30), some (28, false)⟩),
      (0, ⟨some 32, .fad 1 (.t 31), some (28, false)⟩),
      (0, ⟨some 33, .load false [.s] (.t 32), some (28, false)⟩),
      (0, ⟨some 34, .mv (.t 1), some (28, false)⟩),
      (0, ⟨some 35, .mv (.t 5), some (28, false)⟩),
      (0, ⟨some 36, .iad 3 (.t 34) (.t 35), some (28, false)⟩),
      (0, ⟨some 37, .fad 1 (.t 36), some (28, false)⟩),
      (0, ⟨some 38, .load false [.s] (.t 37), some (28, false)⟩),
      (0, ⟨some 39, .bin .neq (.t 33) (.t 38), some (28, false)⟩),
      (0, ⟨some 40, .pick (.t 28) (.c (.v (.bool true))) (.t 39), none⟩),
      (0, ⟨some 41, .mv (.t 40), none⟩),
      (0, ⟨some 42, .mv (.t 0), some (41, false)⟩),
      (0, ⟨some 43, .mv (.t 5), some (41, false)⟩),
      (0, ⟨some 44, .iad 3 (.t 42) (.t 43), some (41, false)⟩),
      (0, ⟨some 45, .fad 2 (.t 44), some (41, false)⟩),
      (0, ⟨some 46, .load false [(.sl 1)] (.t 45), some (41, false)⟩),
      (0, ⟨some 47, .mv (.t 1), some (41, false)⟩),
      (0, ⟨some 48, .mv (.t 5), some (41, false)⟩),
      (0, ⟨some 49, .iad 3 (.t 47) (.t 48), some (41, false)⟩),
      (0, ⟨some 50, .fad 2 (.t 49), some (41, false)⟩),
      (0, ⟨some 51, .load false [(.sl 1)] (.t 50), some (41, false)⟩)] [⟨some 52, .call (.f 88) [.rd, .rd] false [.c .b] [(.t 46), (.t 51)], some (41, false)⟩,
      ⟨some 53, .un .not (.t 52), some (41, false)⟩,
      ⟨some 54, .pick (.t 41) (.c (.v (.bool true))) (.t 53), none⟩]) (
    .cond (.t 54) (.seq (.reg false [⟨some 4, .mv (.c (.v (.bool false))), none⟩]) (
      .ret)) (.skip)))) (
  .reg false [⟨some 15, .mv (.t 5), none⟩,
    ⟨some 16, .bin .add (.t 15) (.c (.v (.int .i64 1))), none⟩,
    ⟨some 5, .mv (.t 16), none⟩])))
def e193x0 : Exits := [(.ret, [(4, .c .b)]), ((.exit 0), [])]
def l193x0 (T : Table) (k : Nat) := loopN (evalC ⟨T, []⟩ k b193x0 (Ex × List AV)) [0, 1, 5] e193x0
def a193 : AFun := ⟨[.rd, .rd], false, [.t 4], (
  .seq (.reg false [⟨some 4, .mv (.c (.v (.bool false))), none⟩]) (
  .seq (.seq (.reg false [⟨some 6, .mv (.t 0), none⟩,
    ⟨some 7, .len false (.t 6), none⟩,
    ⟨some 8, .mv (.t 1), none⟩,
    ⟨some 9, .len false (.t 8), none⟩,
    ⟨some 10, .bin .neq (.t 7) (.t 9), none⟩]) (
  .cond (.t 10) (.seq (.reg false [⟨some 4, .mv (.c (.v (.bool false))), none⟩]) (
    .ret)) (.skip))) (
  .seq (.seq (.reg false [⟨some 5, .mv (.c (.v (.int .i64 0))), none⟩]) (
  .block 0 (.loop [0, 1, 5] e193x0 b193x0))) (
  .seq (.reg false [⟨some 4, .mv (.c (.v (.bool true))), none⟩]) (
  .ret)))))⟩
theorem l193x0s (T : Table) (k n : Nat) (l3 : Rows) (l4 : Rows) (n5 : Int) : l193x0 T k (n + 1) [(.fz 3 l3), (.fz 3 l4), (.v (.int .i64 n5))] = (
 bif (decide (n5 < (l3.length : Int))) then (
 tst (decide (0 ≤ n5)) (
 look l3 (Int.toNat n5) fun r6 =>
 cI .i64 r6 0 fun n7 =>
 tst (decide (0 ≤ n5)) (
 look l4 (Int.toNat n5) fun r8 =>
 cI .i64 r8 0 fun n9 =>
 bif (n7 != n9) == false then (
 tst (decide (0 ≤ n5)) (
 look l3 (Int.toNat n5) fun r10 =>
 cS r10 1 fun s11 =>
 tst (decide (0 ≤ n5)) (
 look l4 (Int.toNat n5) fun r12 =>
 cS r12 1 fun s13 =>
 bif (!(bytesEq s11 s13)) == false then (
 tst (decide (0 ≤ n5)) (
 look l3 (Int.toNat n5) fun r14 =>
 cL 1 r14 2 fun l15 =>
 tst (decide (0 ≤ n5)) (
 look l4 (Int.toNat n5) fun r16 =>
 cL 1 r16 2 fun l17 =>
 callT T 88 [(.d (.s 1 l15)), (.d (.s 1 l17))] fun o18 =>
 oD o18.res fun d19 =>
 dB d19 fun b20 =>
 bif (!b20) then (
 some (.ret, [(.v (.bool false))])) else (
 l193x0 T k n [(.fz 3 l3), (.fz 3 l4), (.v (.int .i64 (IntKind.wrap .i64 (n5 + 1))))])))) else (
 some (.ret, [(.v (.bool false))]))))) else (
 some (.ret, [(.v (.bool false))]))))) else (
 some ((.exit 0), []))) := by kernel_rfl
theorem a193q (T : Table) (k : Nat) (l1 : Rows) (l2 : Rows) : evalF T k a193 [(.d (.s 3 l1)), (.d (.s 3 l2))] = (
 bif ((l1.length : Int) != (l2.length : Int)) then (
 some ⟨(.d (.v (.bool false))), []⟩) else (
 aft (l193x0 T k k [(.fz 3 l1), (.fz 3 l2), (.v (.int .i64 0))]) fun e21 ys22 =>
 bif e21.same .ret then (
 aV ys22 0 fun x23 =>
 aB x23 fun b24 =>
 some ⟨(.d (.v (.bool b24))), []⟩) else (
 bif e21.same (.exit 0) then (
 some ⟨(.d (.v (.bool true))), []⟩) else (
 none)))) := by kernel_rfl
/- loop.example/g00119/spec.l17SameWant -/
def b157x0 : ACode := (
  .seq (.seq (.reg false [⟨some 36, .mv (.t 5), none⟩,
    ⟨some 37, .fad 3 (.t 2), none⟩,
    ⟨some 38, .load false [(.sl 2)] (.t 37), none⟩,
    ⟨some 39, .len false (.t 38), none⟩,
    ⟨some 40, .bin .lss (.t 36) (.t 39), none⟩]) (
  .cond (.t 40) (.skip) (.exit 0))) (
  .seq (.block 1 (.seq (.dreg [] [(0, ⟨some 43, .fad 3 (.t 2), none⟩),
      (0, ⟨some 44, .load false [(.sl 2)] (.t 43), none⟩),
      (0, ⟨some 45, .mv (.t 5), none⟩),
      (0, ⟨some 46, .iad 2 (.t 44) (.t 45), none⟩),
      (0, ⟨some 47, .load true [.s, (.i .i64)] (.t 46), none⟩),
      (0, ⟨some 48, .fad 3 (.t 3), none⟩),
      (0, ⟨some 49, .load false [(.sl 2)] (.t 48), none⟩),
      (0, ⟨some 50, .mv (.t 5), none⟩),
      (0, ⟨some 51, .iad 2 (.t 49) (.t 50), none⟩),
      (0, ⟨some 52, .load true [.s, (.i .i64)] (.t 51), none⟩)] [⟨some 53, .geq true [.s, (.i .i64)] (.t 47) (.t 52), none⟩]) (
    .cond (.t 53) (.seq (.reg false [⟨some 4, .mv (.c (.v (.bool false))), none⟩]) (
      .ret)) (.skip)))) (
  .reg false [⟨some 41, .mv (.t 5), none⟩,
    ⟨some 42, .bin .add (.t 41) (.c (.v (.int .i64 1))), none⟩,
    ⟨some 5, .mv (.t 42), none⟩])))
def e157x0 : Exits := [(.ret, [(4, .c .b)]), ((.exit 0), [])]
def l157x0 (T : Table) (k : Nat) := loopN (evalC ⟨T, []⟩ k b157x0 (Ex × List AV)) [2, 3, 5] e157x0
def a157 : AFun := ⟨[.rd, .rd], false, [.t 4], (
  .seq (.reg false [⟨some 2, .box (.t 0), none⟩,
    ⟨some 3, .box (.t 1), none⟩,
    ⟨some 4, .mv (.c (.v (.bool false))), none⟩]) (
  .seq (.seq (.reg false [⟨some 6, .fad 0 (.t 2), none⟩,
    ⟨some 7, .load false [(.i .i64)] (.t 6), none⟩,
    ⟨some 8, .fad 0 (.t 3), none⟩,
    ⟨some 9, .load false [(.i .i64)] (.t 8), none⟩,
    ⟨some 10, .bin .neq (.t 7) (.t 9), none⟩,
    ⟨some 11, .mv (.t 10), none⟩,
    ⟨some 12, .fad 1 (.t 2), some (11, false)⟩,
    ⟨some 13, .load false [(.sl 3)] (.t 12), some (11, false)⟩,
    ⟨some 14, .fad 1 (.t 3), some (11, false)⟩,
    ⟨some 15, .load false [(.sl 3)] (.t 14), some (11, false)⟩,
    ⟨some 16, .call (.f 193) [.rd, .rd] false [.c .b] [(.t 13), (.t 15)], some (11, false)⟩,
    ⟨some 17, .un .not (.t 16), some (11, false)⟩,
    ⟨some 18, .pick (.t 11) (.c (.v (.bool true))) (.t 17), none⟩,
    ⟨some 19, .mv (.t 18), none⟩,
    ⟨some 20, .fad 2 (.t 2), some (19, false)⟩,
    ⟨some 21, .load false [(.sl 1)] (.t 20), some (19, false)⟩,
    ⟨some 22, .fad 2 (.t 3), some (19, false)⟩,
    ⟨some 23, .load false [(.sl 1)] (.t 22), some (19, false)⟩,
    ⟨some 24, .call (.f 88) [.rd, .rd] false [.c .b] [(.t 21), (.t 23)], some (19, false)⟩,
    ⟨some 25, .un .not (.t 24), some (19, false)⟩,
    ⟨some 26, .pick (.t 19) (.c (.v (.bool true))) (.t 25), none⟩,
    ⟨some 27, .mv (.t 26), none⟩,
    ⟨some 28, .fad 3 (.t 2), some (27, false)⟩,
    ⟨some 29, .load false [(.sl 2)] (.t 28), some (27, false)⟩,
    ⟨some 30, .len false (.t 29), some (27, false)⟩,
    ⟨some 31, .fad 3 (.t 3), some (27, false)⟩,
    ⟨some 32, .load false [(.sl 2)] (.t 31), some (27, false)⟩,
    ⟨some 33, .len false (.t 32), some (27, false)⟩,
    ⟨some 34, .bin .neq (.t 30) (.t 33), some (27, false)⟩,
    ⟨some 35, .pick (.t 27) (.c (.v (.bool true))) (.t 34), none⟩]) (
  .cond (.t 35) (.seq (.reg false [⟨some 4, .mv (.c (.v (.bool false))), none⟩]) (
    .ret)) (.skip))) (
  .seq (.seq (.reg false [⟨some 5, .mv (.c (.v (.int .i64 0))), none⟩]) (
  .block 0 (.loop [2, 3, 5] e157x0 b157x0))) (
  .seq (.reg false [⟨some 4, .mv (.c (.v (.bool true))), none⟩]) (
  .ret)))))⟩
theorem l157x0s (T : Table) (k n : Nat) (n15 : Int) (l16 : Rows) (l17 : Rows) (l18 : Rows) (n19 : Int) (l20 : Rows) (l21 : Rows) (l22 : Rows) (n23 : Int) : l157x0 T k (n + 1) [(.b [(.v (.int .i64 n15)), (.fz 3 l16), (.fz 1 l17), (.fz 2 l18)]), (.b [(.v (.int .i64 n19)), (.fz 3 l20), (.fz 1 l21), (.fz 2 l22)]), (.v (.int .i64 n23))] = (
 bif (decide (n23 < (l18.length : Int))) then (
 tst (decide (0 ≤ n23)) (
 look l18 (Int.toNat n23) fun r24 =>
 cS r24 0 fun s25 =>
 cI .i64 r24 1 fun n26 =>
 tst (decide (0 ≤ n23)) (
 look l22 (Int.toNat n23) fun r27 =>
 cS r27 0 fun s28 =>
 cI .i64 r27 1 fun n29 =>
 bif (!(bytesEq s25 s28 && (n26 == n29 && true))) then (
 some (.ret, [(.v (.bool false))])) else (
 l157x0 T k n [(.b [(.v (.int .i64 n15)), (.fz 3 l16), (.fz 1 l17), (.fz 2 l18)]), (.b [(.v (.int .i64 n19)), (.fz 3 l20), (.fz 1 l21), (.fz 2 l22)]), (.v (.int .i64 (IntKind.wrap .i64 (n23 + 1))))])))) else (
 some ((.exit 0), []))) := by kernel_rfl
theorem a157q (T : Table) (k : Nat) (n1 : Int) (l2 : Rows) (l3 : Rows) (l4 : Rows) (n5 : Int) (l6 : Rows) (l7 : Rows) (l8 : Rows) : evalF T k a157 [(.g [(.v (.int .i64 n1)), (.s 3 l2), (.s 1 l3), (.s 2 l4)]), (.g [(.v (.int .i64 n5)), (.s 3 l6), (.s 1 l7), (.s 2 l8)])] = (
 bif (n1 != n5) == false then (
 callT T 193 [(.d (.s 3 l2)), (.d (.s 3 l6))] fun o9 =>
 oD o9.res fun d10 =>
 dB d10 fun b11 =>
 bif (!b11) == false then (
 callT T 88 [(.d (.s 1 l3)), (.d (.s 1 l7))] fun o12 =>
 oD o12.res fun d13 =>
 dB d13 fun b14 =>
 bif (!b14) == false then (
 bif ((l4.length : Int) != (l8.length : Int)) then (
 some ⟨(.d (.v (.bool false))), []⟩) else (
 aft (l157x0 T k k [(.b [(.v (.int .i64 n1)), (.fz 3 l2), (.fz 1 l3), (.fz 2 l4)]), (.b [(.v (.int .i64 n5)), (.fz 3 l6), (.fz 1 l7), (.fz 2 l8)]), (.v (.int .i64 0))]) fun e30 ys31 =>
 bif e30.same .ret then (
 aV ys31 0 fun x32 =>
 aB x32 fun b33 =>
 some ⟨(.d (.v (.bool b33))), []⟩) else (
 bif e30.same (.exit 0) then (
 some ⟨(.d (.v (.bool true))), []⟩) else (
 none)))) else (
 some ⟨(.d (.v (.bool false))), []⟩)) else (
 some ⟨(.d (.v (.bool false))), []⟩)) else (
 some ⟨(.d (.v (.bool false))), []⟩)) := by kernel_rfl
/- loop.example/g00119/spec.SameValue -/
def b158x0 : ACode := (
  .seq (.seq (.reg false [⟨some 44, .mv (.t 5), none⟩,
    ⟨some 45, .fad 3 (.t 2), none⟩,
    ⟨some 46, .load false [(.sl 1)] (.t 45), none⟩,
    ⟨some 47, .len false (.t 46), none⟩,
    ⟨some 48, .bin .lss (.t 44) (.t 47), none⟩]) (
  .cond (.t 48) (.skip) (.exit 0))) (
  .seq (.block 1 (.seq (.dreg [] [(0, ⟨some 51, .fad 3 (.t 2), none⟩),
      (0, ⟨some 52, .load false [(.sl 1)] (.t 51), none⟩),
      (0, ⟨some 53, .mv (.t 5), none⟩),
      (0, ⟨some 54, .iad 1 (.t 52) (.t 53), none⟩),
      (0, ⟨some 55, .load false [.s] (.t 54), none⟩),
      (0, ⟨some 56, .fad 3 (.t 3), none⟩),
      (0, ⟨some 57, .load false [(.sl 1)] (.t 56), none⟩),
      (0, ⟨some 58, .mv (.t 5), none⟩),
      (0, ⟨some 59, .iad 1 (.t 57) (.t 58), none⟩),
      (0, ⟨some 60, .load false [.s] (.t 59), none⟩)] [⟨some 61, .bin .neq (.t 55) (.t 60), none⟩]) (
    .cond (.t 61) (.seq (.reg false [⟨some 4, .mv (.c (.v (.bool false))), none⟩]) (
      .ret)) (.skip)))) (
  .reg false [⟨some 49, .mv (.t 5), none⟩,
    ⟨some 50, .bin .add (.t 49) (.c (.v (.int .i64 1))), none⟩,
    ⟨some 5, .mv (.t 50), none⟩])))
def e158x0 : Exits := [(.ret, [(4, .c .b)]), ((.exit 0), [(2, .b [.c (.i .i64), .c .s, .c (.i .i64), .c (.sl 1), .c (.sl 5)]), (3, .b [.c (.i .i64), .c .s, .c (.i .i64), .c (.sl 1), .c (.sl 5)])])]
def l158x0 (T : Table) (k : Nat) := loopN (evalC ⟨T, []⟩ k b158x0 (Ex × List AV)) [2, 3, 5] e158x0
def b158x1 : ACode := (
  .seq (.seq (.reg false [⟨some 62, .mv (.t 6), none⟩,
    ⟨some 63, .fad 4 (.t 2), none⟩,
    ⟨some 64, .load false [(.sl 5)] (.t 63), none⟩,
    ⟨some 65, .len false (.t 64), none⟩,
    ⟨some 66, .bin .lss (.t 62) (.t 65), none⟩]) (
  .cond (.t 66) (.skip) (.exit 2))) (
  .seq (.block 3 (.seq (.dreg [] [(0, ⟨some 69, .fad 4 (.t 2), none⟩),
      (0, ⟨some 70, .load false [(.sl 5)] (.t 69), none⟩),
      (0, ⟨some 71, .mv (.t 6), none⟩),
      (0, ⟨some 72, .iad 5 (.t 70) (.t 71), none⟩),
      (0, ⟨some 73, .load true [(.i .i64), .s, (.i .i64), (.sl 1), (.sl 5)] (.t 72), none⟩),
      (0, ⟨some 74, .fad 4 (.t 3), none⟩),
      (0, ⟨some 75, .load false [(.sl 5)] (.t 74), none⟩),
      (0, ⟨some 76, .mv (.t 6), none⟩),
      (0, ⟨some 77, .iad 5 (.t 75) (.t 76), none⟩),
      (0, ⟨some 78, .load true [(.i .i64), .s, (.i .i64), (.sl 1), (.sl 5)] (.t 77), none⟩)] [⟨some 79, .call (.f 158) [.rd, .rd] false [.c .b] [(.t 73), (.t 78)], none⟩,
      ⟨some 80, .un .not (.t 79), none⟩]) (
    .cond (.t 80) (.seq (.reg false [⟨some 4, .mv (.c (.v (.bool false))), none⟩]) (
      .ret)) (.skip)))) (
  .reg false [⟨some 67, .mv (.t 6), none⟩,
    ⟨some 68, .bin .add (.t 67) (.c (.v (.int .i64 1))), none⟩,
    ⟨some 6, .mv (.t 68), none⟩])))
def e158x1 : Exits := [(.ret, [(4, .c .b)]), ((.exit 2), [])]
def l158x1 (T : Table) (k : Nat) := loopN (evalC ⟨T, []⟩ k b158x1 (Ex × List AV)) [2, 3, 6] e158x1
def a158 : AFun := ⟨[.rd, .rd], false, [.t 4], (
  .seq (.reg false [⟨some 2, .box (.t 0), none⟩,
    ⟨some 3, .box (.t 1), none⟩,
    ⟨some 4, .mv (.c (.v (.bool false))), none⟩]) (
  .seq (.seq (.reg false [⟨some 7, .fad 0 (.t 2), none⟩,
    ⟨some 8, .load false [(.i .i64)] (.t 7), none⟩,
    ⟨some 9, .fad 0 (.t 3), none⟩,
    ⟨some 10, .load false [(.i .i64)] (.t 9), none⟩,
    ⟨some 11, .bin .neq (.t 8) (.t 10), none⟩,
    ⟨some 12, .mv (.t 11), none⟩,
    ⟨some 13, .fad 1 (.t 2), some (12, false)⟩,
    ⟨some 14, .load false [.s] (.t 13), some (12, false)⟩,
    ⟨some 15, .fad 1 (.t 3), some (12, false)⟩,
    ⟨some 16, .load false [.s] (.t 15), some (12, false)⟩,
    ⟨some 17, .bin .neq (.t 14) (.t 16), some (12, false)⟩,
    ⟨some 18, .pick (.t 12) (.c (.v (.bool true))) (.t 17), none⟩,
    ⟨some 19, .mv (.t 18), none⟩,
    ⟨some 20, .fad 2 (.t 2), some (19, false)⟩,
    ⟨some 21, .load false [(.i .i64)] (.t 20), some (19, false)⟩,
    ⟨some 22, .fad 2 (.t 3), some (19, false)⟩,
    ⟨some 23, .load false [(.i .i64)] (.t 22), some (19, false)⟩,
    ⟨some 24, .bin .neq (.t 21) (.t 23), some (19, false)⟩,
    ⟨some 25, .pick (.t 19) (.c (.v (.bool true))) (.t 24), none⟩,
    ⟨some 26, .mv (.t 25), none⟩,
    ⟨some 27, .fad 3 (.t 2), some (26, false)⟩,
    ⟨some 28, .load false [(.sl 1)] (.t 27), some (26, false)⟩,
    ⟨some 29, .len false (.t 28), some (26, false)⟩,
    ⟨some 30, .fad 3 (.t 3), some (26, false)⟩,
    ⟨some 31, .load false [(.sl 1)] (.t 30), some (26, false)⟩,
    ⟨some 32, .len false (.t 31), some (26, false)⟩,
    ⟨some 33, .bin .neq (.t 29) (.t 32), some (26, false)⟩,
    ⟨some 34, .pick (.t 26) (.c (.v (.bool true))) (.t 33), none⟩,
    ⟨some 35, .mv (.t 34), none⟩,
    ⟨some 36, .fad 4 (.t 2), some (35, false)⟩,
    ⟨some 37, .load false [(.sl 5)] (.t 36), some (35, false)⟩,
    ⟨some 38, .len false (.t 37), some (35, false)⟩,
    ⟨some 39, .fad 4 (.t 3), some (35, false)⟩,
    ⟨some 40, .load false [(.sl 5)] (.t 39), some (35, false)⟩,
    ⟨some 41, .len false (.t 40), some (35, false)⟩,
    ⟨some 42, .bin .neq (.t 38) (.t 41), some (35, false)⟩,
    ⟨some 43, .pick (.t 35) (.c (.v (.bool true))) (.t 42), none⟩]) (
  .cond (.t 43) (.seq (.reg false [⟨some 4, .mv (.c (.v (.bool false))), none⟩]) (
    .ret)) (.skip))) (
  .seq (.seq (.reg false [⟨some 5, .mv (.c (.v (.int .i64 0))), none⟩]) (
  .block 0 (.loop [2, 3, 5] e158x0 b158x0))) (
  .seq (.seq (.reg false [⟨some 6, .mv (.c (.v (.int .i64 0))), none⟩]) (
  .block 2 (.loop [2, 3, 6] e158x1 b158x1))) (
  .seq (.reg false [⟨some 4, .mv (.c (.v (.bool true))), none⟩]) (
  .ret))))))⟩
theorem l158x0s (T : Table) (k n : Nat) (n11 : Int) (s12 : ByteArray) (n13 : Int) (l14 : Rows) (l15 : Rows) (n16 : Int) (s17 : ByteArray) (n18 : Int) (l19 : Rows) (l20 : Rows) (n21 : Int) : l158x0 T k (n + 1) [(.b [(.v (.int .i64 n11)), (.v (.string s12)), (.v (.int .i64 n13)), (.fz 1 l14), (.fz 5 l15)]), (.b [(.v (.int .i64 n16)), (.v (.string s17)), (.v (.int .i64 n18)), (.fz 1 l19), (.fz 5 l20)]), (.v (.int .i64 n21))] = (
 bif (decide (n21 < (l14.length : Int))) then (
 tst (decide (0 ≤ n21)) (
 look l14 (Int.toNat n21) fun r22 =>
 cS r22 0 fun s23 =>
 tst (decide (0 ≤ n21)) (
 look l19 (Int.toNat n21) fun r24 =>
 cS r24 0 fun s25 =>
 bif (!(bytesEq s23 s25)) then (
 some (.ret, [(.v (.bool false))])) else (
 l158x0 T k n [(.b [(.v (.int .i64 n11)), (.v (.string s12)), (.v (.int .i64 n13)), (.fz 1 l14), (.fz 5 l15)]), (.b [(.v (.int .i64 n16)), (.v (.string s17)), (.v (.int .i64 n18)), (.fz 1 l19), (.fz 5 l20)]), (.v (.int .i64 (IntKind.wrap .i64 (n21 + 1))))])))) else (
 some ((.exit 0), [(.b [(.v (.int .i64 n11)), (.v (.string s12)), (.v (.int .i64 n13)), (.fz 1 l14), (.fz 5 l15)]), (.b [(.v (.int .i64 n16)), (.v (.string s17)), (.v (.int .i64 n18)), (.fz 1 l19), (.fz 5 l20)])]))) := by kernel_rfl
theorem l158x1s (T : Table) (k n : Nat) (n54 : Int) (s55 : ByteArray) (n56 : Int) (l57 : Rows) (l58 : Rows) (n59 : Int) (s60 : ByteArray) (n61 : Int) (l62 : Rows) (l63 : Rows) (n64 : Int) : l158x1 T k (n + 1) [(.b [(.v (.int .i64 n54)), (.v (.string s55)), (.v (.int .i64 n56)), (.fz 1 l57), (.fz 5 l58)]), (.b [(.v (.int .i64 n59)), (.v (.string s60)), (.v (.int .i64 n61)), (.fz 1 l62), (.fz 5 l63)]), (.v (.int .i64 n64))] = (
 bif (decide (n64 < (l58.length : Int))) then (
 tst (decide (0 ≤ n64)) (
 look l58 (Int.toNat n64) fun r65 =>
 cI .i64 r65 0 fun n66 =>
 cS r65 1 fun s67 =>
 cI .i64 r65 2 fun n68 =>
 cL 1 r65 3 fun l69 =>
 cL 5 r65 4 fun l70 =>
 tst (decide (0 ≤ n64)) (
 look l63 (Int.toNat n64) fun r71 =>
 cI .i64 r71 0 fun n72 =>
 cS r71 1 fun s73 =>
 cI .i64 r71 2 fun n74 =>
 cL 1 r71 3 fun l75 =>
 cL 5 r71 4 fun l76 =>
 callT T 158 [(.g [(.v (.int .i64 n66)), (.v (.string s67)), (.v (.int .i64 n68)), (.s 1 l69), (.s 5 l70)]), (.g [(.v (.int .i64 n72)), (.v (.string s73)), (.v (.int .i64 n74)), (.s 1 l75), (.s 5 l76)])] fun o77 =>
 oD o77.res fun d78 =>
 dB d78 fun b79 =>
 bif (!b79) then (
 some (.ret, [(.v (.bool false))])) else (
 l158x1 T k n [(.b [(.v (.int .i64 n54)), (.v (.string s55)), (.v (.int .i64 n56)), (.fz 1 l57), (.fz 5 l58)]), (.b [(.v (.int .i64 n59)), (.v (.string s60)), (.v (.int .i64 n61)), (.fz 1 l62), (.fz 5 l63)]), (.v (.int .i64 (IntKind.wrap .i64 (n64 + 1))))])))) else (
 some ((.exit 2), []))) := by kernel_rfl
theorem a158q (T : Table) (k : Nat) (n1 : Int) (s2 : ByteArray) (n3 : Int) (l4 : Rows) (l5 : Rows) (n6 : Int) (s7 : ByteArray) (n8 : Int) (l9 : Rows) (l10 : Rows) : evalF T k a158 [(.g [(.v (.int .i64 n1)), (.v (.string s2)), (.v (.int .i64 n3)), (.s 1 l4), (.s 5 l5)]), (.g [(.v (.int .i64 n6)), (.v (.string s7)), (.v (.int .i64 n8)), (.s 1 l9), (.s 5 l10)])] = (
 bif (n1 != n6) == false then (
 bif (!(bytesEq s2 s7)) == false then (
 bif (n3 != n8) == false then (
 bif ((l4.length : Int) != (l9.length : Int)) == false then (
 bif ((l5.length : Int) != (l10.length : Int)) then (
 some ⟨(.d (.v (.bool false))), []⟩) else (
 aft (l158x0 T k k [(.b [(.v (.int .i64 n1)), (.v (.string s2)), (.v (.int .i64 n3)), (.fz 1 l4), (.fz 5 l5)]), (.b [(.v (.int .i64 n6)), (.v (.string s7)), (.v (.int .i64 n8)), (.fz 1 l9), (.fz 5 l10)]), (.v (.int .i64 0))]) fun e26 ys27 =>
 bif e26.same .ret then (
 aV ys27 0 fun x28 =>
 aB x28 fun b29 =>
 some ⟨(.d (.v (.bool b29))), []⟩) else (
 bif e26.same (.exit 0) then (
 aV ys27 0 fun x30 =>
 aX x30 fun xs31 =>
 aV xs31 0 fun x32 =>
 aI .i64 x32 fun n33 =>
 aV xs31 1 fun x34 =>
 aS x34 fun s35 =>
 aV xs31 2 fun x36 =>
 aI .i64 x36 fun n37 =>
 aV xs31 3 fun x38 =>
 aL 1 x38 fun l39 =>
 aV xs31 4 fun x40 =>
 aL 5 x40 fun l41 =>
 aV ys27 1 fun x42 =>
 aX x42 fun xs43 =>
 aV xs43 0 fun x44 =>
 aI .i64 x44 fun n45 =>
 aV xs43 1 fun x46 =>
 aS x46 fun s47 =>
 aV xs43 2 fun x48 =>
 aI .i64 x48 fun n49 =>
 aV xs43 3 fun x50 =>
 aL 1 x50 fun l51 =>
 aV xs43 4 fun x52 =>
 aL 5 x52 fun l53 =>
 aft (l158x1 T k k [(.b [(.v (.int .i64 n33)), (.v (.string s35)), (.v (.int .i64 n37)), (.fz 1 l39), (.fz 5 l41)]), (.b [(.v (.int .i64 n45)), (.v (.string s47)), (.v (.int .i64 n49)), (.fz 1 l51), (.fz 5 l53)]), (.v (.int .i64 0))]) fun e80 ys81 =>
 bif e80.same .ret then (
 aV ys81 0 fun x82 =>
 aB x82 fun b83 =>
 some ⟨(.d (.v (.bool b83))), []⟩) else (
 bif e80.same (.exit 2) then (
 some ⟨(.d (.v (.bool true))), []⟩) else (
 none))) else (
 none)))) else (
 some ⟨(.d (.v (.bool false))), []⟩)) else (
 some ⟨(.d (.v (.bool false))), []⟩)) else (
 some ⟨(.d (.v (.bool false))), []⟩)) else (
 some ⟨(.d (.v (.bool false))), []⟩)) := by kernel_rfl
/- loop.example/g00119/spec.l17SameOps -/
def b159x0 : ACode := (
  .seq (.seq (.reg false [⟨some 11, .mv (.t 5), none⟩,
    ⟨some 12, .mv (.t 0), none⟩,
    ⟨some 13, .len false (.t 12), none⟩,
    ⟨some 14, .bin .lss (.t 11) (.t 13), none⟩]) (
  .cond (.t 14) (.skip) (.exit 0))) (
  .seq (.block 1 (.seq (.dreg [] [(0, ⟨some 17, .mv (.t 0), none⟩),
      (0, ⟨some 18, .mv (.t 5), none⟩),
      (0, ⟨some 19, .iad 7 (.t 17) (.t 18), none⟩),
      (0, ⟨some 20, .fad 0 (.t 19), none⟩),
      (0, ⟨some 21, .load false [(.i .i64)] (.t 20), none⟩),
      (0, ⟨some 22, .mv (.t 1), none⟩),
      (0, ⟨some 23, .mv (.t 5), none⟩),
      (0, ⟨some 24, .iad 7 (.t 22) (.t 23), none⟩),
      (0, ⟨some 25, .fad 0 (.t 24), none⟩),
      (0, ⟨some 26, .load false [(.i .i64)] (.t 25), none⟩),
      (0, ⟨some 27, .bin .neq (.t 21) (.t 26), none⟩),
      (0, ⟨some 28, .mv (.t 27), none⟩),
      (0, ⟨some 29, .mv (.t 0), some (28, false)⟩),
      (0, ⟨some 30, .mv (.t 5), some (28, false)⟩),
      (0, ⟨some 31, .iad 7 (.t 29) (.t 30), some (28, false)⟩),
      (0, ⟨some 32, .fad 1 (.t 31), some (28, false)⟩),
      (0, ⟨some 33, .load false [(.sl 1)] (.t 32), some (28, false)⟩),
      (0, ⟨some 34, .mv (.t 1), some (28, false)⟩),
      (0, ⟨some 35, .mv (.t 5), some (28, false)⟩),
      (0, ⟨some 36, .iad 7 (.t 34) (.t 35), some (28, false)⟩),
      (0, ⟨some 37, .fad 1 (.t 36), some (28, false)⟩),
      (0, ⟨some 38, .load false [(.sl 1)] (.t 37), some (28, false)⟩),
      (1, ⟨some 39, .call (.f 88) [.rd, .rd] false [.c .b] [(.t 33), (.t 38)], some (28, false)⟩),
      (0, ⟨some 40, .un .not (.t 39), some (28, false)⟩),
      (0, ⟨some 41, .pick (.t 28) (.c (.v (.bool true))) (.t 40), none⟩),
      (0, ⟨some 42, .mv (.t 41), none⟩),
      (0, ⟨some 43, .mv (.t 0), some (42, false)⟩),
      (0, ⟨some 44, .mv (.t 5), some (42, false)⟩),
      (0, ⟨some 45, .iad 7 (.t 43) (.t 44), some (42, false)⟩),
      (0, ⟨some 46, .fad 2 (.t 45), some (42, false)⟩),
      (0, ⟨some 47, .load true [(.i .i64), .s, (.i .i64), (.sl 1), (.sl 5)] (.t 46), some (42, false)⟩),
      (0, ⟨some 48, .mv (.t 1), some (42, false)⟩),
      (0, ⟨some 49, .mv (.t 5), some (42, false)⟩),
      (0, ⟨some 50, .iad 7 (.t 48) (.t 49), some (42, false)⟩),
      (0, ⟨some 51, .fad 2 (.t 50), some (42, false)⟩),
      (0, ⟨some 52, .load true [(.i .i64), .s, (.i .i64), (.sl 1), (.sl 5)] (.t 51), some (42, false)⟩)] [⟨some 53, .call (.f 158) [.rd, .rd] false [.c .b] [(.t 47), (.t 52)], some (42, false)⟩,
      ⟨some 54, .un .not (.t 53), some (42, false)⟩,
      ⟨some 55, .pick (.t 42) (.c (.v (.bool true))) (.t 54), none⟩]) (
    .cond (.t 55) (.seq (.reg false [⟨some 4, .mv (.c (.v (.bool false))), none⟩]) (
      .ret)) (.skip)))) (
  .reg false [⟨some 15, .mv (.t 5), none⟩,
    ⟨some 16, .bin .add (.t 15) (.c (.v (.int .i64 1))), none⟩,
    ⟨some 5, .mv (.t 16), none⟩])))
def e159x0 : Exits := [(.ret, [(4, .c .b)]), ((.exit 0), [])]
def l159x0 (T : Table) (k : Nat) := loopN (evalC ⟨T, []⟩ k b159x0 (Ex × List AV)) [0, 1, 5] e159x0
def a159 : AFun := ⟨[.rd, .rd], false, [.t 4], (
  .seq (.reg false [⟨some 4, .mv (.c (.v (.bool false))), none⟩]) (
  .seq (.seq (.reg false [⟨some 6, .mv (.t 0), none⟩,
    ⟨some 7, .len false (.t 6), none⟩,
    ⟨some 8, .mv (.t 1), none⟩,
    ⟨some 9, .len false (.t 8), none⟩,
    ⟨some 10, .bin .neq (.t 7) (.t 9), none⟩]) (
  .cond (.t 10) (.seq (.reg false [⟨some 4, .mv (.c (.v (.bool false))), none⟩]) (
    .ret)) (.skip))) (
  .seq (.seq (.reg false [⟨some 5, .mv (.c (.v (.int .i64 0))), none⟩]) (
  .block 0 (.loop [0, 1, 5] e159x0 b159x0))) (
  .seq (.reg false [⟨some 4, .mv (.c (.v (.bool true))), none⟩]) (
  .ret)))))⟩
theorem l159x0s (T : Table) (k n : Nat) (l3 : Rows) (l4 : Rows) (n5 : Int) : l159x0 T k (n + 1) [(.fz 7 l3), (.fz 7 l4), (.v (.int .i64 n5))] = (
 bif (decide (n5 < (l3.length : Int))) then (
 tst (decide (0 ≤ n5)) (
 look l3 (Int.toNat n5) fun r6 =>
 cI .i64 r6 0 fun n7 =>
 tst (decide (0 ≤ n5)) (
 look l4 (Int.toNat n5) fun r8 =>
 cI .i64 r8 0 fun n9 =>
 bif (n7 != n9) == false then (
 tst (decide (0 ≤ n5)) (
 look l3 (Int.toNat n5) fun r10 =>
 cL 1 r10 1 fun l11 =>
 tst (decide (0 ≤ n5)) (
 look l4 (Int.toNat n5) fun r12 =>
 cL 1 r12 1 fun l13 =>
 callT T 88 [(.d (.s 1 l11)), (.d (.s 1 l13))] fun o14 =>
 oD o14.res fun d15 =>
 dB d15 fun b16 =>
 bif (!b16) == false then (
 tst (decide (0 ≤ n5)) (
 look l3 (Int.toNat n5) fun r17 =>
 cI .i64 r17 2 fun n18 =>
 cS r17 3 fun s19 =>
 cI .i64 r17 4 fun n20 =>
 cL 1 r17 5 fun l21 =>
 cL 5 r17 6 fun l22 =>
 tst (decide (0 ≤ n5)) (
 look l4 (Int.toNat n5) fun r23 =>
 cI .i64 r23 2 fun n24 =>
 cS r23 3 fun s25 =>
 cI .i64 r23 4 fun n26 =>
 cL 1 r23 5 fun l27 =>
 cL 5 r23 6 fun l28 =>
 callT T 158 [(.g [(.v (.int .i64 n18)), (.v (.string s19)), (.v (.int .i64 n20)), (.s 1 l21), (.s 5 l22)]), (.g [(.v (.int .i64 n24)), (.v (.string s25)), (.v (.int .i64 n26)), (.s 1 l27), (.s 5 l28)])] fun o29 =>
 oD o29.res fun d30 =>
 dB d30 fun b31 =>
 bif (!b31) then (
 some (.ret, [(.v (.bool false))])) else (
 l159x0 T k n [(.fz 7 l3), (.fz 7 l4), (.v (.int .i64 (IntKind.wrap .i64 (n5 + 1))))])))) else (
 some (.ret, [(.v (.bool false))]))))) else (
 some (.ret, [(.v (.bool false))]))))) else (
 some ((.exit 0), []))) := by kernel_rfl
theorem a159q (T : Table) (k : Nat) (l1 : Rows) (l2 : Rows) : evalF T k a159 [(.d (.s 7 l1)), (.d (.s 7 l2))] = (
 bif ((l1.length : Int) != (l2.length : Int)) then (
 some ⟨(.d (.v (.bool false))), []⟩) else (
 aft (l159x0 T k k [(.fz 7 l1), (.fz 7 l2), (.v (.int .i64 0))]) fun e32 ys33 =>
 bif e32.same .ret then (
 aV ys33 0 fun x34 =>
 aB x34 fun b35 =>
 some ⟨(.d (.v (.bool b35))), []⟩) else (
 bif e32.same (.exit 0) then (
 some ⟨(.d (.v (.bool true))), []⟩) else (
 none)))) := by kernel_rfl
/- loop.example/g00119/spec.l17SameJob -/
def b89x0 : ACode := (
  .seq (.seq (.reg false [⟨some 50, .mv (.t 5), none⟩,
    ⟨some 51, .fad 11 (.t 2), none⟩,
    ⟨some 52, .load false [(.sl 2)] (.t 51), none⟩,
    ⟨some 53, .len false (.t 52), none⟩,
    ⟨some 54, .bin .lss (.t 50) (.t 53), none⟩]) (
  .cond (.t 54) (.skip) (.exit 0))) (
  .seq (.block 1 (.seq (.dreg [] [(0, ⟨some 57, .fad 11 (.t 2), none⟩),
      (0, ⟨some 58, .load false [(.sl 2)] (.t 57), none⟩),
      (0, ⟨some 59, .mv (.t 5), none⟩),
      (0, ⟨some 60, .iad 2 (.t 58) (.t 59), none⟩),
      (0, ⟨some 61, .fad 0 (.t 60), none⟩),
      (0, ⟨some 62, .load false [.s] (.t 61), none⟩),
      (0, ⟨some 63, .fad 11 (.t 3), none⟩),
      (0, ⟨some 64, .load false [(.sl 2)] (.t 63), none⟩),
      (0, ⟨some 65, .mv (.t 5), none⟩),
      (0, ⟨some 66, .iad 2 (.t 64) (.t 65), none⟩),
      (0, ⟨some 67, .fad 0 (.t 66), none⟩),
      (0, ⟨some 68, .load false [.s] (.t 67), none⟩),
      (0, ⟨some 69, .bin .neq (.t 62) (.t 68), none⟩),
      (0, ⟨some 70, .mv (.t 69), none⟩),
      (0, ⟨some 71, .fad 11 (.t 2), some (70, false)⟩),
      (0, ⟨some 72, .load false [(.sl 2)] (.t 71), some (70, false)⟩),
      (0, ⟨some 73, .mv (.t 5), some (70, false)⟩),
      (0, ⟨some 74, .iad 2 (.t 72) (.t 73), some (70, false)⟩),
      (0, ⟨some 75, .fad 1 (.t 74), some (70, false)⟩),
      (0, ⟨some 76, .load false [(.sl 7)] (.t 75), some (70, false)⟩),
      (0, ⟨some 77, .fad 11 (.t 3), some (70, false)⟩),
      (0, ⟨some 78, .load false [(.sl 2)] (.t 77), some (70, false)⟩),
      (0, ⟨some 79, .mv (.t 5), some (70, false)⟩),
      (0, ⟨some 80, .iad 2 (.t 78) (.t 79), some (70, false)⟩),
      (0, ⟨some 81, .fad 1 (.t 80), some (70, false)⟩),
      (0, ⟨some 82, .load false [(.sl 7)] (.t 81), some (70, false)⟩)] [⟨some 83, .call (.f 159) [.rd, .rd] false [.c .b] [(.t 76), (.t 82)], some (70, false)⟩,
      ⟨some 84, .un .not (.t 83), some (70, false)⟩,
      ⟨some 85, .pick (.t 70) (.c (.v (.bool true))) (.t 84), none⟩]) (
    .cond (.t 85) (.seq (.reg false [⟨some 4, .mv (.c (.v (.bool false))), none⟩]) (
      .ret)) (.skip)))) (
  .reg false [⟨some 55, .mv (.t 5), none⟩,
    ⟨some 56, .bin .add (.t 55) (.c (.v (.int .i64 1))), none⟩,
    ⟨some 5, .mv (.t 56), none⟩])))
def e89x0 : Exits := [(.ret, [(4, .c .b)]), ((.exit 0), [])]
def l89x0 (T : Table) (k : Nat) := loopN (evalC ⟨T, []⟩ k b89x0 (Ex × List AV)) [2, 3, 5] e89x0
def a89 : AFun := ⟨[.rd, .rd], false, [.t 4], (
  .seq (.reg false [⟨some 2, .box (.t 0), none⟩,
    ⟨some 3, .box (.t 1), none⟩,
    ⟨some 4, .mv (.c (.v (.bool false))), none⟩]) (
  .seq (.seq (.reg false [⟨some 6, .fad 0 (.t 2), none⟩,
    ⟨some 7, .load false [(.i .i64)] (.t 6), none⟩,
    ⟨some 8, .fad 0 (.t 3), none⟩,
    ⟨some 9, .load false [(.i .i64)] (.t 8), none⟩,
    ⟨some 10, .bin .neq (.t 7) (.t 9), none⟩,
    ⟨some 11, .mv (.t 10), none⟩,
    ⟨some 12, .fad 1 (.t 2), some (11, false)⟩,
    ⟨some 13, .load false [.s] (.t 12), some (11, false)⟩,
    ⟨some 14, .fad 1 (.t 3), some (11, false)⟩,
    ⟨some 15, .load false [.s] (.t 14), some (11, false)⟩,
    ⟨some 16, .bin .neq (.t 13) (.t 15), some (11, false)⟩,
    ⟨some 17, .pick (.t 11) (.c (.v (.bool true))) (.t 16), none⟩,
    ⟨some 18, .mv (.t 17), none⟩,
    ⟨some 19, .fad 12 (.t 2), some (18, false)⟩,
    ⟨some 20, .load false [.b] (.t 19), some (18, false)⟩,
    ⟨some 21, .fad 12 (.t 3), some (18, false)⟩,
    ⟨some 22, .load false [.b] (.t 21), some (18, false)⟩,
    ⟨some 23, .beq true (.t 20) (.t 22), some (18, false)⟩,
    ⟨some 24, .pick (.t 18) (.c (.v (.bool true))) (.t 23), none⟩,
    ⟨some 25, .mv (.t 24), none⟩,
    ⟨some 26, .fad 2 (.t 2), some (25, false)⟩,
    ⟨some 27, .load true [(.i .i64), (.sl 3), (.sl 1), (.sl 2)] (.t 26), some (25, false)⟩,
    ⟨some 28, .fad 2 (.t 3), some (25, false)⟩,
    ⟨some 29, .load true [(.i .i64), (.sl 3), (.sl 1), (.sl 2)] (.t 28), some (25, false)⟩,
    ⟨some 30, .call (.f 157) [.rd, .rd] false [.c .b] [(.t 27), (.t 29)], some (25, false)⟩,
    ⟨some 31, .un .not (.t 30), some (25, false)⟩,
    ⟨some 32, .pick (.t 25) (.c (.v (.bool true))) (.t 31), none⟩,
    ⟨some 33, .mv (.t 32), none⟩,
    ⟨some 34, .fad 6 (.t 2), some (33, false)⟩,
    ⟨some 35, .load true [(.i .i64), .s, (.i .i64), (.sl 1), (.sl 5)] (.t 34), some (33, false)⟩,
    ⟨some 36, .fad 6 (.t 3), some (33, false)⟩,
    ⟨some 37, .load true [(.i .i64), .s, (.i .i64), (.sl 1), (.sl 5)] (.t 36), some (33, false)⟩,
    ⟨some 38, .call (.f 158) [.rd, .rd] false [.c .b] [(.t 35), (.t 37)], some (33, false)⟩,
    ⟨some 39, .un .not (.t 38), some (33, false)⟩,
    ⟨some 40, .pick (.t 33) (.c (.v (.bool true))) (.t 39), none⟩,
    ⟨some 41, .mv (.t 40), none⟩,
    ⟨some 42, .fad 11 (.t 2), some (41, false)⟩,
    ⟨some 43, .load false [(.sl 2)] (.t 42), some (41, false)⟩,
    ⟨some 44, .len false (.t 43), some (41, false)⟩,
    ⟨some 45, .fad 11 (.t 3), some (41, false)⟩,
    ⟨some 46, .load false [(.sl 2)] (.t 45), some (41, false)⟩,
    ⟨some 47, .len false (.t 46), some (41, false)⟩,
    ⟨some 48, .bin .neq (.t 44) (.t 47), some (41, false)⟩,
    ⟨some 49, .pick (.t 41) (.c (.v (.bool true))) (.t 48), none⟩]) (
  .cond (.t 49) (.seq (.reg false [⟨some 4, .mv (.c (.v (.bool false))), none⟩]) (
    .ret)) (.skip))) (
  .seq (.seq (.reg false [⟨some 5, .mv (.c (.v (.int .i64 0))), none⟩]) (
  .block 0 (.loop [2, 3, 5] e89x0 b89x0))) (
  .seq (.reg false [⟨some 4, .mv (.c (.v (.bool true))), none⟩]) (
  .ret)))))⟩
theorem l89x0s (T : Table) (k n : Nat) (n33 : Int) (s34 : ByteArray) (n35 : Int) (l36 : Rows) (l37 : Rows) (l38 : Rows) (n39 : Int) (s40 : ByteArray) (n41 : Int) (l42 : Rows) (l43 : Rows) (l44 : Rows) (b45 : Bool) (n46 : Int) (s47 : ByteArray) (n48 : Int) (l49 : Rows) (l50 : Rows) (l51 : Rows) (n52 : Int) (s53 : ByteArray) (n54 : Int) (l55 : Rows) (l56 : Rows) (l57 : Rows) (b58 : Bool) (n59 : Int) : l89x0 T k (n + 1) [(.b [(.v (.int .i64 n33)), (.v (.string s34)), (.v (.int .i64 n35)), (.fz 3 l36), (.fz 1 l37), (.fz 2 l38), (.v (.int .i64 n39)), (.v (.string s40)), (.v (.int .i64 n41)), (.fz 1 l42), (.fz 5 l43), (.fz 2 l44), (.v (.bool b45))]), (.b [(.v (.int .i64 n46)), (.v (.string s47)), (.v (.int .i64 n48)), (.fz 3 l49), (.fz 1 l50), (.fz 2 l51), (.v (.int .i64 n52)), (.v (.string s53)), (.v (.int .i64 n54)), (.fz 1 l55), (.fz 5 l56), (.fz 2 l57), (.v (.bool b58))]), (.v (.int .i64 n59))] = (
 bif (decide (n59 < (l44.length : Int))) then (
 tst (decide (0 ≤ n59)) (
 look l44 (Int.toNat n59) fun r60 =>
 cS r60 0 fun s61 =>
 tst (decide (0 ≤ n59)) (
 look l57 (Int.toNat n59) fun r62 =>
 cS r62 0 fun s63 =>
 bif (!(bytesEq s61 s63)) == false then (
 tst (decide (0 ≤ n59)) (
 look l44 (Int.toNat n59) fun r64 =>
 cL 7 r64 1 fun l65 =>
 tst (decide (0 ≤ n59)) (
 look l57 (Int.toNat n59) fun r66 =>
 cL 7 r66 1 fun l67 =>
 callT T 159 [(.d (.s 7 l65)), (.d (.s 7 l67))] fun o68 =>
 oD o68.res fun d69 =>
 dB d69 fun b70 =>
 bif (!b70) then (
 some (.ret, [(.v (.bool false))])) else (
 l89x0 T k n [(.b [(.v (.int .i64 n33)), (.v (.string s34)), (.v (.int .i64 n35)), (.fz 3 l36), (.fz 1 l37), (.fz 2 l38), (.v (.int .i64 n39)), (.v (.string s40)), (.v (.int .i64 n41)), (.fz 1 l42), (.fz 5 l43), (.fz 2 l44), (.v (.bool b45))]), (.b [(.v (.int .i64 n46)), (.v (.string s47)), (.v (.int .i64 n48)), (.fz 3 l49), (.fz 1 l50), (.fz 2 l51), (.v (.int .i64 n52)), (.v (.string s53)), (.v (.int .i64 n54)), (.fz 1 l55), (.fz 5 l56), (.fz 2 l57), (.v (.bool b58))]), (.v (.int .i64 (IntKind.wrap .i64 (n59 + 1))))])))) else (
 some (.ret, [(.v (.bool false))]))))) else (
 some ((.exit 0), []))) := by kernel_rfl
theorem a89q (T : Table) (k : Nat) (n1 : Int) (s2 : ByteArray) (n3 : Int) (l4 : Rows) (l5 : Rows) (l6 : Rows) (n7 : Int) (s8 : ByteArray) (n9 : Int) (l10 : Rows) (l11 : Rows) (l12 : Rows) (b13 : Bool) (n14 : Int) (s15 : ByteArray) (n16 : Int) (l17 : Rows) (l18 : Rows) (l19 : Rows) (n20 : Int) (s21 : ByteArray) (n22 : Int) (l23 : Rows) (l24 : Rows) (l25 : Rows) (b26 : Bool) : evalF T k a89 [(.g [(.v (.int .i64 n1)), (.v (.string s2)), (.v (.int .i64 n3)), (.s 3 l4), (.s 1 l5), (.s 2 l6), (.v (.int .i64 n7)), (.v (.string s8)), (.v (.int .i64 n9)), (.s 1 l10), (.s 5 l11), (.s 2 l12), (.v (.bool b13))]), (.g [(.v (.int .i64 n14)), (.v (.string s15)), (.v (.int .i64 n16)), (.s 3 l17), (.s 1 l18), (.s 2 l19), (.v (.int .i64 n20)), (.v (.string s21)), (.v (.int .i64 n22)), (.s 1 l23), (.s 5 l24), (.s 2 l25), (.v (.bool b26))])] = (
 bif (n1 != n14) == false then (
 bif (!(bytesEq s2 s15)) == false then (
 bif (b13 != b26) == false then (
 callT T 157 [(.g [(.v (.int .i64 n3)), (.s 3 l4), (.s 1 l5), (.s 2 l6)]), (.g [(.v (.int .i64 n16)), (.s 3 l17), (.s 1 l18), (.s 2 l19)])] fun o27 =>
 oD o27.res fun d28 =>
 dB d28 fun b29 =>
 bif (!b29) == false then (
 callT T 158 [(.g [(.v (.int .i64 n7)), (.v (.string s8)), (.v (.int .i64 n9)), (.s 1 l10), (.s 5 l11)]), (.g [(.v (.int .i64 n20)), (.v (.string s21)), (.v (.int .i64 n22)), (.s 1 l23), (.s 5 l24)])] fun o30 =>
 oD o30.res fun d31 =>
 dB d31 fun b32 =>
 bif (!b32) == false then (
 bif ((l12.length : Int) != (l25.length : Int)) then (
 some ⟨(.d (.v (.bool false))), []⟩) else (
 aft (l89x0 T k k [(.b [(.v (.int .i64 n1)), (.v (.string s2)), (.v (.int .i64 n3)), (.fz 3 l4), (.fz 1 l5), (.fz 2 l6), (.v (.int .i64 n7)), (.v (.string s8)), (.v (.int .i64 n9)), (.fz 1 l10), (.fz 5 l11), (.fz 2 l12), (.v (.bool b13))]), (.b [(.v (.int .i64 n14)), (.v (.string s15)), (.v (.int .i64 n16)), (.fz 3 l17), (.fz 1 l18), (.fz 2 l19), (.v (.int .i64 n20)), (.v (.string s21)), (.v (.int .i64 n22)), (.fz 1 l23), (.fz 5 l24), (.fz 2 l25), (.v (.bool b26))]), (.v (.int .i64 0))]) fun e71 ys72 =>
 bif e71.same .ret then (
 aV ys72 0 fun x73 =>
 aB x73 fun b74 =>
 some ⟨(.d (.v (.bool b74))), []⟩) else (
 bif e71.same (.exit 0) then (
 some ⟨(.d (.v (.bool true))), []⟩) else (
 none)))) else (
 some ⟨(.d (.v (.bool false))), []⟩)) else (
 some ⟨(.d (.v (.bool false))), []⟩)) else (
 some ⟨(.d (.v (.bool false))), []⟩)) else (
 some ⟨(.d (.v (.bool false))), []⟩)) else (
 some ⟨(.d (.v (.bool false))), []⟩)) := by kernel_rfl
/- loop.example/g00119/spec.l17SamePost -/
def b90x0 : ACode := (
  .seq (.seq (.reg false [⟨some 57, .mv (.t 5), none⟩,
    ⟨some 58, .fad 0 (.t 2), none⟩,
    ⟨some 59, .fad 1 (.t 58), none⟩,
    ⟨some 60, .load false [(.sl 2)] (.t 59), none⟩,
    ⟨some 61, .len false (.t 60), none⟩,
    ⟨some 62, .bin .lss (.t 57) (.t 61), none⟩]) (
  .cond (.t 62) (.skip) (.exit 0))) (
  .seq (.block 1 (.seq (.dreg [] [(0, ⟨some 65, .fad 0 (.t 2), none⟩),
      (0, ⟨some 66, .fad 1 (.t 65), none⟩),
      (0, ⟨some 67, .load false [(.sl 2)] (.t 66), none⟩),
      (0, ⟨some 68, .mv (.t 5), none⟩),
      (0, ⟨some 69, .iad 2 (.t 67) (.t 68), none⟩),
      (0, ⟨some 70, .load true [.s, .s] (.t 69), none⟩),
      (0, ⟨some 71, .fad 0 (.t 3), none⟩),
      (0, ⟨some 72, .fad 1 (.t 71), none⟩),
      (0, ⟨some 73, .load false [(.sl 2)] (.t 72), none⟩),
      (0, ⟨some 74, .mv (.t 5), none⟩),
      (0, ⟨some 75, .iad 2 (.t 73) (.t 74), none⟩),
      (0, ⟨some 76, .load true [.s, .s] (.t 75), none⟩)] [⟨some 77, .geq true [.s, .s] (.t 70) (.t 76), none⟩]) (
    .cond (.t 77) (.seq (.reg false [⟨some 4, .mv (.c (.v (.bool false))), none⟩]) (
      .ret)) (.skip)))) (
  .reg false [⟨some 63, .mv (.t 5), none⟩,
    ⟨some 64, .bin .add (.t 63) (.c (.v (.int .i64 1))), none⟩,
    ⟨some 5, .mv (.t 64), none⟩])))
def e90x0 : Exits := [(.ret, [(4, .c .b)]), ((.exit 0), [])]
def l90x0 (T : Table) (k : Nat) := loopN (evalC ⟨T, []⟩ k b90x0 (Ex × List AV)) [2, 3, 5] e90x0
def a90 : AFun := ⟨[.rd, .rd], false, [.t 4], (
  .seq (.reg false [⟨some 2, .box (.t 0), none⟩,
    ⟨some 3, .box (.t 1), none⟩,
    ⟨some 4, .mv (.c (.v (.bool false))), none⟩]) (
  .seq (.seq (.reg false [⟨some 6, .fad 4 (.t 2), none⟩,
    ⟨some 7, .load false [(.i .i64)] (.t 6), none⟩,
    ⟨some 8, .fad 4 (.t 3), none⟩,
    ⟨some 9, .load false [(.i .i64)] (.t 8), none⟩,
    ⟨some 10, .bin .neq (.t 7) (.t 9), none⟩,
    ⟨some 11, .mv (.t 10), none⟩,
    ⟨some 12, .fad 5 (.t 2), some (11, false)⟩,
    ⟨some 13, .load false [(.i .i64)] (.t 12), some (11, false)⟩,
    ⟨some 14, .fad 5 (.t 3), some (11, false)⟩,
    ⟨some 15, .load false [(.i .i64)] (.t 14), some (11, false)⟩,
    ⟨some 16, .bin .neq (.t 13) (.t 15), some (11, false)⟩,
    ⟨some 17, .pick (.t 11) (.c (.v (.bool true))) (.t 16), none⟩,
    ⟨some 18, .mv (.t 17), none⟩,
    ⟨some 19, .fad 0 (.t 2), some (18, false)⟩,
    ⟨some 20, .fad 0 (.t 19), some (18, false)⟩,
    ⟨some 21, .load false [.s] (.t 20), some (18, false)⟩,
    ⟨some 22, .fad 0 (.t 3), some (18, false)⟩,
    ⟨some 23, .fad 0 (.t 22), some (18, false)⟩,
    ⟨some 24, .load false [.s] (.t 23), some (18, false)⟩,
    ⟨some 25, .bin .neq (.t 21) (.t 24), some (18, false)⟩,
    ⟨some 26, .pick (.t 18) (.c (.v (.bool true))) (.t 25), none⟩,
    ⟨some 27, .mv (.t 26), none⟩,
    ⟨some 28, .fad 0 (.t 2), some (27, false)⟩,
    ⟨some 29, .fad 3 (.t 28), some (27, false)⟩,
    ⟨some 30, .load false [(.i .i64)] (.t 29), some (27, false)⟩,
    ⟨some 31, .fad 0 (.t 3), some (27, false)⟩,
    ⟨some 32, .fad 3 (.t 31), some (27, false)⟩,
    ⟨some 33, .load false [(.i .i64)] (.t 32), some (27, false)⟩,
    ⟨some 34, .bin .neq (.t 30) (.t 33), some (27, false)⟩,
    ⟨some 35, .pick (.t 27) (.c (.v (.bool true))) (.t 34), none⟩,
    ⟨some 36, .mv (.t 35), none⟩,
    ⟨some 37, .fad 0 (.t 2), some (36, false)⟩,
    ⟨some 38, .fad 2 (.t 37), some (36, false)⟩,
    ⟨some 39, .load false [(.sl 1)] (.t 38), some (36, false)⟩,
    ⟨some 40, .fad 0 (.t 3), some (36, false)⟩,
    ⟨some 41, .fad 2 (.t 40), some (36, false)⟩,
    ⟨some 42, .load false [(.sl 1)] (.t 41), some (36, false)⟩,
    ⟨some 43, .call (.f 88) [.rd, .rd] false [.c .b] [(.t 39), (.t 42)], some (36, false)⟩,
    ⟨some 44, .un .not (.t 43), some (36, false)⟩,
    ⟨some 45, .pick (.t 36) (.c (.v (.bool true))) (.t 44), none⟩,
    ⟨some 46, .mv (.t 45), none⟩,
    ⟨some 47, .fad 0 (.t 2), some (46, false)⟩,
    ⟨some 48, .fad 1 (.t 47), some (46, false)⟩,
    ⟨some 49, .load false [(.sl 2)] (.t 48), some (46, false)⟩,
    ⟨some 50, .len false (.t 49), some (46, false)⟩,
    ⟨some 51, .fad 0 (.t 3), some (46, false)⟩,
    ⟨some 52, .fad 1 (.t 51), some (46, false)⟩,
    ⟨some 53, .load false [(.sl 2)] (.t 52), some (46, false)⟩,
    ⟨some 54, .len false (.t 53), some (46, false)⟩,
    ⟨some 55, .bin .neq (.t 50) (.t 54), some (46, false)⟩,
    ⟨some 56, .pick (.t 46) (.c (.v (.bool true))) (.t 55), none⟩]) (
  .cond (.t 56) (.seq (.reg false [⟨some 4, .mv (.c (.v (.bool false))), none⟩]) (
    .ret)) (.skip))) (
  .seq (.seq (.reg false [⟨some 5, .mv (.c (.v (.int .i64 0))), none⟩]) (
  .block 0 (.loop [2, 3, 5] e90x0 b90x0))) (
  .seq (.reg false [⟨some 4, .mv (.c (.v (.bool true))), none⟩]) (
  .ret)))))⟩
theorem l90x0s (T : Table) (k n : Nat) (s16 : ByteArray) (l17 : Rows) (l18 : Rows) (n19 : Int) (n20 : Int) (n21 : Int) (s22 : ByteArray) (l23 : Rows) (l24 : Rows) (n25 : Int) (n26 : Int) (n27 : Int) (n28 : Int) : l90x0 T k (n + 1) [(.b [(.v (.string s16)), (.fz 2 l17), (.fz 1 l18), (.v (.int .i64 n19)), (.v (.int .i64 n20)), (.v (.int .i64 n21))]), (.b [(.v (.string s22)), (.fz 2 l23), (.fz 1 l24), (.v (.int .i64 n25)), (.v (.int .i64 n26)), (.v (.int .i64 n27))]), (.v (.int .i64 n28))] = (
 bif (decide (n28 < (l17.length : Int))) then (
 tst (decide (0 ≤ n28)) (
 look l17 (Int.toNat n28) fun r29 =>
 cS r29 0 fun s30 =>
 cS r29 1 fun s31 =>
 tst (decide (0 ≤ n28)) (
 look l23 (Int.toNat n28) fun r32 =>
 cS r32 0 fun s33 =>
 cS r32 1 fun s34 =>
 bif (!(bytesEq s30 s33 && (bytesEq s31 s34 && true))) then (
 some (.ret, [(.v (.bool false))])) else (
 l90x0 T k n [(.b [(.v (.string s16)), (.fz 2 l17), (.fz 1 l18), (.v (.int .i64 n19)), (.v (.int .i64 n20)), (.v (.int .i64 n21))]), (.b [(.v (.string s22)), (.fz 2 l23), (.fz 1 l24), (.v (.int .i64 n25)), (.v (.int .i64 n26)), (.v (.int .i64 n27))]), (.v (.int .i64 (IntKind.wrap .i64 (n28 + 1))))])))) else (
 some ((.exit 0), []))) := by kernel_rfl
theorem a90q (T : Table) (k : Nat) (s1 : ByteArray) (l2 : Rows) (l3 : Rows) (n4 : Int) (n5 : Int) (n6 : Int) (s7 : ByteArray) (l8 : Rows) (l9 : Rows) (n10 : Int) (n11 : Int) (n12 : Int) : evalF T k a90 [(.g [(.v (.string s1)), (.s 2 l2), (.s 1 l3), (.v (.int .i64 n4)), (.v (.int .i64 n5)), (.v (.int .i64 n6))]), (.g [(.v (.string s7)), (.s 2 l8), (.s 1 l9), (.v (.int .i64 n10)), (.v (.int .i64 n11)), (.v (.int .i64 n12))])] = (
 bif (n5 != n11) == false then (
 bif (n6 != n12) == false then (
 bif (!(bytesEq s1 s7)) == false then (
 bif (n4 != n10) == false then (
 callT T 88 [(.d (.s 1 l3)), (.d (.s 1 l9))] fun o13 =>
 oD o13.res fun d14 =>
 dB d14 fun b15 =>
 bif (!b15) == false then (
 bif ((l2.length : Int) != (l8.length : Int)) then (
 some ⟨(.d (.v (.bool false))), []⟩) else (
 aft (l90x0 T k k [(.b [(.v (.string s1)), (.fz 2 l2), (.fz 1 l3), (.v (.int .i64 n4)), (.v (.int .i64 n5)), (.v (.int .i64 n6))]), (.b [(.v (.string s7)), (.fz 2 l8), (.fz 1 l9), (.v (.int .i64 n10)), (.v (.int .i64 n11)), (.v (.int .i64 n12))]), (.v (.int .i64 0))]) fun e35 ys36 =>
 bif e35.same .ret then (
 aV ys36 0 fun x37 =>
 aB x37 fun b38 =>
 some ⟨(.d (.v (.bool b38))), []⟩) else (
 bif e35.same (.exit 0) then (
 some ⟨(.d (.v (.bool true))), []⟩) else (
 none)))) else (
 some ⟨(.d (.v (.bool false))), []⟩)) else (
 some ⟨(.d (.v (.bool false))), []⟩)) else (
 some ⟨(.d (.v (.bool false))), []⟩)) else (
 some ⟨(.d (.v (.bool false))), []⟩)) else (
 some ⟨(.d (.v (.bool false))), []⟩)) := by kernel_rfl
/- loop.example/g00119/spec.SameHub -/
def b31x0 : ACode := (
  .seq (.seq (.reg false [⟨some 62, .mv (.t 5), none⟩,
    ⟨some 63, .fad 3 (.t 2), none⟩,
    ⟨some 64, .load false [(.sl 13)] (.t 63), none⟩,
    ⟨some 65, .len false (.t 64), none⟩,
    ⟨some 66, .bin .lss (.t 62) (.t 65), none⟩]) (
  .cond (.t 66) (.skip) (.exit 0))) (
  .seq (.block 1 (.seq (.dreg [] [(0, ⟨some 69, .fad 3 (.t 2), none⟩),
      (0, ⟨some 70, .load false [(.sl 13)] (.t 69), none⟩),
      (0, ⟨some 71, .mv (.t 5), none⟩),
      (0, ⟨some 72, .iad 13 (.t 70) (.t 71), none⟩),
      (0, ⟨some 73, .load true [(.i .i64), .s, (.i .i64), (.sl 3), (.sl 1), (.sl 2), (.i .i64), .s, (.i .i64), (.sl 1), (.sl 5), (.sl 2), .b] (.t 72), none⟩),
      (0, ⟨some 74, .fad 3 (.t 3), none⟩),
      (0, ⟨some 75, .load false [(.sl 13)] (.t 74), none⟩),
      (0, ⟨some 76, .mv (.t 5), none⟩),
      (0, ⟨some 77, .iad 13 (.t 75) (.t 76), none⟩),
      (0, ⟨some 78, .load true [(.i .i64), .s, (.i .i64), (.sl 3), (.sl 1), (.sl 2), (.i .i64), .s, (.i .i64), (.sl 1), (.sl 5), (.sl 2), .b] (.t 77), none⟩)] [⟨some 79, .call (.f 89) [.rd, .rd] false [.c .b] [(.t 73), (.t 78)], none⟩,
      ⟨some 80, .un .not (.t 79), none⟩]) (
    .cond (.t 80) (.seq (.reg false [⟨some 4, .mv (.c (.v (.bool false))), none⟩]) (
      .ret)) (.skip)))) (
  .reg false [⟨some 67, .mv (.t 5), none⟩,
    ⟨some 68, .bin .add (.t 67) (.c (.v (.int .i64 1))), none⟩,
    ⟨some 5, .mv (.t 68), none⟩])))
def e31x0 : Exits := [(.ret, [(4, .c .b)]), ((.exit 0), [(2, .b [.c (.i .i64), .c (.i .i64), .c (.i .i64), .c (.sl 13), .c (.sl 6), .c (.sl 5), .c (.sl 1)]), (3, .b [.c (.i .i64), .c (.i .i64), .c (.i .i64), .c (.sl 13), .c (.sl 6), .c (.sl 5), .c (.sl 1)])])]
def l31x0 (T : Table) (k : Nat) := loopN (evalC ⟨T, []⟩ k b31x0 (Ex × List AV)) [2, 3, 5] e31x0
def b31x1 : ACode := (
  .seq (.seq (.reg false [⟨some 81, .mv (.t 6), none⟩,
    ⟨some 82, .fad 4 (.t 2), none⟩,
    ⟨some 83, .load false [(.sl 6)] (.t 82), none⟩,
    ⟨some 84, .len false (.t 83), none⟩,
    ⟨some 85, .bin .lss (.t 81) (.t 84), none⟩]) (
  .cond (.t 85) (.skip) (.exit 2))) (
  .seq (.block 3 (.seq (.dreg [] [(0, ⟨some 88, .fad 4 (.t 2), none⟩),
      (0, ⟨some 89, .load false [(.sl 6)] (.t 88), none⟩),
      (0, ⟨some 90, .mv (.t 6), none⟩),
      (0, ⟨some 91, .iad 6 (.t 89) (.t 90), none⟩),
      (0, ⟨some 92, .load true [.s, (.sl 2), (.sl 1), (.i .i64), (.i .i64), (.i .i64)] (.t 91), none⟩),
      (0, ⟨some 93, .fad 4 (.t 3), none⟩),
      (0, ⟨some 94, .load false [(.sl 6)] (.t 93), none⟩),
      (0, ⟨some 95, .mv (.t 6), none⟩),
      (0, ⟨some 96, .iad 6 (.t 94) (.t 95), none⟩),
      (0, ⟨some 97, .load true [.s, (.sl 2), (.sl 1), (.i .i64), (.i .i64), (.i .i64)] (.t 96), none⟩)] [⟨some 98, .call (.f 90) [.rd, .rd] false [.c .b] [(.t 92), (.t 97)], none⟩,
      ⟨some 99, .un .not (.t 98), none⟩]) (
    .cond (.t 99) (.seq (.reg false [⟨some 4, .mv (.c (.v (.bool false))), none⟩]) (
      .ret)) (.skip)))) (
  .reg false [⟨some 86, .mv (.t 6), none⟩,
    ⟨some 87, .bin .add (.t 86) (.c (.v (.int .i64 1))), none⟩,
    ⟨some 6, .mv (.t 87), none⟩])))
def e31x1 : Exits := [(.ret, [(4, .c .b)]), ((.exit 2), [(2, .b [.c (.i .i64), .c (.i .i64), .c (.i .i64), .c (.sl 13), .c (.sl 6), .c (.sl 5), .c (.sl 1)]), (3, .b [.c (.i .i64), .c (.i .i64), .c (.i .i64), .c (.sl 13), .c (.sl 6), .c (.sl 5), .c (.sl 1)])])]
def l31x1 (T : Table) (k : Nat) := loopN (evalC ⟨T, []⟩ k b31x1 (Ex × List AV)) [2, 3, 6] e31x1
def b31x2 : ACode := (
  .seq (.seq (.reg false [⟨some 100, .mv (.t 7), none⟩,
    ⟨some 101, .fad 5 (.t 2), none⟩,
    ⟨some 102, .load false [(.sl 5)] (.t 101), none⟩,
    ⟨some 103, .len false (.t 102), none⟩,
    ⟨some 104, .bin .lss (.t 100) (.t 103), none⟩]) (
  .cond (.t 104) (.skip) (.exit 4))) (
  .seq (.block 5 (.seq (.dreg [] [(0, ⟨some 107, .fad 5 (.t 2), none⟩),
      (0, ⟨some 108, .load false [(.sl 5)] (.t 107), none⟩),
      (0, ⟨some 109, .mv (.t 7), none⟩),
      (0, ⟨some 110, .iad 5 (.t 108) (.t 109), none⟩),
      (0, ⟨some 111, .load true [(.i .i64), .s, (.i .i64), (.i .i64), (.i .i64)] (.t 110), none⟩),
      (0, ⟨some 112, .fad 5 (.t 3), none⟩),
      (0, ⟨some 113, .load false [(.sl 5)] (.t 112), none⟩),
      (0, ⟨some 114, .mv (.t 7), none⟩),
      (0, ⟨some 115, .iad 5 (.t 113) (.t 114), none⟩),
      (0, ⟨some 116, .load true [(.i .i64), .s, (.i .i64), (.i .i64), (.i .i64)] (.t 115), none⟩)] [⟨some 117, .geq true [(.i .i64), .s, (.i .i64), (.i .i64), (.i .i64)] (.t 111) (.t 116), none⟩]) (
    .cond (.t 117) (.seq (.reg false [⟨some 4, .mv (.c (.v (.bool false))), none⟩]) (
      .ret)) (.skip)))) (
  .reg false [⟨some 105, .mv (.t 7), none⟩,
    ⟨some 106, .bin .add (.t 105) (.c (.v (.int .i64 1))), none⟩,
    ⟨some 7, .mv (.t 106), none⟩])))
def e31x2 : Exits := [(.ret, [(4, .c .b)]), ((.exit 4), [])]
def l31x2 (T : Table) (k : Nat) := loopN (evalC ⟨T, []⟩ k b31x2 (Ex × List AV)) [2, 3, 7] e31x2
def a31 : AFun := ⟨[.rd, .rd], false, [.t 4], (
  .seq (.reg false [⟨some 2, .box (.t 0), none⟩,
    ⟨some 3, .box (.t 1), none⟩,
    ⟨some 4, .mv (.c (.v (.bool false))), none⟩]) (
  .seq (.seq (.reg false [⟨some 8, .fad 0 (.t 2), none⟩,
    ⟨some 9, .load false [(.i .i64)] (.t 8), none⟩,
    ⟨some 10, .fad 0 (.t 3), none⟩,
    ⟨some 11, .load false [(.i .i64)] (.t 10), none⟩,
    ⟨some 12, .bin .neq (.t 9) (.t 11), none⟩,
    ⟨some 13, .mv (.t 12), none⟩,
    ⟨some 14, .fad 1 (.t 2), some (13, false)⟩,
    ⟨some 15, .load false [(.i .i64)] (.t 14), some (13, false)⟩,
    ⟨some 16, .fad 1 (.t 3), some (13, false)⟩,
    ⟨some 17, .load false [(.i .i64)] (.t 16), some (13, false)⟩,
    ⟨some 18, .bin .neq (.t 15) (.t 17), some (13, false)⟩,
    ⟨some 19, .pick (.t 13) (.c (.v (.bool true))) (.t 18), none⟩,
    ⟨some 20, .mv (.t 19), none⟩,
    ⟨some 21, .fad 2 (.t 2), some (20, false)⟩,
    ⟨some 22, .load false [(.i .i64)] (.t 21), some (20, false)⟩,
    ⟨some 23, .fad 2 (.t 3), some (20, false)⟩,
    ⟨some 24, .load false [(.i .i64)] (.t 23), some (20, false)⟩,
    ⟨some 25, .bin .neq (.t 22) (.t 24), some (20, false)⟩,
    ⟨some 26, .pick (.t 20) (.c (.v (.bool true))) (.t 25), none⟩,
    ⟨some 27, .mv (.t 26), none⟩,
    ⟨some 28, .fad 3 (.t 2), some (27, false)⟩,
    ⟨some 29, .load false [(.sl 13)] (.t 28), some (27, false)⟩,
    ⟨some 30, .len false (.t 29), some (27, false)⟩,
    ⟨some 31, .fad 3 (.t 3), some (27, false)⟩,
    ⟨some 32, .load false [(.sl 13)] (.t 31), some (27, false)⟩,
    ⟨some 33, .len false (.t 32), some (27, false)⟩,
    ⟨some 34, .bin .neq (.t 30) (.t 33), some (27, false)⟩,
    ⟨some 35, .pick (.t 27) (.c (.v (.bool true))) (.t 34), none⟩,
    ⟨some 36, .mv (.t 35), none⟩,
    ⟨some 37, .fad 4 (.t 2), some (36, false)⟩,
    ⟨some 38, .load false [(.sl 6)] (.t 37), some (36, false)⟩,
    ⟨some 39, .len false (.t 38), some (36, false)⟩,
    ⟨some 40, .fad 4 (.t 3), some (36, false)⟩,
    ⟨some 41, .load false [(.sl 6)] (.t 40), some (36, false)⟩,
    ⟨some 42, .len false (.t 41), some (36, false)⟩,
    ⟨some 43, .bin .neq (.t 39) (.t 42), some (36, false)⟩,
    ⟨some 44, .pick (.t 36) (.c (.v (.bool true))) (.t 43), none⟩,
    ⟨some 45, .mv (.t 44), none⟩,
    ⟨some 46, .fad 5 (.t 2), some (45, false)⟩,
    ⟨some 47, .load false [(.sl 5)] (.t 46), some (45, false)⟩,
    ⟨some 48, .len false (.t 47), some (45, false)⟩,
    ⟨some 49, .fad 5 (.t 3), some (45, false)⟩,
    ⟨some 50, .load false [(.sl 5)] (.t 49), some (45, false)⟩,
    ⟨some 51, .len false (.t 50), some (45, false)⟩,
    ⟨some 52, .bin .neq (.t 48) (.t 51), some (45, false)⟩,
    ⟨some 53, .pick (.t 45) (.c (.v (.bool true))) (.t 52), none⟩,
    ⟨some 54, .mv (.t 53), none⟩,
    ⟨some 55, .fad 6 (.t 2), some (54, false)⟩,
    ⟨some 56, .load false [(.sl 1)] (.t 55), some (54, false)⟩,
    ⟨some 57, .fad 6 (.t 3), some (54, false)⟩,
    ⟨some 58, .load false [(.sl 1)] (.t 57), some (54, false)⟩,
    ⟨some 59, .call (.f 88) [.rd, .rd] false [.c .b] [(.t 56), (.t 58)], some (54, false)⟩,
    ⟨some 60, .un .not (.t 59), some (54, false)⟩,
    ⟨some 61, .pick (.t 54) (.c (.v (.bool true))) (.t 60), none⟩]) (
  .cond (.t 61) (.seq (.reg false [⟨some 4, .mv (.c (.v (.bool false))), none⟩]) (
    .ret)) (.skip))) (
  .seq (.seq (.reg false [⟨some 5, .mv (.c (.v (.int .i64 0))), none⟩]) (
  .block 0 (.loop [2, 3, 5] e31x0 b31x0))) (
  .seq (.seq (.reg false [⟨some 6, .mv (.c (.v (.int .i64 0))), none⟩]) (
  .block 2 (.loop [2, 3, 6] e31x1 b31x1))) (
  .seq (.seq (.reg false [⟨some 7, .mv (.c (.v (.int .i64 0))), none⟩]) (
  .block 4 (.loop [2, 3, 7] e31x2 b31x2))) (
  .seq (.reg false [⟨some 4, .mv (.c (.v (.bool true))), none⟩]) (
  .ret)))))))⟩
theorem l31x0s (T : Table) (k n : Nat) (n18 : Int) (n19 : Int) (n20 : Int) (l21 : Rows) (l22 : Rows) (l23 : Rows) (l24 : Rows) (n25 : Int) (n26 : Int) (n27 : Int) (l28 : Rows) (l29 : Rows) (l30 : Rows) (l31 : Rows) (n32 : Int) : l31x0 T k (n + 1) [(.b [(.v (.int .i64 n18)), (.v (.int .i64 n19)), (.v (.int .i64 n20)), (.fz 13 l21), (.fz 6 l22), (.fz 5 l23), (.fz 1 l24)]), (.b [(.v (.int .i64 n25)), (.v (.int .i64 n26)), (.v (.int .i64 n27)), (.fz 13 l28), (.fz 6 l29), (.fz 5 l30), (.fz 1 l31)]), (.v (.int .i64 n32))] = (
 bif (decide (n32 < (l21.length : Int))) then (
 tst (decide (0 ≤ n32)) (
 look l21 (Int.toNat n32) fun r33 =>
 cI .i64 r33 0 fun n34 =>
 cS r33 1 fun s35 =>
 cI .i64 r33 2 fun n36 =>
 cL 3 r33 3 fun l37 =>
 cL 1 r33 4 fun l38 =>
 cL 2 r33 5 fun l39 =>
 cI .i64 r33 6 fun n40 =>
 cS r33 7 fun s41 =>
 cI .i64 r33 8 fun n42 =>
 cL 1 r33 9 fun l43 =>
 cL 5 r33 10 fun l44 =>
 cL 2 r33 11 fun l45 =>
 cB r33 12 fun b46 =>
 tst (decide (0 ≤ n32)) (
 look l28 (Int.toNat n32) fun r47 =>
 cI .i64 r47 0 fun n48 =>
 cS r47 1 fun s49 =>
 cI .i64 r47 2 fun n50 =>
 cL 3 r47 3 fun l51 =>
 cL 1 r47 4 fun l52 =>
 cL 2 r47 5 fun l53 =>
 cI .i64 r47 6 fun n54 =>
 cS r47 7 fun s55 =>
 cI .i64 r47 8 fun n56 =>
 cL 1 r47 9 fun l57 =>
 cL 5 r47 10 fun l58 =>
 cL 2 r47 11 fun l59 =>
 cB r47 12 fun b60 =>
 callT T 89 [(.g [(.v (.int .i64 n34)), (.v (.string s35)), (.v (.int .i64 n36)), (.s 3 l37), (.s 1 l38), (.s 2 l39), (.v (.int .i64 n40)), (.v (.string s41)), (.v (.int .i64 n42)), (.s 1 l43), (.s 5 l44), (.s 2 l45), (.v (.bool b46))]), (.g [(.v (.int .i64 n48)), (.v (.string s49)), (.v (.int .i64 n50)), (.s 3 l51), (.s 1 l52), (.s 2 l53), (.v (.int .i64 n54)), (.v (.string s55)), (.v (.int .i64 n56)), (.s 1 l57), (.s 5 l58), (.s 2 l59), (.v (.bool b60))])] fun o61 =>
 oD o61.res fun d62 =>
 dB d62 fun b63 =>
 bif (!b63) then (
 some (.ret, [(.v (.bool false))])) else (
 l31x0 T k n [(.b [(.v (.int .i64 n18)), (.v (.int .i64 n19)), (.v (.int .i64 n20)), (.fz 13 l21), (.fz 6 l22), (.fz 5 l23), (.fz 1 l24)]), (.b [(.v (.int .i64 n25)), (.v (.int .i64 n26)), (.v (.int .i64 n27)), (.fz 13 l28), (.fz 6 l29), (.fz 5 l30), (.fz 1 l31)]), (.v (.int .i64 (IntKind.wrap .i64 (n32 + 1))))])))) else (
 some ((.exit 0), [(.b [(.v (.int .i64 n18)), (.v (.int .i64 n19)), (.v (.int .i64 n20)), (.fz 13 l21), (.fz 6 l22), (.fz 5 l23), (.fz 1 l24)]), (.b [(.v (.int .i64 n25)), (.v (.int .i64 n26)), (.v (.int .i64 n27)), (.fz 13 l28), (.fz 6 l29), (.fz 5 l30), (.fz 1 l31)])]))) := by kernel_rfl
theorem l31x1s (T : Table) (k n : Nat) (n100 : Int) (n101 : Int) (n102 : Int) (l103 : Rows) (l104 : Rows) (l105 : Rows) (l106 : Rows) (n107 : Int) (n108 : Int) (n109 : Int) (l110 : Rows) (l111 : Rows) (l112 : Rows) (l113 : Rows) (n114 : Int) : l31x1 T k (n + 1) [(.b [(.v (.int .i64 n100)), (.v (.int .i64 n101)), (.v (.int .i64 n102)), (.fz 13 l103), (.fz 6 l104), (.fz 5 l105), (.fz 1 l106)]), (.b [(.v (.int .i64 n107)), (.v (.int .i64 n108)), (.v (.int .i64 n109)), (.fz 13 l110), (.fz 6 l111), (.fz 5 l112), (.fz 1 l113)]), (.v (.int .i64 n114))] = (
 bif (decide (n114 < (l104.length : Int))) then (
 tst (decide (0 ≤ n114)) (
 look l104 (Int.toNat n114) fun r115 =>
 cS r115 0 fun s116 =>
 cL 2 r115 1 fun l117 =>
 cL 1 r115 2 fun l118 =>
 cI .i64 r115 3 fun n119 =>
 cI .i64 r115 4 fun n120 =>
 cI .i64 r115 5 fun n121 =>
 tst (decide (0 ≤ n114)) (
 look l111 (Int.toNat n114) fun r122 =>
 cS r122 0 fun s123 =>
 cL 2 r122 1 fun l124 =>
 cL 1 r122 2 fun l125 =>
 cI .i64 r122 3 fun n126 =>
 cI .i64 r122 4 fun n127 =>
 cI .i64 r122 5 fun n128 =>
 callT T 90 [(.g [(.v (.string s116)), (.s 2 l117), (.s 1 l118), (.v (.int .i64 n119)), (.v (.int .i64 n120)), (.v (.int .i64 n121))]), (.g [(.v (.string s123)), (.s 2 l124), (.s 1 l125), (.v (.int .i64 n126)), (.v (.int .i64 n127)), (.v (.int .i64 n128))])] fun o129 =>
 oD o129.res fun d130 =>
 dB d130 fun b131 =>
 bif (!b131) then (
 some (.ret, [(.v (.bool false))])) else (
 l31x1 T k n [(.b [(.v (.int .i64 n100)), (.v (.int .i64 n101)), (.v (.int .i64 n102)), (.fz 13 l103), (.fz 6 l104), (.fz 5 l105), (.fz 1 l106)]), (.b [(.v (.int .i64 n107)), (.v (.int .i64 n108)), (.v (.int .i64 n109)), (.fz 13 l110), (.fz 6 l111), (.fz 5 l112), (.fz 1 l113)]), (.v (.int .i64 (IntKind.wrap .i64 (n114 + 1))))])))) else (
 some ((.exit 2), [(.b [(.v (.int .i64 n100)), (.v (.int .i64 n101)), (.v (.int .i64 n102)), (.fz 13 l103), (.fz 6 l104), (.fz 5 l105), (.fz 1 l106)]), (.b [(.v (.int .i64 n107)), (.v (.int .i64 n108)), (.v (.int .i64 n109)), (.fz 13 l110), (.fz 6 l111), (.fz 5 l112), (.fz 1 l113)])]))) := by kernel_rfl
theorem l31x2s (T : Table) (k n : Nat) (n168 : Int) (n169 : Int) (n170 : Int) (l171 : Rows) (l172 : Rows) (l173 : Rows) (l174 : Rows) (n175 : Int) (n176 : Int) (n177 : Int) (l178 : Rows) (l179 : Rows) (l180 : Rows) (l181 : Rows) (n182 : Int) : l31x2 T k (n + 1) [(.b [(.v (.int .i64 n168)), (.v (.int .i64 n169)), (.v (.int .i64 n170)), (.fz 13 l171), (.fz 6 l172), (.fz 5 l173), (.fz 1 l174)]), (.b [(.v (.int .i64 n175)), (.v (.int .i64 n176)), (.v (.int .i64 n177)), (.fz 13 l178), (.fz 6 l179), (.fz 5 l180), (.fz 1 l181)]), (.v (.int .i64 n182))] = (
 bif (decide (n182 < (l173.length : Int))) then (
 tst (decide (0 ≤ n182)) (
 look l173 (Int.toNat n182) fun r183 =>
 cI .i64 r183 0 fun n184 =>
 cS r183 1 fun s185 =>
 cI .i64 r183 2 fun n186 =>
 cI .i64 r183 3 fun n187 =>
 cI .i64 r183 4 fun n188 =>
 tst (decide (0 ≤ n182)) (
 look l180 (Int.toNat n182) fun r189 =>
 cI .i64 r189 0 fun n190 =>
 cS r189 1 fun s191 =>
 cI .i64 r189 2 fun n192 =>
 cI .i64 r189 3 fun n193 =>
 cI .i64 r189 4 fun n194 =>
 bif (!(n184 == n190 && (bytesEq s185 s191 && (n186 == n192 && (n187 == n193 && (n188 == n194 && true)))))) then (
 some (.ret, [(.v (.bool false))])) else (
 l31x2 T k n [(.b [(.v (.int .i64 n168)), (.v (.int .i64 n169)), (.v (.int .i64 n170)), (.fz 13 l171), (.fz 6 l172), (.fz 5 l173), (.fz 1 l174)]), (.b [(.v (.int .i64 n175)), (.v (.int .i64 n176)), (.v (.int .i64 n177)), (.fz 13 l178), (.fz 6 l179), (.fz 5 l180), (.fz 1 l181)]), (.v (.int .i64 (IntKind.wrap .i64 (n182 + 1))))])))) else (
 some ((.exit 4), []))) := by kernel_rfl
theorem a31q (T : Table) (k : Nat) (n1 : Int) (n2 : Int) (n3 : Int) (l4 : Rows) (l5 : Rows) (l6 : Rows) (l7 : Rows) (n8 : Int) (n9 : Int) (n10 : Int) (l11 : Rows) (l12 : Rows) (l13 : Rows) (l14 : Rows) : evalF T k a31 [(.g [(.v (.int .i64 n1)), (.v (.int .i64 n2)), (.v (.int .i64 n3)), (.s 13 l4), (.s 6 l5), (.s 5 l6), (.s 1 l7)]), (.g [(.v (.int .i64 n8)), (.v (.int .i64 n9)), (.v (.int .i64 n10)), (.s 13 l11), (.s 6 l12), (.s 5 l13), (.s 1 l14)])] = (
 bif (n1 != n8) == false then (
 bif (n2 != n9) == false then (
 bif (n3 != n10) == false then (
 bif ((l4.length : Int) != (l11.length : Int)) == false then (
 bif ((l5.length : Int) != (l12.length : Int)) == false then (
 bif ((l6.length : Int) != (l13.length : Int)) == false then (
 callT T 88 [(.d (.s 1 l7)), (.d (.s 1 l14))] fun o15 =>
 oD o15.res fun d16 =>
 dB d16 fun b17 =>
 bif (!b17) then (
 some ⟨(.d (.v (.bool false))), []⟩) else (
 aft (l31x0 T k k [(.b [(.v (.int .i64 n1)), (.v (.int .i64 n2)), (.v (.int .i64 n3)), (.fz 13 l4), (.fz 6 l5), (.fz 5 l6), (.fz 1 l7)]), (.b [(.v (.int .i64 n8)), (.v (.int .i64 n9)), (.v (.int .i64 n10)), (.fz 13 l11), (.fz 6 l12), (.fz 5 l13), (.fz 1 l14)]), (.v (.int .i64 0))]) fun e64 ys65 =>
 bif e64.same .ret then (
 aV ys65 0 fun x66 =>
 aB x66 fun b67 =>
 some ⟨(.d (.v (.bool b67))), []⟩) else (
 bif e64.same (.exit 0) then (
 aV ys65 0 fun x68 =>
 aX x68 fun xs69 =>
 aV xs69 0 fun x70 =>
 aI .i64 x70 fun n71 =>
 aV xs69 1 fun x72 =>
 aI .i64 x72 fun n73 =>
 aV xs69 2 fun x74 =>
 aI .i64 x74 fun n75 =>
 aV xs69 3 fun x76 =>
 aL 13 x76 fun l77 =>
 aV xs69 4 fun x78 =>
 aL 6 x78 fun l79 =>
 aV xs69 5 fun x80 =>
 aL 5 x80 fun l81 =>
 aV xs69 6 fun x82 =>
 aL 1 x82 fun l83 =>
 aV ys65 1 fun x84 =>
 aX x84 fun xs85 =>
 aV xs85 0 fun x86 =>
 aI .i64 x86 fun n87 =>
 aV xs85 1 fun x88 =>
 aI .i64 x88 fun n89 =>
 aV xs85 2 fun x90 =>
 aI .i64 x90 fun n91 =>
 aV xs85 3 fun x92 =>
 aL 13 x92 fun l93 =>
 aV xs85 4 fun x94 =>
 aL 6 x94 fun l95 =>
 aV xs85 5 fun x96 =>
 aL 5 x96 fun l97 =>
 aV xs85 6 fun x98 =>
 aL 1 x98 fun l99 =>
 aft (l31x1 T k k [(.b [(.v (.int .i64 n71)), (.v (.int .i64 n73)), (.v (.int .i64 n75)), (.fz 13 l77), (.fz 6 l79), (.fz 5 l81), (.fz 1 l83)]), (.b [(.v (.int .i64 n87)), (.v (.int .i64 n89)), (.v (.int .i64 n91)), (.fz 13 l93), (.fz 6 l95), (.fz 5 l97), (.fz 1 l99)]), (.v (.int .i64 0))]) fun e132 ys133 =>
 bif e132.same .ret then (
 aV ys133 0 fun x134 =>
 aB x134 fun b135 =>
 some ⟨(.d (.v (.bool b135))), []⟩) else (
 bif e132.same (.exit 2) then (
 aV ys133 0 fun x136 =>
 aX x136 fun xs137 =>
 aV xs137 0 fun x138 =>
 aI .i64 x138 fun n139 =>
 aV xs137 1 fun x140 =>
 aI .i64 x140 fun n141 =>
 aV xs137 2 fun x142 =>
 aI .i64 x142 fun n143 =>
 aV xs137 3 fun x144 =>
 aL 13 x144 fun l145 =>
 aV xs137 4 fun x146 =>
 aL 6 x146 fun l147 =>
 aV xs137 5 fun x148 =>
 aL 5 x148 fun l149 =>
 aV xs137 6 fun x150 =>
 aL 1 x150 fun l151 =>
 aV ys133 1 fun x152 =>
 aX x152 fun xs153 =>
 aV xs153 0 fun x154 =>
 aI .i64 x154 fun n155 =>
 aV xs153 1 fun x156 =>
 aI .i64 x156 fun n157 =>
 aV xs153 2 fun x158 =>
 aI .i64 x158 fun n159 =>
 aV xs153 3 fun x160 =>
 aL 13 x160 fun l161 =>
 aV xs153 4 fun x162 =>
 aL 6 x162 fun l163 =>
 aV xs153 5 fun x164 =>
 aL 5 x164 fun l165 =>
 aV xs153 6 fun x166 =>
 aL 1 x166 fun l167 =>
 aft (l31x2 T k k [(.b [(.v (.int .i64 n139)), (.v (.int .i64 n141)), (.v (.int .i64 n143)), (.fz 13 l145), (.fz 6 l147), (.fz 5 l149), (.fz 1 l151)]), (.b [(.v (.int .i64 n155)), (.v (.int .i64 n157)), (.v (.int .i64 n159)), (.fz 13 l161), (.fz 6 l163), (.fz 5 l165), (.fz 1 l167)]), (.v (.int .i64 0))]) fun e195 ys196 =>
 bif e195.same .ret then (
 aV ys196 0 fun x197 =>
 aB x197 fun b198 =>
 some ⟨(.d (.v (.bool b198))), []⟩) else (
 bif e195.same (.exit 4) then (
 some ⟨(.d (.v (.bool true))), []⟩) else (
 none))) else (
 none))) else (
 none)))) else (
 some ⟨(.d (.v (.bool false))), []⟩)) else (
 some ⟨(.d (.v (.bool false))), []⟩)) else (
 some ⟨(.d (.v (.bool false))), []⟩)) else (
 some ⟨(.d (.v (.bool false))), []⟩)) else (
 some ⟨(.d (.v (.bool false))), []⟩)) else (
 some ⟨(.d (.v (.bool false))), []⟩)) := by kernel_rfl
/- slices.EqualFunc[[]loop.example/g00119/impl.Job,[]loop.example/g00119/impl.Job,loop.example/g00119/impl.Job,loop.example/g00119/impl.Job] -/
def b91x0 : ACode := (
  .seq (.reg false [⟨some 18, .bin .lss (.t 17) (.t 16), none⟩]) (
  .seq (.cond (.t 18) (.skip) (.exit 0)) (
  .seq (.block 1 (.seq (.reg false [⟨some 19, .mv (.t 17), none⟩,
      ⟨some 20, .iad 13 (.t 15) (.t 17), none⟩,
      ⟨some 21, .load true [(.i .i64), .s, (.i .i64), (.sl 3), (.sl 1), (.sl 2), (.i .i64), .s, (.i .i64), (.sl 1), (.sl 5), (.sl 2), .b] (.t 20), none⟩,
      ⟨some 8, .alloc [(.v (.int .i64 0)), (.v (.string ByteArray.empty)), (.v (.int .i64 0)), (.s 3 []), (.s 1 []), (.s 2 []), (.v (.int .i64 0)), (.v (.string ByteArray.empty)), (.v (.int .i64 0)), (.s 1 []), (.s 5 []), (.s 2 []), (.v (.bool false))], none⟩,
      ⟨some 7, .mv (.t 19), none⟩,
      ⟨none, .store 13 (.t 8) (.t 21), none⟩]) (
    .seq (.reg false [⟨some 22, .mv (.t 1), none⟩,
      ⟨some 23, .mv (.t 7), none⟩,
      ⟨some 24, .iad 13 (.t 22) (.t 23), none⟩,
      ⟨some 25, .load true [(.i .i64), .s, (.i .i64), (.sl 3), (.sl 1), (.sl 2), (.i .i64), .s, (.i .i64), (.sl 1), (.sl 5), (.sl 2), .b] (.t 24), none⟩,
      ⟨some 9, .alloc [(.v (.int .i64 0)), (.v (.string ByteArray.empty)), (.v (.int .i64 0)), (.s 3 []), (.s 1 []), (.s 2 []), (.v (.int .i64 0)), (.v (.string ByteArray.empty)), (.v (.int .i64 0)), (.s 1 []), (.s 5 []), (.s 2 []), (.v (.bool false))], none⟩,
      ⟨none, .store 13 (.t 9) (.t 25), none⟩]) (
    .seq (.reg false [⟨some 26, .mv (.t 2), none⟩,
      ⟨some 27, .load true [(.i .i64), .s, (.i .i64), (.sl 3), (.sl 1), (.sl 2), (.i .i64), .s, (.i .i64), (.sl 1), (.sl 5), (.sl 2), .b] (.t 8), none⟩,
      ⟨some 28, .load true [(.i .i64), .s, (.i .i64), (.sl 3), (.sl 1), (.sl 2), (.i .i64), .s, (.i .i64), (.sl 1), (.sl 5), (.sl 2), .b] (.t 9), none⟩,
      ⟨some 29, .call (.t 26) [.rd, .rd] false [.c .b] [(.t 27), (.t 28)], none⟩,
      ⟨some 30, .un .not (.t 29), none⟩]) (
    .cond (.t 30) (.seq (.reg false [⟨some 6, .mv (.c (.v (.bool false))), none⟩]) (
      .ret)) (.skip)))))) (
  .reg false [⟨some 31, .bin .add (.t 17) (.c (.v (.int .i64 1))), none⟩,
    ⟨some 17, .mv (.t 31), none⟩]))))
def e91x0 : Exits := [(.ret, [(6, .c .b)]), ((.exit 0), [])]
def l91x0 (T : Table) (k : Nat) := loopN (evalC ⟨T, []⟩ k b91x0 (Ex × List AV)) [1, 2, 15, 16, 17] e91x0
def a91 : AFun := ⟨[.rd, .rd, .rd], false, [.t 6], (
  .seq (.reg false [⟨some 6, .mv (.c (.v (.bool false))), none⟩]) (
  .seq (.seq (.reg false [⟨some 10, .mv (.t 0), none⟩,
    ⟨some 11, .len false (.t 10), none⟩,
    ⟨some 12, .mv (.t 1), none⟩,
    ⟨some 13, .len false (.t 12), none⟩,
    ⟨some 14, .bin .neq (.t 11) (.t 13), none⟩]) (
  .cond (.t 14) (.seq (.reg false [⟨some 6, .mv (.c (.v (.bool false))), none⟩]) (
    .ret)) (.skip))) (
  .seq (.seq (.reg false [⟨some 15, .mv (.t 0), none⟩,
    ⟨some 16, .len false (.t 15), none⟩,
    ⟨some 17, .mv (.c (.v (.int .i64 0))), none⟩]) (
  .block 0 (.loop [1, 2, 15, 16, 17] e91x0 b91x0))) (
  .seq (.reg false [⟨some 6, .mv (.c (.v (.bool true))), none⟩]) (
  .ret)))))⟩
theorem l91x0s (T : Table) (k n : Nat) (l5 : Rows) (f6 : Nat) (cs7 : List I) (l8 : Rows) (n9 : Int) (n10 : Int) : l91x0 T k (n + 1) [(.fz 13 l5), (.ff f6 cs7), (.fz 13 l8), (.v (.int .i64 n9)), (.v (.int .i64 n10))] = (
 bif (decide (n10 < n9)) then (
 tst (decide (0 ≤ n10)) (
 look l8 (Int.toNat n10) fun r11 =>
 cI .i64 r11 0 fun n12 =>
 cS r11 1 fun s13 =>
 cI .i64 r11 2 fun n14 =>
 cL 3 r11 3 fun l15 =>
 cL 1 r11 4 fun l16 =>
 cL 2 r11 5 fun l17 =>
 cI .i64 r11 6 fun n18 =>
 cS r11 7 fun s19 =>
 cI .i64 r11 8 fun n20 =>
 cL 1 r11 9 fun l21 =>
 cL 5 r11 10 fun l22 =>
 cL 2 r11 11 fun l23 =>
 cB r11 12 fun b24 =>
 tst (decide (0 ≤ n10)) (
 look l5 (Int.toNat n10) fun r25 =>
 cI .i64 r25 0 fun n26 =>
 cS r25 1 fun s27 =>
 cI .i64 r25 2 fun n28 =>
 cL 3 r25 3 fun l29 =>
 cL 1 r25 4 fun l30 =>
 cL 2 r25 5 fun l31 =>
 cI .i64 r25 6 fun n32 =>
 cS r25 7 fun s33 =>
 cI .i64 r25 8 fun n34 =>
 cL 1 r25 9 fun l35 =>
 cL 5 r25 10 fun l36 =>
 cL 2 r25 11 fun l37 =>
 cB r25 12 fun b38 =>
 callT T f6 ([(.g [(.v (.int .i64 n12)), (.v (.string s13)), (.v (.int .i64 n14)), (.s 3 l15), (.s 1 l16), (.s 2 l17), (.v (.int .i64 n18)), (.v (.string s19)), (.v (.int .i64 n20)), (.s 1 l21), (.s 5 l22), (.s 2 l23), (.v (.bool b24))]), (.g [(.v (.int .i64 n26)), (.v (.string s27)), (.v (.int .i64 n28)), (.s 3 l29), (.s 1 l30), (.s 2 l31), (.v (.int .i64 n32)), (.v (.string s33)), (.v (.int .i64 n34)), (.s 1 l35), (.s 5 l36), (.s 2 l37), (.v (.bool b38))])] ++ cs7) fun o39 =>
 oD o39.res fun d40 =>
 dB d40 fun b41 =>
 bif (!b41) then (
 some (.ret, [(.v (.bool false))])) else (
 l91x0 T k n [(.fz 13 l5), (.ff f6 cs7), (.fz 13 l8), (.v (.int .i64 n9)), (.v (.int .i64 (IntKind.wrap .i64 (n10 + 1))))])))) else (
 some ((.exit 0), []))) := by kernel_rfl
theorem a91q (T : Table) (k : Nat) (l1 : Rows) (l2 : Rows) (f3 : Nat) (cs4 : List I) : evalF T k a91 [(.d (.s 13 l1)), (.d (.s 13 l2)), (.f f3 cs4)] = (
 bif ((l1.length : Int) != (l2.length : Int)) then (
 some ⟨(.d (.v (.bool false))), []⟩) else (
 aft (l91x0 T k k [(.fz 13 l2), (.ff f3 cs4), (.fz 13 l1), (.v (.int .i64 (l1.length : Int))), (.v (.int .i64 0))]) fun e42 ys43 =>
 bif e42.same .ret then (
 aV ys43 0 fun x44 =>
 aB x44 fun b45 =>
 some ⟨(.d (.v (.bool b45))), []⟩) else (
 bif e42.same (.exit 0) then (
 some ⟨(.d (.v (.bool true))), []⟩) else (
 none)))) := by kernel_rfl
/- slices.Equal[[]string,string] -/
def b96x0 : ACode := (
  .seq (.reg false [⟨some 14, .bin .lss (.t 13) (.t 12), none⟩]) (
  .seq (.cond (.t 14) (.skip) (.exit 0)) (
  .seq (.block 1 (.seq (.reg false [⟨some 15, .mv (.t 13), none⟩,
      ⟨some 5, .mv (.t 15), none⟩]) (
    .seq (.dreg [] [(0, ⟨some 16, .mv (.t 0), none⟩),
      (0, ⟨some 17, .mv (.t 5), none⟩),
      (0, ⟨some 18, .iad 1 (.t 16) (.t 17), none⟩),
      (0, ⟨some 19, .load false [.s] (.t 18), none⟩),
      (0, ⟨some 20, .mv (.t 1), none⟩),
      (0, ⟨some 21, .mv (.t 5), none⟩),
      (0, ⟨some 22, .iad 1 (.t 20) (.t 21), none⟩),
      (0, ⟨some 23, .load false [.s] (.t 22), none⟩)] [⟨some 24, .bin .neq (.t 19) (.t 23), none⟩]) (
    .cond (.t 24) (.seq (.reg false [⟨some 4, .mv (.c (.v (.bool false))), none⟩]) (
      .ret)) (.skip))))) (
  .reg false [⟨some 25, .bin .add (.t 13) (.c (.v (.int .i64 1))), none⟩,
    ⟨some 13, .mv (.t 25), none⟩]))))
def e96x0 : Exits := [(.ret, [(4, .c .b)]), ((.exit 0), [])]
def l96x0 (T : Table) (k : Nat) := loopN (evalC ⟨T, []⟩ k b96x0 (Ex × List AV)) [0, 1, 12, 13] e96x0
def a96 : AFun := ⟨[.rd, .rd], false, [.t 4], (
  .seq (.reg false [⟨some 4, .mv (.c (.v (.bool false))), none⟩]) (
  .seq (.seq (.reg false [⟨some 6, .mv (.t 0), none⟩,
    ⟨some 7, .len false (.t 6), none⟩,
    ⟨some 8, .mv (.t 1), none⟩,
    ⟨some 9, .len false (.t 8), none⟩,
    ⟨some 10, .bin .neq (.t 7) (.t 9), none⟩]) (
  .cond (.t 10) (.seq (.reg false [⟨some 4, .mv (.c (.v (.bool false))), none⟩]) (
    .ret)) (.skip))) (
  .seq (.seq (.reg false [⟨some 11, .mv (.t 0), none⟩,
    ⟨some 12, .len false (.t 11), none⟩,
    ⟨some 13, .mv (.c (.v (.int .i64 0))), none⟩]) (
  .block 0 (.loop [0, 1, 12, 13] e96x0 b96x0))) (
  .seq (.reg false [⟨some 4, .mv (.c (.v (.bool true))), none⟩]) (
  .ret)))))⟩
theorem l96x0s (T : Table) (k n : Nat) (l3 : Rows) (l4 : Rows) (n5 : Int) (n6 : Int) : l96x0 T k (n + 1) [(.fz 1 l3), (.fz 1 l4), (.v (.int .i64 n5)), (.v (.int .i64 n6))] = (
 bif (decide (n6 < n5)) then (
 tst (decide (0 ≤ n6)) (
 look l3 (Int.toNat n6) fun r7 =>
 cS r7 0 fun s8 =>
 tst (decide (0 ≤ n6)) (
 look l4 (Int.toNat n6) fun r9 =>
 cS r9 0 fun s10 =>
 bif (!(bytesEq s8 s10)) then (
 some (.ret, [(.v (.bool false))])) else (
 l96x0 T k n [(.fz 1 l3), (.fz 1 l4), (.v (.int .i64 n5)), (.v (.int .i64 (IntKind.wrap .i64 (n6 + 1))))])))) else (
 some ((.exit 0), []))) := by kernel_rfl
theorem a96q (T : Table) (k : Nat) (l1 : Rows) (l2 : Rows) : evalF T k a96 [(.d (.s 1 l1)), (.d (.s 1 l2))] = (
 bif ((l1.length : Int) != (l2.length : Int)) then (
 some ⟨(.d (.v (.bool false))), []⟩) else (
 aft (l96x0 T k k [(.fz 1 l1), (.fz 1 l2), (.v (.int .i64 (l1.length : Int))), (.v (.int .i64 0))]) fun e11 ys12 =>
 bif e11.same .ret then (
 aV ys12 0 fun x13 =>
 aB x13 fun b14 =>
 some ⟨(.d (.v (.bool b14))), []⟩) else (
 bif e11.same (.exit 0) then (
 some ⟨(.d (.v (.bool true))), []⟩) else (
 none)))) := by kernel_rfl
/- slices.EqualFunc[[]loop.example/g00119/impl.Term,[]loop.example/g00119/impl.Term,loop.example/g00119/impl.Term,loop.example/g00119/impl.Term] -/
def b194x0 : ACode := (
  .seq (.reg false [⟨some 18, .bin .lss (.t 17) (.t 16), none⟩]) (
  .seq (.cond (.t 18) (.skip) (.exit 0)) (
  .seq (.block 1 (.seq (.reg false [⟨some 19, .mv (.t 17), none⟩,
      ⟨some 20, .iad 3 (.t 15) (.t 17), none⟩,
      ⟨some 21, .load true [(.i .i64), .s, (.sl 1)] (.t 20), none⟩,
      ⟨some 8, .alloc [(.v (.int .i64 0)), (.v (.string ByteArray.empty)), (.s 1 [])], none⟩,
      ⟨some 7, .mv (.t 19), none⟩,
      ⟨none, .store 3 (.t 8) (.t 21), none⟩]) (
    .seq (.reg false [⟨some 22, .mv (.t 1), none⟩,
      ⟨some 23, .mv (.t 7), none⟩,
      ⟨some 24, .iad 3 (.t 22) (.t 23), none⟩,
      ⟨some 25, .load true [(.i .i64), .s, (.sl 1)] (.t 24), none⟩,
      ⟨some 9, .alloc [(.v (.int .i64 0)), (.v (.string ByteArray.empty)), (.s 1 [])], none⟩,
      ⟨none, .store 3 (.t 9) (.t 25), none⟩]) (
    .seq (.reg false [⟨some 26, .mv (.t 2), none⟩,
      ⟨some 27, .load true [(.i .i64), .s, (.sl 1)] (.t 8), none⟩,
      ⟨some 28, .load true [(.i .i64), .s, (.sl 1)] (.t 9), none⟩,
      ⟨some 29, .call (.t 26) [.rd, .rd] false [.c .b] [(.t 27), (.t 28)], none⟩,
      ⟨some 30, .un .not (.t 29), none⟩]) (
    .cond (.t 30) (.seq (.reg false [⟨some 6, .mv (.c (.v (.bool false))), none⟩]) (
      .ret)) (.skip)))))) (
  .reg false [⟨some 31, .bin .add (.t 17) (.c (.v (.int .i64 1))), none⟩,
    ⟨some 17, .mv (.t 31), none⟩]))))
def e194x0 : Exits := [(.ret, [(6, .c .b)]), ((.exit 0), [])]
def l194x0 (T : Table) (k : Nat) := loopN (evalC ⟨T, []⟩ k b194x0 (Ex × List AV)) [1, 2, 15, 16, 17] e194x0
def a194 : AFun := ⟨[.rd, .rd, .rd], false, [.t 6], (
  .seq (.reg false [⟨some 6, .mv (.c (.v (.bool false))), none⟩]) (
  .seq (.seq (.reg false [⟨some 10, .mv (.t 0), none⟩,
    ⟨some 11, .len false (.t 10), none⟩,
    ⟨some 12, .mv (.t 1), none⟩,
    ⟨some 13, .len false (.t 12), none⟩,
    ⟨some 14, .bin .neq (.t 11) (.t 13), none⟩]) (
  .cond (.t 14) (.seq (.reg false [⟨some 6, .mv (.c (.v (.bool false))), none⟩]) (
    .ret)) (.skip))) (
  .seq (.seq (.reg false [⟨some 15, .mv (.t 0), none⟩,
    ⟨some 16, .len false (.t 15), none⟩,
    ⟨some 17, .mv (.c (.v (.int .i64 0))), none⟩]) (
  .block 0 (.loop [1, 2, 15, 16, 17] e194x0 b194x0))) (
  .seq (.reg false [⟨some 6, .mv (.c (.v (.bool true))), none⟩]) (
  .ret)))))⟩
theorem l194x0s (T : Table) (k n : Nat) (l5 : Rows) (f6 : Nat) (cs7 : List I) (l8 : Rows) (n9 : Int) (n10 : Int) : l194x0 T k (n + 1) [(.fz 3 l5), (.ff f6 cs7), (.fz 3 l8), (.v (.int .i64 n9)), (.v (.int .i64 n10))] = (
 bif (decide (n10 < n9)) then (
 tst (decide (0 ≤ n10)) (
 look l8 (Int.toNat n10) fun r11 =>
 cI .i64 r11 0 fun n12 =>
 cS r11 1 fun s13 =>
 cL 1 r11 2 fun l14 =>
 tst (decide (0 ≤ n10)) (
 look l5 (Int.toNat n10) fun r15 =>
 cI .i64 r15 0 fun n16 =>
 cS r15 1 fun s17 =>
 cL 1 r15 2 fun l18 =>
 callT T f6 ([(.g [(.v (.int .i64 n12)), (.v (.string s13)), (.s 1 l14)]), (.g [(.v (.int .i64 n16)), (.v (.string s17)), (.s 1 l18)])] ++ cs7) fun o19 =>
 oD o19.res fun d20 =>
 dB d20 fun b21 =>
 bif (!b21) then (
 some (.ret, [(.v (.bool false))])) else (
 l194x0 T k n [(.fz 3 l5), (.ff f6 cs7), (.fz 3 l8), (.v (.int .i64 n9)), (.v (.int .i64 (IntKind.wrap .i64 (n10 + 1))))])))) else (
 some ((.exit 0), []))) := by kernel_rfl
theorem a194q (T : Table) (k : Nat) (l1 : Rows) (l2 : Rows) (f3 : Nat) (cs4 : List I) : evalF T k a194 [(.d (.s 3 l1)), (.d (.s 3 l2)), (.f f3 cs4)] = (
 bif ((l1.length : Int) != (l2.length : Int)) then (
 some ⟨(.d (.v (.bool false))), []⟩) else (
 aft (l194x0 T k k [(.fz 3 l2), (.ff f3 cs4), (.fz 3 l1), (.v (.int .i64 (l1.length : Int))), (.v (.int .i64 0))]) fun e22 ys23 =>
 bif e22.same .ret then (
 aV ys23 0 fun x24 =>
 aB x24 fun b25 =>
 some ⟨(.d (.v (.bool b25))), []⟩) else (
 bif e22.same (.exit 0) then (
 some ⟨(.d (.v (.bool true))), []⟩) else (
 none)))) := by kernel_rfl
/- loop.example/g00119/impl.sameWant$1 -/

def a195 : AFun := ⟨[.rd, .rd], false, [.t 4], (
  .seq (.reg false [⟨some 2, .box (.t 0), none⟩,
    ⟨some 3, .box (.t 1), none⟩,
    ⟨some 4, .mv (.c (.v (.bool false))), none⟩]) (
  .seq (.reg false [⟨some 5, .fad 0 (.t 2), none⟩,
    ⟨some 6, .load false [(.i .i64)] (.t 5), none⟩,
    ⟨some 7, .fad 0 (.t 3), none⟩,
    ⟨some 8, .load false [(.i .i64)] (.t 7), none⟩,
    ⟨some 9, .bin .eql (.t 6) (.t 8), none⟩,
    ⟨some 10, .mv (.t 9), none⟩,
    ⟨some 11, .fad 1 (.t 2), some (10, true)⟩,
    ⟨some 12, .load false [.s] (.t 11), some (10, true)⟩,
    ⟨some 13, .fad 1 (.t 3), some (10, true)⟩,
    ⟨some 14, .load false [.s] (.t 13), some (10, true)⟩,
    ⟨some 15, .bin .eql (.t 12) (.t 14), some (10, true)⟩,
    ⟨some 16, .pick (.t 10) (.t 15) (.c (.v (.bool false))), none⟩,
    ⟨some 17, .mv (.t 16), none⟩,
    ⟨some 18, .fad 2 (.t 2), some (17, true)⟩,
    ⟨some 19, .load false [(.sl 1)] (.t 18), some (17, true)⟩,
    ⟨some 20, .fad 2 (.t 3), some (17, true)⟩,
    ⟨some 21, .load false [(.sl 1)] (.t 20), some (17, true)⟩,
    ⟨some 22, .call (.f 96) [.rd, .rd] false [.c .b] [(.t 19), (.t 21)], some (17, true)⟩,
    ⟨some 23, .pick (.t 17) (.t 22) (.c (.v (.bool false))), none⟩,
    ⟨some 4, .mv (.t 23), none⟩]) (
  .ret)))⟩

theorem a195q (T : Table) (k : Nat) (n1 : Int) (s2 : ByteArray) (l3 : Rows) (n4 : Int) (s5 : ByteArray) (l6 : Rows) : evalF T k a195 [(.g [(.v (.int .i64 n1)), (.v (.string s2)), (.s 1 l3)]), (.g [(.v (.int .i64 n4)), (.v (.string s5)), (.s 1 l6)])] = (
 bif (n1 == n4) == true then (
 bif (bytesEq s2 s5) == true then (
 callT T 96 [(.d (.s 1 l3)), (.d (.s 1 l6))] fun o7 =>
 oD o7.res fun d8 =>
 dB d8 fun b9 =>
 some ⟨(.d (.v (.bool b9))), []⟩) else (
 some ⟨(.d (.v (.bool false))), []⟩)) else (
 some ⟨(.d (.v (.bool false))), []⟩)) := by kernel_rfl
/- slices.Equal[[]loop.example/g00119/impl.Weigh,loop.example/g00119/impl.Weigh] -/
def b196x0 : ACode := (
  .seq (.reg false [⟨some 14, .bin .lss (.t 13) (.t 12), none⟩]) (
  .seq (.cond (.t 14) (.skip) (.exit 0)) (
  .seq (.block 1 (.seq (.reg false [⟨some 15, .mv (.t 13), none⟩,
      ⟨some 5, .mv (.t 15), none⟩]) (
    .seq (.dreg [] [(0, ⟨some 16, .mv (.t 0), none⟩),
      (0, ⟨some 17, .mv (.t 5), none⟩),
      (0, ⟨some 18, .iad 2 (.t 16) (.t 17), none⟩),
      (0, ⟨some 19, .load true [.s, (.i .i64)] (.t 18), none⟩),
      (0, ⟨some 20, .mv (.t 1), none⟩),
      (0, ⟨some 21, .mv (.t 5), none⟩),
      (0, ⟨some 22, .iad 2 (.t 20) (.t 21), none⟩),
      (0, ⟨some 23, .load true [.s, (.i .i64)] (.t 22), none⟩)] [⟨some 24, .geq true [.s, (.i .i64)] (.t 19) (.t 23), none⟩]) (
    .cond (.t 24) (.seq (.reg false [⟨some 4, .mv (.c (.v (.bool false))), none⟩]) (
      .ret)) (.skip))))) (
  .reg false [⟨some 25, .bin .add (.t 13) (.c (.v (.int .i64 1))), none⟩,
    ⟨some 13, .mv (.t 25), none⟩]))))
def e196x0 : Exits := [(.ret, [(4, .c .b)]), ((.exit 0), [])]
def l196x0 (T : Table) (k : Nat) := loopN (evalC ⟨T, []⟩ k b196x0 (Ex × List AV)) [0, 1, 12, 13] e196x0
def a196 : AFun := ⟨[.rd, .rd], false, [.t 4], (
  .seq (.reg false [⟨some 4, .mv (.c (.v (.bool false))), none⟩]) (
  .seq (.seq (.reg false [⟨some 6, .mv (.t 0), none⟩,
    ⟨some 7, .len false (.t 6), none⟩,
    ⟨some 8, .mv (.t 1), none⟩,
    ⟨some 9, .len false (.t 8), none⟩,
    ⟨some 10, .bin .neq (.t 7) (.t 9), none⟩]) (
  .cond (.t 10) (.seq (.reg false [⟨some 4, .mv (.c (.v (.bool false))), none⟩]) (
    .ret)) (.skip))) (
  .seq (.seq (.reg false [⟨some 11, .mv (.t 0), none⟩,
    ⟨some 12, .len false (.t 11), none⟩,
    ⟨some 13, .mv (.c (.v (.int .i64 0))), none⟩]) (
  .block 0 (.loop [0, 1, 12, 13] e196x0 b196x0))) (
  .seq (.reg false [⟨some 4, .mv (.c (.v (.bool true))), none⟩]) (
  .ret)))))⟩
theorem l196x0s (T : Table) (k n : Nat) (l3 : Rows) (l4 : Rows) (n5 : Int) (n6 : Int) : l196x0 T k (n + 1) [(.fz 2 l3), (.fz 2 l4), (.v (.int .i64 n5)), (.v (.int .i64 n6))] = (
 bif (decide (n6 < n5)) then (
 tst (decide (0 ≤ n6)) (
 look l3 (Int.toNat n6) fun r7 =>
 cS r7 0 fun s8 =>
 cI .i64 r7 1 fun n9 =>
 tst (decide (0 ≤ n6)) (
 look l4 (Int.toNat n6) fun r10 =>
 cS r10 0 fun s11 =>
 cI .i64 r10 1 fun n12 =>
 bif (!(bytesEq s8 s11 && (n9 == n12 && true))) then (
 some (.ret, [(.v (.bool false))])) else (
 l196x0 T k n [(.fz 2 l3), (.fz 2 l4), (.v (.int .i64 n5)), (.v (.int .i64 (IntKind.wrap .i64 (n6 + 1))))])))) else (
 some ((.exit 0), []))) := by kernel_rfl
theorem a196q (T : Table) (k : Nat) (l1 : Rows) (l2 : Rows) : evalF T k a196 [(.d (.s 2 l1)), (.d (.s 2 l2))] = (
 bif ((l1.length : Int) != (l2.length : Int)) then (
 some ⟨(.d (.v (.bool false))), []⟩) else (
 aft (l196x0 T k k [(.fz 2 l1), (.fz 2 l2), (.v (.int .i64 (l1.length : Int))), (.v (.int .i64 0))]) fun e13 ys14 =>
 bif e13.same .ret then (
 aV ys14 0 fun x15 =>
 aB x15 fun b16 =>
 some ⟨(.d (.v (.bool b16))), []⟩) else (
 bif e13.same (.exit 0) then (
 some ⟨(.d (.v (.bool true))), []⟩) else (
 none)))) := by kernel_rfl
/- loop.example/g00119/impl.sameWant -/

def a160 : AFun := ⟨[.rd, .rd], false, [.t 4], (
  .seq (.reg false [⟨some 2, .box (.t 0), none⟩,
    ⟨some 3, .box (.t 1), none⟩,
    ⟨some 4, .mv (.c (.v (.bool false))), none⟩]) (
  .seq (.reg false [⟨some 5, .fad 0 (.t 2), none⟩,
    ⟨some 6, .load false [(.i .i64)] (.t 5), none⟩,
    ⟨some 7, .fad 0 (.t 3), none⟩,
    ⟨some 8, .load false [(.i .i64)] (.t 7), none⟩,
    ⟨some 9, .bin .eql (.t 6) (.t 8), none⟩,
    ⟨some 10, .mv (.t 9), none⟩,
    ⟨some 11, .fad 1 (.t 2), some (10, true)⟩,
    ⟨some 12, .load false [(.sl 3)] (.t 11), some (10, true)⟩,
    ⟨some 13, .fad 1 (.t 3), some (10, true)⟩,
    ⟨some 14, .load false [(.sl 3)] (.t 13), some (10, true)⟩,
    ⟨some 15, .call (.f 194) [.rd, .rd, .rd] false [.c .b] [(.t 12), (.t 14), (.f 195)], some (10, true)⟩,
    ⟨some 16, .pick (.t 10) (.t 15) (.c (.v (.bool false))), none⟩,
    ⟨some 17, .mv (.t 16), none⟩,
    ⟨some 18, .fad 2 (.t 2), some (17, true)⟩,
    ⟨some 19, .load false [(.sl 1)] (.t 18), some (17, true)⟩,
    ⟨some 20, .fad 2 (.t 3), some (17, true)⟩,
    ⟨some 21, .load false [(.sl 1)] (.t 20), some (17, true)⟩,
    ⟨some 22, .call (.f 96) [.rd, .rd] false [.c .b] [(.t 19), (.t 21)], some (17, true)⟩,
    ⟨some 23, .pick (.t 17) (.t 22) (.c (.v (.bool false))), none⟩,
    ⟨some 24, .mv (.t 23), none⟩,
    ⟨some 25, .fad 3 (.t 2), some (24, true)⟩,
    ⟨some 26, .load false [(.sl 2)] (.t 25), some (24, true)⟩,
    ⟨some 27, .fad 3 (.t 3), some (24, true)⟩,
    ⟨some 28, .load false [(.sl 2)] (.t 27), some (24, true)⟩,
    ⟨some 29, .call (.f 196) [.rd, .rd] false [.c .b] [(.t 26), (.t 28)], some (24, true)⟩,
    ⟨some 30, .pick (.t 24) (.t 29) (.c (.v (.bool false))), none⟩,
    ⟨some 4, .mv (.t 30), none⟩]) (
  .ret)))⟩

theorem a160q (T : Table) (k : Nat) (n1 : Int) (l2 : Rows) (l3 : Rows) (l4 : Rows) (n5 : Int) (l6 : Rows) (l7 : Rows) (l8 : Rows) : evalF T k a160 [(.g [(.v (.int .i64 n1)), (.s 3 l2), (.s 1 l3), (.s 2 l4)]), (.g [(.v (.int .i64 n5)), (.s 3 l6), (.s 1 l7), (.s 2 l8)])] = (
 bif (n1 == n5) == true then (
 callT T 194 [(.d (.s 3 l2)), (.d (.s 3 l6)), (.f 195 [])] fun o9 =>
 oD o9.res fun d10 =>
 dB d10 fun b11 =>
 bif b11 == true then (
 callT T 96 [(.d (.s 1 l3)), (.d (.s 1 l7))] fun o12 =>
 oD o12.res fun d13 =>
 dB d13 fun b14 =>
 bif b14 == true then (
 callT T 196 [(.d (.s 2 l4)), (.d (.s 2 l8))] fun o15 =>
 oD o15.res fun d16 =>
 dB d16 fun b17 =>
 some ⟨(.d (.v (.bool b17))), []⟩) else (
 some ⟨(.d (.v (.bool false))), []⟩)) else (
 some ⟨(.d (.v (.bool false))), []⟩)) else (
 some ⟨(.d (.v (.bool false))), []⟩)) := by kernel_rfl

end Go.Am.Sb
