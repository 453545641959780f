/- What the functions come to, printed: equations by the kernel. Nothing is assumed. -/
import Derived.Test.YtgnicnelpcndgaaAmCore
import Derived.KernelRfl
namespace Go.Am.Sm
set_option linter.unusedVariables false
set_option linter.unusedSimpArgs false
set_option maxRecDepth 8000
/- loop.example/g00119/laws.szStringS -/
def b63x0 : ACode := (
  .seq (.seq (.reg false [⟨some 12, .mv (.t 5), none⟩,
    ⟨some 13, .mv (.t 0), none⟩,
    ⟨some 14, .len false (.t 13), none⟩,
    ⟨some 15, .bin .lss (.t 12) (.t 14), none⟩]) (
  .cond (.t 15) (.skip) (.exit 0))) (
  .seq (.block 1 (.seq (.reg false [⟨some 18, .mv (.t 1), none⟩,
      ⟨some 19, .mv (.t 0), none⟩,
      ⟨some 20, .mv (.t 5), none⟩,
      ⟨some 21, .iad 1 (.t 19) (.t 20), none⟩,
      ⟨some 22, .load false [.s] (.t 21), none⟩,
      ⟨some 23, .len true (.t 22), none⟩,
      ⟨some 24, .bin .sub (.t 18) (.t 23), none⟩,
      ⟨some 1, .mv (.t 24), none⟩]) (
    .seq (.reg false [⟨some 25, .mv (.t 1), none⟩,
      ⟨some 26, .bin .lss (.t 25) (.c (.v (.int .i64 0))), none⟩]) (
    .cond (.t 26) (.seq (.reg false [⟨some 4, .mv (.c (.v (.int .i64 (-1)))), none⟩]) (
      .ret)) (.skip))))) (
  .reg false [⟨some 16, .mv (.t 5), none⟩,
    ⟨some 17, .bin .add (.t 16) (.c (.v (.int .i64 1))), none⟩,
    ⟨some 5, .mv (.t 17), none⟩])))
def e63x0 : Exits := [(.ret, [(4, .c (.i .i64))]), ((.exit 0), [(1, .c (.i .i64))])]
def l63x0 (T : Table) (k : Nat) := loopN (evalC ⟨T, []⟩ k b63x0 (Ex × List AV)) [0, 1, 5] e63x0
def a63 : AFun := ⟨[.rd, .rd], false, [.t 4], (
  .seq (.reg false [⟨some 4, .mv (.c (.v (.int .i64 0))), none⟩]) (
  .seq (.reg false [⟨some 6, .mv (.t 1), none⟩,
    ⟨some 7, .mv (.t 0), none⟩,
    ⟨some 8, .len false (.t 7), none⟩,
    ⟨some 9, .bin .sub (.t 6) (.t 8), none⟩,
    ⟨some 1, .mv (.t 9), none⟩]) (
  .seq (.seq (.reg false [⟨some 10, .mv (.t 1), none⟩,
    ⟨some 11, .bin .lss (.t 10) (.c (.v (.int .i64 0))), none⟩]) (
  .cond (.t 11) (.seq (.reg false [⟨some 4, .mv (.c (.v (.int .i64 (-1)))), none⟩]) (
    .ret)) (.skip))) (
  .seq (.seq (.reg false [⟨some 5, .mv (.c (.v (.int .i64 0))), none⟩]) (
  .block 0 (.loop [0, 1, 5] e63x0 b63x0))) (
  .seq (.reg false [⟨some 27, .mv (.t 1), none⟩,
    ⟨some 4, .mv (.t 27), none⟩]) (
  .ret))))))⟩
theorem l63x0s (T : Table) (k n : Nat) (l3 : Rows) (n4 : Int) (n5 : Int) : l63x0 T k (n + 1) [(.fz 1 l3), (.v (.int .i64 n4)), (.v (.int .i64 n5))] = (
 bif (decide (n5 < (l3.length : Int))) then (
 tst (decide (0 ≤ n5)) (
 look l3 (Int.toNat n5) fun r6 =>
 cS r6 0 fun s7 =>
 bif (decide ((IntKind.wrap .i64 (n4 - (s7.size : Int))) < 0)) then (
 some (.ret, [(.v (.int .i64 (-1)))])) else (
 l63x0 T k n [(.fz 1 l3), (.v (.int .i64 (IntKind.wrap .i64 (n4 - (s7.size : Int))))), (.v (.int .i64 (IntKind.wrap .i64 (n5 + 1))))]))) else (
 some ((.exit 0), [(.v (.int .i64 n4))]))) := by kernel_rfl
theorem a63q (T : Table) (k : Nat) (l1 : Rows) (n2 : Int) : evalF T k a63 [(.d (.s 1 l1)), (.d (.v (.int .i64 n2)))] = (
 bif (decide ((IntKind.wrap .i64 (n2 - (l1.length : Int))) < 0)) then (
 some ⟨(.d (.v (.int .i64 (-1)))), []⟩) else (
 aft (l63x0 T k k [(.fz 1 l1), (.v (.int .i64 (IntKind.wrap .i64 (n2 - (l1.length : Int))))), (.v (.int .i64 0))]) fun e8 ys9 =>
 bif e8.same .ret then (
 aV ys9 0 fun x10 =>
 aI .i64 x10 fun n11 =>
 some ⟨(.d (.v (.int .i64 n11))), []⟩) else (
 bif e8.same (.exit 0) then (
 aV ys9 0 fun x12 =>
 aI .i64 x12 fun n13 =>
 some ⟨(.d (.v (.int .i64 n13))), []⟩) else (
 none)))) := by kernel_rfl
/- loop.example/g00119/laws.szValueS -/
def b207x0 : ACode := (
  .seq (.seq (.reg false [⟨some 12, .mv (.t 5), none⟩,
    ⟨some 13, .mv (.t 0), none⟩,
    ⟨some 14, .len false (.t 13), none⟩,
    ⟨some 15, .bin .lss (.t 12) (.t 14), none⟩]) (
  .cond (.t 15) (.skip) (.exit 0))) (
  .seq (.block 1 (.seq (.reg false [⟨some 18, .mv (.t 0), none⟩,
      ⟨some 19, .mv (.t 5), none⟩,
      ⟨some 20, .iad 5 (.t 18) (.t 19), none⟩,
      ⟨some 21, .load true [(.i .i64), .s, (.i .i64), (.sl 1), (.sl 5)] (.t 20), none⟩,
      ⟨some 22, .mv (.t 1), none⟩,
      ⟨some 23, .call (.f 173) [.rd, .rd] false [.c (.i .i64)] [(.t 21), (.t 22)], none⟩,
      ⟨some 1, .mv (.t 23), none⟩]) (
    .seq (.reg false [⟨some 24, .mv (.t 1), none⟩,
      ⟨some 25, .bin .lss (.t 24) (.c (.v (.int .i64 0))), none⟩]) (
    .cond (.t 25) (.seq (.reg false [⟨some 4, .mv (.c (.v (.int .i64 (-1)))), none⟩]) (
      .ret)) (.skip))))) (
  .reg false [⟨some 16, .mv (.t 5), none⟩,
    ⟨some 17, .bin .add (.t 16) (.c (.v (.int .i64 1))), none⟩,
    ⟨some 5, .mv (.t 17), none⟩])))
def e207x0 : Exits := [(.ret, [(4, .c (.i .i64))]), ((.exit 0), [(1, .c (.i .i64))])]
def l207x0 (T : Table) (k : Nat) := loopN (evalC ⟨T, []⟩ k b207x0 (Ex × List AV)) [0, 1, 5] e207x0
def a207 : AFun := ⟨[.rd, .rd], false, [.t 4], (
  .seq (.reg false [⟨some 4, .mv (.c (.v (.int .i64 0))), none⟩]) (
  .seq (.reg false [⟨some 6, .mv (.t 1), none⟩,
    ⟨some 7, .mv (.t 0), none⟩,
    ⟨some 8, .len false (.t 7), none⟩,
    ⟨some 9, .bin .sub (.t 6) (.t 8), none⟩,
    ⟨some 1, .mv (.t 9), none⟩]) (
  .seq (.seq (.reg false [⟨some 10, .mv (.t 1), none⟩,
    ⟨some 11, .bin .lss (.t 10) (.c (.v (.int .i64 0))), none⟩]) (
  .cond (.t 11) (.seq (.reg false [⟨some 4, .mv (.c (.v (.int .i64 (-1)))), none⟩]) (
    .ret)) (.skip))) (
  .seq (.seq (.reg false [⟨some 5, .mv (.c (.v (.int .i64 0))), none⟩]) (
  .block 0 (.loop [0, 1, 5] e207x0 b207x0))) (
  .seq (.reg false [⟨some 26, .mv (.t 1), none⟩,
    ⟨some 4, .mv (.t 26), none⟩]) (
  .ret))))))⟩
theorem l207x0s (T : Table) (k n : Nat) (l3 : Rows) (n4 : Int) (n5 : Int) : l207x0 T k (n + 1) [(.fz 5 l3), (.v (.int .i64 n4)), (.v (.int .i64 n5))] = (
 bif (decide (n5 < (l3.length : Int))) then (
 tst (decide (0 ≤ n5)) (
 look l3 (Int.toNat n5) fun r6 =>
 cI .i64 r6 0 fun n7 =>
 cS r6 1 fun s8 =>
 cI .i64 r6 2 fun n9 =>
 cL 1 r6 3 fun l10 =>
 cL 5 r6 4 fun l11 =>
 callT T 173 [(.g [(.v (.int .i64 n7)), (.v (.string s8)), (.v (.int .i64 n9)), (.s 1 l10), (.s 5 l11)]), (.d (.v (.int .i64 n4)))] fun o12 =>
 oD o12.res fun d13 =>
 dI .i64 d13 fun n14 =>
 bif (decide (n14 < 0)) then (
 some (.ret, [(.v (.int .i64 (-1)))])) else (
 l207x0 T k n [(.fz 5 l3), (.v (.int .i64 n14)), (.v (.int .i64 (IntKind.wrap .i64 (n5 + 1))))]))) else (
 some ((.exit 0), [(.v (.int .i64 n4))]))) := by kernel_rfl
theorem a207q (T : Table) (k : Nat) (l1 : Rows) (n2 : Int) : evalF T k a207 [(.d (.s 5 l1)), (.d (.v (.int .i64 n2)))] = (
 bif (decide ((IntKind.wrap .i64 (n2 - (l1.length : Int))) < 0)) then (
 some ⟨(.d (.v (.int .i64 (-1)))), []⟩) else (
 aft (l207x0 T k k [(.fz 5 l1), (.v (.int .i64 (IntKind.wrap .i64 (n2 - (l1.length : Int))))), (.v (.int .i64 0))]) fun e15 ys16 =>
 bif e15.same .ret then (
 aV ys16 0 fun x17 =>
 aI .i64 x17 fun n18 =>
 some ⟨(.d (.v (.int .i64 n18))), []⟩) else (
 bif e15.same (.exit 0) then (
 aV ys16 0 fun x19 =>
 aI .i64 x19 fun n20 =>
 some ⟨(.d (.v (.int .i64 n20))), []⟩) else (
 none)))) := by kernel_rfl
/- loop.example/g00119/laws.szValue -/

def a173 : AFun := ⟨[.rd, .rd], false, [.t 4], (
  .seq (.reg false [⟨some 2, .box (.t 0), none⟩,
    ⟨some 4, .mv (.c (.v (.int .i64 0))), none⟩]) (
  .seq (.reg false [⟨some 5, .mv (.t 1), none⟩,
    ⟨some 6, .fad 1 (.t 2), none⟩,
    ⟨some 7, .load false [.s] (.t 6), none⟩,
    ⟨some 8, .len true (.t 7), none⟩,
    ⟨some 9, .bin .sub (.t 5) (.t 8), none⟩,
    ⟨some 1, .mv (.t 9), none⟩]) (
  .seq (.seq (.reg false [⟨some 10, .mv (.t 1), none⟩,
    ⟨some 11, .bin .lss (.t 10) (.c (.v (.int .i64 0))), none⟩]) (
  .cond (.t 11) (.seq (.reg false [⟨some 4, .mv (.c (.v (.int .i64 (-1)))), none⟩]) (
    .ret)) (.skip))) (
  .seq (.reg false [⟨some 12, .fad 3 (.t 2), none⟩,
    ⟨some 13, .load false [(.sl 1)] (.t 12), none⟩,
    ⟨some 14, .mv (.t 1), none⟩,
    ⟨some 15, .call (.f 63) [.rd, .rd] false [.c (.i .i64)] [(.t 13), (.t 14)], none⟩,
    ⟨some 1, .mv (.t 15), none⟩]) (
  .seq (.seq (.reg false [⟨some 16, .mv (.t 1), none⟩,
    ⟨some 17, .bin .lss (.t 16) (.c (.v (.int .i64 0))), none⟩]) (
  .cond (.t 17) (.seq (.reg false [⟨some 4, .mv (.c (.v (.int .i64 (-1)))), none⟩]) (
    .ret)) (.skip))) (
  .seq (.reg false [⟨some 18, .fad 4 (.t 2), none⟩,
    ⟨some 19, .load false [(.sl 5)] (.t 18), none⟩,
    ⟨some 20, .mv (.t 1), none⟩,
    ⟨some 21, .call (.f 207) [.rd, .rd] false [.c (.i .i64)] [(.t 19), (.t 20)], none⟩,
    ⟨some 1, .mv (.t 21), none⟩]) (
  .seq (.seq (.reg false [⟨some 22, .mv (.t 1), none⟩,
    ⟨some 23, .bin .lss (.t 22) (.c (.v (.int .i64 0))), none⟩]) (
  .cond (.t 23) (.seq (.reg false [⟨some 4, .mv (.c (.v (.int .i64 (-1)))), none⟩]) (
    .ret)) (.skip))) (
  .seq (.reg false [⟨some 24, .mv (.t 1), none⟩,
    ⟨some 4, .mv (.t 24), none⟩]) (
  .ret)))))))))⟩

theorem a173q (T : Table) (k : Nat) (n1 : Int) (s2 : ByteArray) (n3 : Int) (l4 : Rows) (l5 : Rows) (n6 : Int) : evalF T k a173 [(.g [(.v (.int .i64 n1)), (.v (.string s2)), (.v (.int .i64 n3)), (.s 1 l4), (.s 5 l5)]), (.d (.v (.int .i64 n6)))] = (
 bif (decide ((IntKind.wrap .i64 (n6 - (s2.size : Int))) < 0)) then (
 some ⟨(.d (.v (.int .i64 (-1)))), []⟩) else (
 callT T 63 [(.d (.s 1 l4)), (.d (.v (.int .i64 (IntKind.wrap .i64 (n6 - (s2.size : Int))))))] fun o7 =>
 oD o7.res fun d8 =>
 dI .i64 d8 fun n9 =>
 bif (decide (n9 < 0)) then (
 some ⟨(.d (.v (.int .i64 (-1)))), []⟩) else (
 callT T 207 [(.d (.s 5 l5)), (.d (.v (.int .i64 n9)))] fun o10 =>
 oD o10.res fun d11 =>
 dI .i64 d11 fun n12 =>
 bif (decide (n12 < 0)) then (
 some ⟨(.d (.v (.int .i64 (-1)))), []⟩) else (
 some ⟨(.d (.v (.int .i64 n12))), []⟩)))) := by kernel_rfl
/- loop.example/g00119/laws.szTerm -/

def a233 : AFun := ⟨[.rd, .rd], false, [.t 4], (
  .seq (.reg false [⟨some 2, .box (.t 0), none⟩,
    ⟨some 4, .mv (.c (.v (.int .i64 0))), none⟩]) (
  .seq (.reg false [⟨some 5, .mv (.t 1), none⟩,
    ⟨some 6, .fad 1 (.t 2), none⟩,
    ⟨some 7, .load false [.s] (.t 6), none⟩,
    ⟨some 8, .len true (.t 7), none⟩,
    ⟨some 9, .bin .sub (.t 5) (.t 8), none⟩,
    ⟨some 1, .mv (.t 9), none⟩]) (
  .seq (.seq (.reg false [⟨some 10, .mv (.t 1), none⟩,
    ⟨some 11, .bin .lss (.t 10) (.c (.v (.int .i64 0))), none⟩]) (
  .cond (.t 11) (.seq (.reg false [⟨some 4, .mv (.c (.v (.int .i64 (-1)))), none⟩]) (
    .ret)) (.skip))) (
  .seq (.reg false [⟨some 12, .fad 2 (.t 2), none⟩,
    ⟨some 13, .load false [(.sl 1)] (.t 12), none⟩,
    ⟨some 14, .mv (.t 1), none⟩,
    ⟨some 15, .call (.f 63) [.rd, .rd] false [.c (.i .i64)] [(.t 13), (.t 14)], none⟩,
    ⟨some 1, .mv (.t 15), none⟩]) (
  .seq (.seq (.reg false [⟨some 16, .mv (.t 1), none⟩,
    ⟨some 17, .bin .lss (.t 16) (.c (.v (.int .i64 0))), none⟩]) (
  .cond (.t 17) (.seq (.reg false [⟨some 4, .mv (.c (.v (.int .i64 (-1)))), none⟩]) (
    .ret)) (.skip))) (
  .seq (.reg false [⟨some 18, .mv (.t 1), none⟩,
    ⟨some 4, .mv (.t 18), none⟩]) (
  .ret)))))))⟩

theorem a233q (T : Table) (k : Nat) (n1 : Int) (s2 : ByteArray) (l3 : Rows) (n4 : Int) : evalF T k a233 [(.g [(.v (.int .i64 n1)), (.v (.string s2)), (.s 1 l3)]), (.d (.v (.int .i64 n4)))] = (
 bif (decide ((IntKind.wrap .i64 (n4 - (s2.size : Int))) < 0)) then (
 some ⟨(.d (.v (.int .i64 (-1)))), []⟩) else (
 callT T 63 [(.d (.s 1 l3)), (.d (.v (.int .i64 (IntKind.wrap .i64 (n4 - (s2.size : Int))))))] fun o5 =>
 oD o5.res fun d6 =>
 dI .i64 d6 fun n7 =>
 bif (decide (n7 < 0)) then (
 some ⟨(.d (.v (.int .i64 (-1)))), []⟩) else (
 some ⟨(.d (.v (.int .i64 n7))), []⟩))) := by kernel_rfl
/- loop.example/g00119/laws.szTermS -/
def b213x0 : ACode := (
  .seq (.seq (.reg false [⟨some 12, .mv (.t 5), none⟩,
    ⟨some 13, .mv (.t 0), none⟩,
    ⟨some 14, .len false (.t 13), none⟩,
    ⟨some 15, .bin .lss (.t 12) (.t 14), none⟩]) (
  .cond (.t 15) (.skip) (.exit 0))) (
  .seq (.block 1 (.seq (.reg false [⟨some 18, .mv (.t 0), none⟩,
      ⟨some 19, .mv (.t 5), none⟩,
      ⟨some 20, .iad 3 (.t 18) (.t 19), none⟩,
      ⟨some 21, .load true [(.i .i64), .s, (.sl 1)] (.t 20), none⟩,
      ⟨some 22, .mv (.t 1), none⟩,
      ⟨some 23, .call (.f 233) [.rd, .rd] false [.c (.i .i64)] [(.t 21), (.t 22)], none⟩,
      ⟨some 1, .mv (.t 23), none⟩]) (
    .seq (.reg false [⟨some 24, .mv (.t 1), none⟩,
      ⟨some 25, .bin .lss (.t 24) (.c (.v (.int .i64 0))), none⟩]) (
    .cond (.t 25) (.seq (.reg false [⟨some 4, .mv (.c (.v (.int .i64 (-1)))), none⟩]) (
      .ret)) (.skip))))) (
  .reg false [⟨some 16, .mv (.t 5), none⟩,
    ⟨some 17, .bin .add (.t 16) (.c (.v (.int .i64 1))), none⟩,
    ⟨some 5, .mv (.t 17), none⟩])))
def e213x0 : Exits := [(.ret, [(4, .c (.i .i64))]), ((.exit 0), [(1, .c (.i .i64))])]
def l213x0 (T : Table) (k : Nat) := loopN (evalC ⟨T, []⟩ k b213x0 (Ex × List AV)) [0, 1, 5] e213x0
def a213 : AFun := ⟨[.rd, .rd], false, [.t 4], (
  .seq (.reg false [⟨some 4, .mv (.c (.v (.int .i64 0))), none⟩]) (
  .seq (.reg false [⟨some 6, .mv (.t 1), none⟩,
    ⟨some 7, .mv (.t 0), none⟩,
    ⟨some 8, .len false (.t 7), none⟩,
    ⟨some 9, .bin .sub (.t 6) (.t 8), none⟩,
    ⟨some 1, .mv (.t 9), none⟩]) (
  .seq (.seq (.reg false [⟨some 10, .mv (.t 1), none⟩,
    ⟨some 11, .bin .lss (.t 10) (.c (.v (.int .i64 0))), none⟩]) (
  .cond (.t 11) (.seq (.reg false [⟨some 4, .mv (.c (.v (.int .i64 (-1)))), none⟩]) (
    .ret)) (.skip))) (
  .seq (.seq (.reg false [⟨some 5, .mv (.c (.v (.int .i64 0))), none⟩]) (
  .block 0 (.loop [0, 1, 5] e213x0 b213x0))) (
  .seq (.reg false [⟨some 26, .mv (.t 1), none⟩,
    ⟨some 4, .mv (.t 26), none⟩]) (
  .ret))))))⟩
theorem l213x0s (T : Table) (k n : Nat) (l3 : Rows) (n4 : Int) (n5 : Int) : l213x0 T k (n + 1) [(.fz 3 l3), (.v (.int .i64 n4)), (.v (.int .i64 n5))] = (
 bif (decide (n5 < (l3.length : Int))) then (
 tst (decide (0 ≤ n5)) (
 look l3 (Int.toNat n5) fun r6 =>
 cI .i64 r6 0 fun n7 =>
 cS r6 1 fun s8 =>
 cL 1 r6 2 fun l9 =>
 callT T 233 [(.g [(.v (.int .i64 n7)), (.v (.string s8)), (.s 1 l9)]), (.d (.v (.int .i64 n4)))] fun o10 =>
 oD o10.res fun d11 =>
 dI .i64 d11 fun n12 =>
 bif (decide (n12 < 0)) then (
 some (.ret, [(.v (.int .i64 (-1)))])) else (
 l213x0 T k n [(.fz 3 l3), (.v (.int .i64 n12)), (.v (.int .i64 (IntKind.wrap .i64 (n5 + 1))))]))) else (
 some ((.exit 0), [(.v (.int .i64 n4))]))) := by kernel_rfl
theorem a213q (T : Table) (k : Nat) (l1 : Rows) (n2 : Int) : evalF T k a213 [(.d (.s 3 l1)), (.d (.v (.int .i64 n2)))] = (
 bif (decide ((IntKind.wrap .i64 (n2 - (l1.length : Int))) < 0)) then (
 some ⟨(.d (.v (.int .i64 (-1)))), []⟩) else (
 aft (l213x0 T k k [(.fz 3 l1), (.v (.int .i64 (IntKind.wrap .i64 (n2 - (l1.length : Int))))), (.v (.int .i64 0))]) fun e13 ys14 =>
 bif e13.same .ret then (
 aV ys14 0 fun x15 =>
 aI .i64 x15 fun n16 =>
 some ⟨(.d (.v (.int .i64 n16))), []⟩) else (
 bif e13.same (.exit 0) then (
 aV ys14 0 fun x17 =>
 aI .i64 x17 fun n18 =>
 some ⟨(.d (.v (.int .i64 n18))), []⟩) else (
 none)))) := by kernel_rfl
/- loop.example/g00119/laws.szWeigh -/

def a234 : AFun := ⟨[.rd, .rd], false, [.t 4], (
  .seq (.reg false [⟨some 2, .box (.t 0), none⟩,
    ⟨some 4, .mv (.c (.v (.int .i64 0))), none⟩]) (
  .seq (.reg false [⟨some 5, .mv (.t 1), none⟩,
    ⟨some 6, .fad 0 (.t 2), none⟩,
    ⟨some 7, .load false [.s] (.t 6), none⟩,
    ⟨some 8, .len true (.t 7), none⟩,
    ⟨some 9, .bin .sub (.t 5) (.t 8), none⟩,
    ⟨some 1, .mv (.t 9), none⟩]) (
  .seq (.seq (.reg false [⟨some 10, .mv (.t 1), none⟩,
    ⟨some 11, .bin .lss (.t 10) (.c (.v (.int .i64 0))), none⟩]) (
  .cond (.t 11) (.seq (.reg false [⟨some 4, .mv (.c (.v (.int .i64 (-1)))), none⟩]) (
    .ret)) (.skip))) (
  .seq (.reg false [⟨some 12, .mv (.t 1), none⟩,
    ⟨some 4, .mv (.t 12), none⟩]) (
  .ret)))))⟩

theorem a234q (T : Table) (k : Nat) (s1 : ByteArray) (n2 : Int) (n3 : Int) : evalF T k a234 [(.g [(.v (.string s1)), (.v (.int .i64 n2))]), (.d (.v (.int .i64 n3)))] = (
 bif (decide ((IntKind.wrap .i64 (n3 - (s1.size : Int))) < 0)) then (
 some ⟨(.d (.v (.int .i64 (-1)))), []⟩) else (
 some ⟨(.d (.v (.int .i64 (IntKind.wrap .i64 (n3 - (s1.size : Int)))))), []⟩)) := by kernel_rfl
/- loop.example/g00119/laws.szWeighS -/
def b214x0 : ACode := (
  .seq (.seq (.reg false [⟨some 12, .mv (.t 5), none⟩,
    ⟨some 13, .mv (.t 0), none⟩,
    ⟨some 14, .len false (.t 13), none⟩,
    ⟨some 15, .bin .lss (.t 12) (.t 14), none⟩]) (
  .cond (.t 15) (.skip) (.exit 0))) (
  .seq (.block 1 (.seq (.reg false [⟨some 18, .mv (.t 0), none⟩,
      ⟨some 19, .mv (.t 5), none⟩,
      ⟨some 20, .iad 2 (.t 18) (.t 19), none⟩,
      ⟨some 21, .load true [.s, (.i .i64)] (.t 20), none⟩,
      ⟨some 22, .mv (.t 1), none⟩,
      ⟨some 23, .call (.f 234) [.rd, .rd] false [.c (.i .i64)] [(.t 21), (.t 22)], none⟩,
      ⟨some 1, .mv (.t 23), none⟩]) (
    .seq (.reg false [⟨some 24, .mv (.t 1), none⟩,
      ⟨some 25, .bin .lss (.t 24) (.c (.v (.int .i64 0))), none⟩]) (
    .cond (.t 25) (.seq (.reg false [⟨some 4, .mv (.c (.v (.int .i64 (-1)))), none⟩]) (
      .ret)) (.skip))))) (
  .reg false [⟨some 16, .mv (.t 5), none⟩,
    ⟨some 17, .bin .add (.t 16) (.c (.v (.int .i64 1))), none⟩,
    ⟨some 5, .mv (.t 17), none⟩])))
def e214x0 : Exits := [(.ret, [(4, .c (.i .i64))]), ((.exit 0), [(1, .c (.i .i64))])]
def l214x0 (T : Table) (k : Nat) := loopN (evalC ⟨T, []⟩ k b214x0 (Ex × List AV)) [0, 1, 5] e214x0
def a214 : AFun := ⟨[.rd, .rd], false, [.t 4], (
  .seq (.reg false [⟨some 4, .mv (.c (.v (.int .i64 0))), none⟩]) (
  .seq (.reg false [⟨some 6, .mv (.t 1), none⟩,
    ⟨some 7, .mv (.t 0), none⟩,
    ⟨some 8, .len false (.t 7), none⟩,
    ⟨some 9, .bin .sub (.t 6) (.t 8), none⟩,
    ⟨some 1, .mv (.t 9), none⟩]) (
  .seq (.seq (.reg false [⟨some 10, .mv (.t 1), none⟩,
    ⟨some 11, .bin .lss (.t 10) (.c (.v (.int .i64 0))), none⟩]) (
  .cond (.t 11) (.seq (.reg false [⟨some 4, .mv (.c (.v (.int .i64 (-1)))), none⟩]) (
    .ret)) (.skip))) (
  .seq (.seq (.reg false [⟨some 5, .mv (.c (.v (.int .i64 0))), none⟩]) (
  .block 0 (.loop [0, 1, 5] e214x0 b214x0))) (
  .seq (.reg false [⟨some 26, .mv (.t 1), none⟩,
    ⟨some 4, .mv (.t 26), none⟩]) (
  .ret))))))⟩
theorem l214x0s (T : Table) (k n : Nat) (l3 : Rows) (n4 : Int) (n5 : Int) : l214x0 T k (n + 1) [(.fz 2 l3), (.v (.int .i64 n4)), (.v (.int .i64 n5))] = (
 bif (decide (n5 < (l3.length : Int))) then (
 tst (decide (0 ≤ n5)) (
 look l3 (Int.toNat n5) fun r6 =>
 cS r6 0 fun s7 =>
 cI .i64 r6 1 fun n8 =>
 callT T 234 [(.g [(.v (.string s7)), (.v (.int .i64 n8))]), (.d (.v (.int .i64 n4)))] fun o9 =>
 oD o9.res fun d10 =>
 dI .i64 d10 fun n11 =>
 bif (decide (n11 < 0)) then (
 some (.ret, [(.v (.int .i64 (-1)))])) else (
 l214x0 T k n [(.fz 2 l3), (.v (.int .i64 n11)), (.v (.int .i64 (IntKind.wrap .i64 (n5 + 1))))]))) else (
 some ((.exit 0), [(.v (.int .i64 n4))]))) := by kernel_rfl
theorem a214q (T : Table) (k : Nat) (l1 : Rows) (n2 : Int) : evalF T k a214 [(.d (.s 2 l1)), (.d (.v (.int .i64 n2)))] = (
 bif (decide ((IntKind.wrap .i64 (n2 - (l1.length : Int))) < 0)) then (
 some ⟨(.d (.v (.int .i64 (-1)))), []⟩) else (
 aft (l214x0 T k k [(.fz 2 l1), (.v (.int .i64 (IntKind.wrap .i64 (n2 - (l1.length : Int))))), (.v (.int .i64 0))]) fun e12 ys13 =>
 bif e12.same .ret then (
 aV ys13 0 fun x14 =>
 aI .i64 x14 fun n15 =>
 some ⟨(.d (.v (.int .i64 n15))), []⟩) else (
 bif e12.same (.exit 0) then (
 aV ys13 0 fun x16 =>
 aI .i64 x16 fun n17 =>
 some ⟨(.d (.v (.int .i64 n17))), []⟩) else (
 none)))) := by kernel_rfl
/- loop.example/g00119/laws.szWant -/

def a180 : AFun := ⟨[.rd, .rd], false, [.t 4], (
  .seq (.reg false [⟨some 2, .box (.t 0), none⟩,
    ⟨some 4, .mv (.c (.v (.int .i64 0))), none⟩]) (
  .seq (.reg false [⟨some 5, .fad 1 (.t 2), none⟩,
    ⟨some 6, .load false [(.sl 3)] (.t 5), none⟩,
    ⟨some 7, .mv (.t 1), none⟩,
    ⟨some 8, .call (.f 213) [.rd, .rd] false [.c (.i .i64)] [(.t 6), (.t 7)], none⟩,
    ⟨some 1, .mv (.t 8), none⟩]) (
  .seq (.seq (.reg false [⟨some 9, .mv (.t 1), none⟩,
    ⟨some 10, .bin .lss (.t 9) (.c (.v (.int .i64 0))), none⟩]) (
  .cond (.t 10) (.seq (.reg false [⟨some 4, .mv (.c (.v (.int .i64 (-1)))), none⟩]) (
    .ret)) (.skip))) (
  .seq (.reg false [⟨some 11, .fad 2 (.t 2), none⟩,
    ⟨some 12, .load false [(.sl 1)] (.t 11), none⟩,
    ⟨some 13, .mv (.t 1), none⟩,
    ⟨some 14, .call (.f 63) [.rd, .rd] false [.c (.i .i64)] [(.t 12), (.t 13)], none⟩,
    ⟨some 1, .mv (.t 14), none⟩]) (
  .seq (.seq (.reg false [⟨some 15, .mv (.t 1), none⟩,
    ⟨some 16, .bin .lss (.t 15) (.c (.v (.int .i64 0))), none⟩]) (
  .cond (.t 16) (.seq (.reg false [⟨some 4, .mv (.c (.v (.int .i64 (-1)))), none⟩]) (
    .ret)) (.skip))) (
  .seq (.reg false [⟨some 17, .fad 3 (.t 2), none⟩,
    ⟨some 18, .load false [(.sl 2)] (.t 17), none⟩,
    ⟨some 19, .mv (.t 1), none⟩,
    ⟨some 20, .call (.f 214) [.rd, .rd] false [.c (.i .i64)] [(.t 18), (.t 19)], none⟩,
    ⟨some 1, .mv (.t 20), none⟩]) (
  .seq (.seq (.reg false [⟨some 21, .mv (.t 1), none⟩,
    ⟨some 22, .bin .lss (.t 21) (.c (.v (.int .i64 0))), none⟩]) (
  .cond (.t 22) (.seq (.reg false [⟨some 4, .mv (.c (.v (.int .i64 (-1)))), none⟩]) (
    .ret)) (.skip))) (
  .seq (.reg false [⟨some 23, .mv (.t 1), none⟩,
    ⟨some 4, .mv (.t 23), none⟩]) (
  .ret)))))))))⟩

theorem a180q (T : Table) (k : Nat) (n1 : Int) (l2 : Rows) (l3 : Rows) (l4 : Rows) (n5 : Int) : evalF T k a180 [(.g [(.v (.int .i64 n1)), (.s 3 l2), (.s 1 l3), (.s 2 l4)]), (.d (.v (.int .i64 n5)))] = (
 callT T 213 [(.d (.s 3 l2)), (.d (.v (.int .i64 n5)))] fun o6 =>
 oD o6.res fun d7 =>
 dI .i64 d7 fun n8 =>
 bif (decide (n8 < 0)) then (
 some ⟨(.d (.v (.int .i64 (-1)))), []⟩) else (
 callT T 63 [(.d (.s 1 l3)), (.d (.v (.int .i64 n8)))] fun o9 =>
 oD o9.res fun d10 =>
 dI .i64 d10 fun n11 =>
 bif (decide (n11 < 0)) then (
 some ⟨(.d (.v (.int .i64 (-1)))), []⟩) else (
 callT T 214 [(.d (.s 2 l4)), (.d (.v (.int .i64 n11)))] fun o12 =>
 oD o12.res fun d13 =>
 dI .i64 d13 fun n14 =>
 bif (decide (n14 < 0)) then (
 some ⟨(.d (.v (.int .i64 (-1)))), []⟩) else (
 some ⟨(.d (.v (.int .i64 n14))), []⟩)))) := by kernel_rfl
/- loop.example/g00119/laws.szOp -/

def a248 : AFun := ⟨[.rd, .rd], false, [.t 4], (
  .seq (.reg false [⟨some 2, .box (.t 0), none⟩,
    ⟨some 4, .mv (.c (.v (.int .i64 0))), none⟩]) (
  .seq (.reg false [⟨some 5, .fad 1 (.t 2), none⟩,
    ⟨some 6, .load false [(.sl 1)] (.t 5), none⟩,
    ⟨some 7, .mv (.t 1), none⟩,
    ⟨some 8, .call (.f 63) [.rd, .rd] false [.c (.i .i64)] [(.t 6), (.t 7)], none⟩,
    ⟨some 1, .mv (.t 8), none⟩]) (
  .seq (.seq (.reg false [⟨some 9, .mv (.t 1), none⟩,
    ⟨some 10, .bin .lss (.t 9) (.c (.v (.int .i64 0))), none⟩]) (
  .cond (.t 10) (.seq (.reg false [⟨some 4, .mv (.c (.v (.int .i64 (-1)))), none⟩]) (
    .ret)) (.skip))) (
  .seq (.reg false [⟨some 11, .fad 2 (.t 2), none⟩,
    ⟨some 12, .load true [(.i .i64), .s, (.i .i64), (.sl 1), (.sl 5)] (.t 11), none⟩,
    ⟨some 13, .mv (.t 1), none⟩,
    ⟨some 14, .call (.f 173) [.rd, .rd] false [.c (.i .i64)] [(.t 12), (.t 13)], none⟩,
    ⟨some 1, .mv (.t 14), none⟩]) (
  .seq (.seq (.reg false [⟨some 15, .mv (.t 1), none⟩,
    ⟨some 16, .bin .lss (.t 15) (.c (.v (.int .i64 0))), none⟩]) (
  .cond (.t 16) (.seq (.reg false [⟨some 4, .mv (.c (.v (.int .i64 (-1)))), none⟩]) (
    .ret)) (.skip))) (
  .seq (.reg false [⟨some 17, .mv (.t 1), none⟩,
    ⟨some 4, .mv (.t 17), none⟩]) (
  .ret)))))))⟩

theorem a248q (T : Table) (k : Nat) (n1 : Int) (l2 : Rows) (n3 : Int) (s4 : ByteArray) (n5 : Int) (l6 : Rows) (l7 : Rows) (n8 : Int) : evalF T k a248 [(.g [(.v (.int .i64 n1)), (.s 1 l2), (.v (.int .i64 n3)), (.v (.string s4)), (.v (.int .i64 n5)), (.s 1 l6), (.s 5 l7)]), (.d (.v (.int .i64 n8)))] = (
 callT T 63 [(.d (.s 1 l2)), (.d (.v (.int .i64 n8)))] fun o9 =>
 oD o9.res fun d10 =>
 dI .i64 d10 fun n11 =>
 bif (decide (n11 < 0)) then (
 some ⟨(.d (.v (.int .i64 (-1)))), []⟩) else (
 callT T 173 [(.g [(.v (.int .i64 n3)), (.v (.string s4)), (.v (.int .i64 n5)), (.s 1 l6), (.s 5 l7)]), (.d (.v (.int .i64 n11)))] fun o12 =>
 oD o12.res fun d13 =>
 dI .i64 d13 fun n14 =>
 bif (decide (n14 < 0)) then (
 some ⟨(.d (.v (.int .i64 (-1)))), []⟩) else (
 some ⟨(.d (.v (.int .i64 n14))), []⟩))) := by kernel_rfl
/- loop.example/g00119/laws.szOpS -/
def b235x0 : ACode := (
  .seq (.seq (.reg false [⟨some 12, .mv (.t 5), none⟩,
    ⟨some 13, .mv (.t 0), none⟩,
    ⟨some 14, .len false (.t 13), none⟩,
    ⟨some 15, .bin .lss (.t 12) (.t 14), none⟩]) (
  .cond (.t 15) (.skip) (.exit 0))) (
  .seq (.block 1 (.seq (.reg false [⟨some 18, .mv (.t 0), none⟩,
      ⟨some 19, .mv (.t 5), none⟩,
      ⟨some 20, .iad 7 (.t 18) (.t 19), none⟩,
      ⟨some 21, .load true [(.i .i64), (.sl 1), (.i .i64), .s, (.i .i64), (.sl 1), (.sl 5)] (.t 20), none⟩,
      ⟨some 22, .mv (.t 1), none⟩,
      ⟨some 23, .call (.f 248) [.rd, .rd] false [.c (.i .i64)] [(.t 21), (.t 22)], none⟩,
      ⟨some 1, .mv (.t 23), none⟩]) (
    .seq (.reg false [⟨some 24, .mv (.t 1), none⟩,
      ⟨some 25, .bin .lss (.t 24) (.c (.v (.int .i64 0))), none⟩]) (
    .cond (.t 25) (.seq (.reg false [⟨some 4, .mv (.c (.v (.int .i64 (-1)))), none⟩]) (
      .ret)) (.skip))))) (
  .reg false [⟨some 16, .mv (.t 5), none⟩,
    ⟨some 17, .bin .add (.t 16) (.c (.v (.int .i64 1))), none⟩,
    ⟨some 5, .mv (.t 17), none⟩])))
def e235x0 : Exits := [(.ret, [(4, .c (.i .i64))]), ((.exit 0), [(1, .c (.i .i64))])]
def l235x0 (T : Table) (k : Nat) := loopN (evalC ⟨T, []⟩ k b235x0 (Ex × List AV)) [0, 1, 5] e235x0
def a235 : AFun := ⟨[.rd, .rd], false, [.t 4], (
  .seq (.reg false [⟨some 4, .mv (.c (.v (.int .i64 0))), none⟩]) (
  .seq (.reg false [⟨some 6, .mv (.t 1), none⟩,
    ⟨some 7, .mv (.t 0), none⟩,
    ⟨some 8, .len false (.t 7), none⟩,
    ⟨some 9, .bin .sub (.t 6) (.t 8), none⟩,
    ⟨some 1, .mv (.t 9), none⟩]) (
  .seq (.seq (.reg false [⟨some 10, .mv (.t 1), none⟩,
    ⟨some 11, .bin .lss (.t 10) (.c (.v (.int .i64 0))), none⟩]) (
  .cond (.t 11) (.seq (.reg false [⟨some 4, .mv (.c (.v (.int .i64 (-1)))), none⟩]) (
    .ret)) (.skip))) (
  .seq (.seq (.reg false [⟨some 5, .mv (.c (.v (.int .i64 0))), none⟩]) (
  .block 0 (.loop [0, 1, 5] e235x0 b235x0))) (
  .seq (.reg false [⟨some 26, .mv (.t 1), none⟩,
    ⟨some 4, .mv (.t 26), none⟩]) (
  .ret))))))⟩
theorem l235x0s (T : Table) (k n : Nat) (l3 : Rows) (n4 : Int) (n5 : Int) : l235x0 T k (n + 1) [(.fz 7 l3), (.v (.int .i64 n4)), (.v (.int .i64 n5))] = (
 bif (decide (n5 < (l3.length : Int))) then (
 tst (decide (0 ≤ n5)) (
 look l3 (Int.toNat n5) fun r6 =>
 cI .i64 r6 0 fun n7 =>
 cL 1 r6 1 fun l8 =>
 cI .i64 r6 2 fun n9 =>
 cS r6 3 fun s10 =>
 cI .i64 r6 4 fun n11 =>
 cL 1 r6 5 fun l12 =>
 cL 5 r6 6 fun l13 =>
 callT T 248 [(.g [(.v (.int .i64 n7)), (.s 1 l8), (.v (.int .i64 n9)), (.v (.string s10)), (.v (.int .i64 n11)), (.s 1 l12), (.s 5 l13)]), (.d (.v (.int .i64 n4)))] fun o14 =>
 oD o14.res fun d15 =>
 dI .i64 d15 fun n16 =>
 bif (decide (n16 < 0)) then (
 some (.ret, [(.v (.int .i64 (-1)))])) else (
 l235x0 T k n [(.fz 7 l3), (.v (.int .i64 n16)), (.v (.int .i64 (IntKind.wrap .i64 (n5 + 1))))]))) else (
 some ((.exit 0), [(.v (.int .i64 n4))]))) := by kernel_rfl
theorem a235q (T : Table) (k : Nat) (l1 : Rows) (n2 : Int) : evalF T k a235 [(.d (.s 7 l1)), (.d (.v (.int .i64 n2)))] = (
 bif (decide ((IntKind.wrap .i64 (n2 - (l1.length : Int))) < 0)) then (
 some ⟨(.d (.v (.int .i64 (-1)))), []⟩) else (
 aft (l235x0 T k k [(.fz 7 l1), (.v (.int .i64 (IntKind.wrap .i64 (n2 - (l1.length : Int))))), (.v (.int .i64 0))]) fun e17 ys18 =>
 bif e17.same .ret then (
 aV ys18 0 fun x19 =>
 aI .i64 x19 fun n20 =>
 some ⟨(.d (.v (.int .i64 n20))), []⟩) else (
 bif e17.same (.exit 0) then (
 aV ys18 0 fun x21 =>
 aI .i64 x21 fun n22 =>
 some ⟨(.d (.v (.int .i64 n22))), []⟩) else (
 none)))) := by kernel_rfl
/- loop.example/g00119/laws.szOver -/

def a215 : AFun := ⟨[.rd, .rd], false, [.t 4], (
  .seq (.reg false [⟨some 2, .box (.t 0), none⟩,
    ⟨some 4, .mv (.c (.v (.int .i64 0))), none⟩]) (
  .seq (.reg false [⟨some 5, .mv (.t 1), none⟩,
    ⟨some 6, .fad 0 (.t 2), none⟩,
    ⟨some 7, .load false [.s] (.t 6), none⟩,
    ⟨some 8, .len true (.t 7), none⟩,
    ⟨some 9, .bin .sub (.t 5) (.t 8), none⟩,
    ⟨some 1, .mv (.t 9), none⟩]) (
  .seq (.seq (.reg false [⟨some 10, .mv (.t 1), none⟩,
    ⟨some 11, .bin .lss (.t 10) (.c (.v (.int .i64 0))), none⟩]) (
  .cond (.t 11) (.seq (.reg false [⟨some 4, .mv (.c (.v (.int .i64 (-1)))), none⟩]) (
    .ret)) (.skip))) (
  .seq (.reg false [⟨some 12, .fad 1 (.t 2), none⟩,
    ⟨some 13, .load false [(.sl 7)] (.t 12), none⟩,
    ⟨some 14, .mv (.t 1), none⟩,
    ⟨some 15, .call (.f 235) [.rd, .rd] false [.c (.i .i64)] [(.t 13), (.t 14)], none⟩,
    ⟨some 1, .mv (.t 15), none⟩]) (
  .seq (.seq (.reg false [⟨some 16, .mv (.t 1), none⟩,
    ⟨some 17, .bin .lss (.t 16) (.c (.v (.int .i64 0))), none⟩]) (
  .cond (.t 17) (.seq (.reg false [⟨some 4, .mv (.c (.v (.int .i64 (-1)))), none⟩]) (
    .ret)) (.skip))) (
  .seq (.reg false [⟨some 18, .mv (.t 1), none⟩,
    ⟨some 4, .mv (.t 18), none⟩]) (
  .ret)))))))⟩

theorem a215q (T : Table) (k : Nat) (s1 : ByteArray) (l2 : Rows) (n3 : Int) : evalF T k a215 [(.g [(.v (.string s1)), (.s 7 l2)]), (.d (.v (.int .i64 n3)))] = (
 bif (decide ((IntKind.wrap .i64 (n3 - (s1.size : Int))) < 0)) then (
 some ⟨(.d (.v (.int .i64 (-1)))), []⟩) else (
 callT T 235 [(.d (.s 7 l2)), (.d (.v (.int .i64 (IntKind.wrap .i64 (n3 - (s1.size : Int))))))] fun o4 =>
 oD o4.res fun d5 =>
 dI .i64 d5 fun n6 =>
 bif (decide (n6 < 0)) then (
 some ⟨(.d (.v (.int .i64 (-1)))), []⟩) else (
 some ⟨(.d (.v (.int .i64 n6))), []⟩))) := by kernel_rfl
/- loop.example/g00119/laws.szOverS -/
def b181x0 : ACode := (
  .seq (.seq (.reg false [⟨some 12, .mv (.t 5), none⟩,
    ⟨some 13, .mv (.t 0), none⟩,
    ⟨some 14, .len false (.t 13), none⟩,
    ⟨some 15, .bin .lss (.t 12) (.t 14), none⟩]) (
  .cond (.t 15) (.skip) (.exit 0))) (
  .seq (.block 1 (.seq (.reg false [⟨some 18, .mv (.t 0), none⟩,
      ⟨some 19, .mv (.t 5), none⟩,
      ⟨some 20, .iad 2 (.t 18) (.t 19), none⟩,
      ⟨some 21, .load true [.s, (.sl 7)] (.t 20), none⟩,
      ⟨some 22, .mv (.t 1), none⟩,
      ⟨some 23, .call (.f 215) [.rd, .rd] false [.c (.i .i64)] [(.t 21), (.t 22)], none⟩,
      ⟨some 1, .mv (.t 23), none⟩]) (
    .seq (.reg false [⟨some 24, .mv (.t 1), none⟩,
      ⟨some 25, .bin .lss (.t 24) (.c (.v (.int .i64 0))), none⟩]) (
    .cond (.t 25) (.seq (.reg false [⟨some 4, .mv (.c (.v (.int .i64 (-1)))), none⟩]) (
      .ret)) (.skip))))) (
  .reg false [⟨some 16, .mv (.t 5), none⟩,
    ⟨some 17, .bin .add (.t 16) (.c (.v (.int .i64 1))), none⟩,
    ⟨some 5, .mv (.t 17), none⟩])))
def e181x0 : Exits := [(.ret, [(4, .c (.i .i64))]), ((.exit 0), [(1, .c (.i .i64))])]
def l181x0 (T : Table) (k : Nat) := loopN (evalC ⟨T, []⟩ k b181x0 (Ex × List AV)) [0, 1, 5] e181x0
def a181 : AFun := ⟨[.rd, .rd], false, [.t 4], (
  .seq (.reg false [⟨some 4, .mv (.c (.v (.int .i64 0))), none⟩]) (
  .seq (.reg false [⟨some 6, .mv (.t 1), none⟩,
    ⟨some 7, .mv (.t 0), none⟩,
    ⟨some 8, .len false (.t 7), none⟩,
    ⟨some 9, .bin .sub (.t 6) (.t 8), none⟩,
    ⟨some 1, .mv (.t 9), none⟩]) (
  .seq (.seq (.reg false [⟨some 10, .mv (.t 1), none⟩,
    ⟨some 11, .bin .lss (.t 10) (.c (.v (.int .i64 0))), none⟩]) (
  .cond (.t 11) (.seq (.reg false [⟨some 4, .mv (.c (.v (.int .i64 (-1)))), none⟩]) (
    .ret)) (.skip))) (
  .seq (.seq (.reg false [⟨some 5, .mv (.c (.v (.int .i64 0))), none⟩]) (
  .block 0 (.loop [0, 1, 5] e181x0 b181x0))) (
  .seq (.reg false [⟨some 26, .mv (.t 1), none⟩,
    ⟨some 4, .mv (.t 26), none⟩]) (
  .ret))))))⟩
theorem l181x0s (T : Table) (k n : Nat) (l3 : Rows) (n4 : Int) (n5 : Int) : l181x0 T k (n + 1) [(.fz 2 l3), (.v (.int .i64 n4)), (.v (.int .i64 n5))] = (
 bif (decide (n5 < (l3.length : Int))) then (
 tst (decide (0 ≤ n5)) (
 look l3 (Int.toNat n5) fun r6 =>
 cS r6 0 fun s7 =>
 cL 7 r6 1 fun l8 =>
 callT T 215 [(.g [(.v (.string s7)), (.s 7 l8)]), (.d (.v (.int .i64 n4)))] fun o9 =>
 oD o9.res fun d10 =>
 dI .i64 d10 fun n11 =>
 bif (decide (n11 < 0)) then (
 some (.ret, [(.v (.int .i64 (-1)))])) else (
 l181x0 T k n [(.fz 2 l3), (.v (.int .i64 n11)), (.v (.int .i64 (IntKind.wrap .i64 (n5 + 1))))]))) else (
 some ((.exit 0), [(.v (.int .i64 n4))]))) := by kernel_rfl
theorem a181q (T : Table) (k : Nat) (l1 : Rows) (n2 : Int) : evalF T k a181 [(.d (.s 2 l1)), (.d (.v (.int .i64 n2)))] = (
 bif (decide ((IntKind.wrap .i64 (n2 - (l1.length : Int))) < 0)) then (
 some ⟨(.d (.v (.int .i64 (-1)))), []⟩) else (
 aft (l181x0 T k k [(.fz 2 l1), (.v (.int .i64 (IntKind.wrap .i64 (n2 - (l1.length : Int))))), (.v (.int .i64 0))]) fun e12 ys13 =>
 bif e12.same .ret then (
 aV ys13 0 fun x14 =>
 aI .i64 x14 fun n15 =>
 some ⟨(.d (.v (.int .i64 n15))), []⟩) else (
 bif e12.same (.exit 0) then (
 aV ys13 0 fun x16 =>
 aI .i64 x16 fun n17 =>
 some ⟨(.d (.v (.int .i64 n17))), []⟩) else (
 none)))) := by kernel_rfl
/- loop.example/g00119/laws.szJob -/

def a136 : AFun := ⟨[.rd, .rd], false, [.t 4], (
  .seq (.reg false [⟨some 2, .box (.t 0), none⟩,
    ⟨some 4, .mv (.c (.v (.int .i64 0))), none⟩]) (
  .seq (.reg false [⟨some 5, .mv (.t 1), none⟩,
    ⟨some 6, .fad 1 (.t 2), none⟩,
    ⟨some 7, .load false [.s] (.t 6), none⟩,
    ⟨some 8, .len true (.t 7), none⟩,
    ⟨some 9, .bin .sub (.t 5) (.t 8), none⟩,
    ⟨some 1, .mv (.t 9), none⟩]) (
  .seq (.seq (.reg false [⟨some 10, .mv (.t 1), none⟩,
    ⟨some 11, .bin .lss (.t 10) (.c (.v (.int .i64 0))), none⟩]) (
  .cond (.t 11) (.seq (.reg false [⟨some 4, .mv (.c (.v (.int .i64 (-1)))), none⟩]) (
    .ret)) (.skip))) (
  .seq (.reg false [⟨some 12, .fad 2 (.t 2), none⟩,
    ⟨some 13, .load true [(.i .i64), (.sl 3), (.sl 1), (.sl 2)] (.t 12), none⟩,
    ⟨some 14, .mv (.t 1), none⟩,
    ⟨some 15, .call (.f 180) [.rd, .rd] false [.c (.i .i64)] [(.t 13), (.t 14)], none⟩,
    ⟨some 1, .mv (.t 15), none⟩]) (
  .seq (.seq (.reg false [⟨some 16, .mv (.t 1), none⟩,
    ⟨some 17, .bin .lss (.t 16) (.c (.v (.int .i64 0))), none⟩]) (
  .cond (.t 17) (.seq (.reg false [⟨some 4, .mv (.c (.v (.int .i64 (-1)))), none⟩]) (
    .ret)) (.skip))) (
  .seq (.reg false [⟨some 18, .fad 6 (.t 2), none⟩,
    ⟨some 19, .load true [(.i .i64), .s, (.i .i64), (.sl 1), (.sl 5)] (.t 18), none⟩,
    ⟨some 20, .mv (.t 1), none⟩,
    ⟨some 21, .call (.f 173) [.rd, .rd] false [.c (.i .i64)] [(.t 19), (.t 20)], none⟩,
    ⟨some 1, .mv (.t 21), none⟩]) (
  .seq (.seq (.reg false [⟨some 22, .mv (.t 1), none⟩,
    ⟨some 23, .bin .lss (.t 22) (.c (.v (.int .i64 0))), none⟩]) (
  .cond (.t 23) (.seq (.reg false [⟨some 4, .mv (.c (.v (.int .i64 (-1)))), none⟩]) (
    .ret)) (.skip))) (
  .seq (.reg false [⟨some 24, .fad 11 (.t 2), none⟩,
    ⟨some 25, .load false [(.sl 2)] (.t 24), none⟩,
    ⟨some 26, .mv (.t 1), none⟩,
    ⟨some 27, .call (.f 181) [.rd, .rd] false [.c (.i .i64)] [(.t 25), (.t 26)], none⟩,
    ⟨some 1, .mv (.t 27), none⟩]) (
  .seq (.seq (.reg false [⟨some 28, .mv (.t 1), none⟩,
    ⟨some 29, .bin .lss (.t 28) (.c (.v (.int .i64 0))), none⟩]) (
  .cond (.t 29) (.seq (.reg false [⟨some 4, .mv (.c (.v (.int .i64 (-1)))), none⟩]) (
    .ret)) (.skip))) (
  .seq (.reg false [⟨some 30, .mv (.t 1), none⟩,
    ⟨some 4, .mv (.t 30), none⟩]) (
  .ret)))))))))))⟩

theorem a136q (T : Table) (k : Nat) (n1 : Int) (s2 : ByteArray) (n3 : Int) (l4 : Rows) (l5 : Rows) (l6 : Rows) (n7 : Int) (s8 : ByteArray) (n9 : Int) (l10 : Rows) (l11 : Rows) (l12 : Rows) (b13 : Bool) (n14 : Int) : evalF T k a136 [(.g [(.v (.int .i64 n1)), (.v (.string s2)), (.v (.int .i64 n3)), (.s 3 l4), (.s 1 l5), (.s 2 l6), (.v (.int .i64 n7)), (.v (.string s8)), (.v (.int .i64 n9)), (.s 1 l10), (.s 5 l11), (.s 2 l12), (.v (.bool b13))]), (.d (.v (.int .i64 n14)))] = (
 bif (decide ((IntKind.wrap .i64 (n14 - (s2.size : Int))) < 0)) then (
 some ⟨(.d (.v (.int .i64 (-1)))), []⟩) else (
 callT T 180 [(.g [(.v (.int .i64 n3)), (.s 3 l4), (.s 1 l5), (.s 2 l6)]), (.d (.v (.int .i64 (IntKind.wrap .i64 (n14 - (s2.size : Int))))))] fun o15 =>
 oD o15.res fun d16 =>
 dI .i64 d16 fun n17 =>
 bif (decide (n17 < 0)) then (
 some ⟨(.d (.v (.int .i64 (-1)))), []⟩) else (
 callT T 173 [(.g [(.v (.int .i64 n7)), (.v (.string s8)), (.v (.int .i64 n9)), (.s 1 l10), (.s 5 l11)]), (.d (.v (.int .i64 n17)))] fun o18 =>
 oD o18.res fun d19 =>
 dI .i64 d19 fun n20 =>
 bif (decide (n20 < 0)) then (
 some ⟨(.d (.v (.int .i64 (-1)))), []⟩) else (
 callT T 181 [(.d (.s 2 l12)), (.d (.v (.int .i64 n20)))] fun o21 =>
 oD o21.res fun d22 =>
 dI .i64 d22 fun n23 =>
 bif (decide (n23 < 0)) then (
 some ⟨(.d (.v (.int .i64 (-1)))), []⟩) else (
 some ⟨(.d (.v (.int .i64 n23))), []⟩))))) := by kernel_rfl
/- loop.example/g00119/laws.szJobS -/
def b60x0 : ACode := (
  .seq (.seq (.reg false [⟨some 12, .mv (.t 5), none⟩,
    ⟨some 13, .mv (.t 0), none⟩,
    ⟨some 14, .len false (.t 13), none⟩,
    ⟨some 15, .bin .lss (.t 12) (.t 14), none⟩]) (
  .cond (.t 15) (.skip) (.exit 0))) (
  .seq (.block 1 (.seq (.reg false [⟨some 18, .mv (.t 0), none⟩,
      ⟨some 19, .mv (.t 5), none⟩,
      ⟨some 20, .iad 13 (.t 18) (.t 19), none⟩,
      ⟨some 21, .load true [(.i .i64), .s, (.i .i64), (.sl 3), (.sl 1), (.sl 2), (.i .i64), .s, (.i .i64), (.sl 1), (.sl 5), (.sl 2), .b] (.t 20), none⟩,
      ⟨some 22, .mv (.t 1), none⟩,
      ⟨some 23, .call (.f 136) [.rd, .rd] false [.c (.i .i64)] [(.t 21), (.t 22)], none⟩,
      ⟨some 1, .mv (.t 23), none⟩]) (
    .seq (.reg false [⟨some 24, .mv (.t 1), none⟩,
      ⟨some 25, .bin .lss (.t 24) (.c (.v (.int .i64 0))), none⟩]) (
    .cond (.t 25) (.seq (.reg false [⟨some 4, .mv (.c (.v (.int .i64 (-1)))), none⟩]) (
      .ret)) (.skip))))) (
  .reg false [⟨some 16, .mv (.t 5), none⟩,
    ⟨some 17, .bin .add (.t 16) (.c (.v (.int .i64 1))), none⟩,
    ⟨some 5, .mv (.t 17), none⟩])))
def e60x0 : Exits := [(.ret, [(4, .c (.i .i64))]), ((.exit 0), [(1, .c (.i .i64))])]
def l60x0 (T : Table) (k : Nat) := loopN (evalC ⟨T, []⟩ k b60x0 (Ex × List AV)) [0, 1, 5] e60x0
def a60 : AFun := ⟨[.rd, .rd], false, [.t 4], (
  .seq (.reg false [⟨some 4, .mv (.c (.v (.int .i64 0))), none⟩]) (
  .seq (.reg false [⟨some 6, .mv (.t 1), none⟩,
    ⟨some 7, .mv (.t 0), none⟩,
    ⟨some 8, .len false (.t 7), none⟩,
    ⟨some 9, .bin .sub (.t 6) (.t 8), none⟩,
    ⟨some 1, .mv (.t 9), none⟩]) (
  .seq (.seq (.reg false [⟨some 10, .mv (.t 1), none⟩,
    ⟨some 11, .bin .lss (.t 10) (.c (.v (.int .i64 0))), none⟩]) (
  .cond (.t 11) (.seq (.reg false [⟨some 4, .mv (.c (.v (.int .i64 (-1)))), none⟩]) (
    .ret)) (.skip))) (
  .seq (.seq (.reg false [⟨some 5, .mv (.c (.v (.int .i64 0))), none⟩]) (
  .block 0 (.loop [0, 1, 5] e60x0 b60x0))) (
  .seq (.reg false [⟨some 26, .mv (.t 1), none⟩,
    ⟨some 4, .mv (.t 26), none⟩]) (
  .ret))))))⟩
theorem l60x0s (T : Table) (k n : Nat) (l3 : Rows) (n4 : Int) (n5 : Int) : l60x0 T k (n + 1) [(.fz 13 l3), (.v (.int .i64 n4)), (.v (.int .i64 n5))] = (
 bif (decide (n5 < (l3.length : Int))) then (
 tst (decide (0 ≤ n5)) (
 look l3 (Int.toNat n5) fun r6 =>
 cI .i64 r6 0 fun n7 =>
 cS r6 1 fun s8 =>
 cI .i64 r6 2 fun n9 =>
 cL 3 r6 3 fun l10 =>
 cL 1 r6 4 fun l11 =>
 cL 2 r6 5 fun l12 =>
 cI .i64 r6 6 fun n13 =>
 cS r6 7 fun s14 =>
 cI .i64 r6 8 fun n15 =>
 cL 1 r6 9 fun l16 =>
 cL 5 r6 10 fun l17 =>
 cL 2 r6 11 fun l18 =>
 cB r6 12 fun b19 =>
 callT T 136 [(.g [(.v (.int .i64 n7)), (.v (.string s8)), (.v (.int .i64 n9)), (.s 3 l10), (.s 1 l11), (.s 2 l12), (.v (.int .i64 n13)), (.v (.string s14)), (.v (.int .i64 n15)), (.s 1 l16), (.s 5 l17), (.s 2 l18), (.v (.bool b19))]), (.d (.v (.int .i64 n4)))] fun o20 =>
 oD o20.res fun d21 =>
 dI .i64 d21 fun n22 =>
 bif (decide (n22 < 0)) then (
 some (.ret, [(.v (.int .i64 (-1)))])) else (
 l60x0 T k n [(.fz 13 l3), (.v (.int .i64 n22)), (.v (.int .i64 (IntKind.wrap .i64 (n5 + 1))))]))) else (
 some ((.exit 0), [(.v (.int .i64 n4))]))) := by kernel_rfl
theorem a60q (T : Table) (k : Nat) (l1 : Rows) (n2 : Int) : evalF T k a60 [(.d (.s 13 l1)), (.d (.v (.int .i64 n2)))] = (
 bif (decide ((IntKind.wrap .i64 (n2 - (l1.length : Int))) < 0)) then (
 some ⟨(.d (.v (.int .i64 (-1)))), []⟩) else (
 aft (l60x0 T k k [(.fz 13 l1), (.v (.int .i64 (IntKind.wrap .i64 (n2 - (l1.length : Int))))), (.v (.int .i64 0))]) fun e23 ys24 =>
 bif e23.same .ret then (
 aV ys24 0 fun x25 =>
 aI .i64 x25 fun n26 =>
 some ⟨(.d (.v (.int .i64 n26))), []⟩) else (
 bif e23.same (.exit 0) then (
 aV ys24 0 fun x27 =>
 aI .i64 x27 fun n28 =>
 some ⟨(.d (.v (.int .i64 n28))), []⟩) else (
 none)))) := by kernel_rfl
/- loop.example/g00119/laws.szLabel -/

def a236 : AFun := ⟨[.rd, .rd], false, [.t 4], (
  .seq (.reg false [⟨some 2, .box (.t 0), none⟩,
    ⟨some 4, .mv (.c (.v (.int .i64 0))), none⟩]) (
  .seq (.reg false [⟨some 5, .mv (.t 1), none⟩,
    ⟨some 6, .fad 0 (.t 2), none⟩,
    ⟨some 7, .load false [.s] (.t 6), none⟩,
    ⟨some 8, .len true (.t 7), none⟩,
    ⟨some 9, .bin .sub (.t 5) (.t 8), none⟩,
    ⟨some 1, .mv (.t 9), none⟩]) (
  .seq (.seq (.reg false [⟨some 10, .mv (.t 1), none⟩,
    ⟨some 11, .bin .lss (.t 10) (.c (.v (.int .i64 0))), none⟩]) (
  .cond (.t 11) (.seq (.reg false [⟨some 4, .mv (.c (.v (.int .i64 (-1)))), none⟩]) (
    .ret)) (.skip))) (
  .seq (.reg false [⟨some 12, .mv (.t 1), none⟩,
    ⟨some 13, .fad 1 (.t 2), none⟩,
    ⟨some 14, .load false [.s] (.t 13), none⟩,
    ⟨some 15, .len true (.t 14), none⟩,
    ⟨some 16, .bin .sub (.t 12) (.t 15), none⟩,
    ⟨some 1, .mv (.t 16), none⟩]) (
  .seq (.seq (.reg false [⟨some 17, .mv (.t 1), none⟩,
    ⟨some 18, .bin .lss (.t 17) (.c (.v (.int .i64 0))), none⟩]) (
  .cond (.t 18) (.seq (.reg false [⟨some 4, .mv (.c (.v (.int .i64 (-1)))), none⟩]) (
    .ret)) (.skip))) (
  .seq (.reg false [⟨some 19, .mv (.t 1), none⟩,
    ⟨some 4, .mv (.t 19), none⟩]) (
  .ret)))))))⟩

theorem a236q (T : Table) (k : Nat) (s1 : ByteArray) (s2 : ByteArray) (n3 : Int) : evalF T k a236 [(.g [(.v (.string s1)), (.v (.string s2))]), (.d (.v (.int .i64 n3)))] = (
 bif (decide ((IntKind.wrap .i64 (n3 - (s1.size : Int))) < 0)) then (
 some ⟨(.d (.v (.int .i64 (-1)))), []⟩) else (
 bif (decide ((IntKind.wrap .i64 ((IntKind.wrap .i64 (n3 - (s1.size : Int))) - (s2.size : Int))) < 0)) then (
 some ⟨(.d (.v (.int .i64 (-1)))), []⟩) else (
 some ⟨(.d (.v (.int .i64 (IntKind.wrap .i64 ((IntKind.wrap .i64 (n3 - (s1.size : Int))) - (s2.size : Int)))))), []⟩))) := by kernel_rfl
/- loop.example/g00119/laws.szLabelS -/
def b216x0 : ACode := (
  .seq (.seq (.reg false [⟨some 12, .mv (.t 5), none⟩,
    ⟨some 13, .mv (.t 0), none⟩,
    ⟨some 14, .len false (.t 13), none⟩,
    ⟨some 15, .bin .lss (.t 12) (.t 14), none⟩]) (
  .cond (.t 15) (.skip) (.exit 0))) (
  .seq (.block 1 (.seq (.reg false [⟨some 18, .mv (.t 0), none⟩,
      ⟨some 19, .mv (.t 5), none⟩,
      ⟨some 20, .iad 2 (.t 18) (.t 19), none⟩,
      ⟨some 21, .load true [.s, .s] (.t 20), none⟩,
      ⟨some 22, .mv (.t 1), none⟩,
      ⟨some 23, .call (.f 236) [.rd, .rd] false [.c (.i .i64)] [(.t 21), (.t 22)], none⟩,
      ⟨some 1, .mv (.t 23), none⟩]) (
    .seq (.reg false [⟨some 24, .mv (.t 1), none⟩,
      ⟨some 25, .bin .lss (.t 24) (.c (.v (.int .i64 0))), none⟩]) (
    .cond (.t 25) (.seq (.reg false [⟨some 4, .mv (.c (.v (.int .i64 (-1)))), none⟩]) (
      .ret)) (.skip))))) (
  .reg false [⟨some 16, .mv (.t 5), none⟩,
    ⟨some 17, .bin .add (.t 16) (.c (.v (.int .i64 1))), none⟩,
    ⟨some 5, .mv (.t 17), none⟩])))
def e216x0 : Exits := [(.ret, [(4, .c (.i .i64))]), ((.exit 0), [(1, .c (.i .i64))])]
def l216x0 (T : Table) (k : Nat) := loopN (evalC ⟨T, []⟩ k b216x0 (Ex × List AV)) [0, 1, 5] e216x0
def a216 : AFun := ⟨[.rd, .rd], false, [.t 4], (
  .seq (.reg false [⟨some 4, .mv (.c (.v (.int .i64 0))), none⟩]) (
  .seq (.reg false [⟨some 6, .mv (.t 1), none⟩,
    ⟨some 7, .mv (.t 0), none⟩,
    ⟨some 8, .len false (.t 7), none⟩,
    ⟨some 9, .bin .sub (.t 6) (.t 8), none⟩,
    ⟨some 1, .mv (.t 9), none⟩]) (
  .seq (.seq (.reg false [⟨some 10, .mv (.t 1), none⟩,
    ⟨some 11, .bin .lss (.t 10) (.c (.v (.int .i64 0))), none⟩]) (
  .cond (.t 11) (.seq (.reg false [⟨some 4, .mv (.c (.v (.int .i64 (-1)))), none⟩]) (
    .ret)) (.skip))) (
  .seq (.seq (.reg false [⟨some 5, .mv (.c (.v (.int .i64 0))), none⟩]) (
  .block 0 (.loop [0, 1, 5] e216x0 b216x0))) (
  .seq (.reg false [⟨some 26, .mv (.t 1), none⟩,
    ⟨some 4, .mv (.t 26), none⟩]) (
  .ret))))))⟩
theorem l216x0s (T : Table) (k n : Nat) (l3 : Rows) (n4 : Int) (n5 : Int) : l216x0 T k (n + 1) [(.fz 2 l3), (.v (.int .i64 n4)), (.v (.int .i64 n5))] = (
 bif (decide (n5 < (l3.length : Int))) then (
 tst (decide (0 ≤ n5)) (
 look l3 (Int.toNat n5) fun r6 =>
 cS r6 0 fun s7 =>
 cS r6 1 fun s8 =>
 callT T 236 [(.g [(.v (.string s7)), (.v (.string s8))]), (.d (.v (.int .i64 n4)))] fun o9 =>
 oD o9.res fun d10 =>
 dI .i64 d10 fun n11 =>
 bif (decide (n11 < 0)) then (
 some (.ret, [(.v (.int .i64 (-1)))])) else (
 l216x0 T k n [(.fz 2 l3), (.v (.int .i64 n11)), (.v (.int .i64 (IntKind.wrap .i64 (n5 + 1))))]))) else (
 some ((.exit 0), [(.v (.int .i64 n4))]))) := by kernel_rfl
theorem a216q (T : Table) (k : Nat) (l1 : Rows) (n2 : Int) : evalF T k a216 [(.d (.s 2 l1)), (.d (.v (.int .i64 n2)))] = (
 bif (decide ((IntKind.wrap .i64 (n2 - (l1.length : Int))) < 0)) then (
 some ⟨(.d (.v (.int .i64 (-1)))), []⟩) else (
 aft (l216x0 T k k [(.fz 2 l1), (.v (.int .i64 (IntKind.wrap .i64 (n2 - (l1.length : Int))))), (.v (.int .i64 0))]) fun e12 ys13 =>
 bif e12.same .ret then (
 aV ys13 0 fun x14 =>
 aI .i64 x14 fun n15 =>
 some ⟨(.d (.v (.int .i64 n15))), []⟩) else (
 bif e12.same (.exit 0) then (
 aV ys13 0 fun x16 =>
 aI .i64 x16 fun n17 =>
 some ⟨(.d (.v (.int .i64 n17))), []⟩) else (
 none)))) := by kernel_rfl
/- loop.example/g00119/laws.szIsland -/

def a182 : AFun := ⟨[.rd, .rd], false, [.t 4], (
  .seq (.reg false [⟨some 2, .box (.t 0), none⟩,
    ⟨some 4, .mv (.c (.v (.int .i64 0))), none⟩]) (
  .seq (.reg false [⟨some 5, .mv (.t 1), none⟩,
    ⟨some 6, .fad 0 (.t 2), none⟩,
    ⟨some 7, .load false [.s] (.t 6), none⟩,
    ⟨some 8, .len true (.t 7), none⟩,
    ⟨some 9, .bin .sub (.t 5) (.t 8), none⟩,
    ⟨some 1, .mv (.t 9), none⟩]) (
  .seq (.seq (.reg false [⟨some 10, .mv (.t 1), none⟩,
    ⟨some 11, .bin .lss (.t 10) (.c (.v (.int .i64 0))), none⟩]) (
  .cond (.t 11) (.seq (.reg false [⟨some 4, .mv (.c (.v (.int .i64 (-1)))), none⟩]) (
    .ret)) (.skip))) (
  .seq (.reg false [⟨some 12, .fad 1 (.t 2), none⟩,
    ⟨some 13, .load false [(.sl 2)] (.t 12), none⟩,
    ⟨some 14, .mv (.t 1), none⟩,
    ⟨some 15, .call (.f 216) [.rd, .rd] false [.c (.i .i64)] [(.t 13), (.t 14)], none⟩,
    ⟨some 1, .mv (.t 15), none⟩]) (
  .seq (.seq (.reg false [⟨some 16, .mv (.t 1), none⟩,
    ⟨some 17, .bin .lss (.t 16) (.c (.v (.int .i64 0))), none⟩]) (
  .cond (.t 17) (.seq (.reg false [⟨some 4, .mv (.c (.v (.int .i64 (-1)))), none⟩]) (
    .ret)) (.skip))) (
  .seq (.reg false [⟨some 18, .fad 2 (.t 2), none⟩,
    ⟨some 19, .load false [(.sl 1)] (.t 18), none⟩,
    ⟨some 20, .mv (.t 1), none⟩,
    ⟨some 21, .call (.f 63) [.rd, .rd] false [.c (.i .i64)] [(.t 19), (.t 20)], none⟩,
    ⟨some 1, .mv (.t 21), none⟩]) (
  .seq (.seq (.reg false [⟨some 22, .mv (.t 1), none⟩,
    ⟨some 23, .bin .lss (.t 22) (.c (.v (.int .i64 0))), none⟩]) (
  .cond (.t 23) (.seq (.reg false [⟨some 4, .mv (.c (.v (.int .i64 (-1)))), none⟩]) (
    .ret)) (.skip))) (
  .seq (.reg false [⟨some 24, .mv (.t 1), none⟩,
    ⟨some 4, .mv (.t 24), none⟩]) (
  .ret)))))))))⟩

theorem a182q (T : Table) (k : Nat) (s1 : ByteArray) (l2 : Rows) (l3 : Rows) (n4 : Int) (n5 : Int) : evalF T k a182 [(.g [(.v (.string s1)), (.s 2 l2), (.s 1 l3), (.v (.int .i64 n4))]), (.d (.v (.int .i64 n5)))] = (
 bif (decide ((IntKind.wrap .i64 (n5 - (s1.size : Int))) < 0)) then (
 some ⟨(.d (.v (.int .i64 (-1)))), []⟩) else (
 callT T 216 [(.d (.s 2 l2)), (.d (.v (.int .i64 (IntKind.wrap .i64 (n5 - (s1.size : Int))))))] fun o6 =>
 oD o6.res fun d7 =>
 dI .i64 d7 fun n8 =>
 bif (decide (n8 < 0)) then (
 some ⟨(.d (.v (.int .i64 (-1)))), []⟩) else (
 callT T 63 [(.d (.s 1 l3)), (.d (.v (.int .i64 n8)))] fun o9 =>
 oD o9.res fun d10 =>
 dI .i64 d10 fun n11 =>
 bif (decide (n11 < 0)) then (
 some ⟨(.d (.v (.int .i64 (-1)))), []⟩) else (
 some ⟨(.d (.v (.int .i64 n11))), []⟩)))) := by kernel_rfl
/- loop.example/g00119/laws.szPost -/

def a137 : AFun := ⟨[.rd, .rd], false, [.t 4], (
  .seq (.reg false [⟨some 2, .box (.t 0), none⟩,
    ⟨some 4, .mv (.c (.v (.int .i64 0))), none⟩]) (
  .seq (.reg false [⟨some 5, .fad 0 (.t 2), none⟩,
    ⟨some 6, .load true [.s, (.sl 2), (.sl 1), (.i .i64)] (.t 5), none⟩,
    ⟨some 7, .mv (.t 1), none⟩,
    ⟨some 8, .call (.f 182) [.rd, .rd] false [.c (.i .i64)] [(.t 6), (.t 7)], none⟩,
    ⟨some 1, .mv (.t 8), none⟩]) (
  .seq (.seq (.reg false [⟨some 9, .mv (.t 1), none⟩,
    ⟨some 10, .bin .lss (.t 9) (.c (.v (.int .i64 0))), none⟩]) (
  .cond (.t 10) (.seq (.reg false [⟨some 4, .mv (.c (.v (.int .i64 (-1)))), none⟩]) (
    .ret)) (.skip))) (
  .seq (.reg false [⟨some 11, .mv (.t 1), none⟩,
    ⟨some 4, .mv (.t 11), none⟩]) (
  .ret)))))⟩

theorem a137q (T : Table) (k : Nat) (s1 : ByteArray) (l2 : Rows) (l3 : Rows) (n4 : Int) (n5 : Int) (n6 : Int) (n7 : Int) : evalF T k a137 [(.g [(.v (.string s1)), (.s 2 l2), (.s 1 l3), (.v (.int .i64 n4)), (.v (.int .i64 n5)), (.v (.int .i64 n6))]), (.d (.v (.int .i64 n7)))] = (
 callT T 182 [(.g [(.v (.string s1)), (.s 2 l2), (.s 1 l3), (.v (.int .i64 n4))]), (.d (.v (.int .i64 n7)))] fun o8 =>
 oD o8.res fun d9 =>
 dI .i64 d9 fun n10 =>
 bif (decide (n10 < 0)) then (
 some ⟨(.d (.v (.int .i64 (-1)))), []⟩) else (
 some ⟨(.d (.v (.int .i64 n10))), []⟩)) := by kernel_rfl
/- loop.example/g00119/laws.szPostS -/
def b61x0 : ACode := (
  .seq (.seq (.reg false [⟨some 12, .mv (.t 5), none⟩,
    ⟨some 13, .mv (.t 0), none⟩,
    ⟨some 14, .len false (.t 13), none⟩,
    ⟨some 15, .bin .lss (.t 12) (.t 14), none⟩]) (
  .cond (.t 15) (.skip) (.exit 0))) (
  .seq (.block 1 (.seq (.reg false [⟨some 18, .mv (.t 0), none⟩,
      ⟨some 19, .mv (.t 5), none⟩,
      ⟨some 20, .iad 6 (.t 18) (.t 19), none⟩,
      ⟨some 21, .load true [.s, (.sl 2), (.sl 1), (.i .i64), (.i .i64), (.i .i64)] (.t 20), none⟩,
      ⟨some 22, .mv (.t 1), none⟩,
      ⟨some 23, .call (.f 137) [.rd, .rd] false [.c (.i .i64)] [(.t 21), (.t 22)], none⟩,
      ⟨some 1, .mv (.t 23), none⟩]) (
    .seq (.reg false [⟨some 24, .mv (.t 1), none⟩,
      ⟨some 25, .bin .lss (.t 24) (.c (.v (.int .i64 0))), none⟩]) (
    .cond (.t 25) (.seq (.reg false [⟨some 4, .mv (.c (.v (.int .i64 (-1)))), none⟩]) (
      .ret)) (.skip))))) (
  .reg false [⟨some 16, .mv (.t 5), none⟩,
    ⟨some 17, .bin .add (.t 16) (.c (.v (.int .i64 1))), none⟩,
    ⟨some 5, .mv (.t 17), none⟩])))
def e61x0 : Exits := [(.ret, [(4, .c (.i .i64))]), ((.exit 0), [(1, .c (.i .i64))])]
def l61x0 (T : Table) (k : Nat) := loopN (evalC ⟨T, []⟩ k b61x0 (Ex × List AV)) [0, 1, 5] e61x0
def a61 : AFun := ⟨[.rd, .rd], false, [.t 4], (
  .seq (.reg false [⟨some 4, .mv (.c (.v (.int .i64 0))), none⟩]) (
  .seq (.reg false [⟨some 6, .mv (.t 1), none⟩,
    ⟨some 7, .mv (.t 0), none⟩,
    ⟨some 8, .len false (.t 7), none⟩,
    ⟨some 9, .bin .sub (.t 6) (.t 8), none⟩,
    ⟨some 1, .mv (.t 9), none⟩]) (
  .seq (.seq (.reg false [⟨some 10, .mv (.t 1), none⟩,
    ⟨some 11, .bin .lss (.t 10) (.c (.v (.int .i64 0))), none⟩]) (
  .cond (.t 11) (.seq (.reg false [⟨some 4, .mv (.c (.v (.int .i64 (-1)))), none⟩]) (
    .ret)) (.skip))) (
  .seq (.seq (.reg false [⟨some 5, .mv (.c (.v (.int .i64 0))), none⟩]) (
  .block 0 (.loop [0, 1, 5] e61x0 b61x0))) (
  .seq (.reg false [⟨some 26, .mv (.t 1), none⟩,
    ⟨some 4, .mv (.t 26), none⟩]) (
  .ret))))))⟩
theorem l61x0s (T : Table) (k n : Nat) (l3 : Rows) (n4 : Int) (n5 : Int) : l61x0 T k (n + 1) [(.fz 6 l3), (.v (.int .i64 n4)), (.v (.int .i64 n5))] = (
 bif (decide (n5 < (l3.length : Int))) then (
 tst (decide (0 ≤ n5)) (
 look l3 (Int.toNat n5) fun r6 =>
 cS r6 0 fun s7 =>
 cL 2 r6 1 fun l8 =>
 cL 1 r6 2 fun l9 =>
 cI .i64 r6 3 fun n10 =>
 cI .i64 r6 4 fun n11 =>
 cI .i64 r6 5 fun n12 =>
 callT T 137 [(.g [(.v (.string s7)), (.s 2 l8), (.s 1 l9), (.v (.int .i64 n10)), (.v (.int .i64 n11)), (.v (.int .i64 n12))]), (.d (.v (.int .i64 n4)))] fun o13 =>
 oD o13.res fun d14 =>
 dI .i64 d14 fun n15 =>
 bif (decide (n15 < 0)) then (
 some (.ret, [(.v (.int .i64 (-1)))])) else (
 l61x0 T k n [(.fz 6 l3), (.v (.int .i64 n15)), (.v (.int .i64 (IntKind.wrap .i64 (n5 + 1))))]))) else (
 some ((.exit 0), [(.v (.int .i64 n4))]))) := by kernel_rfl
theorem a61q (T : Table) (k : Nat) (l1 : Rows) (n2 : Int) : evalF T k a61 [(.d (.s 6 l1)), (.d (.v (.int .i64 n2)))] = (
 bif (decide ((IntKind.wrap .i64 (n2 - (l1.length : Int))) < 0)) then (
 some ⟨(.d (.v (.int .i64 (-1)))), []⟩) else (
 aft (l61x0 T k k [(.fz 6 l1), (.v (.int .i64 (IntKind.wrap .i64 (n2 - (l1.length : Int))))), (.v (.int .i64 0))]) fun e16 ys17 =>
 bif e16.same .ret then (
 aV ys17 0 fun x18 =>
 aI .i64 x18 fun n19 =>
 some ⟨(.d (.v (.int .i64 n19))), []⟩) else (
 bif e16.same (.exit 0) then (
 aV ys17 0 fun x20 =>
 aI .i64 x20 fun n21 =>
 some ⟨(.d (.v (.int .i64 n21))), []⟩) else (
 none)))) := by kernel_rfl
/- loop.example/g00119/laws.szHold -/

def a138 : AFun := ⟨[.rd, .rd], false, [.t 4], (
  .seq (.reg false [⟨some 2, .box (.t 0), none⟩,
    ⟨some 4, .mv (.c (.v (.int .i64 0))), none⟩]) (
  .seq (.reg false [⟨some 5, .mv (.t 1), none⟩,
    ⟨some 6, .fad 1 (.t 2), none⟩,
    ⟨some 7, .load false [.s] (.t 6), none⟩,
    ⟨some 8, .len true (.t 7), none⟩,
    ⟨some 9, .bin .sub (.t 5) (.t 8), none⟩,
    ⟨some 1, .mv (.t 9), none⟩]) (
  .seq (.seq (.reg false [⟨some 10, .mv (.t 1), none⟩,
    ⟨some 11, .bin .lss (.t 10) (.c (.v (.int .i64 0))), none⟩]) (
  .cond (.t 11) (.seq (.reg false [⟨some 4, .mv (.c (.v (.int .i64 (-1)))), none⟩]) (
    .ret)) (.skip))) (
  .seq (.reg false [⟨some 12, .mv (.t 1), none⟩,
    ⟨some 4, .mv (.t 12), none⟩]) (
  .ret)))))⟩

theorem a138q (T : Table) (k : Nat) (n1 : Int) (s2 : ByteArray) (n3 : Int) (n4 : Int) (n5 : Int) (n6 : Int) : evalF T k a138 [(.g [(.v (.int .i64 n1)), (.v (.string s2)), (.v (.int .i64 n3)), (.v (.int .i64 n4)), (.v (.int .i64 n5))]), (.d (.v (.int .i64 n6)))] = (
 bif (decide ((IntKind.wrap .i64 (n6 - (s2.size : Int))) < 0)) then (
 some ⟨(.d (.v (.int .i64 (-1)))), []⟩) else (
 some ⟨(.d (.v (.int .i64 (IntKind.wrap .i64 (n6 - (s2.size : Int)))))), []⟩)) := by kernel_rfl
/- loop.example/g00119/laws.szHoldS -/
def b62x0 : ACode := (
  .seq (.seq (.reg false [⟨some 12, .mv (.t 5), none⟩,
    ⟨some 13, .mv (.t 0), none⟩,
    ⟨some 14, .len false (.t 13), none⟩,
    ⟨some 15, .bin .lss (.t 12) (.t 14), none⟩]) (
  .cond (.t 15) (.skip) (.exit 0))) (
  .seq (.block 1 (.seq (.reg false [⟨some 18, .mv (.t 0), none⟩,
      ⟨some 19, .mv (.t 5), none⟩,
      ⟨some 20, .iad 5 (.t 18) (.t 19), none⟩,
      ⟨some 21, .load true [(.i .i64), .s, (.i .i64), (.i .i64), (.i .i64)] (.t 20), none⟩,
      ⟨some 22, .mv (.t 1), none⟩,
      ⟨some 23, .call (.f 138) [.rd, .rd] false [.c (.i .i64)] [(.t 21), (.t 22)], none⟩,
      ⟨some 1, .mv (.t 23), none⟩]) (
    .seq (.reg false [⟨some 24, .mv (.t 1), none⟩,
      ⟨some 25, .bin .lss (.t 24) (.c (.v (.int .i64 0))), none⟩]) (
    .cond (.t 25) (.seq (.reg false [⟨some 4, .mv (.c (.v (.int .i64 (-1)))), none⟩]) (
      .ret)) (.skip))))) (
  .reg false [⟨some 16, .mv (.t 5), none⟩,
    ⟨some 17, .bin .add (.t 16) (.c (.v (.int .i64 1))), none⟩,
    ⟨some 5, .mv (.t 17), none⟩])))
def e62x0 : Exits := [(.ret, [(4, .c (.i .i64))]), ((.exit 0), [(1, .c (.i .i64))])]
def l62x0 (T : Table) (k : Nat) := loopN (evalC ⟨T, []⟩ k b62x0 (Ex × List AV)) [0, 1, 5] e62x0
def a62 : AFun := ⟨[.rd, .rd], false, [.t 4], (
  .seq (.reg false [⟨some 4, .mv (.c (.v (.int .i64 0))), none⟩]) (
  .seq (.reg false [⟨some 6, .mv (.t 1), none⟩,
    ⟨some 7, .mv (.t 0), none⟩,
    ⟨some 8, .len false (.t 7), none⟩,
    ⟨some 9, .bin .sub (.t 6) (.t 8), none⟩,
    ⟨some 1, .mv (.t 9), none⟩]) (
  .seq (.seq (.reg false [⟨some 10, .mv (.t 1), none⟩,
    ⟨some 11, .bin .lss (.t 10) (.c (.v (.int .i64 0))), none⟩]) (
  .cond (.t 11) (.seq (.reg false [⟨some 4, .mv (.c (.v (.int .i64 (-1)))), none⟩]) (
    .ret)) (.skip))) (
  .seq (.seq (.reg false [⟨some 5, .mv (.c (.v (.int .i64 0))), none⟩]) (
  .block 0 (.loop [0, 1, 5] e62x0 b62x0))) (
  .seq (.reg false [⟨some 26, .mv (.t 1), none⟩,
    ⟨some 4, .mv (.t 26), none⟩]) (
  .ret))))))⟩
theorem l62x0s (T : Table) (k n : Nat) (l3 : Rows) (n4 : Int) (n5 : Int) : l62x0 T k (n + 1) [(.fz 5 l3), (.v (.int .i64 n4)), (.v (.int .i64 n5))] = (
 bif (decide (n5 < (l3.length : Int))) then (
 tst (decide (0 ≤ n5)) (
 look l3 (Int.toNat n5) fun r6 =>
 cI .i64 r6 0 fun n7 =>
 cS r6 1 fun s8 =>
 cI .i64 r6 2 fun n9 =>
 cI .i64 r6 3 fun n10 =>
 cI .i64 r6 4 fun n11 =>
 callT T 138 [(.g [(.v (.int .i64 n7)), (.v (.string s8)), (.v (.int .i64 n9)), (.v (.int .i64 n10)), (.v (.int .i64 n11))]), (.d (.v (.int .i64 n4)))] fun o12 =>
 oD o12.res fun d13 =>
 dI .i64 d13 fun n14 =>
 bif (decide (n14 < 0)) then (
 some (.ret, [(.v (.int .i64 (-1)))])) else (
 l62x0 T k n [(.fz 5 l3), (.v (.int .i64 n14)), (.v (.int .i64 (IntKind.wrap .i64 (n5 + 1))))]))) else (
 some ((.exit 0), [(.v (.int .i64 n4))]))) := by kernel_rfl
theorem a62q (T : Table) (k : Nat) (l1 : Rows) (n2 : Int) : evalF T k a62 [(.d (.s 5 l1)), (.d (.v (.int .i64 n2)))] = (
 bif (decide ((IntKind.wrap .i64 (n2 - (l1.length : Int))) < 0)) then (
 some ⟨(.d (.v (.int .i64 (-1)))), []⟩) else (
 aft (l62x0 T k k [(.fz 5 l1), (.v (.int .i64 (IntKind.wrap .i64 (n2 - (l1.length : Int))))), (.v (.int .i64 0))]) fun e15 ys16 =>
 bif e15.same .ret then (
 aV ys16 0 fun x17 =>
 aI .i64 x17 fun n18 =>
 some ⟨(.d (.v (.int .i64 n18))), []⟩) else (
 bif e15.same (.exit 0) then (
 aV ys16 0 fun x19 =>
 aI .i64 x19 fun n20 =>
 some ⟨(.d (.v (.int .i64 n20))), []⟩) else (
 none)))) := by kernel_rfl
/- loop.example/g00119/laws.szHub -/

def a21 : AFun := ⟨[.rd, .rd], false, [.t 4], (
  .seq (.reg false [⟨some 2, .box (.t 0), none⟩,
    ⟨some 4, .mv (.c (.v (.int .i64 0))), none⟩]) (
  .seq (.reg false [⟨some 5, .fad 3 (.t 2), none⟩,
    ⟨some 6, .load false [(.sl 13)] (.t 5), none⟩,
    ⟨some 7, .mv (.t 1), none⟩,
    ⟨some 8, .call (.f 60) [.rd, .rd] false [.c (.i .i64)] [(.t 6), (.t 7)], none⟩,
    ⟨some 1, .mv (.t 8), none⟩]) (
  .seq (.seq (.reg false [⟨some 9, .mv (.t 1), none⟩,
    ⟨some 10, .bin .lss (.t 9) (.c (.v (.int .i64 0))), none⟩]) (
  .cond (.t 10) (.seq (.reg false [⟨some 4, .mv (.c (.v (.int .i64 (-1)))), none⟩]) (
    .ret)) (.skip))) (
  .seq (.reg false [⟨some 11, .fad 4 (.t 2), none⟩,
    ⟨some 12, .load false [(.sl 6)] (.t 11), none⟩,
    ⟨some 13, .mv (.t 1), none⟩,
    ⟨some 14, .call (.f 61) [.rd, .rd] false [.c (.i .i64)] [(.t 12), (.t 13)], none⟩,
    ⟨some 1, .mv (.t 14), none⟩]) (
  .seq (.seq (.reg false [⟨some 15, .mv (.t 1), none⟩,
    ⟨some 16, .bin .lss (.t 15) (.c (.v (.int .i64 0))), none⟩]) (
  .cond (.t 16) (.seq (.reg false [⟨some 4, .mv (.c (.v (.int .i64 (-1)))), none⟩]) (
    .ret)) (.skip))) (
  .seq (.reg false [⟨some 17, .fad 5 (.t 2), none⟩,
    ⟨some 18, .load false [(.sl 5)] (.t 17), none⟩,
    ⟨some 19, .mv (.t 1), none⟩,
    ⟨some 20, .call (.f 62) [.rd, .rd] false [.c (.i .i64)] [(.t 18), (.t 19)], none⟩,
    ⟨some 1, .mv (.t 20), none⟩]) (
  .seq (.seq (.reg false [⟨some 21, .mv (.t 1), none⟩,
    ⟨some 22, .bin .lss (.t 21) (.c (.v (.int .i64 0))), none⟩]) (
  .cond (.t 22) (.seq (.reg false [⟨some 4, .mv (.c (.v (.int .i64 (-1)))), none⟩]) (
    .ret)) (.skip))) (
  .seq (.reg false [⟨some 23, .fad 6 (.t 2), none⟩,
    ⟨some 24, .load false [(.sl 1)] (.t 23), none⟩,
    ⟨some 25, .mv (.t 1), none⟩,
    ⟨some 26, .call (.f 63) [.rd, .rd] false [.c (.i .i64)] [(.t 24), (.t 25)], none⟩,
    ⟨some 1, .mv (.t 26), none⟩]) (
  .seq (.seq (.reg false [⟨some 27, .mv (.t 1), none⟩,
    ⟨some 28, .bin .lss (.t 27) (.c (.v (.int .i64 0))), none⟩]) (
  .cond (.t 28) (.seq (.reg false [⟨some 4, .mv (.c (.v (.int .i64 (-1)))), none⟩]) (
    .ret)) (.skip))) (
  .seq (.reg false [⟨some 29, .mv (.t 1), none⟩,
    ⟨some 4, .mv (.t 29), none⟩]) (
  .ret)))))))))))⟩

theorem a21q (T : Table) (k : Nat) (n1 : Int) (n2 : Int) (n3 : Int) (l4 : Rows) (l5 : Rows) (l6 : Rows) (l7 : Rows) (n8 : Int) : evalF T k a21 [(.g [(.v (.int .i64 n1)), (.v (.int .i64 n2)), (.v (.int .i64 n3)), (.s 13 l4), (.s 6 l5), (.s 5 l6), (.s 1 l7)]), (.d (.v (.int .i64 n8)))] = (
 callT T 60 [(.d (.s 13 l4)), (.d (.v (.int .i64 n8)))] fun o9 =>
 oD o9.res fun d10 =>
 dI .i64 d10 fun n11 =>
 bif (decide (n11 < 0)) then (
 some ⟨(.d (.v (.int .i64 (-1)))), []⟩) else (
 callT T 61 [(.d (.s 6 l5)), (.d (.v (.int .i64 n11)))] fun o12 =>
 oD o12.res fun d13 =>
 dI .i64 d13 fun n14 =>
 bif (decide (n14 < 0)) then (
 some ⟨(.d (.v (.int .i64 (-1)))), []⟩) else (
 callT T 62 [(.d (.s 5 l6)), (.d (.v (.int .i64 n14)))] fun o15 =>
 oD o15.res fun d16 =>
 dI .i64 d16 fun n17 =>
 bif (decide (n17 < 0)) then (
 some ⟨(.d (.v (.int .i64 (-1)))), []⟩) else (
 callT T 63 [(.d (.s 1 l7)), (.d (.v (.int .i64 n17)))] fun o18 =>
 oD o18.res fun d19 =>
 dI .i64 d19 fun n20 =>
 bif (decide (n20 < 0)) then (
 some ⟨(.d (.v (.int .i64 (-1)))), []⟩) else (
 some ⟨(.d (.v (.int .i64 n20))), []⟩))))) := by kernel_rfl
/- loop.example/g00119/laws.toStringS -/
def b68x0 : ACode := (
  .seq (.seq (.reg false [⟨some 8, .mv (.t 4), none⟩,
    ⟨some 9, .mv (.t 0), none⟩,
    ⟨some 10, .len false (.t 9), none⟩,
    ⟨some 11, .bin .lss (.t 8) (.t 10), none⟩]) (
  .cond (.t 11) (.skip) (.exit 0))) (
  .seq (.block 1 (.reg false [⟨some 14, .mv (.t 3), none⟩,
      ⟨some 15, .mv (.t 4), none⟩,
      ⟨some 16, .mv (.t 0), none⟩,
      ⟨some 17, .mv (.t 4), none⟩,
      ⟨some 18, .iad 1 (.t 16) (.t 17), none⟩,
      ⟨some 19, .load false [.s] (.t 18), none⟩,
      ⟨some 20, .iad 1 (.t 14) (.t 15), none⟩,
      ⟨none, .store 1 (.t 20) (.t 19), none⟩])) (
  .reg false [⟨some 12, .mv (.t 4), none⟩,
    ⟨some 13, .bin .add (.t 12) (.c (.v (.int .i64 1))), none⟩,
    ⟨some 4, .mv (.t 13), none⟩])))
def e68x0 : Exits := [((.exit 0), [(3, .o 1)])]
def l68x0 (T : Table) (k : Nat) := loopN (evalC ⟨T, []⟩ k b68x0 (Ex × List AV)) [0, 3, 4] e68x0
def a68 : AFun := ⟨[.rd], false, [.t 2], (
  .seq (.reg false [⟨some 2, .mv (.c (.o 1 [])), none⟩]) (
  .seq (.reg false [⟨some 5, .mv (.t 0), none⟩,
    ⟨some 6, .len false (.t 5), none⟩,
    ⟨some 7, .mk [(.v (.string ByteArray.empty))] 16 (.t 6) (.t 6), none⟩,
    ⟨some 3, .mv (.t 7), none⟩]) (
  .seq (.seq (.reg false [⟨some 4, .mv (.c (.v (.int .i64 0))), none⟩]) (
  .block 0 (.loop [0, 3, 4] e68x0 b68x0))) (
  .seq (.reg false [⟨some 21, .mv (.t 3), none⟩,
    ⟨some 2, .mv (.t 21), none⟩]) (
  .ret)))))⟩
theorem l68x0s (T : Table) (k n : Nat) (l2 : Rows) (l3 : Rows) (n4 : Int) : l68x0 T k (n + 1) [(.fz 1 l2), (.o 1 l3), (.v (.int .i64 n4))] = (
 bif (decide (n4 < (l2.length : Int))) then (
 tst (decide (0 ≤ n4)) (
 look l2 (Int.toNat n4) fun r5 =>
 cS r5 0 fun s6 =>
 tst (decide (0 ≤ n4) && decide (Int.toNat n4 < l3.length)) (
 l68x0 T k n [(.fz 1 l2), (.o 1 (setD l3 (Int.toNat n4) 0 (.v (.string s6)))), (.v (.int .i64 (IntKind.wrap .i64 (n4 + 1))))]))) else (
 some ((.exit 0), [(.o 1 l3)]))) := by kernel_rfl
theorem a68q (T : Table) (k : Nat) (l1 : Rows) : evalF T k a68 [(.d (.s 1 l1))] = (
 tst (cutOk (l1.length : Int) (l1.length : Int) maxLen && decide (Int.toNat (l1.length : Int) * 16 ≤ maxBytes)) (
 aft (l68x0 T k k [(.fz 1 l1), (.o 1 (List.replicate (Int.toNat (l1.length : Int)) [(.v (.string ByteArray.empty))])), (.v (.int .i64 0))]) fun e7 ys8 =>
 bif e7.same (.exit 0) then (
 aV ys8 0 fun x9 =>
 aO 1 x9 fun l10 =>
 some ⟨(.d (.s 1 l10)), []⟩) else (
 none))) := by kernel_rfl
/- loop.example/g00119/laws.toValueS -/
def b209x0 : ACode := (
  .seq (.seq (.reg false [⟨some 8, .mv (.t 4), none⟩,
    ⟨some 9, .mv (.t 0), none⟩,
    ⟨some 10, .len false (.t 9), none⟩,
    ⟨some 11, .bin .lss (.t 8) (.t 10), none⟩]) (
  .cond (.t 11) (.skip) (.exit 0))) (
  .seq (.block 1 (.reg false [⟨some 14, .mv (.t 3), none⟩,
      ⟨some 15, .mv (.t 4), none⟩,
      ⟨some 16, .mv (.t 0), none⟩,
      ⟨some 17, .mv (.t 4), none⟩,
      ⟨some 18, .iad 5 (.t 16) (.t 17), none⟩,
      ⟨some 19, .load true [(.i .i64), .s, (.i .i64), (.sl 1), (.sl 5)] (.t 18), none⟩,
      ⟨some 20, .call (.f 176) [.rd] false [.g [(.i .i64), .s, (.i .i64), (.sl 1), (.sl 5)]] [(.t 19)], none⟩,
      ⟨some 21, .iad 5 (.t 14) (.t 15), none⟩,
      ⟨none, .store 5 (.t 21) (.t 20), none⟩])) (
  .reg false [⟨some 12, .mv (.t 4), none⟩,
    ⟨some 13, .bin .add (.t 12) (.c (.v (.int .i64 1))), none⟩,
    ⟨some 4, .mv (.t 13), none⟩])))
def e209x0 : Exits := [((.exit 0), [(3, .o 5)])]
def l209x0 (T : Table) (k : Nat) := loopN (evalC ⟨T, []⟩ k b209x0 (Ex × List AV)) [0, 3, 4] e209x0
def a209 : AFun := ⟨[.rd], false, [.t 2], (
  .seq (.reg false [⟨some 2, .mv (.c (.o 5 [])), none⟩]) (
  .seq (.reg false [⟨some 5, .mv (.t 0), none⟩,
    ⟨some 6, .len false (.t 5), none⟩,
    ⟨some 7, .mk [(.v (.int .i64 0)), (.v (.string ByteArray.empty)), (.v (.int .i64 0)), (.s 1 []), (.s 5 [])] 80 (.t 6) (.t 6), none⟩,
    ⟨some 3, .mv (.t 7), none⟩]) (
  .seq (.seq (.reg false [⟨some 4, .mv (.c (.v (.int .i64 0))), none⟩]) (
  .block 0 (.loop [0, 3, 4] e209x0 b209x0))) (
  .seq (.reg false [⟨some 22, .mv (.t 3), none⟩,
    ⟨some 2, .mv (.t 22), none⟩]) (
  .ret)))))⟩
theorem l209x0s (T : Table) (k n : Nat) (l2 : Rows) (l3 : Rows) (n4 : Int) : l209x0 T k (n + 1) [(.fz 5 l2), (.o 5 l3), (.v (.int .i64 n4))] = (
 bif (decide (n4 < (l2.length : Int))) then (
 tst (decide (0 ≤ n4)) (
 look l2 (Int.toNat n4) fun r5 =>
 cI .i64 r5 0 fun n6 =>
 cS r5 1 fun s7 =>
 cI .i64 r5 2 fun n8 =>
 cL 1 r5 3 fun l9 =>
 cL 5 r5 4 fun l10 =>
 callT T 176 [(.g [(.v (.int .i64 n6)), (.v (.string s7)), (.v (.int .i64 n8)), (.s 1 l9), (.s 5 l10)])] fun o11 =>
 oG o11.res fun r12 =>
 tst (Nat.beq r12.length 5) (
 cI .i64 r12 0 fun n13 =>
 cS r12 1 fun s14 =>
 cI .i64 r12 2 fun n15 =>
 cL 1 r12 3 fun l16 =>
 cL 5 r12 4 fun l17 =>
 tst (decide (0 ≤ n4) && decide (Int.toNat n4 < l3.length)) (
 l209x0 T k n [(.fz 5 l2), (.o 5 (setD (setD (setD (setD (setD (setD (setD l3 (Int.toNat n4) 0 (.v (.int .i64 n13))) (Int.toNat n4) 1 (.v (.string s14))) (Int.toNat n4) 2 (.v (.int .i64 n15))) (Int.toNat n4) 3 hole) (Int.toNat n4) 4 hole) (Int.toNat n4) 4 (.s 5 l17)) (Int.toNat n4) 3 (.s 1 l16))), (.v (.int .i64 (IntKind.wrap .i64 (n4 + 1))))])))) else (
 some ((.exit 0), [(.o 5 l3)]))) := by kernel_rfl
theorem a209q (T : Table) (k : Nat) (l1 : Rows) : evalF T k a209 [(.d (.s 5 l1))] = (
 tst (cutOk (l1.length : Int) (l1.length : Int) maxLen && decide (Int.toNat (l1.length : Int) * 80 ≤ maxBytes)) (
 aft (l209x0 T k k [(.fz 5 l1), (.o 5 (List.replicate (Int.toNat (l1.length : Int)) [(.v (.int .i64 0)), (.v (.string ByteArray.empty)), (.v (.int .i64 0)), (.s 1 []), (.s 5 [])])), (.v (.int .i64 0))]) fun e18 ys19 =>
 bif e18.same (.exit 0) then (
 aV ys19 0 fun x20 =>
 aO 5 x20 fun l21 =>
 some ⟨(.d (.s 5 l21)), []⟩) else (
 none))) := by kernel_rfl
/- loop.example/g00119/laws.toValue -/

def a176 : AFun := ⟨[.rd], false, [.c 2 true [(.i .i64), .s, (.i .i64), (.sl 1), (.sl 5)]], (
  .seq (.reg false [⟨some 1, .box (.t 0), none⟩,
    ⟨some 2, .alloc [(.v (.int .i64 0)), (.v (.string ByteArray.empty)), (.v (.int .i64 0)), (.s 1 []), (.s 5 [])], none⟩]) (
  .seq (.reg false [⟨some 3, .alloc [(.v (.int .i64 0)), (.v (.string ByteArray.empty)), (.v (.int .i64 0)), (.s 1 []), (.s 5 [])], none⟩]) (
  .seq (.reg false [⟨some 4, .fad 0 (.t 1), none⟩,
    ⟨some 5, .load false [(.i .i64)] (.t 4), none⟩,
    ⟨some 6, .fad 0 (.t 3), none⟩,
    ⟨none, .store 1 (.t 6) (.t 5), none⟩]) (
  .seq (.reg false [⟨some 7, .fad 1 (.t 1), none⟩,
    ⟨some 8, .load false [.s] (.t 7), none⟩,
    ⟨some 9, .fad 1 (.t 3), none⟩,
    ⟨none, .store 1 (.t 9) (.t 8), none⟩]) (
  .seq (.reg false [⟨some 10, .fad 2 (.t 1), none⟩,
    ⟨some 11, .load false [(.i .i64)] (.t 10), none⟩,
    ⟨some 12, .fad 2 (.t 3), none⟩,
    ⟨none, .store 1 (.t 12) (.t 11), none⟩]) (
  .seq (.reg false [⟨some 13, .fad 3 (.t 1), none⟩,
    ⟨some 14, .load false [(.sl 1)] (.t 13), none⟩,
    ⟨some 15, .call (.f 68) [.rd] false [.c (.sl 1)] [(.t 14)], none⟩,
    ⟨some 16, .fad 3 (.t 3), none⟩,
    ⟨none, .store 1 (.t 16) (.t 15), none⟩]) (
  .seq (.reg false [⟨some 17, .fad 4 (.t 1), none⟩,
    ⟨some 18, .load false [(.sl 5)] (.t 17), none⟩,
    ⟨some 19, .call (.f 209) [.rd] false [.c (.sl 5)] [(.t 18)], none⟩,
    ⟨some 20, .fad 4 (.t 3), none⟩,
    ⟨none, .store 1 (.t 20) (.t 19), none⟩]) (
  .seq (.reg false [⟨some 21, .load true [(.i .i64), .s, (.i .i64), (.sl 1), (.sl 5)] (.t 3), none⟩,
    ⟨none, .store 5 (.t 2) (.t 21), none⟩]) (
  .ret)))))))))⟩

theorem a176q (T : Table) (k : Nat) (n1 : Int) (s2 : ByteArray) (n3 : Int) (l4 : Rows) (l5 : Rows) : evalF T k a176 [(.g [(.v (.int .i64 n1)), (.v (.string s2)), (.v (.int .i64 n3)), (.s 1 l4), (.s 5 l5)])] = (
 callT T 68 [(.d (.s 1 l4))] fun o6 =>
 oD o6.res fun d7 =>
 dL 1 d7 fun l8 =>
 callT T 209 [(.d (.s 5 l5))] fun o9 =>
 oD o9.res fun d10 =>
 dL 5 d10 fun l11 =>
 some ⟨(.g [(.v (.int .i64 n1)), (.v (.string s2)), (.v (.int .i64 n3)), (.s 1 l8), (.s 5 l11)]), []⟩) := by kernel_rfl
/- loop.example/g00119/laws.toTerm -/

def a237 : AFun := ⟨[.rd], false, [.c 2 true [(.i .i64), .s, (.sl 1)]], (
  .seq (.reg false [⟨some 1, .box (.t 0), none⟩,
    ⟨some 2, .alloc [(.v (.int .i64 0)), (.v (.string ByteArray.empty)), (.s 1 [])], none⟩]) (
  .seq (.reg false [⟨some 3, .alloc [(.v (.int .i64 0)), (.v (.string ByteArray.empty)), (.s 1 [])], none⟩]) (
  .seq (.reg false [⟨some 4, .fad 0 (.t 1), none⟩,
    ⟨some 5, .load false [(.i .i64)] (.t 4), none⟩,
    ⟨some 6, .fad 0 (.t 3), none⟩,
    ⟨none, .store 1 (.t 6) (.t 5), none⟩]) (
  .seq (.reg false [⟨some 7, .fad 1 (.t 1), none⟩,
    ⟨some 8, .load false [.s] (.t 7), none⟩,
    ⟨some 9, .fad 1 (.t 3), none⟩,
    ⟨none, .store 1 (.t 9) (.t 8), none⟩]) (
  .seq (.reg false [⟨some 10, .fad 2 (.t 1), none⟩,
    ⟨some 11, .load false [(.sl 1)] (.t 10), none⟩,
    ⟨some 12, .call (.f 68) [.rd] false [.c (.sl 1)] [(.t 11)], none⟩,
    ⟨some 13, .fad 2 (.t 3), none⟩,
    ⟨none, .store 1 (.t 13) (.t 12), none⟩]) (
  .seq (.reg false [⟨some 14, .load true [(.i .i64), .s, (.sl 1)] (.t 3), none⟩,
    ⟨none, .store 3 (.t 2) (.t 14), none⟩]) (
  .ret)))))))⟩

theorem a237q (T : Table) (k : Nat) (n1 : Int) (s2 : ByteArray) (l3 : Rows) : evalF T k a237 [(.g [(.v (.int .i64 n1)), (.v (.string s2)), (.s 1 l3)])] = (
 callT T 68 [(.d (.s 1 l3))] fun o4 =>
 oD o4.res fun d5 =>
 dL 1 d5 fun l6 =>
 some ⟨(.g [(.v (.int .i64 n1)), (.v (.string s2)), (.s 1 l6)]), []⟩) := by kernel_rfl
/- loop.example/g00119/laws.toTermS -/
def b217x0 : ACode := (
  .seq (.seq (.reg false [⟨some 8, .mv (.t 4), none⟩,
    ⟨some 9, .mv (.t 0), none⟩,
    ⟨some 10, .len false (.t 9), none⟩,
    ⟨some 11, .bin .lss (.t 8) (.t 10), none⟩]) (
  .cond (.t 11) (.skip) (.exit 0))) (
  .seq (.block 1 (.reg false [⟨some 14, .mv (.t 3), none⟩,
      ⟨some 15, .mv (.t 4), none⟩,
      ⟨some 16, .mv (.t 0), none⟩,
      ⟨some 17, .mv (.t 4), none⟩,
      ⟨some 18, .iad 3 (.t 16) (.t 17), none⟩,
      ⟨some 19, .load true [(.i .i64), .s, (.sl 1)] (.t 18), none⟩,
      ⟨some 20, .call (.f 237) [.rd] false [.g [(.i .i64), .s, (.sl 1)]] [(.t 19)], none⟩,
      ⟨some 21, .iad 3 (.t 14) (.t 15), none⟩,
      ⟨none, .store 3 (.t 21) (.t 20), none⟩])) (
  .reg false [⟨some 12, .mv (.t 4), none⟩,
    ⟨some 13, .bin .add (.t 12) (.c (.v (.int .i64 1))), none⟩,
    ⟨some 4, .mv (.t 13), none⟩])))
def e217x0 : Exits := [((.exit 0), [(3, .o 3)])]
def l217x0 (T : Table) (k : Nat) := loopN (evalC ⟨T, []⟩ k b217x0 (Ex × List AV)) [0, 3, 4] e217x0
def a217 : AFun := ⟨[.rd], false, [.t 2], (
  .seq (.reg false [⟨some 2, .mv (.c (.o 3 [])), none⟩]) (
  .seq (.reg false [⟨some 5, .mv (.t 0), none⟩,
    ⟨some 6, .len false (.t 5), none⟩,
    ⟨some 7, .mk [(.v (.int .i64 0)), (.v (.string ByteArray.empty)), (.s 1 [])] 48 (.t 6) (.t 6), none⟩,
    ⟨some 3, .mv (.t 7), none⟩]) (
  .seq (.seq (.reg false [⟨some 4, .mv (.c (.v (.int .i64 0))), none⟩]) (
  .block 0 (.loop [0, 3, 4] e217x0 b217x0))) (
  .seq (.reg false [⟨some 22, .mv (.t 3), none⟩,
    ⟨some 2, .mv (.t 22), none⟩]) (
  .ret)))))⟩
theorem l217x0s (T : Table) (k n : Nat) (l2 : Rows) (l3 : Rows) (n4 : Int) : l217x0 T k (n + 1) [(.fz 3 l2), (.o 3 l3), (.v (.int .i64 n4))] = (
 bif (decide (n4 < (l2.length : Int))) then (
 tst (decide (0 ≤ n4)) (
 look l2 (Int.toNat n4) fun r5 =>
 cI .i64 r5 0 fun n6 =>
 cS r5 1 fun s7 =>
 cL 1 r5 2 fun l8 =>
 callT T 237 [(.g [(.v (.int .i64 n6)), (.v (.string s7)), (.s 1 l8)])] fun o9 =>
 oG o9.res fun r10 =>
 tst (Nat.beq r10.length 3) (
 cI .i64 r10 0 fun n11 =>
 cS r10 1 fun s12 =>
 cL 1 r10 2 fun l13 =>
 tst (decide (0 ≤ n4) && decide (Int.toNat n4 < l3.length)) (
 l217x0 T k n [(.fz 3 l2), (.o 3 (setD (setD (setD (setD l3 (Int.toNat n4) 0 (.v (.int .i64 n11))) (Int.toNat n4) 1 (.v (.string s12))) (Int.toNat n4) 2 hole) (Int.toNat n4) 2 (.s 1 l13))), (.v (.int .i64 (IntKind.wrap .i64 (n4 + 1))))])))) else (
 some ((.exit 0), [(.o 3 l3)]))) := by kernel_rfl
theorem a217q (T : Table) (k : Nat) (l1 : Rows) : evalF T k a217 [(.d (.s 3 l1))] = (
 tst (cutOk (l1.length : Int) (l1.length : Int) maxLen && decide (Int.toNat (l1.length : Int) * 48 ≤ maxBytes)) (
 aft (l217x0 T k k [(.fz 3 l1), (.o 3 (List.replicate (Int.toNat (l1.length : Int)) [(.v (.int .i64 0)), (.v (.string ByteArray.empty)), (.s 1 [])])), (.v (.int .i64 0))]) fun e14 ys15 =>
 bif e14.same (.exit 0) then (
 aV ys15 0 fun x16 =>
 aO 3 x16 fun l17 =>
 some ⟨(.d (.s 3 l17)), []⟩) else (
 none))) := by kernel_rfl
/- loop.example/g00119/laws.toWeigh -/

def a238 : AFun := ⟨[.rd], false, [.c 2 true [.s, (.i .i64)]], (
  .seq (.reg false [⟨some 1, .box (.t 0), none⟩,
    ⟨some 2, .alloc [(.v (.string ByteArray.empty)), (.v (.int .i64 0))], none⟩]) (
  .seq (.reg false [⟨some 3, .alloc [(.v (.string ByteArray.empty)), (.v (.int .i64 0))], none⟩]) (
  .seq (.reg false [⟨some 4, .fad 0 (.t 1), none⟩,
    ⟨some 5, .load false [.s] (.t 4), none⟩,
    ⟨some 6, .fad 0 (.t 3), none⟩,
    ⟨none, .store 1 (.t 6) (.t 5), none⟩]) (
  .seq (.reg false [⟨some 7, .fad 1 (.t 1), none⟩,
    ⟨some 8, .load false [(.i .i64)] (.t 7), none⟩,
    ⟨some 9, .fad 1 (.t 3), none⟩,
    ⟨none, .store 1 (.t 9) (.t 8), none⟩]) (
  .seq (.reg false [⟨some 10, .load true [.s, (.i .i64)] (.t 3), none⟩,
    ⟨none, .store 2 (.t 2) (.t 10), none⟩]) (
  .ret))))))⟩

theorem a238q (T : Table) (k : Nat) (s1 : ByteArray) (n2 : Int) : evalF T k a238 [(.g [(.v (.string s1)), (.v (.int .i64 n2))])] = (
 some ⟨(.g [(.v (.string s1)), (.v (.int .i64 n2))]), []⟩) := by kernel_rfl
/- loop.example/g00119/laws.toWeighS -/
def b218x0 : ACode := (
  .seq (.seq (.reg false [⟨some 8, .mv (.t 4), none⟩,
    ⟨some 9, .mv (.t 0), none⟩,
    ⟨some 10, .len false (.t 9), none⟩,
    ⟨some 11, .bin .lss (.t 8) (.t 10), none⟩]) (
  .cond (.t 11) (.skip) (.exit 0))) (
  .seq (.block 1 (.reg false [⟨some 14, .mv (.t 3), none⟩,
      ⟨some 15, .mv (.t 4), none⟩,
      ⟨some 16, .mv (.t 0), none⟩,
      ⟨some 17, .mv (.t 4), none⟩,
      ⟨some 18, .iad 2 (.t 16) (.t 17), none⟩,
      ⟨some 19, .load true [.s, (.i .i64)] (.t 18), none⟩,
      ⟨some 20, .call (.f 238) [.rd] false [.g [.s, (.i .i64)]] [(.t 19)], none⟩,
      ⟨some 21, .iad 2 (.t 14) (.t 15), none⟩,
      ⟨none, .store 2 (.t 21) (.t 20), none⟩])) (
  .reg false [⟨some 12, .mv (.t 4), none⟩,
    ⟨some 13, .bin .add (.t 12) (.c (.v (.int .i64 1))), none⟩,
    ⟨some 4, .mv (.t 13), none⟩])))
def e218x0 : Exits := [((.exit 0), [(3, .o 2)])]
def l218x0 (T : Table) (k : Nat) := loopN (evalC ⟨T, []⟩ k b218x0 (Ex × List AV)) [0, 3, 4] e218x0
def a218 : AFun := ⟨[.rd], false, [.t 2], (
  .seq (.reg false [⟨some 2, .mv (.c (.o 2 [])), none⟩]) (
  .seq (.reg false [⟨some 5, .mv (.t 0), none⟩,
    ⟨some 6, .len false (.t 5), none⟩,
    ⟨some 7, .mk [(.v (.string ByteArray.empty)), (.v (.int .i64 0))] 24 (.t 6) (.t 6), none⟩,
    ⟨some 3, .mv (.t 7), none⟩]) (
  .seq (.seq (.reg false [⟨some 4, .mv (.c (.v (.int .i64 0))), none⟩]) (
  .block 0 (.loop [0, 3, 4] e218x0 b218x0))) (
  .seq (.reg false [⟨some 22, .mv (.t 3), none⟩,
    ⟨some 2, .mv (.t 22), none⟩]) (
  .ret)))))⟩
theorem l218x0s (T : Table) (k n : Nat) (l2 : Rows) (l3 : Rows) (n4 : Int) : l218x0 T k (n + 1) [(.fz 2 l2), (.o 2 l3), (.v (.int .i64 n4))] = (
 bif (decide (n4 < (l2.length : Int))) then (
 tst (decide (0 ≤ n4)) (
 look l2 (Int.toNat n4) fun r5 =>
 cS r5 0 fun s6 =>
 cI .i64 r5 1 fun n7 =>
 callT T 238 [(.g [(.v (.string s6)), (.v (.int .i64 n7))])] fun o8 =>
 oG o8.res fun r9 =>
 tst (Nat.beq r9.length 2) (
 cS r9 0 fun s10 =>
 cI .i64 r9 1 fun n11 =>
 tst (decide (0 ≤ n4) && decide (Int.toNat n4 < l3.length)) (
 l218x0 T k n [(.fz 2 l2), (.o 2 (setD (setD l3 (Int.toNat n4) 0 (.v (.string s10))) (Int.toNat n4) 1 (.v (.int .i64 n11)))), (.v (.int .i64 (IntKind.wrap .i64 (n4 + 1))))])))) else (
 some ((.exit 0), [(.o 2 l3)]))) := by kernel_rfl
theorem a218q (T : Table) (k : Nat) (l1 : Rows) : evalF T k a218 [(.d (.s 2 l1))] = (
 tst (cutOk (l1.length : Int) (l1.length : Int) maxLen && decide (Int.toNat (l1.length : Int) * 24 ≤ maxBytes)) (
 aft (l218x0 T k k [(.fz 2 l1), (.o 2 (List.replicate (Int.toNat (l1.length : Int)) [(.v (.string ByteArray.empty)), (.v (.int .i64 0))])), (.v (.int .i64 0))]) fun e12 ys13 =>
 bif e12.same (.exit 0) then (
 aV ys13 0 fun x14 =>
 aO 2 x14 fun l15 =>
 some ⟨(.d (.s 2 l15)), []⟩) else (
 none))) := by kernel_rfl
/- loop.example/g00119/laws.toWant -/

def a183 : AFun := ⟨[.rd], false, [.c 2 true [(.i .i64), (.sl 3), (.sl 1), (.sl 2)]], (
  .seq (.reg false [⟨some 1, .box (.t 0), none⟩,
    ⟨some 2, .alloc [(.v (.int .i64 0)), (.s 3 []), (.s 1 []), (.s 2 [])], none⟩]) (
  .seq (.reg false [⟨some 3, .alloc [(.v (.int .i64 0)), (.s 3 []), (.s 1 []), (.s 2 [])], none⟩]) (
  .seq (.reg false [⟨some 4, .fad 0 (.t 1), none⟩,
    ⟨some 5, .load false [(.i .i64)] (.t 4), none⟩,
    ⟨some 6, .fad 0 (.t 3), none⟩,
    ⟨none, .store 1 (.t 6) (.t 5), none⟩]) (
  .seq (.reg false [⟨some 7, .fad 1 (.t 1), none⟩,
    ⟨some 8, .load false [(.sl 3)] (.t 7), none⟩,
    ⟨some 9, .call (.f 217) [.rd] false [.c (.sl 3)] [(.t 8)], none⟩,
    ⟨some 10, .fad 1 (.t 3), none⟩,
    ⟨none, .store 1 (.t 10) (.t 9), none⟩]) (
  .seq (.reg false [⟨some 11, .fad 2 (.t 1), none⟩,
    ⟨some 12, .load false [(.sl 1)] (.t 11), none⟩,
    ⟨some 13, .call (.f 68) [.rd] false [.c (.sl 1)] [(.t 12)], none⟩,
    ⟨some 14, .fad 2 (.t 3), none⟩,
    ⟨none, .store 1 (.t 14) (.t 13), none⟩]) (
  .seq (.reg false [⟨some 15, .fad 3 (.t 1), none⟩,
    ⟨some 16, .load false [(.sl 2)] (.t 15), none⟩,
    ⟨some 17, .call (.f 218) [.rd] false [.c (.sl 2)] [(.t 16)], none⟩,
    ⟨some 18, .fad 3 (.t 3), none⟩,
    ⟨none, .store 1 (.t 18) (.t 17), none⟩]) (
  .seq (.reg false [⟨some 19, .load true [(.i .i64), (.sl 3), (.sl 1), (.sl 2)] (.t 3), none⟩,
    ⟨none, .store 4 (.t 2) (.t 19), none⟩]) (
  .ret))))))))⟩

theorem a183q (T : Table) (k : Nat) (n1 : Int) (l2 : Rows) (l3 : Rows) (l4 : Rows) : evalF T k a183 [(.g [(.v (.int .i64 n1)), (.s 3 l2), (.s 1 l3), (.s 2 l4)])] = (
 callT T 217 [(.d (.s 3 l2))] fun o5 =>
 oD o5.res fun d6 =>
 dL 3 d6 fun l7 =>
 callT T 68 [(.d (.s 1 l3))] fun o8 =>
 oD o8.res fun d9 =>
 dL 1 d9 fun l10 =>
 callT T 218 [(.d (.s 2 l4))] fun o11 =>
 oD o11.res fun d12 =>
 dL 2 d12 fun l13 =>
 some ⟨(.g [(.v (.int .i64 n1)), (.s 3 l7), (.s 1 l10), (.s 2 l13)]), []⟩) := by kernel_rfl
/- loop.example/g00119/laws.toOp -/

def a249 : AFun := ⟨[.rd], false, [.c 2 true [(.i .i64), (.sl 1), (.i .i64), .s, (.i .i64), (.sl 1), (.sl 5)]], (
  .seq (.reg false [⟨some 1, .box (.t 0), none⟩,
    ⟨some 2, .alloc [(.v (.int .i64 0)), (.s 1 []), (.v (.int .i64 0)), (.v (.string ByteArray.empty)), (.v (.int .i64 0)), (.s 1 []), (.s 5 [])], none⟩]) (
  .seq (.reg false [⟨some 3, .alloc [(.v (.int .i64 0)), (.s 1 []), (.v (.int .i64 0)), (.v (.string ByteArray.empty)), (.v (.int .i64 0)), (.s 1 []), (.s 5 [])], none⟩]) (
  .seq (.reg false [⟨some 4, .fad 0 (.t 1), none⟩,
    ⟨some 5, .load false [(.i .i64)] (.t 4), none⟩,
    ⟨some 6, .fad 0 (.t 3), none⟩,
    ⟨none, .store 1 (.t 6) (.t 5), none⟩]) (
  .seq (.reg false [⟨some 7, .fad 1 (.t 1), none⟩,
    ⟨some 8, .load false [(.sl 1)] (.t 7), none⟩,
    ⟨some 9, .call (.f 68) [.rd] false [.c (.sl 1)] [(.t 8)], none⟩,
    ⟨some 10, .fad 1 (.t 3), none⟩,
    ⟨none, .store 1 (.t 10) (.t 9), none⟩]) (
  .seq (.reg false [⟨some 11, .fad 2 (.t 1), none⟩,
    ⟨some 12, .load true [(.i .i64), .s, (.i .i64), (.sl 1), (.sl 5)] (.t 11), none⟩,
    ⟨some 13, .call (.f 176) [.rd] false [.g [(.i .i64), .s, (.i .i64), (.sl 1), (.sl 5)]] [(.t 12)], none⟩,
    ⟨some 14, .fad 2 (.t 3), none⟩,
    ⟨none, .store 5 (.t 14) (.t 13), none⟩]) (
  .seq (.reg false [⟨some 15, .load true [(.i .i64), (.sl 1), (.i .i64), .s, (.i .i64), (.sl 1), (.sl 5)] (.t 3), none⟩,
    ⟨none, .store 7 (.t 2) (.t 15), none⟩]) (
  .ret)))))))⟩

theorem a249q (T : Table) (k : Nat) (n1 : Int) (l2 : Rows) (n3 : Int) (s4 : ByteArray) (n5 : Int) (l6 : Rows) (l7 : Rows) : evalF T k a249 [(.g [(.v (.int .i64 n1)), (.s 1 l2), (.v (.int .i64 n3)), (.v (.string s4)), (.v (.int .i64 n5)), (.s 1 l6), (.s 5 l7)])] = (
 callT T 68 [(.d (.s 1 l2))] fun o8 =>
 oD o8.res fun d9 =>
 dL 1 d9 fun l10 =>
 callT T 176 [(.g [(.v (.int .i64 n3)), (.v (.string s4)), (.v (.int .i64 n5)), (.s 1 l6), (.s 5 l7)])] fun o11 =>
 oG o11.res fun r12 =>
 tst (Nat.beq r12.length 5) (
 cI .i64 r12 0 fun n13 =>
 cS r12 1 fun s14 =>
 cI .i64 r12 2 fun n15 =>
 cL 1 r12 3 fun l16 =>
 cL 5 r12 4 fun l17 =>
 some ⟨(.g [(.v (.int .i64 n1)), (.s 1 l10), (.v (.int .i64 n13)), (.v (.string s14)), (.v (.int .i64 n15)), (.s 1 l16), (.s 5 l17)]), []⟩)) := by kernel_rfl
/- loop.example/g00119/laws.toOpS -/
def b239x0 : ACode := (
  .seq (.seq (.reg false [⟨some 8, .mv (.t 4), none⟩,
    ⟨some 9, .mv (.t 0), none⟩,
    ⟨some 10, .len false (.t 9), none⟩,
    ⟨some 11, .bin .lss (.t 8) (.t 10), none⟩]) (
  .cond (.t 11) (.skip) (.exit 0))) (
  .seq (.block 1 (.reg false [⟨some 14, .mv (.t 3), none⟩,
      ⟨some 15, .mv (.t 4), none⟩,
      ⟨some 16, .mv (.t 0), none⟩,
      ⟨some 17, .mv (.t 4), none⟩,
      ⟨some 18, .iad 7 (.t 16) (.t 17), none⟩,
      ⟨some 19, .load true [(.i .i64), (.sl 1), (.i .i64), .s, (.i .i64), (.sl 1), (.sl 5)] (.t 18), none⟩,
      ⟨some 20, .call (.f 249) [.rd] false [.g [(.i .i64), (.sl 1), (.i .i64), .s, (.i .i64), (.sl 1), (.sl 5)]] [(.t 19)], none⟩,
      ⟨some 21, .iad 7 (.t 14) (.t 15), none⟩,
      ⟨none, .store 7 (.t 21) (.t 20), none⟩])) (
  .reg false [⟨some 12, .mv (.t 4), none⟩,
    ⟨some 13, .bin .add (.t 12) (.c (.v (.int .i64 1))), none⟩,
    ⟨some 4, .mv (.t 13), none⟩])))
def e239x0 : Exits := [((.exit 0), [(3, .o 7)])]
def l239x0 (T : Table) (k : Nat) := loopN (evalC ⟨T, []⟩ k b239x0 (Ex × List AV)) [0, 3, 4] e239x0
def a239 : AFun := ⟨[.rd], false, [.t 2], (
  .seq (.reg false [⟨some 2, .mv (.c (.o 7 [])), none⟩]) (
  .seq (.reg false [⟨some 5, .mv (.t 0), none⟩,
    ⟨some 6, .len false (.t 5), none⟩,
    ⟨some 7, .mk [(.v (.int .i64 0)), (.s 1 []), (.v (.int .i64 0)), (.v (.string ByteArray.empty)), (.v (.int .i64 0)), (.s 1 []), (.s 5 [])] 112 (.t 6) (.t 6), none⟩,
    ⟨some 3, .mv (.t 7), none⟩]) (
  .seq (.seq (.reg false [⟨some 4, .mv (.c (.v (.int .i64 0))), none⟩]) (
  .block 0 (.loop [0, 3, 4] e239x0 b239x0))) (
  .seq (.reg false [⟨some 22, .mv (.t 3), none⟩,
    ⟨some 2, .mv (.t 22), none⟩]) (
  .ret)))))⟩
theorem l239x0s (T : Table) (k n : Nat) (l2 : Rows) (l3 : Rows) (n4 : Int) : l239x0 T k (n + 1) [(.fz 7 l2), (.o 7 l3), (.v (.int .i64 n4))] = (
 bif (decide (n4 < (l2.length : Int))) then (
 tst (decide (0 ≤ n4)) (
 look l2 (Int.toNat n4) fun r5 =>
 cI .i64 r5 0 fun n6 =>
 cL 1 r5 1 fun l7 =>
 cI .i64 r5 2 fun n8 =>
 cS r5 3 fun s9 =>
 cI .i64 r5 4 fun n10 =>
 cL 1 r5 5 fun l11 =>
 cL 5 r5 6 fun l12 =>
 callT T 249 [(.g [(.v (.int .i64 n6)), (.s 1 l7), (.v (.int .i64 n8)), (.v (.string s9)), (.v (.int .i64 n10)), (.s 1 l11), (.s 5 l12)])] fun o13 =>
 oG o13.res fun r14 =>
 tst (Nat.beq r14.length 7) (
 cI .i64 r14 0 fun n15 =>
 cL 1 r14 1 fun l16 =>
 cI .i64 r14 2 fun n17 =>
 cS r14 3 fun s18 =>
 cI .i64 r14 4 fun n19 =>
 cL 1 r14 5 fun l20 =>
 cL 5 r14 6 fun l21 =>
 tst (decide (0 ≤ n4) && decide (Int.toNat n4 < l3.length)) (
 l239x0 T k n [(.fz 7 l2), (.o 7 (setD (setD (setD (setD (setD (setD (setD (setD (setD (setD l3 (Int.toNat n4) 0 (.v (.int .i64 n15))) (Int.toNat n4) 1 hole) (Int.toNat n4) 2 (.v (.int .i64 n17))) (Int.toNat n4) 3 (.v (.string s18))) (Int.toNat n4) 4 (.v (.int .i64 n19))) (Int.toNat n4) 5 hole) (Int.toNat n4) 6 hole) (Int.toNat n4) 6 (.s 5 l21)) (Int.toNat n4) 5 (.s 1 l20)) (Int.toNat n4) 1 (.s 1 l16))), (.v (.int .i64 (IntKind.wrap .i64 (n4 + 1))))])))) else (
 some ((.exit 0), [(.o 7 l3)]))) := by kernel_rfl
theorem a239q (T : Table) (k : Nat) (l1 : Rows) : evalF T k a239 [(.d (.s 7 l1))] = (
 tst (cutOk (l1.length : Int) (l1.length : Int) maxLen && decide (Int.toNat (l1.length : Int) * 112 ≤ maxBytes)) (
 aft (l239x0 T k k [(.fz 7 l1), (.o 7 (List.replicate (Int.toNat (l1.length : Int)) [(.v (.int .i64 0)), (.s 1 []), (.v (.int .i64 0)), (.v (.string ByteArray.empty)), (.v (.int .i64 0)), (.s 1 []), (.s 5 [])])), (.v (.int .i64 0))]) fun e22 ys23 =>
 bif e22.same (.exit 0) then (
 aV ys23 0 fun x24 =>
 aO 7 x24 fun l25 =>
 some ⟨(.d (.s 7 l25)), []⟩) else (
 none))) := by kernel_rfl
/- loop.example/g00119/laws.toOver -/

def a219 : AFun := ⟨[.rd], false, [.c 2 true [.s, (.sl 7)]], (
  .seq (.reg false [⟨some 1, .box (.t 0), none⟩,
    ⟨some 2, .alloc [(.v (.string ByteArray.empty)), (.s 7 [])], none⟩]) (
  .seq (.reg false [⟨some 3, .alloc [(.v (.string ByteArray.empty)), (.s 7 [])], none⟩]) (
  .seq (.reg false [⟨some 4, .fad 0 (.t 1), none⟩,
    ⟨some 5, .load false [.s] (.t 4), none⟩,
    ⟨some 6, .fad 0 (.t 3), none⟩,
    ⟨none, .store 1 (.t 6) (.t 5), none⟩]) (
  .seq (.reg false [⟨some 7, .fad 1 (.t 1), none⟩,
    ⟨some 8, .load false [(.sl 7)] (.t 7), none⟩,
    ⟨some 9, .call (.f 239) [.rd] false [.c (.sl 7)] [(.t 8)], none⟩,
    ⟨some 10, .fad 1 (.t 3), none⟩,
    ⟨none, .store 1 (.t 10) (.t 9), none⟩]) (
  .seq (.reg false [⟨some 11, .load true [.s, (.sl 7)] (.t 3), none⟩,
    ⟨none, .store 2 (.t 2) (.t 11), none⟩]) (
  .ret))))))⟩

theorem a219q (T : Table) (k : Nat) (s1 : ByteArray) (l2 : Rows) : evalF T k a219 [(.g [(.v (.string s1)), (.s 7 l2)])] = (
 callT T 239 [(.d (.s 7 l2))] fun o3 =>
 oD o3.res fun d4 =>
 dL 7 d4 fun l5 =>
 some ⟨(.g [(.v (.string s1)), (.s 7 l5)]), []⟩) := by kernel_rfl
/- loop.example/g00119/laws.toOverS -/
def b184x0 : ACode := (
  .seq (.seq (.reg false [⟨some 8, .mv (.t 4), none⟩,
    ⟨some 9, .mv (.t 0), none⟩,
    ⟨some 10, .len false (.t 9), none⟩,
    ⟨some 11, .bin .lss (.t 8) (.t 10), none⟩]) (
  .cond (.t 11) (.skip) (.exit 0))) (
  .seq (.block 1 (.reg false [⟨some 14, .mv (.t 3), none⟩,
      ⟨some 15, .mv (.t 4), none⟩,
      ⟨some 16, .mv (.t 0), none⟩,
      ⟨some 17, .mv (.t 4), none⟩,
      ⟨some 18, .iad 2 (.t 16) (.t 17), none⟩,
      ⟨some 19, .load true [.s, (.sl 7)] (.t 18), none⟩,
      ⟨some 20, .call (.f 219) [.rd] false [.g [.s, (.sl 7)]] [(.t 19)], none⟩,
      ⟨some 21, .iad 2 (.t 14) (.t 15), none⟩,
      ⟨none, .store 2 (.t 21) (.t 20), none⟩])) (
  .reg false [⟨some 12, .mv (.t 4), none⟩,
    ⟨some 13, .bin .add (.t 12) (.c (.v (.int .i64 1))), none⟩,
    ⟨some 4, .mv (.t 13), none⟩])))
def e184x0 : Exits := [((.exit 0), [(3, .o 2)])]
def l184x0 (T : Table) (k : Nat) := loopN (evalC ⟨T, []⟩ k b184x0 (Ex × List AV)) [0, 3, 4] e184x0
def a184 : AFun := ⟨[.rd], false, [.t 2], (
  .seq (.reg false [⟨some 2, .mv (.c (.o 2 [])), none⟩]) (
  .seq (.reg false [⟨some 5, .mv (.t 0), none⟩,
    ⟨some 6, .len false (.t 5), none⟩,
    ⟨some 7, .mk [(.v (.string ByteArray.empty)), (.s 7 [])] 40 (.t 6) (.t 6), none⟩,
    ⟨some 3, .mv (.t 7), none⟩]) (
  .seq (.seq (.reg false [⟨some 4, .mv (.c (.v (.int .i64 0))), none⟩]) (
  .block 0 (.loop [0, 3, 4] e184x0 b184x0))) (
  .seq (.reg false [⟨some 22, .mv (.t 3), none⟩,
    ⟨some 2, .mv (.t 22), none⟩]) (
  .ret)))))⟩
theorem l184x0s (T : Table) (k n : Nat) (l2 : Rows) (l3 : Rows) (n4 : Int) : l184x0 T k (n + 1) [(.fz 2 l2), (.o 2 l3), (.v (.int .i64 n4))] = (
 bif (decide (n4 < (l2.length : Int))) then (
 tst (decide (0 ≤ n4)) (
 look l2 (Int.toNat n4) fun r5 =>
 cS r5 0 fun s6 =>
 cL 7 r5 1 fun l7 =>
 callT T 219 [(.g [(.v (.string s6)), (.s 7 l7)])] fun o8 =>
 oG o8.res fun r9 =>
 tst (Nat.beq r9.length 2) (
 cS r9 0 fun s10 =>
 cL 7 r9 1 fun l11 =>
 tst (decide (0 ≤ n4) && decide (Int.toNat n4 < l3.length)) (
 l184x0 T k n [(.fz 2 l2), (.o 2 (setD (setD (setD l3 (Int.toNat n4) 0 (.v (.string s10))) (Int.toNat n4) 1 hole) (Int.toNat n4) 1 (.s 7 l11))), (.v (.int .i64 (IntKind.wrap .i64 (n4 + 1))))])))) else (
 some ((.exit 0), [(.o 2 l3)]))) := by kernel_rfl
theorem a184q (T : Table) (k : Nat) (l1 : Rows) : evalF T k a184 [(.d (.s 2 l1))] = (
 tst (cutOk (l1.length : Int) (l1.length : Int) maxLen && decide (Int.toNat (l1.length : Int) * 40 ≤ maxBytes)) (
 aft (l184x0 T k k [(.fz 2 l1), (.o 2 (List.replicate (Int.toNat (l1.length : Int)) [(.v (.string ByteArray.empty)), (.s 7 [])])), (.v (.int .i64 0))]) fun e12 ys13 =>
 bif e12.same (.exit 0) then (
 aV ys13 0 fun x14 =>
 aO 2 x14 fun l15 =>
 some ⟨(.d (.s 2 l15)), []⟩) else (
 none))) := by kernel_rfl
/- loop.example/g00119/laws.toJob -/

def a139 : AFun := ⟨[.rd], false, [.c 2 true [(.i .i64), .s, (.i .i64), (.sl 3), (.sl 1), (.sl 2), (.i .i64), .s, (.i .i64), (.sl 1), (.sl 5), (.sl 2), .b]], (
  .seq (.reg false [⟨some 1, .box (.t 0), none⟩,
    ⟨some 2, .alloc [(.v (.int .i64 0)), (.v (.string ByteArray.empty)), (.v (.int .i64 0)), (.s 3 []), (.s 1 []), (.s 2 []), (.v (.int .i64 0)), (.v (.string ByteArray.empty)), (.v (.int .i64 0)), (.s 1 []), (.s 5 []), (.s 2 []), (.v (.bool false))], none⟩]) (
  .seq (.reg false [⟨some 3, .alloc [(.v (.int .i64 0)), (.v (.string ByteArray.empty)), (.v (.int .i64 0)), (.s 3 []), (.s 1 []), (.s 2 []), (.v (.int .i64 0)), (.v (.string ByteArray.empty)), (.v (.int .i64 0)), (.s 1 []), (.s 5 []), (.s 2 []), (.v (.bool false))], none⟩]) (
  .seq (.reg false [⟨some 4, .fad 0 (.t 1), none⟩,
    ⟨some 5, .load false [(.i .i64)] (.t 4), none⟩,
    ⟨some 6, .fad 0 (.t 3), none⟩,
    ⟨none, .store 1 (.t 6) (.t 5), none⟩]) (
  .seq (.reg false [⟨some 7, .fad 1 (.t 1), none⟩,
    ⟨some 8, .load false [.s] (.t 7), none⟩,
    ⟨some 9, .fad 1 (.t 3), none⟩,
    ⟨none, .store 1 (.t 9) (.t 8), none⟩]) (
  .seq (.reg false [⟨some 10, .fad 2 (.t 1), none⟩,
    ⟨some 11, .load true [(.i .i64), (.sl 3), (.sl 1), (.sl 2)] (.t 10), none⟩,
    ⟨some 12, .call (.f 183) [.rd] false [.g [(.i .i64), (.sl 3), (.sl 1), (.sl 2)]] [(.t 11)], none⟩,
    ⟨some 13, .fad 2 (.t 3), none⟩,
    ⟨none, .store 4 (.t 13) (.t 12), none⟩]) (
  .seq (.reg false [⟨some 14, .fad 6 (.t 1), none⟩,
    ⟨some 15, .load true [(.i .i64), .s, (.i .i64), (.sl 1), (.sl 5)] (.t 14), none⟩,
    ⟨some 16, .call (.f 176) [.rd] false [.g [(.i .i64), .s, (.i .i64), (.sl 1), (.sl 5)]] [(.t 15)], none⟩,
    ⟨some 17, .fad 6 (.t 3), none⟩,
    ⟨none, .store 5 (.t 17) (.t 16), none⟩]) (
  .seq (.reg false [⟨some 18, .fad 11 (.t 1), none⟩,
    ⟨some 19, .load false [(.sl 2)] (.t 18), none⟩,
    ⟨some 20, .call (.f 184) [.rd] false [.c (.sl 2)] [(.t 19)], none⟩,
    ⟨some 21, .fad 11 (.t 3), none⟩,
    ⟨none, .store 1 (.t 21) (.t 20), none⟩]) (
  .seq (.reg false [⟨some 22, .fad 12 (.t 1), none⟩,
    ⟨some 23, .load false [.b] (.t 22), none⟩,
    ⟨some 24, .fad 12 (.t 3), none⟩,
    ⟨none, .store 1 (.t 24) (.t 23), none⟩]) (
  .seq (.reg false [⟨some 25, .load true [(.i .i64), .s, (.i .i64), (.sl 3), (.sl 1), (.sl 2), (.i .i64), .s, (.i .i64), (.sl 1), (.sl 5), (.sl 2), .b] (.t 3), none⟩,
    ⟨none, .store 13 (.t 2) (.t 25), none⟩]) (
  .ret))))))))))⟩

theorem a139q (T : Table) (k : Nat) (n1 : Int) (s2 : ByteArray) (n3 : Int) (l4 : Rows) (l5 : Rows) (l6 : Rows) (n7 : Int) (s8 : ByteArray) (n9 : Int) (l10 : Rows) (l11 : Rows) (l12 : Rows) (b13 : Bool) : evalF T k a139 [(.g [(.v (.int .i64 n1)), (.v (.string s2)), (.v (.int .i64 n3)), (.s 3 l4), (.s 1 l5), (.s 2 l6), (.v (.int .i64 n7)), (.v (.string s8)), (.v (.int .i64 n9)), (.s 1 l10), (.s 5 l11), (.s 2 l12), (.v (.bool b13))])] = (
 callT T 183 [(.g [(.v (.int .i64 n3)), (.s 3 l4), (.s 1 l5), (.s 2 l6)])] fun o14 =>
 oG o14.res fun r15 =>
 tst (Nat.beq r15.length 4) (
 cI .i64 r15 0 fun n16 =>
 cL 3 r15 1 fun l17 =>
 cL 1 r15 2 fun l18 =>
 cL 2 r15 3 fun l19 =>
 callT T 176 [(.g [(.v (.int .i64 n7)), (.v (.string s8)), (.v (.int .i64 n9)), (.s 1 l10), (.s 5 l11)])] fun o20 =>
 oG o20.res fun r21 =>
 tst (Nat.beq r21.length 5) (
 cI .i64 r21 0 fun n22 =>
 cS r21 1 fun s23 =>
 cI .i64 r21 2 fun n24 =>
 cL 1 r21 3 fun l25 =>
 cL 5 r21 4 fun l26 =>
 callT T 184 [(.d (.s 2 l12))] fun o27 =>
 oD o27.res fun d28 =>
 dL 2 d28 fun l29 =>
 some ⟨(.g [(.v (.int .i64 n1)), (.v (.string s2)), (.v (.int .i64 n16)), (.s 3 l17), (.s 1 l18), (.s 2 l19), (.v (.int .i64 n22)), (.v (.string s23)), (.v (.int .i64 n24)), (.s 1 l25), (.s 5 l26), (.s 2 l29), (.v (.bool b13))]), []⟩))) := by kernel_rfl
/- loop.example/g00119/laws.toJobS -/
def b65x0 : ACode := (
  .seq (.seq (.reg false [⟨some 8, .mv (.t 4), none⟩,
    ⟨some 9, .mv (.t 0), none⟩,
    ⟨some 10, .len false (.t 9), none⟩,
    ⟨some 11, .bin .lss (.t 8) (.t 10), none⟩]) (
  .cond (.t 11) (.skip) (.exit 0))) (
  .seq (.block 1 (.reg false [⟨some 14, .mv (.t 3), none⟩,
      ⟨some 15, .mv (.t 4), none⟩,
      ⟨some 16, .mv (.t 0), none⟩,
      ⟨some 17, .mv (.t 4), none⟩,
      ⟨some 18, .iad 13 (.t 16) (.t 17), none⟩,
      ⟨some 19, .load true [(.i .i64), .s, (.i .i64), (.sl 3), (.sl 1), (.sl 2), (.i .i64), .s, (.i .i64), (.sl 1), (.sl 5), (.sl 2), .b] (.t 18), none⟩,
      ⟨some 20, .call (.f 139) [.rd] false [.g [(.i .i64), .s, (.i .i64), (.sl 3), (.sl 1), (.sl 2), (.i .i64), .s, (.i .i64), (.sl 1), (.sl 5), (.sl 2), .b]] [(.t 19)], none⟩,
      ⟨some 21, .iad 13 (.t 14) (.t 15), none⟩,
      ⟨none, .store 13 (.t 21) (.t 20), none⟩])) (
  .reg false [⟨some 12, .mv (.t 4), none⟩,
    ⟨some 13, .bin .add (.t 12) (.c (.v (.int .i64 1))), none⟩,
    ⟨some 4, .mv (.t 13), none⟩])))
def e65x0 : Exits := [((.exit 0), [(3, .o 13)])]
def l65x0 (T : Table) (k : Nat) := loopN (evalC ⟨T, []⟩ k b65x0 (Ex × List AV)) [0, 3, 4] e65x0
def a65 : AFun := ⟨[.rd], false, [.t 2], (
  .seq (.reg false [⟨some 2, .mv (.c (.o 13 [])), none⟩]) (
  .seq (.reg false [⟨some 5, .mv (.t 0), none⟩,
    ⟨some 6, .len false (.t 5), none⟩,
    ⟨some 7, .mk [(.v (.int .i64 0)), (.v (.string ByteArray.empty)), (.v (.int .i64 0)), (.s 3 []), (.s 1 []), (.s 2 []), (.v (.int .i64 0)), (.v (.string ByteArray.empty)), (.v (.int .i64 0)), (.s 1 []), (.s 5 []), (.s 2 []), (.v (.bool false))] 216 (.t 6) (.t 6), none⟩,
    ⟨some 3, .mv (.t 7), none⟩]) (
  .seq (.seq (.reg false [⟨some 4, .mv (.c (.v (.int .i64 0))), none⟩]) (
  .block 0 (.loop [0, 3, 4] e65x0 b65x0))) (
  .seq (.reg false [⟨some 22, .mv (.t 3), none⟩,
    ⟨some 2, .mv (.t 22), none⟩]) (
  .ret)))))⟩
theorem l65x0s (T : Table) (k n : Nat) (l2 : Rows) (l3 : Rows) (n4 : Int) : l65x0 T k (n + 1) [(.fz 13 l2), (.o 13 l3), (.v (.int .i64 n4))] = (
 bif (decide (n4 < (l2.length : Int))) then (
 tst (decide (0 ≤ n4)) (
 look l2 (Int.toNat n4) fun r5 =>
 cI .i64 r5 0 fun n6 =>
 cS r5 1 fun s7 =>
 cI .i64 r5 2 fun n8 =>
 cL 3 r5 3 fun l9 =>
 cL 1 r5 4 fun l10 =>
 cL 2 r5 5 fun l11 =>
 cI .i64 r5 6 fun n12 =>
 cS r5 7 fun s13 =>
 cI .i64 r5 8 fun n14 =>
 cL 1 r5 9 fun l15 =>
 cL 5 r5 10 fun l16 =>
 cL 2 r5 11 fun l17 =>
 cB r5 12 fun b18 =>
 callT T 139 [(.g [(.v (.int .i64 n6)), (.v (.string s7)), (.v (.int .i64 n8)), (.s 3 l9), (.s 1 l10), (.s 2 l11), (.v (.int .i64 n12)), (.v (.string s13)), (.v (.int .i64 n14)), (.s 1 l15), (.s 5 l16), (.s 2 l17), (.v (.bool b18))])] fun o19 =>
 oG o19.res fun r20 =>
 tst (Nat.beq r20.length 13) (
 cI .i64 r20 0 fun n21 =>
 cS r20 1 fun s22 =>
 cI .i64 r20 2 fun n23 =>
 cL 3 r20 3 fun l24 =>
 cL 1 r20 4 fun l25 =>
 cL 2 r20 5 fun l26 =>
 cI .i64 r20 6 fun n27 =>
 cS r20 7 fun s28 =>
 cI .i64 r20 8 fun n29 =>
 cL 1 r20 9 fun l30 =>
 cL 5 r20 10 fun l31 =>
 cL 2 r20 11 fun l32 =>
 cB r20 12 fun b33 =>
 tst (decide (0 ≤ n4) && decide (Int.toNat n4 < l3.length)) (
 l65x0 T k n [(.fz 13 l2), (.o 13 (setD (setD (setD (setD (setD (setD (setD (setD (setD (setD (setD (setD (setD (setD (setD (setD (setD (setD (setD l3 (Int.toNat n4) 0 (.v (.int .i64 n21))) (Int.toNat n4) 1 (.v (.string s22))) (Int.toNat n4) 2 (.v (.int .i64 n23))) (Int.toNat n4) 3 hole) (Int.toNat n4) 4 hole) (Int.toNat n4) 5 hole) (Int.toNat n4) 6 (.v (.int .i64 n27))) (Int.toNat n4) 7 (.v (.string s28))) (Int.toNat n4) 8 (.v (.int .i64 n29))) (Int.toNat n4) 9 hole) (Int.toNat n4) 10 hole) (Int.toNat n4) 11 hole) (Int.toNat n4) 12 (.v (.bool b33))) (Int.toNat n4) 11 (.s 2 l32)) (Int.toNat n4) 10 (.s 5 l31)) (Int.toNat n4) 9 (.s 1 l30)) (Int.toNat n4) 5 (.s 2 l26)) (Int.toNat n4) 4 (.s 1 l25)) (Int.toNat n4) 3 (.s 3 l24))), (.v (.int .i64 (IntKind.wrap .i64 (n4 + 1))))])))) else (
 some ((.exit 0), [(.o 13 l3)]))) := by kernel_rfl
theorem a65q (T : Table) (k : Nat) (l1 : Rows) : evalF T k a65 [(.d (.s 13 l1))] = (
 tst (cutOk (l1.length : Int) (l1.length : Int) maxLen && decide (Int.toNat (l1.length : Int) * 216 ≤ maxBytes)) (
 aft (l65x0 T k k [(.fz 13 l1), (.o 13 (List.replicate (Int.toNat (l1.length : Int)) [(.v (.int .i64 0)), (.v (.string ByteArray.empty)), (.v (.int .i64 0)), (.s 3 []), (.s 1 []), (.s 2 []), (.v (.int .i64 0)), (.v (.string ByteArray.empty)), (.v (.int .i64 0)), (.s 1 []), (.s 5 []), (.s 2 []), (.v (.bool false))])), (.v (.int .i64 0))]) fun e34 ys35 =>
 bif e34.same (.exit 0) then (
 aV ys35 0 fun x36 =>
 aO 13 x36 fun l37 =>
 some ⟨(.d (.s 13 l37)), []⟩) else (
 none))) := by kernel_rfl
/- loop.example/g00119/laws.toLabel -/

def a240 : AFun := ⟨[.rd], false, [.c 2 true [.s, .s]], (
  .seq (.reg false [⟨some 1, .box (.t 0), none⟩,
    ⟨some 2, .alloc [(.v (.string ByteArray.empty)), (.v (.string ByteArray.empty))], none⟩]) (
  .seq (.reg false [⟨some 3, .alloc [(.v (.string ByteArray.empty)), (.v (.string ByteArray.empty))], none⟩]) (
  .seq (.reg false [⟨some 4, .fad 0 (.t 1), none⟩,
    ⟨some 5, .load false [.s] (.t 4), none⟩,
    ⟨some 6, .fad 0 (.t 3), none⟩,
    ⟨none, .store 1 (.t 6) (.t 5), none⟩]) (
  .seq (.reg false [⟨some 7, .fad 1 (.t 1), none⟩,
    ⟨some 8, .load false [.s] (.t 7), none⟩,
    ⟨some 9, .fad 1 (.t 3), none⟩,
    ⟨none, .store 1 (.t 9) (.t 8), none⟩]) (
  .seq (.reg false [⟨some 10, .load true [.s, .s] (.t 3), none⟩,
    ⟨none, .store 2 (.t 2) (.t 10), none⟩]) (
  .ret))))))⟩

theorem a240q (T : Table) (k : Nat) (s1 : ByteArray) (s2 : ByteArray) : evalF T k a240 [(.g [(.v (.string s1)), (.v (.string s2))])] = (
 some ⟨(.g [(.v (.string s1)), (.v (.string s2))]), []⟩) := by kernel_rfl
/- loop.example/g00119/laws.toLabelS -/
def b220x0 : ACode := (
  .seq (.seq (.reg false [⟨some 8, .mv (.t 4), none⟩,
    ⟨some 9, .mv (.t 0), none⟩,
    ⟨some 10, .len false (.t 9), none⟩,
    ⟨some 11, .bin .lss (.t 8) (.t 10), none⟩]) (
  .cond (.t 11) (.skip) (.exit 0))) (
  .seq (.block 1 (.reg false [⟨some 14, .mv (.t 3), none⟩,
      ⟨some 15, .mv (.t 4), none⟩,
      ⟨some 16, .mv (.t 0), none⟩,
      ⟨some 17, .mv (.t 4), none⟩,
      ⟨some 18, .iad 2 (.t 16) (.t 17), none⟩,
      ⟨some 19, .load true [.s, .s] (.t 18), none⟩,
      ⟨some 20, .call (.f 240) [.rd] false [.g [.s, .s]] [(.t 19)], none⟩,
      ⟨some 21, .iad 2 (.t 14) (.t 15), none⟩,
      ⟨none, .store 2 (.t 21) (.t 20), none⟩])) (
  .reg false [⟨some 12, .mv (.t 4), none⟩,
    ⟨some 13, .bin .add (.t 12) (.c (.v (.int .i64 1))), none⟩,
    ⟨some 4, .mv (.t 13), none⟩])))
def e220x0 : Exits := [((.exit 0), [(3, .o 2)])]
def l220x0 (T : Table) (k : Nat) := loopN (evalC ⟨T, []⟩ k b220x0 (Ex × List AV)) [0, 3, 4] e220x0
def a220 : AFun := ⟨[.rd], false, [.t 2], (
  .seq (.reg false [⟨some 2, .mv (.c (.o 2 [])), none⟩]) (
  .seq (.reg false [⟨some 5, .mv (.t 0), none⟩,
    ⟨some 6, .len false (.t 5), none⟩,
    ⟨some 7, .mk [(.v (.string ByteArray.empty)), (.v (.string ByteArray.empty))] 32 (.t 6) (.t 6), none⟩,
    ⟨some 3, .mv (.t 7), none⟩]) (
  .seq (.seq (.reg false [⟨some 4, .mv (.c (.v (.int .i64 0))), none⟩]) (
  .block 0 (.loop [0, 3, 4] e220x0 b220x0))) (
  .seq (.reg false [⟨some 22, .mv (.t 3), none⟩,
    ⟨some 2, .mv (.t 22), none⟩]) (
  .ret)))))⟩
theorem l220x0s (T : Table) (k n : Nat) (l2 : Rows) (l3 : Rows) (n4 : Int) : l220x0 T k (n + 1) [(.fz 2 l2), (.o 2 l3), (.v (.int .i64 n4))] = (
 bif (decide (n4 < (l2.length : Int))) then (
 tst (decide (0 ≤ n4)) (
 look l2 (Int.toNat n4) fun r5 =>
 cS r5 0 fun s6 =>
 cS r5 1 fun s7 =>
 callT T 240 [(.g [(.v (.string s6)), (.v (.string s7))])] fun o8 =>
 oG o8.res fun r9 =>
 tst (Nat.beq r9.length 2) (
 cS r9 0 fun s10 =>
 cS r9 1 fun s11 =>
 tst (decide (0 ≤ n4) && decide (Int.toNat n4 < l3.length)) (
 l220x0 T k n [(.fz 2 l2), (.o 2 (setD (setD l3 (Int.toNat n4) 0 (.v (.string s10))) (Int.toNat n4) 1 (.v (.string s11)))), (.v (.int .i64 (IntKind.wrap .i64 (n4 + 1))))])))) else (
 some ((.exit 0), [(.o 2 l3)]))) := by kernel_rfl
theorem a220q (T : Table) (k : Nat) (l1 : Rows) : evalF T k a220 [(.d (.s 2 l1))] = (
 tst (cutOk (l1.length : Int) (l1.length : Int) maxLen && decide (Int.toNat (l1.length : Int) * 32 ≤ maxBytes)) (
 aft (l220x0 T k k [(.fz 2 l1), (.o 2 (List.replicate (Int.toNat (l1.length : Int)) [(.v (.string ByteArray.empty)), (.v (.string ByteArray.empty))])), (.v (.int .i64 0))]) fun e12 ys13 =>
 bif e12.same (.exit 0) then (
 aV ys13 0 fun x14 =>
 aO 2 x14 fun l15 =>
 some ⟨(.d (.s 2 l15)), []⟩) else (
 none))) := by kernel_rfl

-- a221 "internal/bytealg.abigen_runtime_cmpstring": IndexError('list index out of range')
/- loop.example/g00119/laws.toIsland -/

def a185 : AFun := ⟨[.rd], false, [.c 2 true [.s, (.sl 2), (.sl 1), (.i .i64)]], (
  .seq (.reg false [⟨some 1, .box (.t 0), none⟩,
    ⟨some 2, .alloc [(.v (.string ByteArray.empty)), (.s 2 []), (.s 1 []), (.v (.int .i64 0))], none⟩]) (
  .seq (.reg false [⟨some 3, .alloc [(.v (.string ByteArray.empty)), (.s 2 []), (.s 1 []), (.v (.int .i64 0))], none⟩]) (
  .seq (.reg false [⟨some 4, .fad 0 (.t 1), none⟩,
    ⟨some 5, .load false [.s] (.t 4), none⟩,
    ⟨some 6, .fad 0 (.t 3), none⟩,
    ⟨none, .store 1 (.t 6) (.t 5), none⟩]) (
  .seq (.reg false [⟨some 7, .fad 1 (.t 1), none⟩,
    ⟨some 8, .load false [(.sl 2)] (.t 7), none⟩,
    ⟨some 9, .call (.f 220) [.rd] false [.c (.sl 2)] [(.t 8)], none⟩,
    ⟨some 10, .fad 1 (.t 3), none⟩,
    ⟨none, .store 1 (.t 10) (.t 9), none⟩]) (
  .seq (.reg false [⟨some 11, .fad 2 (.t 1), none⟩,
    ⟨some 12, .load false [(.sl 1)] (.t 11), none⟩,
    ⟨some 13, .call (.f 68) [.rd] false [.c (.sl 1)] [(.t 12)], none⟩,
    ⟨some 14, .fad 2 (.t 3), none⟩,
    ⟨none, .store 1 (.t 14) (.t 13), none⟩]) (
  .seq (.reg false [⟨some 15, .fad 3 (.t 1), none⟩,
    ⟨some 16, .load false [(.i .i64)] (.t 15), none⟩,
    ⟨some 17, .fad 3 (.t 3), none⟩,
    ⟨none, .store 1 (.t 17) (.t 16), none⟩]) (
  .seq (.reg false [⟨some 18, .load true [.s, (.sl 2), (.sl 1), (.i .i64)] (.t 3), none⟩,
    ⟨none, .store 4 (.t 2) (.t 18), none⟩]) (
  .ret))))))))⟩

theorem a185q (T : Table) (k : Nat) (s1 : ByteArray) (l2 : Rows) (l3 : Rows) (n4 : Int) : evalF T k a185 [(.g [(.v (.string s1)), (.s 2 l2), (.s 1 l3), (.v (.int .i64 n4))])] = (
 callT T 220 [(.d (.s 2 l2))] fun o5 =>
 oD o5.res fun d6 =>
 dL 2 d6 fun l7 =>
 callT T 68 [(.d (.s 1 l3))] fun o8 =>
 oD o8.res fun d9 =>
 dL 1 d9 fun l10 =>
 some ⟨(.g [(.v (.string s1)), (.s 2 l7), (.s 1 l10), (.v (.int .i64 n4))]), []⟩) := by kernel_rfl
/- loop.example/g00119/laws.toPost -/

def a140 : AFun := ⟨[.rd], false, [.c 2 true [.s, (.sl 2), (.sl 1), (.i .i64), (.i .i64), (.i .i64)]], (
  .seq (.reg false [⟨some 1, .box (.t 0), none⟩,
    ⟨some 2, .alloc [(.v (.string ByteArray.empty)), (.s 2 []), (.s 1 []), (.v (.int .i64 0)), (.v (.int .i64 0)), (.v (.int .i64 0))], none⟩]) (
  .seq (.reg false [⟨some 3, .alloc [(.v (.string ByteArray.empty)), (.s 2 []), (.s 1 []), (.v (.int .i64 0)), (.v (.int .i64 0)), (.v (.int .i64 0))], none⟩]) (
  .seq (.reg false [⟨some 4, .fad 0 (.t 1), none⟩,
    ⟨some 5, .load true [.s, (.sl 2), (.sl 1), (.i .i64)] (.t 4), none⟩,
    ⟨some 6, .call (.f 185) [.rd] false [.g [.s, (.sl 2), (.sl 1), (.i .i64)]] [(.t 5)], none⟩,
    ⟨some 7, .fad 0 (.t 3), none⟩,
    ⟨none, .store 4 (.t 7) (.t 6), none⟩]) (
  .seq (.reg false [⟨some 8, .fad 4 (.t 1), none⟩,
    ⟨some 9, .load false [(.i .i64)] (.t 8), none⟩,
    ⟨some 10, .fad 4 (.t 3), none⟩,
    ⟨none, .store 1 (.t 10) (.t 9), none⟩]) (
  .seq (.reg false [⟨some 11, .fad 5 (.t 1), none⟩,
    ⟨some 12, .load false [(.i .i64)] (.t 11), none⟩,
    ⟨some 13, .fad 5 (.t 3), none⟩,
    ⟨none, .store 1 (.t 13) (.t 12), none⟩]) (
  .seq (.reg false [⟨some 14, .load true [.s, (.sl 2), (.sl 1), (.i .i64), (.i .i64), (.i .i64)] (.t 3), none⟩,
    ⟨none, .store 6 (.t 2) (.t 14), none⟩]) (
  .ret)))))))⟩

theorem a140q (T : Table) (k : Nat) (s1 : ByteArray) (l2 : Rows) (l3 : Rows) (n4 : Int) (n5 : Int) (n6 : Int) : evalF T k a140 [(.g [(.v (.string s1)), (.s 2 l2), (.s 1 l3), (.v (.int .i64 n4)), (.v (.int .i64 n5)), (.v (.int .i64 n6))])] = (
 callT T 185 [(.g [(.v (.string s1)), (.s 2 l2), (.s 1 l3), (.v (.int .i64 n4))])] fun o7 =>
 oG o7.res fun r8 =>
 tst (Nat.beq r8.length 4) (
 cS r8 0 fun s9 =>
 cL 2 r8 1 fun l10 =>
 cL 1 r8 2 fun l11 =>
 cI .i64 r8 3 fun n12 =>
 some ⟨(.g [(.v (.string s9)), (.s 2 l10), (.s 1 l11), (.v (.int .i64 n12)), (.v (.int .i64 n5)), (.v (.int .i64 n6))]), []⟩)) := by kernel_rfl
/- loop.example/g00119/laws.toPostS -/
def b66x0 : ACode := (
  .seq (.seq (.reg false [⟨some 8, .mv (.t 4), none⟩,
    ⟨some 9, .mv (.t 0), none⟩,
    ⟨some 10, .len false (.t 9), none⟩,
    ⟨some 11, .bin .lss (.t 8) (.t 10), none⟩]) (
  .cond (.t 11) (.skip) (.exit 0))) (
  .seq (.block 1 (.reg false [⟨some 14, .mv (.t 3), none⟩,
      ⟨some 15, .mv (.t 4), none⟩,
      ⟨some 16, .mv (.t 0), none⟩,
      ⟨some 17, .mv (.t 4), none⟩,
      ⟨some 18, .iad 6 (.t 16) (.t 17), none⟩,
      ⟨some 19, .load true [.s, (.sl 2), (.sl 1), (.i .i64), (.i .i64), (.i .i64)] (.t 18), none⟩,
      ⟨some 20, .call (.f 140) [.rd] false [.g [.s, (.sl 2), (.sl 1), (.i .i64), (.i .i64), (.i .i64)]] [(.t 19)], none⟩,
      ⟨some 21, .iad 6 (.t 14) (.t 15), none⟩,
      ⟨none, .store 6 (.t 21) (.t 20), none⟩])) (
  .reg false [⟨some 12, .mv (.t 4), none⟩,
    ⟨some 13, .bin .add (.t 12) (.c (.v (.int .i64 1))), none⟩,
    ⟨some 4, .mv (.t 13), none⟩])))
def e66x0 : Exits := [((.exit 0), [(3, .o 6)])]
def l66x0 (T : Table) (k : Nat) := loopN (evalC ⟨T, []⟩ k b66x0 (Ex × List AV)) [0, 3, 4] e66x0
def a66 : AFun := ⟨[.rd], false, [.t 2], (
  .seq (.reg false [⟨some 2, .mv (.c (.o 6 [])), none⟩]) (
  .seq (.reg false [⟨some 5, .mv (.t 0), none⟩,
    ⟨some 6, .len false (.t 5), none⟩,
    ⟨some 7, .mk [(.v (.string ByteArray.empty)), (.s 2 []), (.s 1 []), (.v (.int .i64 0)), (.v (.int .i64 0)), (.v (.int .i64 0))] 88 (.t 6) (.t 6), none⟩,
    ⟨some 3, .mv (.t 7), none⟩]) (
  .seq (.seq (.reg false [⟨some 4, .mv (.c (.v (.int .i64 0))), none⟩]) (
  .block 0 (.loop [0, 3, 4] e66x0 b66x0))) (
  .seq (.reg false [⟨some 22, .mv (.t 3), none⟩,
    ⟨some 2, .mv (.t 22), none⟩]) (
  .ret)))))⟩
theorem l66x0s (T : Table) (k n : Nat) (l2 : Rows) (l3 : Rows) (n4 : Int) : l66x0 T k (n + 1) [(.fz 6 l2), (.o 6 l3), (.v (.int .i64 n4))] = (
 bif (decide (n4 < (l2.length : Int))) then (
 tst (decide (0 ≤ n4)) (
 look l2 (Int.toNat n4) fun r5 =>
 cS r5 0 fun s6 =>
 cL 2 r5 1 fun l7 =>
 cL 1 r5 2 fun l8 =>
 cI .i64 r5 3 fun n9 =>
 cI .i64 r5 4 fun n10 =>
 cI .i64 r5 5 fun n11 =>
 callT T 140 [(.g [(.v (.string s6)), (.s 2 l7), (.s 1 l8), (.v (.int .i64 n9)), (.v (.int .i64 n10)), (.v (.int .i64 n11))])] fun o12 =>
 oG o12.res fun r13 =>
 tst (Nat.beq r13.length 6) (
 cS r13 0 fun s14 =>
 cL 2 r13 1 fun l15 =>
 cL 1 r13 2 fun l16 =>
 cI .i64 r13 3 fun n17 =>
 cI .i64 r13 4 fun n18 =>
 cI .i64 r13 5 fun n19 =>
 tst (decide (0 ≤ n4) && decide (Int.toNat n4 < l3.length)) (
 l66x0 T k n [(.fz 6 l2), (.o 6 (setD (setD (setD (setD (setD (setD (setD (setD l3 (Int.toNat n4) 0 (.v (.string s14))) (Int.toNat n4) 1 hole) (Int.toNat n4) 2 hole) (Int.toNat n4) 3 (.v (.int .i64 n17))) (Int.toNat n4) 4 (.v (.int .i64 n18))) (Int.toNat n4) 5 (.v (.int .i64 n19))) (Int.toNat n4) 2 (.s 1 l16)) (Int.toNat n4) 1 (.s 2 l15))), (.v (.int .i64 (IntKind.wrap .i64 (n4 + 1))))])))) else (
 some ((.exit 0), [(.o 6 l3)]))) := by kernel_rfl
theorem a66q (T : Table) (k : Nat) (l1 : Rows) : evalF T k a66 [(.d (.s 6 l1))] = (
 tst (cutOk (l1.length : Int) (l1.length : Int) maxLen && decide (Int.toNat (l1.length : Int) * 88 ≤ maxBytes)) (
 aft (l66x0 T k k [(.fz 6 l1), (.o 6 (List.replicate (Int.toNat (l1.length : Int)) [(.v (.string ByteArray.empty)), (.s 2 []), (.s 1 []), (.v (.int .i64 0)), (.v (.int .i64 0)), (.v (.int .i64 0))])), (.v (.int .i64 0))]) fun e20 ys21 =>
 bif e20.same (.exit 0) then (
 aV ys21 0 fun x22 =>
 aO 6 x22 fun l23 =>
 some ⟨(.d (.s 6 l23)), []⟩) else (
 none))) := by kernel_rfl
/- loop.example/g00119/laws.toHold -/

def a141 : AFun := ⟨[.rd], false, [.c 2 true [(.i .i64), .s, (.i .i64), (.i .i64), (.i .i64)]], (
  .seq (.reg false [⟨some 1, .box (.t 0), none⟩,
    ⟨some 2, .alloc [(.v (.int .i64 0)), (.v (.string ByteArray.empty)), (.v (.int .i64 0)), (.v (.int .i64 0)), (.v (.int .i64 0))], none⟩]) (
  .seq (.reg false [⟨some 3, .alloc [(.v (.int .i64 0)), (.v (.string ByteArray.empty)), (.v (.int .i64 0)), (.v (.int .i64 0)), (.v (.int .i64 0))], none⟩]) (
  .seq (.reg false [⟨some 4, .fad 0 (.t 1), none⟩,
    ⟨some 5, .load false [(.i .i64)] (.t 4), none⟩,
    ⟨some 6, .fad 0 (.t 3), none⟩,
    ⟨none, .store 1 (.t 6) (.t 5), none⟩]) (
  .seq (.reg false [⟨some 7, .fad 1 (.t 1), none⟩,
    ⟨some 8, .load false [.s] (.t 7), none⟩,
    ⟨some 9, .fad 1 (.t 3), none⟩,
    ⟨none, .store 1 (.t 9) (.t 8), none⟩]) (
  .seq (.reg false [⟨some 10, .fad 2 (.t 1), none⟩,
    ⟨some 11, .load false [(.i .i64)] (.t 10), none⟩,
    ⟨some 12, .fad 2 (.t 3), none⟩,
    ⟨none, .store 1 (.t 12) (.t 11), none⟩]) (
  .seq (.reg false [⟨some 13, .fad 3 (.t 1), none⟩,
    ⟨some 14, .load false [(.i .i64)] (.t 13), none⟩,
    ⟨some 15, .fad 3 (.t 3), none⟩,
    ⟨none, .store 1 (.t 15) (.t 14), none⟩]) (
  .seq (.reg false [⟨some 16, .fad 4 (.t 1), none⟩,
    ⟨some 17, .load false [(.i .i64)] (.t 16), none⟩,
    ⟨some 18, .fad 4 (.t 3), none⟩,
    ⟨none, .store 1 (.t 18) (.t 17), none⟩]) (
  .seq (.reg false [⟨some 19, .load true [(.i .i64), .s, (.i .i64), (.i .i64), (.i .i64)] (.t 3), none⟩,
    ⟨none, .store 5 (.t 2) (.t 19), none⟩]) (
  .ret)))))))))⟩

theorem a141q (T : Table) (k : Nat) (n1 : Int) (s2 : ByteArray) (n3 : Int) (n4 : Int) (n5 : Int) : evalF T k a141 [(.g [(.v (.int .i64 n1)), (.v (.string s2)), (.v (.int .i64 n3)), (.v (.int .i64 n4)), (.v (.int .i64 n5))])] = (
 some ⟨(.g [(.v (.int .i64 n1)), (.v (.string s2)), (.v (.int .i64 n3)), (.v (.int .i64 n4)), (.v (.int .i64 n5))]), []⟩) := by kernel_rfl
/- loop.example/g00119/laws.toHoldS -/
def b67x0 : ACode := (
  .seq (.seq (.reg false [⟨some 8, .mv (.t 4), none⟩,
    ⟨some 9, .mv (.t 0), none⟩,
    ⟨some 10, .len false (.t 9), none⟩,
    ⟨some 11, .bin .lss (.t 8) (.t 10), none⟩]) (
  .cond (.t 11) (.skip) (.exit 0))) (
  .seq (.block 1 (.reg false [⟨some 14, .mv (.t 3), none⟩,
      ⟨some 15, .mv (.t 4), none⟩,
      ⟨some 16, .mv (.t 0), none⟩,
      ⟨some 17, .mv (.t 4), none⟩,
      ⟨some 18, .iad 5 (.t 16) (.t 17), none⟩,
      ⟨some 19, .load true [(.i .i64), .s, (.i .i64), (.i .i64), (.i .i64)] (.t 18), none⟩,
      ⟨some 20, .call (.f 141) [.rd] false [.g [(.i .i64), .s, (.i .i64), (.i .i64), (.i .i64)]] [(.t 19)], none⟩,
      ⟨some 21, .iad 5 (.t 14) (.t 15), none⟩,
      ⟨none, .store 5 (.t 21) (.t 20), none⟩])) (
  .reg false [⟨some 12, .mv (.t 4), none⟩,
    ⟨some 13, .bin .add (.t 12) (.c (.v (.int .i64 1))), none⟩,
    ⟨some 4, .mv (.t 13), none⟩])))
def e67x0 : Exits := [((.exit 0), [(3, .o 5)])]
def l67x0 (T : Table) (k : Nat) := loopN (evalC ⟨T, []⟩ k b67x0 (Ex × List AV)) [0, 3, 4] e67x0
def a67 : AFun := ⟨[.rd], false, [.t 2], (
  .seq (.reg false [⟨some 2, .mv (.c (.o 5 [])), none⟩]) (
  .seq (.reg false [⟨some 5, .mv (.t 0), none⟩,
    ⟨some 6, .len false (.t 5), none⟩,
    ⟨some 7, .mk [(.v (.int .i64 0)), (.v (.string ByteArray.empty)), (.v (.int .i64 0)), (.v (.int .i64 0)), (.v (.int .i64 0))] 48 (.t 6) (.t 6), none⟩,
    ⟨some 3, .mv (.t 7), none⟩]) (
  .seq (.seq (.reg false [⟨some 4, .mv (.c (.v (.int .i64 0))), none⟩]) (
  .block 0 (.loop [0, 3, 4] e67x0 b67x0))) (
  .seq (.reg false [⟨some 22, .mv (.t 3), none⟩,
    ⟨some 2, .mv (.t 22), none⟩]) (
  .ret)))))⟩
theorem l67x0s (T : Table) (k n : Nat) (l2 : Rows) (l3 : Rows) (n4 : Int) : l67x0 T k (n + 1) [(.fz 5 l2), (.o 5 l3), (.v (.int .i64 n4))] = (
 bif (decide (n4 < (l2.length : Int))) then (
 tst (decide (0 ≤ n4)) (
 look l2 (Int.toNat n4) fun r5 =>
 cI .i64 r5 0 fun n6 =>
 cS r5 1 fun s7 =>
 cI .i64 r5 2 fun n8 =>
 cI .i64 r5 3 fun n9 =>
 cI .i64 r5 4 fun n10 =>
 callT T 141 [(.g [(.v (.int .i64 n6)), (.v (.string s7)), (.v (.int .i64 n8)), (.v (.int .i64 n9)), (.v (.int .i64 n10))])] fun o11 =>
 oG o11.res fun r12 =>
 tst (Nat.beq r12.length 5) (
 cI .i64 r12 0 fun n13 =>
 cS r12 1 fun s14 =>
 cI .i64 r12 2 fun n15 =>
 cI .i64 r12 3 fun n16 =>
 cI .i64 r12 4 fun n17 =>
 tst (decide (0 ≤ n4) && decide (Int.toNat n4 < l3.length)) (
 l67x0 T k n [(.fz 5 l2), (.o 5 (setD (setD (setD (setD (setD l3 (Int.toNat n4) 0 (.v (.int .i64 n13))) (Int.toNat n4) 1 (.v (.string s14))) (Int.toNat n4) 2 (.v (.int .i64 n15))) (Int.toNat n4) 3 (.v (.int .i64 n16))) (Int.toNat n4) 4 (.v (.int .i64 n17)))), (.v (.int .i64 (IntKind.wrap .i64 (n4 + 1))))])))) else (
 some ((.exit 0), [(.o 5 l3)]))) := by kernel_rfl
theorem a67q (T : Table) (k : Nat) (l1 : Rows) : evalF T k a67 [(.d (.s 5 l1))] = (
 tst (cutOk (l1.length : Int) (l1.length : Int) maxLen && decide (Int.toNat (l1.length : Int) * 48 ≤ maxBytes)) (
 aft (l67x0 T k k [(.fz 5 l1), (.o 5 (List.replicate (Int.toNat (l1.length : Int)) [(.v (.int .i64 0)), (.v (.string ByteArray.empty)), (.v (.int .i64 0)), (.v (.int .i64 0)), (.v (.int .i64 0))])), (.v (.int .i64 0))]) fun e18 ys19 =>
 bif e18.same (.exit 0) then (
 aV ys19 0 fun x20 =>
 aO 5 x20 fun l21 =>
 some ⟨(.d (.s 5 l21)), []⟩) else (
 none))) := by kernel_rfl
/- loop.example/g00119/laws.toHub -/

def a23 : AFun := ⟨[.rd], false, [.c 2 true [(.i .i64), (.i .i64), (.i .i64), (.sl 13), (.sl 6), (.sl 5), (.sl 1)]], (
  .seq (.reg false [⟨some 1, .box (.t 0), none⟩,
    ⟨some 2, .alloc [(.v (.int .i64 0)), (.v (.int .i64 0)), (.v (.int .i64 0)), (.s 13 []), (.s 6 []), (.s 5 []), (.s 1 [])], none⟩]) (
  .seq (.reg false [⟨some 3, .alloc [(.v (.int .i64 0)), (.v (.int .i64 0)), (.v (.int .i64 0)), (.s 13 []), (.s 6 []), (.s 5 []), (.s 1 [])], none⟩]) (
  .seq (.reg false [⟨some 4, .fad 0 (.t 1), none⟩,
    ⟨some 5, .load false [(.i .i64)] (.t 4), none⟩,
    ⟨some 6, .fad 0 (.t 3), none⟩,
    ⟨none, .store 1 (.t 6) (.t 5), none⟩]) (
  .seq (.reg false [⟨some 7, .fad 1 (.t 1), none⟩,
    ⟨some 8, .load false [(.i .i64)] (.t 7), none⟩,
    ⟨some 9, .fad 1 (.t 3), none⟩,
    ⟨none, .store 1 (.t 9) (.t 8), none⟩]) (
  .seq (.reg false [⟨some 10, .fad 2 (.t 1), none⟩,
    ⟨some 11, .load false [(.i .i64)] (.t 10), none⟩,
    ⟨some 12, .fad 2 (.t 3), none⟩,
    ⟨none, .store 1 (.t 12) (.t 11), none⟩]) (
  .seq (.reg false [⟨some 13, .fad 3 (.t 1), none⟩,
    ⟨some 14, .load false [(.sl 13)] (.t 13), none⟩,
    ⟨some 15, .call (.f 65) [.rd] false [.c (.sl 13)] [(.t 14)], none⟩,
    ⟨some 16, .fad 3 (.t 3), none⟩,
    ⟨none, .store 1 (.t 16) (.t 15), none⟩]) (
  .seq (.reg false [⟨some 17, .fad 4 (.t 1), none⟩,
    ⟨some 18, .load false [(.sl 6)] (.t 17), none⟩,
    ⟨some 19, .call (.f 66) [.rd] false [.c (.sl 6)] [(.t 18)], none⟩,
    ⟨some 20, .fad 4 (.t 3), none⟩,
    ⟨none, .store 1 (.t 20) (.t 19), none⟩]) (
  .seq (.reg false [⟨some 21, .fad 5 (.t 1), none⟩,
    ⟨some 22, .load false [(.sl 5)] (.t 21), none⟩,
    ⟨some 23, .call (.f 67) [.rd] false [.c (.sl 5)] [(.t 22)], none⟩,
    ⟨some 24, .fad 5 (.t 3), none⟩,
    ⟨none, .store 1 (.t 24) (.t 23), none⟩]) (
  .seq (.reg false [⟨some 25, .fad 6 (.t 1), none⟩,
    ⟨some 26, .load false [(.sl 1)] (.t 25), none⟩,
    ⟨some 27, .call (.f 68) [.rd] false [.c (.sl 1)] [(.t 26)], none⟩,
    ⟨some 28, .fad 6 (.t 3), none⟩,
    ⟨none, .store 1 (.t 28) (.t 27), none⟩]) (
  .seq (.reg false [⟨some 29, .load true [(.i .i64), (.i .i64), (.i .i64), (.sl 13), (.sl 6), (.sl 5), (.sl 1)] (.t 3), none⟩,
    ⟨none, .store 7 (.t 2) (.t 29), none⟩]) (
  .ret)))))))))))⟩

theorem a23q (T : Table) (k : Nat) (n1 : Int) (n2 : Int) (n3 : Int) (l4 : Rows) (l5 : Rows) (l6 : Rows) (l7 : Rows) : evalF T k a23 [(.g [(.v (.int .i64 n1)), (.v (.int .i64 n2)), (.v (.int .i64 n3)), (.s 13 l4), (.s 6 l5), (.s 5 l6), (.s 1 l7)])] = (
 callT T 65 [(.d (.s 13 l4))] fun o8 =>
 oD o8.res fun d9 =>
 dL 13 d9 fun l10 =>
 callT T 66 [(.d (.s 6 l5))] fun o11 =>
 oD o11.res fun d12 =>
 dL 6 d12 fun l13 =>
 callT T 67 [(.d (.s 5 l6))] fun o14 =>
 oD o14.res fun d15 =>
 dL 5 d15 fun l16 =>
 callT T 68 [(.d (.s 1 l7))] fun o17 =>
 oD o17.res fun d18 =>
 dL 1 d18 fun l19 =>
 some ⟨(.g [(.v (.int .i64 n1)), (.v (.int .i64 n2)), (.v (.int .i64 n3)), (.s 13 l10), (.s 6 l13), (.s 5 l16), (.s 1 l19)]), []⟩) := by kernel_rfl
/- loop.example/g00119/laws.eqStringS -/
def b75x0 : ACode := (
  .seq (.seq (.reg false [⟨some 11, .mv (.t 5), none⟩,
    ⟨some 12, .mv (.t 0), none⟩,
    ⟨some 13, .len false (.t 12), none⟩,
    ⟨some 14, .bin .lss (.t 11) (.t 13), none⟩]) (
  .cond (.t 14) (.skip) (.exit 0))) (
  .seq (.block 1 (.seq (.dreg [] [(0, ⟨some 17, .mv (.t 0), none⟩),
      (0, ⟨some 18, .mv (.t 5), none⟩),
      (0, ⟨some 19, .iad 1 (.t 17) (.t 18), none⟩),
      (0, ⟨some 20, .load false [.s] (.t 19), none⟩),
      (0, ⟨some 21, .mv (.t 1), none⟩),
      (0, ⟨some 22, .mv (.t 5), none⟩),
      (0, ⟨some 23, .iad 1 (.t 21) (.t 22), none⟩),
      (0, ⟨some 24, .load false [.s] (.t 23), none⟩)] [⟨some 25, .bin .neq (.t 20) (.t 24), none⟩]) (
    .cond (.t 25) (.seq (.reg false [⟨some 4, .mv (.c (.v (.bool false))), none⟩]) (
      .ret)) (.skip)))) (
  .reg false [⟨some 15, .mv (.t 5), none⟩,
    ⟨some 16, .bin .add (.t 15) (.c (.v (.int .i64 1))), none⟩,
    ⟨some 5, .mv (.t 16), none⟩])))
def e75x0 : Exits := [(.ret, [(4, .c .b)]), ((.exit 0), [])]
def l75x0 (T : Table) (k : Nat) := loopN (evalC ⟨T, []⟩ k b75x0 (Ex × List AV)) [0, 1, 5] e75x0
def a75 : AFun := ⟨[.rd, .rd], false, [.t 4], (
  .seq (.reg false [⟨some 4, .mv (.c (.v (.bool false))), none⟩]) (
  .seq (.seq (.reg false [⟨some 6, .mv (.t 0), none⟩,
    ⟨some 7, .len false (.t 6), none⟩,
    ⟨some 8, .mv (.t 1), none⟩,
    ⟨some 9, .len false (.t 8), none⟩,
    ⟨some 10, .bin .neq (.t 7) (.t 9), none⟩]) (
  .cond (.t 10) (.seq (.reg false [⟨some 4, .mv (.c (.v (.bool false))), none⟩]) (
    .ret)) (.skip))) (
  .seq (.seq (.reg false [⟨some 5, .mv (.c (.v (.int .i64 0))), none⟩]) (
  .block 0 (.loop [0, 1, 5] e75x0 b75x0))) (
  .seq (.reg false [⟨some 4, .mv (.c (.v (.bool true))), none⟩]) (
  .ret)))))⟩
theorem l75x0s (T : Table) (k n : Nat) (l3 : Rows) (l4 : Rows) (n5 : Int) : l75x0 T k (n + 1) [(.fz 1 l3), (.fz 1 l4), (.v (.int .i64 n5))] = (
 bif (decide (n5 < (l3.length : Int))) then (
 tst (decide (0 ≤ n5)) (
 look l3 (Int.toNat n5) fun r6 =>
 cS r6 0 fun s7 =>
 tst (decide (0 ≤ n5)) (
 look l4 (Int.toNat n5) fun r8 =>
 cS r8 0 fun s9 =>
 bif (!(bytesEq s7 s9)) then (
 some (.ret, [(.v (.bool false))])) else (
 l75x0 T k n [(.fz 1 l3), (.fz 1 l4), (.v (.int .i64 (IntKind.wrap .i64 (n5 + 1))))])))) else (
 some ((.exit 0), []))) := by kernel_rfl
theorem a75q (T : Table) (k : Nat) (l1 : Rows) (l2 : Rows) : evalF T k a75 [(.d (.s 1 l1)), (.d (.s 1 l2))] = (
 bif ((l1.length : Int) != (l2.length : Int)) then (
 some ⟨(.d (.v (.bool false))), []⟩) else (
 aft (l75x0 T k k [(.fz 1 l1), (.fz 1 l2), (.v (.int .i64 0))]) fun e10 ys11 =>
 bif e10.same .ret then (
 aV ys11 0 fun x12 =>
 aB x12 fun b13 =>
 some ⟨(.d (.v (.bool b13))), []⟩) else (
 bif e10.same (.exit 0) then (
 some ⟨(.d (.v (.bool true))), []⟩) else (
 none)))) := by kernel_rfl
/- loop.example/g00119/laws.eqValueS -/
def b212x0 : ACode := (
  .seq (.seq (.reg false [⟨some 11, .mv (.t 5), none⟩,
    ⟨some 12, .mv (.t 0), none⟩,
    ⟨some 13, .len false (.t 12), none⟩,
    ⟨some 14, .bin .lss (.t 11) (.t 13), none⟩]) (
  .cond (.t 14) (.skip) (.exit 0))) (
  .seq (.block 1 (.seq (.dreg [] [(0, ⟨some 17, .mv (.t 0), none⟩),
      (0, ⟨some 18, .mv (.t 5), none⟩),
      (0, ⟨some 19, .iad 5 (.t 17) (.t 18), none⟩),
      (0, ⟨some 20, .load true [(.i .i64), .s, (.i .i64), (.sl 1), (.sl 5)] (.t 19), none⟩),
      (0, ⟨some 21, .mv (.t 1), none⟩),
      (0, ⟨some 22, .mv (.t 5), none⟩),
      (0, ⟨some 23, .iad 5 (.t 21) (.t 22), none⟩),
      (0, ⟨some 24, .load true [(.i .i64), .s, (.i .i64), (.sl 1), (.sl 5)] (.t 23), none⟩)] [⟨some 25, .call (.f 179) [.rd, .rd] false [.c .b] [(.t 20), (.t 24)], none⟩,
      ⟨some 26, .un .not (.t 25), none⟩]) (
    .cond (.t 26) (.seq (.reg false [⟨some 4, .mv (.c (.v (.bool false))), none⟩]) (
      .ret)) (.skip)))) (
  .reg false [⟨some 15, .mv (.t 5), none⟩,
    ⟨some 16, .bin .add (.t 15) (.c (.v (.int .i64 1))), none⟩,
    ⟨some 5, .mv (.t 16), none⟩])))
def e212x0 : Exits := [(.ret, [(4, .c .b)]), ((.exit 0), [])]
def l212x0 (T : Table) (k : Nat) := loopN (evalC ⟨T, []⟩ k b212x0 (Ex × List AV)) [0, 1, 5] e212x0
def a212 : AFun := ⟨[.rd, .rd], false, [.t 4], (
  .seq (.reg false [⟨some 4, .mv (.c (.v (.bool false))), none⟩]) (
  .seq (.seq (.reg false [⟨some 6, .mv (.t 0), none⟩,
    ⟨some 7, .len false (.t 6), none⟩,
    ⟨some 8, .mv (.t 1), none⟩,
    ⟨some 9, .len false (.t 8), none⟩,
    ⟨some 10, .bin .neq (.t 7) (.t 9), none⟩]) (
  .cond (.t 10) (.seq (.reg false [⟨some 4, .mv (.c (.v (.bool false))), none⟩]) (
    .ret)) (.skip))) (
  .seq (.seq (.reg false [⟨some 5, .mv (.c (.v (.int .i64 0))), none⟩]) (
  .block 0 (.loop [0, 1, 5] e212x0 b212x0))) (
  .seq (.reg false [⟨some 4, .mv (.c (.v (.bool true))), none⟩]) (
  .ret)))))⟩
theorem l212x0s (T : Table) (k n : Nat) (l3 : Rows) (l4 : Rows) (n5 : Int) : l212x0 T k (n + 1) [(.fz 5 l3), (.fz 5 l4), (.v (.int .i64 n5))] = (
 bif (decide (n5 < (l3.length : Int))) then (
 tst (decide (0 ≤ n5)) (
 look l3 (Int.toNat n5) fun r6 =>
 cI .i64 r6 0 fun n7 =>
 cS r6 1 fun s8 =>
 cI .i64 r6 2 fun n9 =>
 cL 1 r6 3 fun l10 =>
 cL 5 r6 4 fun l11 =>
 tst (decide (0 ≤ n5)) (
 look l4 (Int.toNat n5) fun r12 =>
 cI .i64 r12 0 fun n13 =>
 cS r12 1 fun s14 =>
 cI .i64 r12 2 fun n15 =>
 cL 1 r12 3 fun l16 =>
 cL 5 r12 4 fun l17 =>
 callT T 179 [(.g [(.v (.int .i64 n7)), (.v (.string s8)), (.v (.int .i64 n9)), (.s 1 l10), (.s 5 l11)]), (.g [(.v (.int .i64 n13)), (.v (.string s14)), (.v (.int .i64 n15)), (.s 1 l16), (.s 5 l17)])] fun o18 =>
 oD o18.res fun d19 =>
 dB d19 fun b20 =>
 bif (!b20) then (
 some (.ret, [(.v (.bool false))])) else (
 l212x0 T k n [(.fz 5 l3), (.fz 5 l4), (.v (.int .i64 (IntKind.wrap .i64 (n5 + 1))))])))) else (
 some ((.exit 0), []))) := by kernel_rfl
theorem a212q (T : Table) (k : Nat) (l1 : Rows) (l2 : Rows) : evalF T k a212 [(.d (.s 5 l1)), (.d (.s 5 l2))] = (
 bif ((l1.length : Int) != (l2.length : Int)) then (
 some ⟨(.d (.v (.bool false))), []⟩) else (
 aft (l212x0 T k k [(.fz 5 l1), (.fz 5 l2), (.v (.int .i64 0))]) fun e21 ys22 =>
 bif e21.same .ret then (
 aV ys22 0 fun x23 =>
 aB x23 fun b24 =>
 some ⟨(.d (.v (.bool b24))), []⟩) else (
 bif e21.same (.exit 0) then (
 some ⟨(.d (.v (.bool true))), []⟩) else (
 none)))) := by kernel_rfl
/- loop.example/g00119/laws.eqValue -/

def a179 : AFun := ⟨[.rd, .rd], false, [.t 4], (
  .seq (.reg false [⟨some 2, .box (.t 0), none⟩,
    ⟨some 3, .box (.t 1), none⟩,
    ⟨some 4, .mv (.c (.v (.bool false))), none⟩]) (
  .seq (.seq (.reg false [⟨some 5, .fad 0 (.t 2), none⟩,
    ⟨some 6, .load false [(.i .i64)] (.t 5), none⟩,
    ⟨some 7, .fad 0 (.t 3), none⟩,
    ⟨some 8, .load false [(.i .i64)] (.t 7), none⟩,
    ⟨some 9, .bin .neq (.t 6) (.t 8), none⟩]) (
  .cond (.t 9) (.seq (.reg false [⟨some 4, .mv (.c (.v (.bool false))), none⟩]) (
    .ret)) (.skip))) (
  .seq (.seq (.reg false [⟨some 10, .fad 1 (.t 2), none⟩,
    ⟨some 11, .load false [.s] (.t 10), none⟩,
    ⟨some 12, .fad 1 (.t 3), none⟩,
    ⟨some 13, .load false [.s] (.t 12), none⟩,
    ⟨some 14, .bin .neq (.t 11) (.t 13), none⟩]) (
  .cond (.t 14) (.seq (.reg false [⟨some 4, .mv (.c (.v (.bool false))), none⟩]) (
    .ret)) (.skip))) (
  .seq (.seq (.reg false [⟨some 15, .fad 2 (.t 2), none⟩,
    ⟨some 16, .load false [(.i .i64)] (.t 15), none⟩,
    ⟨some 17, .fad 2 (.t 3), none⟩,
    ⟨some 18, .load false [(.i .i64)] (.t 17), none⟩,
    ⟨some 19, .bin .neq (.t 16) (.t 18), none⟩]) (
  .cond (.t 19) (.seq (.reg false [⟨some 4, .mv (.c (.v (.bool false))), none⟩]) (
    .ret)) (.skip))) (
  .seq (.seq (.reg false [⟨some 20, .fad 3 (.t 2), none⟩,
    ⟨some 21, .load false [(.sl 1)] (.t 20), none⟩,
    ⟨some 22, .fad 3 (.t 3), none⟩,
    ⟨some 23, .load false [(.sl 1)] (.t 22), none⟩,
    ⟨some 24, .call (.f 75) [.rd, .rd] false [.c .b] [(.t 21), (.t 23)], none⟩,
    ⟨some 25, .un .not (.t 24), none⟩]) (
  .cond (.t 25) (.seq (.reg false [⟨some 4, .mv (.c (.v (.bool false))), none⟩]) (
    .ret)) (.skip))) (
  .seq (.seq (.reg false [⟨some 26, .fad 4 (.t 2), none⟩,
    ⟨some 27, .load false [(.sl 5)] (.t 26), none⟩,
    ⟨some 28, .fad 4 (.t 3), none⟩,
    ⟨some 29, .load false [(.sl 5)] (.t 28), none⟩,
    ⟨some 30, .call (.f 212) [.rd, .rd] false [.c .b] [(.t 27), (.t 29)], none⟩,
    ⟨some 31, .un .not (.t 30), none⟩]) (
  .cond (.t 31) (.seq (.reg false [⟨some 4, .mv (.c (.v (.bool false))), none⟩]) (
    .ret)) (.skip))) (
  .seq (.reg false [⟨some 4, .mv (.c (.v (.bool true))), none⟩]) (
  .ret))))))))⟩

theorem a179q (T : Table) (k : Nat) (n1 : Int) (s2 : ByteArray) (n3 : Int) (l4 : Rows) (l5 : Rows) (n6 : Int) (s7 : ByteArray) (n8 : Int) (l9 : Rows) (l10 : Rows) : evalF T k a179 [(.g [(.v (.int .i64 n1)), (.v (.string s2)), (.v (.int .i64 n3)), (.s 1 l4), (.s 5 l5)]), (.g [(.v (.int .i64 n6)), (.v (.string s7)), (.v (.int .i64 n8)), (.s 1 l9), (.s 5 l10)])] = (
 bif (n1 != n6) then (
 some ⟨(.d (.v (.bool false))), []⟩) else (
 bif (!(bytesEq s2 s7)) then (
 some ⟨(.d (.v (.bool false))), []⟩) else (
 bif (n3 != n8) then (
 some ⟨(.d (.v (.bool false))), []⟩) else (
 callT T 75 [(.d (.s 1 l4)), (.d (.s 1 l9))] fun o11 =>
 oD o11.res fun d12 =>
 dB d12 fun b13 =>
 bif (!b13) then (
 some ⟨(.d (.v (.bool false))), []⟩) else (
 callT T 212 [(.d (.s 5 l5)), (.d (.s 5 l10))] fun o14 =>
 oD o14.res fun d15 =>
 dB d15 fun b16 =>
 bif (!b16) then (
 some ⟨(.d (.v (.bool false))), []⟩) else (
 some ⟨(.d (.v (.bool true))), []⟩)))))) := by kernel_rfl
/- loop.example/g00119/laws.eqTerm -/

def a241 : AFun := ⟨[.rd, .rd], false, [.t 4], (
  .seq (.reg false [⟨some 2, .box (.t 0), none⟩,
    ⟨some 3, .box (.t 1), none⟩,
    ⟨some 4, .mv (.c (.v (.bool false))), none⟩]) (
  .seq (.seq (.reg false [⟨some 5, .fad 0 (.t 2), none⟩,
    ⟨some 6, .load false [(.i .i64)] (.t 5), none⟩,
    ⟨some 7, .fad 0 (.t 3), none⟩,
    ⟨some 8, .load false [(.i .i64)] (.t 7), none⟩,
    ⟨some 9, .bin .neq (.t 6) (.t 8), none⟩]) (
  .cond (.t 9) (.seq (.reg false [⟨some 4, .mv (.c (.v (.bool false))), none⟩]) (
    .ret)) (.skip))) (
  .seq (.seq (.reg false [⟨some 10, .fad 1 (.t 2), none⟩,
    ⟨some 11, .load false [.s] (.t 10), none⟩,
    ⟨some 12, .fad 1 (.t 3), none⟩,
    ⟨some 13, .load false [.s] (.t 12), none⟩,
    ⟨some 14, .bin .neq (.t 11) (.t 13), none⟩]) (
  .cond (.t 14) (.seq (.reg false [⟨some 4, .mv (.c (.v (.bool false))), none⟩]) (
    .ret)) (.skip))) (
  .seq (.seq (.reg false [⟨some 15, .fad 2 (.t 2), none⟩,
    ⟨some 16, .load false [(.sl 1)] (.t 15), none⟩,
    ⟨some 17, .fad 2 (.t 3), none⟩,
    ⟨some 18, .load false [(.sl 1)] (.t 17), none⟩,
    ⟨some 19, .call (.f 75) [.rd, .rd] false [.c .b] [(.t 16), (.t 18)], none⟩,
    ⟨some 20, .un .not (.t 19), none⟩]) (
  .cond (.t 20) (.seq (.reg false [⟨some 4, .mv (.c (.v (.bool false))), none⟩]) (
    .ret)) (.skip))) (
  .seq (.reg false [⟨some 4, .mv (.c (.v (.bool true))), none⟩]) (
  .ret))))))⟩

theorem a241q (T : Table) (k : Nat) (n1 : Int) (s2 : ByteArray) (l3 : Rows) (n4 : Int) (s5 : ByteArray) (l6 : Rows) : evalF T k a241 [(.g [(.v (.int .i64 n1)), (.v (.string s2)), (.s 1 l3)]), (.g [(.v (.int .i64 n4)), (.v (.string s5)), (.s 1 l6)])] = (
 bif (n1 != n4) then (
 some ⟨(.d (.v (.bool false))), []⟩) else (
 bif (!(bytesEq s2 s5)) then (
 some ⟨(.d (.v (.bool false))), []⟩) else (
 callT T 75 [(.d (.s 1 l3)), (.d (.s 1 l6))] fun o7 =>
 oD o7.res fun d8 =>
 dB d8 fun b9 =>
 bif (!b9) then (
 some ⟨(.d (.v (.bool false))), []⟩) else (
 some ⟨(.d (.v (.bool true))), []⟩)))) := by kernel_rfl
/- loop.example/g00119/laws.eqTermS -/
def b222x0 : ACode := (
  .seq (.seq (.reg false [⟨some 11, .mv (.t 5), none⟩,
    ⟨some 12, .mv (.t 0), none⟩,
    ⟨some 13, .len false (.t 12), none⟩,
    ⟨some 14, .bin .lss (.t 11) (.t 13), none⟩]) (
  .cond (.t 14) (.skip) (.exit 0))) (
  .seq (.block 1 (.seq (.dreg [] [(0, ⟨some 17, .mv (.t 0), none⟩),
      (0, ⟨some 18, .mv (.t 5), none⟩),
      (0, ⟨some 19, .iad 3 (.t 17) (.t 18), none⟩),
      (0, ⟨some 20, .load true [(.i .i64), .s, (.sl 1)] (.t 19), none⟩),
      (0, ⟨some 21, .mv (.t 1), none⟩),
      (0, ⟨some 22, .mv (.t 5), none⟩),
      (0, ⟨some 23, .iad 3 (.t 21) (.t 22), none⟩),
      (0, ⟨some 24, .load true [(.i .i64), .s, (.sl 1)] (.t 23), none⟩)] [⟨some 25, .call (.f 241) [.rd, .rd] false [.c .b] [(.t 20), (.t 24)], none⟩,
      ⟨some 26, .un .not (.t 25), none⟩]) (
    .cond (.t 26) (.seq (.reg false [⟨some 4, .mv (.c (.v (.bool false))), none⟩]) (
      .ret)) (.skip)))) (
  .reg false [⟨some 15, .mv (.t 5), none⟩,
    ⟨some 16, .bin .add (.t 15) (.c (.v (.int .i64 1))), none⟩,
    ⟨some 5, .mv (.t 16), none⟩])))
def e222x0 : Exits := [(.ret, [(4, .c .b)]), ((.exit 0), [])]
def l222x0 (T : Table) (k : Nat) := loopN (evalC ⟨T, []⟩ k b222x0 (Ex × List AV)) [0, 1, 5] e222x0
def a222 : AFun := ⟨[.rd, .rd], false, [.t 4], (
  .seq (.reg false [⟨some 4, .mv (.c (.v (.bool false))), none⟩]) (
  .seq (.seq (.reg false [⟨some 6, .mv (.t 0), none⟩,
    ⟨some 7, .len false (.t 6), none⟩,
    ⟨some 8, .mv (.t 1), none⟩,
    ⟨some 9, .len false (.t 8), none⟩,
    ⟨some 10, .bin .neq (.t 7) (.t 9), none⟩]) (
  .cond (.t 10) (.seq (.reg false [⟨some 4, .mv (.c (.v (.bool false))), none⟩]) (
    .ret)) (.skip))) (
  .seq (.seq (.reg false [⟨some 5, .mv (.c (.v (.int .i64 0))), none⟩]) (
  .block 0 (.loop [0, 1, 5] e222x0 b222x0))) (
  .seq (.reg false [⟨some 4, .mv (.c (.v (.bool true))), none⟩]) (
  .ret)))))⟩
theorem l222x0s (T : Table) (k n : Nat) (l3 : Rows) (l4 : Rows) (n5 : Int) : l222x0 T k (n + 1) [(.fz 3 l3), (.fz 3 l4), (.v (.int .i64 n5))] = (
 bif (decide (n5 < (l3.length : Int))) then (
 tst (decide (0 ≤ n5)) (
 look l3 (Int.toNat n5) fun r6 =>
 cI .i64 r6 0 fun n7 =>
 cS r6 1 fun s8 =>
 cL 1 r6 2 fun l9 =>
 tst (decide (0 ≤ n5)) (
 look l4 (Int.toNat n5) fun r10 =>
 cI .i64 r10 0 fun n11 =>
 cS r10 1 fun s12 =>
 cL 1 r10 2 fun l13 =>
 callT T 241 [(.g [(.v (.int .i64 n7)), (.v (.string s8)), (.s 1 l9)]), (.g [(.v (.int .i64 n11)), (.v (.string s12)), (.s 1 l13)])] fun o14 =>
 oD o14.res fun d15 =>
 dB d15 fun b16 =>
 bif (!b16) then (
 some (.ret, [(.v (.bool false))])) else (
 l222x0 T k n [(.fz 3 l3), (.fz 3 l4), (.v (.int .i64 (IntKind.wrap .i64 (n5 + 1))))])))) else (
 some ((.exit 0), []))) := by kernel_rfl
theorem a222q (T : Table) (k : Nat) (l1 : Rows) (l2 : Rows) : evalF T k a222 [(.d (.s 3 l1)), (.d (.s 3 l2))] = (
 bif ((l1.length : Int) != (l2.length : Int)) then (
 some ⟨(.d (.v (.bool false))), []⟩) else (
 aft (l222x0 T k k [(.fz 3 l1), (.fz 3 l2), (.v (.int .i64 0))]) fun e17 ys18 =>
 bif e17.same .ret then (
 aV ys18 0 fun x19 =>
 aB x19 fun b20 =>
 some ⟨(.d (.v (.bool b20))), []⟩) else (
 bif e17.same (.exit 0) then (
 some ⟨(.d (.v (.bool true))), []⟩) else (
 none)))) := by kernel_rfl
/- loop.example/g00119/laws.eqWeigh -/

def a242 : AFun := ⟨[.rd, .rd], false, [.t 4], (
  .seq (.reg false [⟨some 2, .box (.t 0), none⟩,
    ⟨some 3, .box (.t 1), none⟩,
    ⟨some 4, .mv (.c (.v (.bool false))), none⟩]) (
  .seq (.seq (.reg false [⟨some 5, .fad 0 (.t 2), none⟩,
    ⟨some 6, .load false [.s] (.t 5), none⟩,
    ⟨some 7, .fad 0 (.t 3), none⟩,
    ⟨some 8, .load false [.s] (.t 7), none⟩,
    ⟨some 9, .bin .neq (.t 6) (.t 8), none⟩]) (
  .cond (.t 9) (.seq (.reg false [⟨some 4, .mv (.c (.v (.bool false))), none⟩]) (
    .ret)) (.skip))) (
  .seq (.seq (.reg false [⟨some 10, .fad 1 (.t 2), none⟩,
    ⟨some 11, .load false [(.i .i64)] (.t 10), none⟩,
    ⟨some 12, .fad 1 (.t 3), none⟩,
    ⟨some 13, .load false [(.i .i64)] (.t 12), none⟩,
    ⟨some 14, .bin .neq (.t 11) (.t 13), none⟩]) (
  .cond (.t 14) (.seq (.reg false [⟨some 4, .mv (.c (.v (.bool false))), none⟩]) (
    .ret)) (.skip))) (
  .seq (.reg false [⟨some 4, .mv (.c (.v (.bool true))), none⟩]) (
  .ret)))))⟩

theorem a242q (T : Table) (k : Nat) (s1 : ByteArray) (n2 : Int) (s3 : ByteArray) (n4 : Int) : evalF T k a242 [(.g [(.v (.string s1)), (.v (.int .i64 n2))]), (.g [(.v (.string s3)), (.v (.int .i64 n4))])] = (
 bif (!(bytesEq s1 s3)) then (
 some ⟨(.d (.v (.bool false))), []⟩) else (
 bif (n2 != n4) then (
 some ⟨(.d (.v (.bool false))), []⟩) else (
 some ⟨(.d (.v (.bool true))), []⟩))) := by kernel_rfl
/- loop.example/g00119/laws.eqWeighS -/
def b223x0 : ACode := (
  .seq (.seq (.reg false [⟨some 11, .mv (.t 5), none⟩,
    ⟨some 12, .mv (.t 0), none⟩,
    ⟨some 13, .len false (.t 12), none⟩,
    ⟨some 14, .bin .lss (.t 11) (.t 13), none⟩]) (
  .cond (.t 14) (.skip) (.exit 0))) (
  .seq (.block 1 (.seq (.dreg [] [(0, ⟨some 17, .mv (.t 0), none⟩),
      (0, ⟨some 18, .mv (.t 5), none⟩),
      (0, ⟨some 19, .iad 2 (.t 17) (.t 18), none⟩),
      (0, ⟨some 20, .load true [.s, (.i .i64)] (.t 19), none⟩),
      (0, ⟨some 21, .mv (.t 1), none⟩),
      (0, ⟨some 22, .mv (.t 5), none⟩),
      (0, ⟨some 23, .iad 2 (.t 21) (.t 22), none⟩),
      (0, ⟨some 24, .load true [.s, (.i .i64)] (.t 23), none⟩)] [⟨some 25, .call (.f 242) [.rd, .rd] false [.c .b] [(.t 20), (.t 24)], none⟩,
      ⟨some 26, .un .not (.t 25), none⟩]) (
    .cond (.t 26) (.seq (.reg false [⟨some 4, .mv (.c (.v (.bool false))), none⟩]) (
      .ret)) (.skip)))) (
  .reg false [⟨some 15, .mv (.t 5), none⟩,
    ⟨some 16, .bin .add (.t 15) (.c (.v (.int .i64 1))), none⟩,
    ⟨some 5, .mv (.t 16), none⟩])))
def e223x0 : Exits := [(.ret, [(4, .c .b)]), ((.exit 0), [])]
def l223x0 (T : Table) (k : Nat) := loopN (evalC ⟨T, []⟩ k b223x0 (Ex × List AV)) [0, 1, 5] e223x0
def a223 : AFun := ⟨[.rd, .rd], false, [.t 4], (
  .seq (.reg false [⟨some 4, .mv (.c (.v (.bool false))), none⟩]) (
  .seq (.seq (.reg false [⟨some 6, .mv (.t 0), none⟩,
    ⟨some 7, .len false (.t 6), none⟩,
    ⟨some 8, .mv (.t 1), none⟩,
    ⟨some 9, .len false (.t 8), none⟩,
    ⟨some 10, .bin .neq (.t 7) (.t 9), none⟩]) (
  .cond (.t 10) (.seq (.reg false [⟨some 4, .mv (.c (.v (.bool false))), none⟩]) (
    .ret)) (.skip))) (
  .seq (.seq (.reg false [⟨some 5, .mv (.c (.v (.int .i64 0))), none⟩]) (
  .block 0 (.loop [0, 1, 5] e223x0 b223x0))) (
  .seq (.reg false [⟨some 4, .mv (.c (.v (.bool true))), none⟩]) (
  .ret)))))⟩
theorem l223x0s (T : Table) (k n : Nat) (l3 : Rows) (l4 : Rows) (n5 : Int) : l223x0 T k (n + 1) [(.fz 2 l3), (.fz 2 l4), (.v (.int .i64 n5))] = (
 bif (decide (n5 < (l3.length : Int))) then (
 tst (decide (0 ≤ n5)) (
 look l3 (Int.toNat n5) fun r6 =>
 cS r6 0 fun s7 =>
 cI .i64 r6 1 fun n8 =>
 tst (decide (0 ≤ n5)) (
 look l4 (Int.toNat n5) fun r9 =>
 cS r9 0 fun s10 =>
 cI .i64 r9 1 fun n11 =>
 callT T 242 [(.g [(.v (.string s7)), (.v (.int .i64 n8))]), (.g [(.v (.string s10)), (.v (.int .i64 n11))])] fun o12 =>
 oD o12.res fun d13 =>
 dB d13 fun b14 =>
 bif (!b14) then (
 some (.ret, [(.v (.bool false))])) else (
 l223x0 T k n [(.fz 2 l3), (.fz 2 l4), (.v (.int .i64 (IntKind.wrap .i64 (n5 + 1))))])))) else (
 some ((.exit 0), []))) := by kernel_rfl
theorem a223q (T : Table) (k : Nat) (l1 : Rows) (l2 : Rows) : evalF T k a223 [(.d (.s 2 l1)), (.d (.s 2 l2))] = (
 bif ((l1.length : Int) != (l2.length : Int)) then (
 some ⟨(.d (.v (.bool false))), []⟩) else (
 aft (l223x0 T k k [(.fz 2 l1), (.fz 2 l2), (.v (.int .i64 0))]) fun e15 ys16 =>
 bif e15.same .ret then (
 aV ys16 0 fun x17 =>
 aB x17 fun b18 =>
 some ⟨(.d (.v (.bool b18))), []⟩) else (
 bif e15.same (.exit 0) then (
 some ⟨(.d (.v (.bool true))), []⟩) else (
 none)))) := by kernel_rfl
/- loop.example/g00119/laws.eqWant -/

def a188 : AFun := ⟨[.rd, .rd], false, [.t 4], (
  .seq (.reg false [⟨some 2, .box (.t 0), none⟩,
    ⟨some 3, .box (.t 1), none⟩,
    ⟨some 4, .mv (.c (.v (.bool false))), none⟩]) (
  .seq (.seq (.reg false [⟨some 5, .fad 0 (.t 2), none⟩,
    ⟨some 6, .load false [(.i .i64)] (.t 5), none⟩,
    ⟨some 7, .fad 0 (.t 3), none⟩,
    ⟨some 8, .load false [(.i .i64)] (.t 7), none⟩,
    ⟨some 9, .bin .neq (.t 6) (.t 8), none⟩]) (
  .cond (.t 9) (.seq (.reg false [⟨some 4, .mv (.c (.v (.bool false))), none⟩]) (
    .ret)) (.skip))) (
  .seq (.seq (.reg false [⟨some 10, .fad 1 (.t 2), none⟩,
    ⟨some 11, .load false [(.sl 3)] (.t 10), none⟩,
    ⟨some 12, .fad 1 (.t 3), none⟩,
    ⟨some 13, .load false [(.sl 3)] (.t 12), none⟩,
    ⟨some 14, .call (.f 222) [.rd, .rd] false [.c .b] [(.t 11), (.t 13)], none⟩,
    ⟨some 15, .un .not (.t 14), none⟩]) (
  .cond (.t 15) (.seq (.reg false [⟨some 4, .mv (.c (.v (.bool false))), none⟩]) (
    .ret)) (.skip))) (
  .seq (.seq (.reg false [⟨some 16, .fad 2 (.t 2), none⟩,
    ⟨some 17, .load false [(.sl 1)] (.t 16), none⟩,
    ⟨some 18, .fad 2 (.t 3), none⟩,
    ⟨some 19, .load false [(.sl 1)] (.t 18), none⟩,
    ⟨some 20, .call (.f 75) [.rd, .rd] false [.c .b] [(.t 17), (.t 19)], none⟩,
    ⟨some 21, .un .not (.t 20), none⟩]) (
  .cond (.t 21) (.seq (.reg false [⟨some 4, .mv (.c (.v (.bool false))), none⟩]) (
    .ret)) (.skip))) (
  .seq (.seq (.reg false [⟨some 22, .fad 3 (.t 2), none⟩,
    ⟨some 23, .load false [(.sl 2)] (.t 22), none⟩,
    ⟨some 24, .fad 3 (.t 3), none⟩,
    ⟨some 25, .load false [(.sl 2)] (.t 24), none⟩,
    ⟨some 26, .call (.f 223) [.rd, .rd] false [.c .b] [(.t 23), (.t 25)], none⟩,
    ⟨some 27, .un .not (.t 26), none⟩]) (
  .cond (.t 27) (.seq (.reg false [⟨some 4, .mv (.c (.v (.bool false))), none⟩]) (
    .ret)) (.skip))) (
  .seq (.reg false [⟨some 4, .mv (.c (.v (.bool true))), none⟩]) (
  .ret)))))))⟩

theorem a188q (T : Table) (k : Nat) (n1 : Int) (l2 : Rows) (l3 : Rows) (l4 : Rows) (n5 : Int) (l6 : Rows) (l7 : Rows) (l8 : Rows) : evalF T k a188 [(.g [(.v (.int .i64 n1)), (.s 3 l2), (.s 1 l3), (.s 2 l4)]), (.g [(.v (.int .i64 n5)), (.s 3 l6), (.s 1 l7), (.s 2 l8)])] = (
 bif (n1 != n5) then (
 some ⟨(.d (.v (.bool false))), []⟩) else (
 callT T 222 [(.d (.s 3 l2)), (.d (.s 3 l6))] fun o9 =>
 oD o9.res fun d10 =>
 dB d10 fun b11 =>
 bif (!b11) then (
 some ⟨(.d (.v (.bool false))), []⟩) else (
 callT T 75 [(.d (.s 1 l3)), (.d (.s 1 l7))] fun o12 =>
 oD o12.res fun d13 =>
 dB d13 fun b14 =>
 bif (!b14) then (
 some ⟨(.d (.v (.bool false))), []⟩) else (
 callT T 223 [(.d (.s 2 l4)), (.d (.s 2 l8))] fun o15 =>
 oD o15.res fun d16 =>
 dB d16 fun b17 =>
 bif (!b17) then (
 some ⟨(.d (.v (.bool false))), []⟩) else (
 some ⟨(.d (.v (.bool true))), []⟩))))) := by kernel_rfl
/- loop.example/g00119/laws.eqOp -/

def a250 : AFun := ⟨[.rd, .rd], false, [.t 4], (
  .seq (.reg false [⟨some 2, .box (.t 0), none⟩,
    ⟨some 3, .box (.t 1), none⟩,
    ⟨some 4, .mv (.c (.v (.bool false))), none⟩]) (
  .seq (.seq (.reg false [⟨some 5, .fad 0 (.t 2), none⟩,
    ⟨some 6, .load false [(.i .i64)] (.t 5), none⟩,
    ⟨some 7, .fad 0 (.t 3), none⟩,
    ⟨some 8, .load false [(.i .i64)] (.t 7), none⟩,
    ⟨some 9, .bin .neq (.t 6) (.t 8), none⟩]) (
  .cond (.t 9) (.seq (.reg false [⟨some 4, .mv (.c (.v (.bool false))), none⟩]) (
    .ret)) (.skip))) (
  .seq (.seq (.reg false [⟨some 10, .fad 1 (.t 2), none⟩,
    ⟨some 11, .load false [(.sl 1)] (.t 10), none⟩,
    ⟨some 12, .fad 1 (.t 3), none⟩,
    ⟨some 13, .load false [(.sl 1)] (.t 12), none⟩,
    ⟨some 14, .call (.f 75) [.rd, .rd] false [.c .b] [(.t 11), (.t 13)], none⟩,
    ⟨some 15, .un .not (.t 14), none⟩]) (
  .cond (.t 15) (.seq (.reg false [⟨some 4, .mv (.c (.v (.bool false))), none⟩]) (
    .ret)) (.skip))) (
  .seq (.seq (.reg false [⟨some 16, .fad 2 (.t 2), none⟩,
    ⟨some 17, .load true [(.i .i64), .s, (.i .i64), (.sl 1), (.sl 5)] (.t 16), none⟩,
    ⟨some 18, .fad 2 (.t 3), none⟩,
    ⟨some 19, .load true [(.i .i64), .s, (.i .i64), (.sl 1), (.sl 5)] (.t 18), none⟩,
    ⟨some 20, .call (.f 179) [.rd, .rd] false [.c .b] [(.t 17), (.t 19)], none⟩,
    ⟨some 21, .un .not (.t 20), none⟩]) (
  .cond (.t 21) (.seq (.reg false [⟨some 4, .mv (.c (.v (.bool false))), none⟩]) (
    .ret)) (.skip))) (
  .seq (.reg false [⟨some 4, .mv (.c (.v (.bool true))), none⟩]) (
  .ret))))))⟩

theorem a250q (T : Table) (k : Nat) (n1 : Int) (l2 : Rows) (n3 : Int) (s4 : ByteArray) (n5 : Int) (l6 : Rows) (l7 : Rows) (n8 : Int) (l9 : Rows) (n10 : Int) (s11 : ByteArray) (n12 : Int) (l13 : Rows) (l14 : Rows) : evalF T k a250 [(.g [(.v (.int .i64 n1)), (.s 1 l2), (.v (.int .i64 n3)), (.v (.string s4)), (.v (.int .i64 n5)), (.s 1 l6), (.s 5 l7)]), (.g [(.v (.int .i64 n8)), (.s 1 l9), (.v (.int .i64 n10)), (.v (.string s11)), (.v (.int .i64 n12)), (.s 1 l13), (.s 5 l14)])] = (
 bif (n1 != n8) then (
 some ⟨(.d (.v (.bool false))), []⟩) else (
 callT T 75 [(.d (.s 1 l2)), (.d (.s 1 l9))] fun o15 =>
 oD o15.res fun d16 =>
 dB d16 fun b17 =>
 bif (!b17) then (
 some ⟨(.d (.v (.bool false))), []⟩) else (
 callT T 179 [(.g [(.v (.int .i64 n3)), (.v (.string s4)), (.v (.int .i64 n5)), (.s 1 l6), (.s 5 l7)]), (.g [(.v (.int .i64 n10)), (.v (.string s11)), (.v (.int .i64 n12)), (.s 1 l13), (.s 5 l14)])] fun o18 =>
 oD o18.res fun d19 =>
 dB d19 fun b20 =>
 bif (!b20) then (
 some ⟨(.d (.v (.bool false))), []⟩) else (
 some ⟨(.d (.v (.bool true))), []⟩)))) := by kernel_rfl

-- a251 "slices.swapRangeCmpFunc[loop.example/g00119/impl.Run]": store at fa
-- a252 "(runtime.boundsError).Error": IndexError('list index out of range')
-- a253 "(runtime.boundsError).RuntimeError": IndexError('list index out of range')
-- a254 "(runtime.errorString).Error": IndexError('list index out of range')
-- a255 "(runtime.errorString).RuntimeError": IndexError('list index out of range')
-- a256 "(runtime.plainError).Error": IndexError('list index out of range')
-- a257 "(runtime.plainError).RuntimeError": IndexError('list index out of range')
-- a258 "(runtime.errorAddressString).Error": IndexError('list index out of range')
-- a259 "(runtime.errorAddressString).RuntimeError": IndexError('list index out of range')
-- a260 "(*runtime.TypeAssertionError).Error": IndexError('list index out of range')
-- a261 "(*runtime.TypeAssertionError).RuntimeError": IndexError('list index out of range')
-- a262 "(*runtime.PanicNilError).Error": IndexError('list index out of range')
-- a263 "(*runtime.PanicNilError).RuntimeError": IndexError('list index out of range')
-- a264 "(*internal/abi.Type).Align": IndexError('list index out of range')
-- a265 "(internal/runtime/maps.unhashableTypeError).Error": IndexError('list index out of range')
-- a266 "(internal/runtime/maps.unhashableTypeError).RuntimeError": IndexError('list index out of range')
-- a267 "(internal/abi.Kind).String": IndexError('list index out of range')
/- loop.example/g00119/laws.eqOpS -/
def b243x0 : ACode := (
  .seq (.seq (.reg false [⟨some 11, .mv (.t 5), none⟩,
    ⟨some 12, .mv (.t 0), none⟩,
    ⟨some 13, .len false (.t 12), none⟩,
    ⟨some 14, .bin .lss (.t 11) (.t 13), none⟩]) (
  .cond (.t 14) (.skip) (.exit 0))) (
  .seq (.block 1 (.seq (.dreg [] [(0, ⟨some 17, .mv (.t 0), none⟩),
      (0, ⟨some 18, .mv (.t 5), none⟩),
      (0, ⟨some 19, .iad 7 (.t 17) (.t 18), none⟩),
      (0, ⟨some 20, .load true [(.i .i64), (.sl 1), (.i .i64), .s, (.i .i64), (.sl 1), (.sl 5)] (.t 19), none⟩),
      (0, ⟨some 21, .mv (.t 1), none⟩),
      (0, ⟨some 22, .mv (.t 5), none⟩),
      (0, ⟨some 23, .iad 7 (.t 21) (.t 22), none⟩),
      (0, ⟨some 24, .load true [(.i .i64), (.sl 1), (.i .i64), .s, (.i .i64), (.sl 1), (.sl 5)] (.t 23), none⟩)] [⟨some 25, .call (.f 250) [.rd, .rd] false [.c .b] [(.t 20), (.t 24)], none⟩,
      ⟨some 26, .un .not (.t 25), none⟩]) (
    .cond (.t 26) (.seq (.reg false [⟨some 4, .mv (.c (.v (.bool false))), none⟩]) (
      .ret)) (.skip)))) (
  .reg false [⟨some 15, .mv (.t 5), none⟩,
    ⟨some 16, .bin .add (.t 15) (.c (.v (.int .i64 1))), none⟩,
    ⟨some 5, .mv (.t 16), none⟩])))
def e243x0 : Exits := [(.ret, [(4, .c .b)]), ((.exit 0), [])]
def l243x0 (T : Table) (k : Nat) := loopN (evalC ⟨T, []⟩ k b243x0 (Ex × List AV)) [0, 1, 5] e243x0
def a243 : AFun := ⟨[.rd, .rd], false, [.t 4], (
  .seq (.reg false [⟨some 4, .mv (.c (.v (.bool false))), none⟩]) (
  .seq (.seq (.reg false [⟨some 6, .mv (.t 0), none⟩,
    ⟨some 7, .len false (.t 6), none⟩,
    ⟨some 8, .mv (.t 1), none⟩,
    ⟨some 9, .len false (.t 8), none⟩,
    ⟨some 10, .bin .neq (.t 7) (.t 9), none⟩]) (
  .cond (.t 10) (.seq (.reg false [⟨some 4, .mv (.c (.v (.bool false))), none⟩]) (
    .ret)) (.skip))) (
  .seq (.seq (.reg false [⟨some 5, .mv (.c (.v (.int .i64 0))), none⟩]) (
  .block 0 (.loop [0, 1, 5] e243x0 b243x0))) (
  .seq (.reg false [⟨some 4, .mv (.c (.v (.bool true))), none⟩]) (
  .ret)))))⟩
theorem l243x0s (T : Table) (k n : Nat) (l3 : Rows) (l4 : Rows) (n5 : Int) : l243x0 T k (n + 1) [(.fz 7 l3), (.fz 7 l4), (.v (.int .i64 n5))] = (
 bif (decide (n5 < (l3.length : Int))) then (
 tst (decide (0 ≤ n5)) (
 look l3 (Int.toNat n5) fun r6 =>
 cI .i64 r6 0 fun n7 =>
 cL 1 r6 1 fun l8 =>
 cI .i64 r6 2 fun n9 =>
 cS r6 3 fun s10 =>
 cI .i64 r6 4 fun n11 =>
 cL 1 r6 5 fun l12 =>
 cL 5 r6 6 fun l13 =>
 tst (decide (0 ≤ n5)) (
 look l4 (Int.toNat n5) fun r14 =>
 cI .i64 r14 0 fun n15 =>
 cL 1 r14 1 fun l16 =>
 cI .i64 r14 2 fun n17 =>
 cS r14 3 fun s18 =>
 cI .i64 r14 4 fun n19 =>
 cL 1 r14 5 fun l20 =>
 cL 5 r14 6 fun l21 =>
 callT T 250 [(.g [(.v (.int .i64 n7)), (.s 1 l8), (.v (.int .i64 n9)), (.v (.string s10)), (.v (.int .i64 n11)), (.s 1 l12), (.s 5 l13)]), (.g [(.v (.int .i64 n15)), (.s 1 l16), (.v (.int .i64 n17)), (.v (.string s18)), (.v (.int .i64 n19)), (.s 1 l20), (.s 5 l21)])] fun o22 =>
 oD o22.res fun d23 =>
 dB d23 fun b24 =>
 bif (!b24) then (
 some (.ret, [(.v (.bool false))])) else (
 l243x0 T k n [(.fz 7 l3), (.fz 7 l4), (.v (.int .i64 (IntKind.wrap .i64 (n5 + 1))))])))) else (
 some ((.exit 0), []))) := by kernel_rfl
theorem a243q (T : Table) (k : Nat) (l1 : Rows) (l2 : Rows) : evalF T k a243 [(.d (.s 7 l1)), (.d (.s 7 l2))] = (
 bif ((l1.length : Int) != (l2.length : Int)) then (
 some ⟨(.d (.v (.bool false))), []⟩) else (
 aft (l243x0 T k k [(.fz 7 l1), (.fz 7 l2), (.v (.int .i64 0))]) fun e25 ys26 =>
 bif e25.same .ret then (
 aV ys26 0 fun x27 =>
 aB x27 fun b28 =>
 some ⟨(.d (.v (.bool b28))), []⟩) else (
 bif e25.same (.exit 0) then (
 some ⟨(.d (.v (.bool true))), []⟩) else (
 none)))) := by kernel_rfl
/- loop.example/g00119/laws.eqOver -/

def a224 : AFun := ⟨[.rd, .rd], false, [.t 4], (
  .seq (.reg false [⟨some 2, .box (.t 0), none⟩,
    ⟨some 3, .box (.t 1), none⟩,
    ⟨some 4, .mv (.c (.v (.bool false))), none⟩]) (
  .seq (.seq (.reg false [⟨some 5, .fad 0 (.t 2), none⟩,
    ⟨some 6, .load false [.s] (.t 5), none⟩,
    ⟨some 7, .fad 0 (.t 3), none⟩,
    ⟨some 8, .load false [.s] (.t 7), none⟩,
    ⟨some 9, .bin .neq (.t 6) (.t 8), none⟩]) (
  .cond (.t 9) (.seq (.reg false [⟨some 4, .mv (.c (.v (.bool false))), none⟩]) (
    .ret)) (.skip))) (
  .seq (.seq (.reg false [⟨some 10, .fad 1 (.t 2), none⟩,
    ⟨some 11, .load false [(.sl 7)] (.t 10), none⟩,
    ⟨some 12, .fad 1 (.t 3), none⟩,
    ⟨some 13, .load false [(.sl 7)] (.t 12), none⟩,
    ⟨some 14, .call (.f 243) [.rd, .rd] false [.c .b] [(.t 11), (.t 13)], none⟩,
    ⟨some 15, .un .not (.t 14), none⟩]) (
  .cond (.t 15) (.seq (.reg false [⟨some 4, .mv (.c (.v (.bool false))), none⟩]) (
    .ret)) (.skip))) (
  .seq (.reg false [⟨some 4, .mv (.c (.v (.bool true))), none⟩]) (
  .ret)))))⟩

theorem a224q (T : Table) (k : Nat) (s1 : ByteArray) (l2 : Rows) (s3 : ByteArray) (l4 : Rows) : evalF T k a224 [(.g [(.v (.string s1)), (.s 7 l2)]), (.g [(.v (.string s3)), (.s 7 l4)])] = (
 bif (!(bytesEq s1 s3)) then (
 some ⟨(.d (.v (.bool false))), []⟩) else (
 callT T 243 [(.d (.s 7 l2)), (.d (.s 7 l4))] fun o5 =>
 oD o5.res fun d6 =>
 dB d6 fun b7 =>
 bif (!b7) then (
 some ⟨(.d (.v (.bool false))), []⟩) else (
 some ⟨(.d (.v (.bool true))), []⟩))) := by kernel_rfl
/- loop.example/g00119/laws.eqOverS -/
def b189x0 : ACode := (
  .seq (.seq (.reg false [⟨some 11, .mv (.t 5), none⟩,
    ⟨some 12, .mv (.t 0), none⟩,
    ⟨some 13, .len false (.t 12), none⟩,
    ⟨some 14, .bin .lss (.t 11) (.t 13), none⟩]) (
  .cond (.t 14) (.skip) (.exit 0))) (
  .seq (.block 1 (.seq (.dreg [] [(0, ⟨some 17, .mv (.t 0), none⟩),
      (0, ⟨some 18, .mv (.t 5), none⟩),
      (0, ⟨some 19, .iad 2 (.t 17) (.t 18), none⟩),
      (0, ⟨some 20, .load true [.s, (.sl 7)] (.t 19), none⟩),
      (0, ⟨some 21, .mv (.t 1), none⟩),
      (0, ⟨some 22, .mv (.t 5), none⟩),
      (0, ⟨some 23, .iad 2 (.t 21) (.t 22), none⟩),
      (0, ⟨some 24, .load true [.s, (.sl 7)] (.t 23), none⟩)] [⟨some 25, .call (.f 224) [.rd, .rd] false [.c .b] [(.t 20), (.t 24)], none⟩,
      ⟨some 26, .un .not (.t 25), none⟩]) (
    .cond (.t 26) (.seq (.reg false [⟨some 4, .mv (.c (.v (.bool false))), none⟩]) (
      .ret)) (.skip)))) (
  .reg false [⟨some 15, .mv (.t 5), none⟩,
    ⟨some 16, .bin .add (.t 15) (.c (.v (.int .i64 1))), none⟩,
    ⟨some 5, .mv (.t 16), none⟩])))
def e189x0 : Exits := [(.ret, [(4, .c .b)]), ((.exit 0), [])]
def l189x0 (T : Table) (k : Nat) := loopN (evalC ⟨T, []⟩ k b189x0 (Ex × List AV)) [0, 1, 5] e189x0
def a189 : AFun := ⟨[.rd, .rd], false, [.t 4], (
  .seq (.reg false [⟨some 4, .mv (.c (.v (.bool false))), none⟩]) (
  .seq (.seq (.reg false [⟨some 6, .mv (.t 0), none⟩,
    ⟨some 7, .len false (.t 6), none⟩,
    ⟨some 8, .mv (.t 1), none⟩,
    ⟨some 9, .len false (.t 8), none⟩,
    ⟨some 10, .bin .neq (.t 7) (.t 9), none⟩]) (
  .cond (.t 10) (.seq (.reg false [⟨some 4, .mv (.c (.v (.bool false))), none⟩]) (
    .ret)) (.skip))) (
  .seq (.seq (.reg false [⟨some 5, .mv (.c (.v (.int .i64 0))), none⟩]) (
  .block 0 (.loop [0, 1, 5] e189x0 b189x0))) (
  .seq (.reg false [⟨some 4, .mv (.c (.v (.bool true))), none⟩]) (
  .ret)))))⟩
theorem l189x0s (T : Table) (k n : Nat) (l3 : Rows) (l4 : Rows) (n5 : Int) : l189x0 T k (n + 1) [(.fz 2 l3), (.fz 2 l4), (.v (.int .i64 n5))] = (
 bif (decide (n5 < (l3.length : Int))) then (
 tst (decide (0 ≤ n5)) (
 look l3 (Int.toNat n5) fun r6 =>
 cS r6 0 fun s7 =>
 cL 7 r6 1 fun l8 =>
 tst (decide (0 ≤ n5)) (
 look l4 (Int.toNat n5) fun r9 =>
 cS r9 0 fun s10 =>
 cL 7 r9 1 fun l11 =>
 callT T 224 [(.g [(.v (.string s7)), (.s 7 l8)]), (.g [(.v (.string s10)), (.s 7 l11)])] fun o12 =>
 oD o12.res fun d13 =>
 dB d13 fun b14 =>
 bif (!b14) then (
 some (.ret, [(.v (.bool false))])) else (
 l189x0 T k n [(.fz 2 l3), (.fz 2 l4), (.v (.int .i64 (IntKind.wrap .i64 (n5 + 1))))])))) else (
 some ((.exit 0), []))) := by kernel_rfl
theorem a189q (T : Table) (k : Nat) (l1 : Rows) (l2 : Rows) : evalF T k a189 [(.d (.s 2 l1)), (.d (.s 2 l2))] = (
 bif ((l1.length : Int) != (l2.length : Int)) then (
 some ⟨(.d (.v (.bool false))), []⟩) else (
 aft (l189x0 T k k [(.fz 2 l1), (.fz 2 l2), (.v (.int .i64 0))]) fun e15 ys16 =>
 bif e15.same .ret then (
 aV ys16 0 fun x17 =>
 aB x17 fun b18 =>
 some ⟨(.d (.v (.bool b18))), []⟩) else (
 bif e15.same (.exit 0) then (
 some ⟨(.d (.v (.bool true))), []⟩) else (
 none)))) := by kernel_rfl
/- loop.example/g00119/laws.eqJob -/

def a144 : AFun := ⟨[.rd, .rd], false, [.t 4], (
  .seq (.reg false [⟨some 2, .box (.t 0), none⟩,
    ⟨some 3, .box (.t 1), none⟩,
    ⟨some 4, .mv (.c (.v (.bool false))), none⟩]) (
  .seq (.seq (.reg false [⟨some 5, .fad 0 (.t 2), none⟩,
    ⟨some 6, .load false [(.i .i64)] (.t 5), none⟩,
    ⟨some 7, .fad 0 (.t 3), none⟩,
    ⟨some 8, .load false [(.i .i64)] (.t 7), none⟩,
    ⟨some 9, .bin .neq (.t 6) (.t 8), none⟩]) (
  .cond (.t 9) (.seq (.reg false [⟨some 4, .mv (.c (.v (.bool false))), none⟩]) (
    .ret)) (.skip))) (
  .seq (.seq (.reg false [⟨some 10, .fad 1 (.t 2), none⟩,
    ⟨some 11, .load false [.s] (.t 10), none⟩,
    ⟨some 12, .fad 1 (.t 3), none⟩,
    ⟨some 13, .load false [.s] (.t 12), none⟩,
    ⟨some 14, .bin .neq (.t 11) (.t 13), none⟩]) (
  .cond (.t 14) (.seq (.reg false [⟨some 4, .mv (.c (.v (.bool false))), none⟩]) (
    .ret)) (.skip))) (
  .seq (.seq (.reg false [⟨some 15, .fad 2 (.t 2), none⟩,
    ⟨some 16, .load true [(.i .i64), (.sl 3), (.sl 1), (.sl 2)] (.t 15), none⟩,
    ⟨some 17, .fad 2 (.t 3), none⟩,
    ⟨some 18, .load true [(.i .i64), (.sl 3), (.sl 1), (.sl 2)] (.t 17), none⟩,
    ⟨some 19, .call (.f 188) [.rd, .rd] false [.c .b] [(.t 16), (.t 18)], none⟩,
    ⟨some 20, .un .not (.t 19), none⟩]) (
  .cond (.t 20) (.seq (.reg false [⟨some 4, .mv (.c (.v (.bool false))), none⟩]) (
    .ret)) (.skip))) (
  .seq (.seq (.reg false [⟨some 21, .fad 6 (.t 2), none⟩,
    ⟨some 22, .load true [(.i .i64), .s, (.i .i64), (.sl 1), (.sl 5)] (.t 21), none⟩,
    ⟨some 23, .fad 6 (.t 3), none⟩,
    ⟨some 24, .load true [(.i .i64), .s, (.i .i64), (.sl 1), (.sl 5)] (.t 23), none⟩,
    ⟨some 25, .call (.f 179) [.rd, .rd] false [.c .b] [(.t 22), (.t 24)], none⟩,
    ⟨some 26, .un .not (.t 25), none⟩]) (
  .cond (.t 26) (.seq (.reg false [⟨some 4, .mv (.c (.v (.bool false))), none⟩]) (
    .ret)) (.skip))) (
  .seq (.seq (.reg false [⟨some 27, .fad 11 (.t 2), none⟩,
    ⟨some 28, .load false [(.sl 2)] (.t 27), none⟩,
    ⟨some 29, .fad 11 (.t 3), none⟩,
    ⟨some 30, .load false [(.sl 2)] (.t 29), none⟩,
    ⟨some 31, .call (.f 189) [.rd, .rd] false [.c .b] [(.t 28), (.t 30)], none⟩,
    ⟨some 32, .un .not (.t 31), none⟩]) (
  .cond (.t 32) (.seq (.reg false [⟨some 4, .mv (.c (.v (.bool false))), none⟩]) (
    .ret)) (.skip))) (
  .seq (.seq (.reg false [⟨some 33, .fad 12 (.t 2), none⟩,
    ⟨some 34, .load false [.b] (.t 33), none⟩,
    ⟨some 35, .fad 12 (.t 3), none⟩,
    ⟨some 36, .load false [.b] (.t 35), none⟩,
    ⟨some 37, .beq true (.t 34) (.t 36), none⟩]) (
  .cond (.t 37) (.seq (.reg false [⟨some 4, .mv (.c (.v (.bool false))), none⟩]) (
    .ret)) (.skip))) (
  .seq (.reg false [⟨some 4, .mv (.c (.v (.bool true))), none⟩]) (
  .ret)))))))))⟩

theorem a144q (T : Table) (k : Nat) (n1 : Int) (s2 : ByteArray) (n3 : Int) (l4 : Rows) (l5 : Rows) (l6 : Rows) (n7 : Int) (s8 : ByteArray) (n9 : Int) (l10 : Rows) (l11 : Rows) (l12 : Rows) (b13 : Bool) (n14 : Int) (s15 : ByteArray) (n16 : Int) (l17 : Rows) (l18 : Rows) (l19 : Rows) (n20 : Int) (s21 : ByteArray) (n22 : Int) (l23 : Rows) (l24 : Rows) (l25 : Rows) (b26 : Bool) : evalF T k a144 [(.g [(.v (.int .i64 n1)), (.v (.string s2)), (.v (.int .i64 n3)), (.s 3 l4), (.s 1 l5), (.s 2 l6), (.v (.int .i64 n7)), (.v (.string s8)), (.v (.int .i64 n9)), (.s 1 l10), (.s 5 l11), (.s 2 l12), (.v (.bool b13))]), (.g [(.v (.int .i64 n14)), (.v (.string s15)), (.v (.int .i64 n16)), (.s 3 l17), (.s 1 l18), (.s 2 l19), (.v (.int .i64 n20)), (.v (.string s21)), (.v (.int .i64 n22)), (.s 1 l23), (.s 5 l24), (.s 2 l25), (.v (.bool b26))])] = (
 bif (n1 != n14) then (
 some ⟨(.d (.v (.bool false))), []⟩) else (
 bif (!(bytesEq s2 s15)) then (
 some ⟨(.d (.v (.bool false))), []⟩) else (
 callT T 188 [(.g [(.v (.int .i64 n3)), (.s 3 l4), (.s 1 l5), (.s 2 l6)]), (.g [(.v (.int .i64 n16)), (.s 3 l17), (.s 1 l18), (.s 2 l19)])] fun o27 =>
 oD o27.res fun d28 =>
 dB d28 fun b29 =>
 bif (!b29) then (
 some ⟨(.d (.v (.bool false))), []⟩) else (
 callT T 179 [(.g [(.v (.int .i64 n7)), (.v (.string s8)), (.v (.int .i64 n9)), (.s 1 l10), (.s 5 l11)]), (.g [(.v (.int .i64 n20)), (.v (.string s21)), (.v (.int .i64 n22)), (.s 1 l23), (.s 5 l24)])] fun o30 =>
 oD o30.res fun d31 =>
 dB d31 fun b32 =>
 bif (!b32) then (
 some ⟨(.d (.v (.bool false))), []⟩) else (
 callT T 189 [(.d (.s 2 l12)), (.d (.s 2 l25))] fun o33 =>
 oD o33.res fun d34 =>
 dB d34 fun b35 =>
 bif (!b35) then (
 some ⟨(.d (.v (.bool false))), []⟩) else (
 bif (b13 != b26) then (
 some ⟨(.d (.v (.bool false))), []⟩) else (
 some ⟨(.d (.v (.bool true))), []⟩))))))) := by kernel_rfl
/- loop.example/g00119/laws.eqJobS -/
def b72x0 : ACode := (
  .seq (.seq (.reg false [⟨some 11, .mv (.t 5), none⟩,
    ⟨some 12, .mv (.t 0), none⟩,
    ⟨some 13, .len false (.t 12), none⟩,
    ⟨some 14, .bin .lss (.t 11) (.t 13), none⟩]) (
  .cond (.t 14) (.skip) (.exit 0))) (
  .seq (.block 1 (.seq (.dreg [] [(0, ⟨some 17, .mv (.t 0), none⟩),
      (0, ⟨some 18, .mv (.t 5), none⟩),
      (0, ⟨some 19, .iad 13 (.t 17) (.t 18), none⟩),
      (0, ⟨some 20, .load true [(.i .i64), .s, (.i .i64), (.sl 3), (.sl 1), (.sl 2), (.i .i64), .s, (.i .i64), (.sl 1), (.sl 5), (.sl 2), .b] (.t 19), none⟩),
      (0, ⟨some 21, .mv (.t 1), none⟩),
      (0, ⟨some 22, .mv (.t 5), none⟩),
      (0, ⟨some 23, .iad 13 (.t 21) (.t 22), none⟩),
      (0, ⟨some 24, .load true [(.i .i64), .s, (.i .i64), (.sl 3), (.sl 1), (.sl 2), (.i .i64), .s, (.i .i64), (.sl 1), (.sl 5), (.sl 2), .b] (.t 23), none⟩)] [⟨some 25, .call (.f 144) [.rd, .rd] false [.c .b] [(.t 20), (.t 24)], none⟩,
      ⟨some 26, .un .not (.t 25), none⟩]) (
    .cond (.t 26) (.seq (.reg false [⟨some 4, .mv (.c (.v (.bool false))), none⟩]) (
      .ret)) (.skip)))) (
  .reg false [⟨some 15, .mv (.t 5), none⟩,
    ⟨some 16, .bin .add (.t 15) (.c (.v (.int .i64 1))), none⟩,
    ⟨some 5, .mv (.t 16), none⟩])))
def e72x0 : Exits := [(.ret, [(4, .c .b)]), ((.exit 0), [])]
def l72x0 (T : Table) (k : Nat) := loopN (evalC ⟨T, []⟩ k b72x0 (Ex × List AV)) [0, 1, 5] e72x0
def a72 : AFun := ⟨[.rd, .rd], false, [.t 4], (
  .seq (.reg false [⟨some 4, .mv (.c (.v (.bool false))), none⟩]) (
  .seq (.seq (.reg false [⟨some 6, .mv (.t 0), none⟩,
    ⟨some 7, .len false (.t 6), none⟩,
    ⟨some 8, .mv (.t 1), none⟩,
    ⟨some 9, .len false (.t 8), none⟩,
    ⟨some 10, .bin .neq (.t 7) (.t 9), none⟩]) (
  .cond (.t 10) (.seq (.reg false [⟨some 4, .mv (.c (.v (.bool false))), none⟩]) (
    .ret)) (.skip))) (
  .seq (.seq (.reg false [⟨some 5, .mv (.c (.v (.int .i64 0))), none⟩]) (
  .block 0 (.loop [0, 1, 5] e72x0 b72x0))) (
  .seq (.reg false [⟨some 4, .mv (.c (.v (.bool true))), none⟩]) (
  .ret)))))⟩
theorem l72x0s (T : Table) (k n : Nat) (l3 : Rows) (l4 : Rows) (n5 : Int) : l72x0 T k (n + 1) [(.fz 13 l3), (.fz 13 l4), (.v (.int .i64 n5))] = (
 bif (decide (n5 < (l3.length : Int))) then (
 tst (decide (0 ≤ n5)) (
 look l3 (Int.toNat n5) fun r6 =>
 cI .i64 r6 0 fun n7 =>
 cS r6 1 fun s8 =>
 cI .i64 r6 2 fun n9 =>
 cL 3 r6 3 fun l10 =>
 cL 1 r6 4 fun l11 =>
 cL 2 r6 5 fun l12 =>
 cI .i64 r6 6 fun n13 =>
 cS r6 7 fun s14 =>
 cI .i64 r6 8 fun n15 =>
 cL 1 r6 9 fun l16 =>
 cL 5 r6 10 fun l17 =>
 cL 2 r6 11 fun l18 =>
 cB r6 12 fun b19 =>
 tst (decide (0 ≤ n5)) (
 look l4 (Int.toNat n5) fun r20 =>
 cI .i64 r20 0 fun n21 =>
 cS r20 1 fun s22 =>
 cI .i64 r20 2 fun n23 =>
 cL 3 r20 3 fun l24 =>
 cL 1 r20 4 fun l25 =>
 cL 2 r20 5 fun l26 =>
 cI .i64 r20 6 fun n27 =>
 cS r20 7 fun s28 =>
 cI .i64 r20 8 fun n29 =>
 cL 1 r20 9 fun l30 =>
 cL 5 r20 10 fun l31 =>
 cL 2 r20 11 fun l32 =>
 cB r20 12 fun b33 =>
 callT T 144 [(.g [(.v (.int .i64 n7)), (.v (.string s8)), (.v (.int .i64 n9)), (.s 3 l10), (.s 1 l11), (.s 2 l12), (.v (.int .i64 n13)), (.v (.string s14)), (.v (.int .i64 n15)), (.s 1 l16), (.s 5 l17), (.s 2 l18), (.v (.bool b19))]), (.g [(.v (.int .i64 n21)), (.v (.string s22)), (.v (.int .i64 n23)), (.s 3 l24), (.s 1 l25), (.s 2 l26), (.v (.int .i64 n27)), (.v (.string s28)), (.v (.int .i64 n29)), (.s 1 l30), (.s 5 l31), (.s 2 l32), (.v (.bool b33))])] fun o34 =>
 oD o34.res fun d35 =>
 dB d35 fun b36 =>
 bif (!b36) then (
 some (.ret, [(.v (.bool false))])) else (
 l72x0 T k n [(.fz 13 l3), (.fz 13 l4), (.v (.int .i64 (IntKind.wrap .i64 (n5 + 1))))])))) else (
 some ((.exit 0), []))) := by kernel_rfl
theorem a72q (T : Table) (k : Nat) (l1 : Rows) (l2 : Rows) : evalF T k a72 [(.d (.s 13 l1)), (.d (.s 13 l2))] = (
 bif ((l1.length : Int) != (l2.length : Int)) then (
 some ⟨(.d (.v (.bool false))), []⟩) else (
 aft (l72x0 T k k [(.fz 13 l1), (.fz 13 l2), (.v (.int .i64 0))]) fun e37 ys38 =>
 bif e37.same .ret then (
 aV ys38 0 fun x39 =>
 aB x39 fun b40 =>
 some ⟨(.d (.v (.bool b40))), []⟩) else (
 bif e37.same (.exit 0) then (
 some ⟨(.d (.v (.bool true))), []⟩) else (
 none)))) := by kernel_rfl
/- loop.example/g00119/laws.eqLabel -/

def a244 : AFun := ⟨[.rd, .rd], false, [.t 4], (
  .seq (.reg false [⟨some 2, .box (.t 0), none⟩,
    ⟨some 3, .box (.t 1), none⟩,
    ⟨some 4, .mv (.c (.v (.bool false))), none⟩]) (
  .seq (.seq (.reg false [⟨some 5, .fad 0 (.t 2), none⟩,
    ⟨some 6, .load false [.s] (.t 5), none⟩,
    ⟨some 7, .fad 0 (.t 3), none⟩,
    ⟨some 8, .load false [.s] (.t 7), none⟩,
    ⟨some 9, .bin .neq (.t 6) (.t 8), none⟩]) (
  .cond (.t 9) (.seq (.reg false [⟨some 4, .mv (.c (.v (.bool false))), none⟩]) (
    .ret)) (.skip))) (
  .seq (.seq (.reg false [⟨some 10, .fad 1 (.t 2), none⟩,
    ⟨some 11, .load false [.s] (.t 10), none⟩,
    ⟨some 12, .fad 1 (.t 3), none⟩,
    ⟨some 13, .load false [.s] (.t 12), none⟩,
    ⟨some 14, .bin .neq (.t 11) (.t 13), none⟩]) (
  .cond (.t 14) (.seq (.reg false [⟨some 4, .mv (.c (.v (.bool false))), none⟩]) (
    .ret)) (.skip))) (
  .seq (.reg false [⟨some 4, .mv (.c (.v (.bool true))), none⟩]) (
  .ret)))))⟩

theorem a244q (T : Table) (k : Nat) (s1 : ByteArray) (s2 : ByteArray) (s3 : ByteArray) (s4 : ByteArray) : evalF T k a244 [(.g [(.v (.string s1)), (.v (.string s2))]), (.g [(.v (.string s3)), (.v (.string s4))])] = (
 bif (!(bytesEq s1 s3)) then (
 some ⟨(.d (.v (.bool false))), []⟩) else (
 bif (!(bytesEq s2 s4)) then (
 some ⟨(.d (.v (.bool false))), []⟩) else (
 some ⟨(.d (.v (.bool true))), []⟩))) := by kernel_rfl

-- a245 "slices.rotateCmpFunc[loop.example/g00119/impl.Run]": shape of ff
-- a246 "slices.swapRangeCmpFunc[loop.example/g00119/impl.Part]": store at fa
/- loop.example/g00119/laws.eqLabelS -/
def b225x0 : ACode := (
  .seq (.seq (.reg false [⟨some 11, .mv (.t 5), none⟩,
    ⟨some 12, .mv (.t 0), none⟩,
    ⟨some 13, .len false (.t 12), none⟩,
    ⟨some 14, .bin .lss (.t 11) (.t 13), none⟩]) (
  .cond (.t 14) (.skip) (.exit 0))) (
  .seq (.block 1 (.seq (.dreg [] [(0, ⟨some 17, .mv (.t 0), none⟩),
      (0, ⟨some 18, .mv (.t 5), none⟩),
      (0, ⟨some 19, .iad 2 (.t 17) (.t 18), none⟩),
      (0, ⟨some 20, .load true [.s, .s] (.t 19), none⟩),
      (0, ⟨some 21, .mv (.t 1), none⟩),
      (0, ⟨some 22, .mv (.t 5), none⟩),
      (0, ⟨some 23, .iad 2 (.t 21) (.t 22), none⟩),
      (0, ⟨some 24, .load true [.s, .s] (.t 23), none⟩)] [⟨some 25, .call (.f 244) [.rd, .rd] false [.c .b] [(.t 20), (.t 24)], none⟩,
      ⟨some 26, .un .not (.t 25), none⟩]) (
    .cond (.t 26) (.seq (.reg false [⟨some 4, .mv (.c (.v (.bool false))), none⟩]) (
      .ret)) (.skip)))) (
  .reg false [⟨some 15, .mv (.t 5), none⟩,
    ⟨some 16, .bin .add (.t 15) (.c (.v (.int .i64 1))), none⟩,
    ⟨some 5, .mv (.t 16), none⟩])))
def e225x0 : Exits := [(.ret, [(4, .c .b)]), ((.exit 0), [])]
def l225x0 (T : Table) (k : Nat) := loopN (evalC ⟨T, []⟩ k b225x0 (Ex × List AV)) [0, 1, 5] e225x0
def a225 : AFun := ⟨[.rd, .rd], false, [.t 4], (
  .seq (.reg false [⟨some 4, .mv (.c (.v (.bool false))), none⟩]) (
  .seq (.seq (.reg false [⟨some 6, .mv (.t 0), none⟩,
    ⟨some 7, .len false (.t 6), none⟩,
    ⟨some 8, .mv (.t 1), none⟩,
    ⟨some 9, .len false (.t 8), none⟩,
    ⟨some 10, .bin .neq (.t 7) (.t 9), none⟩]) (
  .cond (.t 10) (.seq (.reg false [⟨some 4, .mv (.c (.v (.bool false))), none⟩]) (
    .ret)) (.skip))) (
  .seq (.seq (.reg false [⟨some 5, .mv (.c (.v (.int .i64 0))), none⟩]) (
  .block 0 (.loop [0, 1, 5] e225x0 b225x0))) (
  .seq (.reg false [⟨some 4, .mv (.c (.v (.bool true))), none⟩]) (
  .ret)))))⟩
theorem l225x0s (T : Table) (k n : Nat) (l3 : Rows) (l4 : Rows) (n5 : Int) : l225x0 T k (n + 1) [(.fz 2 l3), (.fz 2 l4), (.v (.int .i64 n5))] = (
 bif (decide (n5 < (l3.length : Int))) then (
 tst (decide (0 ≤ n5)) (
 look l3 (Int.toNat n5) fun r6 =>
 cS r6 0 fun s7 =>
 cS r6 1 fun s8 =>
 tst (decide (0 ≤ n5)) (
 look l4 (Int.toNat n5) fun r9 =>
 cS r9 0 fun s10 =>
 cS r9 1 fun s11 =>
 callT T 244 [(.g [(.v (.string s7)), (.v (.string s8))]), (.g [(.v (.string s10)), (.v (.string s11))])] fun o12 =>
 oD o12.res fun d13 =>
 dB d13 fun b14 =>
 bif (!b14) then (
 some (.ret, [(.v (.bool false))])) else (
 l225x0 T k n [(.fz 2 l3), (.fz 2 l4), (.v (.int .i64 (IntKind.wrap .i64 (n5 + 1))))])))) else (
 some ((.exit 0), []))) := by kernel_rfl
theorem a225q (T : Table) (k : Nat) (l1 : Rows) (l2 : Rows) : evalF T k a225 [(.d (.s 2 l1)), (.d (.s 2 l2))] = (
 bif ((l1.length : Int) != (l2.length : Int)) then (
 some ⟨(.d (.v (.bool false))), []⟩) else (
 aft (l225x0 T k k [(.fz 2 l1), (.fz 2 l2), (.v (.int .i64 0))]) fun e15 ys16 =>
 bif e15.same .ret then (
 aV ys16 0 fun x17 =>
 aB x17 fun b18 =>
 some ⟨(.d (.v (.bool b18))), []⟩) else (
 bif e15.same (.exit 0) then (
 some ⟨(.d (.v (.bool true))), []⟩) else (
 none)))) := by kernel_rfl

-- a226 "slices.insertionSortCmpFunc[loop.example/g00119/impl.Run]": store at fa
-- a227 "slices.symMergeCmpFunc[loop.example/g00119/impl.Run]": bin shr
/- loop.example/g00119/laws.eqIsland -/

def a190 : AFun := ⟨[.rd, .rd], false, [.t 4], (
  .seq (.reg false [⟨some 2, .box (.t 0), none⟩,
    ⟨some 3, .box (.t 1), none⟩,
    ⟨some 4, .mv (.c (.v (.bool false))), none⟩]) (
  .seq (.seq (.reg false [⟨some 5, .fad 0 (.t 2), none⟩,
    ⟨some 6, .load false [.s] (.t 5), none⟩,
    ⟨some 7, .fad 0 (.t 3), none⟩,
    ⟨some 8, .load false [.s] (.t 7), none⟩,
    ⟨some 9, .bin .neq (.t 6) (.t 8), none⟩]) (
  .cond (.t 9) (.seq (.reg false [⟨some 4, .mv (.c (.v (.bool false))), none⟩]) (
    .ret)) (.skip))) (
  .seq (.seq (.reg false [⟨some 10, .fad 1 (.t 2), none⟩,
    ⟨some 11, .load false [(.sl 2)] (.t 10), none⟩,
    ⟨some 12, .fad 1 (.t 3), none⟩,
    ⟨some 13, .load false [(.sl 2)] (.t 12), none⟩,
    ⟨some 14, .call (.f 225) [.rd, .rd] false [.c .b] [(.t 11), (.t 13)], none⟩,
    ⟨some 15, .un .not (.t 14), none⟩]) (
  .cond (.t 15) (.seq (.reg false [⟨some 4, .mv (.c (.v (.bool false))), none⟩]) (
    .ret)) (.skip))) (
  .seq (.seq (.reg false [⟨some 16, .fad 2 (.t 2), none⟩,
    ⟨some 17, .load false [(.sl 1)] (.t 16), none⟩,
    ⟨some 18, .fad 2 (.t 3), none⟩,
    ⟨some 19, .load false [(.sl 1)] (.t 18), none⟩,
    ⟨some 20, .call (.f 75) [.rd, .rd] false [.c .b] [(.t 17), (.t 19)], none⟩,
    ⟨some 21, .un .not (.t 20), none⟩]) (
  .cond (.t 21) (.seq (.reg false [⟨some 4, .mv (.c (.v (.bool false))), none⟩]) (
    .ret)) (.skip))) (
  .seq (.seq (.reg false [⟨some 22, .fad 3 (.t 2), none⟩,
    ⟨some 23, .load false [(.i .i64)] (.t 22), none⟩,
    ⟨some 24, .fad 3 (.t 3), none⟩,
    ⟨some 25, .load false [(.i .i64)] (.t 24), none⟩,
    ⟨some 26, .bin .neq (.t 23) (.t 25), none⟩]) (
  .cond (.t 26) (.seq (.reg false [⟨some 4, .mv (.c (.v (.bool false))), none⟩]) (
    .ret)) (.skip))) (
  .seq (.reg false [⟨some 4, .mv (.c (.v (.bool true))), none⟩]) (
  .ret)))))))⟩

theorem a190q (T : Table) (k : Nat) (s1 : ByteArray) (l2 : Rows) (l3 : Rows) (n4 : Int) (s5 : ByteArray) (l6 : Rows) (l7 : Rows) (n8 : Int) : evalF T k a190 [(.g [(.v (.string s1)), (.s 2 l2), (.s 1 l3), (.v (.int .i64 n4))]), (.g [(.v (.string s5)), (.s 2 l6), (.s 1 l7), (.v (.int .i64 n8))])] = (
 bif (!(bytesEq s1 s5)) then (
 some ⟨(.d (.v (.bool false))), []⟩) else (
 callT T 225 [(.d (.s 2 l2)), (.d (.s 2 l6))] fun o9 =>
 oD o9.res fun d10 =>
 dB d10 fun b11 =>
 bif (!b11) then (
 some ⟨(.d (.v (.bool false))), []⟩) else (
 callT T 75 [(.d (.s 1 l3)), (.d (.s 1 l7))] fun o12 =>
 oD o12.res fun d13 =>
 dB d13 fun b14 =>
 bif (!b14) then (
 some ⟨(.d (.v (.bool false))), []⟩) else (
 bif (n4 != n8) then (
 some ⟨(.d (.v (.bool false))), []⟩) else (
 some ⟨(.d (.v (.bool true))), []⟩))))) := by kernel_rfl
/- loop.example/g00119/laws.eqPost -/

def a145 : AFun := ⟨[.rd, .rd], false, [.t 4], (
  .seq (.reg false [⟨some 2, .box (.t 0), none⟩,
    ⟨some 3, .box (.t 1), none⟩,
    ⟨some 4, .mv (.c (.v (.bool false))), none⟩]) (
  .seq (.seq (.reg false [⟨some 5, .fad 0 (.t 2), none⟩,
    ⟨some 6, .load true [.s, (.sl 2), (.sl 1), (.i .i64)] (.t 5), none⟩,
    ⟨some 7, .fad 0 (.t 3), none⟩,
    ⟨some 8, .load true [.s, (.sl 2), (.sl 1), (.i .i64)] (.t 7), none⟩,
    ⟨some 9, .call (.f 190) [.rd, .rd] false [.c .b] [(.t 6), (.t 8)], none⟩,
    ⟨some 10, .un .not (.t 9), none⟩]) (
  .cond (.t 10) (.seq (.reg false [⟨some 4, .mv (.c (.v (.bool false))), none⟩]) (
    .ret)) (.skip))) (
  .seq (.seq (.reg false [⟨some 11, .fad 4 (.t 2), none⟩,
    ⟨some 12, .load false [(.i .i64)] (.t 11), none⟩,
    ⟨some 13, .fad 4 (.t 3), none⟩,
    ⟨some 14, .load false [(.i .i64)] (.t 13), none⟩,
    ⟨some 15, .bin .neq (.t 12) (.t 14), none⟩]) (
  .cond (.t 15) (.seq (.reg false [⟨some 4, .mv (.c (.v (.bool false))), none⟩]) (
    .ret)) (.skip))) (
  .seq (.seq (.reg false [⟨some 16, .fad 5 (.t 2), none⟩,
    ⟨some 17, .load false [(.i .i64)] (.t 16), none⟩,
    ⟨some 18, .fad 5 (.t 3), none⟩,
    ⟨some 19, .load false [(.i .i64)] (.t 18), none⟩,
    ⟨some 20, .bin .neq (.t 17) (.t 19), none⟩]) (
  .cond (.t 20) (.seq (.reg false [⟨some 4, .mv (.c (.v (.bool false))), none⟩]) (
    .ret)) (.skip))) (
  .seq (.reg false [⟨some 4, .mv (.c (.v (.bool true))), none⟩]) (
  .ret))))))⟩

theorem a145q (T : Table) (k : Nat) (s1 : ByteArray) (l2 : Rows) (l3 : Rows) (n4 : Int) (n5 : Int) (n6 : Int) (s7 : ByteArray) (l8 : Rows) (l9 : Rows) (n10 : Int) (n11 : Int) (n12 : Int) : evalF T k a145 [(.g [(.v (.string s1)), (.s 2 l2), (.s 1 l3), (.v (.int .i64 n4)), (.v (.int .i64 n5)), (.v (.int .i64 n6))]), (.g [(.v (.string s7)), (.s 2 l8), (.s 1 l9), (.v (.int .i64 n10)), (.v (.int .i64 n11)), (.v (.int .i64 n12))])] = (
 callT T 190 [(.g [(.v (.string s1)), (.s 2 l2), (.s 1 l3), (.v (.int .i64 n4))]), (.g [(.v (.string s7)), (.s 2 l8), (.s 1 l9), (.v (.int .i64 n10))])] fun o13 =>
 oD o13.res fun d14 =>
 dB d14 fun b15 =>
 bif (!b15) then (
 some ⟨(.d (.v (.bool false))), []⟩) else (
 bif (n5 != n11) then (
 some ⟨(.d (.v (.bool false))), []⟩) else (
 bif (n6 != n12) then (
 some ⟨(.d (.v (.bool false))), []⟩) else (
 some ⟨(.d (.v (.bool true))), []⟩)))) := by kernel_rfl
/- loop.example/g00119/laws.eqPostS -/
def b73x0 : ACode := (
  .seq (.seq (.reg false [⟨some 11, .mv (.t 5), none⟩,
    ⟨some 12, .mv (.t 0), none⟩,
    ⟨some 13, .len false (.t 12), none⟩,
    ⟨some 14, .bin .lss (.t 11) (.t 13), none⟩]) (
  .cond (.t 14) (.skip) (.exit 0))) (
  .seq (.block 1 (.seq (.dreg [] [(0, ⟨some 17, .mv (.t 0), none⟩),
      (0, ⟨some 18, .mv (.t 5), none⟩),
      (0, ⟨some 19, .iad 6 (.t 17) (.t 18), none⟩),
      (0, ⟨some 20, .load true [.s, (.sl 2), (.sl 1), (.i .i64), (.i .i64), (.i .i64)] (.t 19), none⟩),
      (0, ⟨some 21, .mv (.t 1), none⟩),
      (0, ⟨some 22, .mv (.t 5), none⟩),
      (0, ⟨some 23, .iad 6 (.t 21) (.t 22), none⟩),
      (0, ⟨some 24, .load true [.s, (.sl 2), (.sl 1), (.i .i64), (.i .i64), (.i .i64)] (.t 23), none⟩)] [⟨some 25, .call (.f 145) [.rd, .rd] false [.c .b] [(.t 20), (.t 24)], none⟩,
      ⟨some 26, .un .not (.t 25), none⟩]) (
    .cond (.t 26) (.seq (.reg false [⟨some 4, .mv (.c (.v (.bool false))), none⟩]) (
      .ret)) (.skip)))) (
  .reg false [⟨some 15, .mv (.t 5), none⟩,
    ⟨some 16, .bin .add (.t 15) (.c (.v (.int .i64 1))), none⟩,
    ⟨some 5, .mv (.t 16), none⟩])))
def e73x0 : Exits := [(.ret, [(4, .c .b)]), ((.exit 0), [])]
def l73x0 (T : Table) (k : Nat) := loopN (evalC ⟨T, []⟩ k b73x0 (Ex × List AV)) [0, 1, 5] e73x0
def a73 : AFun := ⟨[.rd, .rd], false, [.t 4], (
  .seq (.reg false [⟨some 4, .mv (.c (.v (.bool false))), none⟩]) (
  .seq (.seq (.reg false [⟨some 6, .mv (.t 0), none⟩,
    ⟨some 7, .len false (.t 6), none⟩,
    ⟨some 8, .mv (.t 1), none⟩,
    ⟨some 9, .len false (.t 8), none⟩,
    ⟨some 10, .bin .neq (.t 7) (.t 9), none⟩]) (
  .cond (.t 10) (.seq (.reg false [⟨some 4, .mv (.c (.v (.bool false))), none⟩]) (
    .ret)) (.skip))) (
  .seq (.seq (.reg false [⟨some 5, .mv (.c (.v (.int .i64 0))), none⟩]) (
  .block 0 (.loop [0, 1, 5] e73x0 b73x0))) (
  .seq (.reg false [⟨some 4, .mv (.c (.v (.bool true))), none⟩]) (
  .ret)))))⟩
theorem l73x0s (T : Table) (k n : Nat) (l3 : Rows) (l4 : Rows) (n5 : Int) : l73x0 T k (n + 1) [(.fz 6 l3), (.fz 6 l4), (.v (.int .i64 n5))] = (
 bif (decide (n5 < (l3.length : Int))) then (
 tst (decide (0 ≤ n5)) (
 look l3 (Int.toNat n5) fun r6 =>
 cS r6 0 fun s7 =>
 cL 2 r6 1 fun l8 =>
 cL 1 r6 2 fun l9 =>
 cI .i64 r6 3 fun n10 =>
 cI .i64 r6 4 fun n11 =>
 cI .i64 r6 5 fun n12 =>
 tst (decide (0 ≤ n5)) (
 look l4 (Int.toNat n5) fun r13 =>
 cS r13 0 fun s14 =>
 cL 2 r13 1 fun l15 =>
 cL 1 r13 2 fun l16 =>
 cI .i64 r13 3 fun n17 =>
 cI .i64 r13 4 fun n18 =>
 cI .i64 r13 5 fun n19 =>
 callT T 145 [(.g [(.v (.string s7)), (.s 2 l8), (.s 1 l9), (.v (.int .i64 n10)), (.v (.int .i64 n11)), (.v (.int .i64 n12))]), (.g [(.v (.string s14)), (.s 2 l15), (.s 1 l16), (.v (.int .i64 n17)), (.v (.int .i64 n18)), (.v (.int .i64 n19))])] fun o20 =>
 oD o20.res fun d21 =>
 dB d21 fun b22 =>
 bif (!b22) then (
 some (.ret, [(.v (.bool false))])) else (
 l73x0 T k n [(.fz 6 l3), (.fz 6 l4), (.v (.int .i64 (IntKind.wrap .i64 (n5 + 1))))])))) else (
 some ((.exit 0), []))) := by kernel_rfl
theorem a73q (T : Table) (k : Nat) (l1 : Rows) (l2 : Rows) : evalF T k a73 [(.d (.s 6 l1)), (.d (.s 6 l2))] = (
 bif ((l1.length : Int) != (l2.length : Int)) then (
 some ⟨(.d (.v (.bool false))), []⟩) else (
 aft (l73x0 T k k [(.fz 6 l1), (.fz 6 l2), (.v (.int .i64 0))]) fun e23 ys24 =>
 bif e23.same .ret then (
 aV ys24 0 fun x25 =>
 aB x25 fun b26 =>
 some ⟨(.d (.v (.bool b26))), []⟩) else (
 bif e23.same (.exit 0) then (
 some ⟨(.d (.v (.bool true))), []⟩) else (
 none)))) := by kernel_rfl
/- loop.example/g00119/laws.eqHold -/

def a146 : AFun := ⟨[.rd, .rd], false, [.t 4], (
  .seq (.reg false [⟨some 2, .box (.t 0), none⟩,
    ⟨some 3, .box (.t 1), none⟩,
    ⟨some 4, .mv (.c (.v (.bool false))), none⟩]) (
  .seq (.seq (.reg false [⟨some 5, .fad 0 (.t 2), none⟩,
    ⟨some 6, .load false [(.i .i64)] (.t 5), none⟩,
    ⟨some 7, .fad 0 (.t 3), none⟩,
    ⟨some 8, .load false [(.i .i64)] (.t 7), none⟩,
    ⟨some 9, .bin .neq (.t 6) (.t 8), none⟩]) (
  .cond (.t 9) (.seq (.reg false [⟨some 4, .mv (.c (.v (.bool false))), none⟩]) (
    .ret)) (.skip))) (
  .seq (.seq (.reg false [⟨some 10, .fad 1 (.t 2), none⟩,
    ⟨some 11, .load false [.s] (.t 10), none⟩,
    ⟨some 12, .fad 1 (.t 3), none⟩,
    ⟨some 13, .load false [.s] (.t 12), none⟩,
    ⟨some 14, .bin .neq (.t 11) (.t 13), none⟩]) (
  .cond (.t 14) (.seq (.reg false [⟨some 4, .mv (.c (.v (.bool false))), none⟩]) (
    .ret)) (.skip))) (
  .seq (.seq (.reg false [⟨some 15, .fad 2 (.t 2), none⟩,
    ⟨some 16, .load false [(.i .i64)] (.t 15), none⟩,
    ⟨some 17, .fad 2 (.t 3), none⟩,
    ⟨some 18, .load false [(.i .i64)] (.t 17), none⟩,
    ⟨some 19, .bin .neq (.t 16) (.t 18), none⟩]) (
  .cond (.t 19) (.seq (.reg false [⟨some 4, .mv (.c (.v (.bool false))), none⟩]) (
    .ret)) (.skip))) (
  .seq (.seq (.reg false [⟨some 20, .fad 3 (.t 2), none⟩,
    ⟨some 21, .load false [(.i .i64)] (.t 20), none⟩,
    ⟨some 22, .fad 3 (.t 3), none⟩,
    ⟨some 23, .load false [(.i .i64)] (.t 22), none⟩,
    ⟨some 24, .bin .neq (.t 21) (.t 23), none⟩]) (
  .cond (.t 24) (.seq (.reg false [⟨some 4, .mv (.c (.v (.bool false))), none⟩]) (
    .ret)) (.skip))) (
  .seq (.seq (.reg false [⟨some 25, .fad 4 (.t 2), none⟩,
    ⟨some 26, .load false [(.i .i64)] (.t 25), none⟩,
    ⟨some 27, .fad 4 (.t 3), none⟩,
    ⟨some 28, .load false [(.i .i64)] (.t 27), none⟩,
    ⟨some 29, .bin .neq (.t 26) (.t 28), none⟩]) (
  .cond (.t 29) (.seq (.reg false [⟨some 4, .mv (.c (.v (.bool false))), none⟩]) (
    .ret)) (.skip))) (
  .seq (.reg false [⟨some 4, .mv (.c (.v (.bool true))), none⟩]) (
  .ret))))))))⟩

theorem a146q (T : Table) (k : Nat) (n1 : Int) (s2 : ByteArray) (n3 : Int) (n4 : Int) (n5 : Int) (n6 : Int) (s7 : ByteArray) (n8 : Int) (n9 : Int) (n10 : Int) : evalF T k a146 [(.g [(.v (.int .i64 n1)), (.v (.string s2)), (.v (.int .i64 n3)), (.v (.int .i64 n4)), (.v (.int .i64 n5))]), (.g [(.v (.int .i64 n6)), (.v (.string s7)), (.v (.int .i64 n8)), (.v (.int .i64 n9)), (.v (.int .i64 n10))])] = (
 bif (n1 != n6) then (
 some ⟨(.d (.v (.bool false))), []⟩) else (
 bif (!(bytesEq s2 s7)) then (
 some ⟨(.d (.v (.bool false))), []⟩) else (
 bif (n3 != n8) then (
 some ⟨(.d (.v (.bool false))), []⟩) else (
 bif (n4 != n9) then (
 some ⟨(.d (.v (.bool false))), []⟩) else (
 bif (n5 != n10) then (
 some ⟨(.d (.v (.bool false))), []⟩) else (
 some ⟨(.d (.v (.bool true))), []⟩)))))) := by kernel_rfl
/- loop.example/g00119/laws.eqHoldS -/
def b74x0 : ACode := (
  .seq (.seq (.reg false [⟨some 11, .mv (.t 5), none⟩,
    ⟨some 12, .mv (.t 0), none⟩,
    ⟨some 13, .len false (.t 12), none⟩,
    ⟨some 14, .bin .lss (.t 11) (.t 13), none⟩]) (
  .cond (.t 14) (.skip) (.exit 0))) (
  .seq (.block 1 (.seq (.dreg [] [(0, ⟨some 17, .mv (.t 0), none⟩),
      (0, ⟨some 18, .mv (.t 5), none⟩),
      (0, ⟨some 19, .iad 5 (.t 17) (.t 18), none⟩),
      (0, ⟨some 20, .load true [(.i .i64), .s, (.i .i64), (.i .i64), (.i .i64)] (.t 19), none⟩),
      (0, ⟨some 21, .mv (.t 1), none⟩),
      (0, ⟨some 22, .mv (.t 5), none⟩),
      (0, ⟨some 23, .iad 5 (.t 21) (.t 22), none⟩),
      (0, ⟨some 24, .load true [(.i .i64), .s, (.i .i64), (.i .i64), (.i .i64)] (.t 23), none⟩)] [⟨some 25, .call (.f 146) [.rd, .rd] false [.c .b] [(.t 20), (.t 24)], none⟩,
      ⟨some 26, .un .not (.t 25), none⟩]) (
    .cond (.t 26) (.seq (.reg false [⟨some 4, .mv (.c (.v (.bool false))), none⟩]) (
      .ret)) (.skip)))) (
  .reg false [⟨some 15, .mv (.t 5), none⟩,
    ⟨some 16, .bin .add (.t 15) (.c (.v (.int .i64 1))), none⟩,
    ⟨some 5, .mv (.t 16), none⟩])))
def e74x0 : Exits := [(.ret, [(4, .c .b)]), ((.exit 0), [])]
def l74x0 (T : Table) (k : Nat) := loopN (evalC ⟨T, []⟩ k b74x0 (Ex × List AV)) [0, 1, 5] e74x0
def a74 : AFun := ⟨[.rd, .rd], false, [.t 4], (
  .seq (.reg false [⟨some 4, .mv (.c (.v (.bool false))), none⟩]) (
  .seq (.seq (.reg false [⟨some 6, .mv (.t 0), none⟩,
    ⟨some 7, .len false (.t 6), none⟩,
    ⟨some 8, .mv (.t 1), none⟩,
    ⟨some 9, .len false (.t 8), none⟩,
    ⟨some 10, .bin .neq (.t 7) (.t 9), none⟩]) (
  .cond (.t 10) (.seq (.reg false [⟨some 4, .mv (.c (.v (.bool false))), none⟩]) (
    .ret)) (.skip))) (
  .seq (.seq (.reg false [⟨some 5, .mv (.c (.v (.int .i64 0))), none⟩]) (
  .block 0 (.loop [0, 1, 5] e74x0 b74x0))) (
  .seq (.reg false [⟨some 4, .mv (.c (.v (.bool true))), none⟩]) (
  .ret)))))⟩
theorem l74x0s (T : Table) (k n : Nat) (l3 : Rows) (l4 : Rows) (n5 : Int) : l74x0 T k (n + 1) [(.fz 5 l3), (.fz 5 l4), (.v (.int .i64 n5))] = (
 bif (decide (n5 < (l3.length : Int))) then (
 tst (decide (0 ≤ n5)) (
 look l3 (Int.toNat n5) fun r6 =>
 cI .i64 r6 0 fun n7 =>
 cS r6 1 fun s8 =>
 cI .i64 r6 2 fun n9 =>
 cI .i64 r6 3 fun n10 =>
 cI .i64 r6 4 fun n11 =>
 tst (decide (0 ≤ n5)) (
 look l4 (Int.toNat n5) fun r12 =>
 cI .i64 r12 0 fun n13 =>
 cS r12 1 fun s14 =>
 cI .i64 r12 2 fun n15 =>
 cI .i64 r12 3 fun n16 =>
 cI .i64 r12 4 fun n17 =>
 callT T 146 [(.g [(.v (.int .i64 n7)), (.v (.string s8)), (.v (.int .i64 n9)), (.v (.int .i64 n10)), (.v (.int .i64 n11))]), (.g [(.v (.int .i64 n13)), (.v (.string s14)), (.v (.int .i64 n15)), (.v (.int .i64 n16)), (.v (.int .i64 n17))])] fun o18 =>
 oD o18.res fun d19 =>
 dB d19 fun b20 =>
 bif (!b20) then (
 some (.ret, [(.v (.bool false))])) else (
 l74x0 T k n [(.fz 5 l3), (.fz 5 l4), (.v (.int .i64 (IntKind.wrap .i64 (n5 + 1))))])))) else (
 some ((.exit 0), []))) := by kernel_rfl
theorem a74q (T : Table) (k : Nat) (l1 : Rows) (l2 : Rows) : evalF T k a74 [(.d (.s 5 l1)), (.d (.s 5 l2))] = (
 bif ((l1.length : Int) != (l2.length : Int)) then (
 some ⟨(.d (.v (.bool false))), []⟩) else (
 aft (l74x0 T k k [(.fz 5 l1), (.fz 5 l2), (.v (.int .i64 0))]) fun e21 ys22 =>
 bif e21.same .ret then (
 aV ys22 0 fun x23 =>
 aB x23 fun b24 =>
 some ⟨(.d (.v (.bool b24))), []⟩) else (
 bif e21.same (.exit 0) then (
 some ⟨(.d (.v (.bool true))), []⟩) else (
 none)))) := by kernel_rfl
/- loop.example/g00119/laws.eqHub -/

def a25 : AFun := ⟨[.rd, .rd], false, [.t 4], (
  .seq (.reg false [⟨some 2, .box (.t 0), none⟩,
    ⟨some 3, .box (.t 1), none⟩,
    ⟨some 4, .mv (.c (.v (.bool false))), none⟩]) (
  .seq (.seq (.reg false [⟨some 5, .fad 0 (.t 2), none⟩,
    ⟨some 6, .load false [(.i .i64)] (.t 5), none⟩,
    ⟨some 7, .fad 0 (.t 3), none⟩,
    ⟨some 8, .load false [(.i .i64)] (.t 7), none⟩,
    ⟨some 9, .bin .neq (.t 6) (.t 8), none⟩]) (
  .cond (.t 9) (.seq (.reg false [⟨some 4, .mv (.c (.v (.bool false))), none⟩]) (
    .ret)) (.skip))) (
  .seq (.seq (.reg false [⟨some 10, .fad 1 (.t 2), none⟩,
    ⟨some 11, .load false [(.i .i64)] (.t 10), none⟩,
    ⟨some 12, .fad 1 (.t 3), none⟩,
    ⟨some 13, .load false [(.i .i64)] (.t 12), none⟩,
    ⟨some 14, .bin .neq (.t 11) (.t 13), none⟩]) (
  .cond (.t 14) (.seq (.reg false [⟨some 4, .mv (.c (.v (.bool false))), none⟩]) (
    .ret)) (.skip))) (
  .seq (.seq (.reg false [⟨some 15, .fad 2 (.t 2), none⟩,
    ⟨some 16, .load false [(.i .i64)] (.t 15), none⟩,
    ⟨some 17, .fad 2 (.t 3), none⟩,
    ⟨some 18, .load false [(.i .i64)] (.t 17), none⟩,
    ⟨some 19, .bin .neq (.t 16) (.t 18), none⟩]) (
  .cond (.t 19) (.seq (.reg false [⟨some 4, .mv (.c (.v (.bool false))), none⟩]) (
    .ret)) (.skip))) (
  .seq (.seq (.reg false [⟨some 20, .fad 3 (.t 2), none⟩,
    ⟨some 21, .load false [(.sl 13)] (.t 20), none⟩,
    ⟨some 22, .fad 3 (.t 3), none⟩,
    ⟨some 23, .load false [(.sl 13)] (.t 22), none⟩,
    ⟨some 24, .call (.f 72) [.rd, .rd] false [.c .b] [(.t 21), (.t 23)], none⟩,
    ⟨some 25, .un .not (.t 24), none⟩]) (
  .cond (.t 25) (.seq (.reg false [⟨some 4, .mv (.c (.v (.bool false))), none⟩]) (
    .ret)) (.skip))) (
  .seq (.seq (.reg false [⟨some 26, .fad 4 (.t 2), none⟩,
    ⟨some 27, .load false [(.sl 6)] (.t 26), none⟩,
    ⟨some 28, .fad 4 (.t 3), none⟩,
    ⟨some 29, .load false [(.sl 6)] (.t 28), none⟩,
    ⟨some 30, .call (.f 73) [.rd, .rd] false [.c .b] [(.t 27), (.t 29)], none⟩,
    ⟨some 31, .un .not (.t 30), none⟩]) (
  .cond (.t 31) (.seq (.reg false [⟨some 4, .mv (.c (.v (.bool false))), none⟩]) (
    .ret)) (.skip))) (
  .seq (.seq (.reg false [⟨some 32, .fad 5 (.t 2), none⟩,
    ⟨some 33, .load false [(.sl 5)] (.t 32), none⟩,
    ⟨some 34, .fad 5 (.t 3), none⟩,
    ⟨some 35, .load false [(.sl 5)] (.t 34), none⟩,
    ⟨some 36, .call (.f 74) [.rd, .rd] false [.c .b] [(.t 33), (.t 35)], none⟩,
    ⟨some 37, .un .not (.t 36), none⟩]) (
  .cond (.t 37) (.seq (.reg false [⟨some 4, .mv (.c (.v (.bool false))), none⟩]) (
    .ret)) (.skip))) (
  .seq (.seq (.reg false [⟨some 38, .fad 6 (.t 2), none⟩,
    ⟨some 39, .load false [(.sl 1)] (.t 38), none⟩,
    ⟨some 40, .fad 6 (.t 3), none⟩,
    ⟨some 41, .load false [(.sl 1)] (.t 40), none⟩,
    ⟨some 42, .call (.f 75) [.rd, .rd] false [.c .b] [(.t 39), (.t 41)], none⟩,
    ⟨some 43, .un .not (.t 42), none⟩]) (
  .cond (.t 43) (.seq (.reg false [⟨some 4, .mv (.c (.v (.bool false))), none⟩]) (
    .ret)) (.skip))) (
  .seq (.reg false [⟨some 4, .mv (.c (.v (.bool true))), none⟩]) (
  .ret))))))))))⟩

theorem a25q (T : Table) (k : Nat) (n1 : Int) (n2 : Int) (n3 : Int) (l4 : Rows) (l5 : Rows) (l6 : Rows) (l7 : Rows) (n8 : Int) (n9 : Int) (n10 : Int) (l11 : Rows) (l12 : Rows) (l13 : Rows) (l14 : Rows) : evalF T k a25 [(.g [(.v (.int .i64 n1)), (.v (.int .i64 n2)), (.v (.int .i64 n3)), (.s 13 l4), (.s 6 l5), (.s 5 l6), (.s 1 l7)]), (.g [(.v (.int .i64 n8)), (.v (.int .i64 n9)), (.v (.int .i64 n10)), (.s 13 l11), (.s 6 l12), (.s 5 l13), (.s 1 l14)])] = (
 bif (n1 != n8) then (
 some ⟨(.d (.v (.bool false))), []⟩) else (
 bif (n2 != n9) then (
 some ⟨(.d (.v (.bool false))), []⟩) else (
 bif (n3 != n10) then (
 some ⟨(.d (.v (.bool false))), []⟩) else (
 callT T 72 [(.d (.s 13 l4)), (.d (.s 13 l11))] fun o15 =>
 oD o15.res fun d16 =>
 dB d16 fun b17 =>
 bif (!b17) then (
 some ⟨(.d (.v (.bool false))), []⟩) else (
 callT T 73 [(.d (.s 6 l5)), (.d (.s 6 l12))] fun o18 =>
 oD o18.res fun d19 =>
 dB d19 fun b20 =>
 bif (!b20) then (
 some ⟨(.d (.v (.bool false))), []⟩) else (
 callT T 74 [(.d (.s 5 l6)), (.d (.s 5 l13))] fun o21 =>
 oD o21.res fun d22 =>
 dB d22 fun b23 =>
 bif (!b23) then (
 some ⟨(.d (.v (.bool false))), []⟩) else (
 callT T 75 [(.d (.s 1 l7)), (.d (.s 1 l14))] fun o24 =>
 oD o24.res fun d25 =>
 dB d25 fun b26 =>
 bif (!b26) then (
 some ⟨(.d (.v (.bool false))), []⟩) else (
 some ⟨(.d (.v (.bool true))), []⟩)))))))) := by kernel_rfl
/- loop.example/g00119/spec.l4Int -/
def b80x0 : ACode := (
  .seq (.seq (.reg false [⟨some 15, .mv (.t 3), none⟩,
    ⟨some 16, .bin .geq (.t 15) (.c (.v (.int .u64 10))), none⟩]) (
  .cond (.t 16) (.skip) (.exit 0))) (
  .block 1 (.seq (.reg false [⟨some 17, .mv (.t 3), none⟩,
      ⟨some 18, .bin .rem (.t 17) (.c (.v (.int .u64 10))), none⟩,
      ⟨some 19, .bin .add (.c (.v (.int .u64 48))) (.t 18), none⟩,
      ⟨some 20, .conv (.int .u8) (.t 19), none⟩,
      ⟨some 21, .lit 1 ([[(.v (.int .u8 0))]] : Rows) [(0, (.t 20))], none⟩,
      ⟨some 22, .conv .bytesStr (.t 21), none⟩,
      ⟨some 23, .mv (.t 5), none⟩,
      ⟨some 24, .bin .add (.t 22) (.t 23), none⟩,
      ⟨some 5, .mv (.t 24), none⟩]) (
    .reg false [⟨some 25, .mv (.t 3), none⟩,
      ⟨some 26, .bin .quo (.t 25) (.c (.v (.int .u64 10))), none⟩,
      ⟨some 3, .mv (.t 26), none⟩]))))
def e80x0 : Exits := [((.exit 0), [(3, .c (.i .u64)), (4, .c .s), (5, .c .s)])]
def l80x0 (T : Table) (k : Nat) := loopN (evalC ⟨T, []⟩ k b80x0 (Ex × List AV)) [3, 4, 5] e80x0
def a80 : AFun := ⟨[.rd], false, [.t 2], (
  .seq (.reg false [⟨some 2, .mv (.c (.v (.string ({ data := #[] } : ByteArray)))), none⟩]) (
  .seq (.reg false [⟨some 6, .mv (.t 0), none⟩,
    ⟨some 7, .conv (.int .u64) (.t 6), none⟩,
    ⟨some 3, .mv (.t 7), none⟩]) (
  .seq (.reg false [⟨some 4, .mv (.c (.v (.string ({ data := #[] } : ByteArray)))), none⟩]) (
  .seq (.seq (.reg false [⟨some 8, .mv (.t 0), none⟩,
    ⟨some 9, .bin .lss (.t 8) (.c (.v (.int .i64 0))), none⟩]) (
  .cond (.t 9) (.seq (.reg false [⟨some 10, .mv (.t 0), none⟩,
      ⟨some 11, .bin .add (.t 10) (.c (.v (.int .i64 1))), none⟩,
      ⟨some 12, .un .neg (.t 11), none⟩,
      ⟨some 13, .conv (.int .u64) (.t 12), none⟩,
      ⟨some 14, .bin .add (.t 13) (.c (.v (.int .u64 1))), none⟩,
      ⟨some 3, .mv (.t 14), none⟩]) (
    .reg false [⟨some 4, .mv (.c (.v (.string ({ data := #[45] } : ByteArray)))), none⟩])) (.skip))) (
  .seq (.reg false [⟨some 5, .mv (.c (.v (.string ({ data := #[] } : ByteArray)))), none⟩]) (
  .seq (.block 0 (.loop [3, 4, 5] e80x0 b80x0)) (
  .seq (.reg false [⟨some 27, .mv (.t 4), none⟩,
    ⟨some 28, .mv (.t 3), none⟩,
    ⟨some 29, .bin .add (.c (.v (.int .u64 48))) (.t 28), none⟩,
    ⟨some 30, .conv (.int .u8) (.t 29), none⟩,
    ⟨some 31, .lit 1 ([[(.v (.int .u8 0))]] : Rows) [(0, (.t 30))], none⟩,
    ⟨some 32, .conv .bytesStr (.t 31), none⟩,
    ⟨some 33, .bin .add (.t 27) (.t 32), none⟩,
    ⟨some 34, .mv (.t 5), none⟩,
    ⟨some 35, .bin .add (.t 33) (.t 34), none⟩,
    ⟨some 2, .mv (.t 35), none⟩]) (
  .ret))))))))⟩
theorem l80x0s (T : Table) (k n : Nat) (n2 : Int) (s3 : ByteArray) (s4 : ByteArray) : l80x0 T k (n + 1) [(.v (.int .u64 n2)), (.v (.string s3)), (.v (.string s4))] = (
 bif (decide (n2 ≥ 10)) then (
 tst (decide (10 ≠ 0)) (
 tst (allBytes ([[(.v (.int .u8 (IntKind.wrap .u8 (IntKind.wrap .u64 (48 + (Int.tmod n2 10))))))]] : Rows)) (
 tst (decide ((bytesOfRows ([[(.v (.int .u8 (IntKind.wrap .u8 (IntKind.wrap .u64 (48 + (Int.tmod n2 10))))))]] : Rows)).size + s4.size ≤ maxLen)) (
 tst (decide (10 ≠ 0)) (
 l80x0 T k n [(.v (.int .u64 (IntKind.wrap .u64 (Int.tdiv n2 10)))), (.v (.string s3)), (.v (.string ((bytesOfRows ([[(.v (.int .u8 (IntKind.wrap .u8 (IntKind.wrap .u64 (48 + (Int.tmod n2 10))))))]] : Rows)) ++ s4)))]))))) else (
 some ((.exit 0), [(.v (.int .u64 n2)), (.v (.string s3)), (.v (.string s4))]))) := by kernel_rfl
theorem a80q (T : Table) (k : Nat) (n1 : Int) : evalF T k a80 [(.d (.v (.int .i64 n1)))] = (
 bif (decide (n1 < 0)) then (
 aft (l80x0 T k k [(.v (.int .u64 (IntKind.wrap .u64 ((IntKind.wrap .u64 (IntKind.wrap .i64 (0 - (IntKind.wrap .i64 (n1 + 1))))) + 1)))), (.v (.string ({ data := #[45] } : ByteArray))), (.v (.string ({ data := #[] } : ByteArray)))]) fun e5 ys6 =>
 bif e5.same (.exit 0) then (
 aV ys6 0 fun x7 =>
 aI .u64 x7 fun n8 =>
 aV ys6 1 fun x9 =>
 aS x9 fun s10 =>
 aV ys6 2 fun x11 =>
 aS x11 fun s12 =>
 tst (allBytes ([[(.v (.int .u8 (IntKind.wrap .u8 (IntKind.wrap .u64 (48 + n8)))))]] : Rows)) (
 tst (decide (s10.size + (bytesOfRows ([[(.v (.int .u8 (IntKind.wrap .u8 (IntKind.wrap .u64 (48 + n8)))))]] : Rows)).size ≤ maxLen)) (
 tst (decide ((s10 ++ (bytesOfRows ([[(.v (.int .u8 (IntKind.wrap .u8 (IntKind.wrap .u64 (48 + n8)))))]] : Rows))).size + s12.size ≤ maxLen)) (
 some ⟨(.d (.v (.string ((s10 ++ (bytesOfRows ([[(.v (.int .u8 (IntKind.wrap .u8 (IntKind.wrap .u64 (48 + n8)))))]] : Rows))) ++ s12)))), []⟩)))) else (
 none)) else (
 aft (l80x0 T k k [(.v (.int .u64 (IntKind.wrap .u64 n1))), (.v (.string ({ data := #[] } : ByteArray))), (.v (.string ({ data := #[] } : ByteArray)))]) fun e13 ys14 =>
 bif e13.same (.exit 0) then (
 aV ys14 0 fun x15 =>
 aI .u64 x15 fun n16 =>
 aV ys14 1 fun x17 =>
 aS x17 fun s18 =>
 aV ys14 2 fun x19 =>
 aS x19 fun s20 =>
 tst (allBytes ([[(.v (.int .u8 (IntKind.wrap .u8 (IntKind.wrap .u64 (48 + n16)))))]] : Rows)) (
 tst (decide (s18.size + (bytesOfRows ([[(.v (.int .u8 (IntKind.wrap .u8 (IntKind.wrap .u64 (48 + n16)))))]] : Rows)).size ≤ maxLen)) (
 tst (decide ((s18 ++ (bytesOfRows ([[(.v (.int .u8 (IntKind.wrap .u8 (IntKind.wrap .u64 (48 + n16)))))]] : Rows))).size + s20.size ≤ maxLen)) (
 some ⟨(.d (.v (.string ((s18 ++ (bytesOfRows ([[(.v (.int .u8 (IntKind.wrap .u8 (IntKind.wrap .u64 (48 + n16)))))]] : Rows))) ++ s20)))), []⟩)))) else (
 none))) := by kernel_rfl
/- loop.example/g00119/spec.Wanted -/
def b81x0 : ACode := (
  .seq (.seq (.reg false [⟨some 7, .mv (.t 6), none⟩,
    ⟨some 8, .fad 5 (.t 2), none⟩,
    ⟨some 9, .load false [(.sl 5)] (.t 8), none⟩,
    ⟨some 10, .len false (.t 9), none⟩,
    ⟨some 11, .bin .lss (.t 7) (.t 10), none⟩]) (
  .cond (.t 11) (.skip) (.exit 0))) (
  .seq (.block 1 (.seq (.reg false [⟨some 14, .fad 5 (.t 2), none⟩,
      ⟨some 15, .load false [(.sl 5)] (.t 14), none⟩,
      ⟨some 16, .mv (.t 6), none⟩,
      ⟨some 17, .iad 5 (.t 15) (.t 16), none⟩,
      ⟨some 18, .fad 0 (.t 17), none⟩,
      ⟨some 19, .load false [(.i .i64)] (.t 18), none⟩,
      ⟨some 20, .mv (.t 1), none⟩,
      ⟨some 21, .bin .eql (.t 19) (.t 20), none⟩]) (
    .cond (.t 21) (.reg false [⟨some 22, .mv (.t 5), none⟩,
        ⟨some 23, .fad 5 (.t 2), none⟩,
        ⟨some 24, .load false [(.sl 5)] (.t 23), none⟩,
        ⟨some 25, .mv (.t 6), none⟩,
        ⟨some 26, .iad 5 (.t 24) (.t 25), none⟩,
        ⟨some 27, .fad 2 (.t 26), none⟩,
        ⟨some 28, .load false [(.i .i64)] (.t 27), none⟩,
        ⟨some 29, .bin .add (.t 22) (.t 28), none⟩,
        ⟨some 5, .mv (.t 29), none⟩]) (.skip)))) (
  .reg false [⟨some 12, .mv (.t 6), none⟩,
    ⟨some 13, .bin .add (.t 12) (.c (.v (.int .i64 1))), none⟩,
    ⟨some 6, .mv (.t 13), none⟩])))
def e81x0 : Exits := [((.exit 0), [(5, .c (.i .i64))])]
def l81x0 (T : Table) (k : Nat) := loopN (evalC ⟨T, []⟩ k b81x0 (Ex × List AV)) [1, 2, 5, 6] e81x0
def a81 : AFun := ⟨[.rd, .rd], false, [.t 4], (
  .seq (.reg false [⟨some 2, .box (.t 0), none⟩,
    ⟨some 4, .mv (.c (.v (.int .i64 0))), none⟩]) (
  .seq (.reg false [⟨some 5, .mv (.c (.v (.int .i64 0))), none⟩]) (
  .seq (.seq (.reg false [⟨some 6, .mv (.c (.v (.int .i64 0))), none⟩]) (
  .block 0 (.loop [1, 2, 5, 6] e81x0 b81x0))) (
  .seq (.reg false [⟨some 30, .mv (.t 5), none⟩,
    ⟨some 4, .mv (.t 30), none⟩]) (
  .ret)))))⟩
theorem l81x0s (T : Table) (k n : Nat) (n9 : Int) (n10 : Int) (n11 : Int) (n12 : Int) (l13 : Rows) (l14 : Rows) (l15 : Rows) (l16 : Rows) (n17 : Int) (n18 : Int) : l81x0 T k (n + 1) [(.v (.int .i64 n9)), (.b [(.v (.int .i64 n10)), (.v (.int .i64 n11)), (.v (.int .i64 n12)), (.fz 13 l13), (.fz 6 l14), (.fz 5 l15), (.fz 1 l16)]), (.v (.int .i64 n17)), (.v (.int .i64 n18))] = (
 bif (decide (n18 < (l15.length : Int))) then (
 tst (decide (0 ≤ n18)) (
 look l15 (Int.toNat n18) fun r19 =>
 cI .i64 r19 0 fun n20 =>
 bif (n20 == n9) then (
 tst (decide (0 ≤ n18)) (
 look l15 (Int.toNat n18) fun r21 =>
 cI .i64 r21 2 fun n22 =>
 l81x0 T k n [(.v (.int .i64 n9)), (.b [(.v (.int .i64 n10)), (.v (.int .i64 n11)), (.v (.int .i64 n12)), (.fz 13 l13), (.fz 6 l14), (.fz 5 l15), (.fz 1 l16)]), (.v (.int .i64 (IntKind.wrap .i64 (n17 + n22)))), (.v (.int .i64 (IntKind.wrap .i64 (n18 + 1))))])) else (
 l81x0 T k n [(.v (.int .i64 n9)), (.b [(.v (.int .i64 n10)), (.v (.int .i64 n11)), (.v (.int .i64 n12)), (.fz 13 l13), (.fz 6 l14), (.fz 5 l15), (.fz 1 l16)]), (.v (.int .i64 n17)), (.v (.int .i64 (IntKind.wrap .i64 (n18 + 1))))]))) else (
 some ((.exit 0), [(.v (.int .i64 n17))]))) := by kernel_rfl
theorem a81q (T : Table) (k : Nat) (n1 : Int) (n2 : Int) (n3 : Int) (l4 : Rows) (l5 : Rows) (l6 : Rows) (l7 : Rows) (n8 : Int) : evalF T k a81 [(.g [(.v (.int .i64 n1)), (.v (.int .i64 n2)), (.v (.int .i64 n3)), (.s 13 l4), (.s 6 l5), (.s 5 l6), (.s 1 l7)]), (.d (.v (.int .i64 n8)))] = (
 aft (l81x0 T k k [(.v (.int .i64 n8)), (.b [(.v (.int .i64 n1)), (.v (.int .i64 n2)), (.v (.int .i64 n3)), (.fz 13 l4), (.fz 6 l5), (.fz 5 l6), (.fz 1 l7)]), (.v (.int .i64 0)), (.v (.int .i64 0))]) fun e23 ys24 =>
 bif e23.same (.exit 0) then (
 aV ys24 0 fun x25 =>
 aI .i64 x25 fun n26 =>
 some ⟨(.d (.v (.int .i64 n26))), []⟩) else (
 none)) := by kernel_rfl
/- loop.example/g00119/spec.Running -/
def b82x0 : ACode := (
  .seq (.seq (.reg false [⟨some 7, .mv (.t 6), none⟩,
    ⟨some 8, .fad 5 (.t 2), none⟩,
    ⟨some 9, .load false [(.sl 5)] (.t 8), none⟩,
    ⟨some 10, .len false (.t 9), none⟩,
    ⟨some 11, .bin .lss (.t 7) (.t 10), none⟩]) (
  .cond (.t 11) (.skip) (.exit 0))) (
  .seq (.block 1 (.seq (.reg false [⟨some 14, .fad 5 (.t 2), none⟩,
      ⟨some 15, .load false [(.sl 5)] (.t 14), none⟩,
      ⟨some 16, .mv (.t 6), none⟩,
      ⟨some 17, .iad 5 (.t 15) (.t 16), none⟩,
      ⟨some 18, .fad 0 (.t 17), none⟩,
      ⟨some 19, .load false [(.i .i64)] (.t 18), none⟩,
      ⟨some 20, .mv (.t 1), none⟩,
      ⟨some 21, .bin .eql (.t 19) (.t 20), none⟩]) (
    .cond (.t 21) (.reg false [⟨some 22, .mv (.t 5), none⟩,
        ⟨some 23, .fad 5 (.t 2), none⟩,
        ⟨some 24, .load false [(.sl 5)] (.t 23), none⟩,
        ⟨some 25, .mv (.t 6), none⟩,
        ⟨some 26, .iad 5 (.t 24) (.t 25), none⟩,
        ⟨some 27, .fad 3 (.t 26), none⟩,
        ⟨some 28, .load false [(.i .i64)] (.t 27), none⟩,
        ⟨some 29, .bin .add (.t 22) (.t 28), none⟩,
        ⟨some 5, .mv (.t 29), none⟩]) (.skip)))) (
  .reg false [⟨some 12, .mv (.t 6), none⟩,
    ⟨some 13, .bin .add (.t 12) (.c (.v (.int .i64 1))), none⟩,
    ⟨some 6, .mv (.t 13), none⟩])))
def e82x0 : Exits := [((.exit 0), [(5, .c (.i .i64))])]
def l82x0 (T : Table) (k : Nat) := loopN (evalC ⟨T, []⟩ k b82x0 (Ex × List AV)) [1, 2, 5, 6] e82x0
def a82 : AFun := ⟨[.rd, .rd], false, [.t 4], (
  .seq (.reg false [⟨some 2, .box (.t 0), none⟩,
    ⟨some 4, .mv (.c (.v (.int .i64 0))), none⟩]) (
  .seq (.reg false [⟨some 5, .mv (.c (.v (.int .i64 0))), none⟩]) (
  .seq (.seq (.reg false [⟨some 6, .mv (.c (.v (.int .i64 0))), none⟩]) (
  .block 0 (.loop [1, 2, 5, 6] e82x0 b82x0))) (
  .seq (.reg false [⟨some 30, .mv (.t 5), none⟩,
    ⟨some 4, .mv (.t 30), none⟩]) (
  .ret)))))⟩
theorem l82x0s (T : Table) (k n : Nat) (n9 : Int) (n10 : Int) (n11 : Int) (n12 : Int) (l13 : Rows) (l14 : Rows) (l15 : Rows) (l16 : Rows) (n17 : Int) (n18 : Int) : l82x0 T k (n + 1) [(.v (.int .i64 n9)), (.b [(.v (.int .i64 n10)), (.v (.int .i64 n11)), (.v (.int .i64 n12)), (.fz 13 l13), (.fz 6 l14), (.fz 5 l15), (.fz 1 l16)]), (.v (.int .i64 n17)), (.v (.int .i64 n18))] = (
 bif (decide (n18 < (l15.length : Int))) then (
 tst (decide (0 ≤ n18)) (
 look l15 (Int.toNat n18) fun r19 =>
 cI .i64 r19 0 fun n20 =>
 bif (n20 == n9) then (
 tst (decide (0 ≤ n18)) (
 look l15 (Int.toNat n18) fun r21 =>
 cI .i64 r21 3 fun n22 =>
 l82x0 T k n [(.v (.int .i64 n9)), (.b [(.v (.int .i64 n10)), (.v (.int .i64 n11)), (.v (.int .i64 n12)), (.fz 13 l13), (.fz 6 l14), (.fz 5 l15), (.fz 1 l16)]), (.v (.int .i64 (IntKind.wrap .i64 (n17 + n22)))), (.v (.int .i64 (IntKind.wrap .i64 (n18 + 1))))])) else (
 l82x0 T k n [(.v (.int .i64 n9)), (.b [(.v (.int .i64 n10)), (.v (.int .i64 n11)), (.v (.int .i64 n12)), (.fz 13 l13), (.fz 6 l14), (.fz 5 l15), (.fz 1 l16)]), (.v (.int .i64 n17)), (.v (.int .i64 (IntKind.wrap .i64 (n18 + 1))))]))) else (
 some ((.exit 0), [(.v (.int .i64 n17))]))) := by kernel_rfl
theorem a82q (T : Table) (k : Nat) (n1 : Int) (n2 : Int) (n3 : Int) (l4 : Rows) (l5 : Rows) (l6 : Rows) (l7 : Rows) (n8 : Int) : evalF T k a82 [(.g [(.v (.int .i64 n1)), (.v (.int .i64 n2)), (.v (.int .i64 n3)), (.s 13 l4), (.s 6 l5), (.s 5 l6), (.s 1 l7)]), (.d (.v (.int .i64 n8)))] = (
 aft (l82x0 T k k [(.v (.int .i64 n8)), (.b [(.v (.int .i64 n1)), (.v (.int .i64 n2)), (.v (.int .i64 n3)), (.fz 13 l4), (.fz 6 l5), (.fz 5 l6), (.fz 1 l7)]), (.v (.int .i64 0)), (.v (.int .i64 0))]) fun e23 ys24 =>
 bif e23.same (.exit 0) then (
 aV ys24 0 fun x25 =>
 aI .i64 x25 fun n26 =>
 some ⟨(.d (.v (.int .i64 n26))), []⟩) else (
 none)) := by kernel_rfl
/- loop.example/g00119/spec.Summary -/
def b29x0 : ACode := (
  .seq (.seq (.reg false [⟨some 11, .mv (.t 4), none⟩,
    ⟨some 12, .fad 3 (.t 1), none⟩,
    ⟨some 13, .load false [(.sl 13)] (.t 12), none⟩,
    ⟨some 14, .len false (.t 13), none⟩,
    ⟨some 15, .bin .lss (.t 11) (.t 14), none⟩]) (
  .cond (.t 15) (.skip) (.exit 0))) (
  .seq (.block 1 (.seq (.reg false [⟨some 18, .fad 3 (.t 1), none⟩,
      ⟨some 19, .load false [(.sl 13)] (.t 18), none⟩,
      ⟨some 20, .mv (.t 4), none⟩,
      ⟨some 21, .iad 13 (.t 19) (.t 20), none⟩,
      ⟨some 22, .load true [(.i .i64), .s, (.i .i64), (.sl 3), (.sl 1), (.sl 2), (.i .i64), .s, (.i .i64), (.sl 1), (.sl 5), (.sl 2), .b] (.t 21), none⟩,
      ⟨some 5, .alloc [(.v (.int .i64 0)), (.v (.string ByteArray.empty)), (.v (.int .i64 0)), (.s 3 []), (.s 1 []), (.s 2 []), (.v (.int .i64 0)), (.v (.string ByteArray.empty)), (.v (.int .i64 0)), (.s 1 []), (.s 5 []), (.s 2 []), (.v (.bool false))], none⟩,
      ⟨none, .store 13 (.t 5) (.t 22), none⟩]) (
    .seq (.dreg [] [(0, ⟨some 23, .mv (.t 3), none⟩),
      (0, ⟨some 24, .fad 1 (.t 5), none⟩),
      (0, ⟨some 25, .load false [.s] (.t 24), none⟩),
      (0, ⟨some 26, .bin .add (.t 23) (.t 25), none⟩),
      (0, ⟨some 27, .bin .add (.t 26) (.c (.v (.string ({ data := #[32, 119, 97, 110, 116, 32] } : ByteArray)))), none⟩),
      (0, ⟨some 28, .fad 2 (.t 5), none⟩),
      (0, ⟨some 29, .fad 0 (.t 28), none⟩),
      (0, ⟨some 30, .load false [(.i .i64)] (.t 29), none⟩),
      (1, ⟨some 31, .call (.f 80) [.rd] false [.c .s] [(.t 30)], none⟩),
      (0, ⟨some 32, .bin .add (.t 27) (.t 31), none⟩),
      (0, ⟨some 33, .bin .add (.t 32) (.c (.v (.string ({ data := #[32, 112, 108, 97, 99, 101, 100, 32] } : ByteArray)))), none⟩),
      (0, ⟨some 34, .load true [(.i .i64), (.i .i64), (.i .i64), (.sl 13), (.sl 6), (.sl 5), (.sl 1)] (.t 1), none⟩),
      (0, ⟨some 35, .fad 0 (.t 5), none⟩),
      (0, ⟨some 36, .load false [(.i .i64)] (.t 35), none⟩),
      (1, ⟨some 37, .call (.f 81) [.rd, .rd] false [.c (.i .i64)] [(.t 34), (.t 36)], none⟩),
      (1, ⟨some 38, .call (.f 80) [.rd] false [.c .s] [(.t 37)], none⟩),
      (0, ⟨some 39, .bin .add (.t 33) (.t 38), none⟩),
      (0, ⟨some 40, .bin .add (.t 39) (.c (.v (.string ({ data := #[32, 114, 117, 110, 110, 105, 110, 103, 32] } : ByteArray)))), none⟩),
      (0, ⟨some 41, .load true [(.i .i64), (.i .i64), (.i .i64), (.sl 13), (.sl 6), (.sl 5), (.sl 1)] (.t 1), none⟩),
      (0, ⟨some 42, .fad 0 (.t 5), none⟩),
      (0, ⟨some 43, .load false [(.i .i64)] (.t 42), none⟩),
      (1, ⟨some 44, .call (.f 82) [.rd, .rd] false [.c (.i .i64)] [(.t 41), (.t 43)], none⟩),
      (1, ⟨some 45, .call (.f 80) [.rd] false [.c .s] [(.t 44)], none⟩)] [⟨some 46, .bin .add (.t 40) (.t 45), none⟩,
      ⟨some 3, .mv (.t 46), none⟩]) (
    .seq (.seq (.reg false [⟨some 47, .fad 12 (.t 5), none⟩,
      ⟨some 48, .load false [.b] (.t 47), none⟩]) (
    .cond (.t 48) (.reg false [⟨some 49, .mv (.t 3), none⟩,
        ⟨some 50, .bin .add (.t 49) (.c (.v (.string ({ data := #[32, 101, 110, 100, 115] } : ByteArray)))), none⟩,
        ⟨some 3, .mv (.t 50), none⟩]) (.skip))) (
    .reg false [⟨some 51, .mv (.t 3), none⟩,
      ⟨some 52, .bin .add (.t 51) (.c (.v (.string ({ data := #[10] } : ByteArray)))), none⟩,
      ⟨some 3, .mv (.t 52), none⟩]))))) (
  .reg false [⟨some 16, .mv (.t 4), none⟩,
    ⟨some 17, .bin .add (.t 16) (.c (.v (.int .i64 1))), none⟩,
    ⟨some 4, .mv (.t 17), none⟩])))
def e29x0 : Exits := [((.exit 0), [(1, .b [.c (.i .i64), .c (.i .i64), .c (.i .i64), .c (.sl 13), .c (.sl 6), .c (.sl 5), .c (.sl 1)]), (3, .c .s)])]
def l29x0 (T : Table) (k : Nat) := loopN (evalC ⟨T, []⟩ k b29x0 (Ex × List AV)) [1, 3, 4] e29x0
def b29x2 : ACode := (
  .seq (.seq (.reg false [⟨some 66, .mv (.t 10), none⟩,
    ⟨some 67, .fad 5 (.t 1), none⟩,
    ⟨some 68, .load false [(.sl 5)] (.t 67), none⟩,
    ⟨some 69, .len false (.t 68), none⟩,
    ⟨some 70, .bin .lss (.t 66) (.t 69), none⟩]) (
  .cond (.t 70) (.skip) (.exit 4))) (
  .seq (.block 5 (.seq (.dreg [] [(0, ⟨some 73, .fad 5 (.t 1), none⟩),
      (0, ⟨some 74, .load false [(.sl 5)] (.t 73), none⟩),
      (0, ⟨some 75, .mv (.t 10), none⟩),
      (0, ⟨some 76, .iad 5 (.t 74) (.t 75), none⟩),
      (0, ⟨some 77, .fad 1 (.t 76), none⟩),
      (0, ⟨some 78, .load false [.s] (.t 77), none⟩),
      (0, ⟨some 79, .fad 0 (.t 7), none⟩),
      (0, ⟨some 80, .load false [.s] (.t 79), none⟩)] [⟨some 81, .bin .eql (.t 78) (.t 80), none⟩]) (
    .cond (.t 81) (.seq (.reg false [⟨some 82, .mv (.t 8), none⟩,
        ⟨some 83, .fad 5 (.t 1), none⟩,
        ⟨some 84, .load false [(.sl 5)] (.t 83), none⟩,
        ⟨some 85, .mv (.t 10), none⟩,
        ⟨some 86, .iad 5 (.t 84) (.t 85), none⟩,
        ⟨some 87, .fad 2 (.t 86), none⟩,
        ⟨some 88, .load false [(.i .i64)] (.t 87), none⟩,
        ⟨some 89, .bin .add (.t 82) (.t 88), none⟩,
        ⟨some 8, .mv (.t 89), none⟩]) (
      .seq (.reg false [⟨some 90, .fad 5 (.t 1), none⟩,
        ⟨some 91, .load false [(.sl 5)] (.t 90), none⟩,
        ⟨some 92, .mv (.t 10), none⟩,
        ⟨some 93, .iad 5 (.t 91) (.t 92), none⟩,
        ⟨some 94, .fad 4 (.t 93), none⟩,
        ⟨some 95, .load false [(.i .i64)] (.t 94), none⟩,
        ⟨some 96, .bin .gtr (.t 95) (.c (.v (.int .i64 0))), none⟩]) (
      .cond (.t 96) (.reg false [⟨some 97, .mv (.t 9), none⟩,
          ⟨some 98, .bin .add (.t 97) (.c (.v (.int .i64 1))), none⟩,
          ⟨some 9, .mv (.t 98), none⟩]) (.skip)))) (.skip)))) (
  .reg false [⟨some 71, .mv (.t 10), none⟩,
    ⟨some 72, .bin .add (.t 71) (.c (.v (.int .i64 1))), none⟩,
    ⟨some 10, .mv (.t 72), none⟩])))
def e29x2 : Exits := [((.exit 4), [(1, .b [.c (.i .i64), .c (.i .i64), .c (.i .i64), .c (.sl 13), .c (.sl 6), .c (.sl 5), .c (.sl 1)]), (3, .c .s), (6, .c (.i .i64)), (7, .b [.c .s, .c (.sl 2), .c (.sl 1), .c (.i .i64)]), (8, .c (.i .i64)), (9, .c (.i .i64))])]
def l29x2 (T : Table) (k : Nat) := loopN (evalC ⟨T, []⟩ k b29x2 (Ex × List AV)) [1, 3, 6, 7, 8, 9, 10] e29x2
def b29x1 : ACode := (
  .seq (.seq (.reg false [⟨some 53, .mv (.t 6), none⟩,
    ⟨some 54, .fad 4 (.t 1), none⟩,
    ⟨some 55, .load false [(.sl 6)] (.t 54), none⟩,
    ⟨some 56, .len false (.t 55), none⟩,
    ⟨some 57, .bin .lss (.t 53) (.t 56), none⟩]) (
  .cond (.t 57) (.skip) (.exit 2))) (
  .seq (.block 3 (.seq (.reg false [⟨some 60, .fad 4 (.t 1), none⟩,
      ⟨some 61, .load false [(.sl 6)] (.t 60), none⟩,
      ⟨some 62, .mv (.t 6), none⟩,
      ⟨some 63, .iad 6 (.t 61) (.t 62), none⟩,
      ⟨some 64, .fad 0 (.t 63), none⟩,
      ⟨some 65, .load true [.s, (.sl 2), (.sl 1), (.i .i64)] (.t 64), none⟩,
      ⟨some 7, .alloc [(.v (.string ByteArray.empty)), (.s 2 []), (.s 1 []), (.v (.int .i64 0))], none⟩,
      ⟨none, .store 4 (.t 7) (.t 65), none⟩]) (
    .seq (.reg false [⟨some 8, .mv (.c (.v (.int .i64 0))), none⟩]) (
    .seq (.reg false [⟨some 9, .mv (.c (.v (.int .i64 0))), none⟩]) (
    .seq (.seq (.reg false [⟨some 10, .mv (.c (.v (.int .i64 0))), none⟩]) (
    .block 4 (.loop [1, 3, 6, 7, 8, 9, 10] e29x2 b29x2))) (
    .dreg [] [(0, ⟨some 99, .mv (.t 3), none⟩),
      (0, ⟨some 100, .bin .add (.t 99) (.c (.v (.string ({ data := #[105, 115, 108, 97, 110, 100, 32] } : ByteArray)))), none⟩),
      (0, ⟨some 101, .fad 0 (.t 7), none⟩),
      (0, ⟨some 102, .load false [.s] (.t 101), none⟩),
      (0, ⟨some 103, .bin .add (.t 100) (.t 102), none⟩),
      (0, ⟨some 104, .bin .add (.t 103) (.c (.v (.string ({ data := #[32, 114, 111, 111, 109, 32] } : ByteArray)))), none⟩),
      (0, ⟨some 105, .fad 3 (.t 7), none⟩),
      (0, ⟨some 106, .load false [(.i .i64)] (.t 105), none⟩),
      (1, ⟨some 107, .call (.f 80) [.rd] false [.c .s] [(.t 106)], none⟩),
      (0, ⟨some 108, .bin .add (.t 104) (.t 107), none⟩),
      (0, ⟨some 109, .bin .add (.t 108) (.c (.v (.string ({ data := #[32, 117, 115, 101, 100, 32] } : ByteArray)))), none⟩),
      (0, ⟨some 110, .mv (.t 8), none⟩),
      (1, ⟨some 111, .call (.f 80) [.rd] false [.c .s] [(.t 110)], none⟩),
      (0, ⟨some 112, .bin .add (.t 109) (.t 111), none⟩),
      (0, ⟨some 113, .bin .add (.t 112) (.c (.v (.string ({ data := #[32, 103, 111, 110, 101, 32] } : ByteArray)))), none⟩),
      (0, ⟨some 114, .mv (.t 9), none⟩),
      (1, ⟨some 115, .call (.f 80) [.rd] false [.c .s] [(.t 114)], none⟩)] [⟨some 116, .bin .add (.t 113) (.t 115), none⟩,
      ⟨some 117, .bin .add (.t 116) (.c (.v (.string ({ data := #[10] } : ByteArray)))), none⟩,
      ⟨some 3, .mv (.t 117), none⟩])))))) (
  .reg false [⟨some 58, .mv (.t 6), none⟩,
    ⟨some 59, .bin .add (.t 58) (.c (.v (.int .i64 1))), none⟩,
    ⟨some 6, .mv (.t 59), none⟩])))
def e29x1 : Exits := [((.exit 2), [(3, .c .s)])]
def l29x1 (T : Table) (k : Nat) := loopN (evalC ⟨T, []⟩ k b29x1 (Ex × List AV)) [1, 3, 6] e29x1
def a29 : AFun := ⟨[.rd], false, [.t 2], (
  .seq (.reg false [⟨some 1, .box (.t 0), none⟩,
    ⟨some 2, .mv (.c (.v (.string ({ data := #[] } : ByteArray)))), none⟩]) (
  .seq (.reg false [⟨some 3, .mv (.c (.v (.string ({ data := #[] } : ByteArray)))), none⟩]) (
  .seq (.seq (.reg false [⟨some 4, .mv (.c (.v (.int .i64 0))), none⟩]) (
  .block 0 (.loop [1, 3, 4] e29x0 b29x0))) (
  .seq (.seq (.reg false [⟨some 6, .mv (.c (.v (.int .i64 0))), none⟩]) (
  .block 2 (.loop [1, 3, 6] e29x1 b29x1))) (
  .seq (.reg false [⟨some 118, .mv (.t 3), none⟩,
    ⟨some 2, .mv (.t 118), none⟩]) (
  .ret))))))⟩
theorem l29x0s (T : Table) (k n : Nat) (n8 : Int) (n9 : Int) (n10 : Int) (l11 : Rows) (l12 : Rows) (l13 : Rows) (l14 : Rows) (s15 : ByteArray) (n16 : Int) : l29x0 T k (n + 1) [(.b [(.v (.int .i64 n8)), (.v (.int .i64 n9)), (.v (.int .i64 n10)), (.fz 13 l11), (.fz 6 l12), (.fz 5 l13), (.fz 1 l14)]), (.v (.string s15)), (.v (.int .i64 n16))] = (
 bif (decide (n16 < (l11.length : Int))) then (
 tst (decide (0 ≤ n16)) (
 look l11 (Int.toNat n16) fun r17 =>
 cI .i64 r17 0 fun n18 =>
 cS r17 1 fun s19 =>
 cI .i64 r17 2 fun n20 =>
 cL 3 r17 3 fun l21 =>
 cL 1 r17 4 fun l22 =>
 cL 2 r17 5 fun l23 =>
 cI .i64 r17 6 fun n24 =>
 cS r17 7 fun s25 =>
 cI .i64 r17 8 fun n26 =>
 cL 1 r17 9 fun l27 =>
 cL 5 r17 10 fun l28 =>
 cL 2 r17 11 fun l29 =>
 cB r17 12 fun b30 =>
 tst (decide (s15.size + s19.size ≤ maxLen)) (
 tst (decide ((s15 ++ s19).size + ({ data := #[32, 119, 97, 110, 116, 32] } : ByteArray).size ≤ maxLen)) (
 callT T 80 [(.d (.v (.int .i64 n20)))] fun o31 =>
 oD o31.res fun d32 =>
 dS d32 fun s33 =>
 tst (decide (((s15 ++ s19) ++ ({ data := #[32, 119, 97, 110, 116, 32] } : ByteArray)).size + s33.size ≤ maxLen)) (
 tst (decide ((((s15 ++ s19) ++ ({ data := #[32, 119, 97, 110, 116, 32] } : ByteArray)) ++ s33).size + ({ data := #[32, 112, 108, 97, 99, 101, 100, 32] } : ByteArray).size ≤ maxLen)) (
 callT T 81 [(.g [(.v (.int .i64 n8)), (.v (.int .i64 n9)), (.v (.int .i64 n10)), (.s 13 l11), (.s 6 l12), (.s 5 l13), (.s 1 l14)]), (.d (.v (.int .i64 n18)))] fun o34 =>
 oD o34.res fun d35 =>
 dI .i64 d35 fun n36 =>
 callT T 80 [(.d (.v (.int .i64 n36)))] fun o37 =>
 oD o37.res fun d38 =>
 dS d38 fun s39 =>
 tst (decide (((((s15 ++ s19) ++ ({ data := #[32, 119, 97, 110, 116, 32] } : ByteArray)) ++ s33) ++ ({ data := #[32, 112, 108, 97, 99, 101, 100, 32] } : ByteArray)).size + s39.size ≤ maxLen)) (
 tst (decide ((((((s15 ++ s19) ++ ({ data := #[32, 119, 97, 110, 116, 32] } : ByteArray)) ++ s33) ++ ({ data := #[32, 112, 108, 97, 99, 101, 100, 32] } : ByteArray)) ++ s39).size + ({ data := #[32, 114, 117, 110, 110, 105, 110, 103, 32] } : ByteArray).size ≤ maxLen)) (
 callT T 82 [(.g [(.v (.int .i64 n8)), (.v (.int .i64 n9)), (.v (.int .i64 n10)), (.s 13 l11), (.s 6 l12), (.s 5 l13), (.s 1 l14)]), (.d (.v (.int .i64 n18)))] fun o40 =>
 oD o40.res fun d41 =>
 dI .i64 d41 fun n42 =>
 callT T 80 [(.d (.v (.int .i64 n42)))] fun o43 =>
 oD o43.res fun d44 =>
 dS d44 fun s45 =>
 tst (decide (((((((s15 ++ s19) ++ ({ data := #[32, 119, 97, 110, 116, 32] } : ByteArray)) ++ s33) ++ ({ data := #[32, 112, 108, 97, 99, 101, 100, 32] } : ByteArray)) ++ s39) ++ ({ data := #[32, 114, 117, 110, 110, 105, 110, 103, 32] } : ByteArray)).size + s45.size ≤ maxLen)) (
 bif b30 then (
 tst (decide ((((((((s15 ++ s19) ++ ({ data := #[32, 119, 97, 110, 116, 32] } : ByteArray)) ++ s33) ++ ({ data := #[32, 112, 108, 97, 99, 101, 100, 32] } : ByteArray)) ++ s39) ++ ({ data := #[32, 114, 117, 110, 110, 105, 110, 103, 32] } : ByteArray)) ++ s45).size + ({ data := #[32, 101, 110, 100, 115] } : ByteArray).size ≤ maxLen)) (
 tst (decide (((((((((s15 ++ s19) ++ ({ data := #[32, 119, 97, 110, 116, 32] } : ByteArray)) ++ s33) ++ ({ data := #[32, 112, 108, 97, 99, 101, 100, 32] } : ByteArray)) ++ s39) ++ ({ data := #[32, 114, 117, 110, 110, 105, 110, 103, 32] } : ByteArray)) ++ s45) ++ ({ data := #[32, 101, 110, 100, 115] } : ByteArray)).size + ({ data := #[10] } : ByteArray).size ≤ maxLen)) (
 l29x0 T k n [(.b [(.v (.int .i64 n8)), (.v (.int .i64 n9)), (.v (.int .i64 n10)), (.fz 13 l11), (.fz 6 l12), (.fz 5 l13), (.fz 1 l14)]), (.v (.string (((((((((s15 ++ s19) ++ ({ data := #[32, 119, 97, 110, 116, 32] } : ByteArray)) ++ s33) ++ ({ data := #[32, 112, 108, 97, 99, 101, 100, 32] } : ByteArray)) ++ s39) ++ ({ data := #[32, 114, 117, 110, 110, 105, 110, 103, 32] } : ByteArray)) ++ s45) ++ ({ data := #[32, 101, 110, 100, 115] } : ByteArray)) ++ ({ data := #[10] } : ByteArray)))), (.v (.int .i64 (IntKind.wrap .i64 (n16 + 1))))]))) else (
 tst (decide ((((((((s15 ++ s19) ++ ({ data := #[32, 119, 97, 110, 116, 32] } : ByteArray)) ++ s33) ++ ({ data := #[32, 112, 108, 97, 99, 101, 100, 32] } : ByteArray)) ++ s39) ++ ({ data := #[32, 114, 117, 110, 110, 105, 110, 103, 32] } : ByteArray)) ++ s45).size + ({ data := #[10] } : ByteArray).size ≤ maxLen)) (
 l29x0 T k n [(.b [(.v (.int .i64 n8)), (.v (.int .i64 n9)), (.v (.int .i64 n10)), (.fz 13 l11), (.fz 6 l12), (.fz 5 l13), (.fz 1 l14)]), (.v (.string ((((((((s15 ++ s19) ++ ({ data := #[32, 119, 97, 110, 116, 32] } : ByteArray)) ++ s33) ++ ({ data := #[32, 112, 108, 97, 99, 101, 100, 32] } : ByteArray)) ++ s39) ++ ({ data := #[32, 114, 117, 110, 110, 105, 110, 103, 32] } : ByteArray)) ++ s45) ++ ({ data := #[10] } : ByteArray)))), (.v (.int .i64 (IntKind.wrap .i64 (n16 + 1))))]))))))))))) else (
 some ((.exit 0), [(.b [(.v (.int .i64 n8)), (.v (.int .i64 n9)), (.v (.int .i64 n10)), (.fz 13 l11), (.fz 6 l12), (.fz 5 l13), (.fz 1 l14)]), (.v (.string s15))]))) := by kernel_rfl
theorem l29x2s (T : Table) (k n : Nat) (n80 : Int) (n81 : Int) (n82 : Int) (l83 : Rows) (l84 : Rows) (l85 : Rows) (l86 : Rows) (s87 : ByteArray) (n88 : Int) (s89 : ByteArray) (l90 : Rows) (l91 : Rows) (n92 : Int) (n93 : Int) (n94 : Int) (n95 : Int) : l29x2 T k (n + 1) [(.b [(.v (.int .i64 n80)), (.v (.int .i64 n81)), (.v (.int .i64 n82)), (.fz 13 l83), (.fz 6 l84), (.fz 5 l85), (.fz 1 l86)]), (.v (.string s87)), (.v (.int .i64 n88)), (.b [(.v (.string s89)), (.fz 2 l90), (.fz 1 l91), (.v (.int .i64 n92))]), (.v (.int .i64 n93)), (.v (.int .i64 n94)), (.v (.int .i64 n95))] = (
 bif (decide (n95 < (l85.length : Int))) then (
 tst (decide (0 ≤ n95)) (
 look l85 (Int.toNat n95) fun r96 =>
 cS r96 1 fun s97 =>
 bif (bytesEq s97 s89) then (
 tst (decide (0 ≤ n95)) (
 look l85 (Int.toNat n95) fun r98 =>
 cI .i64 r98 2 fun n99 =>
 tst (decide (0 ≤ n95)) (
 look l85 (Int.toNat n95) fun r100 =>
 cI .i64 r100 4 fun n101 =>
 bif (decide (n101 > 0)) then (
 l29x2 T k n [(.b [(.v (.int .i64 n80)), (.v (.int .i64 n81)), (.v (.int .i64 n82)), (.fz 13 l83), (.fz 6 l84), (.fz 5 l85), (.fz 1 l86)]), (.v (.string s87)), (.v (.int .i64 n88)), (.b [(.v (.string s89)), (.fz 2 l90), (.fz 1 l91), (.v (.int .i64 n92))]), (.v (.int .i64 (IntKind.wrap .i64 (n93 + n99)))), (.v (.int .i64 (IntKind.wrap .i64 (n94 + 1)))), (.v (.int .i64 (IntKind.wrap .i64 (n95 + 1))))]) else (
 l29x2 T k n [(.b [(.v (.int .i64 n80)), (.v (.int .i64 n81)), (.v (.int .i64 n82)), (.fz 13 l83), (.fz 6 l84), (.fz 5 l85), (.fz 1 l86)]), (.v (.string s87)), (.v (.int .i64 n88)), (.b [(.v (.string s89)), (.fz 2 l90), (.fz 1 l91), (.v (.int .i64 n92))]), (.v (.int .i64 (IntKind.wrap .i64 (n93 + n99)))), (.v (.int .i64 n94)), (.v (.int .i64 (IntKind.wrap .i64 (n95 + 1))))])))) else (
 l29x2 T k n [(.b [(.v (.int .i64 n80)), (.v (.int .i64 n81)), (.v (.int .i64 n82)), (.fz 13 l83), (.fz 6 l84), (.fz 5 l85), (.fz 1 l86)]), (.v (.string s87)), (.v (.int .i64 n88)), (.b [(.v (.string s89)), (.fz 2 l90), (.fz 1 l91), (.v (.int .i64 n92))]), (.v (.int .i64 n93)), (.v (.int .i64 n94)), (.v (.int .i64 (IntKind.wrap .i64 (n95 + 1))))]))) else (
 some ((.exit 4), [(.b [(.v (.int .i64 n80)), (.v (.int .i64 n81)), (.v (.int .i64 n82)), (.fz 13 l83), (.fz 6 l84), (.fz 5 l85), (.fz 1 l86)]), (.v (.string s87)), (.v (.int .i64 n88)), (.b [(.v (.string s89)), (.fz 2 l90), (.fz 1 l91), (.v (.int .i64 n92))]), (.v (.int .i64 n93)), (.v (.int .i64 n94))]))) := by kernel_rfl
theorem l29x1s (T : Table) (k n : Nat) (n66 : Int) (n67 : Int) (n68 : Int) (l69 : Rows) (l70 : Rows) (l71 : Rows) (l72 : Rows) (s73 : ByteArray) (n74 : Int) : l29x1 T k (n + 1) [(.b [(.v (.int .i64 n66)), (.v (.int .i64 n67)), (.v (.int .i64 n68)), (.fz 13 l69), (.fz 6 l70), (.fz 5 l71), (.fz 1 l72)]), (.v (.string s73)), (.v (.int .i64 n74))] = (
 bif (decide (n74 < (l70.length : Int))) then (
 tst (decide (0 ≤ n74)) (
 look l70 (Int.toNat n74) fun r75 =>
 cS r75 0 fun s76 =>
 cL 2 r75 1 fun l77 =>
 cL 1 r75 2 fun l78 =>
 cI .i64 r75 3 fun n79 =>
 aft (l29x2 T k k [(.b [(.v (.int .i64 n66)), (.v (.int .i64 n67)), (.v (.int .i64 n68)), (.fz 13 l69), (.fz 6 l70), (.fz 5 l71), (.fz 1 l72)]), (.v (.string s73)), (.v (.int .i64 n74)), (.b [(.v (.string s76)), (.fz 2 l77), (.fz 1 l78), (.v (.int .i64 n79))]), (.v (.int .i64 0)), (.v (.int .i64 0)), (.v (.int .i64 0))]) fun e102 ys103 =>
 bif e102.same (.exit 4) then (
 aV ys103 0 fun x104 =>
 aX x104 fun xs105 =>
 aV xs105 0 fun x106 =>
 aI .i64 x106 fun n107 =>
 aV xs105 1 fun x108 =>
 aI .i64 x108 fun n109 =>
 aV xs105 2 fun x110 =>
 aI .i64 x110 fun n111 =>
 aV xs105 3 fun x112 =>
 aL 13 x112 fun l113 =>
 aV xs105 4 fun x114 =>
 aL 6 x114 fun l115 =>
 aV xs105 5 fun x116 =>
 aL 5 x116 fun l117 =>
 aV xs105 6 fun x118 =>
 aL 1 x118 fun l119 =>
 aV ys103 1 fun x120 =>
 aS x120 fun s121 =>
 aV ys103 2 fun x122 =>
 aI .i64 x122 fun n123 =>
 aV ys103 3 fun x124 =>
 aX x124 fun xs125 =>
 aV xs125 0 fun x126 =>
 aS x126 fun s127 =>
 aV xs125 1 fun x128 =>
 aL 2 x128 fun l129 =>
 aV xs125 2 fun x130 =>
 aL 1 x130 fun l131 =>
 aV xs125 3 fun x132 =>
 aI .i64 x132 fun n133 =>
 aV ys103 4 fun x134 =>
 aI .i64 x134 fun n135 =>
 aV ys103 5 fun x136 =>
 aI .i64 x136 fun n137 =>
 tst (decide (s121.size + ({ data := #[105, 115, 108, 97, 110, 100, 32] } : ByteArray).size ≤ maxLen)) (
 tst (decide ((s121 ++ ({ data := #[105, 115, 108, 97, 110, 100, 32] } : ByteArray)).size + s127.size ≤ maxLen)) (
 tst (decide (((s121 ++ ({ data := #[105, 115, 108, 97, 110, 100, 32] } : ByteArray)) ++ s127).size + ({ data := #[32, 114, 111, 111, 109, 32] } : ByteArray).size ≤ maxLen)) (
 callT T 80 [(.d (.v (.int .i64 n133)))] fun o138 =>
 oD o138.res fun d139 =>
 dS d139 fun s140 =>
 tst (decide ((((s121 ++ ({ data := #[105, 115, 108, 97, 110, 100, 32] } : ByteArray)) ++ s127) ++ ({ data := #[32, 114, 111, 111, 109, 32] } : ByteArray)).size + s140.size ≤ maxLen)) (
 tst (decide (((((s121 ++ ({ data := #[105, 115, 108, 97, 110, 100, 32] } : ByteArray)) ++ s127) ++ ({ data := #[32, 114, 111, 111, 109, 32] } : ByteArray)) ++ s140).size + ({ data := #[32, 117, 115, 101, 100, 32] } : ByteArray).size ≤ maxLen)) (
 callT T 80 [(.d (.v (.int .i64 n135)))] fun o141 =>
 oD o141.res fun d142 =>
 dS d142 fun s143 =>
 tst (decide ((((((s121 ++ ({ data := #[105, 115, 108, 97, 110, 100, 32] } : ByteArray)) ++ s127) ++ ({ data := #[32, 114, 111, 111, 109, 32] } : ByteArray)) ++ s140) ++ ({ data := #[32, 117, 115, 101, 100, 32] } : ByteArray)).size + s143.size ≤ maxLen)) (
 tst (decide (((((((s121 ++ ({ data := #[105, 115, 108, 97, 110, 100, 32] } : ByteArray)) ++ s127) ++ ({ data := #[32, 114, 111, 111, 109, 32] } : ByteArray)) ++ s140) ++ ({ data := #[32, 117, 115, 101, 100, 32] } : ByteArray)) ++ s143).size + ({ data := #[32, 103, 111, 110, 101, 32] } : ByteArray).size ≤ maxLen)) (
 callT T 80 [(.d (.v (.int .i64 n137)))] fun o144 =>
 oD o144.res fun d145 =>
 dS d145 fun s146 =>
 tst (decide ((((((((s121 ++ ({ data := #[105, 115, 108, 97, 110, 100, 32] } : ByteArray)) ++ s127) ++ ({ data := #[32, 114, 111, 111, 109, 32] } : ByteArray)) ++ s140) ++ ({ data := #[32, 117, 115, 101, 100, 32] } : ByteArray)) ++ s143) ++ ({ data := #[32, 103, 111, 110, 101, 32] } : ByteArray)).size + s146.size ≤ maxLen)) (
 tst (decide (((((((((s121 ++ ({ data := #[105, 115, 108, 97, 110, 100, 32] } : ByteArray)) ++ s127) ++ ({ data := #[32, 114, 111, 111, 109, 32] } : ByteArray)) ++ s140) ++ ({ data := #[32, 117, 115, 101, 100, 32] } : ByteArray)) ++ s143) ++ ({ data := #[32, 103, 111, 110, 101, 32] } : ByteArray)) ++ s146).size + ({ data := #[10] } : ByteArray).size ≤ maxLen)) (
 l29x1 T k n [(.b [(.v (.int .i64 n107)), (.v (.int .i64 n109)), (.v (.int .i64 n111)), (.fz 13 l113), (.fz 6 l115), (.fz 5 l117), (.fz 1 l119)]), (.v (.string (((((((((s121 ++ ({ data := #[105, 115, 108, 97, 110, 100, 32] } : ByteArray)) ++ s127) ++ ({ data := #[32, 114, 111, 111, 109, 32] } : ByteArray)) ++ s140) ++ ({ data := #[32, 117, 115, 101, 100, 32] } : ByteArray)) ++ s143) ++ ({ data := #[32, 103, 111, 110, 101, 32] } : ByteArray)) ++ s146) ++ ({ data := #[10] } : ByteArray)))), (.v (.int .i64 (IntKind.wrap .i64 (n123 + 1))))])))))))))) else (
 none))) else (
 some ((.exit 2), [(.v (.string s73))]))) := by kernel_rfl
theorem a29q (T : Table) (k : Nat) (n1 : Int) (n2 : Int) (n3 : Int) (l4 : Rows) (l5 : Rows) (l6 : Rows) (l7 : Rows) : evalF T k a29 [(.g [(.v (.int .i64 n1)), (.v (.int .i64 n2)), (.v (.int .i64 n3)), (.s 13 l4), (.s 6 l5), (.s 5 l6), (.s 1 l7)])] = (
 aft (l29x0 T k k [(.b [(.v (.int .i64 n1)), (.v (.int .i64 n2)), (.v (.int .i64 n3)), (.fz 13 l4), (.fz 6 l5), (.fz 5 l6), (.fz 1 l7)]), (.v (.string ({ data := #[] } : ByteArray))), (.v (.int .i64 0))]) fun e46 ys47 =>
 bif e46.same (.exit 0) then (
 aV ys47 0 fun x48 =>
 aX x48 fun xs49 =>
 aV xs49 0 fun x50 =>
 aI .i64 x50 fun n51 =>
 aV xs49 1 fun x52 =>
 aI .i64 x52 fun n53 =>
 aV xs49 2 fun x54 =>
 aI .i64 x54 fun n55 =>
 aV xs49 3 fun x56 =>
 aL 13 x56 fun l57 =>
 aV xs49 4 fun x58 =>
 aL 6 x58 fun l59 =>
 aV xs49 5 fun x60 =>
 aL 5 x60 fun l61 =>
 aV xs49 6 fun x62 =>
 aL 1 x62 fun l63 =>
 aV ys47 1 fun x64 =>
 aS x64 fun s65 =>
 aft (l29x1 T k k [(.b [(.v (.int .i64 n51)), (.v (.int .i64 n53)), (.v (.int .i64 n55)), (.fz 13 l57), (.fz 6 l59), (.fz 5 l61), (.fz 1 l63)]), (.v (.string s65)), (.v (.int .i64 0))]) fun e147 ys148 =>
 bif e147.same (.exit 2) then (
 aV ys148 0 fun x149 =>
 aS x149 fun s150 =>
 some ⟨(.d (.v (.string s150))), []⟩) else (
 none)) else (
 none)) := by kernel_rfl
/- loop.example/g00119/impl.decimal -/

def a83 : AFun := ⟨[.rd], false, [.t 2], (
  .seq (.reg false [⟨some 2, .mv (.c (.v (.string ({ data := #[] } : ByteArray)))), none⟩]) (
  .seq (.block 0 (.seq (.reg false [⟨some 4, .mv (.t 0), none⟩,
      ⟨some 5, .bin .lss (.t 4) (.c (.v (.int .i64 0))), none⟩,
      ⟨some 6, .mv (.t 5), none⟩,
      ⟨some 7, .mv (.t 0), some (6, true)⟩,
      ⟨some 8, .bin .gtr (.t 7) (.c (.v (.int .i64 (-10)))), some (6, true)⟩,
      ⟨some 9, .pick (.t 6) (.t 8) (.c (.v (.bool false))), none⟩,
      ⟨some 3, .mv (.t 9), none⟩]) (
    .cond (.t 3) (.seq (.reg false [⟨some 10, .mv (.t 0), none⟩,
        ⟨some 11, .un .neg (.t 10), none⟩,
        ⟨some 12, .call (.f 83) [.rd] false [.c .s] [(.t 11)], none⟩,
        ⟨some 13, .bin .add (.c (.v (.string ({ data := #[45] } : ByteArray)))) (.t 12), none⟩,
        ⟨some 2, .mv (.t 13), none⟩]) (
      .ret)) (.seq (.reg false [⟨some 15, .mv (.t 0), none⟩,
        ⟨some 16, .bin .lss (.t 15) (.c (.v (.int .i64 0))), none⟩,
        ⟨some 14, .mv (.t 16), none⟩]) (
      .cond (.t 14) (.seq (.reg false [⟨some 17, .mv (.t 0), none⟩,
          ⟨some 18, .bin .quo (.t 17) (.c (.v (.int .i64 10))), none⟩,
          ⟨some 19, .call (.f 83) [.rd] false [.c .s] [(.t 18)], none⟩,
          ⟨some 20, .mv (.t 0), none⟩,
          ⟨some 21, .bin .rem (.t 20) (.c (.v (.int .i64 10))), none⟩,
          ⟨some 22, .un .neg (.t 21), none⟩,
          ⟨some 23, .call (.f 83) [.rd] false [.c .s] [(.t 22)], none⟩,
          ⟨some 24, .bin .add (.t 19) (.t 23), none⟩,
          ⟨some 2, .mv (.t 24), none⟩]) (
        .ret)) (.seq (.reg false [⟨some 26, .mv (.t 0), none⟩,
          ⟨some 27, .bin .lss (.t 26) (.c (.v (.int .i64 10))), none⟩,
          ⟨some 25, .mv (.t 27), none⟩]) (
        .cond (.t 25) (.seq (.reg false [⟨some 28, .mv (.t 0), none⟩,
            ⟨some 29, .bin .add (.c (.v (.int .i64 48))) (.t 28), none⟩,
            ⟨some 30, .conv (.int .i32) (.t 29), none⟩,
            ⟨some 31, .conv .intStr (.t 30), none⟩,
            ⟨some 2, .mv (.t 31), none⟩]) (
          .ret)) (.skip)))))))) (
  .seq (.reg false [⟨some 32, .mv (.t 0), none⟩,
    ⟨some 33, .bin .quo (.t 32) (.c (.v (.int .i64 10))), none⟩,
    ⟨some 34, .call (.f 83) [.rd] false [.c .s] [(.t 33)], none⟩,
    ⟨some 35, .mv (.t 0), none⟩,
    ⟨some 36, .bin .rem (.t 35) (.c (.v (.int .i64 10))), none⟩,
    ⟨some 37, .bin .add (.c (.v (.int .i64 48))) (.t 36), none⟩,
    ⟨some 38, .conv (.int .i32) (.t 37), none⟩,
    ⟨some 39, .conv .intStr (.t 38), none⟩,
    ⟨some 40, .bin .add (.t 34) (.t 39), none⟩,
    ⟨some 2, .mv (.t 40), none⟩]) (
  .ret))))⟩

theorem a83q (T : Table) (k : Nat) (n1 : Int) : evalF T k a83 [(.d (.v (.int .i64 n1)))] = (
 bif (decide (n1 < 0)) == true then (
 bif (decide (n1 > (-10))) then (
 callT T 83 [(.d (.v (.int .i64 (IntKind.wrap .i64 (0 - n1)))))] fun o2 =>
 oD o2.res fun d3 =>
 dS d3 fun s4 =>
 tst (decide (({ data := #[45] } : ByteArray).size + s4.size ≤ maxLen)) (
 some ⟨(.d (.v (.string (({ data := #[45] } : ByteArray) ++ s4)))), []⟩)) else (
 bif (decide (n1 < 0)) then (
 tst (decide (10 ≠ 0)) (
 callT T 83 [(.d (.v (.int .i64 (IntKind.wrap .i64 (Int.tdiv n1 10)))))] fun o5 =>
 oD o5.res fun d6 =>
 dS d6 fun s7 =>
 tst (decide (10 ≠ 0)) (
 callT T 83 [(.d (.v (.int .i64 (IntKind.wrap .i64 (0 - (Int.tmod n1 10))))))] fun o8 =>
 oD o8.res fun d9 =>
 dS d9 fun s10 =>
 tst (decide (s7.size + s10.size ≤ maxLen)) (
 some ⟨(.d (.v (.string (s7 ++ s10)))), []⟩)))) else (
 bif (decide (n1 < 10)) then (
 some ⟨(.d (.v (.string (Utf8.encode (IntKind.wrap .i32 (IntKind.wrap .i64 (48 + n1))))))), []⟩) else (
 tst (decide (10 ≠ 0)) (
 callT T 83 [(.d (.v (.int .i64 (IntKind.wrap .i64 (Int.tdiv n1 10)))))] fun o11 =>
 oD o11.res fun d12 =>
 dS d12 fun s13 =>
 tst (decide (10 ≠ 0)) (
 tst (decide (s13.size + (Utf8.encode (IntKind.wrap .i32 (IntKind.wrap .i64 (48 + (Int.tmod n1 10))))).size ≤ maxLen)) (
 some ⟨(.d (.v (.string (s13 ++ (Utf8.encode (IntKind.wrap .i32 (IntKind.wrap .i64 (48 + (Int.tmod n1 10))))))))), []⟩))))))) else (
 bif (decide (n1 < 0)) then (
 tst (decide (10 ≠ 0)) (
 callT T 83 [(.d (.v (.int .i64 (IntKind.wrap .i64 (Int.tdiv n1 10)))))] fun o14 =>
 oD o14.res fun d15 =>
 dS d15 fun s16 =>
 tst (decide (10 ≠ 0)) (
 callT T 83 [(.d (.v (.int .i64 (IntKind.wrap .i64 (0 - (Int.tmod n1 10))))))] fun o17 =>
 oD o17.res fun d18 =>
 dS d18 fun s19 =>
 tst (decide (s16.size + s19.size ≤ maxLen)) (
 some ⟨(.d (.v (.string (s16 ++ s19)))), []⟩)))) else (
 bif (decide (n1 < 10)) then (
 some ⟨(.d (.v (.string (Utf8.encode (IntKind.wrap .i32 (IntKind.wrap .i64 (48 + n1))))))), []⟩) else (
 tst (decide (10 ≠ 0)) (
 callT T 83 [(.d (.v (.int .i64 (IntKind.wrap .i64 (Int.tdiv n1 10)))))] fun o20 =>
 oD o20.res fun d21 =>
 dS d21 fun s22 =>
 tst (decide (10 ≠ 0)) (
 tst (decide (s22.size + (Utf8.encode (IntKind.wrap .i32 (IntKind.wrap .i64 (48 + (Int.tmod n1 10))))).size ≤ maxLen)) (
 some ⟨(.d (.v (.string (s22 ++ (Utf8.encode (IntKind.wrap .i32 (IntKind.wrap .i64 (48 + (Int.tmod n1 10))))))))), []⟩))))))) := by kernel_rfl
/- loop.example/g00119/impl.Wanted -/
def b84x0 : ACode := (
  .seq (.reg false [⟨some 12, .bin .lss (.t 11) (.t 10), none⟩]) (
  .seq (.cond (.t 12) (.skip) (.exit 0)) (
  .seq (.block 1 (.seq (.reg false [⟨some 13, .iad 5 (.t 9) (.t 11), none⟩,
      ⟨some 14, .load true [(.i .i64), .s, (.i .i64), (.i .i64), (.i .i64)] (.t 13), none⟩,
      ⟨some 7, .alloc [(.v (.int .i64 0)), (.v (.string ByteArray.empty)), (.v (.int .i64 0)), (.v (.int .i64 0)), (.v (.int .i64 0))], none⟩,
      ⟨none, .store 5 (.t 7) (.t 14), none⟩]) (
    .seq (.reg false [⟨some 15, .fad 0 (.t 7), none⟩,
      ⟨some 16, .load false [(.i .i64)] (.t 15), none⟩,
      ⟨some 17, .mv (.t 1), none⟩,
      ⟨some 18, .bin .eql (.t 16) (.t 17), none⟩]) (
    .cond (.t 18) (.reg false [⟨some 19, .mv (.t 5), none⟩,
        ⟨some 20, .fad 2 (.t 7), none⟩,
        ⟨some 21, .load false [(.i .i64)] (.t 20), none⟩,
        ⟨some 22, .bin .add (.t 19) (.t 21), none⟩,
        ⟨some 5, .mv (.t 22), none⟩]) (.skip))))) (
  .reg false [⟨some 23, .bin .add (.t 11) (.c (.v (.int .i64 1))), none⟩,
    ⟨some 11, .mv (.t 23), none⟩]))))
def e84x0 : Exits := [((.exit 0), [(5, .c (.i .i64))])]
def l84x0 (T : Table) (k : Nat) := loopN (evalC ⟨T, []⟩ k b84x0 (Ex × List AV)) [1, 5, 9, 10, 11] e84x0
def a84 : AFun := ⟨[.rd, .rd], false, [.t 4], (
  .seq (.reg false [⟨some 2, .box (.t 0), none⟩,
    ⟨some 4, .mv (.c (.v (.int .i64 0))), none⟩]) (
  .seq (.reg false [⟨some 5, .mv (.c (.v (.int .i64 0))), none⟩]) (
  .seq (.seq (.reg false [⟨some 8, .fad 5 (.t 2), none⟩,
    ⟨some 9, .load false [(.sl 5)] (.t 8), none⟩,
    ⟨some 10, .len false (.t 9), none⟩,
    ⟨some 11, .mv (.c (.v (.int .i64 0))), none⟩]) (
  .block 0 (.loop [1, 5, 9, 10, 11] e84x0 b84x0))) (
  .seq (.reg false [⟨some 24, .mv (.t 5), none⟩,
    ⟨some 4, .mv (.t 24), none⟩]) (
  .ret)))))⟩
theorem l84x0s (T : Table) (k n : Nat) (n9 : Int) (n10 : Int) (l11 : Rows) (n12 : Int) (n13 : Int) : l84x0 T k (n + 1) [(.v (.int .i64 n9)), (.v (.int .i64 n10)), (.fz 5 l11), (.v (.int .i64 n12)), (.v (.int .i64 n13))] = (
 bif (decide (n13 < n12)) then (
 tst (decide (0 ≤ n13)) (
 look l11 (Int.toNat n13) fun r14 =>
 cI .i64 r14 0 fun n15 =>
 cS r14 1 fun s16 =>
 cI .i64 r14 2 fun n17 =>
 cI .i64 r14 3 fun n18 =>
 cI .i64 r14 4 fun n19 =>
 bif (n15 == n9) then (
 l84x0 T k n [(.v (.int .i64 n9)), (.v (.int .i64 (IntKind.wrap .i64 (n10 + n17)))), (.fz 5 l11), (.v (.int .i64 n12)), (.v (.int .i64 (IntKind.wrap .i64 (n13 + 1))))]) else (
 l84x0 T k n [(.v (.int .i64 n9)), (.v (.int .i64 n10)), (.fz 5 l11), (.v (.int .i64 n12)), (.v (.int .i64 (IntKind.wrap .i64 (n13 + 1))))]))) else (
 some ((.exit 0), [(.v (.int .i64 n10))]))) := by kernel_rfl
theorem a84q (T : Table) (k : Nat) (n1 : Int) (n2 : Int) (n3 : Int) (l4 : Rows) (l5 : Rows) (l6 : Rows) (l7 : Rows) (n8 : Int) : evalF T k a84 [(.g [(.v (.int .i64 n1)), (.v (.int .i64 n2)), (.v (.int .i64 n3)), (.s 13 l4), (.s 6 l5), (.s 5 l6), (.s 1 l7)]), (.d (.v (.int .i64 n8)))] = (
 aft (l84x0 T k k [(.v (.int .i64 n8)), (.v (.int .i64 0)), (.fz 5 l6), (.v (.int .i64 (l6.length : Int))), (.v (.int .i64 0))]) fun e20 ys21 =>
 bif e20.same (.exit 0) then (
 aV ys21 0 fun x22 =>
 aI .i64 x22 fun n23 =>
 some ⟨(.d (.v (.int .i64 n23))), []⟩) else (
 none)) := by kernel_rfl
/- loop.example/g00119/impl.Running -/
def b85x0 : ACode := (
  .seq (.reg false [⟨some 12, .bin .lss (.t 11) (.t 10), none⟩]) (
  .seq (.cond (.t 12) (.skip) (.exit 0)) (
  .seq (.block 1 (.seq (.reg false [⟨some 13, .iad 5 (.t 9) (.t 11), none⟩,
      ⟨some 14, .load true [(.i .i64), .s, (.i .i64), (.i .i64), (.i .i64)] (.t 13), none⟩,
      ⟨some 7, .alloc [(.v (.int .i64 0)), (.v (.string ByteArray.empty)), (.v (.int .i64 0)), (.v (.int .i64 0)), (.v (.int .i64 0))], none⟩,
      ⟨none, .store 5 (.t 7) (.t 14), none⟩]) (
    .seq (.reg false [⟨some 15, .fad 0 (.t 7), none⟩,
      ⟨some 16, .load false [(.i .i64)] (.t 15), none⟩,
      ⟨some 17, .mv (.t 1), none⟩,
      ⟨some 18, .bin .eql (.t 16) (.t 17), none⟩]) (
    .cond (.t 18) (.reg false [⟨some 19, .mv (.t 5), none⟩,
        ⟨some 20, .fad 3 (.t 7), none⟩,
        ⟨some 21, .load false [(.i .i64)] (.t 20), none⟩,
        ⟨some 22, .bin .add (.t 19) (.t 21), none⟩,
        ⟨some 5, .mv (.t 22), none⟩]) (.skip))))) (
  .reg false [⟨some 23, .bin .add (.t 11) (.c (.v (.int .i64 1))), none⟩,
    ⟨some 11, .mv (.t 23), none⟩]))))
def e85x0 : Exits := [((.exit 0), [(5, .c (.i .i64))])]
def l85x0 (T : Table) (k : Nat) := loopN (evalC ⟨T, []⟩ k b85x0 (Ex × List AV)) [1, 5, 9, 10, 11] e85x0
def a85 : AFun := ⟨[.rd, .rd], false, [.t 4], (
  .seq (.reg false [⟨some 2, .box (.t 0), none⟩,
    ⟨some 4, .mv (.c (.v (.int .i64 0))), none⟩]) (
  .seq (.reg false [⟨some 5, .mv (.c (.v (.int .i64 0))), none⟩]) (
  .seq (.seq (.reg false [⟨some 8, .fad 5 (.t 2), none⟩,
    ⟨some 9, .load false [(.sl 5)] (.t 8), none⟩,
    ⟨some 10, .len false (.t 9), none⟩,
    ⟨some 11, .mv (.c (.v (.int .i64 0))), none⟩]) (
  .block 0 (.loop [1, 5, 9, 10, 11] e85x0 b85x0))) (
  .seq (.reg false [⟨some 24, .mv (.t 5), none⟩,
    ⟨some 4, .mv (.t 24), none⟩]) (
  .ret)))))⟩
theorem l85x0s (T : Table) (k n : Nat) (n9 : Int) (n10 : Int) (l11 : Rows) (n12 : Int) (n13 : Int) : l85x0 T k (n + 1) [(.v (.int .i64 n9)), (.v (.int .i64 n10)), (.fz 5 l11), (.v (.int .i64 n12)), (.v (.int .i64 n13))] = (
 bif (decide (n13 < n12)) then (
 tst (decide (0 ≤ n13)) (
 look l11 (Int.toNat n13) fun r14 =>
 cI .i64 r14 0 fun n15 =>
 cS r14 1 fun s16 =>
 cI .i64 r14 2 fun n17 =>
 cI .i64 r14 3 fun n18 =>
 cI .i64 r14 4 fun n19 =>
 bif (n15 == n9) then (
 l85x0 T k n [(.v (.int .i64 n9)), (.v (.int .i64 (IntKind.wrap .i64 (n10 + n18)))), (.fz 5 l11), (.v (.int .i64 n12)), (.v (.int .i64 (IntKind.wrap .i64 (n13 + 1))))]) else (
 l85x0 T k n [(.v (.int .i64 n9)), (.v (.int .i64 n10)), (.fz 5 l11), (.v (.int .i64 n12)), (.v (.int .i64 (IntKind.wrap .i64 (n13 + 1))))]))) else (
 some ((.exit 0), [(.v (.int .i64 n10))]))) := by kernel_rfl
theorem a85q (T : Table) (k : Nat) (n1 : Int) (n2 : Int) (n3 : Int) (l4 : Rows) (l5 : Rows) (l6 : Rows) (l7 : Rows) (n8 : Int) : evalF T k a85 [(.g [(.v (.int .i64 n1)), (.v (.int .i64 n2)), (.v (.int .i64 n3)), (.s 13 l4), (.s 6 l5), (.s 5 l6), (.s 1 l7)]), (.d (.v (.int .i64 n8)))] = (
 aft (l85x0 T k k [(.v (.int .i64 n8)), (.v (.int .i64 0)), (.fz 5 l6), (.v (.int .i64 (l6.length : Int))), (.v (.int .i64 0))]) fun e20 ys21 =>
 bif e20.same (.exit 0) then (
 aV ys21 0 fun x22 =>
 aI .i64 x22 fun n23 =>
 some ⟨(.d (.v (.int .i64 n23))), []⟩) else (
 none)) := by kernel_rfl
/- loop.example/g00119/impl.usedOn -/
def b86x0 : ACode := (
  .seq (.reg false [⟨some 12, .bin .lss (.t 11) (.t 10), none⟩]) (
  .seq (.cond (.t 12) (.skip) (.exit 0)) (
  .seq (.block 1 (.seq (.reg false [⟨some 13, .iad 5 (.t 9) (.t 11), none⟩,
      ⟨some 14, .load true [(.i .i64), .s, (.i .i64), (.i .i64), (.i .i64)] (.t 13), none⟩,
      ⟨some 7, .alloc [(.v (.int .i64 0)), (.v (.string ByteArray.empty)), (.v (.int .i64 0)), (.v (.int .i64 0)), (.v (.int .i64 0))], none⟩,
      ⟨none, .store 5 (.t 7) (.t 14), none⟩]) (
    .seq (.reg false [⟨some 15, .fad 1 (.t 7), none⟩,
      ⟨some 16, .load false [.s] (.t 15), none⟩,
      ⟨some 17, .mv (.t 1), none⟩,
      ⟨some 18, .bin .eql (.t 16) (.t 17), none⟩]) (
    .cond (.t 18) (.reg false [⟨some 19, .mv (.t 5), none⟩,
        ⟨some 20, .fad 2 (.t 7), none⟩,
        ⟨some 21, .load false [(.i .i64)] (.t 20), none⟩,
        ⟨some 22, .bin .add (.t 19) (.t 21), none⟩,
        ⟨some 5, .mv (.t 22), none⟩]) (.skip))))) (
  .reg false [⟨some 23, .bin .add (.t 11) (.c (.v (.int .i64 1))), none⟩,
    ⟨some 11, .mv (.t 23), none⟩]))))
def e86x0 : Exits := [((.exit 0), [(5, .c (.i .i64))])]
def l86x0 (T : Table) (k : Nat) := loopN (evalC ⟨T, []⟩ k b86x0 (Ex × List AV)) [1, 5, 9, 10, 11] e86x0
def a86 : AFun := ⟨[.rd, .rd], false, [.t 4], (
  .seq (.reg false [⟨some 2, .box (.t 0), none⟩,
    ⟨some 4, .mv (.c (.v (.int .i64 0))), none⟩]) (
  .seq (.reg false [⟨some 5, .mv (.c (.v (.int .i64 0))), none⟩]) (
  .seq (.seq (.reg false [⟨some 8, .fad 5 (.t 2), none⟩,
    ⟨some 9, .load false [(.sl 5)] (.t 8), none⟩,
    ⟨some 10, .len false (.t 9), none⟩,
    ⟨some 11, .mv (.c (.v (.int .i64 0))), none⟩]) (
  .block 0 (.loop [1, 5, 9, 10, 11] e86x0 b86x0))) (
  .seq (.reg false [⟨some 24, .mv (.t 5), none⟩,
    ⟨some 4, .mv (.t 24), none⟩]) (
  .ret)))))⟩
theorem l86x0s (T : Table) (k n : Nat) (s9 : ByteArray) (n10 : Int) (l11 : Rows) (n12 : Int) (n13 : Int) : l86x0 T k (n + 1) [(.v (.string s9)), (.v (.int .i64 n10)), (.fz 5 l11), (.v (.int .i64 n12)), (.v (.int .i64 n13))] = (
 bif (decide (n13 < n12)) then (
 tst (decide (0 ≤ n13)) (
 look l11 (Int.toNat n13) fun r14 =>
 cI .i64 r14 0 fun n15 =>
 cS r14 1 fun s16 =>
 cI .i64 r14 2 fun n17 =>
 cI .i64 r14 3 fun n18 =>
 cI .i64 r14 4 fun n19 =>
 bif (bytesEq s16 s9) then (
 l86x0 T k n [(.v (.string s9)), (.v (.int .i64 (IntKind.wrap .i64 (n10 + n17)))), (.fz 5 l11), (.v (.int .i64 n12)), (.v (.int .i64 (IntKind.wrap .i64 (n13 + 1))))]) else (
 l86x0 T k n [(.v (.string s9)), (.v (.int .i64 n10)), (.fz 5 l11), (.v (.int .i64 n12)), (.v (.int .i64 (IntKind.wrap .i64 (n13 + 1))))]))) else (
 some ((.exit 0), [(.v (.int .i64 n10))]))) := by kernel_rfl
theorem a86q (T : Table) (k : Nat) (n1 : Int) (n2 : Int) (n3 : Int) (l4 : Rows) (l5 : Rows) (l6 : Rows) (l7 : Rows) (s8 : ByteArray) : evalF T k a86 [(.g [(.v (.int .i64 n1)), (.v (.int .i64 n2)), (.v (.int .i64 n3)), (.s 13 l4), (.s 6 l5), (.s 5 l6), (.s 1 l7)]), (.d (.v (.string s8)))] = (
 aft (l86x0 T k k [(.v (.string s8)), (.v (.int .i64 0)), (.fz 5 l6), (.v (.int .i64 (l6.length : Int))), (.v (.int .i64 0))]) fun e20 ys21 =>
 bif e20.same (.exit 0) then (
 aV ys21 0 fun x22 =>
 aI .i64 x22 fun n23 =>
 some ⟨(.d (.v (.int .i64 n23))), []⟩) else (
 none)) := by kernel_rfl
/- loop.example/g00119/impl.goneOn -/
def b87x0 : ACode := (
  .seq (.reg false [⟨some 12, .bin .lss (.t 11) (.t 10), none⟩]) (
  .seq (.cond (.t 12) (.skip) (.exit 0)) (
  .seq (.block 1 (.seq (.reg false [⟨some 13, .iad 5 (.t 9) (.t 11), none⟩,
      ⟨some 14, .load true [(.i .i64), .s, (.i .i64), (.i .i64), (.i .i64)] (.t 13), none⟩,
      ⟨some 7, .alloc [(.v (.int .i64 0)), (.v (.string ByteArray.empty)), (.v (.int .i64 0)), (.v (.int .i64 0)), (.v (.int .i64 0))], none⟩,
      ⟨none, .store 5 (.t 7) (.t 14), none⟩]) (
    .seq (.reg false [⟨some 15, .fad 1 (.t 7), none⟩,
      ⟨some 16, .load false [.s] (.t 15), none⟩,
      ⟨some 17, .mv (.t 1), none⟩,
      ⟨some 18, .bin .eql (.t 16) (.t 17), none⟩,
      ⟨some 19, .mv (.t 18), none⟩,
      ⟨some 20, .fad 4 (.t 7), some (19, true)⟩,
      ⟨some 21, .load false [(.i .i64)] (.t 20), some (19, true)⟩,
      ⟨some 22, .bin .gtr (.t 21) (.c (.v (.int .i64 0))), some (19, true)⟩,
      ⟨some 23, .pick (.t 19) (.t 22) (.c (.v (.bool false))), none⟩]) (
    .cond (.t 23) (.reg false [⟨some 24, .mv (.t 5), none⟩,
        ⟨some 25, .bin .add (.t 24) (.c (.v (.int .i64 1))), none⟩,
        ⟨some 5, .mv (.t 25), none⟩]) (.skip))))) (
  .reg false [⟨some 26, .bin .add (.t 11) (.c (.v (.int .i64 1))), none⟩,
    ⟨some 11, .mv (.t 26), none⟩]))))
def e87x0 : Exits := [((.exit 0), [(5, .c (.i .i64))])]
def l87x0 (T : Table) (k : Nat) := loopN (evalC ⟨T, []⟩ k b87x0 (Ex × List AV)) [1, 5, 9, 10, 11] e87x0
def a87 : AFun := ⟨[.rd, .rd], false, [.t 4], (
  .seq (.reg false [⟨some 2, .box (.t 0), none⟩,
    ⟨some 4, .mv (.c (.v (.int .i64 0))), none⟩]) (
  .seq (.reg false [⟨some 5, .mv (.c (.v (.int .i64 0))), none⟩]) (
  .seq (.seq (.reg false [⟨some 8, .fad 5 (.t 2), none⟩,
    ⟨some 9, .load false [(.sl 5)] (.t 8), none⟩,
    ⟨some 10, .len false (.t 9), none⟩,
    ⟨some 11, .mv (.c (.v (.int .i64 0))), none⟩]) (
  .block 0 (.loop [1, 5, 9, 10, 11] e87x0 b87x0))) (
  .seq (.reg false [⟨some 27, .mv (.t 5), none⟩,
    ⟨some 4, .mv (.t 27), none⟩]) (
  .ret)))))⟩
theorem l87x0s (T : Table) (k n : Nat) (s9 : ByteArray) (n10 : Int) (l11 : Rows) (n12 : Int) (n13 : Int) : l87x0 T k (n + 1) [(.v (.string s9)), (.v (.int .i64 n10)), (.fz 5 l11), (.v (.int .i64 n12)), (.v (.int .i64 n13))] = (
 bif (decide (n13 < n12)) then (
 tst (decide (0 ≤ n13)) (
 look l11 (Int.toNat n13) fun r14 =>
 cI .i64 r14 0 fun n15 =>
 cS r14 1 fun s16 =>
 cI .i64 r14 2 fun n17 =>
 cI .i64 r14 3 fun n18 =>
 cI .i64 r14 4 fun n19 =>
 bif (bytesEq s16 s9) == true then (
 bif (decide (n19 > 0)) then (
 l87x0 T k n [(.v (.string s9)), (.v (.int .i64 (IntKind.wrap .i64 (n10 + 1)))), (.fz 5 l11), (.v (.int .i64 n12)), (.v (.int .i64 (IntKind.wrap .i64 (n13 + 1))))]) else (
 l87x0 T k n [(.v (.string s9)), (.v (.int .i64 n10)), (.fz 5 l11), (.v (.int .i64 n12)), (.v (.int .i64 (IntKind.wrap .i64 (n13 + 1))))])) else (
 l87x0 T k n [(.v (.string s9)), (.v (.int .i64 n10)), (.fz 5 l11), (.v (.int .i64 n12)), (.v (.int .i64 (IntKind.wrap .i64 (n13 + 1))))]))) else (
 some ((.exit 0), [(.v (.int .i64 n10))]))) := by kernel_rfl
theorem a87q (T : Table) (k : Nat) (n1 : Int) (n2 : Int) (n3 : Int) (l4 : Rows) (l5 : Rows) (l6 : Rows) (l7 : Rows) (s8 : ByteArray) : evalF T k a87 [(.g [(.v (.int .i64 n1)), (.v (.int .i64 n2)), (.v (.int .i64 n3)), (.s 13 l4), (.s 6 l5), (.s 5 l6), (.s 1 l7)]), (.d (.v (.string s8)))] = (
 aft (l87x0 T k k [(.v (.string s8)), (.v (.int .i64 0)), (.fz 5 l6), (.v (.int .i64 (l6.length : Int))), (.v (.int .i64 0))]) fun e20 ys21 =>
 bif e20.same (.exit 0) then (
 aV ys21 0 fun x22 =>
 aI .i64 x22 fun n23 =>
 some ⟨(.d (.v (.int .i64 n23))), []⟩) else (
 none)) := by kernel_rfl
/- loop.example/g00119/impl.Summary -/
def b30x0 : ACode := (
  .seq (.reg false [⟨some 13, .bin .lss (.t 12) (.t 11), none⟩]) (
  .seq (.cond (.t 13) (.skip) (.exit 0)) (
  .seq (.block 1 (.seq (.reg false [⟨some 14, .iad 13 (.t 10) (.t 12), none⟩,
      ⟨some 15, .load true [(.i .i64), .s, (.i .i64), (.sl 3), (.sl 1), (.sl 2), (.i .i64), .s, (.i .i64), (.sl 1), (.sl 5), (.sl 2), .b] (.t 14), none⟩,
      ⟨some 5, .alloc [(.v (.int .i64 0)), (.v (.string ByteArray.empty)), (.v (.int .i64 0)), (.s 3 []), (.s 1 []), (.s 2 []), (.v (.int .i64 0)), (.v (.string ByteArray.empty)), (.v (.int .i64 0)), (.s 1 []), (.s 5 []), (.s 2 []), (.v (.bool false))], none⟩,
      ⟨none, .store 13 (.t 5) (.t 15), none⟩]) (
    .seq (.dreg [] [(0, ⟨some 16, .mv (.t 3), none⟩),
      (0, ⟨some 17, .fad 1 (.t 5), none⟩),
      (0, ⟨some 18, .load false [.s] (.t 17), none⟩),
      (0, ⟨some 19, .bin .add (.t 18) (.c (.v (.string ({ data := #[32, 119, 97, 110, 116, 32] } : ByteArray)))), none⟩),
      (0, ⟨some 20, .fad 2 (.t 5), none⟩),
      (0, ⟨some 21, .fad 0 (.t 20), none⟩),
      (0, ⟨some 22, .load false [(.i .i64)] (.t 21), none⟩),
      (1, ⟨some 23, .call (.f 83) [.rd] false [.c .s] [(.t 22)], none⟩),
      (0, ⟨some 24, .bin .add (.t 19) (.t 23), none⟩),
      (0, ⟨some 25, .bin .add (.t 24) (.c (.v (.string ({ data := #[32, 112, 108, 97, 99, 101, 100, 32] } : ByteArray)))), none⟩),
      (0, ⟨some 26, .load true [(.i .i64), (.i .i64), (.i .i64), (.sl 13), (.sl 6), (.sl 5), (.sl 1)] (.t 1), none⟩),
      (0, ⟨some 27, .fad 0 (.t 5), none⟩),
      (0, ⟨some 28, .load false [(.i .i64)] (.t 27), none⟩),
      (1, ⟨some 29, .call (.f 84) [.rd, .rd] false [.c (.i .i64)] [(.t 26), (.t 28)], none⟩),
      (1, ⟨some 30, .call (.f 83) [.rd] false [.c .s] [(.t 29)], none⟩),
      (0, ⟨some 31, .bin .add (.t 25) (.t 30), none⟩),
      (0, ⟨some 32, .bin .add (.t 31) (.c (.v (.string ({ data := #[32, 114, 117, 110, 110, 105, 110, 103, 32] } : ByteArray)))), none⟩),
      (0, ⟨some 33, .load true [(.i .i64), (.i .i64), (.i .i64), (.sl 13), (.sl 6), (.sl 5), (.sl 1)] (.t 1), none⟩),
      (0, ⟨some 34, .fad 0 (.t 5), none⟩),
      (0, ⟨some 35, .load false [(.i .i64)] (.t 34), none⟩),
      (1, ⟨some 36, .call (.f 85) [.rd, .rd] false [.c (.i .i64)] [(.t 33), (.t 35)], none⟩),
      (1, ⟨some 37, .call (.f 83) [.rd] false [.c .s] [(.t 36)], none⟩),
      (0, ⟨some 38, .bin .add (.t 32) (.t 37), none⟩)] [⟨some 39, .bin .add (.t 16) (.t 38), none⟩,
      ⟨some 3, .mv (.t 39), none⟩]) (
    .seq (.seq (.reg false [⟨some 40, .fad 12 (.t 5), none⟩,
      ⟨some 41, .load false [.b] (.t 40), none⟩]) (
    .cond (.t 41) (.reg false [⟨some 42, .mv (.t 3), none⟩,
        ⟨some 43, .bin .add (.t 42) (.c (.v (.string ({ data := #[32, 101, 110, 100, 115] } : ByteArray)))), none⟩,
        ⟨some 3, .mv (.t 43), none⟩]) (.skip))) (
    .reg false [⟨some 44, .mv (.t 3), none⟩,
      ⟨some 45, .bin .add (.t 44) (.c (.v (.string ({ data := #[10] } : ByteArray)))), none⟩,
      ⟨some 3, .mv (.t 45), none⟩]))))) (
  .reg false [⟨some 46, .bin .add (.t 12) (.c (.v (.int .i64 1))), none⟩,
    ⟨some 12, .mv (.t 46), none⟩]))))
def e30x0 : Exits := [((.exit 0), [(1, .b [.c (.i .i64), .c (.i .i64), .c (.i .i64), .c (.sl 13), .c (.sl 6), .c (.sl 5), .c (.sl 1)]), (3, .c .s)])]
def l30x0 (T : Table) (k : Nat) := loopN (evalC ⟨T, []⟩ k b30x0 (Ex × List AV)) [1, 3, 10, 11, 12] e30x0
def b30x1 : ACode := (
  .seq (.reg false [⟨some 51, .bin .lss (.t 50) (.t 49), none⟩]) (
  .seq (.cond (.t 51) (.skip) (.exit 2)) (
  .seq (.block 3 (.seq (.reg false [⟨some 52, .iad 6 (.t 48) (.t 50), none⟩,
      ⟨some 53, .load true [.s, (.sl 2), (.sl 1), (.i .i64), (.i .i64), (.i .i64)] (.t 52), none⟩,
      ⟨some 7, .alloc [(.v (.string ByteArray.empty)), (.s 2 []), (.s 1 []), (.v (.int .i64 0)), (.v (.int .i64 0)), (.v (.int .i64 0))], none⟩,
      ⟨none, .store 6 (.t 7) (.t 53), none⟩]) (
    .seq (.reg false [⟨some 54, .fad 0 (.t 7), none⟩,
      ⟨some 55, .fad 0 (.t 54), none⟩,
      ⟨some 56, .load false [.s] (.t 55), none⟩,
      ⟨some 8, .mv (.t 56), none⟩]) (
    .dreg [] [(0, ⟨some 57, .mv (.t 3), none⟩),
      (0, ⟨some 58, .mv (.t 8), none⟩),
      (0, ⟨some 59, .bin .add (.c (.v (.string ({ data := #[105, 115, 108, 97, 110, 100, 32] } : ByteArray)))) (.t 58), none⟩),
      (0, ⟨some 60, .bin .add (.t 59) (.c (.v (.string ({ data := #[32, 114, 111, 111, 109, 32] } : ByteArray)))), none⟩),
      (0, ⟨some 61, .fad 0 (.t 7), none⟩),
      (0, ⟨some 62, .fad 3 (.t 61), none⟩),
      (0, ⟨some 63, .load false [(.i .i64)] (.t 62), none⟩),
      (1, ⟨some 64, .call (.f 83) [.rd] false [.c .s] [(.t 63)], none⟩),
      (0, ⟨some 65, .bin .add (.t 60) (.t 64), none⟩),
      (0, ⟨some 66, .bin .add (.t 65) (.c (.v (.string ({ data := #[32, 117, 115, 101, 100, 32] } : ByteArray)))), none⟩),
      (0, ⟨some 67, .load true [(.i .i64), (.i .i64), (.i .i64), (.sl 13), (.sl 6), (.sl 5), (.sl 1)] (.t 1), none⟩),
      (0, ⟨some 68, .mv (.t 8), none⟩),
      (1, ⟨some 69, .call (.f 86) [.rd, .rd] false [.c (.i .i64)] [(.t 67), (.t 68)], none⟩),
      (1, ⟨some 70, .call (.f 83) [.rd] false [.c .s] [(.t 69)], none⟩),
      (0, ⟨some 71, .bin .add (.t 66) (.t 70), none⟩),
      (0, ⟨some 72, .bin .add (.t 71) (.c (.v (.string ({ data := #[32, 103, 111, 110, 101, 32] } : ByteArray)))), none⟩),
      (0, ⟨some 73, .load true [(.i .i64), (.i .i64), (.i .i64), (.sl 13), (.sl 6), (.sl 5), (.sl 1)] (.t 1), none⟩),
      (0, ⟨some 74, .mv (.t 8), none⟩),
      (1, ⟨some 75, .call (.f 87) [.rd, .rd] false [.c (.i .i64)] [(.t 73), (.t 74)], none⟩),
      (1, ⟨some 76, .call (.f 83) [.rd] false [.c .s] [(.t 75)], none⟩),
      (0, ⟨some 77, .bin .add (.t 72) (.t 76), none⟩),
      (0, ⟨some 78, .bin .add (.t 77) (.c (.v (.string ({ data := #[10] } : ByteArray)))), none⟩)] [⟨some 79, .bin .add (.t 57) (.t 78), none⟩,
      ⟨some 3, .mv (.t 79), none⟩])))) (
  .reg false [⟨some 80, .bin .add (.t 50) (.c (.v (.int .i64 1))), none⟩,
    ⟨some 50, .mv (.t 80), none⟩]))))
def e30x1 : Exits := [((.exit 2), [(3, .c .s)])]
def l30x1 (T : Table) (k : Nat) := loopN (evalC ⟨T, []⟩ k b30x1 (Ex × List AV)) [1, 3, 48, 49, 50] e30x1
def a30 : AFun := ⟨[.rd], false, [.t 2], (
  .seq (.reg false [⟨some 1, .box (.t 0), none⟩,
    ⟨some 2, .mv (.c (.v (.string ({ data := #[] } : ByteArray)))), none⟩]) (
  .seq (.reg false [⟨some 3, .mv (.c (.v (.string ({ data := #[] } : ByteArray)))), none⟩]) (
  .seq (.seq (.reg false [⟨some 9, .fad 3 (.t 1), none⟩,
    ⟨some 10, .load false [(.sl 13)] (.t 9), none⟩,
    ⟨some 11, .len false (.t 10), none⟩,
    ⟨some 12, .mv (.c (.v (.int .i64 0))), none⟩]) (
  .block 0 (.loop [1, 3, 10, 11, 12] e30x0 b30x0))) (
  .seq (.seq (.reg false [⟨some 47, .fad 4 (.t 1), none⟩,
    ⟨some 48, .load false [(.sl 6)] (.t 47), none⟩,
    ⟨some 49, .len false (.t 48), none⟩,
    ⟨some 50, .mv (.c (.v (.int .i64 0))), none⟩]) (
  .block 2 (.loop [1, 3, 48, 49, 50] e30x1 b30x1))) (
  .seq (.reg false [⟨some 81, .mv (.t 3), none⟩,
    ⟨some 2, .mv (.t 81), none⟩]) (
  .ret))))))⟩
theorem l30x0s (T : Table) (k n : Nat) (n8 : Int) (n9 : Int) (n10 : Int) (l11 : Rows) (l12 : Rows) (l13 : Rows) (l14 : Rows) (s15 : ByteArray) (l16 : Rows) (n17 : Int) (n18 : Int) : l30x0 T k (n + 1) [(.b [(.v (.int .i64 n8)), (.v (.int .i64 n9)), (.v (.int .i64 n10)), (.fz 13 l11), (.fz 6 l12), (.fz 5 l13), (.fz 1 l14)]), (.v (.string s15)), (.fz 13 l16), (.v (.int .i64 n17)), (.v (.int .i64 n18))] = (
 bif (decide (n18 < n17)) then (
 tst (decide (0 ≤ n18)) (
 look l16 (Int.toNat n18) fun r19 =>
 cI .i64 r19 0 fun n20 =>
 cS r19 1 fun s21 =>
 cI .i64 r19 2 fun n22 =>
 cL 3 r19 3 fun l23 =>
 cL 1 r19 4 fun l24 =>
 cL 2 r19 5 fun l25 =>
 cI .i64 r19 6 fun n26 =>
 cS r19 7 fun s27 =>
 cI .i64 r19 8 fun n28 =>
 cL 1 r19 9 fun l29 =>
 cL 5 r19 10 fun l30 =>
 cL 2 r19 11 fun l31 =>
 cB r19 12 fun b32 =>
 tst (decide (s21.size + ({ data := #[32, 119, 97, 110, 116, 32] } : ByteArray).size ≤ maxLen)) (
 callT T 83 [(.d (.v (.int .i64 n22)))] fun o33 =>
 oD o33.res fun d34 =>
 dS d34 fun s35 =>
 tst (decide ((s21 ++ ({ data := #[32, 119, 97, 110, 116, 32] } : ByteArray)).size + s35.size ≤ maxLen)) (
 tst (decide (((s21 ++ ({ data := #[32, 119, 97, 110, 116, 32] } : ByteArray)) ++ s35).size + ({ data := #[32, 112, 108, 97, 99, 101, 100, 32] } : ByteArray).size ≤ maxLen)) (
 callT T 84 [(.g [(.v (.int .i64 n8)), (.v (.int .i64 n9)), (.v (.int .i64 n10)), (.s 13 l11), (.s 6 l12), (.s 5 l13), (.s 1 l14)]), (.d (.v (.int .i64 n20)))] fun o36 =>
 oD o36.res fun d37 =>
 dI .i64 d37 fun n38 =>
 callT T 83 [(.d (.v (.int .i64 n38)))] fun o39 =>
 oD o39.res fun d40 =>
 dS d40 fun s41 =>
 tst (decide ((((s21 ++ ({ data := #[32, 119, 97, 110, 116, 32] } : ByteArray)) ++ s35) ++ ({ data := #[32, 112, 108, 97, 99, 101, 100, 32] } : ByteArray)).size + s41.size ≤ maxLen)) (
 tst (decide (((((s21 ++ ({ data := #[32, 119, 97, 110, 116, 32] } : ByteArray)) ++ s35) ++ ({ data := #[32, 112, 108, 97, 99, 101, 100, 32] } : ByteArray)) ++ s41).size + ({ data := #[32, 114, 117, 110, 110, 105, 110, 103, 32] } : ByteArray).size ≤ maxLen)) (
 callT T 85 [(.g [(.v (.int .i64 n8)), (.v (.int .i64 n9)), (.v (.int .i64 n10)), (.s 13 l11), (.s 6 l12), (.s 5 l13), (.s 1 l14)]), (.d (.v (.int .i64 n20)))] fun o42 =>
 oD o42.res fun d43 =>
 dI .i64 d43 fun n44 =>
 callT T 83 [(.d (.v (.int .i64 n44)))] fun o45 =>
 oD o45.res fun d46 =>
 dS d46 fun s47 =>
 tst (decide ((((((s21 ++ ({ data := #[32, 119, 97, 110, 116, 32] } : ByteArray)) ++ s35) ++ ({ data := #[32, 112, 108, 97, 99, 101, 100, 32] } : ByteArray)) ++ s41) ++ ({ data := #[32, 114, 117, 110, 110, 105, 110, 103, 32] } : ByteArray)).size + s47.size ≤ maxLen)) (
 tst (decide (s15.size + ((((((s21 ++ ({ data := #[32, 119, 97, 110, 116, 32] } : ByteArray)) ++ s35) ++ ({ data := #[32, 112, 108, 97, 99, 101, 100, 32] } : ByteArray)) ++ s41) ++ ({ data := #[32, 114, 117, 110, 110, 105, 110, 103, 32] } : ByteArray)) ++ s47).size ≤ maxLen)) (
 bif b32 then (
 tst (decide ((s15 ++ ((((((s21 ++ ({ data := #[32, 119, 97, 110, 116, 32] } : ByteArray)) ++ s35) ++ ({ data := #[32, 112, 108, 97, 99, 101, 100, 32] } : ByteArray)) ++ s41) ++ ({ data := #[32, 114, 117, 110, 110, 105, 110, 103, 32] } : ByteArray)) ++ s47)).size + ({ data := #[32, 101, 110, 100, 115] } : ByteArray).size ≤ maxLen)) (
 tst (decide (((s15 ++ ((((((s21 ++ ({ data := #[32, 119, 97, 110, 116, 32] } : ByteArray)) ++ s35) ++ ({ data := #[32, 112, 108, 97, 99, 101, 100, 32] } : ByteArray)) ++ s41) ++ ({ data := #[32, 114, 117, 110, 110, 105, 110, 103, 32] } : ByteArray)) ++ s47)) ++ ({ data := #[32, 101, 110, 100, 115] } : ByteArray)).size + ({ data := #[10] } : ByteArray).size ≤ maxLen)) (
 l30x0 T k n [(.b [(.v (.int .i64 n8)), (.v (.int .i64 n9)), (.v (.int .i64 n10)), (.fz 13 l11), (.fz 6 l12), (.fz 5 l13), (.fz 1 l14)]), (.v (.string (((s15 ++ ((((((s21 ++ ({ data := #[32, 119, 97, 110, 116, 32] } : ByteArray)) ++ s35) ++ ({ data := #[32, 112, 108, 97, 99, 101, 100, 32] } : ByteArray)) ++ s41) ++ ({ data := #[32, 114, 117, 110, 110, 105, 110, 103, 32] } : ByteArray)) ++ s47)) ++ ({ data := #[32, 101, 110, 100, 115] } : ByteArray)) ++ ({ data := #[10] } : ByteArray)))), (.fz 13 l16), (.v (.int .i64 n17)), (.v (.int .i64 (IntKind.wrap .i64 (n18 + 1))))]))) else (
 tst (decide ((s15 ++ ((((((s21 ++ ({ data := #[32, 119, 97, 110, 116, 32] } : ByteArray)) ++ s35) ++ ({ data := #[32, 112, 108, 97, 99, 101, 100, 32] } : ByteArray)) ++ s41) ++ ({ data := #[32, 114, 117, 110, 110, 105, 110, 103, 32] } : ByteArray)) ++ s47)).size + ({ data := #[10] } : ByteArray).size ≤ maxLen)) (
 l30x0 T k n [(.b [(.v (.int .i64 n8)), (.v (.int .i64 n9)), (.v (.int .i64 n10)), (.fz 13 l11), (.fz 6 l12), (.fz 5 l13), (.fz 1 l14)]), (.v (.string ((s15 ++ ((((((s21 ++ ({ data := #[32, 119, 97, 110, 116, 32] } : ByteArray)) ++ s35) ++ ({ data := #[32, 112, 108, 97, 99, 101, 100, 32] } : ByteArray)) ++ s41) ++ ({ data := #[32, 114, 117, 110, 110, 105, 110, 103, 32] } : ByteArray)) ++ s47)) ++ ({ data := #[10] } : ByteArray)))), (.fz 13 l16), (.v (.int .i64 n17)), (.v (.int .i64 (IntKind.wrap .i64 (n18 + 1))))]))))))))))) else (
 some ((.exit 0), [(.b [(.v (.int .i64 n8)), (.v (.int .i64 n9)), (.v (.int .i64 n10)), (.fz 13 l11), (.fz 6 l12), (.fz 5 l13), (.fz 1 l14)]), (.v (.string s15))]))) := by kernel_rfl
theorem l30x1s (T : Table) (k n : Nat) (n68 : Int) (n69 : Int) (n70 : Int) (l71 : Rows) (l72 : Rows) (l73 : Rows) (l74 : Rows) (s75 : ByteArray) (l76 : Rows) (n77 : Int) (n78 : Int) : l30x1 T k (n + 1) [(.b [(.v (.int .i64 n68)), (.v (.int .i64 n69)), (.v (.int .i64 n70)), (.fz 13 l71), (.fz 6 l72), (.fz 5 l73), (.fz 1 l74)]), (.v (.string s75)), (.fz 6 l76), (.v (.int .i64 n77)), (.v (.int .i64 n78))] = (
 bif (decide (n78 < n77)) then (
 tst (decide (0 ≤ n78)) (
 look l76 (Int.toNat n78) fun r79 =>
 cS r79 0 fun s80 =>
 cL 2 r79 1 fun l81 =>
 cL 1 r79 2 fun l82 =>
 cI .i64 r79 3 fun n83 =>
 cI .i64 r79 4 fun n84 =>
 cI .i64 r79 5 fun n85 =>
 tst (decide (({ data := #[105, 115, 108, 97, 110, 100, 32] } : ByteArray).size + s80.size ≤ maxLen)) (
 tst (decide ((({ data := #[105, 115, 108, 97, 110, 100, 32] } : ByteArray) ++ s80).size + ({ data := #[32, 114, 111, 111, 109, 32] } : ByteArray).size ≤ maxLen)) (
 callT T 83 [(.d (.v (.int .i64 n83)))] fun o86 =>
 oD o86.res fun d87 =>
 dS d87 fun s88 =>
 tst (decide (((({ data := #[105, 115, 108, 97, 110, 100, 32] } : ByteArray) ++ s80) ++ ({ data := #[32, 114, 111, 111, 109, 32] } : ByteArray)).size + s88.size ≤ maxLen)) (
 tst (decide ((((({ data := #[105, 115, 108, 97, 110, 100, 32] } : ByteArray) ++ s80) ++ ({ data := #[32, 114, 111, 111, 109, 32] } : ByteArray)) ++ s88).size + ({ data := #[32, 117, 115, 101, 100, 32] } : ByteArray).size ≤ maxLen)) (
 callT T 86 [(.g [(.v (.int .i64 n68)), (.v (.int .i64 n69)), (.v (.int .i64 n70)), (.s 13 l71), (.s 6 l72), (.s 5 l73), (.s 1 l74)]), (.d (.v (.string s80)))] fun o89 =>
 oD o89.res fun d90 =>
 dI .i64 d90 fun n91 =>
 callT T 83 [(.d (.v (.int .i64 n91)))] fun o92 =>
 oD o92.res fun d93 =>
 dS d93 fun s94 =>
 tst (decide (((((({ data := #[105, 115, 108, 97, 110, 100, 32] } : ByteArray) ++ s80) ++ ({ data := #[32, 114, 111, 111, 109, 32] } : ByteArray)) ++ s88) ++ ({ data := #[32, 117, 115, 101, 100, 32] } : ByteArray)).size + s94.size ≤ maxLen)) (
 tst (decide ((((((({ data := #[105, 115, 108, 97, 110, 100, 32] } : ByteArray) ++ s80) ++ ({ data := #[32, 114, 111, 111, 109, 32] } : ByteArray)) ++ s88) ++ ({ data := #[32, 117, 115, 101, 100, 32] } : ByteArray)) ++ s94).size + ({ data := #[32, 103, 111, 110, 101, 32] } : ByteArray).size ≤ maxLen)) (
 callT T 87 [(.g [(.v (.int .i64 n68)), (.v (.int .i64 n69)), (.v (.int .i64 n70)), (.s 13 l71), (.s 6 l72), (.s 5 l73), (.s 1 l74)]), (.d (.v (.string s80)))] fun o95 =>
 oD o95.res fun d96 =>
 dI .i64 d96 fun n97 =>
 callT T 83 [(.d (.v (.int .i64 n97)))] fun o98 =>
 oD o98.res fun d99 =>
 dS d99 fun s100 =>
 tst (decide (((((((({ data := #[105, 115, 108, 97, 110, 100, 32] } : ByteArray) ++ s80) ++ ({ data := #[32, 114, 111, 111, 109, 32] } : ByteArray)) ++ s88) ++ ({ data := #[32, 117, 115, 101, 100, 32] } : ByteArray)) ++ s94) ++ ({ data := #[32, 103, 111, 110, 101, 32] } : ByteArray)).size + s100.size ≤ maxLen)) (
 tst (decide ((((((((({ data := #[105, 115, 108, 97, 110, 100, 32] } : ByteArray) ++ s80) ++ ({ data := #[32, 114, 111, 111, 109, 32] } : ByteArray)) ++ s88) ++ ({ data := #[32, 117, 115, 101, 100, 32] } : ByteArray)) ++ s94) ++ ({ data := #[32, 103, 111, 110, 101, 32] } : ByteArray)) ++ s100).size + ({ data := #[10] } : ByteArray).size ≤ maxLen)) (
 tst (decide (s75.size + ((((((((({ data := #[105, 115, 108, 97, 110, 100, 32] } : ByteArray) ++ s80) ++ ({ data := #[32, 114, 111, 111, 109, 32] } : ByteArray)) ++ s88) ++ ({ data := #[32, 117, 115, 101, 100, 32] } : ByteArray)) ++ s94) ++ ({ data := #[32, 103, 111, 110, 101, 32] } : ByteArray)) ++ s100) ++ ({ data := #[10] } : ByteArray)).size ≤ maxLen)) (
 l30x1 T k n [(.b [(.v (.int .i64 n68)), (.v (.int .i64 n69)), (.v (.int .i64 n70)), (.fz 13 l71), (.fz 6 l72), (.fz 5 l73), (.fz 1 l74)]), (.v (.string (s75 ++ ((((((((({ data := #[105, 115, 108, 97, 110, 100, 32] } : ByteArray) ++ s80) ++ ({ data := #[32, 114, 111, 111, 109, 32] } : ByteArray)) ++ s88) ++ ({ data := #[32, 117, 115, 101, 100, 32] } : ByteArray)) ++ s94) ++ ({ data := #[32, 103, 111, 110, 101, 32] } : ByteArray)) ++ s100) ++ ({ data := #[10] } : ByteArray))))), (.fz 6 l76), (.v (.int .i64 n77)), (.v (.int .i64 (IntKind.wrap .i64 (n78 + 1))))]))))))))))) else (
 some ((.exit 2), [(.v (.string s75))]))) := by kernel_rfl
theorem a30q (T : Table) (k : Nat) (n1 : Int) (n2 : Int) (n3 : Int) (l4 : Rows) (l5 : Rows) (l6 : Rows) (l7 : Rows) : evalF T k a30 [(.g [(.v (.int .i64 n1)), (.v (.int .i64 n2)), (.v (.int .i64 n3)), (.s 13 l4), (.s 6 l5), (.s 5 l6), (.s 1 l7)])] = (
 aft (l30x0 T k k [(.b [(.v (.int .i64 n1)), (.v (.int .i64 n2)), (.v (.int .i64 n3)), (.fz 13 l4), (.fz 6 l5), (.fz 5 l6), (.fz 1 l7)]), (.v (.string ({ data := #[] } : ByteArray))), (.fz 13 l4), (.v (.int .i64 (l4.length : Int))), (.v (.int .i64 0))]) fun e48 ys49 =>
 bif e48.same (.exit 0) then (
 aV ys49 0 fun x50 =>
 aX x50 fun xs51 =>
 aV xs51 0 fun x52 =>
 aI .i64 x52 fun n53 =>
 aV xs51 1 fun x54 =>
 aI .i64 x54 fun n55 =>
 aV xs51 2 fun x56 =>
 aI .i64 x56 fun n57 =>
 aV xs51 3 fun x58 =>
 aL 13 x58 fun l59 =>
 aV xs51 4 fun x60 =>
 aL 6 x60 fun l61 =>
 aV xs51 5 fun x62 =>
 aL 5 x62 fun l63 =>
 aV xs51 6 fun x64 =>
 aL 1 x64 fun l65 =>
 aV ys49 1 fun x66 =>
 aS x66 fun s67 =>
 aft (l30x1 T k k [(.b [(.v (.int .i64 n53)), (.v (.int .i64 n55)), (.v (.int .i64 n57)), (.fz 13 l59), (.fz 6 l61), (.fz 5 l63), (.fz 1 l65)]), (.v (.string s67)), (.fz 6 l61), (.v (.int .i64 (l61.length : Int))), (.v (.int .i64 0))]) fun e101 ys102 =>
 bif e101.same (.exit 2) then (
 aV ys102 0 fun x103 =>
 aS x103 fun s104 =>
 some ⟨(.d (.v (.string s104))), []⟩) else (
 none)) else (
 none)) := by kernel_rfl
/- loop.example/g00119/laws.FnExactSummary -/

def a6 : AFun := ⟨[.rd], false, [.t 2], (
  .seq (.reg false [⟨some 1, .box (.t 0), none⟩,
    ⟨some 2, .mv (.c (.v (.bool false))), none⟩]) (
  .seq (.reg false [⟨some 3, .mv (.c (.v (.int .i64 1048576))), none⟩]) (
  .seq (.reg false [⟨some 7, .load true [(.i .i64), (.i .i64), (.i .i64), (.sl 13), (.sl 6), (.sl 5), (.sl 1)] (.t 1), none⟩,
    ⟨some 8, .mv (.t 3), none⟩,
    ⟨some 9, .call (.f 21) [.rd, .rd] false [.c (.i .i64)] [(.t 7), (.t 8)], none⟩,
    ⟨some 3, .mv (.t 9), none⟩]) (
  .seq (.seq (.reg false [⟨some 10, .mv (.t 3), none⟩,
    ⟨some 11, .bin .lss (.t 10) (.c (.v (.int .i64 0))), none⟩]) (
  .cond (.t 11) (.seq (.reg false [⟨some 2, .mv (.c (.v (.bool true))), none⟩]) (
    .ret)) (.skip))) (
  .seq (.reg false [⟨some 12, .load true [(.i .i64), (.i .i64), (.i .i64), (.sl 13), (.sl 6), (.sl 5), (.sl 1)] (.t 1), none⟩,
    ⟨some 13, .call (.f 23) [.rd] false [.g [(.i .i64), (.i .i64), (.i .i64), (.sl 13), (.sl 6), (.sl 5), (.sl 1)]] [(.t 12)], none⟩,
    ⟨some 14, .call (.f 29) [.rd] false [.c .s] [(.t 13)], none⟩,
    ⟨some 4, .mv (.t 14), none⟩]) (
  .seq (.reg false [⟨some 15, .load true [(.i .i64), (.i .i64), (.i .i64), (.sl 13), (.sl 6), (.sl 5), (.sl 1)] (.t 1), none⟩,
    ⟨some 16, .call (.f 23) [.rd] false [.g [(.i .i64), (.i .i64), (.i .i64), (.sl 13), (.sl 6), (.sl 5), (.sl 1)]] [(.t 15)], none⟩,
    ⟨some 5, .alloc [(.v (.int .i64 0)), (.v (.int .i64 0)), (.v (.int .i64 0)), (.s 13 []), (.s 6 []), (.s 5 []), (.s 1 [])], none⟩,
    ⟨none, .store 7 (.t 5) (.t 16), none⟩]) (
  .seq (.reg false [⟨some 17, .load true [(.i .i64), (.i .i64), (.i .i64), (.sl 13), (.sl 6), (.sl 5), (.sl 1)] (.t 5), none⟩,
    ⟨some 18, .call (.f 30) [.rd] false [.c .s] [(.t 17)], none⟩,
    ⟨some 6, .mv (.t 18), none⟩]) (
  .seq (.seq (.reg false [⟨some 19, .mv (.t 6), none⟩,
    ⟨some 20, .mv (.t 4), none⟩,
    ⟨some 21, .bin .neq (.t 19) (.t 20), none⟩]) (
  .cond (.t 21) (.seq (.reg false [⟨some 2, .mv (.c (.v (.bool false))), none⟩]) (
    .ret)) (.skip))) (
  .seq (.seq (.dreg [] [(0, ⟨some 22, .load true [(.i .i64), (.i .i64), (.i .i64), (.sl 13), (.sl 6), (.sl 5), (.sl 1)] (.t 5), none⟩),
    (0, ⟨some 23, .load true [(.i .i64), (.i .i64), (.i .i64), (.sl 13), (.sl 6), (.sl 5), (.sl 1)] (.t 1), none⟩),
    (1, ⟨some 24, .call (.f 23) [.rd] false [.g [(.i .i64), (.i .i64), (.i .i64), (.sl 13), (.sl 6), (.sl 5), (.sl 1)]] [(.t 23)], none⟩)] [⟨some 25, .call (.f 25) [.rd, .rd] false [.c .b] [(.t 22), (.t 24)], none⟩,
    ⟨some 26, .un .not (.t 25), none⟩]) (
  .cond (.t 26) (.seq (.reg false [⟨some 2, .mv (.c (.v (.bool false))), none⟩]) (
    .ret)) (.skip))) (
  .seq (.reg false [⟨some 2, .mv (.c (.v (.bool true))), none⟩]) (
  .ret)))))))))))⟩

theorem a6q (T : Table) (k : Nat) (n1 : Int) (n2 : Int) (n3 : Int) (l4 : Rows) (l5 : Rows) (l6 : Rows) (l7 : Rows) : evalF T k a6 [(.g [(.v (.int .i64 n1)), (.v (.int .i64 n2)), (.v (.int .i64 n3)), (.s 13 l4), (.s 6 l5), (.s 5 l6), (.s 1 l7)])] = (
 callT T 21 [(.g [(.v (.int .i64 n1)), (.v (.int .i64 n2)), (.v (.int .i64 n3)), (.s 13 l4), (.s 6 l5), (.s 5 l6), (.s 1 l7)]), (.d (.v (.int .i64 1048576)))] fun o8 =>
 oD o8.res fun d9 =>
 dI .i64 d9 fun n10 =>
 bif (decide (n10 < 0)) then (
 some ⟨(.d (.v (.bool true))), []⟩) else (
 callT T 23 [(.g [(.v (.int .i64 n1)), (.v (.int .i64 n2)), (.v (.int .i64 n3)), (.s 13 l4), (.s 6 l5), (.s 5 l6), (.s 1 l7)])] fun o11 =>
 oG o11.res fun r12 =>
 tst (Nat.beq r12.length 7) (
 cI .i64 r12 0 fun n13 =>
 cI .i64 r12 1 fun n14 =>
 cI .i64 r12 2 fun n15 =>
 cL 13 r12 3 fun l16 =>
 cL 6 r12 4 fun l17 =>
 cL 5 r12 5 fun l18 =>
 cL 1 r12 6 fun l19 =>
 callT T 29 [(.g [(.v (.int .i64 n13)), (.v (.int .i64 n14)), (.v (.int .i64 n15)), (.s 13 l16), (.s 6 l17), (.s 5 l18), (.s 1 l19)])] fun o20 =>
 oD o20.res fun d21 =>
 dS d21 fun s22 =>
 callT T 23 [(.g [(.v (.int .i64 n1)), (.v (.int .i64 n2)), (.v (.int .i64 n3)), (.s 13 l4), (.s 6 l5), (.s 5 l6), (.s 1 l7)])] fun o23 =>
 oG o23.res fun r24 =>
 tst (Nat.beq r24.length 7) (
 cI .i64 r24 0 fun n25 =>
 cI .i64 r24 1 fun n26 =>
 cI .i64 r24 2 fun n27 =>
 cL 13 r24 3 fun l28 =>
 cL 6 r24 4 fun l29 =>
 cL 5 r24 5 fun l30 =>
 cL 1 r24 6 fun l31 =>
 callT T 30 [(.g [(.v (.int .i64 n25)), (.v (.int .i64 n26)), (.v (.int .i64 n27)), (.s 13 l28), (.s 6 l29), (.s 5 l30), (.s 1 l31)])] fun o32 =>
 oD o32.res fun d33 =>
 dS d33 fun s34 =>
 bif (!(bytesEq s34 s22)) then (
 some ⟨(.d (.v (.bool false))), []⟩) else (
 callT T 23 [(.g [(.v (.int .i64 n1)), (.v (.int .i64 n2)), (.v (.int .i64 n3)), (.s 13 l4), (.s 6 l5), (.s 5 l6), (.s 1 l7)])] fun o35 =>
 oG o35.res fun r36 =>
 tst (Nat.beq r36.length 7) (
 cI .i64 r36 0 fun n37 =>
 cI .i64 r36 1 fun n38 =>
 cI .i64 r36 2 fun n39 =>
 cL 13 r36 3 fun l40 =>
 cL 6 r36 4 fun l41 =>
 cL 5 r36 5 fun l42 =>
 cL 1 r36 6 fun l43 =>
 callT T 25 [(.g [(.v (.int .i64 n25)), (.v (.int .i64 n26)), (.v (.int .i64 n27)), (.s 13 l28), (.s 6 l29), (.s 5 l30), (.s 1 l31)]), (.g [(.v (.int .i64 n37)), (.v (.int .i64 n38)), (.v (.int .i64 n39)), (.s 13 l40), (.s 6 l41), (.s 5 l42), (.s 1 l43)])] fun o44 =>
 oD o44.res fun d45 =>
 dB d45 fun b46 =>
 bif (!b46) then (
 some ⟨(.d (.v (.bool false))), []⟩) else (
 some ⟨(.d (.v (.bool true))), []⟩))))))) := by kernel_rfl

end Go.Am.Sm
