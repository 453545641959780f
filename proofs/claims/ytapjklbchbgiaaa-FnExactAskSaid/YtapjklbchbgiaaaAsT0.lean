/- What the functions come to, printed: equations by the kernel. Nothing is assumed. -/
import Derived.Test.YtapjklbchbgiaaaAmA
import Derived.KernelRfl
namespace Go.Am.As
set_option linter.unusedVariables false
set_option linter.unusedSimpArgs false
set_option maxRecDepth 8000
/- loop.example/g00119/laws.szStringS -/
def b51x0 : ACode := (
  .seq (.seq (.reg false [⟨some 12, .mv (.t 5), none⟩,
    ⟨some 13, .mv (.t 0), none⟩,
    ⟨some 14, .len false (.t 13), none⟩,
    ⟨some 15, .bin .lss (.t 12) (.t 14), none⟩]) (
  .cond (.t 15) (.skip) (.exit 0))) (
  .seq (.block 1 (.seq (.reg false [⟨some 18, .mv (.t 1), none⟩,
      ⟨some 19, .mv (.t 0), none⟩,
      ⟨some 20, .mv (.t 5), none⟩,
      ⟨some 21, .iad 1 (.t 19) (.t 20), none⟩,
      ⟨some 22, .load false [.s] (.t 21), none⟩,
      ⟨some 23, .len true (.t 22), none⟩,
      ⟨some 24, .bin .sub (.t 18) (.t 23), none⟩,
      ⟨some 1, .mv (.t 24), none⟩]) (
    .seq (.reg false [⟨some 25, .mv (.t 1), none⟩,
      ⟨some 26, .bin .lss (.t 25) (.c (.v (.int .i64 0))), none⟩]) (
    .cond (.t 26) (.seq (.reg false [⟨some 4, .mv (.c (.v (.int .i64 (-1)))), none⟩]) (
      .ret)) (.skip))))) (
  .reg false [⟨some 16, .mv (.t 5), none⟩,
    ⟨some 17, .bin .add (.t 16) (.c (.v (.int .i64 1))), none⟩,
    ⟨some 5, .mv (.t 17), none⟩])))
def e51x0 : Exits := [(.ret, [(4, .c (.i .i64))]), ((.exit 0), [(1, .c (.i .i64))])]
noncomputable def l51x0 (T : Table) (k : Nat) := loopN (evalC ⟨T, []⟩ k b51x0 (Ex × List AV)) [0, 1, 5] e51x0
def a51 : AFun := ⟨[.rd, .rd], false, [.t 4], (
  .seq (.reg false [⟨some 4, .mv (.c (.v (.int .i64 0))), none⟩]) (
  .seq (.reg false [⟨some 6, .mv (.t 1), none⟩,
    ⟨some 7, .mv (.t 0), none⟩,
    ⟨some 8, .len false (.t 7), none⟩,
    ⟨some 9, .bin .sub (.t 6) (.t 8), none⟩,
    ⟨some 1, .mv (.t 9), none⟩]) (
  .seq (.seq (.reg false [⟨some 10, .mv (.t 1), none⟩,
    ⟨some 11, .bin .lss (.t 10) (.c (.v (.int .i64 0))), none⟩]) (
  .cond (.t 11) (.seq (.reg false [⟨some 4, .mv (.c (.v (.int .i64 (-1)))), none⟩]) (
    .ret)) (.skip))) (
  .seq (.seq (.reg false [⟨some 5, .mv (.c (.v (.int .i64 0))), none⟩]) (
  .block 0 (.loop [0, 1, 5] e51x0 b51x0))) (
  .seq (.reg false [⟨some 27, .mv (.t 1), none⟩,
    ⟨some 4, .mv (.t 27), none⟩]) (
  .ret))))))⟩
theorem l51x0s (T : Table) (k n : Nat) (l3 : Rows) (n4 : Int) (n5 : Int) : l51x0 T k (n + 1) [(.fz 1 l3), (.v (.int .i64 n4)), (.v (.int .i64 n5))] = (
 bif (decide (n5 < (l3.length : Int))) then (
 tst (decide (0 ≤ n5)) (
 look l3 (Int.toNat n5) fun r6 =>
 cS r6 0 fun s7 =>
 bif (decide ((IntKind.wrap .i64 (n4 - (s7.size : Int))) < 0)) then (
 some (.ret, [(.v (.int .i64 (-1)))])) else (
 l51x0 T k n [(.fz 1 l3), (.v (.int .i64 (IntKind.wrap .i64 (n4 - (s7.size : Int))))), (.v (.int .i64 (IntKind.wrap .i64 (n5 + 1))))]))) else (
 some ((.exit 0), [(.v (.int .i64 n4))]))) := by kernel_rfl
theorem a51q (T : Table) (k : Nat) (l1 : Rows) (n2 : Int) : evalF T k a51 [(.d (.s 1 l1)), (.d (.v (.int .i64 n2)))] = (
 bif (decide ((IntKind.wrap .i64 (n2 - (l1.length : Int))) < 0)) then (
 some ⟨(.d (.v (.int .i64 (-1)))), []⟩) else (
 aft (l51x0 T k k [(.fz 1 l1), (.v (.int .i64 (IntKind.wrap .i64 (n2 - (l1.length : Int))))), (.v (.int .i64 0))]) fun e8 ys9 =>
 bif e8.same .ret then (
 aV ys9 0 fun x10 =>
 aI .i64 x10 fun n11 =>
 some ⟨(.d (.v (.int .i64 n11))), []⟩) else (
 bif e8.same (.exit 0) then (
 aV ys9 0 fun x12 =>
 aI .i64 x12 fun n13 =>
 some ⟨(.d (.v (.int .i64 n13))), []⟩) else (
 none)))) := by kernel_rfl
/- loop.example/g00119/laws.szValueS -/
def b144x0 : ACode := (
  .seq (.seq (.reg false [⟨some 12, .mv (.t 5), none⟩,
    ⟨some 13, .mv (.t 0), none⟩,
    ⟨some 14, .len false (.t 13), none⟩,
    ⟨some 15, .bin .lss (.t 12) (.t 14), none⟩]) (
  .cond (.t 15) (.skip) (.exit 0))) (
  .seq (.block 1 (.seq (.reg false [⟨some 18, .mv (.t 0), none⟩,
      ⟨some 19, .mv (.t 5), none⟩,
      ⟨some 20, .iad 5 (.t 18) (.t 19), none⟩,
      ⟨some 21, .load true [(.i .i64), .s, (.i .i64), (.sl 1), (.sl 5)] (.t 20), none⟩,
      ⟨some 22, .mv (.t 1), none⟩,
      ⟨some 23, .call (.f 121) [.rd, .rd] false [.c (.i .i64)] [(.t 21), (.t 22)], none⟩,
      ⟨some 1, .mv (.t 23), none⟩]) (
    .seq (.reg false [⟨some 24, .mv (.t 1), none⟩,
      ⟨some 25, .bin .lss (.t 24) (.c (.v (.int .i64 0))), none⟩]) (
    .cond (.t 25) (.seq (.reg false [⟨some 4, .mv (.c (.v (.int .i64 (-1)))), none⟩]) (
      .ret)) (.skip))))) (
  .reg false [⟨some 16, .mv (.t 5), none⟩,
    ⟨some 17, .bin .add (.t 16) (.c (.v (.int .i64 1))), none⟩,
    ⟨some 5, .mv (.t 17), none⟩])))
def e144x0 : Exits := [(.ret, [(4, .c (.i .i64))]), ((.exit 0), [(1, .c (.i .i64))])]
noncomputable def l144x0 (T : Table) (k : Nat) := loopN (evalC ⟨T, []⟩ k b144x0 (Ex × List AV)) [0, 1, 5] e144x0
def a144 : AFun := ⟨[.rd, .rd], false, [.t 4], (
  .seq (.reg false [⟨some 4, .mv (.c (.v (.int .i64 0))), none⟩]) (
  .seq (.reg false [⟨some 6, .mv (.t 1), none⟩,
    ⟨some 7, .mv (.t 0), none⟩,
    ⟨some 8, .len false (.t 7), none⟩,
    ⟨some 9, .bin .sub (.t 6) (.t 8), none⟩,
    ⟨some 1, .mv (.t 9), none⟩]) (
  .seq (.seq (.reg false [⟨some 10, .mv (.t 1), none⟩,
    ⟨some 11, .bin .lss (.t 10) (.c (.v (.int .i64 0))), none⟩]) (
  .cond (.t 11) (.seq (.reg false [⟨some 4, .mv (.c (.v (.int .i64 (-1)))), none⟩]) (
    .ret)) (.skip))) (
  .seq (.seq (.reg false [⟨some 5, .mv (.c (.v (.int .i64 0))), none⟩]) (
  .block 0 (.loop [0, 1, 5] e144x0 b144x0))) (
  .seq (.reg false [⟨some 26, .mv (.t 1), none⟩,
    ⟨some 4, .mv (.t 26), none⟩]) (
  .ret))))))⟩
theorem l144x0s (T : Table) (k n : Nat) (l3 : Rows) (n4 : Int) (n5 : Int) : l144x0 T k (n + 1) [(.fz 5 l3), (.v (.int .i64 n4)), (.v (.int .i64 n5))] = (
 bif (decide (n5 < (l3.length : Int))) then (
 tst (decide (0 ≤ n5)) (
 look l3 (Int.toNat n5) fun r6 =>
 cI .i64 r6 0 fun n7 =>
 cS r6 1 fun s8 =>
 cI .i64 r6 2 fun n9 =>
 cL 1 r6 3 fun l10 =>
 cL 5 r6 4 fun l11 =>
 callT T 121 [(.g [(.v (.int .i64 n7)), (.v (.string s8)), (.v (.int .i64 n9)), (.s 1 l10), (.s 5 l11)]), (.d (.v (.int .i64 n4)))] fun o12 =>
 oD o12.res fun d13 =>
 dI .i64 d13 fun n14 =>
 bif (decide (n14 < 0)) then (
 some (.ret, [(.v (.int .i64 (-1)))])) else (
 l144x0 T k n [(.fz 5 l3), (.v (.int .i64 n14)), (.v (.int .i64 (IntKind.wrap .i64 (n5 + 1))))]))) else (
 some ((.exit 0), [(.v (.int .i64 n4))]))) := by kernel_rfl
theorem a144q (T : Table) (k : Nat) (l1 : Rows) (n2 : Int) : evalF T k a144 [(.d (.s 5 l1)), (.d (.v (.int .i64 n2)))] = (
 bif (decide ((IntKind.wrap .i64 (n2 - (l1.length : Int))) < 0)) then (
 some ⟨(.d (.v (.int .i64 (-1)))), []⟩) else (
 aft (l144x0 T k k [(.fz 5 l1), (.v (.int .i64 (IntKind.wrap .i64 (n2 - (l1.length : Int))))), (.v (.int .i64 0))]) fun e15 ys16 =>
 bif e15.same .ret then (
 aV ys16 0 fun x17 =>
 aI .i64 x17 fun n18 =>
 some ⟨(.d (.v (.int .i64 n18))), []⟩) else (
 bif e15.same (.exit 0) then (
 aV ys16 0 fun x19 =>
 aI .i64 x19 fun n20 =>
 some ⟨(.d (.v (.int .i64 n20))), []⟩) else (
 none)))) := by kernel_rfl
/- loop.example/g00119/laws.szValue -/

def a121 : AFun := ⟨[.rd, .rd], false, [.t 4], (
  .seq (.reg false [⟨some 2, .box (.t 0), none⟩,
    ⟨some 4, .mv (.c (.v (.int .i64 0))), none⟩]) (
  .seq (.reg false [⟨some 5, .mv (.t 1), none⟩,
    ⟨some 6, .fad 1 (.t 2), none⟩,
    ⟨some 7, .load false [.s] (.t 6), none⟩,
    ⟨some 8, .len true (.t 7), none⟩,
    ⟨some 9, .bin .sub (.t 5) (.t 8), none⟩,
    ⟨some 1, .mv (.t 9), none⟩]) (
  .seq (.seq (.reg false [⟨some 10, .mv (.t 1), none⟩,
    ⟨some 11, .bin .lss (.t 10) (.c (.v (.int .i64 0))), none⟩]) (
  .cond (.t 11) (.seq (.reg false [⟨some 4, .mv (.c (.v (.int .i64 (-1)))), none⟩]) (
    .ret)) (.skip))) (
  .seq (.reg false [⟨some 12, .fad 3 (.t 2), none⟩,
    ⟨some 13, .load false [(.sl 1)] (.t 12), none⟩,
    ⟨some 14, .mv (.t 1), none⟩,
    ⟨some 15, .call (.f 51) [.rd, .rd] false [.c (.i .i64)] [(.t 13), (.t 14)], none⟩,
    ⟨some 1, .mv (.t 15), none⟩]) (
  .seq (.seq (.reg false [⟨some 16, .mv (.t 1), none⟩,
    ⟨some 17, .bin .lss (.t 16) (.c (.v (.int .i64 0))), none⟩]) (
  .cond (.t 17) (.seq (.reg false [⟨some 4, .mv (.c (.v (.int .i64 (-1)))), none⟩]) (
    .ret)) (.skip))) (
  .seq (.reg false [⟨some 18, .fad 4 (.t 2), none⟩,
    ⟨some 19, .load false [(.sl 5)] (.t 18), none⟩,
    ⟨some 20, .mv (.t 1), none⟩,
    ⟨some 21, .call (.f 144) [.rd, .rd] false [.c (.i .i64)] [(.t 19), (.t 20)], none⟩,
    ⟨some 1, .mv (.t 21), none⟩]) (
  .seq (.seq (.reg false [⟨some 22, .mv (.t 1), none⟩,
    ⟨some 23, .bin .lss (.t 22) (.c (.v (.int .i64 0))), none⟩]) (
  .cond (.t 23) (.seq (.reg false [⟨some 4, .mv (.c (.v (.int .i64 (-1)))), none⟩]) (
    .ret)) (.skip))) (
  .seq (.reg false [⟨some 24, .mv (.t 1), none⟩,
    ⟨some 4, .mv (.t 24), none⟩]) (
  .ret)))))))))⟩

theorem a121q (T : Table) (k : Nat) (n1 : Int) (s2 : ByteArray) (n3 : Int) (l4 : Rows) (l5 : Rows) (n6 : Int) : evalF T k a121 [(.g [(.v (.int .i64 n1)), (.v (.string s2)), (.v (.int .i64 n3)), (.s 1 l4), (.s 5 l5)]), (.d (.v (.int .i64 n6)))] = (
 bif (decide ((IntKind.wrap .i64 (n6 - (s2.size : Int))) < 0)) then (
 some ⟨(.d (.v (.int .i64 (-1)))), []⟩) else (
 callT T 51 [(.d (.s 1 l4)), (.d (.v (.int .i64 (IntKind.wrap .i64 (n6 - (s2.size : Int))))))] fun o7 =>
 oD o7.res fun d8 =>
 dI .i64 d8 fun n9 =>
 bif (decide (n9 < 0)) then (
 some ⟨(.d (.v (.int .i64 (-1)))), []⟩) else (
 callT T 144 [(.d (.s 5 l5)), (.d (.v (.int .i64 n9)))] fun o10 =>
 oD o10.res fun d11 =>
 dI .i64 d11 fun n12 =>
 bif (decide (n12 < 0)) then (
 some ⟨(.d (.v (.int .i64 (-1)))), []⟩) else (
 some ⟨(.d (.v (.int .i64 n12))), []⟩)))) := by kernel_rfl
/- loop.example/g00119/laws.szWork -/

def a76 : AFun := ⟨[.rd, .rd], false, [.t 4], (
  .seq (.reg false [⟨some 2, .box (.t 0), none⟩,
    ⟨some 4, .mv (.c (.v (.int .i64 0))), none⟩]) (
  .seq (.reg false [⟨some 5, .fad 2 (.t 2), none⟩,
    ⟨some 6, .load true [(.i .i64), .s, (.i .i64), (.sl 1), (.sl 5)] (.t 5), none⟩,
    ⟨some 7, .mv (.t 1), none⟩,
    ⟨some 8, .call (.f 121) [.rd, .rd] false [.c (.i .i64)] [(.t 6), (.t 7)], none⟩,
    ⟨some 1, .mv (.t 8), none⟩]) (
  .seq (.seq (.reg false [⟨some 9, .mv (.t 1), none⟩,
    ⟨some 10, .bin .lss (.t 9) (.c (.v (.int .i64 0))), none⟩]) (
  .cond (.t 10) (.seq (.reg false [⟨some 4, .mv (.c (.v (.int .i64 (-1)))), none⟩]) (
    .ret)) (.skip))) (
  .seq (.reg false [⟨some 11, .mv (.t 1), none⟩,
    ⟨some 4, .mv (.t 11), none⟩]) (
  .ret)))))⟩

theorem a76q (T : Table) (k : Nat) (n1 : Int) (n2 : Int) (n3 : Int) (s4 : ByteArray) (n5 : Int) (l6 : Rows) (l7 : Rows) (n8 : Int) : evalF T k a76 [(.g [(.v (.int .i64 n1)), (.v (.int .i64 n2)), (.v (.int .i64 n3)), (.v (.string s4)), (.v (.int .i64 n5)), (.s 1 l6), (.s 5 l7)]), (.d (.v (.int .i64 n8)))] = (
 callT T 121 [(.g [(.v (.int .i64 n3)), (.v (.string s4)), (.v (.int .i64 n5)), (.s 1 l6), (.s 5 l7)]), (.d (.v (.int .i64 n8)))] fun o9 =>
 oD o9.res fun d10 =>
 dI .i64 d10 fun n11 =>
 bif (decide (n11 < 0)) then (
 some ⟨(.d (.v (.int .i64 (-1)))), []⟩) else (
 some ⟨(.d (.v (.int .i64 n11))), []⟩)) := by kernel_rfl
/- loop.example/g00119/laws.szWorkS -/
def b32x0 : ACode := (
  .seq (.seq (.reg false [⟨some 12, .mv (.t 5), none⟩,
    ⟨some 13, .mv (.t 0), none⟩,
    ⟨some 14, .len false (.t 13), none⟩,
    ⟨some 15, .bin .lss (.t 12) (.t 14), none⟩]) (
  .cond (.t 15) (.skip) (.exit 0))) (
  .seq (.block 1 (.seq (.reg false [⟨some 18, .mv (.t 0), none⟩,
      ⟨some 19, .mv (.t 5), none⟩,
      ⟨some 20, .iad 7 (.t 18) (.t 19), none⟩,
      ⟨some 21, .load true [(.i .i64), (.i .i64), (.i .i64), .s, (.i .i64), (.sl 1), (.sl 5)] (.t 20), none⟩,
      ⟨some 22, .mv (.t 1), none⟩,
      ⟨some 23, .call (.f 76) [.rd, .rd] false [.c (.i .i64)] [(.t 21), (.t 22)], none⟩,
      ⟨some 1, .mv (.t 23), none⟩]) (
    .seq (.reg false [⟨some 24, .mv (.t 1), none⟩,
      ⟨some 25, .bin .lss (.t 24) (.c (.v (.int .i64 0))), none⟩]) (
    .cond (.t 25) (.seq (.reg false [⟨some 4, .mv (.c (.v (.int .i64 (-1)))), none⟩]) (
      .ret)) (.skip))))) (
  .reg false [⟨some 16, .mv (.t 5), none⟩,
    ⟨some 17, .bin .add (.t 16) (.c (.v (.int .i64 1))), none⟩,
    ⟨some 5, .mv (.t 17), none⟩])))
def e32x0 : Exits := [(.ret, [(4, .c (.i .i64))]), ((.exit 0), [(1, .c (.i .i64))])]
noncomputable def l32x0 (T : Table) (k : Nat) := loopN (evalC ⟨T, []⟩ k b32x0 (Ex × List AV)) [0, 1, 5] e32x0
def a32 : AFun := ⟨[.rd, .rd], false, [.t 4], (
  .seq (.reg false [⟨some 4, .mv (.c (.v (.int .i64 0))), none⟩]) (
  .seq (.reg false [⟨some 6, .mv (.t 1), none⟩,
    ⟨some 7, .mv (.t 0), none⟩,
    ⟨some 8, .len false (.t 7), none⟩,
    ⟨some 9, .bin .sub (.t 6) (.t 8), none⟩,
    ⟨some 1, .mv (.t 9), none⟩]) (
  .seq (.seq (.reg false [⟨some 10, .mv (.t 1), none⟩,
    ⟨some 11, .bin .lss (.t 10) (.c (.v (.int .i64 0))), none⟩]) (
  .cond (.t 11) (.seq (.reg false [⟨some 4, .mv (.c (.v (.int .i64 (-1)))), none⟩]) (
    .ret)) (.skip))) (
  .seq (.seq (.reg false [⟨some 5, .mv (.c (.v (.int .i64 0))), none⟩]) (
  .block 0 (.loop [0, 1, 5] e32x0 b32x0))) (
  .seq (.reg false [⟨some 26, .mv (.t 1), none⟩,
    ⟨some 4, .mv (.t 26), none⟩]) (
  .ret))))))⟩
theorem l32x0s (T : Table) (k n : Nat) (l3 : Rows) (n4 : Int) (n5 : Int) : l32x0 T k (n + 1) [(.fz 7 l3), (.v (.int .i64 n4)), (.v (.int .i64 n5))] = (
 bif (decide (n5 < (l3.length : Int))) then (
 tst (decide (0 ≤ n5)) (
 look l3 (Int.toNat n5) fun r6 =>
 cI .i64 r6 0 fun n7 =>
 cI .i64 r6 1 fun n8 =>
 cI .i64 r6 2 fun n9 =>
 cS r6 3 fun s10 =>
 cI .i64 r6 4 fun n11 =>
 cL 1 r6 5 fun l12 =>
 cL 5 r6 6 fun l13 =>
 callT T 76 [(.g [(.v (.int .i64 n7)), (.v (.int .i64 n8)), (.v (.int .i64 n9)), (.v (.string s10)), (.v (.int .i64 n11)), (.s 1 l12), (.s 5 l13)]), (.d (.v (.int .i64 n4)))] fun o14 =>
 oD o14.res fun d15 =>
 dI .i64 d15 fun n16 =>
 bif (decide (n16 < 0)) then (
 some (.ret, [(.v (.int .i64 (-1)))])) else (
 l32x0 T k n [(.fz 7 l3), (.v (.int .i64 n16)), (.v (.int .i64 (IntKind.wrap .i64 (n5 + 1))))]))) else (
 some ((.exit 0), [(.v (.int .i64 n4))]))) := by kernel_rfl
theorem a32q (T : Table) (k : Nat) (l1 : Rows) (n2 : Int) : evalF T k a32 [(.d (.s 7 l1)), (.d (.v (.int .i64 n2)))] = (
 bif (decide ((IntKind.wrap .i64 (n2 - (l1.length : Int))) < 0)) then (
 some ⟨(.d (.v (.int .i64 (-1)))), []⟩) else (
 aft (l32x0 T k k [(.fz 7 l1), (.v (.int .i64 (IntKind.wrap .i64 (n2 - (l1.length : Int))))), (.v (.int .i64 0))]) fun e17 ys18 =>
 bif e17.same .ret then (
 aV ys18 0 fun x19 =>
 aI .i64 x19 fun n20 =>
 some ⟨(.d (.v (.int .i64 n20))), []⟩) else (
 bif e17.same (.exit 0) then (
 aV ys18 0 fun x21 =>
 aI .i64 x21 fun n22 =>
 some ⟨(.d (.v (.int .i64 n22))), []⟩) else (
 none)))) := by kernel_rfl
/- loop.example/g00119/laws.szRunS -/

def a33 : AFun := ⟨[.rd, .rd], false, [.t 4], (
  .seq (.reg false [⟨some 4, .mv (.c (.v (.int .i64 0))), none⟩]) (
  .seq (.reg false [⟨some 5, .mv (.t 1), none⟩,
    ⟨some 6, .mv (.t 0), none⟩,
    ⟨some 7, .len false (.t 6), none⟩,
    ⟨some 8, .bin .sub (.t 5) (.t 7), none⟩,
    ⟨some 1, .mv (.t 8), none⟩]) (
  .seq (.seq (.reg false [⟨some 9, .mv (.t 1), none⟩,
    ⟨some 10, .bin .lss (.t 9) (.c (.v (.int .i64 0))), none⟩]) (
  .cond (.t 10) (.seq (.reg false [⟨some 4, .mv (.c (.v (.int .i64 (-1)))), none⟩]) (
    .ret)) (.skip))) (
  .seq (.reg false [⟨some 11, .mv (.t 1), none⟩,
    ⟨some 4, .mv (.t 11), none⟩]) (
  .ret)))))⟩

theorem a33q (T : Table) (k : Nat) (l1 : Rows) (n2 : Int) : evalF T k a33 [(.d (.s 2 l1)), (.d (.v (.int .i64 n2)))] = (
 bif (decide ((IntKind.wrap .i64 (n2 - (l1.length : Int))) < 0)) then (
 some ⟨(.d (.v (.int .i64 (-1)))), []⟩) else (
 some ⟨(.d (.v (.int .i64 (IntKind.wrap .i64 (n2 - (l1.length : Int)))))), []⟩)) := by kernel_rfl
/- loop.example/g00119/laws.szIsle -/

def a7 : AFun := ⟨[.rd, .rd], false, [.t 4], (
  .seq (.reg false [⟨some 2, .box (.t 0), none⟩,
    ⟨some 4, .mv (.c (.v (.int .i64 0))), none⟩]) (
  .seq (.reg false [⟨some 5, .mv (.t 1), none⟩,
    ⟨some 6, .fad 0 (.t 2), none⟩,
    ⟨some 7, .load false [.s] (.t 6), none⟩,
    ⟨some 8, .len true (.t 7), none⟩,
    ⟨some 9, .bin .sub (.t 5) (.t 8), none⟩,
    ⟨some 1, .mv (.t 9), none⟩]) (
  .seq (.seq (.reg false [⟨some 10, .mv (.t 1), none⟩,
    ⟨some 11, .bin .lss (.t 10) (.c (.v (.int .i64 0))), none⟩]) (
  .cond (.t 11) (.seq (.reg false [⟨some 4, .mv (.c (.v (.int .i64 (-1)))), none⟩]) (
    .ret)) (.skip))) (
  .seq (.reg false [⟨some 12, .fad 3 (.t 2), none⟩,
    ⟨some 13, .load false [(.sl 7)] (.t 12), none⟩,
    ⟨some 14, .mv (.t 1), none⟩,
    ⟨some 15, .call (.f 32) [.rd, .rd] false [.c (.i .i64)] [(.t 13), (.t 14)], none⟩,
    ⟨some 1, .mv (.t 15), none⟩]) (
  .seq (.seq (.reg false [⟨some 16, .mv (.t 1), none⟩,
    ⟨some 17, .bin .lss (.t 16) (.c (.v (.int .i64 0))), none⟩]) (
  .cond (.t 17) (.seq (.reg false [⟨some 4, .mv (.c (.v (.int .i64 (-1)))), none⟩]) (
    .ret)) (.skip))) (
  .seq (.reg false [⟨some 18, .fad 4 (.t 2), none⟩,
    ⟨some 19, .load false [(.sl 2)] (.t 18), none⟩,
    ⟨some 20, .mv (.t 1), none⟩,
    ⟨some 21, .call (.f 33) [.rd, .rd] false [.c (.i .i64)] [(.t 19), (.t 20)], none⟩,
    ⟨some 1, .mv (.t 21), none⟩]) (
  .seq (.seq (.reg false [⟨some 22, .mv (.t 1), none⟩,
    ⟨some 23, .bin .lss (.t 22) (.c (.v (.int .i64 0))), none⟩]) (
  .cond (.t 23) (.seq (.reg false [⟨some 4, .mv (.c (.v (.int .i64 (-1)))), none⟩]) (
    .ret)) (.skip))) (
  .seq (.reg false [⟨some 24, .mv (.t 1), none⟩,
    ⟨some 4, .mv (.t 24), none⟩]) (
  .ret)))))))))⟩

theorem a7q (T : Table) (k : Nat) (s1 : ByteArray) (n2 : Int) (n3 : Int) (l4 : Rows) (l5 : Rows) (n6 : Int) : evalF T k a7 [(.g [(.v (.string s1)), (.v (.int .i64 n2)), (.v (.int .i64 n3)), (.s 7 l4), (.s 2 l5)]), (.d (.v (.int .i64 n6)))] = (
 bif (decide ((IntKind.wrap .i64 (n6 - (s1.size : Int))) < 0)) then (
 some ⟨(.d (.v (.int .i64 (-1)))), []⟩) else (
 callT T 32 [(.d (.s 7 l4)), (.d (.v (.int .i64 (IntKind.wrap .i64 (n6 - (s1.size : Int))))))] fun o7 =>
 oD o7.res fun d8 =>
 dI .i64 d8 fun n9 =>
 bif (decide (n9 < 0)) then (
 some ⟨(.d (.v (.int .i64 (-1)))), []⟩) else (
 callT T 33 [(.d (.s 2 l5)), (.d (.v (.int .i64 n9)))] fun o10 =>
 oD o10.res fun d11 =>
 dI .i64 d11 fun n12 =>
 bif (decide (n12 < 0)) then (
 some ⟨(.d (.v (.int .i64 (-1)))), []⟩) else (
 some ⟨(.d (.v (.int .i64 n12))), []⟩)))) := by kernel_rfl
/- loop.example/g00119/laws.toStringS -/
def b56x0 : ACode := (
  .seq (.seq (.reg false [⟨some 8, .mv (.t 4), none⟩,
    ⟨some 9, .mv (.t 0), none⟩,
    ⟨some 10, .len false (.t 9), none⟩,
    ⟨some 11, .bin .lss (.t 8) (.t 10), none⟩]) (
  .cond (.t 11) (.skip) (.exit 0))) (
  .seq (.block 1 (.reg false [⟨some 14, .mv (.t 3), none⟩,
      ⟨some 15, .mv (.t 4), none⟩,
      ⟨some 16, .mv (.t 0), none⟩,
      ⟨some 17, .mv (.t 4), none⟩,
      ⟨some 18, .iad 1 (.t 16) (.t 17), none⟩,
      ⟨some 19, .load false [.s] (.t 18), none⟩,
      ⟨some 20, .iad 1 (.t 14) (.t 15), none⟩,
      ⟨none, .store 1 (.t 20) (.t 19), none⟩])) (
  .reg false [⟨some 12, .mv (.t 4), none⟩,
    ⟨some 13, .bin .add (.t 12) (.c (.v (.int .i64 1))), none⟩,
    ⟨some 4, .mv (.t 13), none⟩])))
def e56x0 : Exits := [((.exit 0), [(3, .o 1)])]
noncomputable def l56x0 (T : Table) (k : Nat) := loopN (evalC ⟨T, []⟩ k b56x0 (Ex × List AV)) [0, 3, 4] e56x0
def a56 : AFun := ⟨[.rd], false, [.t 2], (
  .seq (.reg false [⟨some 2, .mv (.c (.o 1 [])), none⟩]) (
  .seq (.reg false [⟨some 5, .mv (.t 0), none⟩,
    ⟨some 6, .len false (.t 5), none⟩,
    ⟨some 7, .mk [(.v (.string ByteArray.empty))] 16 (.t 6) (.t 6), none⟩,
    ⟨some 3, .mv (.t 7), none⟩]) (
  .seq (.seq (.reg false [⟨some 4, .mv (.c (.v (.int .i64 0))), none⟩]) (
  .block 0 (.loop [0, 3, 4] e56x0 b56x0))) (
  .seq (.reg false [⟨some 21, .mv (.t 3), none⟩,
    ⟨some 2, .mv (.t 21), none⟩]) (
  .ret)))))⟩
theorem l56x0s (T : Table) (k n : Nat) (l2 : Rows) (l3 : Rows) (n4 : Int) : l56x0 T k (n + 1) [(.fz 1 l2), (.o 1 l3), (.v (.int .i64 n4))] = (
 bif (decide (n4 < (l2.length : Int))) then (
 tst (decide (0 ≤ n4)) (
 look l2 (Int.toNat n4) fun r5 =>
 cS r5 0 fun s6 =>
 tst (decide (0 ≤ n4) && decide (Int.toNat n4 < l3.length)) (
 l56x0 T k n [(.fz 1 l2), (.o 1 (setD l3 (Int.toNat n4) 0 (.v (.string s6)))), (.v (.int .i64 (IntKind.wrap .i64 (n4 + 1))))]))) else (
 some ((.exit 0), [(.o 1 l3)]))) := by kernel_rfl
theorem a56q (T : Table) (k : Nat) (l1 : Rows) : evalF T k a56 [(.d (.s 1 l1))] = (
 tst (cutOk (l1.length : Int) (l1.length : Int) maxLen && decide (Int.toNat (l1.length : Int) * 16 ≤ maxBytes)) (
 aft (l56x0 T k k [(.fz 1 l1), (.o 1 (List.replicate (Int.toNat (l1.length : Int)) [(.v (.string ByteArray.empty))])), (.v (.int .i64 0))]) fun e7 ys8 =>
 bif e7.same (.exit 0) then (
 aV ys8 0 fun x9 =>
 aO 1 x9 fun l10 =>
 some ⟨(.d (.s 1 l10)), []⟩) else (
 none))) := by kernel_rfl
/- loop.example/g00119/laws.toValueS -/
def b146x0 : ACode := (
  .seq (.seq (.reg false [⟨some 8, .mv (.t 4), none⟩,
    ⟨some 9, .mv (.t 0), none⟩,
    ⟨some 10, .len false (.t 9), none⟩,
    ⟨some 11, .bin .lss (.t 8) (.t 10), none⟩]) (
  .cond (.t 11) (.skip) (.exit 0))) (
  .seq (.block 1 (.reg false [⟨some 14, .mv (.t 3), none⟩,
      ⟨some 15, .mv (.t 4), none⟩,
      ⟨some 16, .mv (.t 0), none⟩,
      ⟨some 17, .mv (.t 4), none⟩,
      ⟨some 18, .iad 5 (.t 16) (.t 17), none⟩,
      ⟨some 19, .load true [(.i .i64), .s, (.i .i64), (.sl 1), (.sl 5)] (.t 18), none⟩,
      ⟨some 20, .call (.f 124) [.rd] false [.g [(.i .i64), .s, (.i .i64), (.sl 1), (.sl 5)]] [(.t 19)], none⟩,
      ⟨some 21, .iad 5 (.t 14) (.t 15), none⟩,
      ⟨none, .store 5 (.t 21) (.t 20), none⟩])) (
  .reg false [⟨some 12, .mv (.t 4), none⟩,
    ⟨some 13, .bin .add (.t 12) (.c (.v (.int .i64 1))), none⟩,
    ⟨some 4, .mv (.t 13), none⟩])))
def e146x0 : Exits := [((.exit 0), [(3, .o 5)])]
noncomputable def l146x0 (T : Table) (k : Nat) := loopN (evalC ⟨T, []⟩ k b146x0 (Ex × List AV)) [0, 3, 4] e146x0
def a146 : AFun := ⟨[.rd], false, [.t 2], (
  .seq (.reg false [⟨some 2, .mv (.c (.o 5 [])), none⟩]) (
  .seq (.reg false [⟨some 5, .mv (.t 0), none⟩,
    ⟨some 6, .len false (.t 5), none⟩,
    ⟨some 7, .mk [(.v (.int .i64 0)), (.v (.string ByteArray.empty)), (.v (.int .i64 0)), (.s 1 []), (.s 5 [])] 80 (.t 6) (.t 6), none⟩,
    ⟨some 3, .mv (.t 7), none⟩]) (
  .seq (.seq (.reg false [⟨some 4, .mv (.c (.v (.int .i64 0))), none⟩]) (
  .block 0 (.loop [0, 3, 4] e146x0 b146x0))) (
  .seq (.reg false [⟨some 22, .mv (.t 3), none⟩,
    ⟨some 2, .mv (.t 22), none⟩]) (
  .ret)))))⟩
theorem l146x0s (T : Table) (k n : Nat) (l2 : Rows) (l3 : Rows) (n4 : Int) : l146x0 T k (n + 1) [(.fz 5 l2), (.o 5 l3), (.v (.int .i64 n4))] = (
 bif (decide (n4 < (l2.length : Int))) then (
 tst (decide (0 ≤ n4)) (
 look l2 (Int.toNat n4) fun r5 =>
 cI .i64 r5 0 fun n6 =>
 cS r5 1 fun s7 =>
 cI .i64 r5 2 fun n8 =>
 cL 1 r5 3 fun l9 =>
 cL 5 r5 4 fun l10 =>
 callT T 124 [(.g [(.v (.int .i64 n6)), (.v (.string s7)), (.v (.int .i64 n8)), (.s 1 l9), (.s 5 l10)])] fun o11 =>
 oG o11.res fun r12 =>
 tst (Nat.beq r12.length 5) (
 cI .i64 r12 0 fun n13 =>
 cS r12 1 fun s14 =>
 cI .i64 r12 2 fun n15 =>
 cL 1 r12 3 fun l16 =>
 cL 5 r12 4 fun l17 =>
 tst (decide (0 ≤ n4) && decide (Int.toNat n4 < l3.length)) (
 l146x0 T k n [(.fz 5 l2), (.o 5 (setD (setD (setD (setD (setD (setD (setD l3 (Int.toNat n4) 0 (.v (.int .i64 n13))) (Int.toNat n4) 1 (.v (.string s14))) (Int.toNat n4) 2 (.v (.int .i64 n15))) (Int.toNat n4) 3 hole) (Int.toNat n4) 4 hole) (Int.toNat n4) 4 (.s 5 l17)) (Int.toNat n4) 3 (.s 1 l16))), (.v (.int .i64 (IntKind.wrap .i64 (n4 + 1))))])))) else (
 some ((.exit 0), [(.o 5 l3)]))) := by kernel_rfl
theorem a146q (T : Table) (k : Nat) (l1 : Rows) : evalF T k a146 [(.d (.s 5 l1))] = (
 tst (cutOk (l1.length : Int) (l1.length : Int) maxLen && decide (Int.toNat (l1.length : Int) * 80 ≤ maxBytes)) (
 aft (l146x0 T k k [(.fz 5 l1), (.o 5 (List.replicate (Int.toNat (l1.length : Int)) [(.v (.int .i64 0)), (.v (.string ByteArray.empty)), (.v (.int .i64 0)), (.s 1 []), (.s 5 [])])), (.v (.int .i64 0))]) fun e18 ys19 =>
 bif e18.same (.exit 0) then (
 aV ys19 0 fun x20 =>
 aO 5 x20 fun l21 =>
 some ⟨(.d (.s 5 l21)), []⟩) else (
 none))) := by kernel_rfl
/- loop.example/g00119/laws.toValue -/

def a124 : AFun := ⟨[.rd], false, [.c 2 true [(.i .i64), .s, (.i .i64), (.sl 1), (.sl 5)]], (
  .seq (.reg false [⟨some 1, .box (.t 0), none⟩,
    ⟨some 2, .alloc [(.v (.int .i64 0)), (.v (.string ByteArray.empty)), (.v (.int .i64 0)), (.s 1 []), (.s 5 [])], none⟩]) (
  .seq (.reg false [⟨some 3, .alloc [(.v (.int .i64 0)), (.v (.string ByteArray.empty)), (.v (.int .i64 0)), (.s 1 []), (.s 5 [])], none⟩]) (
  .seq (.reg false [⟨some 4, .fad 0 (.t 1), none⟩,
    ⟨some 5, .load false [(.i .i64)] (.t 4), none⟩,
    ⟨some 6, .fad 0 (.t 3), none⟩,
    ⟨none, .store 1 (.t 6) (.t 5), none⟩]) (
  .seq (.reg false [⟨some 7, .fad 1 (.t 1), none⟩,
    ⟨some 8, .load false [.s] (.t 7), none⟩,
    ⟨some 9, .fad 1 (.t 3), none⟩,
    ⟨none, .store 1 (.t 9) (.t 8), none⟩]) (
  .seq (.reg false [⟨some 10, .fad 2 (.t 1), none⟩,
    ⟨some 11, .load false [(.i .i64)] (.t 10), none⟩,
    ⟨some 12, .fad 2 (.t 3), none⟩,
    ⟨none, .store 1 (.t 12) (.t 11), none⟩]) (
  .seq (.reg false [⟨some 13, .fad 3 (.t 1), none⟩,
    ⟨some 14, .load false [(.sl 1)] (.t 13), none⟩,
    ⟨some 15, .call (.f 56) [.rd] false [.c (.sl 1)] [(.t 14)], none⟩,
    ⟨some 16, .fad 3 (.t 3), none⟩,
    ⟨none, .store 1 (.t 16) (.t 15), none⟩]) (
  .seq (.reg false [⟨some 17, .fad 4 (.t 1), none⟩,
    ⟨some 18, .load false [(.sl 5)] (.t 17), none⟩,
    ⟨some 19, .call (.f 146) [.rd] false [.c (.sl 5)] [(.t 18)], none⟩,
    ⟨some 20, .fad 4 (.t 3), none⟩,
    ⟨none, .store 1 (.t 20) (.t 19), none⟩]) (
  .seq (.reg false [⟨some 21, .load true [(.i .i64), .s, (.i .i64), (.sl 1), (.sl 5)] (.t 3), none⟩,
    ⟨none, .store 5 (.t 2) (.t 21), none⟩]) (
  .ret)))))))))⟩

theorem a124q (T : Table) (k : Nat) (n1 : Int) (s2 : ByteArray) (n3 : Int) (l4 : Rows) (l5 : Rows) : evalF T k a124 [(.g [(.v (.int .i64 n1)), (.v (.string s2)), (.v (.int .i64 n3)), (.s 1 l4), (.s 5 l5)])] = (
 callT T 56 [(.d (.s 1 l4))] fun o6 =>
 oD o6.res fun d7 =>
 dL 1 d7 fun l8 =>
 callT T 146 [(.d (.s 5 l5))] fun o9 =>
 oD o9.res fun d10 =>
 dL 5 d10 fun l11 =>
 some ⟨(.g [(.v (.int .i64 n1)), (.v (.string s2)), (.v (.int .i64 n3)), (.s 1 l8), (.s 5 l11)]), []⟩) := by kernel_rfl
/- loop.example/g00119/laws.toWork -/

def a82 : AFun := ⟨[.rd], false, [.c 2 true [(.i .i64), (.i .i64), (.i .i64), .s, (.i .i64), (.sl 1), (.sl 5)]], (
  .seq (.reg false [⟨some 1, .box (.t 0), none⟩,
    ⟨some 2, .alloc [(.v (.int .i64 0)), (.v (.int .i64 0)), (.v (.int .i64 0)), (.v (.string ByteArray.empty)), (.v (.int .i64 0)), (.s 1 []), (.s 5 [])], none⟩]) (
  .seq (.reg false [⟨some 3, .alloc [(.v (.int .i64 0)), (.v (.int .i64 0)), (.v (.int .i64 0)), (.v (.string ByteArray.empty)), (.v (.int .i64 0)), (.s 1 []), (.s 5 [])], none⟩]) (
  .seq (.reg false [⟨some 4, .fad 0 (.t 1), none⟩,
    ⟨some 5, .load false [(.i .i64)] (.t 4), none⟩,
    ⟨some 6, .fad 0 (.t 3), none⟩,
    ⟨none, .store 1 (.t 6) (.t 5), none⟩]) (
  .seq (.reg false [⟨some 7, .fad 1 (.t 1), none⟩,
    ⟨some 8, .load false [(.i .i64)] (.t 7), none⟩,
    ⟨some 9, .fad 1 (.t 3), none⟩,
    ⟨none, .store 1 (.t 9) (.t 8), none⟩]) (
  .seq (.reg false [⟨some 10, .fad 2 (.t 1), none⟩,
    ⟨some 11, .load true [(.i .i64), .s, (.i .i64), (.sl 1), (.sl 5)] (.t 10), none⟩,
    ⟨some 12, .call (.f 124) [.rd] false [.g [(.i .i64), .s, (.i .i64), (.sl 1), (.sl 5)]] [(.t 11)], none⟩,
    ⟨some 13, .fad 2 (.t 3), none⟩,
    ⟨none, .store 5 (.t 13) (.t 12), none⟩]) (
  .seq (.reg false [⟨some 14, .load true [(.i .i64), (.i .i64), (.i .i64), .s, (.i .i64), (.sl 1), (.sl 5)] (.t 3), none⟩,
    ⟨none, .store 7 (.t 2) (.t 14), none⟩]) (
  .ret)))))))⟩

theorem a82q (T : Table) (k : Nat) (n1 : Int) (n2 : Int) (n3 : Int) (s4 : ByteArray) (n5 : Int) (l6 : Rows) (l7 : Rows) : evalF T k a82 [(.g [(.v (.int .i64 n1)), (.v (.int .i64 n2)), (.v (.int .i64 n3)), (.v (.string s4)), (.v (.int .i64 n5)), (.s 1 l6), (.s 5 l7)])] = (
 callT T 124 [(.g [(.v (.int .i64 n3)), (.v (.string s4)), (.v (.int .i64 n5)), (.s 1 l6), (.s 5 l7)])] fun o8 =>
 oG o8.res fun r9 =>
 tst (Nat.beq r9.length 5) (
 cI .i64 r9 0 fun n10 =>
 cS r9 1 fun s11 =>
 cI .i64 r9 2 fun n12 =>
 cL 1 r9 3 fun l13 =>
 cL 5 r9 4 fun l14 =>
 some ⟨(.g [(.v (.int .i64 n1)), (.v (.int .i64 n2)), (.v (.int .i64 n10)), (.v (.string s11)), (.v (.int .i64 n12)), (.s 1 l13), (.s 5 l14)]), []⟩)) := by kernel_rfl
/- loop.example/g00119/laws.toWorkS -/
def b37x0 : ACode := (
  .seq (.seq (.reg false [⟨some 8, .mv (.t 4), none⟩,
    ⟨some 9, .mv (.t 0), none⟩,
    ⟨some 10, .len false (.t 9), none⟩,
    ⟨some 11, .bin .lss (.t 8) (.t 10), none⟩]) (
  .cond (.t 11) (.skip) (.exit 0))) (
  .seq (.block 1 (.reg false [⟨some 14, .mv (.t 3), none⟩,
      ⟨some 15, .mv (.t 4), none⟩,
      ⟨some 16, .mv (.t 0), none⟩,
      ⟨some 17, .mv (.t 4), none⟩,
      ⟨some 18, .iad 7 (.t 16) (.t 17), none⟩,
      ⟨some 19, .load true [(.i .i64), (.i .i64), (.i .i64), .s, (.i .i64), (.sl 1), (.sl 5)] (.t 18), none⟩,
      ⟨some 20, .call (.f 82) [.rd] false [.g [(.i .i64), (.i .i64), (.i .i64), .s, (.i .i64), (.sl 1), (.sl 5)]] [(.t 19)], none⟩,
      ⟨some 21, .iad 7 (.t 14) (.t 15), none⟩,
      ⟨none, .store 7 (.t 21) (.t 20), none⟩])) (
  .reg false [⟨some 12, .mv (.t 4), none⟩,
    ⟨some 13, .bin .add (.t 12) (.c (.v (.int .i64 1))), none⟩,
    ⟨some 4, .mv (.t 13), none⟩])))
def e37x0 : Exits := [((.exit 0), [(3, .o 7)])]
noncomputable def l37x0 (T : Table) (k : Nat) := loopN (evalC ⟨T, []⟩ k b37x0 (Ex × List AV)) [0, 3, 4] e37x0
def a37 : AFun := ⟨[.rd], false, [.t 2], (
  .seq (.reg false [⟨some 2, .mv (.c (.o 7 [])), none⟩]) (
  .seq (.reg false [⟨some 5, .mv (.t 0), none⟩,
    ⟨some 6, .len false (.t 5), none⟩,
    ⟨some 7, .mk [(.v (.int .i64 0)), (.v (.int .i64 0)), (.v (.int .i64 0)), (.v (.string ByteArray.empty)), (.v (.int .i64 0)), (.s 1 []), (.s 5 [])] 96 (.t 6) (.t 6), none⟩,
    ⟨some 3, .mv (.t 7), none⟩]) (
  .seq (.seq (.reg false [⟨some 4, .mv (.c (.v (.int .i64 0))), none⟩]) (
  .block 0 (.loop [0, 3, 4] e37x0 b37x0))) (
  .seq (.reg false [⟨some 22, .mv (.t 3), none⟩,
    ⟨some 2, .mv (.t 22), none⟩]) (
  .ret)))))⟩
theorem l37x0s (T : Table) (k n : Nat) (l2 : Rows) (l3 : Rows) (n4 : Int) : l37x0 T k (n + 1) [(.fz 7 l2), (.o 7 l3), (.v (.int .i64 n4))] = (
 bif (decide (n4 < (l2.length : Int))) then (
 tst (decide (0 ≤ n4)) (
 look l2 (Int.toNat n4) fun r5 =>
 cI .i64 r5 0 fun n6 =>
 cI .i64 r5 1 fun n7 =>
 cI .i64 r5 2 fun n8 =>
 cS r5 3 fun s9 =>
 cI .i64 r5 4 fun n10 =>
 cL 1 r5 5 fun l11 =>
 cL 5 r5 6 fun l12 =>
 callT T 82 [(.g [(.v (.int .i64 n6)), (.v (.int .i64 n7)), (.v (.int .i64 n8)), (.v (.string s9)), (.v (.int .i64 n10)), (.s 1 l11), (.s 5 l12)])] fun o13 =>
 oG o13.res fun r14 =>
 tst (Nat.beq r14.length 7) (
 cI .i64 r14 0 fun n15 =>
 cI .i64 r14 1 fun n16 =>
 cI .i64 r14 2 fun n17 =>
 cS r14 3 fun s18 =>
 cI .i64 r14 4 fun n19 =>
 cL 1 r14 5 fun l20 =>
 cL 5 r14 6 fun l21 =>
 tst (decide (0 ≤ n4) && decide (Int.toNat n4 < l3.length)) (
 l37x0 T k n [(.fz 7 l2), (.o 7 (setD (setD (setD (setD (setD (setD (setD (setD (setD l3 (Int.toNat n4) 0 (.v (.int .i64 n15))) (Int.toNat n4) 1 (.v (.int .i64 n16))) (Int.toNat n4) 2 (.v (.int .i64 n17))) (Int.toNat n4) 3 (.v (.string s18))) (Int.toNat n4) 4 (.v (.int .i64 n19))) (Int.toNat n4) 5 hole) (Int.toNat n4) 6 hole) (Int.toNat n4) 6 (.s 5 l21)) (Int.toNat n4) 5 (.s 1 l20))), (.v (.int .i64 (IntKind.wrap .i64 (n4 + 1))))])))) else (
 some ((.exit 0), [(.o 7 l3)]))) := by kernel_rfl
theorem a37q (T : Table) (k : Nat) (l1 : Rows) : evalF T k a37 [(.d (.s 7 l1))] = (
 tst (cutOk (l1.length : Int) (l1.length : Int) maxLen && decide (Int.toNat (l1.length : Int) * 96 ≤ maxBytes)) (
 aft (l37x0 T k k [(.fz 7 l1), (.o 7 (List.replicate (Int.toNat (l1.length : Int)) [(.v (.int .i64 0)), (.v (.int .i64 0)), (.v (.int .i64 0)), (.v (.string ByteArray.empty)), (.v (.int .i64 0)), (.s 1 []), (.s 5 [])])), (.v (.int .i64 0))]) fun e22 ys23 =>
 bif e22.same (.exit 0) then (
 aV ys23 0 fun x24 =>
 aO 7 x24 fun l25 =>
 some ⟨(.d (.s 7 l25)), []⟩) else (
 none))) := by kernel_rfl
/- loop.example/g00119/laws.toRun -/

def a83 : AFun := ⟨[.rd], false, [.c 2 true [(.i .i64), (.i .i64)]], (
  .seq (.reg false [⟨some 1, .box (.t 0), none⟩,
    ⟨some 2, .alloc [(.v (.int .i64 0)), (.v (.int .i64 0))], none⟩]) (
  .seq (.reg false [⟨some 3, .alloc [(.v (.int .i64 0)), (.v (.int .i64 0))], none⟩]) (
  .seq (.reg false [⟨some 4, .fad 0 (.t 1), none⟩,
    ⟨some 5, .load false [(.i .i64)] (.t 4), none⟩,
    ⟨some 6, .fad 0 (.t 3), none⟩,
    ⟨none, .store 1 (.t 6) (.t 5), none⟩]) (
  .seq (.reg false [⟨some 7, .fad 1 (.t 1), none⟩,
    ⟨some 8, .load false [(.i .i64)] (.t 7), none⟩,
    ⟨some 9, .fad 1 (.t 3), none⟩,
    ⟨none, .store 1 (.t 9) (.t 8), none⟩]) (
  .seq (.reg false [⟨some 10, .load true [(.i .i64), (.i .i64)] (.t 3), none⟩,
    ⟨none, .store 2 (.t 2) (.t 10), none⟩]) (
  .ret))))))⟩

theorem a83q (T : Table) (k : Nat) (n1 : Int) (n2 : Int) : evalF T k a83 [(.g [(.v (.int .i64 n1)), (.v (.int .i64 n2))])] = (
 some ⟨(.g [(.v (.int .i64 n1)), (.v (.int .i64 n2))]), []⟩) := by kernel_rfl
/- loop.example/g00119/laws.toRunS -/
def b38x0 : ACode := (
  .seq (.seq (.reg false [⟨some 8, .mv (.t 4), none⟩,
    ⟨some 9, .mv (.t 0), none⟩,
    ⟨some 10, .len false (.t 9), none⟩,
    ⟨some 11, .bin .lss (.t 8) (.t 10), none⟩]) (
  .cond (.t 11) (.skip) (.exit 0))) (
  .seq (.block 1 (.reg false [⟨some 14, .mv (.t 3), none⟩,
      ⟨some 15, .mv (.t 4), none⟩,
      ⟨some 16, .mv (.t 0), none⟩,
      ⟨some 17, .mv (.t 4), none⟩,
      ⟨some 18, .iad 2 (.t 16) (.t 17), none⟩,
      ⟨some 19, .load true [(.i .i64), (.i .i64)] (.t 18), none⟩,
      ⟨some 20, .call (.f 83) [.rd] false [.g [(.i .i64), (.i .i64)]] [(.t 19)], none⟩,
      ⟨some 21, .iad 2 (.t 14) (.t 15), none⟩,
      ⟨none, .store 2 (.t 21) (.t 20), none⟩])) (
  .reg false [⟨some 12, .mv (.t 4), none⟩,
    ⟨some 13, .bin .add (.t 12) (.c (.v (.int .i64 1))), none⟩,
    ⟨some 4, .mv (.t 13), none⟩])))
def e38x0 : Exits := [((.exit 0), [(3, .o 2)])]
noncomputable def l38x0 (T : Table) (k : Nat) := loopN (evalC ⟨T, []⟩ k b38x0 (Ex × List AV)) [0, 3, 4] e38x0
def a38 : AFun := ⟨[.rd], false, [.t 2], (
  .seq (.reg false [⟨some 2, .mv (.c (.o 2 [])), none⟩]) (
  .seq (.reg false [⟨some 5, .mv (.t 0), none⟩,
    ⟨some 6, .len false (.t 5), none⟩,
    ⟨some 7, .mk [(.v (.int .i64 0)), (.v (.int .i64 0))] 16 (.t 6) (.t 6), none⟩,
    ⟨some 3, .mv (.t 7), none⟩]) (
  .seq (.seq (.reg false [⟨some 4, .mv (.c (.v (.int .i64 0))), none⟩]) (
  .block 0 (.loop [0, 3, 4] e38x0 b38x0))) (
  .seq (.reg false [⟨some 22, .mv (.t 3), none⟩,
    ⟨some 2, .mv (.t 22), none⟩]) (
  .ret)))))⟩
theorem l38x0s (T : Table) (k n : Nat) (l2 : Rows) (l3 : Rows) (n4 : Int) : l38x0 T k (n + 1) [(.fz 2 l2), (.o 2 l3), (.v (.int .i64 n4))] = (
 bif (decide (n4 < (l2.length : Int))) then (
 tst (decide (0 ≤ n4)) (
 look l2 (Int.toNat n4) fun r5 =>
 cI .i64 r5 0 fun n6 =>
 cI .i64 r5 1 fun n7 =>
 callT T 83 [(.g [(.v (.int .i64 n6)), (.v (.int .i64 n7))])] fun o8 =>
 oG o8.res fun r9 =>
 tst (Nat.beq r9.length 2) (
 cI .i64 r9 0 fun n10 =>
 cI .i64 r9 1 fun n11 =>
 tst (decide (0 ≤ n4) && decide (Int.toNat n4 < l3.length)) (
 l38x0 T k n [(.fz 2 l2), (.o 2 (setD (setD l3 (Int.toNat n4) 0 (.v (.int .i64 n10))) (Int.toNat n4) 1 (.v (.int .i64 n11)))), (.v (.int .i64 (IntKind.wrap .i64 (n4 + 1))))])))) else (
 some ((.exit 0), [(.o 2 l3)]))) := by kernel_rfl
theorem a38q (T : Table) (k : Nat) (l1 : Rows) : evalF T k a38 [(.d (.s 2 l1))] = (
 tst (cutOk (l1.length : Int) (l1.length : Int) maxLen && decide (Int.toNat (l1.length : Int) * 16 ≤ maxBytes)) (
 aft (l38x0 T k k [(.fz 2 l1), (.o 2 (List.replicate (Int.toNat (l1.length : Int)) [(.v (.int .i64 0)), (.v (.int .i64 0))])), (.v (.int .i64 0))]) fun e12 ys13 =>
 bif e12.same (.exit 0) then (
 aV ys13 0 fun x14 =>
 aO 2 x14 fun l15 =>
 some ⟨(.d (.s 2 l15)), []⟩) else (
 none))) := by kernel_rfl
/- loop.example/g00119/laws.toIsle -/

def a10 : AFun := ⟨[.rd], false, [.c 2 true [.s, (.i .i64), (.i .i64), (.sl 7), (.sl 2)]], (
  .seq (.reg false [⟨some 1, .box (.t 0), none⟩,
    ⟨some 2, .alloc [(.v (.string ByteArray.empty)), (.v (.int .i64 0)), (.v (.int .i64 0)), (.s 7 []), (.s 2 [])], none⟩]) (
  .seq (.reg false [⟨some 3, .alloc [(.v (.string ByteArray.empty)), (.v (.int .i64 0)), (.v (.int .i64 0)), (.s 7 []), (.s 2 [])], none⟩]) (
  .seq (.reg false [⟨some 4, .fad 0 (.t 1), none⟩,
    ⟨some 5, .load false [.s] (.t 4), none⟩,
    ⟨some 6, .fad 0 (.t 3), none⟩,
    ⟨none, .store 1 (.t 6) (.t 5), none⟩]) (
  .seq (.reg false [⟨some 7, .fad 1 (.t 1), none⟩,
    ⟨some 8, .load false [(.i .i64)] (.t 7), none⟩,
    ⟨some 9, .fad 1 (.t 3), none⟩,
    ⟨none, .store 1 (.t 9) (.t 8), none⟩]) (
  .seq (.reg false [⟨some 10, .fad 2 (.t 1), none⟩,
    ⟨some 11, .load false [(.i .i64)] (.t 10), none⟩,
    ⟨some 12, .fad 2 (.t 3), none⟩,
    ⟨none, .store 1 (.t 12) (.t 11), none⟩]) (
  .seq (.reg false [⟨some 13, .fad 3 (.t 1), none⟩,
    ⟨some 14, .load false [(.sl 7)] (.t 13), none⟩,
    ⟨some 15, .call (.f 37) [.rd] false [.c (.sl 7)] [(.t 14)], none⟩,
    ⟨some 16, .fad 3 (.t 3), none⟩,
    ⟨none, .store 1 (.t 16) (.t 15), none⟩]) (
  .seq (.reg false [⟨some 17, .fad 4 (.t 1), none⟩,
    ⟨some 18, .load false [(.sl 2)] (.t 17), none⟩,
    ⟨some 19, .call (.f 38) [.rd] false [.c (.sl 2)] [(.t 18)], none⟩,
    ⟨some 20, .fad 4 (.t 3), none⟩,
    ⟨none, .store 1 (.t 20) (.t 19), none⟩]) (
  .seq (.reg false [⟨some 21, .load true [.s, (.i .i64), (.i .i64), (.sl 7), (.sl 2)] (.t 3), none⟩,
    ⟨none, .store 5 (.t 2) (.t 21), none⟩]) (
  .ret)))))))))⟩

theorem a10q (T : Table) (k : Nat) (s1 : ByteArray) (n2 : Int) (n3 : Int) (l4 : Rows) (l5 : Rows) : evalF T k a10 [(.g [(.v (.string s1)), (.v (.int .i64 n2)), (.v (.int .i64 n3)), (.s 7 l4), (.s 2 l5)])] = (
 callT T 37 [(.d (.s 7 l4))] fun o6 =>
 oD o6.res fun d7 =>
 dL 7 d7 fun l8 =>
 callT T 38 [(.d (.s 2 l5))] fun o9 =>
 oD o9.res fun d10 =>
 dL 2 d10 fun l11 =>
 some ⟨(.g [(.v (.string s1)), (.v (.int .i64 n2)), (.v (.int .i64 n3)), (.s 7 l8), (.s 2 l11)]), []⟩) := by kernel_rfl
/- loop.example/g00119/laws.eqStringS -/
def b63x0 : ACode := (
  .seq (.seq (.reg false [⟨some 11, .mv (.t 5), none⟩,
    ⟨some 12, .mv (.t 0), none⟩,
    ⟨some 13, .len false (.t 12), none⟩,
    ⟨some 14, .bin .lss (.t 11) (.t 13), none⟩]) (
  .cond (.t 14) (.skip) (.exit 0))) (
  .seq (.block 1 (.seq (.dreg [] [(0, ⟨some 17, .mv (.t 0), none⟩),
      (0, ⟨some 18, .mv (.t 5), none⟩),
      (0, ⟨some 19, .iad 1 (.t 17) (.t 18), none⟩),
      (0, ⟨some 20, .load false [.s] (.t 19), none⟩),
      (0, ⟨some 21, .mv (.t 1), none⟩),
      (0, ⟨some 22, .mv (.t 5), none⟩),
      (0, ⟨some 23, .iad 1 (.t 21) (.t 22), none⟩),
      (0, ⟨some 24, .load false [.s] (.t 23), none⟩)] [⟨some 25, .bin .neq (.t 20) (.t 24), none⟩]) (
    .cond (.t 25) (.seq (.reg false [⟨some 4, .mv (.c (.v (.bool false))), none⟩]) (
      .ret)) (.skip)))) (
  .reg false [⟨some 15, .mv (.t 5), none⟩,
    ⟨some 16, .bin .add (.t 15) (.c (.v (.int .i64 1))), none⟩,
    ⟨some 5, .mv (.t 16), none⟩])))
def e63x0 : Exits := [(.ret, [(4, .c .b)]), ((.exit 0), [])]
noncomputable def l63x0 (T : Table) (k : Nat) := loopN (evalC ⟨T, []⟩ k b63x0 (Ex × List AV)) [0, 1, 5] e63x0
def a63 : AFun := ⟨[.rd, .rd], false, [.t 4], (
  .seq (.reg false [⟨some 4, .mv (.c (.v (.bool false))), none⟩]) (
  .seq (.seq (.reg false [⟨some 6, .mv (.t 0), none⟩,
    ⟨some 7, .len false (.t 6), none⟩,
    ⟨some 8, .mv (.t 1), none⟩,
    ⟨some 9, .len false (.t 8), none⟩,
    ⟨some 10, .bin .neq (.t 7) (.t 9), none⟩]) (
  .cond (.t 10) (.seq (.reg false [⟨some 4, .mv (.c (.v (.bool false))), none⟩]) (
    .ret)) (.skip))) (
  .seq (.seq (.reg false [⟨some 5, .mv (.c (.v (.int .i64 0))), none⟩]) (
  .block 0 (.loop [0, 1, 5] e63x0 b63x0))) (
  .seq (.reg false [⟨some 4, .mv (.c (.v (.bool true))), none⟩]) (
  .ret)))))⟩
theorem l63x0s (T : Table) (k n : Nat) (l3 : Rows) (l4 : Rows) (n5 : Int) : l63x0 T k (n + 1) [(.fz 1 l3), (.fz 1 l4), (.v (.int .i64 n5))] = (
 bif (decide (n5 < (l3.length : Int))) then (
 tst (decide (0 ≤ n5)) (
 look l3 (Int.toNat n5) fun r6 =>
 cS r6 0 fun s7 =>
 tst (decide (0 ≤ n5)) (
 look l4 (Int.toNat n5) fun r8 =>
 cS r8 0 fun s9 =>
 bif (!(bytesEq s7 s9)) then (
 some (.ret, [(.v (.bool false))])) else (
 l63x0 T k n [(.fz 1 l3), (.fz 1 l4), (.v (.int .i64 (IntKind.wrap .i64 (n5 + 1))))])))) else (
 some ((.exit 0), []))) := by kernel_rfl
theorem a63q (T : Table) (k : Nat) (l1 : Rows) (l2 : Rows) : evalF T k a63 [(.d (.s 1 l1)), (.d (.s 1 l2))] = (
 bif ((l1.length : Int) != (l2.length : Int)) then (
 some ⟨(.d (.v (.bool false))), []⟩) else (
 aft (l63x0 T k k [(.fz 1 l1), (.fz 1 l2), (.v (.int .i64 0))]) fun e10 ys11 =>
 bif e10.same .ret then (
 aV ys11 0 fun x12 =>
 aB x12 fun b13 =>
 some ⟨(.d (.v (.bool b13))), []⟩) else (
 bif e10.same (.exit 0) then (
 some ⟨(.d (.v (.bool true))), []⟩) else (
 none)))) := by kernel_rfl
/- loop.example/g00119/laws.eqValueS -/
def b149x0 : ACode := (
  .seq (.seq (.reg false [⟨some 11, .mv (.t 5), none⟩,
    ⟨some 12, .mv (.t 0), none⟩,
    ⟨some 13, .len false (.t 12), none⟩,
    ⟨some 14, .bin .lss (.t 11) (.t 13), none⟩]) (
  .cond (.t 14) (.skip) (.exit 0))) (
  .seq (.block 1 (.seq (.dreg [] [(0, ⟨some 17, .mv (.t 0), none⟩),
      (0, ⟨some 18, .mv (.t 5), none⟩),
      (0, ⟨some 19, .iad 5 (.t 17) (.t 18), none⟩),
      (0, ⟨some 20, .load true [(.i .i64), .s, (.i .i64), (.sl 1), (.sl 5)] (.t 19), none⟩),
      (0, ⟨some 21, .mv (.t 1), none⟩),
      (0, ⟨some 22, .mv (.t 5), none⟩),
      (0, ⟨some 23, .iad 5 (.t 21) (.t 22), none⟩),
      (0, ⟨some 24, .load true [(.i .i64), .s, (.i .i64), (.sl 1), (.sl 5)] (.t 23), none⟩)] [⟨some 25, .call (.f 127) [.rd, .rd] false [.c .b] [(.t 20), (.t 24)], none⟩,
      ⟨some 26, .un .not (.t 25), none⟩]) (
    .cond (.t 26) (.seq (.reg false [⟨some 4, .mv (.c (.v (.bool false))), none⟩]) (
      .ret)) (.skip)))) (
  .reg false [⟨some 15, .mv (.t 5), none⟩,
    ⟨some 16, .bin .add (.t 15) (.c (.v (.int .i64 1))), none⟩,
    ⟨some 5, .mv (.t 16), none⟩])))
def e149x0 : Exits := [(.ret, [(4, .c .b)]), ((.exit 0), [])]
noncomputable def l149x0 (T : Table) (k : Nat) := loopN (evalC ⟨T, []⟩ k b149x0 (Ex × List AV)) [0, 1, 5] e149x0
def a149 : AFun := ⟨[.rd, .rd], false, [.t 4], (
  .seq (.reg false [⟨some 4, .mv (.c (.v (.bool false))), none⟩]) (
  .seq (.seq (.reg false [⟨some 6, .mv (.t 0), none⟩,
    ⟨some 7, .len false (.t 6), none⟩,
    ⟨some 8, .mv (.t 1), none⟩,
    ⟨some 9, .len false (.t 8), none⟩,
    ⟨some 10, .bin .neq (.t 7) (.t 9), none⟩]) (
  .cond (.t 10) (.seq (.reg false [⟨some 4, .mv (.c (.v (.bool false))), none⟩]) (
    .ret)) (.skip))) (
  .seq (.seq (.reg false [⟨some 5, .mv (.c (.v (.int .i64 0))), none⟩]) (
  .block 0 (.loop [0, 1, 5] e149x0 b149x0))) (
  .seq (.reg false [⟨some 4, .mv (.c (.v (.bool true))), none⟩]) (
  .ret)))))⟩
theorem l149x0s (T : Table) (k n : Nat) (l3 : Rows) (l4 : Rows) (n5 : Int) : l149x0 T k (n + 1) [(.fz 5 l3), (.fz 5 l4), (.v (.int .i64 n5))] = (
 bif (decide (n5 < (l3.length : Int))) then (
 tst (decide (0 ≤ n5)) (
 look l3 (Int.toNat n5) fun r6 =>
 cI .i64 r6 0 fun n7 =>
 cS r6 1 fun s8 =>
 cI .i64 r6 2 fun n9 =>
 cL 1 r6 3 fun l10 =>
 cL 5 r6 4 fun l11 =>
 tst (decide (0 ≤ n5)) (
 look l4 (Int.toNat n5) fun r12 =>
 cI .i64 r12 0 fun n13 =>
 cS r12 1 fun s14 =>
 cI .i64 r12 2 fun n15 =>
 cL 1 r12 3 fun l16 =>
 cL 5 r12 4 fun l17 =>
 callT T 127 [(.g [(.v (.int .i64 n7)), (.v (.string s8)), (.v (.int .i64 n9)), (.s 1 l10), (.s 5 l11)]), (.g [(.v (.int .i64 n13)), (.v (.string s14)), (.v (.int .i64 n15)), (.s 1 l16), (.s 5 l17)])] fun o18 =>
 oD o18.res fun d19 =>
 dB d19 fun b20 =>
 bif (!b20) then (
 some (.ret, [(.v (.bool false))])) else (
 l149x0 T k n [(.fz 5 l3), (.fz 5 l4), (.v (.int .i64 (IntKind.wrap .i64 (n5 + 1))))])))) else (
 some ((.exit 0), []))) := by kernel_rfl
theorem a149q (T : Table) (k : Nat) (l1 : Rows) (l2 : Rows) : evalF T k a149 [(.d (.s 5 l1)), (.d (.s 5 l2))] = (
 bif ((l1.length : Int) != (l2.length : Int)) then (
 some ⟨(.d (.v (.bool false))), []⟩) else (
 aft (l149x0 T k k [(.fz 5 l1), (.fz 5 l2), (.v (.int .i64 0))]) fun e21 ys22 =>
 bif e21.same .ret then (
 aV ys22 0 fun x23 =>
 aB x23 fun b24 =>
 some ⟨(.d (.v (.bool b24))), []⟩) else (
 bif e21.same (.exit 0) then (
 some ⟨(.d (.v (.bool true))), []⟩) else (
 none)))) := by kernel_rfl
/- loop.example/g00119/laws.eqValue -/

def a127 : AFun := ⟨[.rd, .rd], false, [.t 4], (
  .seq (.reg false [⟨some 2, .box (.t 0), none⟩,
    ⟨some 3, .box (.t 1), none⟩,
    ⟨some 4, .mv (.c (.v (.bool false))), none⟩]) (
  .seq (.seq (.reg false [⟨some 5, .fad 0 (.t 2), none⟩,
    ⟨some 6, .load false [(.i .i64)] (.t 5), none⟩,
    ⟨some 7, .fad 0 (.t 3), none⟩,
    ⟨some 8, .load false [(.i .i64)] (.t 7), none⟩,
    ⟨some 9, .bin .neq (.t 6) (.t 8), none⟩]) (
  .cond (.t 9) (.seq (.reg false [⟨some 4, .mv (.c (.v (.bool false))), none⟩]) (
    .ret)) (.skip))) (
  .seq (.seq (.reg false [⟨some 10, .fad 1 (.t 2), none⟩,
    ⟨some 11, .load false [.s] (.t 10), none⟩,
    ⟨some 12, .fad 1 (.t 3), none⟩,
    ⟨some 13, .load false [.s] (.t 12), none⟩,
    ⟨some 14, .bin .neq (.t 11) (.t 13), none⟩]) (
  .cond (.t 14) (.seq (.reg false [⟨some 4, .mv (.c (.v (.bool false))), none⟩]) (
    .ret)) (.skip))) (
  .seq (.seq (.reg false [⟨some 15, .fad 2 (.t 2), none⟩,
    ⟨some 16, .load false [(.i .i64)] (.t 15), none⟩,
    ⟨some 17, .fad 2 (.t 3), none⟩,
    ⟨some 18, .load false [(.i .i64)] (.t 17), none⟩,
    ⟨some 19, .bin .neq (.t 16) (.t 18), none⟩]) (
  .cond (.t 19) (.seq (.reg false [⟨some 4, .mv (.c (.v (.bool false))), none⟩]) (
    .ret)) (.skip))) (
  .seq (.seq (.reg false [⟨some 20, .fad 3 (.t 2), none⟩,
    ⟨some 21, .load false [(.sl 1)] (.t 20), none⟩,
    ⟨some 22, .fad 3 (.t 3), none⟩,
    ⟨some 23, .load false [(.sl 1)] (.t 22), none⟩,
    ⟨some 24, .call (.f 63) [.rd, .rd] false [.c .b] [(.t 21), (.t 23)], none⟩,
    ⟨some 25, .un .not (.t 24), none⟩]) (
  .cond (.t 25) (.seq (.reg false [⟨some 4, .mv (.c (.v (.bool false))), none⟩]) (
    .ret)) (.skip))) (
  .seq (.seq (.reg false [⟨some 26, .fad 4 (.t 2), none⟩,
    ⟨some 27, .load false [(.sl 5)] (.t 26), none⟩,
    ⟨some 28, .fad 4 (.t 3), none⟩,
    ⟨some 29, .load false [(.sl 5)] (.t 28), none⟩,
    ⟨some 30, .call (.f 149) [.rd, .rd] false [.c .b] [(.t 27), (.t 29)], none⟩,
    ⟨some 31, .un .not (.t 30), none⟩]) (
  .cond (.t 31) (.seq (.reg false [⟨some 4, .mv (.c (.v (.bool false))), none⟩]) (
    .ret)) (.skip))) (
  .seq (.reg false [⟨some 4, .mv (.c (.v (.bool true))), none⟩]) (
  .ret))))))))⟩

theorem a127q (T : Table) (k : Nat) (n1 : Int) (s2 : ByteArray) (n3 : Int) (l4 : Rows) (l5 : Rows) (n6 : Int) (s7 : ByteArray) (n8 : Int) (l9 : Rows) (l10 : Rows) : evalF T k a127 [(.g [(.v (.int .i64 n1)), (.v (.string s2)), (.v (.int .i64 n3)), (.s 1 l4), (.s 5 l5)]), (.g [(.v (.int .i64 n6)), (.v (.string s7)), (.v (.int .i64 n8)), (.s 1 l9), (.s 5 l10)])] = (
 bif (n1 != n6) then (
 some ⟨(.d (.v (.bool false))), []⟩) else (
 bif (!(bytesEq s2 s7)) then (
 some ⟨(.d (.v (.bool false))), []⟩) else (
 bif (n3 != n8) then (
 some ⟨(.d (.v (.bool false))), []⟩) else (
 callT T 63 [(.d (.s 1 l4)), (.d (.s 1 l9))] fun o11 =>
 oD o11.res fun d12 =>
 dB d12 fun b13 =>
 bif (!b13) then (
 some ⟨(.d (.v (.bool false))), []⟩) else (
 callT T 149 [(.d (.s 5 l5)), (.d (.s 5 l10))] fun o14 =>
 oD o14.res fun d15 =>
 dB d15 fun b16 =>
 bif (!b16) then (
 some ⟨(.d (.v (.bool false))), []⟩) else (
 some ⟨(.d (.v (.bool true))), []⟩)))))) := by kernel_rfl
/- loop.example/g00119/laws.eqWork -/

def a90 : AFun := ⟨[.rd, .rd], false, [.t 4], (
  .seq (.reg false [⟨some 2, .box (.t 0), none⟩,
    ⟨some 3, .box (.t 1), none⟩,
    ⟨some 4, .mv (.c (.v (.bool false))), none⟩]) (
  .seq (.seq (.reg false [⟨some 5, .fad 0 (.t 2), none⟩,
    ⟨some 6, .load false [(.i .i64)] (.t 5), none⟩,
    ⟨some 7, .fad 0 (.t 3), none⟩,
    ⟨some 8, .load false [(.i .i64)] (.t 7), none⟩,
    ⟨some 9, .bin .neq (.t 6) (.t 8), none⟩]) (
  .cond (.t 9) (.seq (.reg false [⟨some 4, .mv (.c (.v (.bool false))), none⟩]) (
    .ret)) (.skip))) (
  .seq (.seq (.reg false [⟨some 10, .fad 1 (.t 2), none⟩,
    ⟨some 11, .load false [(.i .i64)] (.t 10), none⟩,
    ⟨some 12, .fad 1 (.t 3), none⟩,
    ⟨some 13, .load false [(.i .i64)] (.t 12), none⟩,
    ⟨some 14, .bin .neq (.t 11) (.t 13), none⟩]) (
  .cond (.t 14) (.seq (.reg false [⟨some 4, .mv (.c (.v (.bool false))), none⟩]) (
    .ret)) (.skip))) (
  .seq (.seq (.reg false [⟨some 15, .fad 2 (.t 2), none⟩,
    ⟨some 16, .load true [(.i .i64), .s, (.i .i64), (.sl 1), (.sl 5)] (.t 15), none⟩,
    ⟨some 17, .fad 2 (.t 3), none⟩,
    ⟨some 18, .load true [(.i .i64), .s, (.i .i64), (.sl 1), (.sl 5)] (.t 17), none⟩,
    ⟨some 19, .call (.f 127) [.rd, .rd] false [.c .b] [(.t 16), (.t 18)], none⟩,
    ⟨some 20, .un .not (.t 19), none⟩]) (
  .cond (.t 20) (.seq (.reg false [⟨some 4, .mv (.c (.v (.bool false))), none⟩]) (
    .ret)) (.skip))) (
  .seq (.reg false [⟨some 4, .mv (.c (.v (.bool true))), none⟩]) (
  .ret))))))⟩

theorem a90q (T : Table) (k : Nat) (n1 : Int) (n2 : Int) (n3 : Int) (s4 : ByteArray) (n5 : Int) (l6 : Rows) (l7 : Rows) (n8 : Int) (n9 : Int) (n10 : Int) (s11 : ByteArray) (n12 : Int) (l13 : Rows) (l14 : Rows) : evalF T k a90 [(.g [(.v (.int .i64 n1)), (.v (.int .i64 n2)), (.v (.int .i64 n3)), (.v (.string s4)), (.v (.int .i64 n5)), (.s 1 l6), (.s 5 l7)]), (.g [(.v (.int .i64 n8)), (.v (.int .i64 n9)), (.v (.int .i64 n10)), (.v (.string s11)), (.v (.int .i64 n12)), (.s 1 l13), (.s 5 l14)])] = (
 bif (n1 != n8) then (
 some ⟨(.d (.v (.bool false))), []⟩) else (
 bif (n2 != n9) then (
 some ⟨(.d (.v (.bool false))), []⟩) else (
 callT T 127 [(.g [(.v (.int .i64 n3)), (.v (.string s4)), (.v (.int .i64 n5)), (.s 1 l6), (.s 5 l7)]), (.g [(.v (.int .i64 n10)), (.v (.string s11)), (.v (.int .i64 n12)), (.s 1 l13), (.s 5 l14)])] fun o15 =>
 oD o15.res fun d16 =>
 dB d16 fun b17 =>
 bif (!b17) then (
 some ⟨(.d (.v (.bool false))), []⟩) else (
 some ⟨(.d (.v (.bool true))), []⟩)))) := by kernel_rfl
/- loop.example/g00119/laws.eqWorkS -/
def b42x0 : ACode := (
  .seq (.seq (.reg false [⟨some 11, .mv (.t 5), none⟩,
    ⟨some 12, .mv (.t 0), none⟩,
    ⟨some 13, .len false (.t 12), none⟩,
    ⟨some 14, .bin .lss (.t 11) (.t 13), none⟩]) (
  .cond (.t 14) (.skip) (.exit 0))) (
  .seq (.block 1 (.seq (.dreg [] [(0, ⟨some 17, .mv (.t 0), none⟩),
      (0, ⟨some 18, .mv (.t 5), none⟩),
      (0, ⟨some 19, .iad 7 (.t 17) (.t 18), none⟩),
      (0, ⟨some 20, .load true [(.i .i64), (.i .i64), (.i .i64), .s, (.i .i64), (.sl 1), (.sl 5)] (.t 19), none⟩),
      (0, ⟨some 21, .mv (.t 1), none⟩),
      (0, ⟨some 22, .mv (.t 5), none⟩),
      (0, ⟨some 23, .iad 7 (.t 21) (.t 22), none⟩),
      (0, ⟨some 24, .load true [(.i .i64), (.i .i64), (.i .i64), .s, (.i .i64), (.sl 1), (.sl 5)] (.t 23), none⟩)] [⟨some 25, .call (.f 90) [.rd, .rd] false [.c .b] [(.t 20), (.t 24)], none⟩,
      ⟨some 26, .un .not (.t 25), none⟩]) (
    .cond (.t 26) (.seq (.reg false [⟨some 4, .mv (.c (.v (.bool false))), none⟩]) (
      .ret)) (.skip)))) (
  .reg false [⟨some 15, .mv (.t 5), none⟩,
    ⟨some 16, .bin .add (.t 15) (.c (.v (.int .i64 1))), none⟩,
    ⟨some 5, .mv (.t 16), none⟩])))
def e42x0 : Exits := [(.ret, [(4, .c .b)]), ((.exit 0), [])]
noncomputable def l42x0 (T : Table) (k : Nat) := loopN (evalC ⟨T, []⟩ k b42x0 (Ex × List AV)) [0, 1, 5] e42x0
def a42 : AFun := ⟨[.rd, .rd], false, [.t 4], (
  .seq (.reg false [⟨some 4, .mv (.c (.v (.bool false))), none⟩]) (
  .seq (.seq (.reg false [⟨some 6, .mv (.t 0), none⟩,
    ⟨some 7, .len false (.t 6), none⟩,
    ⟨some 8, .mv (.t 1), none⟩,
    ⟨some 9, .len false (.t 8), none⟩,
    ⟨some 10, .bin .neq (.t 7) (.t 9), none⟩]) (
  .cond (.t 10) (.seq (.reg false [⟨some 4, .mv (.c (.v (.bool false))), none⟩]) (
    .ret)) (.skip))) (
  .seq (.seq (.reg false [⟨some 5, .mv (.c (.v (.int .i64 0))), none⟩]) (
  .block 0 (.loop [0, 1, 5] e42x0 b42x0))) (
  .seq (.reg false [⟨some 4, .mv (.c (.v (.bool true))), none⟩]) (
  .ret)))))⟩
theorem l42x0s (T : Table) (k n : Nat) (l3 : Rows) (l4 : Rows) (n5 : Int) : l42x0 T k (n + 1) [(.fz 7 l3), (.fz 7 l4), (.v (.int .i64 n5))] = (
 bif (decide (n5 < (l3.length : Int))) then (
 tst (decide (0 ≤ n5)) (
 look l3 (Int.toNat n5) fun r6 =>
 cI .i64 r6 0 fun n7 =>
 cI .i64 r6 1 fun n8 =>
 cI .i64 r6 2 fun n9 =>
 cS r6 3 fun s10 =>
 cI .i64 r6 4 fun n11 =>
 cL 1 r6 5 fun l12 =>
 cL 5 r6 6 fun l13 =>
 tst (decide (0 ≤ n5)) (
 look l4 (Int.toNat n5) fun r14 =>
 cI .i64 r14 0 fun n15 =>
 cI .i64 r14 1 fun n16 =>
 cI .i64 r14 2 fun n17 =>
 cS r14 3 fun s18 =>
 cI .i64 r14 4 fun n19 =>
 cL 1 r14 5 fun l20 =>
 cL 5 r14 6 fun l21 =>
 callT T 90 [(.g [(.v (.int .i64 n7)), (.v (.int .i64 n8)), (.v (.int .i64 n9)), (.v (.string s10)), (.v (.int .i64 n11)), (.s 1 l12), (.s 5 l13)]), (.g [(.v (.int .i64 n15)), (.v (.int .i64 n16)), (.v (.int .i64 n17)), (.v (.string s18)), (.v (.int .i64 n19)), (.s 1 l20), (.s 5 l21)])] fun o22 =>
 oD o22.res fun d23 =>
 dB d23 fun b24 =>
 bif (!b24) then (
 some (.ret, [(.v (.bool false))])) else (
 l42x0 T k n [(.fz 7 l3), (.fz 7 l4), (.v (.int .i64 (IntKind.wrap .i64 (n5 + 1))))])))) else (
 some ((.exit 0), []))) := by kernel_rfl
theorem a42q (T : Table) (k : Nat) (l1 : Rows) (l2 : Rows) : evalF T k a42 [(.d (.s 7 l1)), (.d (.s 7 l2))] = (
 bif ((l1.length : Int) != (l2.length : Int)) then (
 some ⟨(.d (.v (.bool false))), []⟩) else (
 aft (l42x0 T k k [(.fz 7 l1), (.fz 7 l2), (.v (.int .i64 0))]) fun e25 ys26 =>
 bif e25.same .ret then (
 aV ys26 0 fun x27 =>
 aB x27 fun b28 =>
 some ⟨(.d (.v (.bool b28))), []⟩) else (
 bif e25.same (.exit 0) then (
 some ⟨(.d (.v (.bool true))), []⟩) else (
 none)))) := by kernel_rfl
/- loop.example/g00119/laws.eqRun -/

def a91 : AFun := ⟨[.rd, .rd], false, [.t 4], (
  .seq (.reg false [⟨some 2, .box (.t 0), none⟩,
    ⟨some 3, .box (.t 1), none⟩,
    ⟨some 4, .mv (.c (.v (.bool false))), none⟩]) (
  .seq (.seq (.reg false [⟨some 5, .fad 0 (.t 2), none⟩,
    ⟨some 6, .load false [(.i .i64)] (.t 5), none⟩,
    ⟨some 7, .fad 0 (.t 3), none⟩,
    ⟨some 8, .load false [(.i .i64)] (.t 7), none⟩,
    ⟨some 9, .bin .neq (.t 6) (.t 8), none⟩]) (
  .cond (.t 9) (.seq (.reg false [⟨some 4, .mv (.c (.v (.bool false))), none⟩]) (
    .ret)) (.skip))) (
  .seq (.seq (.reg false [⟨some 10, .fad 1 (.t 2), none⟩,
    ⟨some 11, .load false [(.i .i64)] (.t 10), none⟩,
    ⟨some 12, .fad 1 (.t 3), none⟩,
    ⟨some 13, .load false [(.i .i64)] (.t 12), none⟩,
    ⟨some 14, .bin .neq (.t 11) (.t 13), none⟩]) (
  .cond (.t 14) (.seq (.reg false [⟨some 4, .mv (.c (.v (.bool false))), none⟩]) (
    .ret)) (.skip))) (
  .seq (.reg false [⟨some 4, .mv (.c (.v (.bool true))), none⟩]) (
  .ret)))))⟩

theorem a91q (T : Table) (k : Nat) (n1 : Int) (n2 : Int) (n3 : Int) (n4 : Int) : evalF T k a91 [(.g [(.v (.int .i64 n1)), (.v (.int .i64 n2))]), (.g [(.v (.int .i64 n3)), (.v (.int .i64 n4))])] = (
 bif (n1 != n3) then (
 some ⟨(.d (.v (.bool false))), []⟩) else (
 bif (n2 != n4) then (
 some ⟨(.d (.v (.bool false))), []⟩) else (
 some ⟨(.d (.v (.bool true))), []⟩))) := by kernel_rfl
/- loop.example/g00119/laws.eqRunS -/
def b43x0 : ACode := (
  .seq (.seq (.reg false [⟨some 11, .mv (.t 5), none⟩,
    ⟨some 12, .mv (.t 0), none⟩,
    ⟨some 13, .len false (.t 12), none⟩,
    ⟨some 14, .bin .lss (.t 11) (.t 13), none⟩]) (
  .cond (.t 14) (.skip) (.exit 0))) (
  .seq (.block 1 (.seq (.dreg [] [(0, ⟨some 17, .mv (.t 0), none⟩),
      (0, ⟨some 18, .mv (.t 5), none⟩),
      (0, ⟨some 19, .iad 2 (.t 17) (.t 18), none⟩),
      (0, ⟨some 20, .load true [(.i .i64), (.i .i64)] (.t 19), none⟩),
      (0, ⟨some 21, .mv (.t 1), none⟩),
      (0, ⟨some 22, .mv (.t 5), none⟩),
      (0, ⟨some 23, .iad 2 (.t 21) (.t 22), none⟩),
      (0, ⟨some 24, .load true [(.i .i64), (.i .i64)] (.t 23), none⟩)] [⟨some 25, .call (.f 91) [.rd, .rd] false [.c .b] [(.t 20), (.t 24)], none⟩,
      ⟨some 26, .un .not (.t 25), none⟩]) (
    .cond (.t 26) (.seq (.reg false [⟨some 4, .mv (.c (.v (.bool false))), none⟩]) (
      .ret)) (.skip)))) (
  .reg false [⟨some 15, .mv (.t 5), none⟩,
    ⟨some 16, .bin .add (.t 15) (.c (.v (.int .i64 1))), none⟩,
    ⟨some 5, .mv (.t 16), none⟩])))
def e43x0 : Exits := [(.ret, [(4, .c .b)]), ((.exit 0), [])]
noncomputable def l43x0 (T : Table) (k : Nat) := loopN (evalC ⟨T, []⟩ k b43x0 (Ex × List AV)) [0, 1, 5] e43x0
def a43 : AFun := ⟨[.rd, .rd], false, [.t 4], (
  .seq (.reg false [⟨some 4, .mv (.c (.v (.bool false))), none⟩]) (
  .seq (.seq (.reg false [⟨some 6, .mv (.t 0), none⟩,
    ⟨some 7, .len false (.t 6), none⟩,
    ⟨some 8, .mv (.t 1), none⟩,
    ⟨some 9, .len false (.t 8), none⟩,
    ⟨some 10, .bin .neq (.t 7) (.t 9), none⟩]) (
  .cond (.t 10) (.seq (.reg false [⟨some 4, .mv (.c (.v (.bool false))), none⟩]) (
    .ret)) (.skip))) (
  .seq (.seq (.reg false [⟨some 5, .mv (.c (.v (.int .i64 0))), none⟩]) (
  .block 0 (.loop [0, 1, 5] e43x0 b43x0))) (
  .seq (.reg false [⟨some 4, .mv (.c (.v (.bool true))), none⟩]) (
  .ret)))))⟩
theorem l43x0s (T : Table) (k n : Nat) (l3 : Rows) (l4 : Rows) (n5 : Int) : l43x0 T k (n + 1) [(.fz 2 l3), (.fz 2 l4), (.v (.int .i64 n5))] = (
 bif (decide (n5 < (l3.length : Int))) then (
 tst (decide (0 ≤ n5)) (
 look l3 (Int.toNat n5) fun r6 =>
 cI .i64 r6 0 fun n7 =>
 cI .i64 r6 1 fun n8 =>
 tst (decide (0 ≤ n5)) (
 look l4 (Int.toNat n5) fun r9 =>
 cI .i64 r9 0 fun n10 =>
 cI .i64 r9 1 fun n11 =>
 callT T 91 [(.g [(.v (.int .i64 n7)), (.v (.int .i64 n8))]), (.g [(.v (.int .i64 n10)), (.v (.int .i64 n11))])] fun o12 =>
 oD o12.res fun d13 =>
 dB d13 fun b14 =>
 bif (!b14) then (
 some (.ret, [(.v (.bool false))])) else (
 l43x0 T k n [(.fz 2 l3), (.fz 2 l4), (.v (.int .i64 (IntKind.wrap .i64 (n5 + 1))))])))) else (
 some ((.exit 0), []))) := by kernel_rfl
theorem a43q (T : Table) (k : Nat) (l1 : Rows) (l2 : Rows) : evalF T k a43 [(.d (.s 2 l1)), (.d (.s 2 l2))] = (
 bif ((l1.length : Int) != (l2.length : Int)) then (
 some ⟨(.d (.v (.bool false))), []⟩) else (
 aft (l43x0 T k k [(.fz 2 l1), (.fz 2 l2), (.v (.int .i64 0))]) fun e15 ys16 =>
 bif e15.same .ret then (
 aV ys16 0 fun x17 =>
 aB x17 fun b18 =>
 some ⟨(.d (.v (.bool b18))), []⟩) else (
 bif e15.same (.exit 0) then (
 some ⟨(.d (.v (.bool true))), []⟩) else (
 none)))) := by kernel_rfl
/- loop.example/g00119/laws.eqIsle -/

def a13 : AFun := ⟨[.rd, .rd], false, [.t 4], (
  .seq (.reg false [⟨some 2, .box (.t 0), none⟩,
    ⟨some 3, .box (.t 1), none⟩,
    ⟨some 4, .mv (.c (.v (.bool false))), none⟩]) (
  .seq (.seq (.reg false [⟨some 5, .fad 0 (.t 2), none⟩,
    ⟨some 6, .load false [.s] (.t 5), none⟩,
    ⟨some 7, .fad 0 (.t 3), none⟩,
    ⟨some 8, .load false [.s] (.t 7), none⟩,
    ⟨some 9, .bin .neq (.t 6) (.t 8), none⟩]) (
  .cond (.t 9) (.seq (.reg false [⟨some 4, .mv (.c (.v (.bool false))), none⟩]) (
    .ret)) (.skip))) (
  .seq (.seq (.reg false [⟨some 10, .fad 1 (.t 2), none⟩,
    ⟨some 11, .load false [(.i .i64)] (.t 10), none⟩,
    ⟨some 12, .fad 1 (.t 3), none⟩,
    ⟨some 13, .load false [(.i .i64)] (.t 12), none⟩,
    ⟨some 14, .bin .neq (.t 11) (.t 13), none⟩]) (
  .cond (.t 14) (.seq (.reg false [⟨some 4, .mv (.c (.v (.bool false))), none⟩]) (
    .ret)) (.skip))) (
  .seq (.seq (.reg false [⟨some 15, .fad 2 (.t 2), none⟩,
    ⟨some 16, .load false [(.i .i64)] (.t 15), none⟩,
    ⟨some 17, .fad 2 (.t 3), none⟩,
    ⟨some 18, .load false [(.i .i64)] (.t 17), none⟩,
    ⟨some 19, .bin .neq (.t 16) (.t 18), none⟩]) (
  .cond (.t 19) (.seq (.reg false [⟨some 4, .mv (.c (.v (.bool false))), none⟩]) (
    .ret)) (.skip))) (
  .seq (.seq (.reg false [⟨some 20, .fad 3 (.t 2), none⟩,
    ⟨some 21, .load false [(.sl 7)] (.t 20), none⟩,
    ⟨some 22, .fad 3 (.t 3), none⟩,
    ⟨some 23, .load false [(.sl 7)] (.t 22), none⟩,
    ⟨some 24, .call (.f 42) [.rd, .rd] false [.c .b] [(.t 21), (.t 23)], none⟩,
    ⟨some 25, .un .not (.t 24), none⟩]) (
  .cond (.t 25) (.seq (.reg false [⟨some 4, .mv (.c (.v (.bool false))), none⟩]) (
    .ret)) (.skip))) (
  .seq (.seq (.reg false [⟨some 26, .fad 4 (.t 2), none⟩,
    ⟨some 27, .load false [(.sl 2)] (.t 26), none⟩,
    ⟨some 28, .fad 4 (.t 3), none⟩,
    ⟨some 29, .load false [(.sl 2)] (.t 28), none⟩,
    ⟨some 30, .call (.f 43) [.rd, .rd] false [.c .b] [(.t 27), (.t 29)], none⟩,
    ⟨some 31, .un .not (.t 30), none⟩]) (
  .cond (.t 31) (.seq (.reg false [⟨some 4, .mv (.c (.v (.bool false))), none⟩]) (
    .ret)) (.skip))) (
  .seq (.reg false [⟨some 4, .mv (.c (.v (.bool true))), none⟩]) (
  .ret))))))))⟩

theorem a13q (T : Table) (k : Nat) (s1 : ByteArray) (n2 : Int) (n3 : Int) (l4 : Rows) (l5 : Rows) (s6 : ByteArray) (n7 : Int) (n8 : Int) (l9 : Rows) (l10 : Rows) : evalF T k a13 [(.g [(.v (.string s1)), (.v (.int .i64 n2)), (.v (.int .i64 n3)), (.s 7 l4), (.s 2 l5)]), (.g [(.v (.string s6)), (.v (.int .i64 n7)), (.v (.int .i64 n8)), (.s 7 l9), (.s 2 l10)])] = (
 bif (!(bytesEq s1 s6)) then (
 some ⟨(.d (.v (.bool false))), []⟩) else (
 bif (n2 != n7) then (
 some ⟨(.d (.v (.bool false))), []⟩) else (
 bif (n3 != n8) then (
 some ⟨(.d (.v (.bool false))), []⟩) else (
 callT T 42 [(.d (.s 7 l4)), (.d (.s 7 l9))] fun o11 =>
 oD o11.res fun d12 =>
 dB d12 fun b13 =>
 bif (!b13) then (
 some ⟨(.d (.v (.bool false))), []⟩) else (
 callT T 43 [(.d (.s 2 l5)), (.d (.s 2 l10))] fun o14 =>
 oD o14.res fun d15 =>
 dB d15 fun b16 =>
 bif (!b16) then (
 some ⟨(.d (.v (.bool false))), []⟩) else (
 some ⟨(.d (.v (.bool true))), []⟩)))))) := by kernel_rfl
/- loop.example/g00119/laws.eqMsg -/

def a14 : AFun := ⟨[.rd, .rd], false, [.t 4], (
  .seq (.reg false [⟨some 2, .box (.t 0), none⟩,
    ⟨some 3, .box (.t 1), none⟩,
    ⟨some 4, .mv (.c (.v (.bool false))), none⟩]) (
  .seq (.seq (.reg false [⟨some 5, .fad 0 (.t 2), none⟩,
    ⟨some 6, .load false [(.i .i64)] (.t 5), none⟩,
    ⟨some 7, .fad 0 (.t 3), none⟩,
    ⟨some 8, .load false [(.i .i64)] (.t 7), none⟩,
    ⟨some 9, .bin .neq (.t 6) (.t 8), none⟩]) (
  .cond (.t 9) (.seq (.reg false [⟨some 4, .mv (.c (.v (.bool false))), none⟩]) (
    .ret)) (.skip))) (
  .seq (.seq (.reg false [⟨some 10, .fad 1 (.t 2), none⟩,
    ⟨some 11, .load false [.s] (.t 10), none⟩,
    ⟨some 12, .fad 1 (.t 3), none⟩,
    ⟨some 13, .load false [.s] (.t 12), none⟩,
    ⟨some 14, .bin .neq (.t 11) (.t 13), none⟩]) (
  .cond (.t 14) (.seq (.reg false [⟨some 4, .mv (.c (.v (.bool false))), none⟩]) (
    .ret)) (.skip))) (
  .seq (.seq (.reg false [⟨some 15, .fad 2 (.t 2), none⟩,
    ⟨some 16, .load false [(.i .i64)] (.t 15), none⟩,
    ⟨some 17, .fad 2 (.t 3), none⟩,
    ⟨some 18, .load false [(.i .i64)] (.t 17), none⟩,
    ⟨some 19, .bin .neq (.t 16) (.t 18), none⟩]) (
  .cond (.t 19) (.seq (.reg false [⟨some 4, .mv (.c (.v (.bool false))), none⟩]) (
    .ret)) (.skip))) (
  .seq (.seq (.reg false [⟨some 20, .fad 3 (.t 2), none⟩,
    ⟨some 21, .load false [(.sl 7)] (.t 20), none⟩,
    ⟨some 22, .fad 3 (.t 3), none⟩,
    ⟨some 23, .load false [(.sl 7)] (.t 22), none⟩,
    ⟨some 24, .call (.f 42) [.rd, .rd] false [.c .b] [(.t 21), (.t 23)], none⟩,
    ⟨some 25, .un .not (.t 24), none⟩]) (
  .cond (.t 25) (.seq (.reg false [⟨some 4, .mv (.c (.v (.bool false))), none⟩]) (
    .ret)) (.skip))) (
  .seq (.seq (.reg false [⟨some 26, .fad 4 (.t 2), none⟩,
    ⟨some 27, .load false [(.sl 2)] (.t 26), none⟩,
    ⟨some 28, .fad 4 (.t 3), none⟩,
    ⟨some 29, .load false [(.sl 2)] (.t 28), none⟩,
    ⟨some 30, .call (.f 43) [.rd, .rd] false [.c .b] [(.t 27), (.t 29)], none⟩,
    ⟨some 31, .un .not (.t 30), none⟩]) (
  .cond (.t 31) (.seq (.reg false [⟨some 4, .mv (.c (.v (.bool false))), none⟩]) (
    .ret)) (.skip))) (
  .seq (.reg false [⟨some 4, .mv (.c (.v (.bool true))), none⟩]) (
  .ret))))))))⟩

theorem a14q (T : Table) (k : Nat) (n1 : Int) (s2 : ByteArray) (n3 : Int) (l4 : Rows) (l5 : Rows) (n6 : Int) (s7 : ByteArray) (n8 : Int) (l9 : Rows) (l10 : Rows) : evalF T k a14 [(.g [(.v (.int .i64 n1)), (.v (.string s2)), (.v (.int .i64 n3)), (.s 7 l4), (.s 2 l5)]), (.g [(.v (.int .i64 n6)), (.v (.string s7)), (.v (.int .i64 n8)), (.s 7 l9), (.s 2 l10)])] = (
 bif (n1 != n6) then (
 some ⟨(.d (.v (.bool false))), []⟩) else (
 bif (!(bytesEq s2 s7)) then (
 some ⟨(.d (.v (.bool false))), []⟩) else (
 bif (n3 != n8) then (
 some ⟨(.d (.v (.bool false))), []⟩) else (
 callT T 42 [(.d (.s 7 l4)), (.d (.s 7 l9))] fun o11 =>
 oD o11.res fun d12 =>
 dB d12 fun b13 =>
 bif (!b13) then (
 some ⟨(.d (.v (.bool false))), []⟩) else (
 callT T 43 [(.d (.s 2 l5)), (.d (.s 2 l10))] fun o14 =>
 oD o14.res fun d15 =>
 dB d15 fun b16 =>
 bif (!b16) then (
 some ⟨(.d (.v (.bool false))), []⟩) else (
 some ⟨(.d (.v (.bool true))), []⟩)))))) := by kernel_rfl
/- loop.example/g00119/laws.markText -/
def b75x0 : ACode := (
  .seq (.seq (.reg false [⟨some 6, .mv (.t 0), none⟩,
    ⟨some 7, .bin .gtr (.t 6) (.c (.v (.int .i64 0))), none⟩]) (
  .cond (.t 7) (.skip) (.exit 0))) (
  .block 1 (.seq (.reg false [⟨some 8, .mv (.t 0), none⟩,
      ⟨some 9, .bin .rem (.t 8) (.c (.v (.int .i64 10))), none⟩,
      ⟨some 10, .bin .add (.c (.v (.int .i64 48))) (.t 9), none⟩,
      ⟨some 11, .conv (.int .u8) (.t 10), none⟩,
      ⟨some 12, .lit 1 ([[(.v (.int .u8 0))]] : Rows) [(0, (.t 11))], none⟩,
      ⟨some 13, .conv .bytesStr (.t 12), none⟩,
      ⟨some 14, .mv (.t 3), none⟩,
      ⟨some 15, .bin .add (.t 13) (.t 14), none⟩,
      ⟨some 3, .mv (.t 15), none⟩]) (
    .reg false [⟨some 16, .mv (.t 0), none⟩,
      ⟨some 17, .bin .quo (.t 16) (.c (.v (.int .i64 10))), none⟩,
      ⟨some 0, .mv (.t 17), none⟩]))))
def e75x0 : Exits := [((.exit 0), [(3, .c .s)])]
noncomputable def l75x0 (T : Table) (k : Nat) := loopN (evalC ⟨T, []⟩ k b75x0 (Ex × List AV)) [0, 3] e75x0
def a75 : AFun := ⟨[.rd], false, [.t 2], (
  .seq (.reg false [⟨some 2, .mv (.c (.v (.string ({ data := #[] } : ByteArray)))), none⟩]) (
  .seq (.seq (.reg false [⟨some 4, .mv (.t 0), none⟩,
    ⟨some 5, .bin .leq (.t 4) (.c (.v (.int .i64 0))), none⟩]) (
  .cond (.t 5) (.seq (.reg false [⟨some 2, .mv (.c (.v (.string ({ data := #[109, 48] } : ByteArray)))), none⟩]) (
    .ret)) (.skip))) (
  .seq (.reg false [⟨some 3, .mv (.c (.v (.string ({ data := #[] } : ByteArray)))), none⟩]) (
  .seq (.block 0 (.loop [0, 3] e75x0 b75x0)) (
  .seq (.reg false [⟨some 18, .mv (.t 3), none⟩,
    ⟨some 19, .bin .add (.c (.v (.string ({ data := #[109] } : ByteArray)))) (.t 18), none⟩,
    ⟨some 2, .mv (.t 19), none⟩]) (
  .ret))))))⟩
theorem l75x0s (T : Table) (k n : Nat) (n2 : Int) (s3 : ByteArray) : l75x0 T k (n + 1) [(.v (.int .i64 n2)), (.v (.string s3))] = (
 bif (decide (n2 > 0)) then (
 tst (decide (10 ≠ 0)) (
 tst (allBytes ([[(.v (.int .u8 (IntKind.wrap .u8 (IntKind.wrap .i64 (48 + (Int.tmod n2 10))))))]] : Rows)) (
 tst (decide ((bytesOfRows ([[(.v (.int .u8 (IntKind.wrap .u8 (IntKind.wrap .i64 (48 + (Int.tmod n2 10))))))]] : Rows)).size + s3.size ≤ maxLen)) (
 tst (decide (10 ≠ 0)) (
 l75x0 T k n [(.v (.int .i64 (IntKind.wrap .i64 (Int.tdiv n2 10)))), (.v (.string ((bytesOfRows ([[(.v (.int .u8 (IntKind.wrap .u8 (IntKind.wrap .i64 (48 + (Int.tmod n2 10))))))]] : Rows)) ++ s3)))]))))) else (
 some ((.exit 0), [(.v (.string s3))]))) := by kernel_rfl
theorem a75q (T : Table) (k : Nat) (n1 : Int) : evalF T k a75 [(.d (.v (.int .i64 n1)))] = (
 bif (decide (n1 ≤ 0)) then (
 some ⟨(.d (.v (.string ({ data := #[109, 48] } : ByteArray)))), []⟩) else (
 aft (l75x0 T k k [(.v (.int .i64 n1)), (.v (.string ({ data := #[] } : ByteArray)))]) fun e4 ys5 =>
 bif e4.same (.exit 0) then (
 aV ys5 0 fun x6 =>
 aS x6 fun s7 =>
 tst (decide (({ data := #[109] } : ByteArray).size + s7.size ≤ maxLen)) (
 some ⟨(.d (.v (.string (({ data := #[109] } : ByteArray) ++ s7)))), []⟩)) else (
 none))) := by kernel_rfl
/- loop.example/g00119/laws.markStringS -/
def b74x0 : ACode := (
  .seq (.seq (.reg false [⟨some 6, .mv (.t 5), none⟩,
    ⟨some 7, .mv (.t 0), none⟩,
    ⟨some 8, .len false (.t 7), none⟩,
    ⟨some 9, .bin .lss (.t 6) (.t 8), none⟩]) (
  .cond (.t 9) (.skip) (.exit 0))) (
  .seq (.block 1 (.seq (.reg false [⟨some 12, .mv (.t 0), none⟩,
      ⟨some 13, .mv (.t 5), none⟩,
      ⟨some 14, .mv (.t 1), none⟩,
      ⟨some 15, .call (.f 75) [.rd] false [.c .s] [(.t 14)], none⟩,
      ⟨some 16, .iad 1 (.t 12) (.t 13), none⟩,
      ⟨none, .store 1 (.t 16) (.t 15), none⟩]) (
    .reg false [⟨some 17, .mv (.t 1), none⟩,
      ⟨some 18, .bin .add (.t 17) (.c (.v (.int .i64 1))), none⟩,
      ⟨some 1, .mv (.t 18), none⟩]))) (
  .reg false [⟨some 10, .mv (.t 5), none⟩,
    ⟨some 11, .bin .add (.t 10) (.c (.v (.int .i64 1))), none⟩,
    ⟨some 5, .mv (.t 11), none⟩])))
def e74x0 : Exits := [((.exit 0), [(0, .o 1), (1, .c (.i .i64))])]
noncomputable def l74x0 (T : Table) (k : Nat) := loopN (evalC ⟨T, [0]⟩ k b74x0 (Ex × List AV)) [0, 1, 5] e74x0
def a74 : AFun := ⟨[.lent, .rd], false, [.t 4], (
  .seq (.reg false [⟨some 4, .mv (.c (.v (.int .i64 0))), none⟩]) (
  .seq (.seq (.reg false [⟨some 5, .mv (.c (.v (.int .i64 0))), none⟩]) (
  .block 0 (.loop [0, 1, 5] e74x0 b74x0))) (
  .seq (.reg false [⟨some 19, .mv (.t 1), none⟩,
    ⟨some 4, .mv (.t 19), none⟩]) (
  .ret))))⟩
theorem l74x0s (T : Table) (k n : Nat) (l3 : Rows) (n4 : Int) (n5 : Int) : l74x0 T k (n + 1) [(.o 1 l3), (.v (.int .i64 n4)), (.v (.int .i64 n5))] = (
 bif (decide (n5 < (l3.length : Int))) then (
 callT T 75 [(.d (.v (.int .i64 n4)))] fun o6 =>
 oD o6.res fun d7 =>
 dS d7 fun s8 =>
 tst (decide (0 ≤ n5) && decide (Int.toNat n5 < l3.length)) (
 l74x0 T k n [(.o 1 (setD l3 (Int.toNat n5) 0 (.v (.string s8)))), (.v (.int .i64 (IntKind.wrap .i64 (n4 + 1)))), (.v (.int .i64 (IntKind.wrap .i64 (n5 + 1))))])) else (
 some ((.exit 0), [(.o 1 l3), (.v (.int .i64 n4))]))) := by kernel_rfl
theorem a74q (T : Table) (k : Nat) (l1 : Rows) (n2 : Int) : evalF T k a74 [(.d (.s 1 l1)), (.d (.v (.int .i64 n2)))] = (
 aft (l74x0 T k k [(.o 1 l1), (.v (.int .i64 n2)), (.v (.int .i64 0))]) fun e9 ys10 =>
 bif e9.same (.exit 0) then (
 aV ys10 0 fun x11 =>
 aO 1 x11 fun l12 =>
 aV ys10 1 fun x13 =>
 aI .i64 x13 fun n14 =>
 some ⟨(.d (.v (.int .i64 n14))), [(.d (.s 1 l12))]⟩) else (
 none)) := by kernel_rfl
/- loop.example/g00119/laws.markValueS -/
def b92x0 : ACode := (
  .seq (.seq (.reg false [⟨some 6, .mv (.t 5), none⟩,
    ⟨some 7, .mv (.t 0), none⟩,
    ⟨some 8, .len false (.t 7), none⟩,
    ⟨some 9, .bin .lss (.t 6) (.t 8), none⟩]) (
  .cond (.t 9) (.skip) (.exit 0))) (
  .seq (.block 1 (.seq (.reg false [⟨some 12, .mv (.t 0), none⟩,
      ⟨some 13, .mv (.t 5), none⟩,
      ⟨some 14, .mv (.t 1), none⟩,
      ⟨some 15, .iad 5 (.t 12) (.t 13), none⟩,
      ⟨some 16, .fad 0 (.t 15), none⟩,
      ⟨none, .store 1 (.t 16) (.t 14), none⟩]) (
    .seq (.reg false [⟨some 17, .mv (.t 1), none⟩,
      ⟨some 18, .bin .add (.t 17) (.c (.v (.int .i64 1))), none⟩,
      ⟨some 1, .mv (.t 18), none⟩]) (
    .seq (.reg false [⟨some 19, .mv (.t 0), none⟩,
      ⟨some 20, .mv (.t 5), none⟩,
      ⟨some 21, .mv (.t 1), none⟩,
      ⟨some 22, .call (.f 75) [.rd] false [.c .s] [(.t 21)], none⟩,
      ⟨some 23, .iad 5 (.t 19) (.t 20), none⟩,
      ⟨some 24, .fad 1 (.t 23), none⟩,
      ⟨none, .store 1 (.t 24) (.t 22), none⟩]) (
    .seq (.reg false [⟨some 25, .mv (.t 1), none⟩,
      ⟨some 26, .bin .add (.t 25) (.c (.v (.int .i64 1))), none⟩,
      ⟨some 1, .mv (.t 26), none⟩]) (
    .seq (.reg false [⟨some 27, .mv (.t 0), none⟩,
      ⟨some 28, .mv (.t 5), none⟩,
      ⟨some 29, .mv (.t 1), none⟩,
      ⟨some 30, .iad 5 (.t 27) (.t 28), none⟩,
      ⟨some 31, .fad 2 (.t 30), none⟩,
      ⟨none, .store 1 (.t 31) (.t 29), none⟩]) (
    .seq (.reg false [⟨some 32, .mv (.t 1), none⟩,
      ⟨some 33, .bin .add (.t 32) (.c (.v (.int .i64 1))), none⟩,
      ⟨some 1, .mv (.t 33), none⟩]) (
    .seq (.reg false [⟨some 34, .mv (.t 0), none⟩,
      ⟨some 35, .mv (.t 5), none⟩,
      ⟨some 36, .iad 5 (.t 34) (.t 35), none⟩,
      ⟨some 37, .fad 3 (.t 36), none⟩,
      ⟨some 38, .load false [(.sl 1)] (.t 37), none⟩,
      ⟨some 39, .mv (.t 1), none⟩,
      ⟨some 40, .call (.f 74) [.lent, .rd] false [.c (.i .i64)] [(.t 38), (.t 39)], none⟩,
      ⟨some 1, .mv (.t 40), none⟩]) (
    .reg false [⟨some 41, .mv (.t 0), none⟩,
      ⟨some 42, .mv (.t 5), none⟩,
      ⟨some 43, .iad 5 (.t 41) (.t 42), none⟩,
      ⟨some 44, .fad 4 (.t 43), none⟩,
      ⟨some 45, .load false [(.sl 5)] (.t 44), none⟩,
      ⟨some 46, .mv (.t 1), none⟩,
      ⟨some 47, .call (.f 92) [.lent, .rd] false [.c (.i .i64)] [(.t 45), (.t 46)], none⟩,
      ⟨some 1, .mv (.t 47), none⟩]))))))))) (
  .reg false [⟨some 10, .mv (.t 5), none⟩,
    ⟨some 11, .bin .add (.t 10) (.c (.v (.int .i64 1))), none⟩,
    ⟨some 5, .mv (.t 11), none⟩])))
def e92x0 : Exits := [((.exit 0), [(0, .o 5), (1, .c (.i .i64))])]
noncomputable def l92x0 (T : Table) (k : Nat) := loopN (evalC ⟨T, [0]⟩ k b92x0 (Ex × List AV)) [0, 1, 5] e92x0
def a92 : AFun := ⟨[.lent, .rd], false, [.t 4], (
  .seq (.reg false [⟨some 4, .mv (.c (.v (.int .i64 0))), none⟩]) (
  .seq (.seq (.reg false [⟨some 5, .mv (.c (.v (.int .i64 0))), none⟩]) (
  .block 0 (.loop [0, 1, 5] e92x0 b92x0))) (
  .seq (.reg false [⟨some 48, .mv (.t 1), none⟩,
    ⟨some 4, .mv (.t 48), none⟩]) (
  .ret))))⟩
theorem l92x0s (T : Table) (k n : Nat) (l3 : Rows) (n4 : Int) (n5 : Int) : l92x0 T k (n + 1) [(.o 5 l3), (.v (.int .i64 n4)), (.v (.int .i64 n5))] = (
 bif (decide (n5 < (l3.length : Int))) then (
 tst (decide (0 ≤ n5) && decide (Int.toNat n5 < l3.length)) (
 callT T 75 [(.d (.v (.int .i64 (IntKind.wrap .i64 (n4 + 1)))))] fun o6 =>
 oD o6.res fun d7 =>
 dS d7 fun s8 =>
 tst (decide (0 ≤ n5) && decide (Int.toNat n5 < (setD l3 (Int.toNat n5) 0 (.v (.int .i64 n4))).length)) (
 tst (decide (0 ≤ n5) && decide (Int.toNat n5 < (setD (setD l3 (Int.toNat n5) 0 (.v (.int .i64 n4))) (Int.toNat n5) 1 (.v (.string s8))).length)) (
 tst (decide (0 ≤ n5) && decide (Int.toNat n5 < (setD (setD (setD l3 (Int.toNat n5) 0 (.v (.int .i64 n4))) (Int.toNat n5) 1 (.v (.string s8))) (Int.toNat n5) 2 (.v (.int .i64 (IntKind.wrap .i64 ((IntKind.wrap .i64 (n4 + 1)) + 1))))).length)) (
 look (setD (setD (setD l3 (Int.toNat n5) 0 (.v (.int .i64 n4))) (Int.toNat n5) 1 (.v (.string s8))) (Int.toNat n5) 2 (.v (.int .i64 (IntKind.wrap .i64 ((IntKind.wrap .i64 (n4 + 1)) + 1))))) (Int.toNat n5) fun r9 =>
 cL 1 r9 3 fun l10 =>
 callT T 74 [(.d (.s 1 l10)), (.d (.v (.int .i64 (IntKind.wrap .i64 ((IntKind.wrap .i64 ((IntKind.wrap .i64 (n4 + 1)) + 1)) + 1)))))] fun o11 =>
 nth o11.back 0 fun i12 =>
 oD i12 fun d13 =>
 dL 1 d13 fun l14 =>
 oD o11.res fun d15 =>
 dI .i64 d15 fun n16 =>
 tst (decide (0 ≤ n5) && decide (Int.toNat n5 < (setD (setD (setD l3 (Int.toNat n5) 0 (.v (.int .i64 n4))) (Int.toNat n5) 1 (.v (.string s8))) (Int.toNat n5) 2 (.v (.int .i64 (IntKind.wrap .i64 ((IntKind.wrap .i64 (n4 + 1)) + 1))))).length)) (
 look (setD (setD (setD l3 (Int.toNat n5) 0 (.v (.int .i64 n4))) (Int.toNat n5) 1 (.v (.string s8))) (Int.toNat n5) 2 (.v (.int .i64 (IntKind.wrap .i64 ((IntKind.wrap .i64 (n4 + 1)) + 1))))) (Int.toNat n5) fun r17 =>
 cL 5 r17 4 fun l18 =>
 callT T 92 [(.d (.s 5 l18)), (.d (.v (.int .i64 n16)))] fun o19 =>
 nth o19.back 0 fun i20 =>
 oD i20 fun d21 =>
 dL 5 d21 fun l22 =>
 oD o19.res fun d23 =>
 dI .i64 d23 fun n24 =>
 l92x0 T k n [(.o 5 (setD (setD (setD (setD (setD l3 (Int.toNat n5) 0 (.v (.int .i64 n4))) (Int.toNat n5) 1 (.v (.string s8))) (Int.toNat n5) 2 (.v (.int .i64 (IntKind.wrap .i64 ((IntKind.wrap .i64 (n4 + 1)) + 1))))) (Int.toNat n5) 4 (.s 5 l22)) (Int.toNat n5) 3 (.s 1 l14))), (.v (.int .i64 n24)), (.v (.int .i64 (IntKind.wrap .i64 (n5 + 1))))])))))) else (
 some ((.exit 0), [(.o 5 l3), (.v (.int .i64 n4))]))) := by kernel_rfl
theorem a92q (T : Table) (k : Nat) (l1 : Rows) (n2 : Int) : evalF T k a92 [(.d (.s 5 l1)), (.d (.v (.int .i64 n2)))] = (
 aft (l92x0 T k k [(.o 5 l1), (.v (.int .i64 n2)), (.v (.int .i64 0))]) fun e25 ys26 =>
 bif e25.same (.exit 0) then (
 aV ys26 0 fun x27 =>
 aO 5 x27 fun l28 =>
 aV ys26 1 fun x29 =>
 aI .i64 x29 fun n30 =>
 some ⟨(.d (.v (.int .i64 n30))), [(.d (.s 5 l28))]⟩) else (
 none)) := by kernel_rfl
/- loop.example/g00119/laws.markWorkS -/
def b44x0 : ACode := (
  .seq (.seq (.reg false [⟨some 6, .mv (.t 5), none⟩,
    ⟨some 7, .mv (.t 0), none⟩,
    ⟨some 8, .len false (.t 7), none⟩,
    ⟨some 9, .bin .lss (.t 6) (.t 8), none⟩]) (
  .cond (.t 9) (.skip) (.exit 0))) (
  .seq (.block 1 (.seq (.reg false [⟨some 12, .mv (.t 0), none⟩,
      ⟨some 13, .mv (.t 5), none⟩,
      ⟨some 14, .mv (.t 1), none⟩,
      ⟨some 15, .iad 7 (.t 12) (.t 13), none⟩,
      ⟨some 16, .fad 0 (.t 15), none⟩,
      ⟨none, .store 1 (.t 16) (.t 14), none⟩]) (
    .seq (.reg false [⟨some 17, .mv (.t 1), none⟩,
      ⟨some 18, .bin .add (.t 17) (.c (.v (.int .i64 1))), none⟩,
      ⟨some 1, .mv (.t 18), none⟩]) (
    .seq (.reg false [⟨some 19, .mv (.t 0), none⟩,
      ⟨some 20, .mv (.t 5), none⟩,
      ⟨some 21, .mv (.t 1), none⟩,
      ⟨some 22, .iad 7 (.t 19) (.t 20), none⟩,
      ⟨some 23, .fad 1 (.t 22), none⟩,
      ⟨none, .store 1 (.t 23) (.t 21), none⟩]) (
    .seq (.reg false [⟨some 24, .mv (.t 1), none⟩,
      ⟨some 25, .bin .add (.t 24) (.c (.v (.int .i64 1))), none⟩,
      ⟨some 1, .mv (.t 25), none⟩]) (
    .seq (.reg false [⟨some 26, .mv (.t 0), none⟩,
      ⟨some 27, .mv (.t 5), none⟩,
      ⟨some 28, .mv (.t 1), none⟩,
      ⟨some 29, .iad 7 (.t 26) (.t 27), none⟩,
      ⟨some 30, .fad 2 (.t 29), none⟩,
      ⟨some 31, .fad 0 (.t 30), none⟩,
      ⟨none, .store 1 (.t 31) (.t 28), none⟩]) (
    .seq (.reg false [⟨some 32, .mv (.t 1), none⟩,
      ⟨some 33, .bin .add (.t 32) (.c (.v (.int .i64 1))), none⟩,
      ⟨some 1, .mv (.t 33), none⟩]) (
    .seq (.reg false [⟨some 34, .mv (.t 0), none⟩,
      ⟨some 35, .mv (.t 5), none⟩,
      ⟨some 36, .mv (.t 1), none⟩,
      ⟨some 37, .call (.f 75) [.rd] false [.c .s] [(.t 36)], none⟩,
      ⟨some 38, .iad 7 (.t 34) (.t 35), none⟩,
      ⟨some 39, .fad 2 (.t 38), none⟩,
      ⟨some 40, .fad 1 (.t 39), none⟩,
      ⟨none, .store 1 (.t 40) (.t 37), none⟩]) (
    .seq (.reg false [⟨some 41, .mv (.t 1), none⟩,
      ⟨some 42, .bin .add (.t 41) (.c (.v (.int .i64 1))), none⟩,
      ⟨some 1, .mv (.t 42), none⟩]) (
    .seq (.reg false [⟨some 43, .mv (.t 0), none⟩,
      ⟨some 44, .mv (.t 5), none⟩,
      ⟨some 45, .mv (.t 1), none⟩,
      ⟨some 46, .iad 7 (.t 43) (.t 44), none⟩,
      ⟨some 47, .fad 2 (.t 46), none⟩,
      ⟨some 48, .fad 2 (.t 47), none⟩,
      ⟨none, .store 1 (.t 48) (.t 45), none⟩]) (
    .seq (.reg false [⟨some 49, .mv (.t 1), none⟩,
      ⟨some 50, .bin .add (.t 49) (.c (.v (.int .i64 1))), none⟩,
      ⟨some 1, .mv (.t 50), none⟩]) (
    .seq (.reg false [⟨some 51, .mv (.t 0), none⟩,
      ⟨some 52, .mv (.t 5), none⟩,
      ⟨some 53, .iad 7 (.t 51) (.t 52), none⟩,
      ⟨some 54, .fad 2 (.t 53), none⟩,
      ⟨some 55, .fad 3 (.t 54), none⟩,
      ⟨some 56, .load false [(.sl 1)] (.t 55), none⟩,
      ⟨some 57, .mv (.t 1), none⟩,
      ⟨some 58, .call (.f 74) [.lent, .rd] false [.c (.i .i64)] [(.t 56), (.t 57)], none⟩,
      ⟨some 1, .mv (.t 58), none⟩]) (
    .reg false [⟨some 59, .mv (.t 0), none⟩,
      ⟨some 60, .mv (.t 5), none⟩,
      ⟨some 61, .iad 7 (.t 59) (.t 60), none⟩,
      ⟨some 62, .fad 2 (.t 61), none⟩,
      ⟨some 63, .fad 4 (.t 62), none⟩,
      ⟨some 64, .load false [(.sl 5)] (.t 63), none⟩,
      ⟨some 65, .mv (.t 1), none⟩,
      ⟨some 66, .call (.f 92) [.lent, .rd] false [.c (.i .i64)] [(.t 64), (.t 65)], none⟩,
      ⟨some 1, .mv (.t 66), none⟩]))))))))))))) (
  .reg false [⟨some 10, .mv (.t 5), none⟩,
    ⟨some 11, .bin .add (.t 10) (.c (.v (.int .i64 1))), none⟩,
    ⟨some 5, .mv (.t 11), none⟩])))
def e44x0 : Exits := [((.exit 0), [(0, .o 7), (1, .c (.i .i64))])]
noncomputable def l44x0 (T : Table) (k : Nat) := loopN (evalC ⟨T, [0]⟩ k b44x0 (Ex × List AV)) [0, 1, 5] e44x0
def a44 : AFun := ⟨[.lent, .rd], false, [.t 4], (
  .seq (.reg false [⟨some 4, .mv (.c (.v (.int .i64 0))), none⟩]) (
  .seq (.seq (.reg false [⟨some 5, .mv (.c (.v (.int .i64 0))), none⟩]) (
  .block 0 (.loop [0, 1, 5] e44x0 b44x0))) (
  .seq (.reg false [⟨some 67, .mv (.t 1), none⟩,
    ⟨some 4, .mv (.t 67), none⟩]) (
  .ret))))⟩
theorem l44x0s (T : Table) (k n : Nat) (l3 : Rows) (n4 : Int) (n5 : Int) : l44x0 T k (n + 1) [(.o 7 l3), (.v (.int .i64 n4)), (.v (.int .i64 n5))] = (
 bif (decide (n5 < (l3.length : Int))) then (
 tst (decide (0 ≤ n5) && decide (Int.toNat n5 < l3.length)) (
 tst (decide (0 ≤ n5) && decide (Int.toNat n5 < (setD l3 (Int.toNat n5) 0 (.v (.int .i64 n4))).length)) (
 tst (decide (0 ≤ n5) && decide (Int.toNat n5 < (setD (setD l3 (Int.toNat n5) 0 (.v (.int .i64 n4))) (Int.toNat n5) 1 (.v (.int .i64 (IntKind.wrap .i64 (n4 + 1))))).length)) (
 callT T 75 [(.d (.v (.int .i64 (IntKind.wrap .i64 ((IntKind.wrap .i64 ((IntKind.wrap .i64 (n4 + 1)) + 1)) + 1)))))] fun o6 =>
 oD o6.res fun d7 =>
 dS d7 fun s8 =>
 tst (decide (0 ≤ n5) && decide (Int.toNat n5 < (setD (setD (setD l3 (Int.toNat n5) 0 (.v (.int .i64 n4))) (Int.toNat n5) 1 (.v (.int .i64 (IntKind.wrap .i64 (n4 + 1))))) (Int.toNat n5) 2 (.v (.int .i64 (IntKind.wrap .i64 ((IntKind.wrap .i64 (n4 + 1)) + 1))))).length)) (
 tst (decide (0 ≤ n5) && decide (Int.toNat n5 < (setD (setD (setD (setD l3 (Int.toNat n5) 0 (.v (.int .i64 n4))) (Int.toNat n5) 1 (.v (.int .i64 (IntKind.wrap .i64 (n4 + 1))))) (Int.toNat n5) 2 (.v (.int .i64 (IntKind.wrap .i64 ((IntKind.wrap .i64 (n4 + 1)) + 1))))) (Int.toNat n5) 3 (.v (.string s8))).length)) (
 tst (decide (0 ≤ n5) && decide (Int.toNat n5 < (setD (setD (setD (setD (setD l3 (Int.toNat n5) 0 (.v (.int .i64 n4))) (Int.toNat n5) 1 (.v (.int .i64 (IntKind.wrap .i64 (n4 + 1))))) (Int.toNat n5) 2 (.v (.int .i64 (IntKind.wrap .i64 ((IntKind.wrap .i64 (n4 + 1)) + 1))))) (Int.toNat n5) 3 (.v (.string s8))) (Int.toNat n5) 4 (.v (.int .i64 (IntKind.wrap .i64 ((IntKind.wrap .i64 ((IntKind.wrap .i64 ((IntKind.wrap .i64 (n4 + 1)) + 1)) + 1)) + 1))))).length)) (
 look (setD (setD (setD (setD (setD l3 (Int.toNat n5) 0 (.v (.int .i64 n4))) (Int.toNat n5) 1 (.v (.int .i64 (IntKind.wrap .i64 (n4 + 1))))) (Int.toNat n5) 2 (.v (.int .i64 (IntKind.wrap .i64 ((IntKind.wrap .i64 (n4 + 1)) + 1))))) (Int.toNat n5) 3 (.v (.string s8))) (Int.toNat n5) 4 (.v (.int .i64 (IntKind.wrap .i64 ((IntKind.wrap .i64 ((IntKind.wrap .i64 ((IntKind.wrap .i64 (n4 + 1)) + 1)) + 1)) + 1))))) (Int.toNat n5) fun r9 =>
 cL 1 r9 5 fun l10 =>
 callT T 74 [(.d (.s 1 l10)), (.d (.v (.int .i64 (IntKind.wrap .i64 ((IntKind.wrap .i64 ((IntKind.wrap .i64 ((IntKind.wrap .i64 ((IntKind.wrap .i64 (n4 + 1)) + 1)) + 1)) + 1)) + 1)))))] fun o11 =>
 nth o11.back 0 fun i12 =>
 oD i12 fun d13 =>
 dL 1 d13 fun l14 =>
 oD o11.res fun d15 =>
 dI .i64 d15 fun n16 =>
 tst (decide (0 ≤ n5) && decide (Int.toNat n5 < (setD (setD (setD (setD (setD l3 (Int.toNat n5) 0 (.v (.int .i64 n4))) (Int.toNat n5) 1 (.v (.int .i64 (IntKind.wrap .i64 (n4 + 1))))) (Int.toNat n5) 2 (.v (.int .i64 (IntKind.wrap .i64 ((IntKind.wrap .i64 (n4 + 1)) + 1))))) (Int.toNat n5) 3 (.v (.string s8))) (Int.toNat n5) 4 (.v (.int .i64 (IntKind.wrap .i64 ((IntKind.wrap .i64 ((IntKind.wrap .i64 ((IntKind.wrap .i64 (n4 + 1)) + 1)) + 1)) + 1))))).length)) (
 look (setD (setD (setD (setD (setD l3 (Int.toNat n5) 0 (.v (.int .i64 n4))) (Int.toNat n5) 1 (.v (.int .i64 (IntKind.wrap .i64 (n4 + 1))))) (Int.toNat n5) 2 (.v (.int .i64 (IntKind.wrap .i64 ((IntKind.wrap .i64 (n4 + 1)) + 1))))) (Int.toNat n5) 3 (.v (.string s8))) (Int.toNat n5) 4 (.v (.int .i64 (IntKind.wrap .i64 ((IntKind.wrap .i64 ((IntKind.wrap .i64 ((IntKind.wrap .i64 (n4 + 1)) + 1)) + 1)) + 1))))) (Int.toNat n5) fun r17 =>
 cL 5 r17 6 fun l18 =>
 callT T 92 [(.d (.s 5 l18)), (.d (.v (.int .i64 n16)))] fun o19 =>
 nth o19.back 0 fun i20 =>
 oD i20 fun d21 =>
 dL 5 d21 fun l22 =>
 oD o19.res fun d23 =>
 dI .i64 d23 fun n24 =>
 l44x0 T k n [(.o 7 (setD (setD (setD (setD (setD (setD (setD l3 (Int.toNat n5) 0 (.v (.int .i64 n4))) (Int.toNat n5) 1 (.v (.int .i64 (IntKind.wrap .i64 (n4 + 1))))) (Int.toNat n5) 2 (.v (.int .i64 (IntKind.wrap .i64 ((IntKind.wrap .i64 (n4 + 1)) + 1))))) (Int.toNat n5) 3 (.v (.string s8))) (Int.toNat n5) 4 (.v (.int .i64 (IntKind.wrap .i64 ((IntKind.wrap .i64 ((IntKind.wrap .i64 ((IntKind.wrap .i64 (n4 + 1)) + 1)) + 1)) + 1))))) (Int.toNat n5) 6 (.s 5 l22)) (Int.toNat n5) 5 (.s 1 l14))), (.v (.int .i64 n24)), (.v (.int .i64 (IntKind.wrap .i64 (n5 + 1))))])))))))) else (
 some ((.exit 0), [(.o 7 l3), (.v (.int .i64 n4))]))) := by kernel_rfl
theorem a44q (T : Table) (k : Nat) (l1 : Rows) (n2 : Int) : evalF T k a44 [(.d (.s 7 l1)), (.d (.v (.int .i64 n2)))] = (
 aft (l44x0 T k k [(.o 7 l1), (.v (.int .i64 n2)), (.v (.int .i64 0))]) fun e25 ys26 =>
 bif e25.same (.exit 0) then (
 aV ys26 0 fun x27 =>
 aO 7 x27 fun l28 =>
 aV ys26 1 fun x29 =>
 aI .i64 x29 fun n30 =>
 some ⟨(.d (.v (.int .i64 n30))), [(.d (.s 7 l28))]⟩) else (
 none)) := by kernel_rfl
/- loop.example/g00119/laws.markRunS -/
def b45x0 : ACode := (
  .seq (.seq (.reg false [⟨some 6, .mv (.t 5), none⟩,
    ⟨some 7, .mv (.t 0), none⟩,
    ⟨some 8, .len false (.t 7), none⟩,
    ⟨some 9, .bin .lss (.t 6) (.t 8), none⟩]) (
  .cond (.t 9) (.skip) (.exit 0))) (
  .seq (.block 1 (.seq (.reg false [⟨some 12, .mv (.t 0), none⟩,
      ⟨some 13, .mv (.t 5), none⟩,
      ⟨some 14, .mv (.t 1), none⟩,
      ⟨some 15, .iad 2 (.t 12) (.t 13), none⟩,
      ⟨some 16, .fad 0 (.t 15), none⟩,
      ⟨none, .store 1 (.t 16) (.t 14), none⟩]) (
    .seq (.reg false [⟨some 17, .mv (.t 1), none⟩,
      ⟨some 18, .bin .add (.t 17) (.c (.v (.int .i64 1))), none⟩,
      ⟨some 1, .mv (.t 18), none⟩]) (
    .seq (.reg false [⟨some 19, .mv (.t 0), none⟩,
      ⟨some 20, .mv (.t 5), none⟩,
      ⟨some 21, .mv (.t 1), none⟩,
      ⟨some 22, .iad 2 (.t 19) (.t 20), none⟩,
      ⟨some 23, .fad 1 (.t 22), none⟩,
      ⟨none, .store 1 (.t 23) (.t 21), none⟩]) (
    .reg false [⟨some 24, .mv (.t 1), none⟩,
      ⟨some 25, .bin .add (.t 24) (.c (.v (.int .i64 1))), none⟩,
      ⟨some 1, .mv (.t 25), none⟩]))))) (
  .reg false [⟨some 10, .mv (.t 5), none⟩,
    ⟨some 11, .bin .add (.t 10) (.c (.v (.int .i64 1))), none⟩,
    ⟨some 5, .mv (.t 11), none⟩])))
def e45x0 : Exits := [((.exit 0), [(0, .o 2), (1, .c (.i .i64))])]
noncomputable def l45x0 (T : Table) (k : Nat) := loopN (evalC ⟨T, [0]⟩ k b45x0 (Ex × List AV)) [0, 1, 5] e45x0
def a45 : AFun := ⟨[.lent, .rd], false, [.t 4], (
  .seq (.reg false [⟨some 4, .mv (.c (.v (.int .i64 0))), none⟩]) (
  .seq (.seq (.reg false [⟨some 5, .mv (.c (.v (.int .i64 0))), none⟩]) (
  .block 0 (.loop [0, 1, 5] e45x0 b45x0))) (
  .seq (.reg false [⟨some 26, .mv (.t 1), none⟩,
    ⟨some 4, .mv (.t 26), none⟩]) (
  .ret))))⟩
theorem l45x0s (T : Table) (k n : Nat) (l3 : Rows) (n4 : Int) (n5 : Int) : l45x0 T k (n + 1) [(.o 2 l3), (.v (.int .i64 n4)), (.v (.int .i64 n5))] = (
 bif (decide (n5 < (l3.length : Int))) then (
 tst (decide (0 ≤ n5) && decide (Int.toNat n5 < l3.length)) (
 tst (decide (0 ≤ n5) && decide (Int.toNat n5 < (setD l3 (Int.toNat n5) 0 (.v (.int .i64 n4))).length)) (
 l45x0 T k n [(.o 2 (setD (setD l3 (Int.toNat n5) 0 (.v (.int .i64 n4))) (Int.toNat n5) 1 (.v (.int .i64 (IntKind.wrap .i64 (n4 + 1)))))), (.v (.int .i64 (IntKind.wrap .i64 ((IntKind.wrap .i64 (n4 + 1)) + 1)))), (.v (.int .i64 (IntKind.wrap .i64 (n5 + 1))))]))) else (
 some ((.exit 0), [(.o 2 l3), (.v (.int .i64 n4))]))) := by kernel_rfl
theorem a45q (T : Table) (k : Nat) (l1 : Rows) (n2 : Int) : evalF T k a45 [(.d (.s 2 l1)), (.d (.v (.int .i64 n2)))] = (
 aft (l45x0 T k k [(.o 2 l1), (.v (.int .i64 n2)), (.v (.int .i64 0))]) fun e6 ys7 =>
 bif e6.same (.exit 0) then (
 aV ys7 0 fun x8 =>
 aO 2 x8 fun l9 =>
 aV ys7 1 fun x10 =>
 aI .i64 x10 fun n11 =>
 some ⟨(.d (.v (.int .i64 n11))), [(.d (.s 2 l9))]⟩) else (
 none)) := by kernel_rfl
/- loop.example/g00119/laws.markIsle -/

def a15 : AFun := ⟨[.lent, .rd], false, [.t 4], (
  .seq (.reg false [⟨some 2, .box (.t 0), none⟩,
    ⟨some 4, .mv (.c (.v (.int .i64 0))), none⟩]) (
  .seq (.reg false [⟨some 5, .fad 3 (.t 2), none⟩,
    ⟨some 6, .load false [(.sl 7)] (.t 5), none⟩,
    ⟨some 7, .mv (.t 1), none⟩,
    ⟨some 8, .call (.f 44) [.lent, .rd] false [.c (.i .i64)] [(.t 6), (.t 7)], none⟩,
    ⟨some 1, .mv (.t 8), none⟩]) (
  .seq (.reg false [⟨some 9, .fad 4 (.t 2), none⟩,
    ⟨some 10, .load false [(.sl 2)] (.t 9), none⟩,
    ⟨some 11, .mv (.t 1), none⟩,
    ⟨some 12, .call (.f 45) [.lent, .rd] false [.c (.i .i64)] [(.t 10), (.t 11)], none⟩,
    ⟨some 1, .mv (.t 12), none⟩]) (
  .seq (.reg false [⟨some 13, .mv (.t 1), none⟩,
    ⟨some 4, .mv (.t 13), none⟩]) (
  .ret)))))⟩

theorem a15q (T : Table) (k : Nat) (s1 : ByteArray) (n2 : Int) (n3 : Int) (l4 : Rows) (l5 : Rows) (n6 : Int) : evalF T k a15 [(.g [(.v (.string s1)), (.v (.int .i64 n2)), (.v (.int .i64 n3)), (.s 7 l4), (.s 2 l5)]), (.d (.v (.int .i64 n6)))] = (
 callT T 44 [(.d (.s 7 l4)), (.d (.v (.int .i64 n6)))] fun o7 =>
 nth o7.back 0 fun i8 =>
 oD i8 fun d9 =>
 dL 7 d9 fun l10 =>
 oD o7.res fun d11 =>
 dI .i64 d11 fun n12 =>
 callT T 45 [(.d (.s 2 l5)), (.d (.v (.int .i64 n12)))] fun o13 =>
 nth o13.back 0 fun i14 =>
 oD i14 fun d15 =>
 dL 2 d15 fun l16 =>
 oD o13.res fun d17 =>
 dI .i64 d17 fun n18 =>
 some ⟨(.d (.v (.int .i64 n18))), [(.g [(.v (.string s1)), (.v (.int .i64 n2)), (.v (.int .i64 n3)), (.s 7 l10), (.s 2 l16)])]⟩) := by kernel_rfl
/- loop.example/g00119/laws.markMsg -/

def a16 : AFun := ⟨[.lent, .rd], false, [.t 4], (
  .seq (.reg false [⟨some 2, .box (.t 0), none⟩,
    ⟨some 4, .mv (.c (.v (.int .i64 0))), none⟩]) (
  .seq (.reg false [⟨some 5, .fad 3 (.t 2), none⟩,
    ⟨some 6, .load false [(.sl 7)] (.t 5), none⟩,
    ⟨some 7, .mv (.t 1), none⟩,
    ⟨some 8, .call (.f 44) [.lent, .rd] false [.c (.i .i64)] [(.t 6), (.t 7)], none⟩,
    ⟨some 1, .mv (.t 8), none⟩]) (
  .seq (.reg false [⟨some 9, .fad 4 (.t 2), none⟩,
    ⟨some 10, .load false [(.sl 2)] (.t 9), none⟩,
    ⟨some 11, .mv (.t 1), none⟩,
    ⟨some 12, .call (.f 45) [.lent, .rd] false [.c (.i .i64)] [(.t 10), (.t 11)], none⟩,
    ⟨some 1, .mv (.t 12), none⟩]) (
  .seq (.reg false [⟨some 13, .mv (.t 1), none⟩,
    ⟨some 4, .mv (.t 13), none⟩]) (
  .ret)))))⟩

theorem a16q (T : Table) (k : Nat) (n1 : Int) (s2 : ByteArray) (n3 : Int) (l4 : Rows) (l5 : Rows) (n6 : Int) : evalF T k a16 [(.g [(.v (.int .i64 n1)), (.v (.string s2)), (.v (.int .i64 n3)), (.s 7 l4), (.s 2 l5)]), (.d (.v (.int .i64 n6)))] = (
 callT T 44 [(.d (.s 7 l4)), (.d (.v (.int .i64 n6)))] fun o7 =>
 nth o7.back 0 fun i8 =>
 oD i8 fun d9 =>
 dL 7 d9 fun l10 =>
 oD o7.res fun d11 =>
 dI .i64 d11 fun n12 =>
 callT T 45 [(.d (.s 2 l5)), (.d (.v (.int .i64 n12)))] fun o13 =>
 nth o13.back 0 fun i14 =>
 oD i14 fun d15 =>
 dL 2 d15 fun l16 =>
 oD o13.res fun d17 =>
 dI .i64 d17 fun n18 =>
 some ⟨(.d (.v (.int .i64 n18))), [(.g [(.v (.int .i64 n1)), (.v (.string s2)), (.v (.int .i64 n3)), (.s 7 l10), (.s 2 l16)])]⟩) := by kernel_rfl
/- loop.example/g00119/spec.l1In -/

def a78 : AFun := ⟨[.rd, .rd, .rd], false, [.t 6], (
  .seq (.reg false [⟨some 6, .mv (.c (.v (.bool false))), none⟩]) (
  .seq (.reg false [⟨some 7, .mv (.t 0), none⟩,
    ⟨some 8, .mv (.t 1), none⟩,
    ⟨some 9, .bin .geq (.t 7) (.t 8), none⟩,
    ⟨some 10, .mv (.t 9), none⟩,
    ⟨some 11, .mv (.t 0), some (10, true)⟩,
    ⟨some 12, .mv (.t 2), some (10, true)⟩,
    ⟨some 13, .bin .leq (.t 11) (.t 12), some (10, true)⟩,
    ⟨some 14, .pick (.t 10) (.t 13) (.c (.v (.bool false))), none⟩,
    ⟨some 6, .mv (.t 14), none⟩]) (
  .ret)))⟩

theorem a78q (T : Table) (k : Nat) (n1 : Int) (n2 : Int) (n3 : Int) : evalF T k a78 [(.d (.v (.int .i64 n1))), (.d (.v (.int .i64 n2))), (.d (.v (.int .i64 n3)))] = (
 bif (decide (n1 ≥ n2)) == true then (
 some ⟨(.d (.v (.bool (decide (n1 ≤ n3))))), []⟩) else (
 some ⟨(.d (.v (.bool false))), []⟩)) := by kernel_rfl
/- loop.example/g00119/spec.NameOk -/
def b77x0 : ACode := (
  .seq (.seq (.reg false [⟨some 4, .mv (.t 3), none⟩,
    ⟨some 5, .mv (.t 0), none⟩,
    ⟨some 6, .len true (.t 5), none⟩,
    ⟨some 7, .bin .lss (.t 4) (.t 6), none⟩]) (
  .cond (.t 7) (.skip) (.exit 0))) (
  .seq (.block 1 (.seq (.reg false [⟨some 10, .mv (.t 0), none⟩,
      ⟨some 11, .mv (.t 3), none⟩,
      ⟨some 12, .idx (.t 10) (.t 11), none⟩,
      ⟨some 13, .conv (.int .i64) (.t 12), none⟩,
      ⟨some 14, .call (.f 78) [.rd, .rd, .rd] false [.c .b] [(.t 13), (.c (.v (.int .i64 97))), (.c (.v (.int .i64 122)))], none⟩,
      ⟨some 15, .un .not (.t 14), none⟩,
      ⟨some 16, .mv (.t 15), none⟩,
      ⟨some 17, .mv (.t 0), some (16, true)⟩,
      ⟨some 18, .mv (.t 3), some (16, true)⟩,
      ⟨some 19, .idx (.t 17) (.t 18), some (16, true)⟩,
      ⟨some 20, .conv (.int .i64) (.t 19), some (16, true)⟩,
      ⟨some 21, .call (.f 78) [.rd, .rd, .rd] false [.c .b] [(.t 20), (.c (.v (.int .i64 48))), (.c (.v (.int .i64 57)))], some (16, true)⟩,
      ⟨some 22, .un .not (.t 21), some (16, true)⟩,
      ⟨some 23, .pick (.t 16) (.t 22) (.c (.v (.bool false))), none⟩,
      ⟨some 24, .mv (.t 23), none⟩,
      ⟨some 25, .mv (.t 0), some (24, true)⟩,
      ⟨some 26, .mv (.t 3), some (24, true)⟩,
      ⟨some 27, .idx (.t 25) (.t 26), some (24, true)⟩,
      ⟨some 28, .bin .neq (.t 27) (.c (.v (.int .u8 45))), some (24, true)⟩,
      ⟨some 29, .pick (.t 24) (.t 28) (.c (.v (.bool false))), none⟩]) (
    .cond (.t 29) (.seq (.reg false [⟨some 2, .mv (.c (.v (.bool false))), none⟩]) (
      .ret)) (.skip)))) (
  .reg false [⟨some 8, .mv (.t 3), none⟩,
    ⟨some 9, .bin .add (.t 8) (.c (.v (.int .i64 1))), none⟩,
    ⟨some 3, .mv (.t 9), none⟩])))
def e77x0 : Exits := [(.ret, [(2, .c .b)]), ((.exit 0), [(0, .c .s)])]
noncomputable def l77x0 (T : Table) (k : Nat) := loopN (evalC ⟨T, []⟩ k b77x0 (Ex × List AV)) [0, 3] e77x0
def a77 : AFun := ⟨[.rd], false, [.t 2], (
  .seq (.reg false [⟨some 2, .mv (.c (.v (.bool false))), none⟩]) (
  .seq (.seq (.reg false [⟨some 3, .mv (.c (.v (.int .i64 0))), none⟩]) (
  .block 0 (.loop [0, 3] e77x0 b77x0))) (
  .seq (.reg false [⟨some 30, .mv (.t 0), none⟩,
    ⟨some 31, .len true (.t 30), none⟩,
    ⟨some 32, .call (.f 78) [.rd, .rd, .rd] false [.c .b] [(.t 31), (.c (.v (.int .i64 1))), (.c (.v (.int .i64 20)))], none⟩,
    ⟨some 33, .mv (.t 32), none⟩,
    ⟨some 34, .mv (.t 0), some (33, true)⟩,
    ⟨some 35, .idx (.t 34) (.c (.v (.int .i64 0))), some (33, true)⟩,
    ⟨some 36, .bin .neq (.t 35) (.c (.v (.int .u8 45))), some (33, true)⟩,
    ⟨some 37, .pick (.t 33) (.t 36) (.c (.v (.bool false))), none⟩,
    ⟨some 38, .mv (.t 37), none⟩,
    ⟨some 39, .mv (.t 0), some (38, true)⟩,
    ⟨some 40, .mv (.t 0), some (38, true)⟩,
    ⟨some 41, .len true (.t 40), some (38, true)⟩,
    ⟨some 42, .bin .sub (.t 41) (.c (.v (.int .i64 1))), some (38, true)⟩,
    ⟨some 43, .idx (.t 39) (.t 42), some (38, true)⟩,
    ⟨some 44, .bin .neq (.t 43) (.c (.v (.int .u8 45))), some (38, true)⟩,
    ⟨some 45, .pick (.t 38) (.t 44) (.c (.v (.bool false))), none⟩,
    ⟨some 2, .mv (.t 45), none⟩]) (
  .ret))))⟩
theorem l77x0s (T : Table) (k n : Nat) (s2 : ByteArray) (n3 : Int) : l77x0 T k (n + 1) [(.v (.string s2)), (.v (.int .i64 n3))] = (
 bif (decide (n3 < (s2.size : Int))) then (
 tst (decide (0 ≤ n3)) (
 byteAt s2 (Int.toNat n3) fun c4 =>
 callT T 78 [(.d (.v (.int .i64 (IntKind.wrap .i64 (c4.toNat : Int))))), (.d (.v (.int .i64 97))), (.d (.v (.int .i64 122)))] fun o5 =>
 oD o5.res fun d6 =>
 dB d6 fun b7 =>
 bif (!b7) == true then (
 tst (decide (0 ≤ n3)) (
 byteAt s2 (Int.toNat n3) fun c8 =>
 callT T 78 [(.d (.v (.int .i64 (IntKind.wrap .i64 (c8.toNat : Int))))), (.d (.v (.int .i64 48))), (.d (.v (.int .i64 57)))] fun o9 =>
 oD o9.res fun d10 =>
 dB d10 fun b11 =>
 bif (!b11) == true then (
 tst (decide (0 ≤ n3)) (
 byteAt s2 (Int.toNat n3) fun c12 =>
 bif ((c12.toNat : Int) != 45) then (
 some (.ret, [(.v (.bool false))])) else (
 l77x0 T k n [(.v (.string s2)), (.v (.int .i64 (IntKind.wrap .i64 (n3 + 1))))]))) else (
 l77x0 T k n [(.v (.string s2)), (.v (.int .i64 (IntKind.wrap .i64 (n3 + 1))))]))) else (
 l77x0 T k n [(.v (.string s2)), (.v (.int .i64 (IntKind.wrap .i64 (n3 + 1))))]))) else (
 some ((.exit 0), [(.v (.string s2))]))) := by kernel_rfl
theorem a77q (T : Table) (k : Nat) (s1 : ByteArray) : evalF T k a77 [(.d (.v (.string s1)))] = (
 aft (l77x0 T k k [(.v (.string s1)), (.v (.int .i64 0))]) fun e13 ys14 =>
 bif e13.same .ret then (
 aV ys14 0 fun x15 =>
 aB x15 fun b16 =>
 some ⟨(.d (.v (.bool b16))), []⟩) else (
 bif e13.same (.exit 0) then (
 aV ys14 0 fun x17 =>
 aS x17 fun s18 =>
 callT T 78 [(.d (.v (.int .i64 (s18.size : Int)))), (.d (.v (.int .i64 1))), (.d (.v (.int .i64 20)))] fun o19 =>
 oD o19.res fun d20 =>
 dB d20 fun b21 =>
 bif b21 == true then (
 tst (decide (0 ≤ 0)) (
 byteAt s18 (Int.toNat 0) fun c22 =>
 bif ((c22.toNat : Int) != 45) == true then (
 tst (decide (0 ≤ (IntKind.wrap .i64 ((s18.size : Int) - 1)))) (
 byteAt s18 (Int.toNat (IntKind.wrap .i64 ((s18.size : Int) - 1))) fun c23 =>
 some ⟨(.d (.v (.bool ((c23.toNat : Int) != 45)))), []⟩)) else (
 some ⟨(.d (.v (.bool false))), []⟩))) else (
 some ⟨(.d (.v (.bool false))), []⟩)) else (
 none))) := by kernel_rfl
/- loop.example/g00119/spec.l11Runs -/
def b79x0 : ACode := (
  .seq (.seq (.reg false [⟨some 6, .mv (.t 5), none⟩,
    ⟨some 7, .mv (.t 0), none⟩,
    ⟨some 8, .len false (.t 7), none⟩,
    ⟨some 9, .bin .lss (.t 6) (.t 8), none⟩]) (
  .cond (.t 9) (.skip) (.exit 0))) (
  .seq (.block 1 (.seq (.dreg [] [(0, ⟨some 12, .mv (.t 0), none⟩),
      (0, ⟨some 13, .mv (.t 5), none⟩),
      (0, ⟨some 14, .iad 2 (.t 12) (.t 13), none⟩),
      (0, ⟨some 15, .fad 0 (.t 14), none⟩),
      (0, ⟨some 16, .load false [(.i .i64)] (.t 15), none⟩),
      (1, ⟨some 17, .call (.f 78) [.rd, .rd, .rd] false [.c .b] [(.t 16), (.c (.v (.int .i64 1))), (.c (.v (.int .i64 1000000)))], none⟩),
      (0, ⟨some 18, .un .not (.t 17), none⟩),
      (0, ⟨some 19, .mv (.t 18), none⟩),
      (0, ⟨some 20, .mv (.t 0), some (19, false)⟩),
      (0, ⟨some 21, .mv (.t 5), some (19, false)⟩),
      (0, ⟨some 22, .iad 2 (.t 20) (.t 21), some (19, false)⟩),
      (0, ⟨some 23, .fad 1 (.t 22), some (19, false)⟩),
      (0, ⟨some 24, .load false [(.i .i64)] (.t 23), some (19, false)⟩),
      (0, ⟨some 25, .mv (.t 1), some (19, false)⟩),
      (1, ⟨some 26, .call (.f 78) [.rd, .rd, .rd] false [.c .b] [(.t 24), (.t 25), (.c (.v (.int .i64 10000)))], some (19, false)⟩),
      (0, ⟨some 27, .un .not (.t 26), some (19, false)⟩),
      (0, ⟨some 28, .pick (.t 19) (.c (.v (.bool true))) (.t 27), none⟩),
      (0, ⟨some 29, .mv (.t 28), none⟩),
      (0, ⟨some 30, .mv (.t 5), some (29, false)⟩),
      (0, ⟨some 31, .bin .gtr (.t 30) (.c (.v (.int .i64 0))), some (29, false)⟩),
      (0, ⟨some 32, .mv (.t 31), some (29, false)⟩),
      (0, ⟨some 33, .mv (.t 0), some (32, true)⟩),
      (0, ⟨some 34, .mv (.t 5), some (32, true)⟩),
      (0, ⟨some 35, .bin .sub (.t 34) (.c (.v (.int .i64 1))), some (32, true)⟩),
      (0, ⟨some 36, .iad 2 (.t 33) (.t 35), some (32, true)⟩),
      (0, ⟨some 37, .fad 0 (.t 36), some (32, true)⟩),
      (0, ⟨some 38, .load false [(.i .i64)] (.t 37), some (32, true)⟩),
      (0, ⟨some 39, .mv (.t 0), some (32, true)⟩),
      (0, ⟨some 40, .mv (.t 5), some (32, true)⟩),
      (0, ⟨some 41, .iad 2 (.t 39) (.t 40), some (32, true)⟩),
      (0, ⟨some 42, .fad 0 (.t 41), some (32, true)⟩),
      (0, ⟨some 43, .load false [(.i .i64)] (.t 42), some (32, true)⟩)] [⟨some 44, .bin .geq (.t 38) (.t 43), some (32, true)⟩,
      ⟨some 45, .pick (.t 32) (.t 44) (.c (.v (.bool false))), some (29, false)⟩,
      ⟨some 46, .pick (.t 29) (.c (.v (.bool true))) (.t 45), none⟩]) (
    .cond (.t 46) (.seq (.reg false [⟨some 4, .mv (.c (.v (.bool false))), none⟩]) (
      .ret)) (.skip)))) (
  .reg false [⟨some 10, .mv (.t 5), none⟩,
    ⟨some 11, .bin .add (.t 10) (.c (.v (.int .i64 1))), none⟩,
    ⟨some 5, .mv (.t 11), none⟩])))
def e79x0 : Exits := [(.ret, [(4, .c .b)]), ((.exit 0), [(0, .c (.sl 2))])]
noncomputable def l79x0 (T : Table) (k : Nat) := loopN (evalC ⟨T, []⟩ k b79x0 (Ex × List AV)) [0, 1, 5] e79x0
def a79 : AFun := ⟨[.rd, .rd], false, [.t 4], (
  .seq (.reg false [⟨some 4, .mv (.c (.v (.bool false))), none⟩]) (
  .seq (.seq (.reg false [⟨some 5, .mv (.c (.v (.int .i64 0))), none⟩]) (
  .block 0 (.loop [0, 1, 5] e79x0 b79x0))) (
  .seq (.reg false [⟨some 47, .mv (.t 0), none⟩,
    ⟨some 48, .len false (.t 47), none⟩,
    ⟨some 49, .bin .leq (.t 48) (.c (.v (.int .i64 80))), none⟩,
    ⟨some 4, .mv (.t 49), none⟩]) (
  .ret))))⟩
theorem l79x0s (T : Table) (k n : Nat) (l3 : Rows) (n4 : Int) (n5 : Int) : l79x0 T k (n + 1) [(.fz 2 l3), (.v (.int .i64 n4)), (.v (.int .i64 n5))] = (
 bif (decide (n5 < (l3.length : Int))) then (
 tst (decide (0 ≤ n5)) (
 look l3 (Int.toNat n5) fun r6 =>
 cI .i64 r6 0 fun n7 =>
 callT T 78 [(.d (.v (.int .i64 n7))), (.d (.v (.int .i64 1))), (.d (.v (.int .i64 1000000)))] fun o8 =>
 oD o8.res fun d9 =>
 dB d9 fun b10 =>
 bif (!b10) == false then (
 tst (decide (0 ≤ n5)) (
 look l3 (Int.toNat n5) fun r11 =>
 cI .i64 r11 1 fun n12 =>
 callT T 78 [(.d (.v (.int .i64 n12))), (.d (.v (.int .i64 n4))), (.d (.v (.int .i64 10000)))] fun o13 =>
 oD o13.res fun d14 =>
 dB d14 fun b15 =>
 bif (!b15) == false then (
 bif (decide (n5 > 0)) == true then (
 tst (decide (0 ≤ (IntKind.wrap .i64 (n5 - 1)))) (
 look l3 (Int.toNat (IntKind.wrap .i64 (n5 - 1))) fun r16 =>
 cI .i64 r16 0 fun n17 =>
 tst (decide (0 ≤ n5)) (
 look l3 (Int.toNat n5) fun r18 =>
 cI .i64 r18 0 fun n19 =>
 bif (decide (n17 ≥ n19)) then (
 some (.ret, [(.v (.bool false))])) else (
 l79x0 T k n [(.fz 2 l3), (.v (.int .i64 n4)), (.v (.int .i64 (IntKind.wrap .i64 (n5 + 1))))])))) else (
 l79x0 T k n [(.fz 2 l3), (.v (.int .i64 n4)), (.v (.int .i64 (IntKind.wrap .i64 (n5 + 1))))])) else (
 some (.ret, [(.v (.bool false))])))) else (
 some (.ret, [(.v (.bool false))])))) else (
 some ((.exit 0), [(.fz 2 l3)]))) := by kernel_rfl
theorem a79q (T : Table) (k : Nat) (l1 : Rows) (n2 : Int) : evalF T k a79 [(.d (.s 2 l1)), (.d (.v (.int .i64 n2)))] = (
 aft (l79x0 T k k [(.fz 2 l1), (.v (.int .i64 n2)), (.v (.int .i64 0))]) fun e20 ys21 =>
 bif e20.same .ret then (
 aV ys21 0 fun x22 =>
 aB x22 fun b23 =>
 some ⟨(.d (.v (.bool b23))), []⟩) else (
 bif e20.same (.exit 0) then (
 aV ys21 0 fun x24 =>
 aL 2 x24 fun l25 =>
 some ⟨(.d (.v (.bool (decide ((l25.length : Int) ≤ 80))))), []⟩) else (
 none))) := by kernel_rfl
/- loop.example/g00119/spec.l4Text -/
def b166x0 : ACode := (
  .seq (.seq (.reg false [⟨some 4, .mv (.t 3), none⟩,
    ⟨some 5, .mv (.t 0), none⟩,
    ⟨some 6, .len true (.t 5), none⟩,
    ⟨some 7, .bin .lss (.t 4) (.t 6), none⟩]) (
  .cond (.t 7) (.skip) (.exit 0))) (
  .seq (.block 1 (.seq (.reg false [⟨some 10, .mv (.t 0), none⟩,
      ⟨some 11, .mv (.t 3), none⟩,
      ⟨some 12, .idx (.t 10) (.t 11), none⟩,
      ⟨some 13, .conv (.int .i64) (.t 12), none⟩,
      ⟨some 14, .call (.f 78) [.rd, .rd, .rd] false [.c .b] [(.t 13), (.c (.v (.int .i64 32))), (.c (.v (.int .i64 126)))], none⟩,
      ⟨some 15, .un .not (.t 14), none⟩]) (
    .cond (.t 15) (.seq (.reg false [⟨some 2, .mv (.c (.v (.bool false))), none⟩]) (
      .ret)) (.skip)))) (
  .reg false [⟨some 8, .mv (.t 3), none⟩,
    ⟨some 9, .bin .add (.t 8) (.c (.v (.int .i64 1))), none⟩,
    ⟨some 3, .mv (.t 9), none⟩])))
def e166x0 : Exits := [(.ret, [(2, .c .b)]), ((.exit 0), [(0, .c .s)])]
noncomputable def l166x0 (T : Table) (k : Nat) := loopN (evalC ⟨T, []⟩ k b166x0 (Ex × List AV)) [0, 3] e166x0
def a166 : AFun := ⟨[.rd], false, [.t 2], (
  .seq (.reg false [⟨some 2, .mv (.c (.v (.bool false))), none⟩]) (
  .seq (.seq (.reg false [⟨some 3, .mv (.c (.v (.int .i64 0))), none⟩]) (
  .block 0 (.loop [0, 3] e166x0 b166x0))) (
  .seq (.reg false [⟨some 16, .mv (.t 0), none⟩,
    ⟨some 17, .len true (.t 16), none⟩,
    ⟨some 18, .bin .leq (.t 17) (.c (.v (.int .i64 100))), none⟩,
    ⟨some 2, .mv (.t 18), none⟩]) (
  .ret))))⟩
theorem l166x0s (T : Table) (k n : Nat) (s2 : ByteArray) (n3 : Int) : l166x0 T k (n + 1) [(.v (.string s2)), (.v (.int .i64 n3))] = (
 bif (decide (n3 < (s2.size : Int))) then (
 tst (decide (0 ≤ n3)) (
 byteAt s2 (Int.toNat n3) fun c4 =>
 callT T 78 [(.d (.v (.int .i64 (IntKind.wrap .i64 (c4.toNat : Int))))), (.d (.v (.int .i64 32))), (.d (.v (.int .i64 126)))] fun o5 =>
 oD o5.res fun d6 =>
 dB d6 fun b7 =>
 bif (!b7) then (
 some (.ret, [(.v (.bool false))])) else (
 l166x0 T k n [(.v (.string s2)), (.v (.int .i64 (IntKind.wrap .i64 (n3 + 1))))]))) else (
 some ((.exit 0), [(.v (.string s2))]))) := by kernel_rfl
theorem a166q (T : Table) (k : Nat) (s1 : ByteArray) : evalF T k a166 [(.d (.v (.string s1)))] = (
 aft (l166x0 T k k [(.v (.string s1)), (.v (.int .i64 0))]) fun e8 ys9 =>
 bif e8.same .ret then (
 aV ys9 0 fun x10 =>
 aB x10 fun b11 =>
 some ⟨(.d (.v (.bool b11))), []⟩) else (
 bif e8.same (.exit 0) then (
 aV ys9 0 fun x12 =>
 aS x12 fun s13 =>
 some ⟨(.d (.v (.bool (decide ((s13.size : Int) ≤ 100))))), []⟩) else (
 none))) := by kernel_rfl
/- loop.example/g00119/spec.l4Keys -/
def b167x0 : ACode := (
  .seq (.seq (.reg false [⟨some 4, .mv (.t 3), none⟩,
    ⟨some 5, .fad 3 (.t 1), none⟩,
    ⟨some 6, .load false [(.sl 1)] (.t 5), none⟩,
    ⟨some 7, .len false (.t 6), none⟩,
    ⟨some 8, .bin .lss (.t 4) (.t 7), none⟩]) (
  .cond (.t 8) (.skip) (.exit 0))) (
  .seq (.block 1 (.seq (.dreg [] [(0, ⟨some 11, .fad 3 (.t 1), none⟩),
      (0, ⟨some 12, .load false [(.sl 1)] (.t 11), none⟩),
      (0, ⟨some 13, .mv (.t 3), none⟩),
      (0, ⟨some 14, .iad 1 (.t 12) (.t 13), none⟩),
      (0, ⟨some 15, .load false [.s] (.t 14), none⟩),
      (1, ⟨some 16, .call (.f 77) [.rd] false [.c .b] [(.t 15)], none⟩),
      (0, ⟨some 17, .un .not (.t 16), none⟩),
      (0, ⟨some 18, .mv (.t 17), none⟩),
      (0, ⟨some 19, .mv (.t 3), some (18, false)⟩),
      (0, ⟨some 20, .bin .gtr (.t 19) (.c (.v (.int .i64 0))), some (18, false)⟩),
      (0, ⟨some 21, .mv (.t 20), some (18, false)⟩),
      (0, ⟨some 22, .fad 3 (.t 1), some (21, true)⟩),
      (0, ⟨some 23, .load false [(.sl 1)] (.t 22), some (21, true)⟩),
      (0, ⟨some 24, .mv (.t 3), some (21, true)⟩),
      (0, ⟨some 25, .bin .sub (.t 24) (.c (.v (.int .i64 1))), some (21, true)⟩),
      (0, ⟨some 26, .iad 1 (.t 23) (.t 25), some (21, true)⟩),
      (0, ⟨some 27, .load false [.s] (.t 26), some (21, true)⟩),
      (0, ⟨some 28, .fad 3 (.t 1), some (21, true)⟩),
      (0, ⟨some 29, .load false [(.sl 1)] (.t 28), some (21, true)⟩),
      (0, ⟨some 30, .mv (.t 3), some (21, true)⟩),
      (0, ⟨some 31, .iad 1 (.t 29) (.t 30), some (21, true)⟩),
      (0, ⟨some 32, .load false [.s] (.t 31), some (21, true)⟩)] [⟨some 33, .bin .geq (.t 27) (.t 32), some (21, true)⟩,
      ⟨some 34, .pick (.t 21) (.t 33) (.c (.v (.bool false))), some (18, false)⟩,
      ⟨some 35, .pick (.t 18) (.c (.v (.bool true))) (.t 34), none⟩]) (
    .cond (.t 35) (.seq (.reg false [⟨some 2, .mv (.c (.v (.bool false))), none⟩]) (
      .ret)) (.skip)))) (
  .reg false [⟨some 9, .mv (.t 3), none⟩,
    ⟨some 10, .bin .add (.t 9) (.c (.v (.int .i64 1))), none⟩,
    ⟨some 3, .mv (.t 10), none⟩])))
def e167x0 : Exits := [(.ret, [(2, .c .b)]), ((.exit 0), [(1, .b [.c (.i .i64), .c .s, .c (.i .i64), .c (.sl 1), .c (.sl 5)])])]
noncomputable def l167x0 (T : Table) (k : Nat) := loopN (evalC ⟨T, []⟩ k b167x0 (Ex × List AV)) [1, 3] e167x0
def a167 : AFun := ⟨[.rd], false, [.t 2], (
  .seq (.reg false [⟨some 1, .box (.t 0), none⟩,
    ⟨some 2, .mv (.c (.v (.bool false))), none⟩]) (
  .seq (.seq (.reg false [⟨some 3, .mv (.c (.v (.int .i64 0))), none⟩]) (
  .block 0 (.loop [1, 3] e167x0 b167x0))) (
  .seq (.reg false [⟨some 36, .fad 3 (.t 1), none⟩,
    ⟨some 37, .load false [(.sl 1)] (.t 36), none⟩,
    ⟨some 38, .len false (.t 37), none⟩,
    ⟨some 39, .fad 4 (.t 1), none⟩,
    ⟨some 40, .load false [(.sl 5)] (.t 39), none⟩,
    ⟨some 41, .len false (.t 40), none⟩,
    ⟨some 42, .bin .eql (.t 38) (.t 41), none⟩,
    ⟨some 2, .mv (.t 42), none⟩]) (
  .ret))))⟩
theorem l167x0s (T : Table) (k n : Nat) (n6 : Int) (s7 : ByteArray) (n8 : Int) (l9 : Rows) (l10 : Rows) (n11 : Int) : l167x0 T k (n + 1) [(.b [(.v (.int .i64 n6)), (.v (.string s7)), (.v (.int .i64 n8)), (.fz 1 l9), (.fz 5 l10)]), (.v (.int .i64 n11))] = (
 bif (decide (n11 < (l9.length : Int))) then (
 tst (decide (0 ≤ n11)) (
 look l9 (Int.toNat n11) fun r12 =>
 cS r12 0 fun s13 =>
 callT T 77 [(.d (.v (.string s13)))] fun o14 =>
 oD o14.res fun d15 =>
 dB d15 fun b16 =>
 bif (!b16) == false then (
 bif (decide (n11 > 0)) == true then (
 tst (decide (0 ≤ (IntKind.wrap .i64 (n11 - 1)))) (
 look l9 (Int.toNat (IntKind.wrap .i64 (n11 - 1))) fun r17 =>
 cS r17 0 fun s18 =>
 tst (decide (0 ≤ n11)) (
 look l9 (Int.toNat n11) fun r19 =>
 cS r19 0 fun s20 =>
 bif (!(bytesLess s18 s20)) then (
 some (.ret, [(.v (.bool false))])) else (
 l167x0 T k n [(.b [(.v (.int .i64 n6)), (.v (.string s7)), (.v (.int .i64 n8)), (.fz 1 l9), (.fz 5 l10)]), (.v (.int .i64 (IntKind.wrap .i64 (n11 + 1))))])))) else (
 l167x0 T k n [(.b [(.v (.int .i64 n6)), (.v (.string s7)), (.v (.int .i64 n8)), (.fz 1 l9), (.fz 5 l10)]), (.v (.int .i64 (IntKind.wrap .i64 (n11 + 1))))])) else (
 some (.ret, [(.v (.bool false))])))) else (
 some ((.exit 0), [(.b [(.v (.int .i64 n6)), (.v (.string s7)), (.v (.int .i64 n8)), (.fz 1 l9), (.fz 5 l10)])]))) := by kernel_rfl
theorem a167q (T : Table) (k : Nat) (n1 : Int) (s2 : ByteArray) (n3 : Int) (l4 : Rows) (l5 : Rows) : evalF T k a167 [(.g [(.v (.int .i64 n1)), (.v (.string s2)), (.v (.int .i64 n3)), (.s 1 l4), (.s 5 l5)])] = (
 aft (l167x0 T k k [(.b [(.v (.int .i64 n1)), (.v (.string s2)), (.v (.int .i64 n3)), (.fz 1 l4), (.fz 5 l5)]), (.v (.int .i64 0))]) fun e21 ys22 =>
 bif e21.same .ret then (
 aV ys22 0 fun x23 =>
 aB x23 fun b24 =>
 some ⟨(.d (.v (.bool b24))), []⟩) else (
 bif e21.same (.exit 0) then (
 aV ys22 0 fun x25 =>
 aX x25 fun xs26 =>
 aV xs26 0 fun x27 =>
 aI .i64 x27 fun n28 =>
 aV xs26 1 fun x29 =>
 aS x29 fun s30 =>
 aV xs26 2 fun x31 =>
 aI .i64 x31 fun n32 =>
 aV xs26 3 fun x33 =>
 aL 1 x33 fun l34 =>
 aV xs26 4 fun x35 =>
 aL 5 x35 fun l36 =>
 some ⟨(.d (.v (.bool ((l34.length : Int) == (l36.length : Int))))), []⟩) else (
 none))) := by kernel_rfl
/- loop.example/g00119/spec.l4Look -/
def b145x0 : ACode := (
  .seq (.seq (.reg false [⟨some 12, .mv (.t 6), none⟩,
    ⟨some 13, .fad 4 (.t 2), none⟩,
    ⟨some 14, .load false [(.sl 5)] (.t 13), none⟩,
    ⟨some 15, .len false (.t 14), none⟩,
    ⟨some 16, .bin .lss (.t 12) (.t 15), none⟩]) (
  .cond (.t 16) (.skip) (.exit 0))) (
  .seq (.block 1 (.seq (.reg false [⟨some 19, .fad 4 (.t 2), none⟩,
      ⟨some 20, .load false [(.sl 5)] (.t 19), none⟩,
      ⟨some 21, .mv (.t 6), none⟩,
      ⟨some 22, .iad 5 (.t 20) (.t 21), none⟩,
      ⟨some 23, .load true [(.i .i64), .s, (.i .i64), (.sl 1), (.sl 5)] (.t 22), none⟩,
      ⟨some 24, .mv (.t 1), none⟩,
      ⟨some 25, .bin .sub (.t 24) (.c (.v (.int .i64 1))), none⟩,
      ⟨some 26, .call (.f 145) [.rd, .rd] false [.c (.i .i64)] [(.t 23), (.t 25)], none⟩,
      ⟨some 7, .mv (.t 26), none⟩]) (
    .seq (.seq (.reg false [⟨some 27, .mv (.t 7), none⟩,
      ⟨some 28, .bin .eql (.t 27) (.c (.v (.int .i64 0))), none⟩,
      ⟨some 29, .mv (.t 28), none⟩,
      ⟨some 30, .mv (.t 5), some (29, false)⟩,
      ⟨some 31, .mv (.t 7), some (29, false)⟩,
      ⟨some 32, .bin .add (.t 30) (.t 31), some (29, false)⟩,
      ⟨some 33, .bin .gtr (.t 32) (.c (.v (.int .i64 300))), some (29, false)⟩,
      ⟨some 34, .pick (.t 29) (.c (.v (.bool true))) (.t 33), none⟩]) (
    .cond (.t 34) (.seq (.reg false [⟨some 4, .mv (.c (.v (.int .i64 0))), none⟩]) (
      .ret)) (.skip))) (
    .reg false [⟨some 35, .mv (.t 5), none⟩,
      ⟨some 36, .mv (.t 7), none⟩,
      ⟨some 37, .bin .add (.t 35) (.t 36), none⟩,
      ⟨some 5, .mv (.t 37), none⟩])))) (
  .reg false [⟨some 17, .mv (.t 6), none⟩,
    ⟨some 18, .bin .add (.t 17) (.c (.v (.int .i64 1))), none⟩,
    ⟨some 6, .mv (.t 18), none⟩])))
def e145x0 : Exits := [(.ret, [(4, .c (.i .i64))]), ((.exit 0), [(2, .b [.c (.i .i64), .c .s, .c (.i .i64), .c (.sl 1), .c (.sl 5)]), (5, .c (.i .i64))])]
noncomputable def l145x0 (T : Table) (k : Nat) := loopN (evalC ⟨T, []⟩ k b145x0 (Ex × List AV)) [1, 2, 5, 6] e145x0
def a145 : AFun := ⟨[.rd, .rd], false, [.t 4], (
  .seq (.reg false [⟨some 2, .box (.t 0), none⟩,
    ⟨some 4, .mv (.c (.v (.int .i64 0))), none⟩]) (
  .seq (.seq (.reg false [⟨some 10, .mv (.t 1), none⟩,
    ⟨some 11, .bin .eql (.t 10) (.c (.v (.int .i64 0))), none⟩]) (
  .cond (.t 11) (.seq (.reg false [⟨some 4, .mv (.c (.v (.int .i64 0))), none⟩]) (
    .ret)) (.skip))) (
  .seq (.reg false [⟨some 5, .mv (.c (.v (.int .i64 1))), none⟩]) (
  .seq (.seq (.reg false [⟨some 6, .mv (.c (.v (.int .i64 0))), none⟩]) (
  .block 0 (.loop [1, 2, 5, 6] e145x0 b145x0))) (
  .seq (.reg false [⟨some 38, .fad 3 (.t 2), none⟩,
    ⟨some 39, .load false [(.sl 1)] (.t 38), none⟩,
    ⟨some 40, .len false (.t 39), none⟩,
    ⟨some 41, .bin .eql (.t 40) (.c (.v (.int .i64 0))), none⟩,
    ⟨some 42, .mv (.t 41), none⟩,
    ⟨some 43, .fad 4 (.t 2), some (42, true)⟩,
    ⟨some 44, .load false [(.sl 5)] (.t 43), some (42, true)⟩,
    ⟨some 45, .len false (.t 44), some (42, true)⟩,
    ⟨some 46, .bin .eql (.t 45) (.c (.v (.int .i64 0))), some (42, true)⟩,
    ⟨some 47, .pick (.t 42) (.t 46) (.c (.v (.bool false))), none⟩,
    ⟨some 8, .mv (.t 47), none⟩]) (
  .seq (.reg false [⟨some 9, .mv (.c (.v (.bool false))), none⟩]) (
  .seq (.seq (.reg false [⟨some 48, .fad 0 (.t 2), none⟩,
    ⟨some 49, .load false [(.i .i64)] (.t 48), none⟩]) (
  .block 2 (.seq (.reg false [⟨some 51, .bin .eql (.t 49) (.c (.v (.int .i64 1))), none⟩,
      ⟨some 50, .mv (.t 51), none⟩]) (
    .cond (.t 50) (.reg false [⟨some 52, .mv (.t 8), none⟩,
        ⟨some 53, .mv (.t 52), none⟩,
        ⟨some 54, .fad 2 (.t 2), some (53, true)⟩,
        ⟨some 55, .load false [(.i .i64)] (.t 54), some (53, true)⟩,
        ⟨some 56, .bin .eql (.t 55) (.c (.v (.int .i64 0))), some (53, true)⟩,
        ⟨some 57, .pick (.t 53) (.t 56) (.c (.v (.bool false))), none⟩,
        ⟨some 58, .mv (.t 57), none⟩,
        ⟨some 59, .fad 1 (.t 2), some (58, true)⟩,
        ⟨some 60, .load false [.s] (.t 59), some (58, true)⟩,
        ⟨some 61, .call (.f 166) [.rd] false [.c .b] [(.t 60)], some (58, true)⟩,
        ⟨some 62, .pick (.t 58) (.t 61) (.c (.v (.bool false))), none⟩,
        ⟨some 9, .mv (.t 62), none⟩]) (.seq (.reg false [⟨some 64, .bin .eql (.t 49) (.c (.v (.int .i64 2))), none⟩,
        ⟨some 63, .mv (.t 64), none⟩]) (
      .cond (.t 63) (.reg false [⟨some 65, .mv (.t 8), none⟩,
          ⟨some 66, .mv (.t 65), none⟩,
          ⟨some 67, .fad 1 (.t 2), some (66, true)⟩,
          ⟨some 68, .load false [.s] (.t 67), some (66, true)⟩,
          ⟨some 69, .bin .eql (.t 68) (.c (.v (.string ({ data := #[] } : ByteArray)))), some (66, true)⟩,
          ⟨some 70, .pick (.t 66) (.t 69) (.c (.v (.bool false))), none⟩,
          ⟨some 9, .mv (.t 70), none⟩]) (.seq (.reg false [⟨some 72, .bin .eql (.t 49) (.c (.v (.int .i64 3))), none⟩,
          ⟨some 71, .mv (.t 72), none⟩]) (
        .cond (.t 71) (.reg false [⟨some 73, .mv (.t 8), none⟩,
            ⟨some 74, .mv (.t 73), none⟩,
            ⟨some 75, .fad 1 (.t 2), some (74, true)⟩,
            ⟨some 76, .load false [.s] (.t 75), some (74, true)⟩,
            ⟨some 77, .bin .eql (.t 76) (.c (.v (.string ({ data := #[] } : ByteArray)))), some (74, true)⟩,
            ⟨some 78, .pick (.t 74) (.t 77) (.c (.v (.bool false))), none⟩,
            ⟨some 79, .mv (.t 78), none⟩,
            ⟨some 80, .fad 2 (.t 2), some (79, true)⟩,
            ⟨some 81, .load false [(.i .i64)] (.t 80), some (79, true)⟩,
            ⟨some 82, .call (.f 78) [.rd, .rd, .rd] false [.c .b] [(.t 81), (.c (.v (.int .i64 0))), (.c (.v (.int .i64 1)))], some (79, true)⟩,
            ⟨some 83, .pick (.t 79) (.t 82) (.c (.v (.bool false))), none⟩,
            ⟨some 9, .mv (.t 83), none⟩]) (.seq (.reg false [⟨some 85, .bin .eql (.t 49) (.c (.v (.int .i64 4))), none⟩,
            ⟨some 84, .mv (.t 85), none⟩]) (
          .cond (.t 84) (.reg false [⟨some 86, .fad 3 (.t 2), none⟩,
              ⟨some 87, .load false [(.sl 1)] (.t 86), none⟩,
              ⟨some 88, .len false (.t 87), none⟩,
              ⟨some 89, .bin .eql (.t 88) (.c (.v (.int .i64 0))), none⟩,
              ⟨some 90, .mv (.t 89), none⟩,
              ⟨some 91, .fad 1 (.t 2), some (90, true)⟩,
              ⟨some 92, .load false [.s] (.t 91), some (90, true)⟩,
              ⟨some 93, .bin .eql (.t 92) (.c (.v (.string ({ data := #[] } : ByteArray)))), some (90, true)⟩,
              ⟨some 94, .pick (.t 90) (.t 93) (.c (.v (.bool false))), none⟩,
              ⟨some 95, .mv (.t 94), none⟩,
              ⟨some 96, .fad 2 (.t 2), some (95, true)⟩,
              ⟨some 97, .load false [(.i .i64)] (.t 96), some (95, true)⟩,
              ⟨some 98, .bin .eql (.t 97) (.c (.v (.int .i64 0))), some (95, true)⟩,
              ⟨some 99, .pick (.t 95) (.t 98) (.c (.v (.bool false))), none⟩,
              ⟨some 9, .mv (.t 99), none⟩]) (.seq (.reg false [⟨some 101, .bin .eql (.t 49) (.c (.v (.int .i64 5))), none⟩,
              ⟨some 100, .mv (.t 101), none⟩]) (
            .cond (.t 100) (.reg false [⟨some 102, .load true [(.i .i64), .s, (.i .i64), (.sl 1), (.sl 5)] (.t 2), none⟩,
                ⟨some 103, .call (.f 167) [.rd] false [.c .b] [(.t 102)], none⟩,
                ⟨some 104, .mv (.t 103), none⟩,
                ⟨some 105, .fad 1 (.t 2), some (104, true)⟩,
                ⟨some 106, .load false [.s] (.t 105), some (104, true)⟩,
                ⟨some 107, .bin .eql (.t 106) (.c (.v (.string ({ data := #[] } : ByteArray)))), some (104, true)⟩,
                ⟨some 108, .pick (.t 104) (.t 107) (.c (.v (.bool false))), none⟩,
                ⟨some 109, .mv (.t 108), none⟩,
                ⟨some 110, .fad 2 (.t 2), some (109, true)⟩,
                ⟨some 111, .load false [(.i .i64)] (.t 110), some (109, true)⟩,
                ⟨some 112, .bin .eql (.t 111) (.c (.v (.int .i64 0))), some (109, true)⟩,
                ⟨some 113, .pick (.t 109) (.t 112) (.c (.v (.bool false))), none⟩,
                ⟨some 9, .mv (.t 113), none⟩]) (.skip))))))))))))) (
  .seq (.seq (.reg false [⟨some 114, .mv (.t 9), none⟩,
    ⟨some 115, .un .not (.t 114), none⟩]) (
  .cond (.t 115) (.seq (.reg false [⟨some 4, .mv (.c (.v (.int .i64 0))), none⟩]) (
    .ret)) (.skip))) (
  .seq (.reg false [⟨some 116, .mv (.t 5), none⟩,
    ⟨some 4, .mv (.t 116), none⟩]) (
  .ret))))))))))⟩
theorem l145x0s (T : Table) (k n : Nat) (n7 : Int) (n8 : Int) (s9 : ByteArray) (n10 : Int) (l11 : Rows) (l12 : Rows) (n13 : Int) (n14 : Int) : l145x0 T k (n + 1) [(.v (.int .i64 n7)), (.b [(.v (.int .i64 n8)), (.v (.string s9)), (.v (.int .i64 n10)), (.fz 1 l11), (.fz 5 l12)]), (.v (.int .i64 n13)), (.v (.int .i64 n14))] = (
 bif (decide (n14 < (l12.length : Int))) then (
 tst (decide (0 ≤ n14)) (
 look l12 (Int.toNat n14) fun r15 =>
 cI .i64 r15 0 fun n16 =>
 cS r15 1 fun s17 =>
 cI .i64 r15 2 fun n18 =>
 cL 1 r15 3 fun l19 =>
 cL 5 r15 4 fun l20 =>
 callT T 145 [(.g [(.v (.int .i64 n16)), (.v (.string s17)), (.v (.int .i64 n18)), (.s 1 l19), (.s 5 l20)]), (.d (.v (.int .i64 (IntKind.wrap .i64 (n7 - 1)))))] fun o21 =>
 oD o21.res fun d22 =>
 dI .i64 d22 fun n23 =>
 bif (n23 == 0) == false then (
 bif (decide ((IntKind.wrap .i64 (n13 + n23)) > 300)) then (
 some (.ret, [(.v (.int .i64 0))])) else (
 l145x0 T k n [(.v (.int .i64 n7)), (.b [(.v (.int .i64 n8)), (.v (.string s9)), (.v (.int .i64 n10)), (.fz 1 l11), (.fz 5 l12)]), (.v (.int .i64 (IntKind.wrap .i64 (n13 + n23)))), (.v (.int .i64 (IntKind.wrap .i64 (n14 + 1))))])) else (
 some (.ret, [(.v (.int .i64 0))])))) else (
 some ((.exit 0), [(.b [(.v (.int .i64 n8)), (.v (.string s9)), (.v (.int .i64 n10)), (.fz 1 l11), (.fz 5 l12)]), (.v (.int .i64 n13))]))) := by kernel_rfl
theorem a145q (T : Table) (k : Nat) (n1 : Int) (s2 : ByteArray) (n3 : Int) (l4 : Rows) (l5 : Rows) (n6 : Int) : evalF T k a145 [(.g [(.v (.int .i64 n1)), (.v (.string s2)), (.v (.int .i64 n3)), (.s 1 l4), (.s 5 l5)]), (.d (.v (.int .i64 n6)))] = (
 bif (n6 == 0) then (
 some ⟨(.d (.v (.int .i64 0))), []⟩) else (
 aft (l145x0 T k k [(.v (.int .i64 n6)), (.b [(.v (.int .i64 n1)), (.v (.string s2)), (.v (.int .i64 n3)), (.fz 1 l4), (.fz 5 l5)]), (.v (.int .i64 1)), (.v (.int .i64 0))]) fun e24 ys25 =>
 bif e24.same .ret then (
 aV ys25 0 fun x26 =>
 aI .i64 x26 fun n27 =>
 some ⟨(.d (.v (.int .i64 n27))), []⟩) else (
 bif e24.same (.exit 0) then (
 aV ys25 0 fun x28 =>
 aX x28 fun xs29 =>
 aV xs29 0 fun x30 =>
 aI .i64 x30 fun n31 =>
 aV xs29 1 fun x32 =>
 aS x32 fun s33 =>
 aV xs29 2 fun x34 =>
 aI .i64 x34 fun n35 =>
 aV xs29 3 fun x36 =>
 aL 1 x36 fun l37 =>
 aV xs29 4 fun x38 =>
 aL 5 x38 fun l39 =>
 aV ys25 1 fun x40 =>
 aI .i64 x40 fun n41 =>
 bif ((l37.length : Int) == 0) == true then (
 bif (n31 == 1) then (
 bif ((l39.length : Int) == 0) == true then (
 bif (n35 == 0) == true then (
 callT T 166 [(.d (.v (.string s33)))] fun o42 =>
 oD o42.res fun d43 =>
 dB d43 fun b44 =>
 bif (!b44) then (
 some ⟨(.d (.v (.int .i64 0))), []⟩) else (
 some ⟨(.d (.v (.int .i64 n41))), []⟩)) else (
 bif (!false) then (
 some ⟨(.d (.v (.int .i64 0))), []⟩) else (
 some ⟨(.d (.v (.int .i64 n41))), []⟩))) else (
 bif (!false) then (
 some ⟨(.d (.v (.int .i64 0))), []⟩) else (
 some ⟨(.d (.v (.int .i64 n41))), []⟩))) else (
 bif (n31 == 2) then (
 bif ((l39.length : Int) == 0) == true then (
 bif (!(bytesEq s33 ({ data := #[] } : ByteArray))) then (
 some ⟨(.d (.v (.int .i64 0))), []⟩) else (
 some ⟨(.d (.v (.int .i64 n41))), []⟩)) else (
 bif (!false) then (
 some ⟨(.d (.v (.int .i64 0))), []⟩) else (
 some ⟨(.d (.v (.int .i64 n41))), []⟩))) else (
 bif (n31 == 3) then (
 bif ((l39.length : Int) == 0) == true then (
 bif (bytesEq s33 ({ data := #[] } : ByteArray)) == true then (
 callT T 78 [(.d (.v (.int .i64 n35))), (.d (.v (.int .i64 0))), (.d (.v (.int .i64 1)))] fun o45 =>
 oD o45.res fun d46 =>
 dB d46 fun b47 =>
 bif (!b47) then (
 some ⟨(.d (.v (.int .i64 0))), []⟩) else (
 some ⟨(.d (.v (.int .i64 n41))), []⟩)) else (
 bif (!false) then (
 some ⟨(.d (.v (.int .i64 0))), []⟩) else (
 some ⟨(.d (.v (.int .i64 n41))), []⟩))) else (
 bif (!false) then (
 some ⟨(.d (.v (.int .i64 0))), []⟩) else (
 some ⟨(.d (.v (.int .i64 n41))), []⟩))) else (
 bif (n31 == 4) then (
 bif ((l37.length : Int) == 0) == true then (
 bif (bytesEq s33 ({ data := #[] } : ByteArray)) == true then (
 bif (!(n35 == 0)) then (
 some ⟨(.d (.v (.int .i64 0))), []⟩) else (
 some ⟨(.d (.v (.int .i64 n41))), []⟩)) else (
 bif (!false) then (
 some ⟨(.d (.v (.int .i64 0))), []⟩) else (
 some ⟨(.d (.v (.int .i64 n41))), []⟩))) else (
 bif (!false) then (
 some ⟨(.d (.v (.int .i64 0))), []⟩) else (
 some ⟨(.d (.v (.int .i64 n41))), []⟩))) else (
 bif (n31 == 5) then (
 callT T 167 [(.g [(.v (.int .i64 n31)), (.v (.string s33)), (.v (.int .i64 n35)), (.s 1 l37), (.s 5 l39)])] fun o48 =>
 oD o48.res fun d49 =>
 dB d49 fun b50 =>
 bif b50 == true then (
 bif (bytesEq s33 ({ data := #[] } : ByteArray)) == true then (
 bif (!(n35 == 0)) then (
 some ⟨(.d (.v (.int .i64 0))), []⟩) else (
 some ⟨(.d (.v (.int .i64 n41))), []⟩)) else (
 bif (!false) then (
 some ⟨(.d (.v (.int .i64 0))), []⟩) else (
 some ⟨(.d (.v (.int .i64 n41))), []⟩))) else (
 bif (!false) then (
 some ⟨(.d (.v (.int .i64 0))), []⟩) else (
 some ⟨(.d (.v (.int .i64 n41))), []⟩))) else (
 bif (!false) then (
 some ⟨(.d (.v (.int .i64 0))), []⟩) else (
 some ⟨(.d (.v (.int .i64 n41))), []⟩))))))) else (
 bif (n31 == 1) then (
 bif (!false) then (
 some ⟨(.d (.v (.int .i64 0))), []⟩) else (
 some ⟨(.d (.v (.int .i64 n41))), []⟩)) else (
 bif (n31 == 2) then (
 bif (!false) then (
 some ⟨(.d (.v (.int .i64 0))), []⟩) else (
 some ⟨(.d (.v (.int .i64 n41))), []⟩)) else (
 bif (n31 == 3) then (
 bif (!false) then (
 some ⟨(.d (.v (.int .i64 0))), []⟩) else (
 some ⟨(.d (.v (.int .i64 n41))), []⟩)) else (
 bif (n31 == 4) then (
 bif ((l37.length : Int) == 0) == true then (
 bif (bytesEq s33 ({ data := #[] } : ByteArray)) == true then (
 bif (!(n35 == 0)) then (
 some ⟨(.d (.v (.int .i64 0))), []⟩) else (
 some ⟨(.d (.v (.int .i64 n41))), []⟩)) else (
 bif (!false) then (
 some ⟨(.d (.v (.int .i64 0))), []⟩) else (
 some ⟨(.d (.v (.int .i64 n41))), []⟩))) else (
 bif (!false) then (
 some ⟨(.d (.v (.int .i64 0))), []⟩) else (
 some ⟨(.d (.v (.int .i64 n41))), []⟩))) else (
 bif (n31 == 5) then (
 callT T 167 [(.g [(.v (.int .i64 n31)), (.v (.string s33)), (.v (.int .i64 n35)), (.s 1 l37), (.s 5 l39)])] fun o51 =>
 oD o51.res fun d52 =>
 dB d52 fun b53 =>
 bif b53 == true then (
 bif (bytesEq s33 ({ data := #[] } : ByteArray)) == true then (
 bif (!(n35 == 0)) then (
 some ⟨(.d (.v (.int .i64 0))), []⟩) else (
 some ⟨(.d (.v (.int .i64 n41))), []⟩)) else (
 bif (!false) then (
 some ⟨(.d (.v (.int .i64 0))), []⟩) else (
 some ⟨(.d (.v (.int .i64 n41))), []⟩))) else (
 bif (!false) then (
 some ⟨(.d (.v (.int .i64 0))), []⟩) else (
 some ⟨(.d (.v (.int .i64 n41))), []⟩))) else (
 bif (!false) then (
 some ⟨(.d (.v (.int .i64 0))), []⟩) else (
 some ⟨(.d (.v (.int .i64 n41))), []⟩)))))))) else (
 none)))) := by kernel_rfl
/- loop.example/g00119/spec.ValueOk -/

def a122 : AFun := ⟨[.rd], false, [.t 2], (
  .seq (.reg false [⟨some 1, .box (.t 0), none⟩,
    ⟨some 2, .mv (.c (.v (.bool false))), none⟩]) (
  .seq (.reg false [⟨some 3, .load true [(.i .i64), .s, (.i .i64), (.sl 1), (.sl 5)] (.t 1), none⟩,
    ⟨some 4, .call (.f 145) [.rd, .rd] false [.c (.i .i64)] [(.t 3), (.c (.v (.int .i64 6)))], none⟩,
    ⟨some 5, .bin .gtr (.t 4) (.c (.v (.int .i64 0))), none⟩,
    ⟨some 2, .mv (.t 5), none⟩]) (
  .ret)))⟩

theorem a122q (T : Table) (k : Nat) (n1 : Int) (s2 : ByteArray) (n3 : Int) (l4 : Rows) (l5 : Rows) : evalF T k a122 [(.g [(.v (.int .i64 n1)), (.v (.string s2)), (.v (.int .i64 n3)), (.s 1 l4), (.s 5 l5)])] = (
 callT T 145 [(.g [(.v (.int .i64 n1)), (.v (.string s2)), (.v (.int .i64 n3)), (.s 1 l4), (.s 5 l5)]), (.d (.v (.int .i64 6)))] fun o6 =>
 oD o6.res fun d7 =>
 dI .i64 d7 fun n8 =>
 some ⟨(.d (.v (.bool (decide (n8 > 0))))), []⟩) := by kernel_rfl
/- loop.example/g00119/spec.WorksOk -/
def b80x0 : ACode := (
  .seq (.seq (.reg false [⟨some 5, .mv (.t 3), none⟩,
    ⟨some 6, .mv (.t 0), none⟩,
    ⟨some 7, .len false (.t 6), none⟩,
    ⟨some 8, .bin .lss (.t 5) (.t 7), none⟩]) (
  .cond (.t 8) (.skip) (.exit 0))) (
  .seq (.block 1 (.seq (.reg false [⟨some 11, .mv (.t 0), none⟩,
      ⟨some 12, .mv (.t 3), none⟩,
      ⟨some 13, .iad 7 (.t 11) (.t 12), none⟩,
      ⟨some 14, .load true [(.i .i64), (.i .i64), (.i .i64), .s, (.i .i64), (.sl 1), (.sl 5)] (.t 13), none⟩,
      ⟨some 4, .alloc [(.v (.int .i64 0)), (.v (.int .i64 0)), (.v (.int .i64 0)), (.v (.string ByteArray.empty)), (.v (.int .i64 0)), (.s 1 []), (.s 5 [])], none⟩,
      ⟨none, .store 7 (.t 4) (.t 14), none⟩]) (
    .seq (.dreg [] [(0, ⟨some 15, .fad 0 (.t 4), none⟩),
      (0, ⟨some 16, .load false [(.i .i64)] (.t 15), none⟩),
      (1, ⟨some 17, .call (.f 78) [.rd, .rd, .rd] false [.c .b] [(.t 16), (.c (.v (.int .i64 1))), (.c (.v (.int .i64 1000000)))], none⟩),
      (0, ⟨some 18, .un .not (.t 17), none⟩),
      (0, ⟨some 19, .mv (.t 18), none⟩),
      (0, ⟨some 20, .fad 1 (.t 4), some (19, false)⟩),
      (0, ⟨some 21, .load false [(.i .i64)] (.t 20), some (19, false)⟩),
      (1, ⟨some 22, .call (.f 78) [.rd, .rd, .rd] false [.c .b] [(.t 21), (.c (.v (.int .i64 1))), (.c (.v (.int .i64 10000)))], some (19, false)⟩),
      (0, ⟨some 23, .un .not (.t 22), some (19, false)⟩),
      (0, ⟨some 24, .pick (.t 19) (.c (.v (.bool true))) (.t 23), none⟩),
      (0, ⟨some 25, .mv (.t 24), none⟩),
      (0, ⟨some 26, .fad 2 (.t 4), some (25, false)⟩),
      (0, ⟨some 27, .load true [(.i .i64), .s, (.i .i64), (.sl 1), (.sl 5)] (.t 26), some (25, false)⟩),
      (1, ⟨some 28, .call (.f 122) [.rd] false [.c .b] [(.t 27)], some (25, false)⟩),
      (0, ⟨some 29, .un .not (.t 28), some (25, false)⟩),
      (0, ⟨some 30, .pick (.t 25) (.c (.v (.bool true))) (.t 29), none⟩),
      (0, ⟨some 31, .mv (.t 30), none⟩),
      (0, ⟨some 32, .mv (.t 3), some (31, false)⟩),
      (0, ⟨some 33, .bin .gtr (.t 32) (.c (.v (.int .i64 0))), some (31, false)⟩),
      (0, ⟨some 34, .mv (.t 33), some (31, false)⟩),
      (0, ⟨some 35, .mv (.t 0), some (34, true)⟩),
      (0, ⟨some 36, .mv (.t 3), some (34, true)⟩),
      (0, ⟨some 37, .bin .sub (.t 36) (.c (.v (.int .i64 1))), some (34, true)⟩),
      (0, ⟨some 38, .iad 7 (.t 35) (.t 37), some (34, true)⟩),
      (0, ⟨some 39, .fad 0 (.t 38), some (34, true)⟩),
      (0, ⟨some 40, .load false [(.i .i64)] (.t 39), some (34, true)⟩),
      (0, ⟨some 41, .fad 0 (.t 4), some (34, true)⟩),
      (0, ⟨some 42, .load false [(.i .i64)] (.t 41), some (34, true)⟩)] [⟨some 43, .bin .geq (.t 40) (.t 42), some (34, true)⟩,
      ⟨some 44, .pick (.t 34) (.t 43) (.c (.v (.bool false))), some (31, false)⟩,
      ⟨some 45, .pick (.t 31) (.c (.v (.bool true))) (.t 44), none⟩]) (
    .cond (.t 45) (.seq (.reg false [⟨some 2, .mv (.c (.v (.bool false))), none⟩]) (
      .ret)) (.skip))))) (
  .reg false [⟨some 9, .mv (.t 3), none⟩,
    ⟨some 10, .bin .add (.t 9) (.c (.v (.int .i64 1))), none⟩,
    ⟨some 3, .mv (.t 10), none⟩])))
def e80x0 : Exits := [(.ret, [(2, .c .b)]), ((.exit 0), [(0, .c (.sl 7))])]
noncomputable def l80x0 (T : Table) (k : Nat) := loopN (evalC ⟨T, []⟩ k b80x0 (Ex × List AV)) [0, 3] e80x0
def a80 : AFun := ⟨[.rd], false, [.t 2], (
  .seq (.reg false [⟨some 2, .mv (.c (.v (.bool false))), none⟩]) (
  .seq (.seq (.reg false [⟨some 3, .mv (.c (.v (.int .i64 0))), none⟩]) (
  .block 0 (.loop [0, 3] e80x0 b80x0))) (
  .seq (.reg false [⟨some 46, .mv (.t 0), none⟩,
    ⟨some 47, .len false (.t 46), none⟩,
    ⟨some 48, .bin .leq (.t 47) (.c (.v (.int .i64 40))), none⟩,
    ⟨some 2, .mv (.t 48), none⟩]) (
  .ret))))⟩
theorem l80x0s (T : Table) (k n : Nat) (l2 : Rows) (n3 : Int) : l80x0 T k (n + 1) [(.fz 7 l2), (.v (.int .i64 n3))] = (
 bif (decide (n3 < (l2.length : Int))) then (
 tst (decide (0 ≤ n3)) (
 look l2 (Int.toNat n3) fun r4 =>
 cI .i64 r4 0 fun n5 =>
 cI .i64 r4 1 fun n6 =>
 cI .i64 r4 2 fun n7 =>
 cS r4 3 fun s8 =>
 cI .i64 r4 4 fun n9 =>
 cL 1 r4 5 fun l10 =>
 cL 5 r4 6 fun l11 =>
 callT T 78 [(.d (.v (.int .i64 n5))), (.d (.v (.int .i64 1))), (.d (.v (.int .i64 1000000)))] fun o12 =>
 oD o12.res fun d13 =>
 dB d13 fun b14 =>
 bif (!b14) == false then (
 callT T 78 [(.d (.v (.int .i64 n6))), (.d (.v (.int .i64 1))), (.d (.v (.int .i64 10000)))] fun o15 =>
 oD o15.res fun d16 =>
 dB d16 fun b17 =>
 bif (!b17) == false then (
 callT T 122 [(.g [(.v (.int .i64 n7)), (.v (.string s8)), (.v (.int .i64 n9)), (.s 1 l10), (.s 5 l11)])] fun o18 =>
 oD o18.res fun d19 =>
 dB d19 fun b20 =>
 bif (!b20) == false then (
 bif (decide (n3 > 0)) == true then (
 tst (decide (0 ≤ (IntKind.wrap .i64 (n3 - 1)))) (
 look l2 (Int.toNat (IntKind.wrap .i64 (n3 - 1))) fun r21 =>
 cI .i64 r21 0 fun n22 =>
 bif (decide (n22 ≥ n5)) then (
 some (.ret, [(.v (.bool false))])) else (
 l80x0 T k n [(.fz 7 l2), (.v (.int .i64 (IntKind.wrap .i64 (n3 + 1))))]))) else (
 l80x0 T k n [(.fz 7 l2), (.v (.int .i64 (IntKind.wrap .i64 (n3 + 1))))])) else (
 some (.ret, [(.v (.bool false))]))) else (
 some (.ret, [(.v (.bool false))]))) else (
 some (.ret, [(.v (.bool false))])))) else (
 some ((.exit 0), [(.fz 7 l2)]))) := by kernel_rfl
theorem a80q (T : Table) (k : Nat) (l1 : Rows) : evalF T k a80 [(.d (.s 7 l1))] = (
 aft (l80x0 T k k [(.fz 7 l1), (.v (.int .i64 0))]) fun e23 ys24 =>
 bif e23.same .ret then (
 aV ys24 0 fun x25 =>
 aB x25 fun b26 =>
 some ⟨(.d (.v (.bool b26))), []⟩) else (
 bif e23.same (.exit 0) then (
 aV ys24 0 fun x27 =>
 aL 7 x27 fun l28 =>
 some ⟨(.d (.v (.bool (decide ((l28.length : Int) ≤ 40))))), []⟩) else (
 none))) := by kernel_rfl
/- loop.example/g00119/spec.l13Sum -/
def b106x0 : ACode := (
  .seq (.seq (.reg false [⟨some 5, .mv (.t 4), none⟩,
    ⟨some 6, .mv (.t 0), none⟩,
    ⟨some 7, .len false (.t 6), none⟩,
    ⟨some 8, .bin .lss (.t 5) (.t 7), none⟩]) (
  .cond (.t 8) (.skip) (.exit 0))) (
  .seq (.block 1 (.reg false [⟨some 11, .mv (.t 3), none⟩,
      ⟨some 12, .mv (.t 0), none⟩,
      ⟨some 13, .mv (.t 4), none⟩,
      ⟨some 14, .iad 2 (.t 12) (.t 13), none⟩,
      ⟨some 15, .fad 1 (.t 14), none⟩,
      ⟨some 16, .load false [(.i .i64)] (.t 15), none⟩,
      ⟨some 17, .bin .add (.t 11) (.t 16), none⟩,
      ⟨some 3, .mv (.t 17), none⟩])) (
  .reg false [⟨some 9, .mv (.t 4), none⟩,
    ⟨some 10, .bin .add (.t 9) (.c (.v (.int .i64 1))), none⟩,
    ⟨some 4, .mv (.t 10), none⟩])))
def e106x0 : Exits := [((.exit 0), [(3, .c (.i .i64))])]
noncomputable def l106x0 (T : Table) (k : Nat) := loopN (evalC ⟨T, []⟩ k b106x0 (Ex × List AV)) [0, 3, 4] e106x0
def a106 : AFun := ⟨[.rd], false, [.t 2], (
  .seq (.reg false [⟨some 2, .mv (.c (.v (.int .i64 0))), none⟩]) (
  .seq (.reg false [⟨some 3, .mv (.c (.v (.int .i64 0))), none⟩]) (
  .seq (.seq (.reg false [⟨some 4, .mv (.c (.v (.int .i64 0))), none⟩]) (
  .block 0 (.loop [0, 3, 4] e106x0 b106x0))) (
  .seq (.reg false [⟨some 18, .mv (.t 3), none⟩,
    ⟨some 2, .mv (.t 18), none⟩]) (
  .ret)))))⟩
theorem l106x0s (T : Table) (k n : Nat) (l2 : Rows) (n3 : Int) (n4 : Int) : l106x0 T k (n + 1) [(.fz 2 l2), (.v (.int .i64 n3)), (.v (.int .i64 n4))] = (
 bif (decide (n4 < (l2.length : Int))) then (
 tst (decide (0 ≤ n4)) (
 look l2 (Int.toNat n4) fun r5 =>
 cI .i64 r5 1 fun n6 =>
 l106x0 T k n [(.fz 2 l2), (.v (.int .i64 (IntKind.wrap .i64 (n3 + n6)))), (.v (.int .i64 (IntKind.wrap .i64 (n4 + 1))))])) else (
 some ((.exit 0), [(.v (.int .i64 n3))]))) := by kernel_rfl
theorem a106q (T : Table) (k : Nat) (l1 : Rows) : evalF T k a106 [(.d (.s 2 l1))] = (
 aft (l106x0 T k k [(.fz 2 l1), (.v (.int .i64 0)), (.v (.int .i64 0))]) fun e7 ys8 =>
 bif e7.same (.exit 0) then (
 aV ys8 0 fun x9 =>
 aI .i64 x9 fun n10 =>
 some ⟨(.d (.v (.int .i64 n10))), []⟩) else (
 none)) := by kernel_rfl
/- loop.example/g00119/spec.IsleOk -/

def a64 : AFun := ⟨[.rd], false, [.t 2], (
  .seq (.reg false [⟨some 1, .box (.t 0), none⟩,
    ⟨some 2, .mv (.c (.v (.bool false))), none⟩]) (
  .seq (.dreg [] [(0, ⟨some 3, .fad 0 (.t 1), none⟩),
    (0, ⟨some 4, .load false [.s] (.t 3), none⟩),
    (1, ⟨some 5, .call (.f 77) [.rd] false [.c .b] [(.t 4)], none⟩),
    (0, ⟨some 6, .mv (.t 5), none⟩),
    (0, ⟨some 7, .fad 1 (.t 1), some (6, true)⟩),
    (0, ⟨some 8, .load false [(.i .i64)] (.t 7), some (6, true)⟩),
    (1, ⟨some 9, .call (.f 78) [.rd, .rd, .rd] false [.c .b] [(.t 8), (.c (.v (.int .i64 0))), (.c (.v (.int .i64 10000)))], some (6, true)⟩),
    (0, ⟨some 10, .pick (.t 6) (.t 9) (.c (.v (.bool false))), none⟩),
    (0, ⟨some 11, .mv (.t 10), none⟩),
    (0, ⟨some 12, .fad 2 (.t 1), some (11, true)⟩),
    (0, ⟨some 13, .load false [(.i .i64)] (.t 12), some (11, true)⟩),
    (1, ⟨some 14, .call (.f 78) [.rd, .rd, .rd] false [.c .b] [(.t 13), (.c (.v (.int .i64 0))), (.c (.v (.int .i64 1000000)))], some (11, true)⟩),
    (0, ⟨some 15, .pick (.t 11) (.t 14) (.c (.v (.bool false))), none⟩),
    (0, ⟨some 16, .mv (.t 15), none⟩),
    (0, ⟨some 17, .fad 3 (.t 1), some (16, true)⟩),
    (0, ⟨some 18, .load false [(.sl 7)] (.t 17), some (16, true)⟩),
    (1, ⟨some 19, .call (.f 80) [.rd] false [.c .b] [(.t 18)], some (16, true)⟩),
    (0, ⟨some 20, .pick (.t 16) (.t 19) (.c (.v (.bool false))), none⟩),
    (0, ⟨some 21, .mv (.t 20), none⟩),
    (0, ⟨some 22, .fad 4 (.t 1), some (21, true)⟩),
    (0, ⟨some 23, .load false [(.sl 2)] (.t 22), some (21, true)⟩),
    (1, ⟨some 24, .call (.f 79) [.rd, .rd] false [.c .b] [(.t 23), (.c (.v (.int .i64 1)))], some (21, true)⟩),
    (0, ⟨some 25, .pick (.t 21) (.t 24) (.c (.v (.bool false))), none⟩),
    (0, ⟨some 26, .mv (.t 25), none⟩),
    (0, ⟨some 27, .fad 4 (.t 1), some (26, true)⟩),
    (0, ⟨some 28, .load false [(.sl 2)] (.t 27), some (26, true)⟩),
    (1, ⟨some 29, .call (.f 106) [.rd] false [.c (.i .i64)] [(.t 28)], some (26, true)⟩),
    (0, ⟨some 30, .fad 1 (.t 1), some (26, true)⟩),
    (0, ⟨some 31, .load false [(.i .i64)] (.t 30), some (26, true)⟩)] [⟨some 32, .bin .leq (.t 29) (.t 31), some (26, true)⟩,
    ⟨some 33, .pick (.t 26) (.t 32) (.c (.v (.bool false))), none⟩,
    ⟨some 2, .mv (.t 33), none⟩]) (
  .ret)))⟩

theorem a64q (T : Table) (k : Nat) (s1 : ByteArray) (n2 : Int) (n3 : Int) (l4 : Rows) (l5 : Rows) : evalF T k a64 [(.g [(.v (.string s1)), (.v (.int .i64 n2)), (.v (.int .i64 n3)), (.s 7 l4), (.s 2 l5)])] = (
 callT T 77 [(.d (.v (.string s1)))] fun o6 =>
 oD o6.res fun d7 =>
 dB d7 fun b8 =>
 bif b8 == true then (
 callT T 78 [(.d (.v (.int .i64 n2))), (.d (.v (.int .i64 0))), (.d (.v (.int .i64 10000)))] fun o9 =>
 oD o9.res fun d10 =>
 dB d10 fun b11 =>
 bif b11 == true then (
 callT T 78 [(.d (.v (.int .i64 n3))), (.d (.v (.int .i64 0))), (.d (.v (.int .i64 1000000)))] fun o12 =>
 oD o12.res fun d13 =>
 dB d13 fun b14 =>
 bif b14 == true then (
 callT T 80 [(.d (.s 7 l4))] fun o15 =>
 oD o15.res fun d16 =>
 dB d16 fun b17 =>
 bif b17 == true then (
 callT T 79 [(.d (.s 2 l5)), (.d (.v (.int .i64 1)))] fun o18 =>
 oD o18.res fun d19 =>
 dB d19 fun b20 =>
 bif b20 == true then (
 callT T 106 [(.d (.s 2 l5))] fun o21 =>
 oD o21.res fun d22 =>
 dI .i64 d22 fun n23 =>
 some ⟨(.d (.v (.bool (decide (n23 ≤ n2))))), []⟩) else (
 some ⟨(.d (.v (.bool false))), []⟩)) else (
 some ⟨(.d (.v (.bool false))), []⟩)) else (
 some ⟨(.d (.v (.bool false))), []⟩)) else (
 some ⟨(.d (.v (.bool false))), []⟩)) else (
 some ⟨(.d (.v (.bool false))), []⟩)) := by kernel_rfl
/- loop.example/g00119/spec.l11Run -/
def b107x0 : ACode := (
  .seq (.seq (.reg false [⟨some 7, .mv (.t 6), none⟩,
    ⟨some 8, .mv (.t 0), none⟩,
    ⟨some 9, .len false (.t 8), none⟩,
    ⟨some 10, .bin .lss (.t 7) (.t 9), none⟩]) (
  .cond (.t 10) (.skip) (.exit 0))) (
  .seq (.block 1 (.seq (.reg false [⟨some 13, .mv (.t 0), none⟩,
      ⟨some 14, .mv (.t 6), none⟩,
      ⟨some 15, .iad 2 (.t 13) (.t 14), none⟩,
      ⟨some 16, .fad 0 (.t 15), none⟩,
      ⟨some 17, .load false [(.i .i64)] (.t 16), none⟩,
      ⟨some 18, .mv (.t 1), none⟩,
      ⟨some 19, .bin .eql (.t 17) (.t 18), none⟩]) (
    .cond (.t 19) (.seq (.reg false [⟨some 20, .mv (.t 0), none⟩,
        ⟨some 21, .mv (.t 6), none⟩,
        ⟨some 22, .iad 2 (.t 20) (.t 21), none⟩,
        ⟨some 23, .fad 1 (.t 22), none⟩,
        ⟨some 24, .load false [(.i .i64)] (.t 23), none⟩,
        ⟨some 4, .mv (.t 24), none⟩,
        ⟨some 5, .mv (.c (.v (.bool true))), none⟩]) (
      .ret)) (.skip)))) (
  .reg false [⟨some 11, .mv (.t 6), none⟩,
    ⟨some 12, .bin .add (.t 11) (.c (.v (.int .i64 1))), none⟩,
    ⟨some 6, .mv (.t 12), none⟩])))
def e107x0 : Exits := [(.ret, [(4, .c (.i .i64)), (5, .c .b)]), ((.exit 0), [])]
noncomputable def l107x0 (T : Table) (k : Nat) := loopN (evalC ⟨T, []⟩ k b107x0 (Ex × List AV)) [0, 1, 6] e107x0
def a107 : AFun := ⟨[.rd, .rd], false, [.t 4, .t 5], (
  .seq (.reg false [⟨some 4, .mv (.c (.v (.int .i64 0))), none⟩,
    ⟨some 5, .mv (.c (.v (.bool false))), none⟩]) (
  .seq (.seq (.reg false [⟨some 6, .mv (.c (.v (.int .i64 0))), none⟩]) (
  .block 0 (.loop [0, 1, 6] e107x0 b107x0))) (
  .seq (.reg false [⟨some 4, .mv (.c (.v (.int .i64 0))), none⟩,
    ⟨some 5, .mv (.c (.v (.bool false))), none⟩]) (
  .ret))))⟩
theorem l107x0s (T : Table) (k n : Nat) (l3 : Rows) (n4 : Int) (n5 : Int) : l107x0 T k (n + 1) [(.fz 2 l3), (.v (.int .i64 n4)), (.v (.int .i64 n5))] = (
 bif (decide (n5 < (l3.length : Int))) then (
 tst (decide (0 ≤ n5)) (
 look l3 (Int.toNat n5) fun r6 =>
 cI .i64 r6 0 fun n7 =>
 bif (n7 == n4) then (
 tst (decide (0 ≤ n5)) (
 look l3 (Int.toNat n5) fun r8 =>
 cI .i64 r8 1 fun n9 =>
 some (.ret, [(.v (.int .i64 n9)), (.v (.bool true))]))) else (
 l107x0 T k n [(.fz 2 l3), (.v (.int .i64 n4)), (.v (.int .i64 (IntKind.wrap .i64 (n5 + 1))))]))) else (
 some ((.exit 0), []))) := by kernel_rfl
theorem a107q (T : Table) (k : Nat) (l1 : Rows) (n2 : Int) : evalF T k a107 [(.d (.s 2 l1)), (.d (.v (.int .i64 n2)))] = (
 aft (l107x0 T k k [(.fz 2 l1), (.v (.int .i64 n2)), (.v (.int .i64 0))]) fun e10 ys11 =>
 bif e10.same .ret then (
 aV ys11 0 fun x12 =>
 aI .i64 x12 fun n13 =>
 aV ys11 1 fun x14 =>
 aB x14 fun b15 =>
 some ⟨(.t [(.d (.v (.int .i64 n13))), (.d (.v (.bool b15)))]), []⟩) else (
 bif e10.same (.exit 0) then (
 some ⟨(.t [(.d (.v (.int .i64 0))), (.d (.v (.bool false)))]), []⟩) else (
 none))) := by kernel_rfl
/- loop.example/g00119/spec.Tell -/
def b65x0 : ACode := (
  .seq (.seq (.reg false [⟨some 16, .mv (.t 5), none⟩,
    ⟨some 17, .fad 3 (.t 1), none⟩,
    ⟨some 18, .load false [(.sl 7)] (.t 17), none⟩,
    ⟨some 19, .len false (.t 18), none⟩,
    ⟨some 20, .bin .lss (.t 16) (.t 19), none⟩]) (
  .cond (.t 20) (.skip) (.exit 0))) (
  .seq (.block 1 (.reg false [⟨some 23, .mv (.t 4), none⟩,
      ⟨some 24, .fad 3 (.t 1), none⟩,
      ⟨some 25, .load false [(.sl 7)] (.t 24), none⟩,
      ⟨some 26, .mv (.t 5), none⟩,
      ⟨some 27, .iad 7 (.t 25) (.t 26), none⟩,
      ⟨some 28, .fad 0 (.t 27), none⟩,
      ⟨some 29, .load false [(.i .i64)] (.t 28), none⟩,
      ⟨some 30, .build [(.v (.int .i64 0)), (.v (.int .i64 0))] [(0, 1, (.t 29))], none⟩,
      ⟨some 31, .lit 2 ([[(.v (.int .i64 0)), (.v (.int .i64 0))]] : Rows) [(0, (.t 30))], none⟩,
      ⟨some 32, .app 2 16 (.t 23) (.t 31), none⟩,
      ⟨some 4, .mv (.t 32), none⟩])) (
  .reg false [⟨some 21, .mv (.t 5), none⟩,
    ⟨some 22, .bin .add (.t 21) (.c (.v (.int .i64 1))), none⟩,
    ⟨some 5, .mv (.t 22), none⟩])))
def e65x0 : Exits := [((.exit 0), [(3, .o 2), (4, .o 2)])]
noncomputable def l65x0 (T : Table) (k : Nat) := loopN (evalC ⟨T, []⟩ k b65x0 (Ex × List AV)) [1, 3, 4, 5] e65x0
def b65x2 : ACode := (
  .seq (.seq (.dreg [] [(0, ⟨some 60, .mv (.t 9), none⟩),
    (0, ⟨some 61, .bin .gtr (.t 60) (.c (.v (.int .i64 0))), none⟩),
    (0, ⟨some 62, .mv (.t 61), none⟩),
    (0, ⟨some 63, .mv (.t 3), some (62, true)⟩),
    (0, ⟨some 64, .mv (.t 9), some (62, true)⟩),
    (0, ⟨some 65, .bin .sub (.t 64) (.c (.v (.int .i64 1))), some (62, true)⟩),
    (0, ⟨some 66, .iad 2 (.t 63) (.t 65), some (62, true)⟩),
    (0, ⟨some 67, .fad 0 (.t 66), some (62, true)⟩),
    (0, ⟨some 68, .load false [(.i .i64)] (.t 67), some (62, true)⟩),
    (0, ⟨some 69, .fad 0 (.t 10), some (62, true)⟩),
    (0, ⟨some 70, .load false [(.i .i64)] (.t 69), some (62, true)⟩)] [⟨some 71, .bin .gtr (.t 68) (.t 70), some (62, true)⟩,
    ⟨some 72, .pick (.t 62) (.t 71) (.c (.v (.bool false))), none⟩]) (
  .cond (.t 72) (.skip) (.exit 4))) (
  .block 5 (.seq (.reg false [⟨some 73, .mv (.t 3), none⟩,
      ⟨some 74, .mv (.t 9), none⟩,
      ⟨some 75, .mv (.t 3), none⟩,
      ⟨some 76, .mv (.t 9), none⟩,
      ⟨some 77, .bin .sub (.t 76) (.c (.v (.int .i64 1))), none⟩,
      ⟨some 78, .iad 2 (.t 75) (.t 77), none⟩,
      ⟨some 79, .load true [(.i .i64), (.i .i64)] (.t 78), none⟩,
      ⟨some 80, .iad 2 (.t 73) (.t 74), none⟩,
      ⟨none, .store 2 (.t 80) (.t 79), none⟩]) (
    .reg false [⟨some 81, .mv (.t 9), none⟩,
      ⟨some 82, .bin .sub (.t 81) (.c (.v (.int .i64 1))), none⟩,
      ⟨some 9, .mv (.t 82), none⟩]))))
def e65x2 : Exits := [((.exit 4), [(3, .o 2), (4, .o 2), (6, .c (.i .i64)), (9, .c (.i .i64)), (10, .b [.c (.i .i64), .c (.i .i64)])])]
noncomputable def l65x2 (T : Table) (k : Nat) := loopN (evalC ⟨T, []⟩ k b65x2 (Ex × List AV)) [3, 4, 6, 9, 10] e65x2
def b65x1 : ACode := (
  .seq (.seq (.reg false [⟨some 33, .mv (.t 6), none⟩,
    ⟨some 34, .mv (.t 4), none⟩,
    ⟨some 35, .len false (.t 34), none⟩,
    ⟨some 36, .bin .lss (.t 33) (.t 35), none⟩]) (
  .cond (.t 36) (.skip) (.exit 2))) (
  .seq (.block 3 (.seq (.reg false [⟨some 40, .mv (.t 3), none⟩,
      ⟨some 41, .mv (.t 4), none⟩,
      ⟨some 42, .mv (.t 6), none⟩,
      ⟨some 43, .iad 2 (.t 41) (.t 42), none⟩,
      ⟨some 44, .fad 0 (.t 43), none⟩,
      ⟨some 45, .load false [(.i .i64)] (.t 44), none⟩,
      ⟨some 46, .call (.f 107) [.rd, .rd] false [.c (.i .i64), .c .b] [(.t 40), (.t 45)], none⟩,
      ⟨some 39, .mv (.t 46), none⟩,
      ⟨some 47, .ext (.t 39) 0, none⟩,
      ⟨some 48, .ext (.t 39) 1, none⟩,
      ⟨some 7, .mv (.t 47), none⟩,
      ⟨some 8, .mv (.t 48), none⟩]) (
    .seq (.seq (.reg false [⟨some 49, .mv (.t 8), none⟩]) (
    .cond (.t 49) (.exit 3) (.skip))) (
    .seq (.reg false [⟨some 50, .mv (.t 3), none⟩,
      ⟨some 51, .len false (.t 50), none⟩,
      ⟨some 9, .mv (.t 51), none⟩]) (
    .seq (.reg false [⟨some 52, .mv (.t 4), none⟩,
      ⟨some 53, .mv (.t 6), none⟩,
      ⟨some 54, .iad 2 (.t 52) (.t 53), none⟩,
      ⟨some 55, .load true [(.i .i64), (.i .i64)] (.t 54), none⟩,
      ⟨some 10, .alloc [(.v (.int .i64 0)), (.v (.int .i64 0))], none⟩,
      ⟨none, .store 2 (.t 10) (.t 55), none⟩]) (
    .seq (.reg false [⟨some 56, .mv (.t 3), none⟩,
      ⟨some 57, .load true [(.i .i64), (.i .i64)] (.t 10), none⟩,
      ⟨some 58, .lit 2 ([[(.v (.int .i64 0)), (.v (.int .i64 0))]] : Rows) [(0, (.t 57))], none⟩,
      ⟨some 59, .app 2 16 (.t 56) (.t 58), none⟩,
      ⟨some 3, .mv (.t 59), none⟩]) (
    .seq (.block 4 (.loop [3, 4, 6, 9, 10] e65x2 b65x2)) (
    .reg false [⟨some 83, .mv (.t 3), none⟩,
      ⟨some 84, .mv (.t 9), none⟩,
      ⟨some 85, .load true [(.i .i64), (.i .i64)] (.t 10), none⟩,
      ⟨some 86, .iad 2 (.t 83) (.t 84), none⟩,
      ⟨none, .store 2 (.t 86) (.t 85), none⟩])))))))) (
  .reg false [⟨some 37, .mv (.t 6), none⟩,
    ⟨some 38, .bin .add (.t 37) (.c (.v (.int .i64 1))), none⟩,
    ⟨some 6, .mv (.t 38), none⟩])))
def e65x1 : Exits := [((.exit 2), [(3, .o 2)])]
noncomputable def l65x1 (T : Table) (k : Nat) := loopN (evalC ⟨T, []⟩ k b65x1 (Ex × List AV)) [3, 4, 6] e65x1
def a65 : AFun := ⟨[.rd], false, [.t 2], (
  .seq (.reg false [⟨some 1, .box (.t 0), none⟩,
    ⟨some 2, .mv (.c (.o 2 [])), none⟩]) (
  .seq (.reg false [⟨some 11, .lit 2 ([] : Rows) [], none⟩,
    ⟨some 3, .mv (.t 11), none⟩]) (
  .seq (.reg false [⟨some 12, .lit 2 ([] : Rows) [], none⟩,
    ⟨some 13, .fad 4 (.t 1), none⟩,
    ⟨some 14, .load false [(.sl 2)] (.t 13), none⟩,
    ⟨some 15, .app 2 16 (.t 12) (.t 14), none⟩,
    ⟨some 4, .mv (.t 15), none⟩]) (
  .seq (.seq (.reg false [⟨some 5, .mv (.c (.v (.int .i64 0))), none⟩]) (
  .block 0 (.loop [1, 3, 4, 5] e65x0 b65x0))) (
  .seq (.seq (.reg false [⟨some 6, .mv (.c (.v (.int .i64 0))), none⟩]) (
  .block 2 (.loop [3, 4, 6] e65x1 b65x1))) (
  .seq (.reg false [⟨some 87, .mv (.t 3), none⟩,
    ⟨some 2, .mv (.t 87), none⟩]) (
  .ret)))))))⟩
theorem l65x0s (T : Table) (k n : Nat) (s6 : ByteArray) (n7 : Int) (n8 : Int) (l9 : Rows) (l10 : Rows) (l11 : Rows) (l12 : Rows) (n13 : Int) : l65x0 T k (n + 1) [(.b [(.v (.string s6)), (.v (.int .i64 n7)), (.v (.int .i64 n8)), (.fz 7 l9), (.fz 2 l10)]), (.o 2 l11), (.o 2 l12), (.v (.int .i64 n13))] = (
 bif (decide (n13 < (l9.length : Int))) then (
 tst (decide (0 ≤ n13)) (
 look l9 (Int.toNat n13) fun r14 =>
 cI .i64 r14 0 fun n15 =>
 tst (decide ((l12.length + ([[(.v (.int .i64 n15)), (.v (.int .i64 0))]] : Rows).length) * 16 ≤ maxBytes)) (
 l65x0 T k n [(.b [(.v (.string s6)), (.v (.int .i64 n7)), (.v (.int .i64 n8)), (.fz 7 l9), (.fz 2 l10)]), (.o 2 l11), (.o 2 (l12 ++ ([[(.v (.int .i64 n15)), (.v (.int .i64 0))]] : Rows))), (.v (.int .i64 (IntKind.wrap .i64 (n13 + 1))))]))) else (
 some ((.exit 0), [(.o 2 l11), (.o 2 l12)]))) := by kernel_rfl
theorem l65x2s (T : Table) (k n : Nat) (l39 : Rows) (l40 : Rows) (n41 : Int) (n42 : Int) (n43 : Int) (n44 : Int) : l65x2 T k (n + 1) [(.o 2 l39), (.o 2 l40), (.v (.int .i64 n41)), (.v (.int .i64 n42)), (.b [(.v (.int .i64 n43)), (.v (.int .i64 n44))])] = (
 bif (decide (n42 > 0)) == true then (
 tst (decide (0 ≤ (IntKind.wrap .i64 (n42 - 1))) && decide (Int.toNat (IntKind.wrap .i64 (n42 - 1)) < l39.length)) (
 look l39 (Int.toNat (IntKind.wrap .i64 (n42 - 1))) fun r45 =>
 cI .i64 r45 0 fun n46 =>
 bif (decide (n46 > n43)) then (
 tst (decide (0 ≤ (IntKind.wrap .i64 (n42 - 1))) && decide (Int.toNat (IntKind.wrap .i64 (n42 - 1)) < l39.length)) (
 look l39 (Int.toNat (IntKind.wrap .i64 (n42 - 1))) fun r47 =>
 cI .i64 r47 0 fun n48 =>
 look l39 (Int.toNat (IntKind.wrap .i64 (n42 - 1))) fun r49 =>
 cI .i64 r49 1 fun n50 =>
 tst (decide (0 ≤ n42) && decide (Int.toNat n42 < l39.length)) (
 l65x2 T k n [(.o 2 (setD (setD l39 (Int.toNat n42) 0 (.v (.int .i64 n48))) (Int.toNat n42) 1 (.v (.int .i64 n50)))), (.o 2 l40), (.v (.int .i64 n41)), (.v (.int .i64 (IntKind.wrap .i64 (n42 - 1)))), (.b [(.v (.int .i64 n43)), (.v (.int .i64 n44))])]))) else (
 some ((.exit 4), [(.o 2 l39), (.o 2 l40), (.v (.int .i64 n41)), (.v (.int .i64 n42)), (.b [(.v (.int .i64 n43)), (.v (.int .i64 n44))])])))) else (
 some ((.exit 4), [(.o 2 l39), (.o 2 l40), (.v (.int .i64 n41)), (.v (.int .i64 n42)), (.b [(.v (.int .i64 n43)), (.v (.int .i64 n44))])]))) := by kernel_rfl
theorem l65x1s (T : Table) (k n : Nat) (l22 : Rows) (l23 : Rows) (n24 : Int) : l65x1 T k (n + 1) [(.o 2 l22), (.o 2 l23), (.v (.int .i64 n24))] = (
 bif (decide (n24 < (l23.length : Int))) then (
 tst (decide (0 ≤ n24) && decide (Int.toNat n24 < l23.length)) (
 look l23 (Int.toNat n24) fun r25 =>
 cI .i64 r25 0 fun n26 =>
 callT T 107 [(.d (.s 2 l22)), (.d (.v (.int .i64 n26)))] fun o27 =>
 oT o27.res fun is28 =>
 tst (Nat.beq is28.length 2) (
 nth is28 0 fun i29 =>
 oD i29 fun d30 =>
 dI .i64 d30 fun n31 =>
 nth is28 1 fun i32 =>
 oD i32 fun d33 =>
 dB d33 fun b34 =>
 bif b34 then (
 l65x1 T k n [(.o 2 l22), (.o 2 l23), (.v (.int .i64 (IntKind.wrap .i64 (n24 + 1))))]) else (
 tst (decide (0 ≤ n24) && decide (Int.toNat n24 < l23.length)) (
 look l23 (Int.toNat n24) fun r35 =>
 cI .i64 r35 0 fun n36 =>
 look l23 (Int.toNat n24) fun r37 =>
 cI .i64 r37 1 fun n38 =>
 tst (decide ((l22.length + ([[(.v (.int .i64 n36)), (.v (.int .i64 n38))]] : Rows).length) * 16 ≤ maxBytes)) (
 aft (l65x2 T k k [(.o 2 (l22 ++ ([[(.v (.int .i64 n36)), (.v (.int .i64 n38))]] : Rows))), (.o 2 l23), (.v (.int .i64 n24)), (.v (.int .i64 (l22.length : Int))), (.b [(.v (.int .i64 n36)), (.v (.int .i64 n38))])]) fun e51 ys52 =>
 bif e51.same (.exit 4) then (
 aV ys52 0 fun x53 =>
 aO 2 x53 fun l54 =>
 aV ys52 1 fun x55 =>
 aO 2 x55 fun l56 =>
 aV ys52 2 fun x57 =>
 aI .i64 x57 fun n58 =>
 aV ys52 3 fun x59 =>
 aI .i64 x59 fun n60 =>
 aV ys52 4 fun x61 =>
 aX x61 fun xs62 =>
 aV xs62 0 fun x63 =>
 aI .i64 x63 fun n64 =>
 aV xs62 1 fun x65 =>
 aI .i64 x65 fun n66 =>
 tst (decide (0 ≤ n60) && decide (Int.toNat n60 < l54.length)) (
 l65x1 T k n [(.o 2 (setD (setD l54 (Int.toNat n60) 0 (.v (.int .i64 n64))) (Int.toNat n60) 1 (.v (.int .i64 n66)))), (.o 2 l56), (.v (.int .i64 (IntKind.wrap .i64 (n58 + 1))))])) else (
 none))))))) else (
 some ((.exit 2), [(.o 2 l22)]))) := by kernel_rfl
theorem a65q (T : Table) (k : Nat) (s1 : ByteArray) (n2 : Int) (n3 : Int) (l4 : Rows) (l5 : Rows) : evalF T k a65 [(.g [(.v (.string s1)), (.v (.int .i64 n2)), (.v (.int .i64 n3)), (.s 7 l4), (.s 2 l5)])] = (
 tst (flatRows l5) (
 tst (decide ((([] : Rows).length + l5.length) * 16 ≤ maxBytes)) (
 aft (l65x0 T k k [(.b [(.v (.string s1)), (.v (.int .i64 n2)), (.v (.int .i64 n3)), (.fz 7 l4), (.fz 2 l5)]), (.o 2 []), (.o 2 (([] : Rows) ++ l5)), (.v (.int .i64 0))]) fun e16 ys17 =>
 bif e16.same (.exit 0) then (
 aV ys17 0 fun x18 =>
 aO 2 x18 fun l19 =>
 aV ys17 1 fun x20 =>
 aO 2 x20 fun l21 =>
 aft (l65x1 T k k [(.o 2 l19), (.o 2 l21), (.v (.int .i64 0))]) fun e67 ys68 =>
 bif e67.same (.exit 2) then (
 aV ys68 0 fun x69 =>
 aO 2 x69 fun l70 =>
 some ⟨(.d (.s 2 l70)), []⟩) else (
 none)) else (
 none)))) := by kernel_rfl
/- loop.example/g00119/spec.Ask -/

def a23 : AFun := ⟨[.rd], false, [.c 2 true [(.i .i64), .s, (.i .i64), (.sl 7), (.sl 2)]], (
  .seq (.reg false [⟨some 1, .box (.t 0), none⟩,
    ⟨some 2, .alloc [(.v (.int .i64 0)), (.v (.string ByteArray.empty)), (.v (.int .i64 0)), (.s 7 []), (.s 2 [])], none⟩]) (
  .seq (.seq (.reg false [⟨some 3, .load true [.s, (.i .i64), (.i .i64), (.sl 7), (.sl 2)] (.t 1), none⟩,
    ⟨some 4, .call (.f 64) [.rd] false [.c .b] [(.t 3)], none⟩,
    ⟨some 5, .un .not (.t 4), none⟩]) (
  .cond (.t 5) (.seq (.reg false [⟨some 6, .build [(.v (.int .i64 0)), (.v (.string ByteArray.empty)), (.v (.int .i64 0)), (.s 7 []), (.s 2 [])] [], none⟩,
      ⟨none, .store 5 (.t 2) (.t 6), none⟩]) (
    .ret)) (.skip))) (
  .seq (.dreg [] [(0, ⟨some 7, .fad 0 (.t 1), none⟩),
    (0, ⟨some 8, .load false [.s] (.t 7), none⟩),
    (0, ⟨some 9, .fad 2 (.t 1), none⟩),
    (0, ⟨some 10, .load false [(.i .i64)] (.t 9), none⟩),
    (0, ⟨some 11, .load true [.s, (.i .i64), (.i .i64), (.sl 7), (.sl 2)] (.t 1), none⟩),
    (1, ⟨some 12, .call (.f 65) [.rd] false [.c (.sl 2)] [(.t 11)], none⟩)] [⟨some 13, .build [(.v (.int .i64 0)), (.v (.string ByteArray.empty)), (.v (.int .i64 0)), (.s 7 []), (.s 2 [])] [(0, 1, (.c (.v (.int .i64 1)))), (1, 1, (.t 8)), (2, 1, (.t 10)), (4, 1, (.t 12))], none⟩,
    ⟨none, .store 5 (.t 2) (.t 13), none⟩]) (
  .ret))))⟩

theorem a23q (T : Table) (k : Nat) (s1 : ByteArray) (n2 : Int) (n3 : Int) (l4 : Rows) (l5 : Rows) : evalF T k a23 [(.g [(.v (.string s1)), (.v (.int .i64 n2)), (.v (.int .i64 n3)), (.s 7 l4), (.s 2 l5)])] = (
 callT T 64 [(.g [(.v (.string s1)), (.v (.int .i64 n2)), (.v (.int .i64 n3)), (.s 7 l4), (.s 2 l5)])] fun o6 =>
 oD o6.res fun d7 =>
 dB d7 fun b8 =>
 bif (!b8) then (
 some ⟨(.g [(.v (.int .i64 0)), (.v (.string ByteArray.empty)), (.v (.int .i64 0)), (.s 7 []), (.s 2 [])]), []⟩) else (
 callT T 65 [(.g [(.v (.string s1)), (.v (.int .i64 n2)), (.v (.int .i64 n3)), (.s 7 l4), (.s 2 l5)])] fun o9 =>
 oD o9.res fun d10 =>
 dL 2 d10 fun l11 =>
 some ⟨(.g [(.v (.int .i64 1)), (.v (.string s1)), (.v (.int .i64 n3)), (.s 7 []), (.s 2 l11)]), []⟩)) := by kernel_rfl
/- loop.example/g00119/impl.within -/

def a85 : AFun := ⟨[.rd, .rd, .rd], false, [.t 6], (
  .seq (.reg false [⟨some 6, .mv (.c (.v (.bool false))), none⟩]) (
  .seq (.reg false [⟨some 7, .mv (.t 0), none⟩,
    ⟨some 8, .mv (.t 1), none⟩,
    ⟨some 9, .bin .geq (.t 7) (.t 8), none⟩,
    ⟨some 10, .mv (.t 9), none⟩,
    ⟨some 11, .mv (.t 0), some (10, true)⟩,
    ⟨some 12, .mv (.t 2), some (10, true)⟩,
    ⟨some 13, .bin .leq (.t 11) (.t 12), some (10, true)⟩,
    ⟨some 14, .pick (.t 10) (.t 13) (.c (.v (.bool false))), none⟩,
    ⟨some 6, .mv (.t 14), none⟩]) (
  .ret)))⟩

theorem a85q (T : Table) (k : Nat) (n1 : Int) (n2 : Int) (n3 : Int) : evalF T k a85 [(.d (.v (.int .i64 n1))), (.d (.v (.int .i64 n2))), (.d (.v (.int .i64 n3)))] = (
 bif (decide (n1 ≥ n2)) == true then (
 some ⟨(.d (.v (.bool (decide (n1 ≤ n3))))), []⟩) else (
 some ⟨(.d (.v (.bool false))), []⟩)) := by kernel_rfl
/- loop.example/g00119/impl.NameOk -/
def b84x0 : ACode := (
  .seq (.reg false [⟨some 8, .bin .lss (.t 7) (.t 6), none⟩]) (
  .seq (.cond (.t 8) (.skip) (.exit 0)) (
  .seq (.block 1 (.seq (.reg false [⟨some 9, .mv (.t 7), none⟩,
      ⟨some 3, .mv (.t 9), none⟩]) (
    .seq (.reg false [⟨some 10, .mv (.t 0), none⟩,
      ⟨some 11, .mv (.t 3), none⟩,
      ⟨some 12, .idx (.t 10) (.t 11), none⟩,
      ⟨some 4, .mv (.t 12), none⟩]) (
    .seq (.reg false [⟨some 13, .mv (.t 4), none⟩,
      ⟨some 14, .bin .lss (.t 13) (.c (.v (.int .u8 97))), none⟩,
      ⟨some 15, .mv (.t 14), none⟩,
      ⟨some 16, .mv (.t 4), some (15, false)⟩,
      ⟨some 17, .bin .gtr (.t 16) (.c (.v (.int .u8 122))), some (15, false)⟩,
      ⟨some 18, .pick (.t 15) (.c (.v (.bool true))) (.t 17), none⟩,
      ⟨some 19, .mv (.t 18), none⟩,
      ⟨some 20, .mv (.t 4), some (19, true)⟩,
      ⟨some 21, .bin .lss (.t 20) (.c (.v (.int .u8 48))), some (19, true)⟩,
      ⟨some 22, .mv (.t 21), some (19, true)⟩,
      ⟨some 23, .mv (.t 4), some (22, false)⟩,
      ⟨some 24, .bin .gtr (.t 23) (.c (.v (.int .u8 57))), some (22, false)⟩,
      ⟨some 25, .pick (.t 22) (.c (.v (.bool true))) (.t 24), some (19, true)⟩,
      ⟨some 26, .pick (.t 19) (.t 25) (.c (.v (.bool false))), none⟩,
      ⟨some 27, .mv (.t 26), none⟩,
      ⟨some 28, .mv (.t 4), some (27, true)⟩,
      ⟨some 29, .bin .neq (.t 28) (.c (.v (.int .u8 45))), some (27, true)⟩,
      ⟨some 30, .pick (.t 27) (.t 29) (.c (.v (.bool false))), none⟩]) (
    .cond (.t 30) (.seq (.reg false [⟨some 2, .mv (.c (.v (.bool false))), none⟩]) (
      .ret)) (.skip)))))) (
  .reg false [⟨some 31, .bin .add (.t 7) (.c (.v (.int .i64 1))), none⟩,
    ⟨some 7, .mv (.t 31), none⟩]))))
def e84x0 : Exits := [(.ret, [(2, .c .b)]), ((.exit 0), [(0, .c .s)])]
noncomputable def l84x0 (T : Table) (k : Nat) := loopN (evalC ⟨T, []⟩ k b84x0 (Ex × List AV)) [0, 6, 7] e84x0
def a84 : AFun := ⟨[.rd], false, [.t 2], (
  .seq (.reg false [⟨some 2, .mv (.c (.v (.bool false))), none⟩]) (
  .seq (.seq (.reg false [⟨some 5, .mv (.t 0), none⟩,
    ⟨some 6, .len true (.t 5), none⟩,
    ⟨some 7, .mv (.c (.v (.int .i64 0))), none⟩]) (
  .block 0 (.loop [0, 6, 7] e84x0 b84x0))) (
  .seq (.reg false [⟨some 32, .mv (.t 0), none⟩,
    ⟨some 33, .len true (.t 32), none⟩,
    ⟨some 34, .call (.f 85) [.rd, .rd, .rd] false [.c .b] [(.t 33), (.c (.v (.int .i64 1))), (.c (.v (.int .i64 20)))], none⟩,
    ⟨some 35, .mv (.t 34), none⟩,
    ⟨some 36, .mv (.t 0), some (35, true)⟩,
    ⟨some 37, .idx (.t 36) (.c (.v (.int .i64 0))), some (35, true)⟩,
    ⟨some 38, .bin .neq (.t 37) (.c (.v (.int .u8 45))), some (35, true)⟩,
    ⟨some 39, .pick (.t 35) (.t 38) (.c (.v (.bool false))), none⟩,
    ⟨some 40, .mv (.t 39), none⟩,
    ⟨some 41, .mv (.t 0), some (40, true)⟩,
    ⟨some 42, .mv (.t 0), some (40, true)⟩,
    ⟨some 43, .len true (.t 42), some (40, true)⟩,
    ⟨some 44, .bin .sub (.t 43) (.c (.v (.int .i64 1))), some (40, true)⟩,
    ⟨some 45, .idx (.t 41) (.t 44), some (40, true)⟩,
    ⟨some 46, .bin .neq (.t 45) (.c (.v (.int .u8 45))), some (40, true)⟩,
    ⟨some 47, .pick (.t 40) (.t 46) (.c (.v (.bool false))), none⟩,
    ⟨some 2, .mv (.t 47), none⟩]) (
  .ret))))⟩
theorem l84x0s (T : Table) (k n : Nat) (s2 : ByteArray) (n3 : Int) (n4 : Int) : l84x0 T k (n + 1) [(.v (.string s2)), (.v (.int .i64 n3)), (.v (.int .i64 n4))] = (
 bif (decide (n4 < n3)) then (
 tst (decide (0 ≤ n4)) (
 byteAt s2 (Int.toNat n4) fun c5 =>
 bif (decide ((c5.toNat : Int) < 97)) == false then (
 bif (decide ((c5.toNat : Int) > 122)) == true then (
 bif (decide ((c5.toNat : Int) < 48)) == false then (
 bif (decide ((c5.toNat : Int) > 57)) == true then (
 bif ((c5.toNat : Int) != 45) then (
 some (.ret, [(.v (.bool false))])) else (
 l84x0 T k n [(.v (.string s2)), (.v (.int .i64 n3)), (.v (.int .i64 (IntKind.wrap .i64 (n4 + 1))))])) else (
 l84x0 T k n [(.v (.string s2)), (.v (.int .i64 n3)), (.v (.int .i64 (IntKind.wrap .i64 (n4 + 1))))])) else (
 bif ((c5.toNat : Int) != 45) then (
 some (.ret, [(.v (.bool false))])) else (
 l84x0 T k n [(.v (.string s2)), (.v (.int .i64 n3)), (.v (.int .i64 (IntKind.wrap .i64 (n4 + 1))))]))) else (
 l84x0 T k n [(.v (.string s2)), (.v (.int .i64 n3)), (.v (.int .i64 (IntKind.wrap .i64 (n4 + 1))))])) else (
 bif (decide ((c5.toNat : Int) < 48)) == false then (
 bif (decide ((c5.toNat : Int) > 57)) == true then (
 bif ((c5.toNat : Int) != 45) then (
 some (.ret, [(.v (.bool false))])) else (
 l84x0 T k n [(.v (.string s2)), (.v (.int .i64 n3)), (.v (.int .i64 (IntKind.wrap .i64 (n4 + 1))))])) else (
 l84x0 T k n [(.v (.string s2)), (.v (.int .i64 n3)), (.v (.int .i64 (IntKind.wrap .i64 (n4 + 1))))])) else (
 bif ((c5.toNat : Int) != 45) then (
 some (.ret, [(.v (.bool false))])) else (
 l84x0 T k n [(.v (.string s2)), (.v (.int .i64 n3)), (.v (.int .i64 (IntKind.wrap .i64 (n4 + 1))))]))))) else (
 some ((.exit 0), [(.v (.string s2))]))) := by kernel_rfl
theorem a84q (T : Table) (k : Nat) (s1 : ByteArray) : evalF T k a84 [(.d (.v (.string s1)))] = (
 aft (l84x0 T k k [(.v (.string s1)), (.v (.int .i64 (s1.size : Int))), (.v (.int .i64 0))]) fun e6 ys7 =>
 bif e6.same .ret then (
 aV ys7 0 fun x8 =>
 aB x8 fun b9 =>
 some ⟨(.d (.v (.bool b9))), []⟩) else (
 bif e6.same (.exit 0) then (
 aV ys7 0 fun x10 =>
 aS x10 fun s11 =>
 callT T 85 [(.d (.v (.int .i64 (s11.size : Int)))), (.d (.v (.int .i64 1))), (.d (.v (.int .i64 20)))] fun o12 =>
 oD o12.res fun d13 =>
 dB d13 fun b14 =>
 bif b14 == true then (
 tst (decide (0 ≤ 0)) (
 byteAt s11 (Int.toNat 0) fun c15 =>
 bif ((c15.toNat : Int) != 45) == true then (
 tst (decide (0 ≤ (IntKind.wrap .i64 ((s11.size : Int) - 1)))) (
 byteAt s11 (Int.toNat (IntKind.wrap .i64 ((s11.size : Int) - 1))) fun c16 =>
 some ⟨(.d (.v (.bool ((c16.toNat : Int) != 45)))), []⟩)) else (
 some ⟨(.d (.v (.bool false))), []⟩))) else (
 some ⟨(.d (.v (.bool false))), []⟩)) else (
 none))) := by kernel_rfl
/- loop.example/g00119/impl.isCopies -/

def a108 : AFun := ⟨[.rd], false, [.t 2], (
  .seq (.reg false [⟨some 2, .mv (.c (.v (.bool false))), none⟩]) (
  .seq (.reg false [⟨some 3, .mv (.t 0), none⟩,
    ⟨some 4, .call (.f 85) [.rd, .rd, .rd] false [.c .b] [(.t 3), (.c (.v (.int .i64 0))), (.c (.v (.int .i64 10000)))], none⟩,
    ⟨some 2, .mv (.t 4), none⟩]) (
  .ret)))⟩

theorem a108q (T : Table) (k : Nat) (n1 : Int) : evalF T k a108 [(.d (.v (.int .i64 n1)))] = (
 callT T 85 [(.d (.v (.int .i64 n1))), (.d (.v (.int .i64 0))), (.d (.v (.int .i64 10000)))] fun o2 =>
 oD o2.res fun d3 =>
 dB d3 fun b4 =>
 some ⟨(.d (.v (.bool b4))), []⟩) := by kernel_rfl
/- loop.example/g00119/impl.runsOk -/
def b86x0 : ACode := (
  .seq (.reg false [⟨some 8, .bin .lss (.t 7) (.t 6), none⟩]) (
  .seq (.cond (.t 8) (.skip) (.exit 0)) (
  .seq (.block 1 (.seq (.reg false [⟨some 9, .mv (.t 7), none⟩,
      ⟨some 10, .iad 2 (.t 5) (.t 7), none⟩,
      ⟨some 11, .load true [(.i .i64), (.i .i64)] (.t 10), none⟩,
      ⟨some 4, .alloc [(.v (.int .i64 0)), (.v (.int .i64 0))], none⟩,
      ⟨some 3, .mv (.t 9), none⟩,
      ⟨none, .store 2 (.t 4) (.t 11), none⟩]) (
    .seq (.dreg [] [(0, ⟨some 12, .fad 0 (.t 4), none⟩),
      (0, ⟨some 13, .load false [(.i .i64)] (.t 12), none⟩),
      (1, ⟨some 14, .call (.f 85) [.rd, .rd, .rd] false [.c .b] [(.t 13), (.c (.v (.int .i64 1))), (.c (.v (.int .i64 1000000)))], none⟩),
      (0, ⟨some 15, .un .not (.t 14), none⟩),
      (0, ⟨some 16, .mv (.t 15), none⟩),
      (0, ⟨some 17, .fad 1 (.t 4), some (16, false)⟩),
      (0, ⟨some 18, .load false [(.i .i64)] (.t 17), some (16, false)⟩),
      (1, ⟨some 19, .call (.f 108) [.rd] false [.c .b] [(.t 18)], some (16, false)⟩),
      (0, ⟨some 20, .un .not (.t 19), some (16, false)⟩),
      (0, ⟨some 21, .pick (.t 16) (.c (.v (.bool true))) (.t 20), none⟩),
      (0, ⟨some 22, .mv (.t 21), none⟩),
      (0, ⟨some 23, .mv (.t 3), some (22, false)⟩),
      (0, ⟨some 24, .bin .gtr (.t 23) (.c (.v (.int .i64 0))), some (22, false)⟩),
      (0, ⟨some 25, .mv (.t 24), some (22, false)⟩),
      (0, ⟨some 26, .mv (.t 0), some (25, true)⟩),
      (0, ⟨some 27, .mv (.t 3), some (25, true)⟩),
      (0, ⟨some 28, .bin .sub (.t 27) (.c (.v (.int .i64 1))), some (25, true)⟩),
      (0, ⟨some 29, .iad 2 (.t 26) (.t 28), some (25, true)⟩),
      (0, ⟨some 30, .fad 0 (.t 29), some (25, true)⟩),
      (0, ⟨some 31, .load false [(.i .i64)] (.t 30), some (25, true)⟩),
      (0, ⟨some 32, .fad 0 (.t 4), some (25, true)⟩),
      (0, ⟨some 33, .load false [(.i .i64)] (.t 32), some (25, true)⟩)] [⟨some 34, .bin .geq (.t 31) (.t 33), some (25, true)⟩,
      ⟨some 35, .pick (.t 25) (.t 34) (.c (.v (.bool false))), some (22, false)⟩,
      ⟨some 36, .pick (.t 22) (.c (.v (.bool true))) (.t 35), none⟩]) (
    .cond (.t 36) (.seq (.reg false [⟨some 2, .mv (.c (.v (.bool false))), none⟩]) (
      .ret)) (.skip))))) (
  .reg false [⟨some 37, .bin .add (.t 7) (.c (.v (.int .i64 1))), none⟩,
    ⟨some 7, .mv (.t 37), none⟩]))))
def e86x0 : Exits := [(.ret, [(2, .c .b)]), ((.exit 0), [(0, .c (.sl 2))])]
noncomputable def l86x0 (T : Table) (k : Nat) := loopN (evalC ⟨T, []⟩ k b86x0 (Ex × List AV)) [0, 5, 6, 7] e86x0
def a86 : AFun := ⟨[.rd], false, [.t 2], (
  .seq (.reg false [⟨some 2, .mv (.c (.v (.bool false))), none⟩]) (
  .seq (.seq (.reg false [⟨some 5, .mv (.t 0), none⟩,
    ⟨some 6, .len false (.t 5), none⟩,
    ⟨some 7, .mv (.c (.v (.int .i64 0))), none⟩]) (
  .block 0 (.loop [0, 5, 6, 7] e86x0 b86x0))) (
  .seq (.reg false [⟨some 38, .mv (.t 0), none⟩,
    ⟨some 39, .len false (.t 38), none⟩,
    ⟨some 40, .bin .leq (.t 39) (.c (.v (.int .i64 80))), none⟩,
    ⟨some 2, .mv (.t 40), none⟩]) (
  .ret))))⟩
theorem l86x0s (T : Table) (k n : Nat) (l2 : Rows) (l3 : Rows) (n4 : Int) (n5 : Int) : l86x0 T k (n + 1) [(.fz 2 l2), (.fz 2 l3), (.v (.int .i64 n4)), (.v (.int .i64 n5))] = (
 bif (decide (n5 < n4)) then (
 tst (decide (0 ≤ n5)) (
 look l3 (Int.toNat n5) fun r6 =>
 cI .i64 r6 0 fun n7 =>
 cI .i64 r6 1 fun n8 =>
 callT T 85 [(.d (.v (.int .i64 n7))), (.d (.v (.int .i64 1))), (.d (.v (.int .i64 1000000)))] fun o9 =>
 oD o9.res fun d10 =>
 dB d10 fun b11 =>
 bif (!b11) == false then (
 callT T 108 [(.d (.v (.int .i64 n8)))] fun o12 =>
 oD o12.res fun d13 =>
 dB d13 fun b14 =>
 bif (!b14) == false then (
 bif (decide (n5 > 0)) == true then (
 tst (decide (0 ≤ (IntKind.wrap .i64 (n5 - 1)))) (
 look l2 (Int.toNat (IntKind.wrap .i64 (n5 - 1))) fun r15 =>
 cI .i64 r15 0 fun n16 =>
 bif (decide (n16 ≥ n7)) then (
 some (.ret, [(.v (.bool false))])) else (
 l86x0 T k n [(.fz 2 l2), (.fz 2 l3), (.v (.int .i64 n4)), (.v (.int .i64 (IntKind.wrap .i64 (n5 + 1))))]))) else (
 l86x0 T k n [(.fz 2 l2), (.fz 2 l3), (.v (.int .i64 n4)), (.v (.int .i64 (IntKind.wrap .i64 (n5 + 1))))])) else (
 some (.ret, [(.v (.bool false))]))) else (
 some (.ret, [(.v (.bool false))])))) else (
 some ((.exit 0), [(.fz 2 l2)]))) := by kernel_rfl
theorem a86q (T : Table) (k : Nat) (l1 : Rows) : evalF T k a86 [(.d (.s 2 l1))] = (
 aft (l86x0 T k k [(.fz 2 l1), (.fz 2 l1), (.v (.int .i64 (l1.length : Int))), (.v (.int .i64 0))]) fun e17 ys18 =>
 bif e17.same .ret then (
 aV ys18 0 fun x19 =>
 aB x19 fun b20 =>
 some ⟨(.d (.v (.bool b20))), []⟩) else (
 bif e17.same (.exit 0) then (
 aV ys18 0 fun x21 =>
 aL 2 x21 fun l22 =>
 some ⟨(.d (.v (.bool (decide ((l22.length : Int) ≤ 80))))), []⟩) else (
 none))) := by kernel_rfl
/- loop.example/g00119/impl.namesOk -/
def b183x0 : ACode := (
  .seq (.reg false [⟨some 10, .bin .lss (.t 9) (.t 8), none⟩]) (
  .seq (.cond (.t 10) (.skip) (.exit 0)) (
  .seq (.block 1 (.seq (.reg false [⟨some 11, .mv (.t 9), none⟩,
      ⟨some 12, .iad 1 (.t 7) (.t 9), none⟩,
      ⟨some 13, .load false [.s] (.t 12), none⟩,
      ⟨some 5, .mv (.t 11), none⟩,
      ⟨some 6, .mv (.t 13), none⟩]) (
    .seq (.reg false [⟨some 14, .mv (.t 6), none⟩,
      ⟨some 15, .call (.f 84) [.rd] false [.c .b] [(.t 14)], none⟩,
      ⟨some 16, .un .not (.t 15), none⟩,
      ⟨some 17, .mv (.t 16), none⟩,
      ⟨some 18, .mv (.t 5), some (17, false)⟩,
      ⟨some 19, .bin .gtr (.t 18) (.c (.v (.int .i64 0))), some (17, false)⟩,
      ⟨some 20, .mv (.t 19), some (17, false)⟩,
      ⟨some 21, .mv (.t 0), some (20, true)⟩,
      ⟨some 22, .mv (.t 5), some (20, true)⟩,
      ⟨some 23, .bin .sub (.t 22) (.c (.v (.int .i64 1))), some (20, true)⟩,
      ⟨some 24, .iad 1 (.t 21) (.t 23), some (20, true)⟩,
      ⟨some 25, .load false [.s] (.t 24), some (20, true)⟩,
      ⟨some 26, .mv (.t 6), some (20, true)⟩,
      ⟨some 27, .bin .geq (.t 25) (.t 26), some (20, true)⟩,
      ⟨some 28, .pick (.t 20) (.t 27) (.c (.v (.bool false))), some (17, false)⟩,
      ⟨some 29, .pick (.t 17) (.c (.v (.bool true))) (.t 28), none⟩]) (
    .cond (.t 29) (.seq (.reg false [⟨some 4, .mv (.c (.v (.bool false))), none⟩]) (
      .ret)) (.skip))))) (
  .reg false [⟨some 30, .bin .add (.t 9) (.c (.v (.int .i64 1))), none⟩,
    ⟨some 9, .mv (.t 30), none⟩]))))
def e183x0 : Exits := [(.ret, [(4, .c .b)]), ((.exit 0), [(0, .c (.sl 1)), (1, .c (.i .i64))])]
noncomputable def l183x0 (T : Table) (k : Nat) := loopN (evalC ⟨T, []⟩ k b183x0 (Ex × List AV)) [0, 1, 7, 8, 9] e183x0
def a183 : AFun := ⟨[.rd, .rd], false, [.t 4], (
  .seq (.reg false [⟨some 4, .mv (.c (.v (.bool false))), none⟩]) (
  .seq (.seq (.reg false [⟨some 7, .mv (.t 0), none⟩,
    ⟨some 8, .len false (.t 7), none⟩,
    ⟨some 9, .mv (.c (.v (.int .i64 0))), none⟩]) (
  .block 0 (.loop [0, 1, 7, 8, 9] e183x0 b183x0))) (
  .seq (.reg false [⟨some 31, .mv (.t 0), none⟩,
    ⟨some 32, .len false (.t 31), none⟩,
    ⟨some 33, .mv (.t 1), none⟩,
    ⟨some 34, .bin .leq (.t 32) (.t 33), none⟩,
    ⟨some 4, .mv (.t 34), none⟩]) (
  .ret))))⟩
theorem l183x0s (T : Table) (k n : Nat) (l3 : Rows) (n4 : Int) (l5 : Rows) (n6 : Int) (n7 : Int) : l183x0 T k (n + 1) [(.fz 1 l3), (.v (.int .i64 n4)), (.fz 1 l5), (.v (.int .i64 n6)), (.v (.int .i64 n7))] = (
 bif (decide (n7 < n6)) then (
 tst (decide (0 ≤ n7)) (
 look l5 (Int.toNat n7) fun r8 =>
 cS r8 0 fun s9 =>
 callT T 84 [(.d (.v (.string s9)))] fun o10 =>
 oD o10.res fun d11 =>
 dB d11 fun b12 =>
 bif (!b12) == false then (
 bif (decide (n7 > 0)) == true then (
 tst (decide (0 ≤ (IntKind.wrap .i64 (n7 - 1)))) (
 look l3 (Int.toNat (IntKind.wrap .i64 (n7 - 1))) fun r13 =>
 cS r13 0 fun s14 =>
 bif (!(bytesLess s14 s9)) then (
 some (.ret, [(.v (.bool false))])) else (
 l183x0 T k n [(.fz 1 l3), (.v (.int .i64 n4)), (.fz 1 l5), (.v (.int .i64 n6)), (.v (.int .i64 (IntKind.wrap .i64 (n7 + 1))))]))) else (
 l183x0 T k n [(.fz 1 l3), (.v (.int .i64 n4)), (.fz 1 l5), (.v (.int .i64 n6)), (.v (.int .i64 (IntKind.wrap .i64 (n7 + 1))))])) else (
 some (.ret, [(.v (.bool false))])))) else (
 some ((.exit 0), [(.fz 1 l3), (.v (.int .i64 n4))]))) := by kernel_rfl
theorem a183q (T : Table) (k : Nat) (l1 : Rows) (n2 : Int) : evalF T k a183 [(.d (.s 1 l1)), (.d (.v (.int .i64 n2)))] = (
 aft (l183x0 T k k [(.fz 1 l1), (.v (.int .i64 n2)), (.fz 1 l1), (.v (.int .i64 (l1.length : Int))), (.v (.int .i64 0))]) fun e15 ys16 =>
 bif e15.same .ret then (
 aV ys16 0 fun x17 =>
 aB x17 fun b18 =>
 some ⟨(.d (.v (.bool b18))), []⟩) else (
 bif e15.same (.exit 0) then (
 aV ys16 0 fun x19 =>
 aL 1 x19 fun l20 =>
 aV ys16 1 fun x21 =>
 aI .i64 x21 fun n22 =>
 some ⟨(.d (.v (.bool (decide ((l20.length : Int) ≤ n22))))), []⟩) else (
 none))) := by kernel_rfl
/- loop.example/g00119/impl.shapeOk -/
def b168x0 : ACode := (
  .seq (.reg false [⟨some 30, .bin .lss (.t 29) (.t 28), none⟩]) (
  .seq (.cond (.t 30) (.skip) (.exit 1)) (
  .seq (.block 2 (.seq (.reg false [⟨some 31, .mv (.t 29), none⟩,
      ⟨some 7, .mv (.t 31), none⟩]) (
    .seq (.reg false [⟨some 32, .fad 1 (.t 1), none⟩,
      ⟨some 33, .load false [.s] (.t 32), none⟩,
      ⟨some 34, .mv (.t 7), none⟩,
      ⟨some 35, .idx (.t 33) (.t 34), none⟩,
      ⟨some 36, .conv (.int .i64) (.t 35), none⟩,
      ⟨some 37, .call (.f 85) [.rd, .rd, .rd] false [.c .b] [(.t 36), (.c (.v (.int .i64 32))), (.c (.v (.int .i64 126)))], none⟩,
      ⟨some 38, .un .not (.t 37), none⟩]) (
    .cond (.t 38) (.seq (.reg false [⟨some 2, .mv (.c (.v (.bool false))), none⟩]) (
      .ret)) (.skip))))) (
  .reg false [⟨some 39, .bin .add (.t 29) (.c (.v (.int .i64 1))), none⟩,
    ⟨some 29, .mv (.t 39), none⟩]))))
def e168x0 : Exits := [(.ret, [(2, .c .b)]), ((.exit 1), [(1, .b [.c (.i .i64), .c .s, .c (.i .i64), .c (.sl 1), .c (.sl 5)]), (4, .c .b), (5, .c .b), (6, .c .b)])]
noncomputable def l168x0 (T : Table) (k : Nat) := loopN (evalC ⟨T, []⟩ k b168x0 (Ex × List AV)) [1, 4, 5, 6, 28, 29] e168x0
def a168 : AFun := ⟨[.rd], false, [.t 2], (
  .seq (.reg false [⟨some 1, .box (.t 0), none⟩,
    ⟨some 2, .mv (.c (.v (.bool false))), none⟩]) (
  .seq (.dreg [] [(0, ⟨some 8, .fad 1 (.t 1), none⟩),
    (0, ⟨some 9, .load false [.s] (.t 8), none⟩),
    (0, ⟨some 10, .bin .eql (.t 9) (.c (.v (.string ({ data := #[] } : ByteArray)))), none⟩),
    (0, ⟨some 11, .fad 2 (.t 1), none⟩),
    (0, ⟨some 12, .load false [(.i .i64)] (.t 11), none⟩),
    (0, ⟨some 13, .bin .eql (.t 12) (.c (.v (.int .i64 0))), none⟩),
    (0, ⟨some 14, .fad 3 (.t 1), none⟩),
    (0, ⟨some 15, .load false [(.sl 1)] (.t 14), none⟩),
    (0, ⟨some 16, .len false (.t 15), none⟩),
    (0, ⟨some 17, .bin .eql (.t 16) (.c (.v (.int .i64 0))), none⟩),
    (0, ⟨some 18, .fad 4 (.t 1), none⟩),
    (0, ⟨some 19, .load false [(.sl 5)] (.t 18), none⟩),
    (0, ⟨some 20, .len false (.t 19), none⟩),
    (0, ⟨some 21, .bin .eql (.t 20) (.c (.v (.int .i64 0))), none⟩),
    (0, ⟨some 3, .mv (.t 10), none⟩),
    (0, ⟨some 4, .mv (.t 13), none⟩),
    (0, ⟨some 5, .mv (.t 17), none⟩)] [⟨some 6, .mv (.t 21), none⟩]) (
  .seq (.seq (.reg false [⟨some 22, .fad 0 (.t 1), none⟩,
    ⟨some 23, .load false [(.i .i64)] (.t 22), none⟩]) (
  .block 0 (.seq (.reg false [⟨some 25, .bin .eql (.t 23) (.c (.v (.int .i64 1))), none⟩,
      ⟨some 24, .mv (.t 25), none⟩]) (
    .cond (.t 24) (.seq (.seq (.reg false [⟨some 26, .fad 1 (.t 1), none⟩,
        ⟨some 27, .load false [.s] (.t 26), none⟩,
        ⟨some 28, .len true (.t 27), none⟩,
        ⟨some 29, .mv (.c (.v (.int .i64 0))), none⟩]) (
      .block 1 (.loop [1, 4, 5, 6, 28, 29] e168x0 b168x0))) (
      .reg false [⟨some 40, .fad 1 (.t 1), none⟩,
        ⟨some 41, .load false [.s] (.t 40), none⟩,
        ⟨some 42, .len true (.t 41), none⟩,
        ⟨some 43, .bin .leq (.t 42) (.c (.v (.int .i64 100))), none⟩,
        ⟨some 3, .mv (.t 43), none⟩])) (.seq (.reg false [⟨some 45, .bin .eql (.t 23) (.c (.v (.int .i64 2))), none⟩,
        ⟨some 44, .mv (.t 45), none⟩]) (
      .cond (.t 44) (.reg false [⟨some 4, .mv (.c (.v (.bool true))), none⟩]) (.seq (.reg false [⟨some 47, .bin .eql (.t 23) (.c (.v (.int .i64 3))), none⟩,
          ⟨some 46, .mv (.t 47), none⟩]) (
        .cond (.t 46) (.reg false [⟨some 48, .fad 2 (.t 1), none⟩,
            ⟨some 49, .load false [(.i .i64)] (.t 48), none⟩,
            ⟨some 50, .call (.f 85) [.rd, .rd, .rd] false [.c .b] [(.t 49), (.c (.v (.int .i64 0))), (.c (.v (.int .i64 1)))], none⟩,
            ⟨some 4, .mv (.t 50), none⟩]) (.seq (.reg false [⟨some 52, .bin .eql (.t 23) (.c (.v (.int .i64 4))), none⟩,
            ⟨some 51, .mv (.t 52), none⟩]) (
          .cond (.t 51) (.reg false [⟨some 6, .mv (.c (.v (.bool true))), none⟩]) (.seq (.reg false [⟨some 54, .bin .eql (.t 23) (.c (.v (.int .i64 5))), none⟩,
              ⟨some 53, .mv (.t 54), none⟩]) (
            .cond (.t 53) (.seq (.reg false [⟨some 55, .fad 3 (.t 1), none⟩,
                ⟨some 56, .load false [(.sl 1)] (.t 55), none⟩,
                ⟨some 57, .call (.f 183) [.rd, .rd] false [.c .b] [(.t 56), (.c (.v (.int .i64 300)))], none⟩,
                ⟨some 58, .mv (.t 57), none⟩,
                ⟨some 59, .fad 3 (.t 1), some (58, true)⟩,
                ⟨some 60, .load false [(.sl 1)] (.t 59), some (58, true)⟩,
                ⟨some 61, .len false (.t 60), some (58, true)⟩,
                ⟨some 62, .fad 4 (.t 1), some (58, true)⟩,
                ⟨some 63, .load false [(.sl 5)] (.t 62), some (58, true)⟩,
                ⟨some 64, .len false (.t 63), some (58, true)⟩,
                ⟨some 65, .bin .eql (.t 61) (.t 64), some (58, true)⟩,
                ⟨some 66, .pick (.t 58) (.t 65) (.c (.v (.bool false))), none⟩,
                ⟨some 5, .mv (.t 66), none⟩]) (
              .reg false [⟨some 6, .mv (.c (.v (.bool true))), none⟩])) (.seq (.reg false [⟨some 2, .mv (.c (.v (.bool false))), none⟩]) (
              .ret)))))))))))))) (
  .seq (.reg false [⟨some 67, .mv (.t 3), none⟩,
    ⟨some 68, .mv (.t 67), none⟩,
    ⟨some 69, .mv (.t 4), some (68, true)⟩,
    ⟨some 70, .pick (.t 68) (.t 69) (.c (.v (.bool false))), none⟩,
    ⟨some 71, .mv (.t 70), none⟩,
    ⟨some 72, .mv (.t 5), some (71, true)⟩,
    ⟨some 73, .pick (.t 71) (.t 72) (.c (.v (.bool false))), none⟩,
    ⟨some 74, .mv (.t 73), none⟩,
    ⟨some 75, .mv (.t 6), some (74, true)⟩,
    ⟨some 76, .pick (.t 74) (.t 75) (.c (.v (.bool false))), none⟩,
    ⟨some 2, .mv (.t 76), none⟩]) (
  .ret)))))⟩
theorem l168x0s (T : Table) (k n : Nat) (n6 : Int) (s7 : ByteArray) (n8 : Int) (l9 : Rows) (l10 : Rows) (b11 : Bool) (b12 : Bool) (b13 : Bool) (n14 : Int) (n15 : Int) : l168x0 T k (n + 1) [(.b [(.v (.int .i64 n6)), (.v (.string s7)), (.v (.int .i64 n8)), (.fz 1 l9), (.fz 5 l10)]), (.v (.bool b11)), (.v (.bool b12)), (.v (.bool b13)), (.v (.int .i64 n14)), (.v (.int .i64 n15))] = (
 bif (decide (n15 < n14)) then (
 tst (decide (0 ≤ n15)) (
 byteAt s7 (Int.toNat n15) fun c16 =>
 callT T 85 [(.d (.v (.int .i64 (IntKind.wrap .i64 (c16.toNat : Int))))), (.d (.v (.int .i64 32))), (.d (.v (.int .i64 126)))] fun o17 =>
 oD o17.res fun d18 =>
 dB d18 fun b19 =>
 bif (!b19) then (
 some (.ret, [(.v (.bool false))])) else (
 l168x0 T k n [(.b [(.v (.int .i64 n6)), (.v (.string s7)), (.v (.int .i64 n8)), (.fz 1 l9), (.fz 5 l10)]), (.v (.bool b11)), (.v (.bool b12)), (.v (.bool b13)), (.v (.int .i64 n14)), (.v (.int .i64 (IntKind.wrap .i64 (n15 + 1))))]))) else (
 some ((.exit 1), [(.b [(.v (.int .i64 n6)), (.v (.string s7)), (.v (.int .i64 n8)), (.fz 1 l9), (.fz 5 l10)]), (.v (.bool b11)), (.v (.bool b12)), (.v (.bool b13))]))) := by kernel_rfl
theorem a168q (T : Table) (k : Nat) (n1 : Int) (s2 : ByteArray) (n3 : Int) (l4 : Rows) (l5 : Rows) : evalF T k a168 [(.g [(.v (.int .i64 n1)), (.v (.string s2)), (.v (.int .i64 n3)), (.s 1 l4), (.s 5 l5)])] = (
 bif (n1 == 1) then (
 aft (l168x0 T k k [(.b [(.v (.int .i64 n1)), (.v (.string s2)), (.v (.int .i64 n3)), (.fz 1 l4), (.fz 5 l5)]), (.v (.bool (n3 == 0))), (.v (.bool ((l4.length : Int) == 0))), (.v (.bool ((l5.length : Int) == 0))), (.v (.int .i64 (s2.size : Int))), (.v (.int .i64 0))]) fun e20 ys21 =>
 bif e20.same .ret then (
 aV ys21 0 fun x22 =>
 aB x22 fun b23 =>
 some ⟨(.d (.v (.bool b23))), []⟩) else (
 bif e20.same (.exit 1) then (
 aV ys21 0 fun x24 =>
 aX x24 fun xs25 =>
 aV xs25 0 fun x26 =>
 aI .i64 x26 fun n27 =>
 aV xs25 1 fun x28 =>
 aS x28 fun s29 =>
 aV xs25 2 fun x30 =>
 aI .i64 x30 fun n31 =>
 aV xs25 3 fun x32 =>
 aL 1 x32 fun l33 =>
 aV xs25 4 fun x34 =>
 aL 5 x34 fun l35 =>
 aV ys21 1 fun x36 =>
 aB x36 fun b37 =>
 aV ys21 2 fun x38 =>
 aB x38 fun b39 =>
 aV ys21 3 fun x40 =>
 aB x40 fun b41 =>
 bif (decide ((s29.size : Int) ≤ 100)) == true then (
 bif b37 == true then (
 bif b39 == true then (
 some ⟨(.d (.v (.bool b41))), []⟩) else (
 some ⟨(.d (.v (.bool false))), []⟩)) else (
 some ⟨(.d (.v (.bool false))), []⟩)) else (
 some ⟨(.d (.v (.bool false))), []⟩)) else (
 none))) else (
 bif (n1 == 2) then (
 bif (bytesEq s2 ({ data := #[] } : ByteArray)) == true then (
 bif ((l4.length : Int) == 0) == true then (
 some ⟨(.d (.v (.bool ((l5.length : Int) == 0)))), []⟩) else (
 some ⟨(.d (.v (.bool false))), []⟩)) else (
 some ⟨(.d (.v (.bool false))), []⟩)) else (
 bif (n1 == 3) then (
 callT T 85 [(.d (.v (.int .i64 n3))), (.d (.v (.int .i64 0))), (.d (.v (.int .i64 1)))] fun o42 =>
 oD o42.res fun d43 =>
 dB d43 fun b44 =>
 bif (bytesEq s2 ({ data := #[] } : ByteArray)) == true then (
 bif b44 == true then (
 bif ((l4.length : Int) == 0) == true then (
 some ⟨(.d (.v (.bool ((l5.length : Int) == 0)))), []⟩) else (
 some ⟨(.d (.v (.bool false))), []⟩)) else (
 some ⟨(.d (.v (.bool false))), []⟩)) else (
 some ⟨(.d (.v (.bool false))), []⟩)) else (
 bif (n1 == 4) then (
 bif (bytesEq s2 ({ data := #[] } : ByteArray)) == true then (
 bif (n3 == 0) == true then (
 bif ((l4.length : Int) == 0) == true then (
 some ⟨(.d (.v (.bool true))), []⟩) else (
 some ⟨(.d (.v (.bool false))), []⟩)) else (
 some ⟨(.d (.v (.bool false))), []⟩)) else (
 some ⟨(.d (.v (.bool false))), []⟩)) else (
 bif (n1 == 5) then (
 callT T 183 [(.d (.s 1 l4)), (.d (.v (.int .i64 300)))] fun o45 =>
 oD o45.res fun d46 =>
 dB d46 fun b47 =>
 bif b47 == true then (
 bif (bytesEq s2 ({ data := #[] } : ByteArray)) == true then (
 bif (n3 == 0) == true then (
 bif ((l4.length : Int) == (l5.length : Int)) == true then (
 some ⟨(.d (.v (.bool true))), []⟩) else (
 some ⟨(.d (.v (.bool false))), []⟩)) else (
 some ⟨(.d (.v (.bool false))), []⟩)) else (
 some ⟨(.d (.v (.bool false))), []⟩)) else (
 bif (bytesEq s2 ({ data := #[] } : ByteArray)) == true then (
 bif (n3 == 0) == true then (
 some ⟨(.d (.v (.bool false))), []⟩) else (
 some ⟨(.d (.v (.bool false))), []⟩)) else (
 some ⟨(.d (.v (.bool false))), []⟩))) else (
 some ⟨(.d (.v (.bool false))), []⟩)))))) := by kernel_rfl
/- loop.example/g00119/impl.measured -/
def b147x0 : ACode := (
  .seq (.reg false [⟨some 19, .bin .lss (.t 18) (.t 17), none⟩]) (
  .seq (.cond (.t 19) (.skip) (.exit 0)) (
  .seq (.block 1 (.seq (.reg false [⟨some 20, .iad 5 (.t 16) (.t 18), none⟩,
      ⟨some 21, .load true [(.i .i64), .s, (.i .i64), (.sl 1), (.sl 5)] (.t 20), none⟩,
      ⟨some 7, .alloc [(.v (.int .i64 0)), (.v (.string ByteArray.empty)), (.v (.int .i64 0)), (.s 1 []), (.s 5 [])], none⟩,
      ⟨none, .store 5 (.t 7) (.t 21), none⟩]) (
    .seq (.reg false [⟨some 22, .mv (.t 5), none⟩,
      ⟨some 23, .load true [(.i .i64), .s, (.i .i64), (.sl 1), (.sl 5)] (.t 7), none⟩,
      ⟨some 24, .mv (.t 1), none⟩,
      ⟨some 25, .bin .sub (.t 24) (.c (.v (.int .i64 1))), none⟩,
      ⟨some 26, .call (.f 147) [.rd, .rd] false [.c (.i .i64)] [(.t 23), (.t 25)], none⟩,
      ⟨some 27, .bin .add (.t 22) (.t 26), none⟩,
      ⟨some 5, .mv (.t 27), none⟩]) (
    .seq (.reg false [⟨some 28, .mv (.t 5), none⟩,
      ⟨some 29, .bin .gtr (.t 28) (.c (.v (.int .i64 300))), none⟩]) (
    .cond (.t 29) (.seq (.reg false [⟨some 4, .mv (.c (.v (.int .i64 301))), none⟩]) (
      .ret)) (.skip)))))) (
  .reg false [⟨some 30, .bin .add (.t 18) (.c (.v (.int .i64 1))), none⟩,
    ⟨some 18, .mv (.t 30), none⟩]))))
def e147x0 : Exits := [(.ret, [(4, .c (.i .i64))]), ((.exit 0), [(5, .c (.i .i64))])]
noncomputable def l147x0 (T : Table) (k : Nat) := loopN (evalC ⟨T, []⟩ k b147x0 (Ex × List AV)) [1, 5, 16, 17, 18] e147x0
def a147 : AFun := ⟨[.rd, .rd], false, [.t 4], (
  .seq (.reg false [⟨some 2, .box (.t 0), none⟩,
    ⟨some 4, .mv (.c (.v (.int .i64 0))), none⟩]) (
  .seq (.seq (.reg false [⟨some 8, .mv (.t 1), none⟩,
    ⟨some 9, .bin .eql (.t 8) (.c (.v (.int .i64 0))), none⟩,
    ⟨some 10, .mv (.t 9), none⟩,
    ⟨some 11, .load true [(.i .i64), .s, (.i .i64), (.sl 1), (.sl 5)] (.t 2), some (10, false)⟩,
    ⟨some 12, .call (.f 168) [.rd] false [.c .b] [(.t 11)], some (10, false)⟩,
    ⟨some 13, .un .not (.t 12), some (10, false)⟩,
    ⟨some 14, .pick (.t 10) (.c (.v (.bool true))) (.t 13), none⟩]) (
  .cond (.t 14) (.seq (.reg false [⟨some 4, .mv (.c (.v (.int .i64 301))), none⟩]) (
    .ret)) (.skip))) (
  .seq (.reg false [⟨some 5, .mv (.c (.v (.int .i64 1))), none⟩]) (
  .seq (.seq (.reg false [⟨some 15, .fad 4 (.t 2), none⟩,
    ⟨some 16, .load false [(.sl 5)] (.t 15), none⟩,
    ⟨some 17, .len false (.t 16), none⟩,
    ⟨some 18, .mv (.c (.v (.int .i64 0))), none⟩]) (
  .block 0 (.loop [1, 5, 16, 17, 18] e147x0 b147x0))) (
  .seq (.reg false [⟨some 31, .mv (.t 5), none⟩,
    ⟨some 4, .mv (.t 31), none⟩]) (
  .ret))))))⟩
theorem l147x0s (T : Table) (k n : Nat) (n10 : Int) (n11 : Int) (l12 : Rows) (n13 : Int) (n14 : Int) : l147x0 T k (n + 1) [(.v (.int .i64 n10)), (.v (.int .i64 n11)), (.fz 5 l12), (.v (.int .i64 n13)), (.v (.int .i64 n14))] = (
 bif (decide (n14 < n13)) then (
 tst (decide (0 ≤ n14)) (
 look l12 (Int.toNat n14) fun r15 =>
 cI .i64 r15 0 fun n16 =>
 cS r15 1 fun s17 =>
 cI .i64 r15 2 fun n18 =>
 cL 1 r15 3 fun l19 =>
 cL 5 r15 4 fun l20 =>
 callT T 147 [(.g [(.v (.int .i64 n16)), (.v (.string s17)), (.v (.int .i64 n18)), (.s 1 l19), (.s 5 l20)]), (.d (.v (.int .i64 (IntKind.wrap .i64 (n10 - 1)))))] fun o21 =>
 oD o21.res fun d22 =>
 dI .i64 d22 fun n23 =>
 bif (decide ((IntKind.wrap .i64 (n11 + n23)) > 300)) then (
 some (.ret, [(.v (.int .i64 301))])) else (
 l147x0 T k n [(.v (.int .i64 n10)), (.v (.int .i64 (IntKind.wrap .i64 (n11 + n23)))), (.fz 5 l12), (.v (.int .i64 n13)), (.v (.int .i64 (IntKind.wrap .i64 (n14 + 1))))]))) else (
 some ((.exit 0), [(.v (.int .i64 n11))]))) := by kernel_rfl
theorem a147q (T : Table) (k : Nat) (n1 : Int) (s2 : ByteArray) (n3 : Int) (l4 : Rows) (l5 : Rows) (n6 : Int) : evalF T k a147 [(.g [(.v (.int .i64 n1)), (.v (.string s2)), (.v (.int .i64 n3)), (.s 1 l4), (.s 5 l5)]), (.d (.v (.int .i64 n6)))] = (
 bif (n6 == 0) == false then (
 callT T 168 [(.g [(.v (.int .i64 n1)), (.v (.string s2)), (.v (.int .i64 n3)), (.s 1 l4), (.s 5 l5)])] fun o7 =>
 oD o7.res fun d8 =>
 dB d8 fun b9 =>
 bif (!b9) then (
 some ⟨(.d (.v (.int .i64 301))), []⟩) else (
 aft (l147x0 T k k [(.v (.int .i64 n6)), (.v (.int .i64 1)), (.fz 5 l5), (.v (.int .i64 (l5.length : Int))), (.v (.int .i64 0))]) fun e24 ys25 =>
 bif e24.same .ret then (
 aV ys25 0 fun x26 =>
 aI .i64 x26 fun n27 =>
 some ⟨(.d (.v (.int .i64 n27))), []⟩) else (
 bif e24.same (.exit 0) then (
 aV ys25 0 fun x28 =>
 aI .i64 x28 fun n29 =>
 some ⟨(.d (.v (.int .i64 n29))), []⟩) else (
 none)))) else (
 some ⟨(.d (.v (.int .i64 301))), []⟩)) := by kernel_rfl
/- loop.example/g00119/impl.ValueOk -/

def a125 : AFun := ⟨[.rd], false, [.t 2], (
  .seq (.reg false [⟨some 1, .box (.t 0), none⟩,
    ⟨some 2, .mv (.c (.v (.bool false))), none⟩]) (
  .seq (.reg false [⟨some 3, .load true [(.i .i64), .s, (.i .i64), (.sl 1), (.sl 5)] (.t 1), none⟩,
    ⟨some 4, .call (.f 147) [.rd, .rd] false [.c (.i .i64)] [(.t 3), (.c (.v (.int .i64 6)))], none⟩,
    ⟨some 5, .bin .leq (.t 4) (.c (.v (.int .i64 300))), none⟩,
    ⟨some 2, .mv (.t 5), none⟩]) (
  .ret)))⟩

theorem a125q (T : Table) (k : Nat) (n1 : Int) (s2 : ByteArray) (n3 : Int) (l4 : Rows) (l5 : Rows) : evalF T k a125 [(.g [(.v (.int .i64 n1)), (.v (.string s2)), (.v (.int .i64 n3)), (.s 1 l4), (.s 5 l5)])] = (
 callT T 147 [(.g [(.v (.int .i64 n1)), (.v (.string s2)), (.v (.int .i64 n3)), (.s 1 l4), (.s 5 l5)]), (.d (.v (.int .i64 6)))] fun o6 =>
 oD o6.res fun d7 =>
 dI .i64 d7 fun n8 =>
 some ⟨(.d (.v (.bool (decide (n8 ≤ 300))))), []⟩) := by kernel_rfl
/- loop.example/g00119/impl.WorksOk -/
def b87x0 : ACode := (
  .seq (.reg false [⟨some 8, .bin .lss (.t 7) (.t 6), none⟩]) (
  .seq (.cond (.t 8) (.skip) (.exit 0)) (
  .seq (.block 1 (.seq (.reg false [⟨some 9, .mv (.t 7), none⟩,
      ⟨some 10, .iad 7 (.t 5) (.t 7), none⟩,
      ⟨some 11, .load true [(.i .i64), (.i .i64), (.i .i64), .s, (.i .i64), (.sl 1), (.sl 5)] (.t 10), none⟩,
      ⟨some 4, .alloc [(.v (.int .i64 0)), (.v (.int .i64 0)), (.v (.int .i64 0)), (.v (.string ByteArray.empty)), (.v (.int .i64 0)), (.s 1 []), (.s 5 [])], none⟩,
      ⟨some 3, .mv (.t 9), none⟩,
      ⟨none, .store 7 (.t 4) (.t 11), none⟩]) (
    .seq (.dreg [] [(0, ⟨some 12, .fad 0 (.t 4), none⟩),
      (0, ⟨some 13, .load false [(.i .i64)] (.t 12), none⟩),
      (1, ⟨some 14, .call (.f 85) [.rd, .rd, .rd] false [.c .b] [(.t 13), (.c (.v (.int .i64 1))), (.c (.v (.int .i64 1000000)))], none⟩),
      (0, ⟨some 15, .un .not (.t 14), none⟩),
      (0, ⟨some 16, .mv (.t 15), none⟩),
      (0, ⟨some 17, .fad 1 (.t 4), some (16, false)⟩),
      (0, ⟨some 18, .load false [(.i .i64)] (.t 17), some (16, false)⟩),
      (1, ⟨some 19, .call (.f 85) [.rd, .rd, .rd] false [.c .b] [(.t 18), (.c (.v (.int .i64 1))), (.c (.v (.int .i64 10000)))], some (16, false)⟩),
      (0, ⟨some 20, .un .not (.t 19), some (16, false)⟩),
      (0, ⟨some 21, .pick (.t 16) (.c (.v (.bool true))) (.t 20), none⟩),
      (0, ⟨some 22, .mv (.t 21), none⟩),
      (0, ⟨some 23, .fad 2 (.t 4), some (22, false)⟩),
      (0, ⟨some 24, .load true [(.i .i64), .s, (.i .i64), (.sl 1), (.sl 5)] (.t 23), some (22, false)⟩),
      (1, ⟨some 25, .call (.f 125) [.rd] false [.c .b] [(.t 24)], some (22, false)⟩),
      (0, ⟨some 26, .un .not (.t 25), some (22, false)⟩),
      (0, ⟨some 27, .pick (.t 22) (.c (.v (.bool true))) (.t 26), none⟩),
      (0, ⟨some 28, .mv (.t 27), none⟩),
      (0, ⟨some 29, .mv (.t 3), some (28, false)⟩),
      (0, ⟨some 30, .bin .gtr (.t 29) (.c (.v (.int .i64 0))), some (28, false)⟩),
      (0, ⟨some 31, .mv (.t 30), some (28, false)⟩),
      (0, ⟨some 32, .mv (.t 0), some (31, true)⟩),
      (0, ⟨some 33, .mv (.t 3), some (31, true)⟩),
      (0, ⟨some 34, .bin .sub (.t 33) (.c (.v (.int .i64 1))), some (31, true)⟩),
      (0, ⟨some 35, .iad 7 (.t 32) (.t 34), some (31, true)⟩),
      (0, ⟨some 36, .fad 0 (.t 35), some (31, true)⟩),
      (0, ⟨some 37, .load false [(.i .i64)] (.t 36), some (31, true)⟩),
      (0, ⟨some 38, .fad 0 (.t 4), some (31, true)⟩),
      (0, ⟨some 39, .load false [(.i .i64)] (.t 38), some (31, true)⟩)] [⟨some 40, .bin .geq (.t 37) (.t 39), some (31, true)⟩,
      ⟨some 41, .pick (.t 31) (.t 40) (.c (.v (.bool false))), some (28, false)⟩,
      ⟨some 42, .pick (.t 28) (.c (.v (.bool true))) (.t 41), none⟩]) (
    .cond (.t 42) (.seq (.reg false [⟨some 2, .mv (.c (.v (.bool false))), none⟩]) (
      .ret)) (.skip))))) (
  .reg false [⟨some 43, .bin .add (.t 7) (.c (.v (.int .i64 1))), none⟩,
    ⟨some 7, .mv (.t 43), none⟩]))))
def e87x0 : Exits := [(.ret, [(2, .c .b)]), ((.exit 0), [(0, .c (.sl 7))])]
noncomputable def l87x0 (T : Table) (k : Nat) := loopN (evalC ⟨T, []⟩ k b87x0 (Ex × List AV)) [0, 5, 6, 7] e87x0
def a87 : AFun := ⟨[.rd], false, [.t 2], (
  .seq (.reg false [⟨some 2, .mv (.c (.v (.bool false))), none⟩]) (
  .seq (.seq (.reg false [⟨some 5, .mv (.t 0), none⟩,
    ⟨some 6, .len false (.t 5), none⟩,
    ⟨some 7, .mv (.c (.v (.int .i64 0))), none⟩]) (
  .block 0 (.loop [0, 5, 6, 7] e87x0 b87x0))) (
  .seq (.reg false [⟨some 44, .mv (.t 0), none⟩,
    ⟨some 45, .len false (.t 44), none⟩,
    ⟨some 46, .bin .leq (.t 45) (.c (.v (.int .i64 40))), none⟩,
    ⟨some 2, .mv (.t 46), none⟩]) (
  .ret))))⟩
theorem l87x0s (T : Table) (k n : Nat) (l2 : Rows) (l3 : Rows) (n4 : Int) (n5 : Int) : l87x0 T k (n + 1) [(.fz 7 l2), (.fz 7 l3), (.v (.int .i64 n4)), (.v (.int .i64 n5))] = (
 bif (decide (n5 < n4)) then (
 tst (decide (0 ≤ n5)) (
 look l3 (Int.toNat n5) fun r6 =>
 cI .i64 r6 0 fun n7 =>
 cI .i64 r6 1 fun n8 =>
 cI .i64 r6 2 fun n9 =>
 cS r6 3 fun s10 =>
 cI .i64 r6 4 fun n11 =>
 cL 1 r6 5 fun l12 =>
 cL 5 r6 6 fun l13 =>
 callT T 85 [(.d (.v (.int .i64 n7))), (.d (.v (.int .i64 1))), (.d (.v (.int .i64 1000000)))] fun o14 =>
 oD o14.res fun d15 =>
 dB d15 fun b16 =>
 bif (!b16) == false then (
 callT T 85 [(.d (.v (.int .i64 n8))), (.d (.v (.int .i64 1))), (.d (.v (.int .i64 10000)))] fun o17 =>
 oD o17.res fun d18 =>
 dB d18 fun b19 =>
 bif (!b19) == false then (
 callT T 125 [(.g [(.v (.int .i64 n9)), (.v (.string s10)), (.v (.int .i64 n11)), (.s 1 l12), (.s 5 l13)])] fun o20 =>
 oD o20.res fun d21 =>
 dB d21 fun b22 =>
 bif (!b22) == false then (
 bif (decide (n5 > 0)) == true then (
 tst (decide (0 ≤ (IntKind.wrap .i64 (n5 - 1)))) (
 look l2 (Int.toNat (IntKind.wrap .i64 (n5 - 1))) fun r23 =>
 cI .i64 r23 0 fun n24 =>
 bif (decide (n24 ≥ n7)) then (
 some (.ret, [(.v (.bool false))])) else (
 l87x0 T k n [(.fz 7 l2), (.fz 7 l3), (.v (.int .i64 n4)), (.v (.int .i64 (IntKind.wrap .i64 (n5 + 1))))]))) else (
 l87x0 T k n [(.fz 7 l2), (.fz 7 l3), (.v (.int .i64 n4)), (.v (.int .i64 (IntKind.wrap .i64 (n5 + 1))))])) else (
 some (.ret, [(.v (.bool false))]))) else (
 some (.ret, [(.v (.bool false))]))) else (
 some (.ret, [(.v (.bool false))])))) else (
 some ((.exit 0), [(.fz 7 l2)]))) := by kernel_rfl
theorem a87q (T : Table) (k : Nat) (l1 : Rows) : evalF T k a87 [(.d (.s 7 l1))] = (
 aft (l87x0 T k k [(.fz 7 l1), (.fz 7 l1), (.v (.int .i64 (l1.length : Int))), (.v (.int .i64 0))]) fun e25 ys26 =>
 bif e25.same .ret then (
 aV ys26 0 fun x27 =>
 aB x27 fun b28 =>
 some ⟨(.d (.v (.bool b28))), []⟩) else (
 bif e25.same (.exit 0) then (
 aV ys26 0 fun x29 =>
 aL 7 x29 fun l30 =>
 some ⟨(.d (.v (.bool (decide ((l30.length : Int) ≤ 40))))), []⟩) else (
 none))) := by kernel_rfl
/- slices.IndexFunc[[]loop.example/g00119/impl.Run,loop.example/g00119/impl.Run] -/
def b139x0 : ACode := (
  .seq (.reg false [⟨some 9, .bin .lss (.t 8) (.t 7), none⟩]) (
  .seq (.cond (.t 9) (.skip) (.exit 0)) (
  .seq (.block 1 (.seq (.reg false [⟨some 10, .mv (.t 8), none⟩,
      ⟨some 5, .mv (.t 10), none⟩]) (
    .seq (.reg false [⟨some 11, .mv (.t 1), none⟩,
      ⟨some 12, .mv (.t 0), none⟩,
      ⟨some 13, .mv (.t 5), none⟩,
      ⟨some 14, .iad 2 (.t 12) (.t 13), none⟩,
      ⟨some 15, .load true [(.i .i64), (.i .i64)] (.t 14), none⟩,
      ⟨some 16, .call (.t 11) [.rd] false [.c .b] [(.t 15)], none⟩]) (
    .cond (.t 16) (.seq (.reg false [⟨some 17, .mv (.t 5), none⟩,
        ⟨some 4, .mv (.t 17), none⟩]) (
      .ret)) (.skip))))) (
  .reg false [⟨some 18, .bin .add (.t 8) (.c (.v (.int .i64 1))), none⟩,
    ⟨some 8, .mv (.t 18), none⟩]))))
def e139x0 : Exits := [(.ret, [(4, .c (.i .i64))]), ((.exit 0), [])]
noncomputable def l139x0 (T : Table) (k : Nat) := loopN (evalC ⟨T, []⟩ k b139x0 (Ex × List AV)) [0, 1, 7, 8] e139x0
def a139 : AFun := ⟨[.rd, .rd], false, [.t 4], (
  .seq (.reg false [⟨some 4, .mv (.c (.v (.int .i64 0))), none⟩]) (
  .seq (.seq (.reg false [⟨some 6, .mv (.t 0), none⟩,
    ⟨some 7, .len false (.t 6), none⟩,
    ⟨some 8, .mv (.c (.v (.int .i64 0))), none⟩]) (
  .block 0 (.loop [0, 1, 7, 8] e139x0 b139x0))) (
  .seq (.reg false [⟨some 4, .mv (.c (.v (.int .i64 (-1)))), none⟩]) (
  .ret))))⟩
theorem l139x0s (T : Table) (k n : Nat) (l4 : Rows) (f5 : Nat) (cs6 : List I) (n7 : Int) (n8 : Int) : l139x0 T k (n + 1) [(.fz 2 l4), (.ff f5 cs6), (.v (.int .i64 n7)), (.v (.int .i64 n8))] = (
 bif (decide (n8 < n7)) then (
 tst (decide (0 ≤ n8)) (
 look l4 (Int.toNat n8) fun r9 =>
 cI .i64 r9 0 fun n10 =>
 cI .i64 r9 1 fun n11 =>
 callT T f5 ([(.g [(.v (.int .i64 n10)), (.v (.int .i64 n11))])] ++ cs6) fun o12 =>
 oD o12.res fun d13 =>
 dB d13 fun b14 =>
 bif b14 then (
 some (.ret, [(.v (.int .i64 n8))])) else (
 l139x0 T k n [(.fz 2 l4), (.ff f5 cs6), (.v (.int .i64 n7)), (.v (.int .i64 (IntKind.wrap .i64 (n8 + 1))))]))) else (
 some ((.exit 0), []))) := by kernel_rfl
theorem a139q (T : Table) (k : Nat) (l1 : Rows) (f2 : Nat) (cs3 : List I) : evalF T k a139 [(.d (.s 2 l1)), (.f f2 cs3)] = (
 aft (l139x0 T k k [(.fz 2 l1), (.ff f2 cs3), (.v (.int .i64 (l1.length : Int))), (.v (.int .i64 0))]) fun e15 ys16 =>
 bif e15.same .ret then (
 aV ys16 0 fun x17 =>
 aI .i64 x17 fun n18 =>
 some ⟨(.d (.v (.int .i64 n18))), []⟩) else (
 bif e15.same (.exit 0) then (
 some ⟨(.d (.v (.int .i64 (-1)))), []⟩) else (
 none))) := by kernel_rfl
/- slices.ContainsFunc[[]loop.example/g00119/impl.Run,loop.example/g00119/impl.Run] -/

def a109 : AFun := ⟨[.rd, .rd], false, [.t 4], (
  .seq (.reg false [⟨some 4, .mv (.c (.v (.bool false))), none⟩]) (
  .seq (.reg false [⟨some 5, .mv (.t 0), none⟩,
    ⟨some 6, .mv (.t 1), none⟩,
    ⟨some 7, .call (.f 139) [.rd, .rd] false [.c (.i .i64)] [(.t 5), (.t 6)], none⟩,
    ⟨some 8, .bin .geq (.t 7) (.c (.v (.int .i64 0))), none⟩,
    ⟨some 4, .mv (.t 8), none⟩]) (
  .ret)))⟩

theorem a109q (T : Table) (k : Nat) (l1 : Rows) (f2 : Nat) (cs3 : List I) : evalF T k a109 [(.d (.s 2 l1)), (.f f2 cs3)] = (
 callT T 139 [(.d (.s 2 l1)), (.f f2 cs3)] fun o4 =>
 oD o4.res fun d5 =>
 dI .i64 d5 fun n6 =>
 some ⟨(.d (.v (.bool (decide (n6 ≥ 0))))), []⟩) := by kernel_rfl
/- loop.example/g00119/impl.IsleOk$1 -/

def a110 : AFun := ⟨[.rd], false, [.t 2], (
  .seq (.reg false [⟨some 1, .box (.t 0), none⟩,
    ⟨some 2, .mv (.c (.v (.bool false))), none⟩]) (
  .seq (.reg false [⟨some 3, .fad 1 (.t 1), none⟩,
    ⟨some 4, .load false [(.i .i64)] (.t 3), none⟩,
    ⟨some 5, .bin .eql (.t 4) (.c (.v (.int .i64 0))), none⟩,
    ⟨some 2, .mv (.t 5), none⟩]) (
  .ret)))⟩

theorem a110q (T : Table) (k : Nat) (n1 : Int) (n2 : Int) : evalF T k a110 [(.g [(.v (.int .i64 n1)), (.v (.int .i64 n2))])] = (
 some ⟨(.d (.v (.bool (n2 == 0)))), []⟩) := by kernel_rfl
/- loop.example/g00119/impl.running -/
def b111x0 : ACode := (
  .seq (.reg false [⟨some 10, .bin .lss (.t 9) (.t 8), none⟩]) (
  .seq (.cond (.t 10) (.skip) (.exit 0)) (
  .seq (.block 1 (.seq (.reg false [⟨some 11, .iad 2 (.t 7) (.t 9), none⟩,
      ⟨some 12, .load true [(.i .i64), (.i .i64)] (.t 11), none⟩,
      ⟨some 5, .alloc [(.v (.int .i64 0)), (.v (.int .i64 0))], none⟩,
      ⟨none, .store 2 (.t 5) (.t 12), none⟩]) (
    .reg false [⟨some 13, .mv (.t 3), none⟩,
      ⟨some 14, .fad 1 (.t 5), none⟩,
      ⟨some 15, .load false [(.i .i64)] (.t 14), none⟩,
      ⟨some 16, .bin .add (.t 13) (.t 15), none⟩,
      ⟨some 3, .mv (.t 16), none⟩]))) (
  .reg false [⟨some 17, .bin .add (.t 9) (.c (.v (.int .i64 1))), none⟩,
    ⟨some 9, .mv (.t 17), none⟩]))))
def e111x0 : Exits := [((.exit 0), [(3, .c (.i .i64))])]
noncomputable def l111x0 (T : Table) (k : Nat) := loopN (evalC ⟨T, []⟩ k b111x0 (Ex × List AV)) [3, 7, 8, 9] e111x0
def a111 : AFun := ⟨[.rd], false, [.t 2], (
  .seq (.reg false [⟨some 1, .box (.t 0), none⟩,
    ⟨some 2, .mv (.c (.v (.int .i64 0))), none⟩]) (
  .seq (.reg false [⟨some 3, .mv (.c (.v (.int .i64 0))), none⟩]) (
  .seq (.seq (.reg false [⟨some 6, .fad 4 (.t 1), none⟩,
    ⟨some 7, .load false [(.sl 2)] (.t 6), none⟩,
    ⟨some 8, .len false (.t 7), none⟩,
    ⟨some 9, .mv (.c (.v (.int .i64 0))), none⟩]) (
  .block 0 (.loop [3, 7, 8, 9] e111x0 b111x0))) (
  .seq (.reg false [⟨some 18, .mv (.t 3), none⟩,
    ⟨some 2, .mv (.t 18), none⟩]) (
  .ret)))))⟩
theorem l111x0s (T : Table) (k n : Nat) (n6 : Int) (l7 : Rows) (n8 : Int) (n9 : Int) : l111x0 T k (n + 1) [(.v (.int .i64 n6)), (.fz 2 l7), (.v (.int .i64 n8)), (.v (.int .i64 n9))] = (
 bif (decide (n9 < n8)) then (
 tst (decide (0 ≤ n9)) (
 look l7 (Int.toNat n9) fun r10 =>
 cI .i64 r10 0 fun n11 =>
 cI .i64 r10 1 fun n12 =>
 l111x0 T k n [(.v (.int .i64 (IntKind.wrap .i64 (n6 + n12)))), (.fz 2 l7), (.v (.int .i64 n8)), (.v (.int .i64 (IntKind.wrap .i64 (n9 + 1))))])) else (
 some ((.exit 0), [(.v (.int .i64 n6))]))) := by kernel_rfl
theorem a111q (T : Table) (k : Nat) (s1 : ByteArray) (n2 : Int) (n3 : Int) (l4 : Rows) (l5 : Rows) : evalF T k a111 [(.g [(.v (.string s1)), (.v (.int .i64 n2)), (.v (.int .i64 n3)), (.s 7 l4), (.s 2 l5)])] = (
 aft (l111x0 T k k [(.v (.int .i64 0)), (.fz 2 l5), (.v (.int .i64 (l5.length : Int))), (.v (.int .i64 0))]) fun e13 ys14 =>
 bif e13.same (.exit 0) then (
 aV ys14 0 fun x15 =>
 aI .i64 x15 fun n16 =>
 some ⟨(.d (.v (.int .i64 n16))), []⟩) else (
 none)) := by kernel_rfl
/- loop.example/g00119/impl.IsleOk -/

def a66 : AFun := ⟨[.rd], false, [.t 2], (
  .seq (.reg false [⟨some 1, .box (.t 0), none⟩,
    ⟨some 2, .mv (.c (.v (.bool false))), none⟩]) (
  .seq (.dreg [] [(0, ⟨some 3, .fad 0 (.t 1), none⟩),
    (0, ⟨some 4, .load false [.s] (.t 3), none⟩),
    (1, ⟨some 5, .call (.f 84) [.rd] false [.c .b] [(.t 4)], none⟩),
    (0, ⟨some 6, .mv (.t 5), none⟩),
    (0, ⟨some 7, .fad 1 (.t 1), some (6, true)⟩),
    (0, ⟨some 8, .load false [(.i .i64)] (.t 7), some (6, true)⟩),
    (1, ⟨some 9, .call (.f 108) [.rd] false [.c .b] [(.t 8)], some (6, true)⟩),
    (0, ⟨some 10, .pick (.t 6) (.t 9) (.c (.v (.bool false))), none⟩),
    (0, ⟨some 11, .mv (.t 10), none⟩),
    (0, ⟨some 12, .fad 2 (.t 1), some (11, true)⟩),
    (0, ⟨some 13, .load false [(.i .i64)] (.t 12), some (11, true)⟩),
    (1, ⟨some 14, .call (.f 85) [.rd, .rd, .rd] false [.c .b] [(.t 13), (.c (.v (.int .i64 0))), (.c (.v (.int .i64 1000000)))], some (11, true)⟩),
    (0, ⟨some 15, .pick (.t 11) (.t 14) (.c (.v (.bool false))), none⟩),
    (0, ⟨some 16, .mv (.t 15), none⟩),
    (0, ⟨some 17, .fad 3 (.t 1), some (16, true)⟩),
    (0, ⟨some 18, .load false [(.sl 7)] (.t 17), some (16, true)⟩),
    (1, ⟨some 19, .call (.f 87) [.rd] false [.c .b] [(.t 18)], some (16, true)⟩),
    (0, ⟨some 20, .pick (.t 16) (.t 19) (.c (.v (.bool false))), none⟩),
    (0, ⟨some 21, .mv (.t 20), none⟩),
    (0, ⟨some 22, .fad 4 (.t 1), some (21, true)⟩),
    (0, ⟨some 23, .load false [(.sl 2)] (.t 22), some (21, true)⟩),
    (1, ⟨some 24, .call (.f 86) [.rd] false [.c .b] [(.t 23)], some (21, true)⟩),
    (0, ⟨some 25, .pick (.t 21) (.t 24) (.c (.v (.bool false))), none⟩),
    (0, ⟨some 26, .mv (.t 25), none⟩),
    (0, ⟨some 27, .fad 4 (.t 1), some (26, true)⟩),
    (0, ⟨some 28, .load false [(.sl 2)] (.t 27), some (26, true)⟩),
    (1, ⟨some 29, .call (.f 109) [.rd, .rd] false [.c .b] [(.t 28), (.f 110)], some (26, true)⟩),
    (0, ⟨some 30, .un .not (.t 29), some (26, true)⟩),
    (0, ⟨some 31, .pick (.t 26) (.t 30) (.c (.v (.bool false))), none⟩),
    (0, ⟨some 32, .mv (.t 31), none⟩),
    (0, ⟨some 33, .load true [.s, (.i .i64), (.i .i64), (.sl 7), (.sl 2)] (.t 1), some (32, true)⟩),
    (1, ⟨some 34, .call (.f 111) [.rd] false [.c (.i .i64)] [(.t 33)], some (32, true)⟩),
    (0, ⟨some 35, .fad 1 (.t 1), some (32, true)⟩),
    (0, ⟨some 36, .load false [(.i .i64)] (.t 35), some (32, true)⟩)] [⟨some 37, .bin .leq (.t 34) (.t 36), some (32, true)⟩,
    ⟨some 38, .pick (.t 32) (.t 37) (.c (.v (.bool false))), none⟩,
    ⟨some 2, .mv (.t 38), none⟩]) (
  .ret)))⟩

theorem a66q (T : Table) (k : Nat) (s1 : ByteArray) (n2 : Int) (n3 : Int) (l4 : Rows) (l5 : Rows) : evalF T k a66 [(.g [(.v (.string s1)), (.v (.int .i64 n2)), (.v (.int .i64 n3)), (.s 7 l4), (.s 2 l5)])] = (
 callT T 84 [(.d (.v (.string s1)))] fun o6 =>
 oD o6.res fun d7 =>
 dB d7 fun b8 =>
 bif b8 == true then (
 callT T 108 [(.d (.v (.int .i64 n2)))] fun o9 =>
 oD o9.res fun d10 =>
 dB d10 fun b11 =>
 bif b11 == true then (
 callT T 85 [(.d (.v (.int .i64 n3))), (.d (.v (.int .i64 0))), (.d (.v (.int .i64 1000000)))] fun o12 =>
 oD o12.res fun d13 =>
 dB d13 fun b14 =>
 bif b14 == true then (
 callT T 87 [(.d (.s 7 l4))] fun o15 =>
 oD o15.res fun d16 =>
 dB d16 fun b17 =>
 bif b17 == true then (
 callT T 86 [(.d (.s 2 l5))] fun o18 =>
 oD o18.res fun d19 =>
 dB d19 fun b20 =>
 bif b20 == true then (
 callT T 109 [(.d (.s 2 l5)), (.f 110 [])] fun o21 =>
 oD o21.res fun d22 =>
 dB d22 fun b23 =>
 bif (!b23) == true then (
 callT T 111 [(.g [(.v (.string s1)), (.v (.int .i64 n2)), (.v (.int .i64 n3)), (.s 7 l4), (.s 2 l5)])] fun o24 =>
 oD o24.res fun d25 =>
 dI .i64 d25 fun n26 =>
 some ⟨(.d (.v (.bool (decide (n26 ≤ n2))))), []⟩) else (
 some ⟨(.d (.v (.bool false))), []⟩)) else (
 some ⟨(.d (.v (.bool false))), []⟩)) else (
 some ⟨(.d (.v (.bool false))), []⟩)) else (
 some ⟨(.d (.v (.bool false))), []⟩)) else (
 some ⟨(.d (.v (.bool false))), []⟩)) else (
 some ⟨(.d (.v (.bool false))), []⟩)) := by kernel_rfl
/- slices.Clone[[]loop.example/g00119/impl.Run,loop.example/g00119/impl.Run] -/

def a89 : AFun := ⟨[.rd], false, [.t 2], (
  .seq (.reg false [⟨some 2, .mv (.c (.o 2 [])), none⟩]) (
  .seq (.seq (.reg false [⟨some 3, .mv (.t 0), none⟩,
    ⟨some 4, .more (.nilq 2 (.t 3)), none⟩]) (
  .cond (.t 4) (.seq (.reg false [⟨some 2, .mv (.c (.o 2 [])), none⟩]) (
    .ret)) (.skip))) (
  .seq (.reg false [⟨some 5, .lit 2 ([] : Rows) [], none⟩,
    ⟨some 6, .mv (.t 0), none⟩,
    ⟨some 7, .app 2 16 (.t 5) (.t 6), none⟩,
    ⟨some 2, .mv (.t 7), none⟩]) (
  .ret))))⟩

theorem a89q (T : Table) (k : Nat) (l1 : Rows) : evalF T k a89 [(.d (.s 2 l1))] = (
 bif List.isEmpty l1 then (
 agree (
 some ⟨(.d (.s 2 [])), []⟩) (
 tst (flatRows l1) (
 tst (decide ((([] : Rows).length + l1.length) * 16 ≤ maxBytes)) (
 some ⟨(.d (.s 2 (([] : Rows) ++ l1))), []⟩)))) else (
 tst (flatRows l1) (
 tst (decide ((([] : Rows).length + l1.length) * 16 ≤ maxBytes)) (
 some ⟨(.d (.s 2 (([] : Rows) ++ l1))), []⟩)))) := by kernel_rfl
/- slices.insertionSortCmpFunc[loop.example/g00119/impl.Run] -/
def b163x1 : ACode := (
  .seq (.seq (.dreg [] [(0, ⟨some 18, .mv (.t 9), none⟩),
    (0, ⟨some 19, .mv (.t 1), none⟩),
    (0, ⟨some 20, .bin .gtr (.t 18) (.t 19), none⟩),
    (0, ⟨some 21, .mv (.t 20), none⟩),
    (0, ⟨some 22, .mv (.t 3), some (21, true)⟩),
    (0, ⟨some 23, .mv (.t 0), some (21, true)⟩),
    (0, ⟨some 24, .mv (.t 9), some (21, true)⟩),
    (0, ⟨some 25, .iad 2 (.t 23) (.t 24), some (21, true)⟩),
    (0, ⟨some 26, .load true [(.i .i64), (.i .i64)] (.t 25), some (21, true)⟩),
    (0, ⟨some 27, .mv (.t 0), some (21, true)⟩),
    (0, ⟨some 28, .mv (.t 9), some (21, true)⟩),
    (0, ⟨some 29, .bin .sub (.t 28) (.c (.v (.int .i64 1))), some (21, true)⟩),
    (0, ⟨some 30, .iad 2 (.t 27) (.t 29), some (21, true)⟩),
    (0, ⟨some 31, .load true [(.i .i64), (.i .i64)] (.t 30), some (21, true)⟩)] [⟨some 32, .call (.t 22) [.rd, .rd] false [.c (.i .i64)] [(.t 26), (.t 31)], some (21, true)⟩,
    ⟨some 33, .bin .lss (.t 32) (.c (.v (.int .i64 0))), some (21, true)⟩,
    ⟨some 34, .pick (.t 21) (.t 33) (.c (.v (.bool false))), none⟩]) (
  .cond (.t 34) (.skip) (.exit 2))) (
  .seq (.block 3 (.dreg [] [(0, ⟨some 37, .mv (.t 0), none⟩),
      (0, ⟨some 38, .mv (.t 9), none⟩),
      (3, ⟨some 39, .mv (.t 0), none⟩),
      (3, ⟨some 40, .mv (.t 9), none⟩),
      (3, ⟨some 41, .bin .sub (.t 40) (.c (.v (.int .i64 1))), none⟩),
      (0, ⟨some 42, .mv (.t 0), none⟩),
      (0, ⟨some 43, .mv (.t 9), none⟩),
      (0, ⟨some 44, .bin .sub (.t 43) (.c (.v (.int .i64 1))), none⟩),
      (0, ⟨some 45, .iad 2 (.t 42) (.t 44), none⟩),
      (0, ⟨some 46, .load true [(.i .i64), (.i .i64)] (.t 45), none⟩),
      (0, ⟨some 47, .mv (.t 0), none⟩),
      (0, ⟨some 48, .mv (.t 9), none⟩),
      (0, ⟨some 49, .iad 2 (.t 47) (.t 48), none⟩),
      (0, ⟨some 50, .load true [(.i .i64), (.i .i64)] (.t 49), none⟩)] [⟨some 51, .iad 2 (.t 37) (.t 38), none⟩,
      ⟨none, .store 2 (.t 51) (.t 46), none⟩,
      ⟨some 52, .iad 2 (.t 39) (.t 41), none⟩,
      ⟨none, .store 2 (.t 52) (.t 50), none⟩])) (
  .reg false [⟨some 35, .mv (.t 9), none⟩,
    ⟨some 36, .bin .sub (.t 35) (.c (.v (.int .i64 1))), none⟩,
    ⟨some 9, .mv (.t 36), none⟩])))
def e163x1 : Exits := [((.exit 2), [(0, .o 2), (1, .c (.i .i64)), (2, .c (.i .i64)), (3, .ff), (8, .c (.i .i64))])]
noncomputable def l163x1 (T : Table) (k : Nat) := loopN (evalC ⟨T, [0]⟩ k b163x1 (Ex × List AV)) [0, 1, 2, 3, 8, 9] e163x1
def b163x0 : ACode := (
  .seq (.seq (.reg false [⟨some 12, .mv (.t 8), none⟩,
    ⟨some 13, .mv (.t 2), none⟩,
    ⟨some 14, .bin .lss (.t 12) (.t 13), none⟩]) (
  .cond (.t 14) (.skip) (.exit 0))) (
  .seq (.block 1 (.seq (.reg false [⟨some 17, .mv (.t 8), none⟩,
      ⟨some 9, .mv (.t 17), none⟩]) (
    .block 2 (.loop [0, 1, 2, 3, 8, 9] e163x1 b163x1)))) (
  .reg false [⟨some 15, .mv (.t 8), none⟩,
    ⟨some 16, .bin .add (.t 15) (.c (.v (.int .i64 1))), none⟩,
    ⟨some 8, .mv (.t 16), none⟩])))
def e163x0 : Exits := [((.exit 0), [(0, .o 2)])]
noncomputable def l163x0 (T : Table) (k : Nat) := loopN (evalC ⟨T, [0]⟩ k b163x0 (Ex × List AV)) [0, 1, 2, 3, 8] e163x0
def a163 : AFun := ⟨[.lent, .rd, .rd, .rd], false, [], (
  .seq (.reg false [⟨some 10, .mv (.t 1), none⟩,
    ⟨some 11, .bin .add (.t 10) (.c (.v (.int .i64 1))), none⟩,
    ⟨some 8, .mv (.t 11), none⟩]) (
  .block 0 (.loop [0, 1, 2, 3, 8] e163x0 b163x0)))⟩
theorem l163x1s (T : Table) (k n : Nat) (l12 : Rows) (n13 : Int) (n14 : Int) (f15 : Nat) (cs16 : List I) (n17 : Int) (n18 : Int) : l163x1 T k (n + 1) [(.o 2 l12), (.v (.int .i64 n13)), (.v (.int .i64 n14)), (.ff f15 cs16), (.v (.int .i64 n17)), (.v (.int .i64 n18))] = (
 bif (decide (n18 > n13)) == true then (
 tst (decide (0 ≤ n18) && decide (Int.toNat n18 < l12.length)) (
 look l12 (Int.toNat n18) fun r19 =>
 cI .i64 r19 0 fun n20 =>
 look l12 (Int.toNat n18) fun r21 =>
 cI .i64 r21 1 fun n22 =>
 tst (decide (0 ≤ (IntKind.wrap .i64 (n18 - 1))) && decide (Int.toNat (IntKind.wrap .i64 (n18 - 1)) < l12.length)) (
 look l12 (Int.toNat (IntKind.wrap .i64 (n18 - 1))) fun r23 =>
 cI .i64 r23 0 fun n24 =>
 look l12 (Int.toNat (IntKind.wrap .i64 (n18 - 1))) fun r25 =>
 cI .i64 r25 1 fun n26 =>
 callT T f15 ([(.g [(.v (.int .i64 n20)), (.v (.int .i64 n22))]), (.g [(.v (.int .i64 n24)), (.v (.int .i64 n26))])] ++ cs16) fun o27 =>
 oD o27.res fun d28 =>
 dI .i64 d28 fun n29 =>
 bif (decide (n29 < 0)) then (
 tst (decide (0 ≤ (IntKind.wrap .i64 (n18 - 1))) && decide (Int.toNat (IntKind.wrap .i64 (n18 - 1)) < l12.length)) (
 look l12 (Int.toNat (IntKind.wrap .i64 (n18 - 1))) fun r30 =>
 cI .i64 r30 0 fun n31 =>
 look l12 (Int.toNat (IntKind.wrap .i64 (n18 - 1))) fun r32 =>
 cI .i64 r32 1 fun n33 =>
 tst (decide (0 ≤ n18) && decide (Int.toNat n18 < l12.length)) (
 look l12 (Int.toNat n18) fun r34 =>
 cI .i64 r34 0 fun n35 =>
 look l12 (Int.toNat n18) fun r36 =>
 cI .i64 r36 1 fun n37 =>
 tst (decide (0 ≤ n18) && decide (Int.toNat n18 < l12.length)) (
 tst (decide (0 ≤ (IntKind.wrap .i64 (n18 - 1))) && decide (Int.toNat (IntKind.wrap .i64 (n18 - 1)) < (setD (setD l12 (Int.toNat n18) 0 (.v (.int .i64 n31))) (Int.toNat n18) 1 (.v (.int .i64 n33))).length)) (
 l163x1 T k n [(.o 2 (setD (setD (setD (setD l12 (Int.toNat n18) 0 (.v (.int .i64 n31))) (Int.toNat n18) 1 (.v (.int .i64 n33))) (Int.toNat (IntKind.wrap .i64 (n18 - 1))) 0 (.v (.int .i64 n35))) (Int.toNat (IntKind.wrap .i64 (n18 - 1))) 1 (.v (.int .i64 n37)))), (.v (.int .i64 n13)), (.v (.int .i64 n14)), (.ff f15 cs16), (.v (.int .i64 n17)), (.v (.int .i64 (IntKind.wrap .i64 (n18 - 1))))]))))) else (
 some ((.exit 2), [(.o 2 l12), (.v (.int .i64 n13)), (.v (.int .i64 n14)), (.ff f15 cs16), (.v (.int .i64 n17))]))))) else (
 some ((.exit 2), [(.o 2 l12), (.v (.int .i64 n13)), (.v (.int .i64 n14)), (.ff f15 cs16), (.v (.int .i64 n17))]))) := by kernel_rfl
theorem l163x0s (T : Table) (k n : Nat) (l6 : Rows) (n7 : Int) (n8 : Int) (f9 : Nat) (cs10 : List I) (n11 : Int) : l163x0 T k (n + 1) [(.o 2 l6), (.v (.int .i64 n7)), (.v (.int .i64 n8)), (.ff f9 cs10), (.v (.int .i64 n11))] = (
 bif (decide (n11 < n8)) then (
 aft (l163x1 T k k [(.o 2 l6), (.v (.int .i64 n7)), (.v (.int .i64 n8)), (.ff f9 cs10), (.v (.int .i64 n11)), (.v (.int .i64 n11))]) fun e38 ys39 =>
 bif e38.same (.exit 2) then (
 aV ys39 0 fun x40 =>
 aO 2 x40 fun l41 =>
 aV ys39 1 fun x42 =>
 aI .i64 x42 fun n43 =>
 aV ys39 2 fun x44 =>
 aI .i64 x44 fun n45 =>
 aV ys39 3 fun x46 =>
 aF x46 fun f47 cs48 =>
 aV ys39 4 fun x49 =>
 aI .i64 x49 fun n50 =>
 l163x0 T k n [(.o 2 l41), (.v (.int .i64 n43)), (.v (.int .i64 n45)), (.ff f47 cs48), (.v (.int .i64 (IntKind.wrap .i64 (n50 + 1))))]) else (
 none)) else (
 some ((.exit 0), [(.o 2 l6)]))) := by kernel_rfl
theorem a163q (T : Table) (k : Nat) (l1 : Rows) (n2 : Int) (n3 : Int) (f4 : Nat) (cs5 : List I) : evalF T k a163 [(.d (.s 2 l1)), (.d (.v (.int .i64 n2))), (.d (.v (.int .i64 n3))), (.f f4 cs5)] = (
 aft (l163x0 T k k [(.o 2 l1), (.v (.int .i64 n2)), (.v (.int .i64 n3)), (.ff f4 cs5), (.v (.int .i64 (IntKind.wrap .i64 (n2 + 1))))]) fun e51 ys52 =>
 bif e51.same (.exit 0) then (
 aV ys52 0 fun x53 =>
 aO 2 x53 fun l54 =>
 some ⟨(.t []), [(.d (.s 2 l54))]⟩) else (
 none)) := by kernel_rfl
/- slices.swapRangeCmpFunc[loop.example/g00119/impl.Run] -/
def b187x0 : ACode := (
  .seq (.seq (.reg false [⟨some 11, .mv (.t 10), none⟩,
    ⟨some 12, .mv (.t 3), none⟩,
    ⟨some 13, .bin .lss (.t 11) (.t 12), none⟩]) (
  .cond (.t 13) (.skip) (.exit 0))) (
  .seq (.block 1 (.dreg [] [(0, ⟨some 16, .mv (.t 0), none⟩),
      (0, ⟨some 17, .mv (.t 1), none⟩),
      (0, ⟨some 18, .mv (.t 10), none⟩),
      (0, ⟨some 19, .bin .add (.t 17) (.t 18), none⟩),
      (3, ⟨some 20, .mv (.t 0), none⟩),
      (3, ⟨some 21, .mv (.t 2), none⟩),
      (3, ⟨some 22, .mv (.t 10), none⟩),
      (3, ⟨some 23, .bin .add (.t 21) (.t 22), none⟩),
      (0, ⟨some 24, .mv (.t 0), none⟩),
      (0, ⟨some 25, .mv (.t 2), none⟩),
      (0, ⟨some 26, .mv (.t 10), none⟩),
      (0, ⟨some 27, .bin .add (.t 25) (.t 26), none⟩),
      (0, ⟨some 28, .iad 2 (.t 24) (.t 27), none⟩),
      (0, ⟨some 29, .load true [(.i .i64), (.i .i64)] (.t 28), none⟩),
      (0, ⟨some 30, .mv (.t 0), none⟩),
      (0, ⟨some 31, .mv (.t 1), none⟩),
      (0, ⟨some 32, .mv (.t 10), none⟩),
      (0, ⟨some 33, .bin .add (.t 31) (.t 32), none⟩),
      (0, ⟨some 34, .iad 2 (.t 30) (.t 33), none⟩),
      (0, ⟨some 35, .load true [(.i .i64), (.i .i64)] (.t 34), none⟩)] [⟨some 36, .iad 2 (.t 16) (.t 19), none⟩,
      ⟨none, .store 2 (.t 36) (.t 29), none⟩,
      ⟨some 37, .iad 2 (.t 20) (.t 23), none⟩,
      ⟨none, .store 2 (.t 37) (.t 35), none⟩])) (
  .reg false [⟨some 14, .mv (.t 10), none⟩,
    ⟨some 15, .bin .add (.t 14) (.c (.v (.int .i64 1))), none⟩,
    ⟨some 10, .mv (.t 15), none⟩])))
def e187x0 : Exits := [((.exit 0), [(0, .o 2)])]
noncomputable def l187x0 (T : Table) (k : Nat) := loopN (evalC ⟨T, [0]⟩ k b187x0 (Ex × List AV)) [0, 1, 2, 3, 10] e187x0
def a187 : AFun := ⟨[.lent, .rd, .rd, .rd, .rd], false, [], (
  .seq (.reg false [⟨some 10, .mv (.c (.v (.int .i64 0))), none⟩]) (
  .block 0 (.loop [0, 1, 2, 3, 10] e187x0 b187x0)))⟩
theorem l187x0s (T : Table) (k n : Nat) (l7 : Rows) (n8 : Int) (n9 : Int) (n10 : Int) (n11 : Int) : l187x0 T k (n + 1) [(.o 2 l7), (.v (.int .i64 n8)), (.v (.int .i64 n9)), (.v (.int .i64 n10)), (.v (.int .i64 n11))] = (
 bif (decide (n11 < n10)) then (
 tst (decide (0 ≤ (IntKind.wrap .i64 (n9 + n11))) && decide (Int.toNat (IntKind.wrap .i64 (n9 + n11)) < l7.length)) (
 look l7 (Int.toNat (IntKind.wrap .i64 (n9 + n11))) fun r12 =>
 cI .i64 r12 0 fun n13 =>
 look l7 (Int.toNat (IntKind.wrap .i64 (n9 + n11))) fun r14 =>
 cI .i64 r14 1 fun n15 =>
 tst (decide (0 ≤ (IntKind.wrap .i64 (n8 + n11))) && decide (Int.toNat (IntKind.wrap .i64 (n8 + n11)) < l7.length)) (
 look l7 (Int.toNat (IntKind.wrap .i64 (n8 + n11))) fun r16 =>
 cI .i64 r16 0 fun n17 =>
 look l7 (Int.toNat (IntKind.wrap .i64 (n8 + n11))) fun r18 =>
 cI .i64 r18 1 fun n19 =>
 tst (decide (0 ≤ (IntKind.wrap .i64 (n8 + n11))) && decide (Int.toNat (IntKind.wrap .i64 (n8 + n11)) < l7.length)) (
 tst (decide (0 ≤ (IntKind.wrap .i64 (n9 + n11))) && decide (Int.toNat (IntKind.wrap .i64 (n9 + n11)) < (setD (setD l7 (Int.toNat (IntKind.wrap .i64 (n8 + n11))) 0 (.v (.int .i64 n13))) (Int.toNat (IntKind.wrap .i64 (n8 + n11))) 1 (.v (.int .i64 n15))).length)) (
 l187x0 T k n [(.o 2 (setD (setD (setD (setD l7 (Int.toNat (IntKind.wrap .i64 (n8 + n11))) 0 (.v (.int .i64 n13))) (Int.toNat (IntKind.wrap .i64 (n8 + n11))) 1 (.v (.int .i64 n15))) (Int.toNat (IntKind.wrap .i64 (n9 + n11))) 0 (.v (.int .i64 n17))) (Int.toNat (IntKind.wrap .i64 (n9 + n11))) 1 (.v (.int .i64 n19)))), (.v (.int .i64 n8)), (.v (.int .i64 n9)), (.v (.int .i64 n10)), (.v (.int .i64 (IntKind.wrap .i64 (n11 + 1))))]))))) else (
 some ((.exit 0), [(.o 2 l7)]))) := by kernel_rfl
theorem a187q (T : Table) (k : Nat) (l1 : Rows) (n2 : Int) (n3 : Int) (n4 : Int) (f5 : Nat) (cs6 : List I) : evalF T k a187 [(.d (.s 2 l1)), (.d (.v (.int .i64 n2))), (.d (.v (.int .i64 n3))), (.d (.v (.int .i64 n4))), (.f f5 cs6)] = (
 aft (l187x0 T k k [(.o 2 l1), (.v (.int .i64 n2)), (.v (.int .i64 n3)), (.v (.int .i64 n4)), (.v (.int .i64 0))]) fun e20 ys21 =>
 bif e20.same (.exit 0) then (
 aV ys21 0 fun x22 =>
 aO 2 x22 fun l23 =>
 some ⟨(.t []), [(.d (.s 2 l23))]⟩) else (
 none)) := by kernel_rfl

-- a188 "(runtime.boundsError).Error": IndexError('list index out of range')
-- a189 "(runtime.boundsError).RuntimeError": IndexError('list index out of range')
-- a190 "(runtime.errorString).Error": IndexError('list index out of range')
-- a191 "(runtime.errorString).RuntimeError": IndexError('list index out of range')
-- a192 "(runtime.plainError).Error": IndexError('list index out of range')
-- a193 "(runtime.plainError).RuntimeError": IndexError('list index out of range')
-- a194 "(runtime.errorAddressString).Error": IndexError('list index out of range')
-- a195 "(runtime.errorAddressString).RuntimeError": IndexError('list index out of range')
-- a196 "(*runtime.TypeAssertionError).Error": IndexError('list index out of range')
-- a197 "(*runtime.TypeAssertionError).RuntimeError": IndexError('list index out of range')
-- a198 "(*runtime.PanicNilError).Error": IndexError('list index out of range')
-- a199 "(*runtime.PanicNilError).RuntimeError": IndexError('list index out of range')
-- a200 "(*internal/abi.Type).Align": IndexError('list index out of range')
-- a201 "(internal/runtime/maps.unhashableTypeError).Error": IndexError('list index out of range')
-- a202 "(internal/runtime/maps.unhashableTypeError).RuntimeError": IndexError('list index out of range')
-- a203 "(internal/abi.Kind).String": IndexError('list index out of range')
/- slices.rotateCmpFunc[loop.example/g00119/impl.Run] -/
def b181x0 : ACode := (
  .seq (.seq (.reg false [⟨some 18, .mv (.t 10), none⟩,
    ⟨some 19, .mv (.t 11), none⟩,
    ⟨some 20, .bin .neq (.t 18) (.t 19), none⟩]) (
  .cond (.t 20) (.skip) (.exit 0))) (
  .block 1 (.seq (.reg false [⟨some 21, .mv (.t 10), none⟩,
      ⟨some 22, .mv (.t 11), none⟩,
      ⟨some 23, .bin .gtr (.t 21) (.t 22), none⟩]) (
    .cond (.t 23) (.seq (.reg false [⟨some 24, .mv (.t 0), none⟩,
        ⟨some 25, .mv (.t 2), none⟩,
        ⟨some 26, .mv (.t 10), none⟩,
        ⟨some 27, .bin .sub (.t 25) (.t 26), none⟩,
        ⟨some 28, .mv (.t 2), none⟩,
        ⟨some 29, .mv (.t 11), none⟩,
        ⟨some 30, .mv (.t 4), none⟩,
        ⟨some 31, .call (.f 187) [.lent, .rd, .rd, .rd, .rd] false [] [(.t 24), (.t 27), (.t 28), (.t 29), (.t 30)], none⟩]) (
      .reg false [⟨some 32, .mv (.t 10), none⟩,
        ⟨some 33, .mv (.t 11), none⟩,
        ⟨some 34, .bin .sub (.t 32) (.t 33), none⟩,
        ⟨some 10, .mv (.t 34), none⟩])) (.seq (.reg false [⟨some 35, .mv (.t 0), none⟩,
        ⟨some 36, .mv (.t 2), none⟩,
        ⟨some 37, .mv (.t 10), none⟩,
        ⟨some 38, .bin .sub (.t 36) (.t 37), none⟩,
        ⟨some 39, .mv (.t 2), none⟩,
        ⟨some 40, .mv (.t 11), none⟩,
        ⟨some 41, .bin .add (.t 39) (.t 40), none⟩,
        ⟨some 42, .mv (.t 10), none⟩,
        ⟨some 43, .bin .sub (.t 41) (.t 42), none⟩,
        ⟨some 44, .mv (.t 10), none⟩,
        ⟨some 45, .mv (.t 4), none⟩,
        ⟨some 46, .call (.f 187) [.lent, .rd, .rd, .rd, .rd] false [] [(.t 35), (.t 38), (.t 43), (.t 44), (.t 45)], none⟩]) (
      .reg false [⟨some 47, .mv (.t 11), none⟩,
        ⟨some 48, .mv (.t 10), none⟩,
        ⟨some 49, .bin .sub (.t 47) (.t 48), none⟩,
        ⟨some 11, .mv (.t 49), none⟩]))))))
def e181x0 : Exits := [((.exit 0), [(0, .o 2), (2, .c (.i .i64)), (4, .ff), (10, .c (.i .i64))])]
noncomputable def l181x0 (T : Table) (k : Nat) := loopN (evalC ⟨T, [0]⟩ k b181x0 (Ex × List AV)) [0, 2, 4, 10, 11] e181x0
def a181 : AFun := ⟨[.lent, .rd, .rd, .rd, .rd], false, [], (
  .seq (.reg false [⟨some 12, .mv (.t 2), none⟩,
    ⟨some 13, .mv (.t 1), none⟩,
    ⟨some 14, .bin .sub (.t 12) (.t 13), none⟩,
    ⟨some 10, .mv (.t 14), none⟩]) (
  .seq (.reg false [⟨some 15, .mv (.t 3), none⟩,
    ⟨some 16, .mv (.t 2), none⟩,
    ⟨some 17, .bin .sub (.t 15) (.t 16), none⟩,
    ⟨some 11, .mv (.t 17), none⟩]) (
  .seq (.block 0 (.loop [0, 2, 4, 10, 11] e181x0 b181x0)) (
  .reg false [⟨some 50, .mv (.t 0), none⟩,
    ⟨some 51, .mv (.t 2), none⟩,
    ⟨some 52, .mv (.t 10), none⟩,
    ⟨some 53, .bin .sub (.t 51) (.t 52), none⟩,
    ⟨some 54, .mv (.t 2), none⟩,
    ⟨some 55, .mv (.t 10), none⟩,
    ⟨some 56, .mv (.t 4), none⟩,
    ⟨some 57, .call (.f 187) [.lent, .rd, .rd, .rd, .rd] false [] [(.t 50), (.t 53), (.t 54), (.t 55), (.t 56)], none⟩]))))⟩
theorem l181x0s (T : Table) (k n : Nat) (l7 : Rows) (n8 : Int) (f9 : Nat) (cs10 : List I) (n11 : Int) (n12 : Int) : l181x0 T k (n + 1) [(.o 2 l7), (.v (.int .i64 n8)), (.ff f9 cs10), (.v (.int .i64 n11)), (.v (.int .i64 n12))] = (
 bif (n11 != n12) then (
 bif (decide (n11 > n12)) then (
 callT T 187 [(.d (.s 2 l7)), (.d (.v (.int .i64 (IntKind.wrap .i64 (n8 - n11))))), (.d (.v (.int .i64 n8))), (.d (.v (.int .i64 n12))), (.f f9 cs10)] fun o13 =>
 nth o13.back 0 fun i14 =>
 oD i14 fun d15 =>
 dL 2 d15 fun l16 =>
 oT o13.res fun is17 =>
 tst (Nat.beq is17.length 0) (
 l181x0 T k n [(.o 2 l16), (.v (.int .i64 n8)), (.ff f9 cs10), (.v (.int .i64 (IntKind.wrap .i64 (n11 - n12)))), (.v (.int .i64 n12))])) else (
 callT T 187 [(.d (.s 2 l7)), (.d (.v (.int .i64 (IntKind.wrap .i64 (n8 - n11))))), (.d (.v (.int .i64 (IntKind.wrap .i64 ((IntKind.wrap .i64 (n8 + n12)) - n11))))), (.d (.v (.int .i64 n11))), (.f f9 cs10)] fun o18 =>
 nth o18.back 0 fun i19 =>
 oD i19 fun d20 =>
 dL 2 d20 fun l21 =>
 oT o18.res fun is22 =>
 tst (Nat.beq is22.length 0) (
 l181x0 T k n [(.o 2 l21), (.v (.int .i64 n8)), (.ff f9 cs10), (.v (.int .i64 n11)), (.v (.int .i64 (IntKind.wrap .i64 (n12 - n11))))]))) else (
 some ((.exit 0), [(.o 2 l7), (.v (.int .i64 n8)), (.ff f9 cs10), (.v (.int .i64 n11))]))) := by kernel_rfl
theorem a181q (T : Table) (k : Nat) (l1 : Rows) (n2 : Int) (n3 : Int) (n4 : Int) (f5 : Nat) (cs6 : List I) : evalF T k a181 [(.d (.s 2 l1)), (.d (.v (.int .i64 n2))), (.d (.v (.int .i64 n3))), (.d (.v (.int .i64 n4))), (.f f5 cs6)] = (
 aft (l181x0 T k k [(.o 2 l1), (.v (.int .i64 n3)), (.ff f5 cs6), (.v (.int .i64 (IntKind.wrap .i64 (n3 - n2)))), (.v (.int .i64 (IntKind.wrap .i64 (n4 - n3))))]) fun e23 ys24 =>
 bif e23.same (.exit 0) then (
 aV ys24 0 fun x25 =>
 aO 2 x25 fun l26 =>
 aV ys24 1 fun x27 =>
 aI .i64 x27 fun n28 =>
 aV ys24 2 fun x29 =>
 aF x29 fun f30 cs31 =>
 aV ys24 3 fun x32 =>
 aI .i64 x32 fun n33 =>
 callT T 187 [(.d (.s 2 l26)), (.d (.v (.int .i64 (IntKind.wrap .i64 (n28 - n33))))), (.d (.v (.int .i64 n28))), (.d (.v (.int .i64 n33))), (.f f30 cs31)] fun o34 =>
 nth o34.back 0 fun i35 =>
 oD i35 fun d36 =>
 dL 2 d36 fun l37 =>
 oT o34.res fun is38 =>
 tst (Nat.beq is38.length 0) (
 some ⟨(.t []), [(.d (.s 2 l37))]⟩)) else (
 none)) := by kernel_rfl
/- slices.symMergeCmpFunc[loop.example/g00119/impl.Run] -/
def b164x0 : ACode := (
  .seq (.seq (.reg false [⟨some 31, .mv (.t 10), none⟩,
    ⟨some 32, .mv (.t 11), none⟩,
    ⟨some 33, .bin .lss (.t 31) (.t 32), none⟩]) (
  .cond (.t 33) (.skip) (.exit 0))) (
  .block 1 (.seq (.reg false [⟨some 34, .mv (.t 10), none⟩,
      ⟨some 35, .mv (.t 11), none⟩,
      ⟨some 36, .bin .add (.t 34) (.t 35), none⟩,
      ⟨some 37, .conv (.int .u64) (.t 36), none⟩,
      ⟨some 38, .more (.shr 1 (.t 37)), none⟩,
      ⟨some 39, .conv (.int .i64) (.t 38), none⟩,
      ⟨some 12, .mv (.t 39), none⟩]) (
    .seq (.dreg [] [(0, ⟨some 40, .mv (.t 4), none⟩),
      (0, ⟨some 41, .mv (.t 0), none⟩),
      (0, ⟨some 42, .mv (.t 12), none⟩),
      (0, ⟨some 43, .iad 2 (.t 41) (.t 42), none⟩),
      (0, ⟨some 44, .load true [(.i .i64), (.i .i64)] (.t 43), none⟩),
      (0, ⟨some 45, .mv (.t 0), none⟩),
      (0, ⟨some 46, .mv (.t 1), none⟩),
      (0, ⟨some 47, .iad 2 (.t 45) (.t 46), none⟩),
      (0, ⟨some 48, .load true [(.i .i64), (.i .i64)] (.t 47), none⟩)] [⟨some 49, .call (.t 40) [.rd, .rd] false [.c (.i .i64)] [(.t 44), (.t 48)], none⟩,
      ⟨some 50, .bin .lss (.t 49) (.c (.v (.int .i64 0))), none⟩]) (
    .cond (.t 50) (.reg false [⟨some 51, .mv (.t 12), none⟩,
        ⟨some 52, .bin .add (.t 51) (.c (.v (.int .i64 1))), none⟩,
        ⟨some 10, .mv (.t 52), none⟩]) (.reg false [⟨some 53, .mv (.t 12), none⟩,
        ⟨some 11, .mv (.t 53), none⟩]))))))
def e164x0 : Exits := [((.exit 0), [(0, .o 2), (1, .c (.i .i64)), (10, .c (.i .i64))])]
noncomputable def l164x0 (T : Table) (k : Nat) := loopN (evalC ⟨T, [0]⟩ k b164x0 (Ex × List AV)) [0, 1, 4, 10, 11] e164x0
def b164x1 : ACode := (
  .seq (.seq (.reg false [⟨some 55, .mv (.t 13), none⟩,
    ⟨some 56, .mv (.t 10), none⟩,
    ⟨some 57, .bin .sub (.t 56) (.c (.v (.int .i64 1))), none⟩,
    ⟨some 58, .bin .lss (.t 55) (.t 57), none⟩]) (
  .cond (.t 58) (.skip) (.exit 2))) (
  .seq (.block 3 (.dreg [] [(0, ⟨some 61, .mv (.t 0), none⟩),
      (0, ⟨some 62, .mv (.t 13), none⟩),
      (3, ⟨some 63, .mv (.t 0), none⟩),
      (3, ⟨some 64, .mv (.t 13), none⟩),
      (3, ⟨some 65, .bin .add (.t 64) (.c (.v (.int .i64 1))), none⟩),
      (0, ⟨some 66, .mv (.t 0), none⟩),
      (0, ⟨some 67, .mv (.t 13), none⟩),
      (0, ⟨some 68, .bin .add (.t 67) (.c (.v (.int .i64 1))), none⟩),
      (0, ⟨some 69, .iad 2 (.t 66) (.t 68), none⟩),
      (0, ⟨some 70, .load true [(.i .i64), (.i .i64)] (.t 69), none⟩),
      (0, ⟨some 71, .mv (.t 0), none⟩),
      (0, ⟨some 72, .mv (.t 13), none⟩),
      (0, ⟨some 73, .iad 2 (.t 71) (.t 72), none⟩),
      (0, ⟨some 74, .load true [(.i .i64), (.i .i64)] (.t 73), none⟩)] [⟨some 75, .iad 2 (.t 61) (.t 62), none⟩,
      ⟨none, .store 2 (.t 75) (.t 70), none⟩,
      ⟨some 76, .iad 2 (.t 63) (.t 65), none⟩,
      ⟨none, .store 2 (.t 76) (.t 74), none⟩])) (
  .reg false [⟨some 59, .mv (.t 13), none⟩,
    ⟨some 60, .bin .add (.t 59) (.c (.v (.int .i64 1))), none⟩,
    ⟨some 13, .mv (.t 60), none⟩])))
def e164x1 : Exits := [((.exit 2), [(0, .o 2)])]
noncomputable def l164x1 (T : Table) (k : Nat) := loopN (evalC ⟨T, [0]⟩ k b164x1 (Ex × List AV)) [0, 10, 13] e164x1
def b164x2 : ACode := (
  .seq (.seq (.reg false [⟨some 83, .mv (.t 14), none⟩,
    ⟨some 84, .mv (.t 15), none⟩,
    ⟨some 85, .bin .lss (.t 83) (.t 84), none⟩]) (
  .cond (.t 85) (.skip) (.exit 4))) (
  .block 5 (.seq (.reg false [⟨some 86, .mv (.t 14), none⟩,
      ⟨some 87, .mv (.t 15), none⟩,
      ⟨some 88, .bin .add (.t 86) (.t 87), none⟩,
      ⟨some 89, .conv (.int .u64) (.t 88), none⟩,
      ⟨some 90, .more (.shr 1 (.t 89)), none⟩,
      ⟨some 91, .conv (.int .i64) (.t 90), none⟩,
      ⟨some 16, .mv (.t 91), none⟩]) (
    .seq (.dreg [] [(0, ⟨some 92, .mv (.t 4), none⟩),
      (0, ⟨some 93, .mv (.t 0), none⟩),
      (0, ⟨some 94, .mv (.t 2), none⟩),
      (0, ⟨some 95, .iad 2 (.t 93) (.t 94), none⟩),
      (0, ⟨some 96, .load true [(.i .i64), (.i .i64)] (.t 95), none⟩),
      (0, ⟨some 97, .mv (.t 0), none⟩),
      (0, ⟨some 98, .mv (.t 16), none⟩),
      (0, ⟨some 99, .iad 2 (.t 97) (.t 98), none⟩),
      (0, ⟨some 100, .load true [(.i .i64), (.i .i64)] (.t 99), none⟩)] [⟨some 101, .call (.t 92) [.rd, .rd] false [.c (.i .i64)] [(.t 96), (.t 100)], none⟩,
      ⟨some 102, .bin .lss (.t 101) (.c (.v (.int .i64 0))), none⟩,
      ⟨some 103, .un .not (.t 102), none⟩]) (
    .cond (.t 103) (.reg false [⟨some 104, .mv (.t 16), none⟩,
        ⟨some 105, .bin .add (.t 104) (.c (.v (.int .i64 1))), none⟩,
        ⟨some 14, .mv (.t 105), none⟩]) (.reg false [⟨some 106, .mv (.t 16), none⟩,
        ⟨some 15, .mv (.t 106), none⟩]))))))
def e164x2 : Exits := [((.exit 4), [(0, .o 2), (2, .c (.i .i64)), (14, .c (.i .i64))])]
noncomputable def l164x2 (T : Table) (k : Nat) := loopN (evalC ⟨T, [0]⟩ k b164x2 (Ex × List AV)) [0, 2, 4, 14, 15] e164x2
def b164x3 : ACode := (
  .seq (.seq (.reg false [⟨some 108, .mv (.t 17), none⟩,
    ⟨some 109, .mv (.t 14), none⟩,
    ⟨some 110, .bin .gtr (.t 108) (.t 109), none⟩]) (
  .cond (.t 110) (.skip) (.exit 6))) (
  .seq (.block 7 (.dreg [] [(0, ⟨some 113, .mv (.t 0), none⟩),
      (0, ⟨some 114, .mv (.t 17), none⟩),
      (3, ⟨some 115, .mv (.t 0), none⟩),
      (3, ⟨some 116, .mv (.t 17), none⟩),
      (3, ⟨some 117, .bin .sub (.t 116) (.c (.v (.int .i64 1))), none⟩),
      (0, ⟨some 118, .mv (.t 0), none⟩),
      (0, ⟨some 119, .mv (.t 17), none⟩),
      (0, ⟨some 120, .bin .sub (.t 119) (.c (.v (.int .i64 1))), none⟩),
      (0, ⟨some 121, .iad 2 (.t 118) (.t 120), none⟩),
      (0, ⟨some 122, .load true [(.i .i64), (.i .i64)] (.t 121), none⟩),
      (0, ⟨some 123, .mv (.t 0), none⟩),
      (0, ⟨some 124, .mv (.t 17), none⟩),
      (0, ⟨some 125, .iad 2 (.t 123) (.t 124), none⟩),
      (0, ⟨some 126, .load true [(.i .i64), (.i .i64)] (.t 125), none⟩)] [⟨some 127, .iad 2 (.t 113) (.t 114), none⟩,
      ⟨none, .store 2 (.t 127) (.t 122), none⟩,
      ⟨some 128, .iad 2 (.t 115) (.t 117), none⟩,
      ⟨none, .store 2 (.t 128) (.t 126), none⟩])) (
  .reg false [⟨some 111, .mv (.t 17), none⟩,
    ⟨some 112, .bin .sub (.t 111) (.c (.v (.int .i64 1))), none⟩,
    ⟨some 17, .mv (.t 112), none⟩])))
def e164x3 : Exits := [((.exit 6), [(0, .o 2)])]
noncomputable def l164x3 (T : Table) (k : Nat) := loopN (evalC ⟨T, [0]⟩ k b164x3 (Ex × List AV)) [0, 14, 17] e164x3
def b164x4 : ACode := (
  .seq (.seq (.reg false [⟨some 149, .mv (.t 20), none⟩,
    ⟨some 150, .mv (.t 21), none⟩,
    ⟨some 151, .bin .lss (.t 149) (.t 150), none⟩]) (
  .cond (.t 151) (.skip) (.exit 8))) (
  .block 9 (.seq (.reg false [⟨some 152, .mv (.t 20), none⟩,
      ⟨some 153, .mv (.t 21), none⟩,
      ⟨some 154, .bin .add (.t 152) (.t 153), none⟩,
      ⟨some 155, .conv (.int .u64) (.t 154), none⟩,
      ⟨some 156, .more (.shr 1 (.t 155)), none⟩,
      ⟨some 157, .conv (.int .i64) (.t 156), none⟩,
      ⟨some 23, .mv (.t 157), none⟩]) (
    .seq (.dreg [] [(0, ⟨some 158, .mv (.t 4), none⟩),
      (0, ⟨some 159, .mv (.t 0), none⟩),
      (0, ⟨some 160, .mv (.t 22), none⟩),
      (0, ⟨some 161, .mv (.t 23), none⟩),
      (0, ⟨some 162, .bin .sub (.t 160) (.t 161), none⟩),
      (0, ⟨some 163, .iad 2 (.t 159) (.t 162), none⟩),
      (0, ⟨some 164, .load true [(.i .i64), (.i .i64)] (.t 163), none⟩),
      (0, ⟨some 165, .mv (.t 0), none⟩),
      (0, ⟨some 166, .mv (.t 23), none⟩),
      (0, ⟨some 167, .iad 2 (.t 165) (.t 166), none⟩),
      (0, ⟨some 168, .load true [(.i .i64), (.i .i64)] (.t 167), none⟩)] [⟨some 169, .call (.t 158) [.rd, .rd] false [.c (.i .i64)] [(.t 164), (.t 168)], none⟩,
      ⟨some 170, .bin .lss (.t 169) (.c (.v (.int .i64 0))), none⟩,
      ⟨some 171, .un .not (.t 170), none⟩]) (
    .cond (.t 171) (.reg false [⟨some 172, .mv (.t 23), none⟩,
        ⟨some 173, .bin .add (.t 172) (.c (.v (.int .i64 1))), none⟩,
        ⟨some 20, .mv (.t 173), none⟩]) (.reg false [⟨some 174, .mv (.t 23), none⟩,
        ⟨some 21, .mv (.t 174), none⟩]))))))
def e164x4 : Exits := [((.exit 8), [(0, .o 2), (1, .c (.i .i64)), (2, .c (.i .i64)), (3, .c (.i .i64)), (4, .ff), (18, .c (.i .i64)), (19, .c (.i .i64)), (20, .c (.i .i64))])]
noncomputable def l164x4 (T : Table) (k : Nat) := loopN (evalC ⟨T, [0]⟩ k b164x4 (Ex × List AV)) [0, 1, 2, 3, 4, 18, 19, 20, 21, 22] e164x4
def a164 : AFun := ⟨[.lent, .rd, .rd, .rd, .rd], false, [], (
  .seq (.seq (.reg false [⟨some 25, .mv (.t 2), none⟩,
    ⟨some 26, .mv (.t 1), none⟩,
    ⟨some 27, .bin .sub (.t 25) (.t 26), none⟩,
    ⟨some 28, .bin .eql (.t 27) (.c (.v (.int .i64 1))), none⟩]) (
  .cond (.t 28) (.seq (.reg false [⟨some 29, .mv (.t 2), none⟩,
      ⟨some 10, .mv (.t 29), none⟩]) (
    .seq (.reg false [⟨some 30, .mv (.t 3), none⟩,
      ⟨some 11, .mv (.t 30), none⟩]) (
    .seq (.block 0 (.loop [0, 1, 4, 10, 11] e164x0 b164x0)) (
    .seq (.seq (.reg false [⟨some 54, .mv (.t 1), none⟩,
      ⟨some 13, .mv (.t 54), none⟩]) (
    .block 2 (.loop [0, 10, 13] e164x1 b164x1))) (
    .ret))))) (.skip))) (
  .seq (.seq (.reg false [⟨some 77, .mv (.t 3), none⟩,
    ⟨some 78, .mv (.t 2), none⟩,
    ⟨some 79, .bin .sub (.t 77) (.t 78), none⟩,
    ⟨some 80, .bin .eql (.t 79) (.c (.v (.int .i64 1))), none⟩]) (
  .cond (.t 80) (.seq (.reg false [⟨some 81, .mv (.t 1), none⟩,
      ⟨some 14, .mv (.t 81), none⟩]) (
    .seq (.reg false [⟨some 82, .mv (.t 2), none⟩,
      ⟨some 15, .mv (.t 82), none⟩]) (
    .seq (.block 4 (.loop [0, 2, 4, 14, 15] e164x2 b164x2)) (
    .seq (.seq (.reg false [⟨some 107, .mv (.t 2), none⟩,
      ⟨some 17, .mv (.t 107), none⟩]) (
    .block 6 (.loop [0, 14, 17] e164x3 b164x3))) (
    .ret))))) (.skip))) (
  .seq (.reg false [⟨some 129, .mv (.t 1), none⟩,
    ⟨some 130, .mv (.t 3), none⟩,
    ⟨some 131, .bin .add (.t 129) (.t 130), none⟩,
    ⟨some 132, .conv (.int .u64) (.t 131), none⟩,
    ⟨some 133, .more (.shr 1 (.t 132)), none⟩,
    ⟨some 134, .conv (.int .i64) (.t 133), none⟩,
    ⟨some 18, .mv (.t 134), none⟩]) (
  .seq (.reg false [⟨some 135, .mv (.t 18), none⟩,
    ⟨some 136, .mv (.t 2), none⟩,
    ⟨some 137, .bin .add (.t 135) (.t 136), none⟩,
    ⟨some 19, .mv (.t 137), none⟩]) (
  .seq (.reg false [⟨some 20, .mv (.c (.v (.int .i64 0))), none⟩,
    ⟨some 21, .mv (.c (.v (.int .i64 0))), none⟩]) (
  .seq (.seq (.reg false [⟨some 138, .mv (.t 2), none⟩,
    ⟨some 139, .mv (.t 18), none⟩,
    ⟨some 140, .bin .gtr (.t 138) (.t 139), none⟩]) (
  .cond (.t 140) (.seq (.reg false [⟨some 141, .mv (.t 19), none⟩,
      ⟨some 142, .mv (.t 3), none⟩,
      ⟨some 143, .bin .sub (.t 141) (.t 142), none⟩,
      ⟨some 20, .mv (.t 143), none⟩]) (
    .reg false [⟨some 144, .mv (.t 18), none⟩,
      ⟨some 21, .mv (.t 144), none⟩])) (.seq (.reg false [⟨some 145, .mv (.t 1), none⟩,
      ⟨some 20, .mv (.t 145), none⟩]) (
    .reg false [⟨some 146, .mv (.t 2), none⟩,
      ⟨some 21, .mv (.t 146), none⟩])))) (
  .seq (.reg false [⟨some 147, .mv (.t 19), none⟩,
    ⟨some 148, .bin .sub (.t 147) (.c (.v (.int .i64 1))), none⟩,
    ⟨some 22, .mv (.t 148), none⟩]) (
  .seq (.block 8 (.loop [0, 1, 2, 3, 4, 18, 19, 20, 21, 22] e164x4 b164x4)) (
  .seq (.reg false [⟨some 175, .mv (.t 19), none⟩,
    ⟨some 176, .mv (.t 20), none⟩,
    ⟨some 177, .bin .sub (.t 175) (.t 176), none⟩,
    ⟨some 24, .mv (.t 177), none⟩]) (
  .seq (.seq (.reg false [⟨some 178, .mv (.t 20), none⟩,
    ⟨some 179, .mv (.t 2), none⟩,
    ⟨some 180, .bin .lss (.t 178) (.t 179), none⟩,
    ⟨some 181, .mv (.t 180), none⟩,
    ⟨some 182, .mv (.t 2), some (181, true)⟩,
    ⟨some 183, .mv (.t 24), some (181, true)⟩,
    ⟨some 184, .bin .lss (.t 182) (.t 183), some (181, true)⟩,
    ⟨some 185, .pick (.t 181) (.t 184) (.c (.v (.bool false))), none⟩]) (
  .cond (.t 185) (.reg false [⟨some 186, .mv (.t 0), none⟩,
      ⟨some 187, .mv (.t 20), none⟩,
      ⟨some 188, .mv (.t 2), none⟩,
      ⟨some 189, .mv (.t 24), none⟩,
      ⟨some 190, .mv (.t 4), none⟩,
      ⟨some 191, .call (.f 181) [.lent, .rd, .rd, .rd, .rd] false [] [(.t 186), (.t 187), (.t 188), (.t 189), (.t 190)], none⟩]) (.skip))) (
  .seq (.seq (.reg false [⟨some 192, .mv (.t 1), none⟩,
    ⟨some 193, .mv (.t 20), none⟩,
    ⟨some 194, .bin .lss (.t 192) (.t 193), none⟩,
    ⟨some 195, .mv (.t 194), none⟩,
    ⟨some 196, .mv (.t 20), some (195, true)⟩,
    ⟨some 197, .mv (.t 18), some (195, true)⟩,
    ⟨some 198, .bin .lss (.t 196) (.t 197), some (195, true)⟩,
    ⟨some 199, .pick (.t 195) (.t 198) (.c (.v (.bool false))), none⟩]) (
  .cond (.t 199) (.reg false [⟨some 200, .mv (.t 0), none⟩,
      ⟨some 201, .mv (.t 1), none⟩,
      ⟨some 202, .mv (.t 20), none⟩,
      ⟨some 203, .mv (.t 18), none⟩,
      ⟨some 204, .mv (.t 4), none⟩,
      ⟨some 205, .call (.f 164) [.lent, .rd, .rd, .rd, .rd] false [] [(.t 200), (.t 201), (.t 202), (.t 203), (.t 204)], none⟩]) (.skip))) (
  .seq (.reg false [⟨some 206, .mv (.t 18), none⟩,
    ⟨some 207, .mv (.t 24), none⟩,
    ⟨some 208, .bin .lss (.t 206) (.t 207), none⟩,
    ⟨some 209, .mv (.t 208), none⟩,
    ⟨some 210, .mv (.t 24), some (209, true)⟩,
    ⟨some 211, .mv (.t 3), some (209, true)⟩,
    ⟨some 212, .bin .lss (.t 210) (.t 211), some (209, true)⟩,
    ⟨some 213, .pick (.t 209) (.t 212) (.c (.v (.bool false))), none⟩]) (
  .cond (.t 213) (.reg false [⟨some 214, .mv (.t 0), none⟩,
      ⟨some 215, .mv (.t 18), none⟩,
      ⟨some 216, .mv (.t 24), none⟩,
      ⟨some 217, .mv (.t 3), none⟩,
      ⟨some 218, .mv (.t 4), none⟩,
      ⟨some 219, .call (.f 164) [.lent, .rd, .rd, .rd, .rd] false [] [(.t 214), (.t 215), (.t 216), (.t 217), (.t 218)], none⟩]) (.skip))))))))))))))⟩
theorem l164x0s (T : Table) (k n : Nat) (l7 : Rows) (n8 : Int) (f9 : Nat) (cs10 : List I) (n11 : Int) (n12 : Int) : l164x0 T k (n + 1) [(.o 2 l7), (.v (.int .i64 n8)), (.ff f9 cs10), (.v (.int .i64 n11)), (.v (.int .i64 n12))] = (
 bif (decide (n11 < n12)) then (
 tst (decide (0 ≤ (IntKind.wrap .i64 (Int.fdiv (IntKind.wrap .u64 (IntKind.wrap .i64 (n11 + n12))) (2 ^ 1)))) && decide (Int.toNat (IntKind.wrap .i64 (Int.fdiv (IntKind.wrap .u64 (IntKind.wrap .i64 (n11 + n12))) (2 ^ 1))) < l7.length)) (
 look l7 (Int.toNat (IntKind.wrap .i64 (Int.fdiv (IntKind.wrap .u64 (IntKind.wrap .i64 (n11 + n12))) (2 ^ 1)))) fun r13 =>
 cI .i64 r13 0 fun n14 =>
 look l7 (Int.toNat (IntKind.wrap .i64 (Int.fdiv (IntKind.wrap .u64 (IntKind.wrap .i64 (n11 + n12))) (2 ^ 1)))) fun r15 =>
 cI .i64 r15 1 fun n16 =>
 tst (decide (0 ≤ n8) && decide (Int.toNat n8 < l7.length)) (
 look l7 (Int.toNat n8) fun r17 =>
 cI .i64 r17 0 fun n18 =>
 look l7 (Int.toNat n8) fun r19 =>
 cI .i64 r19 1 fun n20 =>
 callT T f9 ([(.g [(.v (.int .i64 n14)), (.v (.int .i64 n16))]), (.g [(.v (.int .i64 n18)), (.v (.int .i64 n20))])] ++ cs10) fun o21 =>
 oD o21.res fun d22 =>
 dI .i64 d22 fun n23 =>
 bif (decide (n23 < 0)) then (
 l164x0 T k n [(.o 2 l7), (.v (.int .i64 n8)), (.ff f9 cs10), (.v (.int .i64 (IntKind.wrap .i64 ((IntKind.wrap .i64 (Int.fdiv (IntKind.wrap .u64 (IntKind.wrap .i64 (n11 + n12))) (2 ^ 1))) + 1)))), (.v (.int .i64 n12))]) else (
 l164x0 T k n [(.o 2 l7), (.v (.int .i64 n8)), (.ff f9 cs10), (.v (.int .i64 n11)), (.v (.int .i64 (IntKind.wrap .i64 (Int.fdiv (IntKind.wrap .u64 (IntKind.wrap .i64 (n11 + n12))) (2 ^ 1)))))])))) else (
 some ((.exit 0), [(.o 2 l7), (.v (.int .i64 n8)), (.v (.int .i64 n11))]))) := by kernel_rfl
theorem l164x1s (T : Table) (k n : Nat) (l32 : Rows) (n33 : Int) (n34 : Int) : l164x1 T k (n + 1) [(.o 2 l32), (.v (.int .i64 n33)), (.v (.int .i64 n34))] = (
 bif (decide (n34 < (IntKind.wrap .i64 (n33 - 1)))) then (
 tst (decide (0 ≤ (IntKind.wrap .i64 (n34 + 1))) && decide (Int.toNat (IntKind.wrap .i64 (n34 + 1)) < l32.length)) (
 look l32 (Int.toNat (IntKind.wrap .i64 (n34 + 1))) fun r35 =>
 cI .i64 r35 0 fun n36 =>
 look l32 (Int.toNat (IntKind.wrap .i64 (n34 + 1))) fun r37 =>
 cI .i64 r37 1 fun n38 =>
 tst (decide (0 ≤ n34) && decide (Int.toNat n34 < l32.length)) (
 look l32 (Int.toNat n34) fun r39 =>
 cI .i64 r39 0 fun n40 =>
 look l32 (Int.toNat n34) fun r41 =>
 cI .i64 r41 1 fun n42 =>
 tst (decide (0 ≤ n34) && decide (Int.toNat n34 < l32.length)) (
 tst (decide (0 ≤ (IntKind.wrap .i64 (n34 + 1))) && decide (Int.toNat (IntKind.wrap .i64 (n34 + 1)) < (setD (setD l32 (Int.toNat n34) 0 (.v (.int .i64 n36))) (Int.toNat n34) 1 (.v (.int .i64 n38))).length)) (
 l164x1 T k n [(.o 2 (setD (setD (setD (setD l32 (Int.toNat n34) 0 (.v (.int .i64 n36))) (Int.toNat n34) 1 (.v (.int .i64 n38))) (Int.toNat (IntKind.wrap .i64 (n34 + 1))) 0 (.v (.int .i64 n40))) (Int.toNat (IntKind.wrap .i64 (n34 + 1))) 1 (.v (.int .i64 n42)))), (.v (.int .i64 n33)), (.v (.int .i64 (IntKind.wrap .i64 (n34 + 1))))]))))) else (
 some ((.exit 2), [(.o 2 l32)]))) := by kernel_rfl
theorem l164x2s (T : Table) (k n : Nat) (l47 : Rows) (n48 : Int) (f49 : Nat) (cs50 : List I) (n51 : Int) (n52 : Int) : l164x2 T k (n + 1) [(.o 2 l47), (.v (.int .i64 n48)), (.ff f49 cs50), (.v (.int .i64 n51)), (.v (.int .i64 n52))] = (
 bif (decide (n51 < n52)) then (
 tst (decide (0 ≤ n48) && decide (Int.toNat n48 < l47.length)) (
 look l47 (Int.toNat n48) fun r53 =>
 cI .i64 r53 0 fun n54 =>
 look l47 (Int.toNat n48) fun r55 =>
 cI .i64 r55 1 fun n56 =>
 tst (decide (0 ≤ (IntKind.wrap .i64 (Int.fdiv (IntKind.wrap .u64 (IntKind.wrap .i64 (n51 + n52))) (2 ^ 1)))) && decide (Int.toNat (IntKind.wrap .i64 (Int.fdiv (IntKind.wrap .u64 (IntKind.wrap .i64 (n51 + n52))) (2 ^ 1))) < l47.length)) (
 look l47 (Int.toNat (IntKind.wrap .i64 (Int.fdiv (IntKind.wrap .u64 (IntKind.wrap .i64 (n51 + n52))) (2 ^ 1)))) fun r57 =>
 cI .i64 r57 0 fun n58 =>
 look l47 (Int.toNat (IntKind.wrap .i64 (Int.fdiv (IntKind.wrap .u64 (IntKind.wrap .i64 (n51 + n52))) (2 ^ 1)))) fun r59 =>
 cI .i64 r59 1 fun n60 =>
 callT T f49 ([(.g [(.v (.int .i64 n54)), (.v (.int .i64 n56))]), (.g [(.v (.int .i64 n58)), (.v (.int .i64 n60))])] ++ cs50) fun o61 =>
 oD o61.res fun d62 =>
 dI .i64 d62 fun n63 =>
 bif (!(decide (n63 < 0))) then (
 l164x2 T k n [(.o 2 l47), (.v (.int .i64 n48)), (.ff f49 cs50), (.v (.int .i64 (IntKind.wrap .i64 ((IntKind.wrap .i64 (Int.fdiv (IntKind.wrap .u64 (IntKind.wrap .i64 (n51 + n52))) (2 ^ 1))) + 1)))), (.v (.int .i64 n52))]) else (
 l164x2 T k n [(.o 2 l47), (.v (.int .i64 n48)), (.ff f49 cs50), (.v (.int .i64 n51)), (.v (.int .i64 (IntKind.wrap .i64 (Int.fdiv (IntKind.wrap .u64 (IntKind.wrap .i64 (n51 + n52))) (2 ^ 1)))))])))) else (
 some ((.exit 4), [(.o 2 l47), (.v (.int .i64 n48)), (.v (.int .i64 n51))]))) := by kernel_rfl
theorem l164x3s (T : Table) (k n : Nat) (l72 : Rows) (n73 : Int) (n74 : Int) : l164x3 T k (n + 1) [(.o 2 l72), (.v (.int .i64 n73)), (.v (.int .i64 n74))] = (
 bif (decide (n74 > n73)) then (
 tst (decide (0 ≤ (IntKind.wrap .i64 (n74 - 1))) && decide (Int.toNat (IntKind.wrap .i64 (n74 - 1)) < l72.length)) (
 look l72 (Int.toNat (IntKind.wrap .i64 (n74 - 1))) fun r75 =>
 cI .i64 r75 0 fun n76 =>
 look l72 (Int.toNat (IntKind.wrap .i64 (n74 - 1))) fun r77 =>
 cI .i64 r77 1 fun n78 =>
 tst (decide (0 ≤ n74) && decide (Int.toNat n74 < l72.length)) (
 look l72 (Int.toNat n74) fun r79 =>
 cI .i64 r79 0 fun n80 =>
 look l72 (Int.toNat n74) fun r81 =>
 cI .i64 r81 1 fun n82 =>
 tst (decide (0 ≤ n74) && decide (Int.toNat n74 < l72.length)) (
 tst (decide (0 ≤ (IntKind.wrap .i64 (n74 - 1))) && decide (Int.toNat (IntKind.wrap .i64 (n74 - 1)) < (setD (setD l72 (Int.toNat n74) 0 (.v (.int .i64 n76))) (Int.toNat n74) 1 (.v (.int .i64 n78))).length)) (
 l164x3 T k n [(.o 2 (setD (setD (setD (setD l72 (Int.toNat n74) 0 (.v (.int .i64 n76))) (Int.toNat n74) 1 (.v (.int .i64 n78))) (Int.toNat (IntKind.wrap .i64 (n74 - 1))) 0 (.v (.int .i64 n80))) (Int.toNat (IntKind.wrap .i64 (n74 - 1))) 1 (.v (.int .i64 n82)))), (.v (.int .i64 n73)), (.v (.int .i64 (IntKind.wrap .i64 (n74 - 1))))]))))) else (
 some ((.exit 6), [(.o 2 l72)]))) := by kernel_rfl
theorem l164x4s (T : Table) (k n : Nat) (l87 : Rows) (n88 : Int) (n89 : Int) (n90 : Int) (f91 : Nat) (cs92 : List I) (n93 : Int) (n94 : Int) (n95 : Int) (n96 : Int) (n97 : Int) : l164x4 T k (n + 1) [(.o 2 l87), (.v (.int .i64 n88)), (.v (.int .i64 n89)), (.v (.int .i64 n90)), (.ff f91 cs92), (.v (.int .i64 n93)), (.v (.int .i64 n94)), (.v (.int .i64 n95)), (.v (.int .i64 n96)), (.v (.int .i64 n97))] = (
 bif (decide (n95 < n96)) then (
 tst (decide (0 ≤ (IntKind.wrap .i64 (n97 - (IntKind.wrap .i64 (Int.fdiv (IntKind.wrap .u64 (IntKind.wrap .i64 (n95 + n96))) (2 ^ 1)))))) && decide (Int.toNat (IntKind.wrap .i64 (n97 - (IntKind.wrap .i64 (Int.fdiv (IntKind.wrap .u64 (IntKind.wrap .i64 (n95 + n96))) (2 ^ 1))))) < l87.length)) (
 look l87 (Int.toNat (IntKind.wrap .i64 (n97 - (IntKind.wrap .i64 (Int.fdiv (IntKind.wrap .u64 (IntKind.wrap .i64 (n95 + n96))) (2 ^ 1)))))) fun r98 =>
 cI .i64 r98 0 fun n99 =>
 look l87 (Int.toNat (IntKind.wrap .i64 (n97 - (IntKind.wrap .i64 (Int.fdiv (IntKind.wrap .u64 (IntKind.wrap .i64 (n95 + n96))) (2 ^ 1)))))) fun r100 =>
 cI .i64 r100 1 fun n101 =>
 tst (decide (0 ≤ (IntKind.wrap .i64 (Int.fdiv (IntKind.wrap .u64 (IntKind.wrap .i64 (n95 + n96))) (2 ^ 1)))) && decide (Int.toNat (IntKind.wrap .i64 (Int.fdiv (IntKind.wrap .u64 (IntKind.wrap .i64 (n95 + n96))) (2 ^ 1))) < l87.length)) (
 look l87 (Int.toNat (IntKind.wrap .i64 (Int.fdiv (IntKind.wrap .u64 (IntKind.wrap .i64 (n95 + n96))) (2 ^ 1)))) fun r102 =>
 cI .i64 r102 0 fun n103 =>
 look l87 (Int.toNat (IntKind.wrap .i64 (Int.fdiv (IntKind.wrap .u64 (IntKind.wrap .i64 (n95 + n96))) (2 ^ 1)))) fun r104 =>
 cI .i64 r104 1 fun n105 =>
 callT T f91 ([(.g [(.v (.int .i64 n99)), (.v (.int .i64 n101))]), (.g [(.v (.int .i64 n103)), (.v (.int .i64 n105))])] ++ cs92) fun o106 =>
 oD o106.res fun d107 =>
 dI .i64 d107 fun n108 =>
 bif (!(decide (n108 < 0))) then (
 l164x4 T k n [(.o 2 l87), (.v (.int .i64 n88)), (.v (.int .i64 n89)), (.v (.int .i64 n90)), (.ff f91 cs92), (.v (.int .i64 n93)), (.v (.int .i64 n94)), (.v (.int .i64 (IntKind.wrap .i64 ((IntKind.wrap .i64 (Int.fdiv (IntKind.wrap .u64 (IntKind.wrap .i64 (n95 + n96))) (2 ^ 1))) + 1)))), (.v (.int .i64 n96)), (.v (.int .i64 n97))]) else (
 l164x4 T k n [(.o 2 l87), (.v (.int .i64 n88)), (.v (.int .i64 n89)), (.v (.int .i64 n90)), (.ff f91 cs92), (.v (.int .i64 n93)), (.v (.int .i64 n94)), (.v (.int .i64 n95)), (.v (.int .i64 (IntKind.wrap .i64 (Int.fdiv (IntKind.wrap .u64 (IntKind.wrap .i64 (n95 + n96))) (2 ^ 1))))), (.v (.int .i64 n97))])))) else (
 some ((.exit 8), [(.o 2 l87), (.v (.int .i64 n88)), (.v (.int .i64 n89)), (.v (.int .i64 n90)), (.ff f91 cs92), (.v (.int .i64 n93)), (.v (.int .i64 n94)), (.v (.int .i64 n95))]))) := by kernel_rfl
theorem a164q (T : Table) (k : Nat) (l1 : Rows) (n2 : Int) (n3 : Int) (n4 : Int) (f5 : Nat) (cs6 : List I) : evalF T k a164 [(.d (.s 2 l1)), (.d (.v (.int .i64 n2))), (.d (.v (.int .i64 n3))), (.d (.v (.int .i64 n4))), (.f f5 cs6)] = (
 bif ((IntKind.wrap .i64 (n3 - n2)) == 1) then (
 aft (l164x0 T k k [(.o 2 l1), (.v (.int .i64 n2)), (.ff f5 cs6), (.v (.int .i64 n3)), (.v (.int .i64 n4))]) fun e24 ys25 =>
 bif e24.same (.exit 0) then (
 aV ys25 0 fun x26 =>
 aO 2 x26 fun l27 =>
 aV ys25 1 fun x28 =>
 aI .i64 x28 fun n29 =>
 aV ys25 2 fun x30 =>
 aI .i64 x30 fun n31 =>
 aft (l164x1 T k k [(.o 2 l27), (.v (.int .i64 n31)), (.v (.int .i64 n29))]) fun e43 ys44 =>
 bif e43.same (.exit 2) then (
 aV ys44 0 fun x45 =>
 aO 2 x45 fun l46 =>
 some ⟨(.t []), [(.d (.s 2 l46))]⟩) else (
 none)) else (
 none)) else (
 bif ((IntKind.wrap .i64 (n4 - n3)) == 1) then (
 aft (l164x2 T k k [(.o 2 l1), (.v (.int .i64 n3)), (.ff f5 cs6), (.v (.int .i64 n2)), (.v (.int .i64 n3))]) fun e64 ys65 =>
 bif e64.same (.exit 4) then (
 aV ys65 0 fun x66 =>
 aO 2 x66 fun l67 =>
 aV ys65 1 fun x68 =>
 aI .i64 x68 fun n69 =>
 aV ys65 2 fun x70 =>
 aI .i64 x70 fun n71 =>
 aft (l164x3 T k k [(.o 2 l67), (.v (.int .i64 n71)), (.v (.int .i64 n69))]) fun e83 ys84 =>
 bif e83.same (.exit 6) then (
 aV ys84 0 fun x85 =>
 aO 2 x85 fun l86 =>
 some ⟨(.t []), [(.d (.s 2 l86))]⟩) else (
 none)) else (
 none)) else (
 bif (decide (n3 > (IntKind.wrap .i64 (Int.fdiv (IntKind.wrap .u64 (IntKind.wrap .i64 (n2 + n4))) (2 ^ 1))))) then (
 aft (l164x4 T k k [(.o 2 l1), (.v (.int .i64 n2)), (.v (.int .i64 n3)), (.v (.int .i64 n4)), (.ff f5 cs6), (.v (.int .i64 (IntKind.wrap .i64 (Int.fdiv (IntKind.wrap .u64 (IntKind.wrap .i64 (n2 + n4))) (2 ^ 1))))), (.v (.int .i64 (IntKind.wrap .i64 ((IntKind.wrap .i64 (Int.fdiv (IntKind.wrap .u64 (IntKind.wrap .i64 (n2 + n4))) (2 ^ 1))) + n3)))), (.v (.int .i64 (IntKind.wrap .i64 ((IntKind.wrap .i64 ((IntKind.wrap .i64 (Int.fdiv (IntKind.wrap .u64 (IntKind.wrap .i64 (n2 + n4))) (2 ^ 1))) + n3)) - n4)))), (.v (.int .i64 (IntKind.wrap .i64 (Int.fdiv (IntKind.wrap .u64 (IntKind.wrap .i64 (n2 + n4))) (2 ^ 1))))), (.v (.int .i64 (IntKind.wrap .i64 ((IntKind.wrap .i64 ((IntKind.wrap .i64 (Int.fdiv (IntKind.wrap .u64 (IntKind.wrap .i64 (n2 + n4))) (2 ^ 1))) + n3)) - 1))))]) fun e109 ys110 =>
 bif e109.same (.exit 8) then (
 aV ys110 0 fun x111 =>
 aO 2 x111 fun l112 =>
 aV ys110 1 fun x113 =>
 aI .i64 x113 fun n114 =>
 aV ys110 2 fun x115 =>
 aI .i64 x115 fun n116 =>
 aV ys110 3 fun x117 =>
 aI .i64 x117 fun n118 =>
 aV ys110 4 fun x119 =>
 aF x119 fun f120 cs121 =>
 aV ys110 5 fun x122 =>
 aI .i64 x122 fun n123 =>
 aV ys110 6 fun x124 =>
 aI .i64 x124 fun n125 =>
 aV ys110 7 fun x126 =>
 aI .i64 x126 fun n127 =>
 bif (decide (n127 < n116)) == true then (
 bif (decide (n116 < (IntKind.wrap .i64 (n125 - n127)))) then (
 callT T 181 [(.d (.s 2 l112)), (.d (.v (.int .i64 n127))), (.d (.v (.int .i64 n116))), (.d (.v (.int .i64 (IntKind.wrap .i64 (n125 - n127))))), (.f f120 cs121)] fun o128 =>
 nth o128.back 0 fun i129 =>
 oD i129 fun d130 =>
 dL 2 d130 fun l131 =>
 oT o128.res fun is132 =>
 tst (Nat.beq is132.length 0) (
 bif (decide (n114 < n127)) == true then (
 bif (decide (n127 < n123)) then (
 callT T 164 [(.d (.s 2 l131)), (.d (.v (.int .i64 n114))), (.d (.v (.int .i64 n127))), (.d (.v (.int .i64 n123))), (.f f120 cs121)] fun o133 =>
 nth o133.back 0 fun i134 =>
 oD i134 fun d135 =>
 dL 2 d135 fun l136 =>
 oT o133.res fun is137 =>
 tst (Nat.beq is137.length 0) (
 bif (decide (n123 < (IntKind.wrap .i64 (n125 - n127)))) == true then (
 bif (decide ((IntKind.wrap .i64 (n125 - n127)) < n118)) then (
 callT T 164 [(.d (.s 2 l136)), (.d (.v (.int .i64 n123))), (.d (.v (.int .i64 (IntKind.wrap .i64 (n125 - n127))))), (.d (.v (.int .i64 n118))), (.f f120 cs121)] fun o138 =>
 nth o138.back 0 fun i139 =>
 oD i139 fun d140 =>
 dL 2 d140 fun l141 =>
 oT o138.res fun is142 =>
 tst (Nat.beq is142.length 0) (
 some ⟨(.t []), [(.d (.s 2 l141))]⟩)) else (
 some ⟨(.t []), [(.d (.s 2 l136))]⟩)) else (
 some ⟨(.t []), [(.d (.s 2 l136))]⟩))) else (
 bif (decide (n123 < (IntKind.wrap .i64 (n125 - n127)))) == true then (
 bif (decide ((IntKind.wrap .i64 (n125 - n127)) < n118)) then (
 callT T 164 [(.d (.s 2 l131)), (.d (.v (.int .i64 n123))), (.d (.v (.int .i64 (IntKind.wrap .i64 (n125 - n127))))), (.d (.v (.int .i64 n118))), (.f f120 cs121)] fun o143 =>
 nth o143.back 0 fun i144 =>
 oD i144 fun d145 =>
 dL 2 d145 fun l146 =>
 oT o143.res fun is147 =>
 tst (Nat.beq is147.length 0) (
 some ⟨(.t []), [(.d (.s 2 l146))]⟩)) else (
 some ⟨(.t []), [(.d (.s 2 l131))]⟩)) else (
 some ⟨(.t []), [(.d (.s 2 l131))]⟩))) else (
 bif (decide (n123 < (IntKind.wrap .i64 (n125 - n127)))) == true then (
 bif (decide ((IntKind.wrap .i64 (n125 - n127)) < n118)) then (
 callT T 164 [(.d (.s 2 l131)), (.d (.v (.int .i64 n123))), (.d (.v (.int .i64 (IntKind.wrap .i64 (n125 - n127))))), (.d (.v (.int .i64 n118))), (.f f120 cs121)] fun o148 =>
 nth o148.back 0 fun i149 =>
 oD i149 fun d150 =>
 dL 2 d150 fun l151 =>
 oT o148.res fun is152 =>
 tst (Nat.beq is152.length 0) (
 some ⟨(.t []), [(.d (.s 2 l151))]⟩)) else (
 some ⟨(.t []), [(.d (.s 2 l131))]⟩)) else (
 some ⟨(.t []), [(.d (.s 2 l131))]⟩)))) else (
 bif (decide (n114 < n127)) == true then (
 bif (decide (n127 < n123)) then (
 callT T 164 [(.d (.s 2 l112)), (.d (.v (.int .i64 n114))), (.d (.v (.int .i64 n127))), (.d (.v (.int .i64 n123))), (.f f120 cs121)] fun o153 =>
 nth o153.back 0 fun i154 =>
 oD i154 fun d155 =>
 dL 2 d155 fun l156 =>
 oT o153.res fun is157 =>
 tst (Nat.beq is157.length 0) (
 bif (decide (n123 < (IntKind.wrap .i64 (n125 - n127)))) == true then (
 bif (decide ((IntKind.wrap .i64 (n125 - n127)) < n118)) then (
 callT T 164 [(.d (.s 2 l156)), (.d (.v (.int .i64 n123))), (.d (.v (.int .i64 (IntKind.wrap .i64 (n125 - n127))))), (.d (.v (.int .i64 n118))), (.f f120 cs121)] fun o158 =>
 nth o158.back 0 fun i159 =>
 oD i159 fun d160 =>
 dL 2 d160 fun l161 =>
 oT o158.res fun is162 =>
 tst (Nat.beq is162.length 0) (
 some ⟨(.t []), [(.d (.s 2 l161))]⟩)) else (
 some ⟨(.t []), [(.d (.s 2 l156))]⟩)) else (
 some ⟨(.t []), [(.d (.s 2 l156))]⟩))) else (
 bif (decide (n123 < (IntKind.wrap .i64 (n125 - n127)))) == true then (
 bif (decide ((IntKind.wrap .i64 (n125 - n127)) < n118)) then (
 callT T 164 [(.d (.s 2 l112)), (.d (.v (.int .i64 n123))), (.d (.v (.int .i64 (IntKind.wrap .i64 (n125 - n127))))), (.d (.v (.int .i64 n118))), (.f f120 cs121)] fun o163 =>
 nth o163.back 0 fun i164 =>
 oD i164 fun d165 =>
 dL 2 d165 fun l166 =>
 oT o163.res fun is167 =>
 tst (Nat.beq is167.length 0) (
 some ⟨(.t []), [(.d (.s 2 l166))]⟩)) else (
 some ⟨(.t []), [(.d (.s 2 l112))]⟩)) else (
 some ⟨(.t []), [(.d (.s 2 l112))]⟩))) else (
 bif (decide (n123 < (IntKind.wrap .i64 (n125 - n127)))) == true then (
 bif (decide ((IntKind.wrap .i64 (n125 - n127)) < n118)) then (
 callT T 164 [(.d (.s 2 l112)), (.d (.v (.int .i64 n123))), (.d (.v (.int .i64 (IntKind.wrap .i64 (n125 - n127))))), (.d (.v (.int .i64 n118))), (.f f120 cs121)] fun o168 =>
 nth o168.back 0 fun i169 =>
 oD i169 fun d170 =>
 dL 2 d170 fun l171 =>
 oT o168.res fun is172 =>
 tst (Nat.beq is172.length 0) (
 some ⟨(.t []), [(.d (.s 2 l171))]⟩)) else (
 some ⟨(.t []), [(.d (.s 2 l112))]⟩)) else (
 some ⟨(.t []), [(.d (.s 2 l112))]⟩)))) else (
 bif (decide (n114 < n127)) == true then (
 bif (decide (n127 < n123)) then (
 callT T 164 [(.d (.s 2 l112)), (.d (.v (.int .i64 n114))), (.d (.v (.int .i64 n127))), (.d (.v (.int .i64 n123))), (.f f120 cs121)] fun o173 =>
 nth o173.back 0 fun i174 =>
 oD i174 fun d175 =>
 dL 2 d175 fun l176 =>
 oT o173.res fun is177 =>
 tst (Nat.beq is177.length 0) (
 bif (decide (n123 < (IntKind.wrap .i64 (n125 - n127)))) == true then (
 bif (decide ((IntKind.wrap .i64 (n125 - n127)) < n118)) then (
 callT T 164 [(.d (.s 2 l176)), (.d (.v (.int .i64 n123))), (.d (.v (.int .i64 (IntKind.wrap .i64 (n125 - n127))))), (.d (.v (.int .i64 n118))), (.f f120 cs121)] fun o178 =>
 nth o178.back 0 fun i179 =>
 oD i179 fun d180 =>
 dL 2 d180 fun l181 =>
 oT o178.res fun is182 =>
 tst (Nat.beq is182.length 0) (
 some ⟨(.t []), [(.d (.s 2 l181))]⟩)) else (
 some ⟨(.t []), [(.d (.s 2 l176))]⟩)) else (
 some ⟨(.t []), [(.d (.s 2 l176))]⟩))) else (
 bif (decide (n123 < (IntKind.wrap .i64 (n125 - n127)))) == true then (
 bif (decide ((IntKind.wrap .i64 (n125 - n127)) < n118)) then (
 callT T 164 [(.d (.s 2 l112)), (.d (.v (.int .i64 n123))), (.d (.v (.int .i64 (IntKind.wrap .i64 (n125 - n127))))), (.d (.v (.int .i64 n118))), (.f f120 cs121)] fun o183 =>
 nth o183.back 0 fun i184 =>
 oD i184 fun d185 =>
 dL 2 d185 fun l186 =>
 oT o183.res fun is187 =>
 tst (Nat.beq is187.length 0) (
 some ⟨(.t []), [(.d (.s 2 l186))]⟩)) else (
 some ⟨(.t []), [(.d (.s 2 l112))]⟩)) else (
 some ⟨(.t []), [(.d (.s 2 l112))]⟩))) else (
 bif (decide (n123 < (IntKind.wrap .i64 (n125 - n127)))) == true then (
 bif (decide ((IntKind.wrap .i64 (n125 - n127)) < n118)) then (
 callT T 164 [(.d (.s 2 l112)), (.d (.v (.int .i64 n123))), (.d (.v (.int .i64 (IntKind.wrap .i64 (n125 - n127))))), (.d (.v (.int .i64 n118))), (.f f120 cs121)] fun o188 =>
 nth o188.back 0 fun i189 =>
 oD i189 fun d190 =>
 dL 2 d190 fun l191 =>
 oT o188.res fun is192 =>
 tst (Nat.beq is192.length 0) (
 some ⟨(.t []), [(.d (.s 2 l191))]⟩)) else (
 some ⟨(.t []), [(.d (.s 2 l112))]⟩)) else (
 some ⟨(.t []), [(.d (.s 2 l112))]⟩)))) else (
 none)) else (
 aft (l164x4 T k k [(.o 2 l1), (.v (.int .i64 n2)), (.v (.int .i64 n3)), (.v (.int .i64 n4)), (.ff f5 cs6), (.v (.int .i64 (IntKind.wrap .i64 (Int.fdiv (IntKind.wrap .u64 (IntKind.wrap .i64 (n2 + n4))) (2 ^ 1))))), (.v (.int .i64 (IntKind.wrap .i64 ((IntKind.wrap .i64 (Int.fdiv (IntKind.wrap .u64 (IntKind.wrap .i64 (n2 + n4))) (2 ^ 1))) + n3)))), (.v (.int .i64 n2)), (.v (.int .i64 n3)), (.v (.int .i64 (IntKind.wrap .i64 ((IntKind.wrap .i64 ((IntKind.wrap .i64 (Int.fdiv (IntKind.wrap .u64 (IntKind.wrap .i64 (n2 + n4))) (2 ^ 1))) + n3)) - 1))))]) fun e193 ys194 =>
 bif e193.same (.exit 8) then (
 aV ys194 0 fun x195 =>
 aO 2 x195 fun l196 =>
 aV ys194 1 fun x197 =>
 aI .i64 x197 fun n198 =>
 aV ys194 2 fun x199 =>
 aI .i64 x199 fun n200 =>
 aV ys194 3 fun x201 =>
 aI .i64 x201 fun n202 =>
 aV ys194 4 fun x203 =>
 aF x203 fun f204 cs205 =>
 aV ys194 5 fun x206 =>
 aI .i64 x206 fun n207 =>
 aV ys194 6 fun x208 =>
 aI .i64 x208 fun n209 =>
 aV ys194 7 fun x210 =>
 aI .i64 x210 fun n211 =>
 bif (decide (n211 < n200)) == true then (
 bif (decide (n200 < (IntKind.wrap .i64 (n209 - n211)))) then (
 callT T 181 [(.d (.s 2 l196)), (.d (.v (.int .i64 n211))), (.d (.v (.int .i64 n200))), (.d (.v (.int .i64 (IntKind.wrap .i64 (n209 - n211))))), (.f f204 cs205)] fun o212 =>
 nth o212.back 0 fun i213 =>
 oD i213 fun d214 =>
 dL 2 d214 fun l215 =>
 oT o212.res fun is216 =>
 tst (Nat.beq is216.length 0) (
 bif (decide (n198 < n211)) == true then (
 bif (decide (n211 < n207)) then (
 callT T 164 [(.d (.s 2 l215)), (.d (.v (.int .i64 n198))), (.d (.v (.int .i64 n211))), (.d (.v (.int .i64 n207))), (.f f204 cs205)] fun o217 =>
 nth o217.back 0 fun i218 =>
 oD i218 fun d219 =>
 dL 2 d219 fun l220 =>
 oT o217.res fun is221 =>
 tst (Nat.beq is221.length 0) (
 bif (decide (n207 < (IntKind.wrap .i64 (n209 - n211)))) == true then (
 bif (decide ((IntKind.wrap .i64 (n209 - n211)) < n202)) then (
 callT T 164 [(.d (.s 2 l220)), (.d (.v (.int .i64 n207))), (.d (.v (.int .i64 (IntKind.wrap .i64 (n209 - n211))))), (.d (.v (.int .i64 n202))), (.f f204 cs205)] fun o222 =>
 nth o222.back 0 fun i223 =>
 oD i223 fun d224 =>
 dL 2 d224 fun l225 =>
 oT o222.res fun is226 =>
 tst (Nat.beq is226.length 0) (
 some ⟨(.t []), [(.d (.s 2 l225))]⟩)) else (
 some ⟨(.t []), [(.d (.s 2 l220))]⟩)) else (
 some ⟨(.t []), [(.d (.s 2 l220))]⟩))) else (
 bif (decide (n207 < (IntKind.wrap .i64 (n209 - n211)))) == true then (
 bif (decide ((IntKind.wrap .i64 (n209 - n211)) < n202)) then (
 callT T 164 [(.d (.s 2 l215)), (.d (.v (.int .i64 n207))), (.d (.v (.int .i64 (IntKind.wrap .i64 (n209 - n211))))), (.d (.v (.int .i64 n202))), (.f f204 cs205)] fun o227 =>
 nth o227.back 0 fun i228 =>
 oD i228 fun d229 =>
 dL 2 d229 fun l230 =>
 oT o227.res fun is231 =>
 tst (Nat.beq is231.length 0) (
 some ⟨(.t []), [(.d (.s 2 l230))]⟩)) else (
 some ⟨(.t []), [(.d (.s 2 l215))]⟩)) else (
 some ⟨(.t []), [(.d (.s 2 l215))]⟩))) else (
 bif (decide (n207 < (IntKind.wrap .i64 (n209 - n211)))) == true then (
 bif (decide ((IntKind.wrap .i64 (n209 - n211)) < n202)) then (
 callT T 164 [(.d (.s 2 l215)), (.d (.v (.int .i64 n207))), (.d (.v (.int .i64 (IntKind.wrap .i64 (n209 - n211))))), (.d (.v (.int .i64 n202))), (.f f204 cs205)] fun o232 =>
 nth o232.back 0 fun i233 =>
 oD i233 fun d234 =>
 dL 2 d234 fun l235 =>
 oT o232.res fun is236 =>
 tst (Nat.beq is236.length 0) (
 some ⟨(.t []), [(.d (.s 2 l235))]⟩)) else (
 some ⟨(.t []), [(.d (.s 2 l215))]⟩)) else (
 some ⟨(.t []), [(.d (.s 2 l215))]⟩)))) else (
 bif (decide (n198 < n211)) == true then (
 bif (decide (n211 < n207)) then (
 callT T 164 [(.d (.s 2 l196)), (.d (.v (.int .i64 n198))), (.d (.v (.int .i64 n211))), (.d (.v (.int .i64 n207))), (.f f204 cs205)] fun o237 =>
 nth o237.back 0 fun i238 =>
 oD i238 fun d239 =>
 dL 2 d239 fun l240 =>
 oT o237.res fun is241 =>
 tst (Nat.beq is241.length 0) (
 bif (decide (n207 < (IntKind.wrap .i64 (n209 - n211)))) == true then (
 bif (decide ((IntKind.wrap .i64 (n209 - n211)) < n202)) then (
 callT T 164 [(.d (.s 2 l240)), (.d (.v (.int .i64 n207))), (.d (.v (.int .i64 (IntKind.wrap .i64 (n209 - n211))))), (.d (.v (.int .i64 n202))), (.f f204 cs205)] fun o242 =>
 nth o242.back 0 fun i243 =>
 oD i243 fun d244 =>
 dL 2 d244 fun l245 =>
 oT o242.res fun is246 =>
 tst (Nat.beq is246.length 0) (
 some ⟨(.t []), [(.d (.s 2 l245))]⟩)) else (
 some ⟨(.t []), [(.d (.s 2 l240))]⟩)) else (
 some ⟨(.t []), [(.d (.s 2 l240))]⟩))) else (
 bif (decide (n207 < (IntKind.wrap .i64 (n209 - n211)))) == true then (
 bif (decide ((IntKind.wrap .i64 (n209 - n211)) < n202)) then (
 callT T 164 [(.d (.s 2 l196)), (.d (.v (.int .i64 n207))), (.d (.v (.int .i64 (IntKind.wrap .i64 (n209 - n211))))), (.d (.v (.int .i64 n202))), (.f f204 cs205)] fun o247 =>
 nth o247.back 0 fun i248 =>
 oD i248 fun d249 =>
 dL 2 d249 fun l250 =>
 oT o247.res fun is251 =>
 tst (Nat.beq is251.length 0) (
 some ⟨(.t []), [(.d (.s 2 l250))]⟩)) else (
 some ⟨(.t []), [(.d (.s 2 l196))]⟩)) else (
 some ⟨(.t []), [(.d (.s 2 l196))]⟩))) else (
 bif (decide (n207 < (IntKind.wrap .i64 (n209 - n211)))) == true then (
 bif (decide ((IntKind.wrap .i64 (n209 - n211)) < n202)) then (
 callT T 164 [(.d (.s 2 l196)), (.d (.v (.int .i64 n207))), (.d (.v (.int .i64 (IntKind.wrap .i64 (n209 - n211))))), (.d (.v (.int .i64 n202))), (.f f204 cs205)] fun o252 =>
 nth o252.back 0 fun i253 =>
 oD i253 fun d254 =>
 dL 2 d254 fun l255 =>
 oT o252.res fun is256 =>
 tst (Nat.beq is256.length 0) (
 some ⟨(.t []), [(.d (.s 2 l255))]⟩)) else (
 some ⟨(.t []), [(.d (.s 2 l196))]⟩)) else (
 some ⟨(.t []), [(.d (.s 2 l196))]⟩)))) else (
 bif (decide (n198 < n211)) == true then (
 bif (decide (n211 < n207)) then (
 callT T 164 [(.d (.s 2 l196)), (.d (.v (.int .i64 n198))), (.d (.v (.int .i64 n211))), (.d (.v (.int .i64 n207))), (.f f204 cs205)] fun o257 =>
 nth o257.back 0 fun i258 =>
 oD i258 fun d259 =>
 dL 2 d259 fun l260 =>
 oT o257.res fun is261 =>
 tst (Nat.beq is261.length 0) (
 bif (decide (n207 < (IntKind.wrap .i64 (n209 - n211)))) == true then (
 bif (decide ((IntKind.wrap .i64 (n209 - n211)) < n202)) then (
 callT T 164 [(.d (.s 2 l260)), (.d (.v (.int .i64 n207))), (.d (.v (.int .i64 (IntKind.wrap .i64 (n209 - n211))))), (.d (.v (.int .i64 n202))), (.f f204 cs205)] fun o262 =>
 nth o262.back 0 fun i263 =>
 oD i263 fun d264 =>
 dL 2 d264 fun l265 =>
 oT o262.res fun is266 =>
 tst (Nat.beq is266.length 0) (
 some ⟨(.t []), [(.d (.s 2 l265))]⟩)) else (
 some ⟨(.t []), [(.d (.s 2 l260))]⟩)) else (
 some ⟨(.t []), [(.d (.s 2 l260))]⟩))) else (
 bif (decide (n207 < (IntKind.wrap .i64 (n209 - n211)))) == true then (
 bif (decide ((IntKind.wrap .i64 (n209 - n211)) < n202)) then (
 callT T 164 [(.d (.s 2 l196)), (.d (.v (.int .i64 n207))), (.d (.v (.int .i64 (IntKind.wrap .i64 (n209 - n211))))), (.d (.v (.int .i64 n202))), (.f f204 cs205)] fun o267 =>
 nth o267.back 0 fun i268 =>
 oD i268 fun d269 =>
 dL 2 d269 fun l270 =>
 oT o267.res fun is271 =>
 tst (Nat.beq is271.length 0) (
 some ⟨(.t []), [(.d (.s 2 l270))]⟩)) else (
 some ⟨(.t []), [(.d (.s 2 l196))]⟩)) else (
 some ⟨(.t []), [(.d (.s 2 l196))]⟩))) else (
 bif (decide (n207 < (IntKind.wrap .i64 (n209 - n211)))) == true then (
 bif (decide ((IntKind.wrap .i64 (n209 - n211)) < n202)) then (
 callT T 164 [(.d (.s 2 l196)), (.d (.v (.int .i64 n207))), (.d (.v (.int .i64 (IntKind.wrap .i64 (n209 - n211))))), (.d (.v (.int .i64 n202))), (.f f204 cs205)] fun o272 =>
 nth o272.back 0 fun i273 =>
 oD i273 fun d274 =>
 dL 2 d274 fun l275 =>
 oT o272.res fun is276 =>
 tst (Nat.beq is276.length 0) (
 some ⟨(.t []), [(.d (.s 2 l275))]⟩)) else (
 some ⟨(.t []), [(.d (.s 2 l196))]⟩)) else (
 some ⟨(.t []), [(.d (.s 2 l196))]⟩)))) else (
 none))))) := by kernel_rfl
/- slices.stableCmpFunc[loop.example/g00119/impl.Run] -/
def b140x0 : ACode := (
  .seq (.seq (.reg false [⟨some 11, .mv (.t 8), none⟩,
    ⟨some 12, .mv (.t 1), none⟩,
    ⟨some 13, .bin .leq (.t 11) (.t 12), none⟩]) (
  .cond (.t 13) (.skip) (.exit 0))) (
  .block 1 (.seq (.reg false [⟨some 14, .mv (.t 0), none⟩,
      ⟨some 15, .mv (.t 7), none⟩,
      ⟨some 16, .mv (.t 8), none⟩,
      ⟨some 17, .mv (.t 2), none⟩,
      ⟨some 18, .call (.f 163) [.lent, .rd, .rd, .rd] false [] [(.t 14), (.t 15), (.t 16), (.t 17)], none⟩]) (
    .seq (.reg false [⟨some 19, .mv (.t 8), none⟩,
      ⟨some 7, .mv (.t 19), none⟩]) (
    .reg false [⟨some 20, .mv (.t 8), none⟩,
      ⟨some 21, .mv (.t 6), none⟩,
      ⟨some 22, .bin .add (.t 20) (.t 21), none⟩,
      ⟨some 8, .mv (.t 22), none⟩])))))
def e140x0 : Exits := [((.exit 0), [(0, .o 2), (1, .c (.i .i64)), (2, .ff), (6, .c (.i .i64)), (7, .c (.i .i64))])]
noncomputable def l140x0 (T : Table) (k : Nat) := loopN (evalC ⟨T, [0]⟩ k b140x0 (Ex × List AV)) [0, 1, 2, 6, 7, 8] e140x0
def b140x2 : ACode := (
  .seq (.seq (.reg false [⟨some 33, .mv (.t 8), none⟩,
    ⟨some 34, .mv (.t 1), none⟩,
    ⟨some 35, .bin .leq (.t 33) (.t 34), none⟩]) (
  .cond (.t 35) (.skip) (.exit 4))) (
  .block 5 (.seq (.reg false [⟨some 36, .mv (.t 0), none⟩,
      ⟨some 37, .mv (.t 7), none⟩,
      ⟨some 38, .mv (.t 7), none⟩,
      ⟨some 39, .mv (.t 6), none⟩,
      ⟨some 40, .bin .add (.t 38) (.t 39), none⟩,
      ⟨some 41, .mv (.t 8), none⟩,
      ⟨some 42, .mv (.t 2), none⟩,
      ⟨some 43, .call (.f 164) [.lent, .rd, .rd, .rd, .rd] false [] [(.t 36), (.t 37), (.t 40), (.t 41), (.t 42)], none⟩]) (
    .seq (.reg false [⟨some 44, .mv (.t 8), none⟩,
      ⟨some 7, .mv (.t 44), none⟩]) (
    .reg false [⟨some 45, .mv (.t 8), none⟩,
      ⟨some 46, .mv (.t 6), none⟩,
      ⟨some 47, .bin .mul (.c (.v (.int .i64 2))) (.t 46), none⟩,
      ⟨some 48, .bin .add (.t 45) (.t 47), none⟩,
      ⟨some 8, .mv (.t 48), none⟩])))))
def e140x2 : Exits := [((.exit 4), [(0, .o 2), (1, .c (.i .i64)), (2, .ff), (6, .c (.i .i64)), (7, .c (.i .i64))])]
noncomputable def l140x2 (T : Table) (k : Nat) := loopN (evalC ⟨T, [0]⟩ k b140x2 (Ex × List AV)) [0, 1, 2, 6, 7, 8] e140x2
def b140x1 : ACode := (
  .seq (.seq (.reg false [⟨some 28, .mv (.t 6), none⟩,
    ⟨some 29, .mv (.t 1), none⟩,
    ⟨some 30, .bin .lss (.t 28) (.t 29), none⟩]) (
  .cond (.t 30) (.skip) (.exit 2))) (
  .block 3 (.seq (.reg false [⟨some 31, .mv (.t 6), none⟩,
      ⟨some 32, .bin .mul (.c (.v (.int .i64 2))) (.t 31), none⟩,
      ⟨some 7, .mv (.c (.v (.int .i64 0))), none⟩,
      ⟨some 8, .mv (.t 32), none⟩]) (
    .seq (.block 4 (.loop [0, 1, 2, 6, 7, 8] e140x2 b140x2)) (
    .seq (.seq (.reg false [⟨some 49, .mv (.t 7), none⟩,
      ⟨some 50, .mv (.t 6), none⟩,
      ⟨some 51, .bin .add (.t 49) (.t 50), none⟩,
      ⟨some 9, .mv (.t 51), none⟩]) (
    .seq (.reg false [⟨some 52, .mv (.t 9), none⟩,
      ⟨some 53, .mv (.t 1), none⟩,
      ⟨some 54, .bin .lss (.t 52) (.t 53), none⟩]) (
    .cond (.t 54) (.reg false [⟨some 55, .mv (.t 0), none⟩,
        ⟨some 56, .mv (.t 7), none⟩,
        ⟨some 57, .mv (.t 9), none⟩,
        ⟨some 58, .mv (.t 1), none⟩,
        ⟨some 59, .mv (.t 2), none⟩,
        ⟨some 60, .call (.f 164) [.lent, .rd, .rd, .rd, .rd] false [] [(.t 55), (.t 56), (.t 57), (.t 58), (.t 59)], none⟩]) (.skip)))) (
    .reg false [⟨some 61, .mv (.t 6), none⟩,
      ⟨some 62, .bin .mul (.t 61) (.c (.v (.int .i64 2))), none⟩,
      ⟨some 6, .mv (.t 62), none⟩]))))))
def e140x1 : Exits := [((.exit 2), [(0, .o 2)])]
noncomputable def l140x1 (T : Table) (k : Nat) := loopN (evalC ⟨T, [0]⟩ k b140x1 (Ex × List AV)) [0, 1, 2, 6] e140x1
def a140 : AFun := ⟨[.lent, .rd, .rd], false, [], (
  .seq (.reg false [⟨some 6, .mv (.c (.v (.int .i64 20))), none⟩]) (
  .seq (.reg false [⟨some 10, .mv (.t 6), none⟩,
    ⟨some 7, .mv (.c (.v (.int .i64 0))), none⟩,
    ⟨some 8, .mv (.t 10), none⟩]) (
  .seq (.block 0 (.loop [0, 1, 2, 6, 7, 8] e140x0 b140x0)) (
  .seq (.reg false [⟨some 23, .mv (.t 0), none⟩,
    ⟨some 24, .mv (.t 7), none⟩,
    ⟨some 25, .mv (.t 1), none⟩,
    ⟨some 26, .mv (.t 2), none⟩,
    ⟨some 27, .call (.f 163) [.lent, .rd, .rd, .rd] false [] [(.t 23), (.t 24), (.t 25), (.t 26)], none⟩]) (
  .block 2 (.loop [0, 1, 2, 6] e140x1 b140x1))))))⟩
theorem l140x0s (T : Table) (k n : Nat) (l5 : Rows) (n6 : Int) (f7 : Nat) (cs8 : List I) (n9 : Int) (n10 : Int) (n11 : Int) : l140x0 T k (n + 1) [(.o 2 l5), (.v (.int .i64 n6)), (.ff f7 cs8), (.v (.int .i64 n9)), (.v (.int .i64 n10)), (.v (.int .i64 n11))] = (
 bif (decide (n11 ≤ n6)) then (
 callT T 163 [(.d (.s 2 l5)), (.d (.v (.int .i64 n10))), (.d (.v (.int .i64 n11))), (.f f7 cs8)] fun o12 =>
 nth o12.back 0 fun i13 =>
 oD i13 fun d14 =>
 dL 2 d14 fun l15 =>
 oT o12.res fun is16 =>
 tst (Nat.beq is16.length 0) (
 l140x0 T k n [(.o 2 l15), (.v (.int .i64 n6)), (.ff f7 cs8), (.v (.int .i64 n9)), (.v (.int .i64 n11)), (.v (.int .i64 (IntKind.wrap .i64 (n11 + n9))))])) else (
 some ((.exit 0), [(.o 2 l5), (.v (.int .i64 n6)), (.ff f7 cs8), (.v (.int .i64 n9)), (.v (.int .i64 n10))]))) := by kernel_rfl
theorem l140x2s (T : Table) (k n : Nat) (l40 : Rows) (n41 : Int) (f42 : Nat) (cs43 : List I) (n44 : Int) (n45 : Int) (n46 : Int) : l140x2 T k (n + 1) [(.o 2 l40), (.v (.int .i64 n41)), (.ff f42 cs43), (.v (.int .i64 n44)), (.v (.int .i64 n45)), (.v (.int .i64 n46))] = (
 bif (decide (n46 ≤ n41)) then (
 callT T 164 [(.d (.s 2 l40)), (.d (.v (.int .i64 n45))), (.d (.v (.int .i64 (IntKind.wrap .i64 (n45 + n44))))), (.d (.v (.int .i64 n46))), (.f f42 cs43)] fun o47 =>
 nth o47.back 0 fun i48 =>
 oD i48 fun d49 =>
 dL 2 d49 fun l50 =>
 oT o47.res fun is51 =>
 tst (Nat.beq is51.length 0) (
 l140x2 T k n [(.o 2 l50), (.v (.int .i64 n41)), (.ff f42 cs43), (.v (.int .i64 n44)), (.v (.int .i64 n46)), (.v (.int .i64 (IntKind.wrap .i64 (n46 + (IntKind.wrap .i64 (2 * n44))))))])) else (
 some ((.exit 4), [(.o 2 l40), (.v (.int .i64 n41)), (.ff f42 cs43), (.v (.int .i64 n44)), (.v (.int .i64 n45))]))) := by kernel_rfl
theorem l140x1s (T : Table) (k n : Nat) (l35 : Rows) (n36 : Int) (f37 : Nat) (cs38 : List I) (n39 : Int) : l140x1 T k (n + 1) [(.o 2 l35), (.v (.int .i64 n36)), (.ff f37 cs38), (.v (.int .i64 n39))] = (
 bif (decide (n39 < n36)) then (
 aft (l140x2 T k k [(.o 2 l35), (.v (.int .i64 n36)), (.ff f37 cs38), (.v (.int .i64 n39)), (.v (.int .i64 0)), (.v (.int .i64 (IntKind.wrap .i64 (2 * n39))))]) fun e52 ys53 =>
 bif e52.same (.exit 4) then (
 aV ys53 0 fun x54 =>
 aO 2 x54 fun l55 =>
 aV ys53 1 fun x56 =>
 aI .i64 x56 fun n57 =>
 aV ys53 2 fun x58 =>
 aF x58 fun f59 cs60 =>
 aV ys53 3 fun x61 =>
 aI .i64 x61 fun n62 =>
 aV ys53 4 fun x63 =>
 aI .i64 x63 fun n64 =>
 bif (decide ((IntKind.wrap .i64 (n64 + n62)) < n57)) then (
 callT T 164 [(.d (.s 2 l55)), (.d (.v (.int .i64 n64))), (.d (.v (.int .i64 (IntKind.wrap .i64 (n64 + n62))))), (.d (.v (.int .i64 n57))), (.f f59 cs60)] fun o65 =>
 nth o65.back 0 fun i66 =>
 oD i66 fun d67 =>
 dL 2 d67 fun l68 =>
 oT o65.res fun is69 =>
 tst (Nat.beq is69.length 0) (
 l140x1 T k n [(.o 2 l68), (.v (.int .i64 n57)), (.ff f59 cs60), (.v (.int .i64 (IntKind.wrap .i64 (n62 * 2))))])) else (
 l140x1 T k n [(.o 2 l55), (.v (.int .i64 n57)), (.ff f59 cs60), (.v (.int .i64 (IntKind.wrap .i64 (n62 * 2))))])) else (
 none)) else (
 some ((.exit 2), [(.o 2 l35)]))) := by kernel_rfl
theorem a140q (T : Table) (k : Nat) (l1 : Rows) (n2 : Int) (f3 : Nat) (cs4 : List I) : evalF T k a140 [(.d (.s 2 l1)), (.d (.v (.int .i64 n2))), (.f f3 cs4)] = (
 aft (l140x0 T k k [(.o 2 l1), (.v (.int .i64 n2)), (.ff f3 cs4), (.v (.int .i64 20)), (.v (.int .i64 0)), (.v (.int .i64 20))]) fun e17 ys18 =>
 bif e17.same (.exit 0) then (
 aV ys18 0 fun x19 =>
 aO 2 x19 fun l20 =>
 aV ys18 1 fun x21 =>
 aI .i64 x21 fun n22 =>
 aV ys18 2 fun x23 =>
 aF x23 fun f24 cs25 =>
 aV ys18 3 fun x26 =>
 aI .i64 x26 fun n27 =>
 aV ys18 4 fun x28 =>
 aI .i64 x28 fun n29 =>
 callT T 163 [(.d (.s 2 l20)), (.d (.v (.int .i64 n29))), (.d (.v (.int .i64 n22))), (.f f24 cs25)] fun o30 =>
 nth o30.back 0 fun i31 =>
 oD i31 fun d32 =>
 dL 2 d32 fun l33 =>
 oT o30.res fun is34 =>
 tst (Nat.beq is34.length 0) (
 aft (l140x1 T k k [(.o 2 l33), (.v (.int .i64 n22)), (.ff f24 cs25), (.v (.int .i64 n27))]) fun e70 ys71 =>
 bif e70.same (.exit 2) then (
 aV ys71 0 fun x72 =>
 aO 2 x72 fun l73 =>
 some ⟨(.t []), [(.d (.s 2 l73))]⟩) else (
 none))) else (
 none)) := by kernel_rfl
/- slices.SortStableFunc[[]loop.example/g00119/impl.Run,loop.example/g00119/impl.Run] -/

def a112 : AFun := ⟨[.lent, .rd], false, [], (
  .reg false [⟨some 4, .mv (.t 0), none⟩,
    ⟨some 5, .mv (.t 0), none⟩,
    ⟨some 6, .len false (.t 5), none⟩,
    ⟨some 7, .mv (.t 1), none⟩,
    ⟨some 8, .call (.f 140) [.lent, .rd, .rd] false [] [(.t 4), (.t 6), (.t 7)], none⟩])⟩

theorem a112q (T : Table) (k : Nat) (l1 : Rows) (f2 : Nat) (cs3 : List I) : evalF T k a112 [(.d (.s 2 l1)), (.f f2 cs3)] = (
 callT T 140 [(.d (.s 2 l1)), (.d (.v (.int .i64 (l1.length : Int)))), (.f f2 cs3)] fun o4 =>
 nth o4.back 0 fun i5 =>
 oD i5 fun d6 =>
 dL 2 d6 fun l7 =>
 oT o4.res fun is8 =>
 tst (Nat.beq is8.length 0) (
 some ⟨(.t []), [(.d (.s 2 l7))]⟩)) := by kernel_rfl
/- cmp.isNaN[int] -/

def a134 : AFun := ⟨[.rd], false, [.t 2], (
  .seq (.reg false [⟨some 2, .mv (.c (.v (.bool false))), none⟩]) (
  .seq (.reg false [⟨some 3, .mv (.t 0), none⟩,
    ⟨some 4, .mv (.t 0), none⟩,
    ⟨some 5, .bin .neq (.t 3) (.t 4), none⟩,
    ⟨some 2, .mv (.t 5), none⟩]) (
  .ret)))⟩

theorem a134q (T : Table) (k : Nat) (n1 : Int) : evalF T k a134 [(.d (.v (.int .i64 n1)))] = (
 some ⟨(.d (.v (.bool (n1 != n1)))), []⟩) := by kernel_rfl
/- cmp.Compare[int] -/

def a101 : AFun := ⟨[.rd, .rd], false, [.t 4], (
  .seq (.reg false [⟨some 4, .mv (.c (.v (.int .i64 0))), none⟩]) (
  .seq (.reg false [⟨some 7, .mv (.t 0), none⟩,
    ⟨some 8, .call (.f 134) [.rd] false [.c .b] [(.t 7)], none⟩,
    ⟨some 5, .mv (.t 8), none⟩]) (
  .seq (.reg false [⟨some 9, .mv (.t 1), none⟩,
    ⟨some 10, .call (.f 134) [.rd] false [.c .b] [(.t 9)], none⟩,
    ⟨some 6, .mv (.t 10), none⟩]) (
  .seq (.seq (.reg false [⟨some 11, .mv (.t 5), none⟩]) (
  .cond (.t 11) (.seq (.seq (.reg false [⟨some 12, .mv (.t 6), none⟩]) (
    .cond (.t 12) (.seq (.reg false [⟨some 4, .mv (.c (.v (.int .i64 0))), none⟩]) (
      .ret)) (.skip))) (
    .seq (.reg false [⟨some 4, .mv (.c (.v (.int .i64 (-1)))), none⟩]) (
    .ret))) (.skip))) (
  .seq (.seq (.reg false [⟨some 13, .mv (.t 6), none⟩]) (
  .cond (.t 13) (.seq (.reg false [⟨some 4, .mv (.c (.v (.int .i64 1))), none⟩]) (
    .ret)) (.skip))) (
  .seq (.seq (.reg false [⟨some 14, .mv (.t 0), none⟩,
    ⟨some 15, .mv (.t 1), none⟩,
    ⟨some 16, .bin .lss (.t 14) (.t 15), none⟩]) (
  .cond (.t 16) (.seq (.reg false [⟨some 4, .mv (.c (.v (.int .i64 (-1)))), none⟩]) (
    .ret)) (.skip))) (
  .seq (.seq (.reg false [⟨some 17, .mv (.t 0), none⟩,
    ⟨some 18, .mv (.t 1), none⟩,
    ⟨some 19, .bin .gtr (.t 17) (.t 18), none⟩]) (
  .cond (.t 19) (.seq (.reg false [⟨some 4, .mv (.c (.v (.int .i64 1))), none⟩]) (
    .ret)) (.skip))) (
  .seq (.reg false [⟨some 4, .mv (.c (.v (.int .i64 0))), none⟩]) (
  .ret)))))))))⟩

theorem a101q (T : Table) (k : Nat) (n1 : Int) (n2 : Int) : evalF T k a101 [(.d (.v (.int .i64 n1))), (.d (.v (.int .i64 n2)))] = (
 callT T 134 [(.d (.v (.int .i64 n1)))] fun o3 =>
 oD o3.res fun d4 =>
 dB d4 fun b5 =>
 callT T 134 [(.d (.v (.int .i64 n2)))] fun o6 =>
 oD o6.res fun d7 =>
 dB d7 fun b8 =>
 bif b5 then (
 bif b8 then (
 some ⟨(.d (.v (.int .i64 0))), []⟩) else (
 some ⟨(.d (.v (.int .i64 (-1)))), []⟩)) else (
 bif b8 then (
 some ⟨(.d (.v (.int .i64 1))), []⟩) else (
 bif (decide (n1 < n2)) then (
 some ⟨(.d (.v (.int .i64 (-1)))), []⟩) else (
 bif (decide (n1 > n2)) then (
 some ⟨(.d (.v (.int .i64 1))), []⟩) else (
 some ⟨(.d (.v (.int .i64 0))), []⟩))))) := by kernel_rfl

end Go.Am.As
