/- What the functions come to, printed: equations by the kernel. Nothing is assumed. -/
import Derived.Test.YtapjklbchbgiaaaAmA
import Derived.KernelRfl
namespace Go.Am.La
set_option linter.unusedVariables false
set_option linter.unusedSimpArgs false
set_option maxRecDepth 8000
/- loop.example/g00119/laws.szStringS -/
def b51x0 : ACode := (
  .seq (.seq (.reg false [⟨some 12, .mv (.t 5), none⟩,
    ⟨some 13, .mv (.t 0), none⟩,
    ⟨some 14, .len false (.t 13), none⟩,
    ⟨some 15, .bin .lss (.t 12) (.t 14), none⟩]) (
  .cond (.t 15) (.skip) (.exit 0))) (
  .seq (.block 1 (.seq (.reg false [⟨some 18, .mv (.t 1), none⟩,
      ⟨some 19, .mv (.t 0), none⟩,
      ⟨some 20, .mv (.t 5), none⟩,
      ⟨some 21, .iad 1 (.t 19) (.t 20), none⟩,
      ⟨some 22, .load false [.s] (.t 21), none⟩,
      ⟨some 23, .len true (.t 22), none⟩,
      ⟨some 24, .bin .sub (.t 18) (.t 23), none⟩,
      ⟨some 1, .mv (.t 24), none⟩]) (
    .seq (.reg false [⟨some 25, .mv (.t 1), none⟩,
      ⟨some 26, .bin .lss (.t 25) (.c (.v (.int .i64 0))), none⟩]) (
    .cond (.t 26) (.seq (.reg false [⟨some 4, .mv (.c (.v (.int .i64 (-1)))), none⟩]) (
      .ret)) (.skip))))) (
  .reg false [⟨some 16, .mv (.t 5), none⟩,
    ⟨some 17, .bin .add (.t 16) (.c (.v (.int .i64 1))), none⟩,
    ⟨some 5, .mv (.t 17), none⟩])))
def e51x0 : Exits := [(.ret, [(4, .c (.i .i64))]), ((.exit 0), [(1, .c (.i .i64))])]
noncomputable def l51x0 (T : Table) (k : Nat) := loopN (evalC ⟨T, []⟩ k b51x0 (Ex × List AV)) [0, 1, 5] e51x0
def a51 : AFun := ⟨[.rd, .rd], false, [.t 4], (
  .seq (.reg false [⟨some 4, .mv (.c (.v (.int .i64 0))), none⟩]) (
  .seq (.reg false [⟨some 6, .mv (.t 1), none⟩,
    ⟨some 7, .mv (.t 0), none⟩,
    ⟨some 8, .len false (.t 7), none⟩,
    ⟨some 9, .bin .sub (.t 6) (.t 8), none⟩,
    ⟨some 1, .mv (.t 9), none⟩]) (
  .seq (.seq (.reg false [⟨some 10, .mv (.t 1), none⟩,
    ⟨some 11, .bin .lss (.t 10) (.c (.v (.int .i64 0))), none⟩]) (
  .cond (.t 11) (.seq (.reg false [⟨some 4, .mv (.c (.v (.int .i64 (-1)))), none⟩]) (
    .ret)) (.skip))) (
  .seq (.seq (.reg false [⟨some 5, .mv (.c (.v (.int .i64 0))), none⟩]) (
  .block 0 (.loop [0, 1, 5] e51x0 b51x0))) (
  .seq (.reg false [⟨some 27, .mv (.t 1), none⟩,
    ⟨some 4, .mv (.t 27), none⟩]) (
  .ret))))))⟩
theorem l51x0s (T : Table) (k n : Nat) (l3 : Rows) (n4 : Int) (n5 : Int) : l51x0 T k (n + 1) [(.fz 1 l3), (.v (.int .i64 n4)), (.v (.int .i64 n5))] = (
 bif (decide (n5 < (l3.length : Int))) then (
 tst (decide (0 ≤ n5)) (
 look l3 (Int.toNat n5) fun r6 =>
 cS r6 0 fun s7 =>
 bif (decide ((IntKind.wrap .i64 (n4 - (s7.size : Int))) < 0)) then (
 some (.ret, [(.v (.int .i64 (-1)))])) else (
 l51x0 T k n [(.fz 1 l3), (.v (.int .i64 (IntKind.wrap .i64 (n4 - (s7.size : Int))))), (.v (.int .i64 (IntKind.wrap .i64 (n5 + 1))))]))) else (
 some ((.exit 0), [(.v (.int .i64 n4))]))) := by kernel_rfl
theorem a51q (T : Table) (k : Nat) (l1 : Rows) (n2 : Int) : evalF T k a51 [(.d (.s 1 l1)), (.d (.v (.int .i64 n2)))] = (
 bif (decide ((IntKind.wrap .i64 (n2 - (l1.length : Int))) < 0)) then (
 some ⟨(.d (.v (.int .i64 (-1)))), []⟩) else (
 aft (l51x0 T k k [(.fz 1 l1), (.v (.int .i64 (IntKind.wrap .i64 (n2 - (l1.length : Int))))), (.v (.int .i64 0))]) fun e8 ys9 =>
 bif e8.same .ret then (
 aV ys9 0 fun x10 =>
 aI .i64 x10 fun n11 =>
 some ⟨(.d (.v (.int .i64 n11))), []⟩) else (
 bif e8.same (.exit 0) then (
 aV ys9 0 fun x12 =>
 aI .i64 x12 fun n13 =>
 some ⟨(.d (.v (.int .i64 n13))), []⟩) else (
 none)))) := by kernel_rfl
/- loop.example/g00119/laws.szValueS -/
def b144x0 : ACode := (
  .seq (.seq (.reg false [⟨some 12, .mv (.t 5), none⟩,
    ⟨some 13, .mv (.t 0), none⟩,
    ⟨some 14, .len false (.t 13), none⟩,
    ⟨some 15, .bin .lss (.t 12) (.t 14), none⟩]) (
  .cond (.t 15) (.skip) (.exit 0))) (
  .seq (.block 1 (.seq (.reg false [⟨some 18, .mv (.t 0), none⟩,
      ⟨some 19, .mv (.t 5), none⟩,
      ⟨some 20, .iad 5 (.t 18) (.t 19), none⟩,
      ⟨some 21, .load true [(.i .i64), .s, (.i .i64), (.sl 1), (.sl 5)] (.t 20), none⟩,
      ⟨some 22, .mv (.t 1), none⟩,
      ⟨some 23, .call (.f 121) [.rd, .rd] false [.c (.i .i64)] [(.t 21), (.t 22)], none⟩,
      ⟨some 1, .mv (.t 23), none⟩]) (
    .seq (.reg false [⟨some 24, .mv (.t 1), none⟩,
      ⟨some 25, .bin .lss (.t 24) (.c (.v (.int .i64 0))), none⟩]) (
    .cond (.t 25) (.seq (.reg false [⟨some 4, .mv (.c (.v (.int .i64 (-1)))), none⟩]) (
      .ret)) (.skip))))) (
  .reg false [⟨some 16, .mv (.t 5), none⟩,
    ⟨some 17, .bin .add (.t 16) (.c (.v (.int .i64 1))), none⟩,
    ⟨some 5, .mv (.t 17), none⟩])))
def e144x0 : Exits := [(.ret, [(4, .c (.i .i64))]), ((.exit 0), [(1, .c (.i .i64))])]
noncomputable def l144x0 (T : Table) (k : Nat) := loopN (evalC ⟨T, []⟩ k b144x0 (Ex × List AV)) [0, 1, 5] e144x0
def a144 : AFun := ⟨[.rd, .rd], false, [.t 4], (
  .seq (.reg false [⟨some 4, .mv (.c (.v (.int .i64 0))), none⟩]) (
  .seq (.reg false [⟨some 6, .mv (.t 1), none⟩,
    ⟨some 7, .mv (.t 0), none⟩,
    ⟨some 8, .len false (.t 7), none⟩,
    ⟨some 9, .bin .sub (.t 6) (.t 8), none⟩,
    ⟨some 1, .mv (.t 9), none⟩]) (
  .seq (.seq (.reg false [⟨some 10, .mv (.t 1), none⟩,
    ⟨some 11, .bin .lss (.t 10) (.c (.v (.int .i64 0))), none⟩]) (
  .cond (.t 11) (.seq (.reg false [⟨some 4, .mv (.c (.v (.int .i64 (-1)))), none⟩]) (
    .ret)) (.skip))) (
  .seq (.seq (.reg false [⟨some 5, .mv (.c (.v (.int .i64 0))), none⟩]) (
  .block 0 (.loop [0, 1, 5] e144x0 b144x0))) (
  .seq (.reg false [⟨some 26, .mv (.t 1), none⟩,
    ⟨some 4, .mv (.t 26), none⟩]) (
  .ret))))))⟩
theorem l144x0s (T : Table) (k n : Nat) (l3 : Rows) (n4 : Int) (n5 : Int) : l144x0 T k (n + 1) [(.fz 5 l3), (.v (.int .i64 n4)), (.v (.int .i64 n5))] = (
 bif (decide (n5 < (l3.length : Int))) then (
 tst (decide (0 ≤ n5)) (
 look l3 (Int.toNat n5) fun r6 =>
 cI .i64 r6 0 fun n7 =>
 cS r6 1 fun s8 =>
 cI .i64 r6 2 fun n9 =>
 cL 1 r6 3 fun l10 =>
 cL 5 r6 4 fun l11 =>
 callT T 121 [(.g [(.v (.int .i64 n7)), (.v (.string s8)), (.v (.int .i64 n9)), (.s 1 l10), (.s 5 l11)]), (.d (.v (.int .i64 n4)))] fun o12 =>
 oD o12.res fun d13 =>
 dI .i64 d13 fun n14 =>
 bif (decide (n14 < 0)) then (
 some (.ret, [(.v (.int .i64 (-1)))])) else (
 l144x0 T k n [(.fz 5 l3), (.v (.int .i64 n14)), (.v (.int .i64 (IntKind.wrap .i64 (n5 + 1))))]))) else (
 some ((.exit 0), [(.v (.int .i64 n4))]))) := by kernel_rfl
theorem a144q (T : Table) (k : Nat) (l1 : Rows) (n2 : Int) : evalF T k a144 [(.d (.s 5 l1)), (.d (.v (.int .i64 n2)))] = (
 bif (decide ((IntKind.wrap .i64 (n2 - (l1.length : Int))) < 0)) then (
 some ⟨(.d (.v (.int .i64 (-1)))), []⟩) else (
 aft (l144x0 T k k [(.fz 5 l1), (.v (.int .i64 (IntKind.wrap .i64 (n2 - (l1.length : Int))))), (.v (.int .i64 0))]) fun e15 ys16 =>
 bif e15.same .ret then (
 aV ys16 0 fun x17 =>
 aI .i64 x17 fun n18 =>
 some ⟨(.d (.v (.int .i64 n18))), []⟩) else (
 bif e15.same (.exit 0) then (
 aV ys16 0 fun x19 =>
 aI .i64 x19 fun n20 =>
 some ⟨(.d (.v (.int .i64 n20))), []⟩) else (
 none)))) := by kernel_rfl
/- loop.example/g00119/laws.szValue -/

def a121 : AFun := ⟨[.rd, .rd], false, [.t 4], (
  .seq (.reg false [⟨some 2, .box (.t 0), none⟩,
    ⟨some 4, .mv (.c (.v (.int .i64 0))), none⟩]) (
  .seq (.reg false [⟨some 5, .mv (.t 1), none⟩,
    ⟨some 6, .fad 1 (.t 2), none⟩,
    ⟨some 7, .load false [.s] (.t 6), none⟩,
    ⟨some 8, .len true (.t 7), none⟩,
    ⟨some 9, .bin .sub (.t 5) (.t 8), none⟩,
    ⟨some 1, .mv (.t 9), none⟩]) (
  .seq (.seq (.reg false [⟨some 10, .mv (.t 1), none⟩,
    ⟨some 11, .bin .lss (.t 10) (.c (.v (.int .i64 0))), none⟩]) (
  .cond (.t 11) (.seq (.reg false [⟨some 4, .mv (.c (.v (.int .i64 (-1)))), none⟩]) (
    .ret)) (.skip))) (
  .seq (.reg false [⟨some 12, .fad 3 (.t 2), none⟩,
    ⟨some 13, .load false [(.sl 1)] (.t 12), none⟩,
    ⟨some 14, .mv (.t 1), none⟩,
    ⟨some 15, .call (.f 51) [.rd, .rd] false [.c (.i .i64)] [(.t 13), (.t 14)], none⟩,
    ⟨some 1, .mv (.t 15), none⟩]) (
  .seq (.seq (.reg false [⟨some 16, .mv (.t 1), none⟩,
    ⟨some 17, .bin .lss (.t 16) (.c (.v (.int .i64 0))), none⟩]) (
  .cond (.t 17) (.seq (.reg false [⟨some 4, .mv (.c (.v (.int .i64 (-1)))), none⟩]) (
    .ret)) (.skip))) (
  .seq (.reg false [⟨some 18, .fad 4 (.t 2), none⟩,
    ⟨some 19, .load false [(.sl 5)] (.t 18), none⟩,
    ⟨some 20, .mv (.t 1), none⟩,
    ⟨some 21, .call (.f 144) [.rd, .rd] false [.c (.i .i64)] [(.t 19), (.t 20)], none⟩,
    ⟨some 1, .mv (.t 21), none⟩]) (
  .seq (.seq (.reg false [⟨some 22, .mv (.t 1), none⟩,
    ⟨some 23, .bin .lss (.t 22) (.c (.v (.int .i64 0))), none⟩]) (
  .cond (.t 23) (.seq (.reg false [⟨some 4, .mv (.c (.v (.int .i64 (-1)))), none⟩]) (
    .ret)) (.skip))) (
  .seq (.reg false [⟨some 24, .mv (.t 1), none⟩,
    ⟨some 4, .mv (.t 24), none⟩]) (
  .ret)))))))))⟩

theorem a121q (T : Table) (k : Nat) (n1 : Int) (s2 : ByteArray) (n3 : Int) (l4 : Rows) (l5 : Rows) (n6 : Int) : evalF T k a121 [(.g [(.v (.int .i64 n1)), (.v (.string s2)), (.v (.int .i64 n3)), (.s 1 l4), (.s 5 l5)]), (.d (.v (.int .i64 n6)))] = (
 bif (decide ((IntKind.wrap .i64 (n6 - (s2.size : Int))) < 0)) then (
 some ⟨(.d (.v (.int .i64 (-1)))), []⟩) else (
 callT T 51 [(.d (.s 1 l4)), (.d (.v (.int .i64 (IntKind.wrap .i64 (n6 - (s2.size : Int))))))] fun o7 =>
 oD o7.res fun d8 =>
 dI .i64 d8 fun n9 =>
 bif (decide (n9 < 0)) then (
 some ⟨(.d (.v (.int .i64 (-1)))), []⟩) else (
 callT T 144 [(.d (.s 5 l5)), (.d (.v (.int .i64 n9)))] fun o10 =>
 oD o10.res fun d11 =>
 dI .i64 d11 fun n12 =>
 bif (decide (n12 < 0)) then (
 some ⟨(.d (.v (.int .i64 (-1)))), []⟩) else (
 some ⟨(.d (.v (.int .i64 n12))), []⟩)))) := by kernel_rfl
/- loop.example/g00119/laws.szWork -/

def a76 : AFun := ⟨[.rd, .rd], false, [.t 4], (
  .seq (.reg false [⟨some 2, .box (.t 0), none⟩,
    ⟨some 4, .mv (.c (.v (.int .i64 0))), none⟩]) (
  .seq (.reg false [⟨some 5, .fad 2 (.t 2), none⟩,
    ⟨some 6, .load true [(.i .i64), .s, (.i .i64), (.sl 1), (.sl 5)] (.t 5), none⟩,
    ⟨some 7, .mv (.t 1), none⟩,
    ⟨some 8, .call (.f 121) [.rd, .rd] false [.c (.i .i64)] [(.t 6), (.t 7)], none⟩,
    ⟨some 1, .mv (.t 8), none⟩]) (
  .seq (.seq (.reg false [⟨some 9, .mv (.t 1), none⟩,
    ⟨some 10, .bin .lss (.t 9) (.c (.v (.int .i64 0))), none⟩]) (
  .cond (.t 10) (.seq (.reg false [⟨some 4, .mv (.c (.v (.int .i64 (-1)))), none⟩]) (
    .ret)) (.skip))) (
  .seq (.reg false [⟨some 11, .mv (.t 1), none⟩,
    ⟨some 4, .mv (.t 11), none⟩]) (
  .ret)))))⟩

theorem a76q (T : Table) (k : Nat) (n1 : Int) (n2 : Int) (n3 : Int) (s4 : ByteArray) (n5 : Int) (l6 : Rows) (l7 : Rows) (n8 : Int) : evalF T k a76 [(.g [(.v (.int .i64 n1)), (.v (.int .i64 n2)), (.v (.int .i64 n3)), (.v (.string s4)), (.v (.int .i64 n5)), (.s 1 l6), (.s 5 l7)]), (.d (.v (.int .i64 n8)))] = (
 callT T 121 [(.g [(.v (.int .i64 n3)), (.v (.string s4)), (.v (.int .i64 n5)), (.s 1 l6), (.s 5 l7)]), (.d (.v (.int .i64 n8)))] fun o9 =>
 oD o9.res fun d10 =>
 dI .i64 d10 fun n11 =>
 bif (decide (n11 < 0)) then (
 some ⟨(.d (.v (.int .i64 (-1)))), []⟩) else (
 some ⟨(.d (.v (.int .i64 n11))), []⟩)) := by kernel_rfl
/- loop.example/g00119/laws.szWorkS -/
def b32x0 : ACode := (
  .seq (.seq (.reg false [⟨some 12, .mv (.t 5), none⟩,
    ⟨some 13, .mv (.t 0), none⟩,
    ⟨some 14, .len false (.t 13), none⟩,
    ⟨some 15, .bin .lss (.t 12) (.t 14), none⟩]) (
  .cond (.t 15) (.skip) (.exit 0))) (
  .seq (.block 1 (.seq (.reg false [⟨some 18, .mv (.t 0), none⟩,
      ⟨some 19, .mv (.t 5), none⟩,
      ⟨some 20, .iad 7 (.t 18) (.t 19), none⟩,
      ⟨some 21, .load true [(.i .i64), (.i .i64), (.i .i64), .s, (.i .i64), (.sl 1), (.sl 5)] (.t 20), none⟩,
      ⟨some 22, .mv (.t 1), none⟩,
      ⟨some 23, .call (.f 76) [.rd, .rd] false [.c (.i .i64)] [(.t 21), (.t 22)], none⟩,
      ⟨some 1, .mv (.t 23), none⟩]) (
    .seq (.reg false [⟨some 24, .mv (.t 1), none⟩,
      ⟨some 25, .bin .lss (.t 24) (.c (.v (.int .i64 0))), none⟩]) (
    .cond (.t 25) (.seq (.reg false [⟨some 4, .mv (.c (.v (.int .i64 (-1)))), none⟩]) (
      .ret)) (.skip))))) (
  .reg false [⟨some 16, .mv (.t 5), none⟩,
    ⟨some 17, .bin .add (.t 16) (.c (.v (.int .i64 1))), none⟩,
    ⟨some 5, .mv (.t 17), none⟩])))
def e32x0 : Exits := [(.ret, [(4, .c (.i .i64))]), ((.exit 0), [(1, .c (.i .i64))])]
noncomputable def l32x0 (T : Table) (k : Nat) := loopN (evalC ⟨T, []⟩ k b32x0 (Ex × List AV)) [0, 1, 5] e32x0
def a32 : AFun := ⟨[.rd, .rd], false, [.t 4], (
  .seq (.reg false [⟨some 4, .mv (.c (.v (.int .i64 0))), none⟩]) (
  .seq (.reg false [⟨some 6, .mv (.t 1), none⟩,
    ⟨some 7, .mv (.t 0), none⟩,
    ⟨some 8, .len false (.t 7), none⟩,
    ⟨some 9, .bin .sub (.t 6) (.t 8), none⟩,
    ⟨some 1, .mv (.t 9), none⟩]) (
  .seq (.seq (.reg false [⟨some 10, .mv (.t 1), none⟩,
    ⟨some 11, .bin .lss (.t 10) (.c (.v (.int .i64 0))), none⟩]) (
  .cond (.t 11) (.seq (.reg false [⟨some 4, .mv (.c (.v (.int .i64 (-1)))), none⟩]) (
    .ret)) (.skip))) (
  .seq (.seq (.reg false [⟨some 5, .mv (.c (.v (.int .i64 0))), none⟩]) (
  .block 0 (.loop [0, 1, 5] e32x0 b32x0))) (
  .seq (.reg false [⟨some 26, .mv (.t 1), none⟩,
    ⟨some 4, .mv (.t 26), none⟩]) (
  .ret))))))⟩
theorem l32x0s (T : Table) (k n : Nat) (l3 : Rows) (n4 : Int) (n5 : Int) : l32x0 T k (n + 1) [(.fz 7 l3), (.v (.int .i64 n4)), (.v (.int .i64 n5))] = (
 bif (decide (n5 < (l3.length : Int))) then (
 tst (decide (0 ≤ n5)) (
 look l3 (Int.toNat n5) fun r6 =>
 cI .i64 r6 0 fun n7 =>
 cI .i64 r6 1 fun n8 =>
 cI .i64 r6 2 fun n9 =>
 cS r6 3 fun s10 =>
 cI .i64 r6 4 fun n11 =>
 cL 1 r6 5 fun l12 =>
 cL 5 r6 6 fun l13 =>
 callT T 76 [(.g [(.v (.int .i64 n7)), (.v (.int .i64 n8)), (.v (.int .i64 n9)), (.v (.string s10)), (.v (.int .i64 n11)), (.s 1 l12), (.s 5 l13)]), (.d (.v (.int .i64 n4)))] fun o14 =>
 oD o14.res fun d15 =>
 dI .i64 d15 fun n16 =>
 bif (decide (n16 < 0)) then (
 some (.ret, [(.v (.int .i64 (-1)))])) else (
 l32x0 T k n [(.fz 7 l3), (.v (.int .i64 n16)), (.v (.int .i64 (IntKind.wrap .i64 (n5 + 1))))]))) else (
 some ((.exit 0), [(.v (.int .i64 n4))]))) := by kernel_rfl
theorem a32q (T : Table) (k : Nat) (l1 : Rows) (n2 : Int) : evalF T k a32 [(.d (.s 7 l1)), (.d (.v (.int .i64 n2)))] = (
 bif (decide ((IntKind.wrap .i64 (n2 - (l1.length : Int))) < 0)) then (
 some ⟨(.d (.v (.int .i64 (-1)))), []⟩) else (
 aft (l32x0 T k k [(.fz 7 l1), (.v (.int .i64 (IntKind.wrap .i64 (n2 - (l1.length : Int))))), (.v (.int .i64 0))]) fun e17 ys18 =>
 bif e17.same .ret then (
 aV ys18 0 fun x19 =>
 aI .i64 x19 fun n20 =>
 some ⟨(.d (.v (.int .i64 n20))), []⟩) else (
 bif e17.same (.exit 0) then (
 aV ys18 0 fun x21 =>
 aI .i64 x21 fun n22 =>
 some ⟨(.d (.v (.int .i64 n22))), []⟩) else (
 none)))) := by kernel_rfl
/- loop.example/g00119/laws.szRunS -/

def a33 : AFun := ⟨[.rd, .rd], false, [.t 4], (
  .seq (.reg false [⟨some 4, .mv (.c (.v (.int .i64 0))), none⟩]) (
  .seq (.reg false [⟨some 5, .mv (.t 1), none⟩,
    ⟨some 6, .mv (.t 0), none⟩,
    ⟨some 7, .len false (.t 6), none⟩,
    ⟨some 8, .bin .sub (.t 5) (.t 7), none⟩,
    ⟨some 1, .mv (.t 8), none⟩]) (
  .seq (.seq (.reg false [⟨some 9, .mv (.t 1), none⟩,
    ⟨some 10, .bin .lss (.t 9) (.c (.v (.int .i64 0))), none⟩]) (
  .cond (.t 10) (.seq (.reg false [⟨some 4, .mv (.c (.v (.int .i64 (-1)))), none⟩]) (
    .ret)) (.skip))) (
  .seq (.reg false [⟨some 11, .mv (.t 1), none⟩,
    ⟨some 4, .mv (.t 11), none⟩]) (
  .ret)))))⟩

theorem a33q (T : Table) (k : Nat) (l1 : Rows) (n2 : Int) : evalF T k a33 [(.d (.s 2 l1)), (.d (.v (.int .i64 n2)))] = (
 bif (decide ((IntKind.wrap .i64 (n2 - (l1.length : Int))) < 0)) then (
 some ⟨(.d (.v (.int .i64 (-1)))), []⟩) else (
 some ⟨(.d (.v (.int .i64 (IntKind.wrap .i64 (n2 - (l1.length : Int)))))), []⟩)) := by kernel_rfl
/- loop.example/g00119/laws.szIsle -/

def a7 : AFun := ⟨[.rd, .rd], false, [.t 4], (
  .seq (.reg false [⟨some 2, .box (.t 0), none⟩,
    ⟨some 4, .mv (.c (.v (.int .i64 0))), none⟩]) (
  .seq (.reg false [⟨some 5, .mv (.t 1), none⟩,
    ⟨some 6, .fad 0 (.t 2), none⟩,
    ⟨some 7, .load false [.s] (.t 6), none⟩,
    ⟨some 8, .len true (.t 7), none⟩,
    ⟨some 9, .bin .sub (.t 5) (.t 8), none⟩,
    ⟨some 1, .mv (.t 9), none⟩]) (
  .seq (.seq (.reg false [⟨some 10, .mv (.t 1), none⟩,
    ⟨some 11, .bin .lss (.t 10) (.c (.v (.int .i64 0))), none⟩]) (
  .cond (.t 11) (.seq (.reg false [⟨some 4, .mv (.c (.v (.int .i64 (-1)))), none⟩]) (
    .ret)) (.skip))) (
  .seq (.reg false [⟨some 12, .fad 3 (.t 2), none⟩,
    ⟨some 13, .load false [(.sl 7)] (.t 12), none⟩,
    ⟨some 14, .mv (.t 1), none⟩,
    ⟨some 15, .call (.f 32) [.rd, .rd] false [.c (.i .i64)] [(.t 13), (.t 14)], none⟩,
    ⟨some 1, .mv (.t 15), none⟩]) (
  .seq (.seq (.reg false [⟨some 16, .mv (.t 1), none⟩,
    ⟨some 17, .bin .lss (.t 16) (.c (.v (.int .i64 0))), none⟩]) (
  .cond (.t 17) (.seq (.reg false [⟨some 4, .mv (.c (.v (.int .i64 (-1)))), none⟩]) (
    .ret)) (.skip))) (
  .seq (.reg false [⟨some 18, .fad 4 (.t 2), none⟩,
    ⟨some 19, .load false [(.sl 2)] (.t 18), none⟩,
    ⟨some 20, .mv (.t 1), none⟩,
    ⟨some 21, .call (.f 33) [.rd, .rd] false [.c (.i .i64)] [(.t 19), (.t 20)], none⟩,
    ⟨some 1, .mv (.t 21), none⟩]) (
  .seq (.seq (.reg false [⟨some 22, .mv (.t 1), none⟩,
    ⟨some 23, .bin .lss (.t 22) (.c (.v (.int .i64 0))), none⟩]) (
  .cond (.t 23) (.seq (.reg false [⟨some 4, .mv (.c (.v (.int .i64 (-1)))), none⟩]) (
    .ret)) (.skip))) (
  .seq (.reg false [⟨some 24, .mv (.t 1), none⟩,
    ⟨some 4, .mv (.t 24), none⟩]) (
  .ret)))))))))⟩

theorem a7q (T : Table) (k : Nat) (s1 : ByteArray) (n2 : Int) (n3 : Int) (l4 : Rows) (l5 : Rows) (n6 : Int) : evalF T k a7 [(.g [(.v (.string s1)), (.v (.int .i64 n2)), (.v (.int .i64 n3)), (.s 7 l4), (.s 2 l5)]), (.d (.v (.int .i64 n6)))] = (
 bif (decide ((IntKind.wrap .i64 (n6 - (s1.size : Int))) < 0)) then (
 some ⟨(.d (.v (.int .i64 (-1)))), []⟩) else (
 callT T 32 [(.d (.s 7 l4)), (.d (.v (.int .i64 (IntKind.wrap .i64 (n6 - (s1.size : Int))))))] fun o7 =>
 oD o7.res fun d8 =>
 dI .i64 d8 fun n9 =>
 bif (decide (n9 < 0)) then (
 some ⟨(.d (.v (.int .i64 (-1)))), []⟩) else (
 callT T 33 [(.d (.s 2 l5)), (.d (.v (.int .i64 n9)))] fun o10 =>
 oD o10.res fun d11 =>
 dI .i64 d11 fun n12 =>
 bif (decide (n12 < 0)) then (
 some ⟨(.d (.v (.int .i64 (-1)))), []⟩) else (
 some ⟨(.d (.v (.int .i64 n12))), []⟩)))) := by kernel_rfl
/- loop.example/g00119/laws.szMsg -/

def a8 : AFun := ⟨[.rd, .rd], false, [.t 4], (
  .seq (.reg false [⟨some 2, .box (.t 0), none⟩,
    ⟨some 4, .mv (.c (.v (.int .i64 0))), none⟩]) (
  .seq (.reg false [⟨some 5, .mv (.t 1), none⟩,
    ⟨some 6, .fad 1 (.t 2), none⟩,
    ⟨some 7, .load false [.s] (.t 6), none⟩,
    ⟨some 8, .len true (.t 7), none⟩,
    ⟨some 9, .bin .sub (.t 5) (.t 8), none⟩,
    ⟨some 1, .mv (.t 9), none⟩]) (
  .seq (.seq (.reg false [⟨some 10, .mv (.t 1), none⟩,
    ⟨some 11, .bin .lss (.t 10) (.c (.v (.int .i64 0))), none⟩]) (
  .cond (.t 11) (.seq (.reg false [⟨some 4, .mv (.c (.v (.int .i64 (-1)))), none⟩]) (
    .ret)) (.skip))) (
  .seq (.reg false [⟨some 12, .fad 3 (.t 2), none⟩,
    ⟨some 13, .load false [(.sl 7)] (.t 12), none⟩,
    ⟨some 14, .mv (.t 1), none⟩,
    ⟨some 15, .call (.f 32) [.rd, .rd] false [.c (.i .i64)] [(.t 13), (.t 14)], none⟩,
    ⟨some 1, .mv (.t 15), none⟩]) (
  .seq (.seq (.reg false [⟨some 16, .mv (.t 1), none⟩,
    ⟨some 17, .bin .lss (.t 16) (.c (.v (.int .i64 0))), none⟩]) (
  .cond (.t 17) (.seq (.reg false [⟨some 4, .mv (.c (.v (.int .i64 (-1)))), none⟩]) (
    .ret)) (.skip))) (
  .seq (.reg false [⟨some 18, .fad 4 (.t 2), none⟩,
    ⟨some 19, .load false [(.sl 2)] (.t 18), none⟩,
    ⟨some 20, .mv (.t 1), none⟩,
    ⟨some 21, .call (.f 33) [.rd, .rd] false [.c (.i .i64)] [(.t 19), (.t 20)], none⟩,
    ⟨some 1, .mv (.t 21), none⟩]) (
  .seq (.seq (.reg false [⟨some 22, .mv (.t 1), none⟩,
    ⟨some 23, .bin .lss (.t 22) (.c (.v (.int .i64 0))), none⟩]) (
  .cond (.t 23) (.seq (.reg false [⟨some 4, .mv (.c (.v (.int .i64 (-1)))), none⟩]) (
    .ret)) (.skip))) (
  .seq (.reg false [⟨some 24, .mv (.t 1), none⟩,
    ⟨some 4, .mv (.t 24), none⟩]) (
  .ret)))))))))⟩

theorem a8q (T : Table) (k : Nat) (n1 : Int) (s2 : ByteArray) (n3 : Int) (l4 : Rows) (l5 : Rows) (n6 : Int) : evalF T k a8 [(.g [(.v (.int .i64 n1)), (.v (.string s2)), (.v (.int .i64 n3)), (.s 7 l4), (.s 2 l5)]), (.d (.v (.int .i64 n6)))] = (
 bif (decide ((IntKind.wrap .i64 (n6 - (s2.size : Int))) < 0)) then (
 some ⟨(.d (.v (.int .i64 (-1)))), []⟩) else (
 callT T 32 [(.d (.s 7 l4)), (.d (.v (.int .i64 (IntKind.wrap .i64 (n6 - (s2.size : Int))))))] fun o7 =>
 oD o7.res fun d8 =>
 dI .i64 d8 fun n9 =>
 bif (decide (n9 < 0)) then (
 some ⟨(.d (.v (.int .i64 (-1)))), []⟩) else (
 callT T 33 [(.d (.s 2 l5)), (.d (.v (.int .i64 n9)))] fun o10 =>
 oD o10.res fun d11 =>
 dI .i64 d11 fun n12 =>
 bif (decide (n12 < 0)) then (
 some ⟨(.d (.v (.int .i64 (-1)))), []⟩) else (
 some ⟨(.d (.v (.int .i64 n12))), []⟩)))) := by kernel_rfl
/- loop.example/g00119/spec.l1In -/

def a78 : AFun := ⟨[.rd, .rd, .rd], false, [.t 6], (
  .seq (.reg false [⟨some 6, .mv (.c (.v (.bool false))), none⟩]) (
  .seq (.reg false [⟨some 7, .mv (.t 0), none⟩,
    ⟨some 8, .mv (.t 1), none⟩,
    ⟨some 9, .bin .geq (.t 7) (.t 8), none⟩,
    ⟨some 10, .mv (.t 9), none⟩,
    ⟨some 11, .mv (.t 0), some (10, true)⟩,
    ⟨some 12, .mv (.t 2), some (10, true)⟩,
    ⟨some 13, .bin .leq (.t 11) (.t 12), some (10, true)⟩,
    ⟨some 14, .pick (.t 10) (.t 13) (.c (.v (.bool false))), none⟩,
    ⟨some 6, .mv (.t 14), none⟩]) (
  .ret)))⟩

theorem a78q (T : Table) (k : Nat) (n1 : Int) (n2 : Int) (n3 : Int) : evalF T k a78 [(.d (.v (.int .i64 n1))), (.d (.v (.int .i64 n2))), (.d (.v (.int .i64 n3)))] = (
 bif (decide (n1 ≥ n2)) == true then (
 some ⟨(.d (.v (.bool (decide (n1 ≤ n3))))), []⟩) else (
 some ⟨(.d (.v (.bool false))), []⟩)) := by kernel_rfl
/- loop.example/g00119/spec.NameOk -/
def b77x0 : ACode := (
  .seq (.seq (.reg false [⟨some 4, .mv (.t 3), none⟩,
    ⟨some 5, .mv (.t 0), none⟩,
    ⟨some 6, .len true (.t 5), none⟩,
    ⟨some 7, .bin .lss (.t 4) (.t 6), none⟩]) (
  .cond (.t 7) (.skip) (.exit 0))) (
  .seq (.block 1 (.seq (.reg false [⟨some 10, .mv (.t 0), none⟩,
      ⟨some 11, .mv (.t 3), none⟩,
      ⟨some 12, .idx (.t 10) (.t 11), none⟩,
      ⟨some 13, .conv (.int .i64) (.t 12), none⟩,
      ⟨some 14, .call (.f 78) [.rd, .rd, .rd] false [.c .b] [(.t 13), (.c (.v (.int .i64 97))), (.c (.v (.int .i64 122)))], none⟩,
      ⟨some 15, .un .not (.t 14), none⟩,
      ⟨some 16, .mv (.t 15), none⟩,
      ⟨some 17, .mv (.t 0), some (16, true)⟩,
      ⟨some 18, .mv (.t 3), some (16, true)⟩,
      ⟨some 19, .idx (.t 17) (.t 18), some (16, true)⟩,
      ⟨some 20, .conv (.int .i64) (.t 19), some (16, true)⟩,
      ⟨some 21, .call (.f 78) [.rd, .rd, .rd] false [.c .b] [(.t 20), (.c (.v (.int .i64 48))), (.c (.v (.int .i64 57)))], some (16, true)⟩,
      ⟨some 22, .un .not (.t 21), some (16, true)⟩,
      ⟨some 23, .pick (.t 16) (.t 22) (.c (.v (.bool false))), none⟩,
      ⟨some 24, .mv (.t 23), none⟩,
      ⟨some 25, .mv (.t 0), some (24, true)⟩,
      ⟨some 26, .mv (.t 3), some (24, true)⟩,
      ⟨some 27, .idx (.t 25) (.t 26), some (24, true)⟩,
      ⟨some 28, .bin .neq (.t 27) (.c (.v (.int .u8 45))), some (24, true)⟩,
      ⟨some 29, .pick (.t 24) (.t 28) (.c (.v (.bool false))), none⟩]) (
    .cond (.t 29) (.seq (.reg false [⟨some 2, .mv (.c (.v (.bool false))), none⟩]) (
      .ret)) (.skip)))) (
  .reg false [⟨some 8, .mv (.t 3), none⟩,
    ⟨some 9, .bin .add (.t 8) (.c (.v (.int .i64 1))), none⟩,
    ⟨some 3, .mv (.t 9), none⟩])))
def e77x0 : Exits := [(.ret, [(2, .c .b)]), ((.exit 0), [(0, .c .s)])]
noncomputable def l77x0 (T : Table) (k : Nat) := loopN (evalC ⟨T, []⟩ k b77x0 (Ex × List AV)) [0, 3] e77x0
def a77 : AFun := ⟨[.rd], false, [.t 2], (
  .seq (.reg false [⟨some 2, .mv (.c (.v (.bool false))), none⟩]) (
  .seq (.seq (.reg false [⟨some 3, .mv (.c (.v (.int .i64 0))), none⟩]) (
  .block 0 (.loop [0, 3] e77x0 b77x0))) (
  .seq (.reg false [⟨some 30, .mv (.t 0), none⟩,
    ⟨some 31, .len true (.t 30), none⟩,
    ⟨some 32, .call (.f 78) [.rd, .rd, .rd] false [.c .b] [(.t 31), (.c (.v (.int .i64 1))), (.c (.v (.int .i64 20)))], none⟩,
    ⟨some 33, .mv (.t 32), none⟩,
    ⟨some 34, .mv (.t 0), some (33, true)⟩,
    ⟨some 35, .idx (.t 34) (.c (.v (.int .i64 0))), some (33, true)⟩,
    ⟨some 36, .bin .neq (.t 35) (.c (.v (.int .u8 45))), some (33, true)⟩,
    ⟨some 37, .pick (.t 33) (.t 36) (.c (.v (.bool false))), none⟩,
    ⟨some 38, .mv (.t 37), none⟩,
    ⟨some 39, .mv (.t 0), some (38, true)⟩,
    ⟨some 40, .mv (.t 0), some (38, true)⟩,
    ⟨some 41, .len true (.t 40), some (38, true)⟩,
    ⟨some 42, .bin .sub (.t 41) (.c (.v (.int .i64 1))), some (38, true)⟩,
    ⟨some 43, .idx (.t 39) (.t 42), some (38, true)⟩,
    ⟨some 44, .bin .neq (.t 43) (.c (.v (.int .u8 45))), some (38, true)⟩,
    ⟨some 45, .pick (.t 38) (.t 44) (.c (.v (.bool false))), none⟩,
    ⟨some 2, .mv (.t 45), none⟩]) (
  .ret))))⟩
theorem l77x0s (T : Table) (k n : Nat) (s2 : ByteArray) (n3 : Int) : l77x0 T k (n + 1) [(.v (.string s2)), (.v (.int .i64 n3))] = (
 bif (decide (n3 < (s2.size : Int))) then (
 tst (decide (0 ≤ n3)) (
 byteAt s2 (Int.toNat n3) fun c4 =>
 callT T 78 [(.d (.v (.int .i64 (IntKind.wrap .i64 (c4.toNat : Int))))), (.d (.v (.int .i64 97))), (.d (.v (.int .i64 122)))] fun o5 =>
 oD o5.res fun d6 =>
 dB d6 fun b7 =>
 bif (!b7) == true then (
 tst (decide (0 ≤ n3)) (
 byteAt s2 (Int.toNat n3) fun c8 =>
 callT T 78 [(.d (.v (.int .i64 (IntKind.wrap .i64 (c8.toNat : Int))))), (.d (.v (.int .i64 48))), (.d (.v (.int .i64 57)))] fun o9 =>
 oD o9.res fun d10 =>
 dB d10 fun b11 =>
 bif (!b11) == true then (
 tst (decide (0 ≤ n3)) (
 byteAt s2 (Int.toNat n3) fun c12 =>
 bif ((c12.toNat : Int) != 45) then (
 some (.ret, [(.v (.bool false))])) else (
 l77x0 T k n [(.v (.string s2)), (.v (.int .i64 (IntKind.wrap .i64 (n3 + 1))))]))) else (
 l77x0 T k n [(.v (.string s2)), (.v (.int .i64 (IntKind.wrap .i64 (n3 + 1))))]))) else (
 l77x0 T k n [(.v (.string s2)), (.v (.int .i64 (IntKind.wrap .i64 (n3 + 1))))]))) else (
 some ((.exit 0), [(.v (.string s2))]))) := by kernel_rfl
theorem a77q (T : Table) (k : Nat) (s1 : ByteArray) : evalF T k a77 [(.d (.v (.string s1)))] = (
 aft (l77x0 T k k [(.v (.string s1)), (.v (.int .i64 0))]) fun e13 ys14 =>
 bif e13.same .ret then (
 aV ys14 0 fun x15 =>
 aB x15 fun b16 =>
 some ⟨(.d (.v (.bool b16))), []⟩) else (
 bif e13.same (.exit 0) then (
 aV ys14 0 fun x17 =>
 aS x17 fun s18 =>
 callT T 78 [(.d (.v (.int .i64 (s18.size : Int)))), (.d (.v (.int .i64 1))), (.d (.v (.int .i64 20)))] fun o19 =>
 oD o19.res fun d20 =>
 dB d20 fun b21 =>
 bif b21 == true then (
 tst (decide (0 ≤ 0)) (
 byteAt s18 (Int.toNat 0) fun c22 =>
 bif ((c22.toNat : Int) != 45) == true then (
 tst (decide (0 ≤ (IntKind.wrap .i64 ((s18.size : Int) - 1)))) (
 byteAt s18 (Int.toNat (IntKind.wrap .i64 ((s18.size : Int) - 1))) fun c23 =>
 some ⟨(.d (.v (.bool ((c23.toNat : Int) != 45)))), []⟩)) else (
 some ⟨(.d (.v (.bool false))), []⟩))) else (
 some ⟨(.d (.v (.bool false))), []⟩)) else (
 none))) := by kernel_rfl
/- loop.example/g00119/spec.l11Runs -/
def b79x0 : ACode := (
  .seq (.seq (.reg false [⟨some 6, .mv (.t 5), none⟩,
    ⟨some 7, .mv (.t 0), none⟩,
    ⟨some 8, .len false (.t 7), none⟩,
    ⟨some 9, .bin .lss (.t 6) (.t 8), none⟩]) (
  .cond (.t 9) (.skip) (.exit 0))) (
  .seq (.block 1 (.seq (.dreg [] [(0, ⟨some 12, .mv (.t 0), none⟩),
      (0, ⟨some 13, .mv (.t 5), none⟩),
      (0, ⟨some 14, .iad 2 (.t 12) (.t 13), none⟩),
      (0, ⟨some 15, .fad 0 (.t 14), none⟩),
      (0, ⟨some 16, .load false [(.i .i64)] (.t 15), none⟩),
      (1, ⟨some 17, .call (.f 78) [.rd, .rd, .rd] false [.c .b] [(.t 16), (.c (.v (.int .i64 1))), (.c (.v (.int .i64 1000000)))], none⟩),
      (0, ⟨some 18, .un .not (.t 17), none⟩),
      (0, ⟨some 19, .mv (.t 18), none⟩),
      (0, ⟨some 20, .mv (.t 0), some (19, false)⟩),
      (0, ⟨some 21, .mv (.t 5), some (19, false)⟩),
      (0, ⟨some 22, .iad 2 (.t 20) (.t 21), some (19, false)⟩),
      (0, ⟨some 23, .fad 1 (.t 22), some (19, false)⟩),
      (0, ⟨some 24, .load false [(.i .i64)] (.t 23), some (19, false)⟩),
      (0, ⟨some 25, .mv (.t 1), some (19, false)⟩),
      (1, ⟨some 26, .call (.f 78) [.rd, .rd, .rd] false [.c .b] [(.t 24), (.t 25), (.c (.v (.int .i64 10000)))], some (19, false)⟩),
      (0, ⟨some 27, .un .not (.t 26), some (19, false)⟩),
      (0, ⟨some 28, .pick (.t 19) (.c (.v (.bool true))) (.t 27), none⟩),
      (0, ⟨some 29, .mv (.t 28), none⟩),
      (0, ⟨some 30, .mv (.t 5), some (29, false)⟩),
      (0, ⟨some 31, .bin .gtr (.t 30) (.c (.v (.int .i64 0))), some (29, false)⟩),
      (0, ⟨some 32, .mv (.t 31), some (29, false)⟩),
      (0, ⟨some 33, .mv (.t 0), some (32, true)⟩),
      (0, ⟨some 34, .mv (.t 5), some (32, true)⟩),
      (0, ⟨some 35, .bin .sub (.t 34) (.c (.v (.int .i64 1))), some (32, true)⟩),
      (0, ⟨some 36, .iad 2 (.t 33) (.t 35), some (32, true)⟩),
      (0, ⟨some 37, .fad 0 (.t 36), some (32, true)⟩),
      (0, ⟨some 38, .load false [(.i .i64)] (.t 37), some (32, true)⟩),
      (0, ⟨some 39, .mv (.t 0), some (32, true)⟩),
      (0, ⟨some 40, .mv (.t 5), some (32, true)⟩),
      (0, ⟨some 41, .iad 2 (.t 39) (.t 40), some (32, true)⟩),
      (0, ⟨some 42, .fad 0 (.t 41), some (32, true)⟩),
      (0, ⟨some 43, .load false [(.i .i64)] (.t 42), some (32, true)⟩)] [⟨some 44, .bin .geq (.t 38) (.t 43), some (32, true)⟩,
      ⟨some 45, .pick (.t 32) (.t 44) (.c (.v (.bool false))), some (29, false)⟩,
      ⟨some 46, .pick (.t 29) (.c (.v (.bool true))) (.t 45), none⟩]) (
    .cond (.t 46) (.seq (.reg false [⟨some 4, .mv (.c (.v (.bool false))), none⟩]) (
      .ret)) (.skip)))) (
  .reg false [⟨some 10, .mv (.t 5), none⟩,
    ⟨some 11, .bin .add (.t 10) (.c (.v (.int .i64 1))), none⟩,
    ⟨some 5, .mv (.t 11), none⟩])))
def e79x0 : Exits := [(.ret, [(4, .c .b)]), ((.exit 0), [(0, .c (.sl 2))])]
noncomputable def l79x0 (T : Table) (k : Nat) := loopN (evalC ⟨T, []⟩ k b79x0 (Ex × List AV)) [0, 1, 5] e79x0
def a79 : AFun := ⟨[.rd, .rd], false, [.t 4], (
  .seq (.reg false [⟨some 4, .mv (.c (.v (.bool false))), none⟩]) (
  .seq (.seq (.reg false [⟨some 5, .mv (.c (.v (.int .i64 0))), none⟩]) (
  .block 0 (.loop [0, 1, 5] e79x0 b79x0))) (
  .seq (.reg false [⟨some 47, .mv (.t 0), none⟩,
    ⟨some 48, .len false (.t 47), none⟩,
    ⟨some 49, .bin .leq (.t 48) (.c (.v (.int .i64 80))), none⟩,
    ⟨some 4, .mv (.t 49), none⟩]) (
  .ret))))⟩
theorem l79x0s (T : Table) (k n : Nat) (l3 : Rows) (n4 : Int) (n5 : Int) : l79x0 T k (n + 1) [(.fz 2 l3), (.v (.int .i64 n4)), (.v (.int .i64 n5))] = (
 bif (decide (n5 < (l3.length : Int))) then (
 tst (decide (0 ≤ n5)) (
 look l3 (Int.toNat n5) fun r6 =>
 cI .i64 r6 0 fun n7 =>
 callT T 78 [(.d (.v (.int .i64 n7))), (.d (.v (.int .i64 1))), (.d (.v (.int .i64 1000000)))] fun o8 =>
 oD o8.res fun d9 =>
 dB d9 fun b10 =>
 bif (!b10) == false then (
 tst (decide (0 ≤ n5)) (
 look l3 (Int.toNat n5) fun r11 =>
 cI .i64 r11 1 fun n12 =>
 callT T 78 [(.d (.v (.int .i64 n12))), (.d (.v (.int .i64 n4))), (.d (.v (.int .i64 10000)))] fun o13 =>
 oD o13.res fun d14 =>
 dB d14 fun b15 =>
 bif (!b15) == false then (
 bif (decide (n5 > 0)) == true then (
 tst (decide (0 ≤ (IntKind.wrap .i64 (n5 - 1)))) (
 look l3 (Int.toNat (IntKind.wrap .i64 (n5 - 1))) fun r16 =>
 cI .i64 r16 0 fun n17 =>
 tst (decide (0 ≤ n5)) (
 look l3 (Int.toNat n5) fun r18 =>
 cI .i64 r18 0 fun n19 =>
 bif (decide (n17 ≥ n19)) then (
 some (.ret, [(.v (.bool false))])) else (
 l79x0 T k n [(.fz 2 l3), (.v (.int .i64 n4)), (.v (.int .i64 (IntKind.wrap .i64 (n5 + 1))))])))) else (
 l79x0 T k n [(.fz 2 l3), (.v (.int .i64 n4)), (.v (.int .i64 (IntKind.wrap .i64 (n5 + 1))))])) else (
 some (.ret, [(.v (.bool false))])))) else (
 some (.ret, [(.v (.bool false))])))) else (
 some ((.exit 0), [(.fz 2 l3)]))) := by kernel_rfl
theorem a79q (T : Table) (k : Nat) (l1 : Rows) (n2 : Int) : evalF T k a79 [(.d (.s 2 l1)), (.d (.v (.int .i64 n2)))] = (
 aft (l79x0 T k k [(.fz 2 l1), (.v (.int .i64 n2)), (.v (.int .i64 0))]) fun e20 ys21 =>
 bif e20.same .ret then (
 aV ys21 0 fun x22 =>
 aB x22 fun b23 =>
 some ⟨(.d (.v (.bool b23))), []⟩) else (
 bif e20.same (.exit 0) then (
 aV ys21 0 fun x24 =>
 aL 2 x24 fun l25 =>
 some ⟨(.d (.v (.bool (decide ((l25.length : Int) ≤ 80))))), []⟩) else (
 none))) := by kernel_rfl
/- loop.example/g00119/spec.l4Text -/
def b166x0 : ACode := (
  .seq (.seq (.reg false [⟨some 4, .mv (.t 3), none⟩,
    ⟨some 5, .mv (.t 0), none⟩,
    ⟨some 6, .len true (.t 5), none⟩,
    ⟨some 7, .bin .lss (.t 4) (.t 6), none⟩]) (
  .cond (.t 7) (.skip) (.exit 0))) (
  .seq (.block 1 (.seq (.reg false [⟨some 10, .mv (.t 0), none⟩,
      ⟨some 11, .mv (.t 3), none⟩,
      ⟨some 12, .idx (.t 10) (.t 11), none⟩,
      ⟨some 13, .conv (.int .i64) (.t 12), none⟩,
      ⟨some 14, .call (.f 78) [.rd, .rd, .rd] false [.c .b] [(.t 13), (.c (.v (.int .i64 32))), (.c (.v (.int .i64 126)))], none⟩,
      ⟨some 15, .un .not (.t 14), none⟩]) (
    .cond (.t 15) (.seq (.reg false [⟨some 2, .mv (.c (.v (.bool false))), none⟩]) (
      .ret)) (.skip)))) (
  .reg false [⟨some 8, .mv (.t 3), none⟩,
    ⟨some 9, .bin .add (.t 8) (.c (.v (.int .i64 1))), none⟩,
    ⟨some 3, .mv (.t 9), none⟩])))
def e166x0 : Exits := [(.ret, [(2, .c .b)]), ((.exit 0), [(0, .c .s)])]
noncomputable def l166x0 (T : Table) (k : Nat) := loopN (evalC ⟨T, []⟩ k b166x0 (Ex × List AV)) [0, 3] e166x0
def a166 : AFun := ⟨[.rd], false, [.t 2], (
  .seq (.reg false [⟨some 2, .mv (.c (.v (.bool false))), none⟩]) (
  .seq (.seq (.reg false [⟨some 3, .mv (.c (.v (.int .i64 0))), none⟩]) (
  .block 0 (.loop [0, 3] e166x0 b166x0))) (
  .seq (.reg false [⟨some 16, .mv (.t 0), none⟩,
    ⟨some 17, .len true (.t 16), none⟩,
    ⟨some 18, .bin .leq (.t 17) (.c (.v (.int .i64 100))), none⟩,
    ⟨some 2, .mv (.t 18), none⟩]) (
  .ret))))⟩
theorem l166x0s (T : Table) (k n : Nat) (s2 : ByteArray) (n3 : Int) : l166x0 T k (n + 1) [(.v (.string s2)), (.v (.int .i64 n3))] = (
 bif (decide (n3 < (s2.size : Int))) then (
 tst (decide (0 ≤ n3)) (
 byteAt s2 (Int.toNat n3) fun c4 =>
 callT T 78 [(.d (.v (.int .i64 (IntKind.wrap .i64 (c4.toNat : Int))))), (.d (.v (.int .i64 32))), (.d (.v (.int .i64 126)))] fun o5 =>
 oD o5.res fun d6 =>
 dB d6 fun b7 =>
 bif (!b7) then (
 some (.ret, [(.v (.bool false))])) else (
 l166x0 T k n [(.v (.string s2)), (.v (.int .i64 (IntKind.wrap .i64 (n3 + 1))))]))) else (
 some ((.exit 0), [(.v (.string s2))]))) := by kernel_rfl
theorem a166q (T : Table) (k : Nat) (s1 : ByteArray) : evalF T k a166 [(.d (.v (.string s1)))] = (
 aft (l166x0 T k k [(.v (.string s1)), (.v (.int .i64 0))]) fun e8 ys9 =>
 bif e8.same .ret then (
 aV ys9 0 fun x10 =>
 aB x10 fun b11 =>
 some ⟨(.d (.v (.bool b11))), []⟩) else (
 bif e8.same (.exit 0) then (
 aV ys9 0 fun x12 =>
 aS x12 fun s13 =>
 some ⟨(.d (.v (.bool (decide ((s13.size : Int) ≤ 100))))), []⟩) else (
 none))) := by kernel_rfl
/- loop.example/g00119/spec.l4Keys -/
def b167x0 : ACode := (
  .seq (.seq (.reg false [⟨some 4, .mv (.t 3), none⟩,
    ⟨some 5, .fad 3 (.t 1), none⟩,
    ⟨some 6, .load false [(.sl 1)] (.t 5), none⟩,
    ⟨some 7, .len false (.t 6), none⟩,
    ⟨some 8, .bin .lss (.t 4) (.t 7), none⟩]) (
  .cond (.t 8) (.skip) (.exit 0))) (
  .seq (.block 1 (.seq (.dreg [] [(0, ⟨some 11, .fad 3 (.t 1), none⟩),
      (0, ⟨some 12, .load false [(.sl 1)] (.t 11), none⟩),
      (0, ⟨some 13, .mv (.t 3), none⟩),
      (0, ⟨some 14, .iad 1 (.t 12) (.t 13), none⟩),
      (0, ⟨some 15, .load false [.s] (.t 14), none⟩),
      (1, ⟨some 16, .call (.f 77) [.rd] false [.c .b] [(.t 15)], none⟩),
      (0, ⟨some 17, .un .not (.t 16), none⟩),
      (0, ⟨some 18, .mv (.t 17), none⟩),
      (0, ⟨some 19, .mv (.t 3), some (18, false)⟩),
      (0, ⟨some 20, .bin .gtr (.t 19) (.c (.v (.int .i64 0))), some (18, false)⟩),
      (0, ⟨some 21, .mv (.t 20), some (18, false)⟩),
      (0, ⟨some 22, .fad 3 (.t 1), some (21, true)⟩),
      (0, ⟨some 23, .load false [(.sl 1)] (.t 22), some (21, true)⟩),
      (0, ⟨some 24, .mv (.t 3), some (21, true)⟩),
      (0, ⟨some 25, .bin .sub (.t 24) (.c (.v (.int .i64 1))), some (21, true)⟩),
      (0, ⟨some 26, .iad 1 (.t 23) (.t 25), some (21, true)⟩),
      (0, ⟨some 27, .load false [.s] (.t 26), some (21, true)⟩),
      (0, ⟨some 28, .fad 3 (.t 1), some (21, true)⟩),
      (0, ⟨some 29, .load false [(.sl 1)] (.t 28), some (21, true)⟩),
      (0, ⟨some 30, .mv (.t 3), some (21, true)⟩),
      (0, ⟨some 31, .iad 1 (.t 29) (.t 30), some (21, true)⟩),
      (0, ⟨some 32, .load false [.s] (.t 31), some (21, true)⟩)] [⟨some 33, .bin .geq (.t 27) (.t 32), some (21, true)⟩,
      ⟨some 34, .pick (.t 21) (.t 33) (.c (.v (.bool false))), some (18, false)⟩,
      ⟨some 35, .pick (.t 18) (.c (.v (.bool true))) (.t 34), none⟩]) (
    .cond (.t 35) (.seq (.reg false [⟨some 2, .mv (.c (.v (.bool false))), none⟩]) (
      .ret)) (.skip)))) (
  .reg false [⟨some 9, .mv (.t 3), none⟩,
    ⟨some 10, .bin .add (.t 9) (.c (.v (.int .i64 1))), none⟩,
    ⟨some 3, .mv (.t 10), none⟩])))
def e167x0 : Exits := [(.ret, [(2, .c .b)]), ((.exit 0), [(1, .b [.c (.i .i64), .c .s, .c (.i .i64), .c (.sl 1), .c (.sl 5)])])]
noncomputable def l167x0 (T : Table) (k : Nat) := loopN (evalC ⟨T, []⟩ k b167x0 (Ex × List AV)) [1, 3] e167x0
def a167 : AFun := ⟨[.rd], false, [.t 2], (
  .seq (.reg false [⟨some 1, .box (.t 0), none⟩,
    ⟨some 2, .mv (.c (.v (.bool false))), none⟩]) (
  .seq (.seq (.reg false [⟨some 3, .mv (.c (.v (.int .i64 0))), none⟩]) (
  .block 0 (.loop [1, 3] e167x0 b167x0))) (
  .seq (.reg false [⟨some 36, .fad 3 (.t 1), none⟩,
    ⟨some 37, .load false [(.sl 1)] (.t 36), none⟩,
    ⟨some 38, .len false (.t 37), none⟩,
    ⟨some 39, .fad 4 (.t 1), none⟩,
    ⟨some 40, .load false [(.sl 5)] (.t 39), none⟩,
    ⟨some 41, .len false (.t 40), none⟩,
    ⟨some 42, .bin .eql (.t 38) (.t 41), none⟩,
    ⟨some 2, .mv (.t 42), none⟩]) (
  .ret))))⟩
theorem l167x0s (T : Table) (k n : Nat) (n6 : Int) (s7 : ByteArray) (n8 : Int) (l9 : Rows) (l10 : Rows) (n11 : Int) : l167x0 T k (n + 1) [(.b [(.v (.int .i64 n6)), (.v (.string s7)), (.v (.int .i64 n8)), (.fz 1 l9), (.fz 5 l10)]), (.v (.int .i64 n11))] = (
 bif (decide (n11 < (l9.length : Int))) then (
 tst (decide (0 ≤ n11)) (
 look l9 (Int.toNat n11) fun r12 =>
 cS r12 0 fun s13 =>
 callT T 77 [(.d (.v (.string s13)))] fun o14 =>
 oD o14.res fun d15 =>
 dB d15 fun b16 =>
 bif (!b16) == false then (
 bif (decide (n11 > 0)) == true then (
 tst (decide (0 ≤ (IntKind.wrap .i64 (n11 - 1)))) (
 look l9 (Int.toNat (IntKind.wrap .i64 (n11 - 1))) fun r17 =>
 cS r17 0 fun s18 =>
 tst (decide (0 ≤ n11)) (
 look l9 (Int.toNat n11) fun r19 =>
 cS r19 0 fun s20 =>
 bif (!(bytesLess s18 s20)) then (
 some (.ret, [(.v (.bool false))])) else (
 l167x0 T k n [(.b [(.v (.int .i64 n6)), (.v (.string s7)), (.v (.int .i64 n8)), (.fz 1 l9), (.fz 5 l10)]), (.v (.int .i64 (IntKind.wrap .i64 (n11 + 1))))])))) else (
 l167x0 T k n [(.b [(.v (.int .i64 n6)), (.v (.string s7)), (.v (.int .i64 n8)), (.fz 1 l9), (.fz 5 l10)]), (.v (.int .i64 (IntKind.wrap .i64 (n11 + 1))))])) else (
 some (.ret, [(.v (.bool false))])))) else (
 some ((.exit 0), [(.b [(.v (.int .i64 n6)), (.v (.string s7)), (.v (.int .i64 n8)), (.fz 1 l9), (.fz 5 l10)])]))) := by kernel_rfl
theorem a167q (T : Table) (k : Nat) (n1 : Int) (s2 : ByteArray) (n3 : Int) (l4 : Rows) (l5 : Rows) : evalF T k a167 [(.g [(.v (.int .i64 n1)), (.v (.string s2)), (.v (.int .i64 n3)), (.s 1 l4), (.s 5 l5)])] = (
 aft (l167x0 T k k [(.b [(.v (.int .i64 n1)), (.v (.string s2)), (.v (.int .i64 n3)), (.fz 1 l4), (.fz 5 l5)]), (.v (.int .i64 0))]) fun e21 ys22 =>
 bif e21.same .ret then (
 aV ys22 0 fun x23 =>
 aB x23 fun b24 =>
 some ⟨(.d (.v (.bool b24))), []⟩) else (
 bif e21.same (.exit 0) then (
 aV ys22 0 fun x25 =>
 aX x25 fun xs26 =>
 aV xs26 0 fun x27 =>
 aI .i64 x27 fun n28 =>
 aV xs26 1 fun x29 =>
 aS x29 fun s30 =>
 aV xs26 2 fun x31 =>
 aI .i64 x31 fun n32 =>
 aV xs26 3 fun x33 =>
 aL 1 x33 fun l34 =>
 aV xs26 4 fun x35 =>
 aL 5 x35 fun l36 =>
 some ⟨(.d (.v (.bool ((l34.length : Int) == (l36.length : Int))))), []⟩) else (
 none))) := by kernel_rfl
/- loop.example/g00119/spec.l4Look -/
def b145x0 : ACode := (
  .seq (.seq (.reg false [⟨some 12, .mv (.t 6), none⟩,
    ⟨some 13, .fad 4 (.t 2), none⟩,
    ⟨some 14, .load false [(.sl 5)] (.t 13), none⟩,
    ⟨some 15, .len false (.t 14), none⟩,
    ⟨some 16, .bin .lss (.t 12) (.t 15), none⟩]) (
  .cond (.t 16) (.skip) (.exit 0))) (
  .seq (.block 1 (.seq (.reg false [⟨some 19, .fad 4 (.t 2), none⟩,
      ⟨some 20, .load false [(.sl 5)] (.t 19), none⟩,
      ⟨some 21, .mv (.t 6), none⟩,
      ⟨some 22, .iad 5 (.t 20) (.t 21), none⟩,
      ⟨some 23, .load true [(.i .i64), .s, (.i .i64), (.sl 1), (.sl 5)] (.t 22), none⟩,
      ⟨some 24, .mv (.t 1), none⟩,
      ⟨some 25, .bin .sub (.t 24) (.c (.v (.int .i64 1))), none⟩,
      ⟨some 26, .call (.f 145) [.rd, .rd] false [.c (.i .i64)] [(.t 23), (.t 25)], none⟩,
      ⟨some 7, .mv (.t 26), none⟩]) (
    .seq (.seq (.reg false [⟨some 27, .mv (.t 7), none⟩,
      ⟨some 28, .bin .eql (.t 27) (.c (.v (.int .i64 0))), none⟩,
      ⟨some 29, .mv (.t 28), none⟩,
      ⟨some 30, .mv (.t 5), some (29, false)⟩,
      ⟨some 31, .mv (.t 7), some (29, false)⟩,
      ⟨some 32, .bin .add (.t 30) (.t 31), some (29, false)⟩,
      ⟨some 33, .bin .gtr (.t 32) (.c (.v (.int .i64 300))), some (29, false)⟩,
      ⟨some 34, .pick (.t 29) (.c (.v (.bool true))) (.t 33), none⟩]) (
    .cond (.t 34) (.seq (.reg false [⟨some 4, .mv (.c (.v (.int .i64 0))), none⟩]) (
      .ret)) (.skip))) (
    .reg false [⟨some 35, .mv (.t 5), none⟩,
      ⟨some 36, .mv (.t 7), none⟩,
      ⟨some 37, .bin .add (.t 35) (.t 36), none⟩,
      ⟨some 5, .mv (.t 37), none⟩])))) (
  .reg false [⟨some 17, .mv (.t 6), none⟩,
    ⟨some 18, .bin .add (.t 17) (.c (.v (.int .i64 1))), none⟩,
    ⟨some 6, .mv (.t 18), none⟩])))
def e145x0 : Exits := [(.ret, [(4, .c (.i .i64))]), ((.exit 0), [(2, .b [.c (.i .i64), .c .s, .c (.i .i64), .c (.sl 1), .c (.sl 5)]), (5, .c (.i .i64))])]
noncomputable def l145x0 (T : Table) (k : Nat) := loopN (evalC ⟨T, []⟩ k b145x0 (Ex × List AV)) [1, 2, 5, 6] e145x0
def a145 : AFun := ⟨[.rd, .rd], false, [.t 4], (
  .seq (.reg false [⟨some 2, .box (.t 0), none⟩,
    ⟨some 4, .mv (.c (.v (.int .i64 0))), none⟩]) (
  .seq (.seq (.reg false [⟨some 10, .mv (.t 1), none⟩,
    ⟨some 11, .bin .eql (.t 10) (.c (.v (.int .i64 0))), none⟩]) (
  .cond (.t 11) (.seq (.reg false [⟨some 4, .mv (.c (.v (.int .i64 0))), none⟩]) (
    .ret)) (.skip))) (
  .seq (.reg false [⟨some 5, .mv (.c (.v (.int .i64 1))), none⟩]) (
  .seq (.seq (.reg false [⟨some 6, .mv (.c (.v (.int .i64 0))), none⟩]) (
  .block 0 (.loop [1, 2, 5, 6] e145x0 b145x0))) (
  .seq (.reg false [⟨some 38, .fad 3 (.t 2), none⟩,
    ⟨some 39, .load false [(.sl 1)] (.t 38), none⟩,
    ⟨some 40, .len false (.t 39), none⟩,
    ⟨some 41, .bin .eql (.t 40) (.c (.v (.int .i64 0))), none⟩,
    ⟨some 42, .mv (.t 41), none⟩,
    ⟨some 43, .fad 4 (.t 2), some (42, true)⟩,
    ⟨some 44, .load false [(.sl 5)] (.t 43), some (42, true)⟩,
    ⟨some 45, .len false (.t 44), some (42, true)⟩,
    ⟨some 46, .bin .eql (.t 45) (.c (.v (.int .i64 0))), some (42, true)⟩,
    ⟨some 47, .pick (.t 42) (.t 46) (.c (.v (.bool false))), none⟩,
    ⟨some 8, .mv (.t 47), none⟩]) (
  .seq (.reg false [⟨some 9, .mv (.c (.v (.bool false))), none⟩]) (
  .seq (.seq (.reg false [⟨some 48, .fad 0 (.t 2), none⟩,
    ⟨some 49, .load false [(.i .i64)] (.t 48), none⟩]) (
  .block 2 (.seq (.reg false [⟨some 51, .bin .eql (.t 49) (.c (.v (.int .i64 1))), none⟩,
      ⟨some 50, .mv (.t 51), none⟩]) (
    .cond (.t 50) (.reg false [⟨some 52, .mv (.t 8), none⟩,
        ⟨some 53, .mv (.t 52), none⟩,
        ⟨some 54, .fad 2 (.t 2), some (53, true)⟩,
        ⟨some 55, .load false [(.i .i64)] (.t 54), some (53, true)⟩,
        ⟨some 56, .bin .eql (.t 55) (.c (.v (.int .i64 0))), some (53, true)⟩,
        ⟨some 57, .pick (.t 53) (.t 56) (.c (.v (.bool false))), none⟩,
        ⟨some 58, .mv (.t 57), none⟩,
        ⟨some 59, .fad 1 (.t 2), some (58, true)⟩,
        ⟨some 60, .load false [.s] (.t 59), some (58, true)⟩,
        ⟨some 61, .call (.f 166) [.rd] false [.c .b] [(.t 60)], some (58, true)⟩,
        ⟨some 62, .pick (.t 58) (.t 61) (.c (.v (.bool false))), none⟩,
        ⟨some 9, .mv (.t 62), none⟩]) (.seq (.reg false [⟨some 64, .bin .eql (.t 49) (.c (.v (.int .i64 2))), none⟩,
        ⟨some 63, .mv (.t 64), none⟩]) (
      .cond (.t 63) (.reg false [⟨some 65, .mv (.t 8), none⟩,
          ⟨some 66, .mv (.t 65), none⟩,
          ⟨some 67, .fad 1 (.t 2), some (66, true)⟩,
          ⟨some 68, .load false [.s] (.t 67), some (66, true)⟩,
          ⟨some 69, .bin .eql (.t 68) (.c (.v (.string ({ data := #[] } : ByteArray)))), some (66, true)⟩,
          ⟨some 70, .pick (.t 66) (.t 69) (.c (.v (.bool false))), none⟩,
          ⟨some 9, .mv (.t 70), none⟩]) (.seq (.reg false [⟨some 72, .bin .eql (.t 49) (.c (.v (.int .i64 3))), none⟩,
          ⟨some 71, .mv (.t 72), none⟩]) (
        .cond (.t 71) (.reg false [⟨some 73, .mv (.t 8), none⟩,
            ⟨some 74, .mv (.t 73), none⟩,
            ⟨some 75, .fad 1 (.t 2), some (74, true)⟩,
            ⟨some 76, .load false [.s] (.t 75), some (74, true)⟩,
            ⟨some 77, .bin .eql (.t 76) (.c (.v (.string ({ data := #[] } : ByteArray)))), some (74, true)⟩,
            ⟨some 78, .pick (.t 74) (.t 77) (.c (.v (.bool false))), none⟩,
            ⟨some 79, .mv (.t 78), none⟩,
            ⟨some 80, .fad 2 (.t 2), some (79, true)⟩,
            ⟨some 81, .load false [(.i .i64)] (.t 80), some (79, true)⟩,
            ⟨some 82, .call (.f 78) [.rd, .rd, .rd] false [.c .b] [(.t 81), (.c (.v (.int .i64 0))), (.c (.v (.int .i64 1)))], some (79, true)⟩,
            ⟨some 83, .pick (.t 79) (.t 82) (.c (.v (.bool false))), none⟩,
            ⟨some 9, .mv (.t 83), none⟩]) (.seq (.reg false [⟨some 85, .bin .eql (.t 49) (.c (.v (.int .i64 4))), none⟩,
            ⟨some 84, .mv (.t 85), none⟩]) (
          .cond (.t 84) (.reg false [⟨some 86, .fad 3 (.t 2), none⟩,
              ⟨some 87, .load false [(.sl 1)] (.t 86), none⟩,
              ⟨some 88, .len false (.t 87), none⟩,
              ⟨some 89, .bin .eql (.t 88) (.c (.v (.int .i64 0))), none⟩,
              ⟨some 90, .mv (.t 89), none⟩,
              ⟨some 91, .fad 1 (.t 2), some (90, true)⟩,
              ⟨some 92, .load false [.s] (.t 91), some (90, true)⟩,
              ⟨some 93, .bin .eql (.t 92) (.c (.v (.string ({ data := #[] } : ByteArray)))), some (90, true)⟩,
              ⟨some 94, .pick (.t 90) (.t 93) (.c (.v (.bool false))), none⟩,
              ⟨some 95, .mv (.t 94), none⟩,
              ⟨some 96, .fad 2 (.t 2), some (95, true)⟩,
              ⟨some 97, .load false [(.i .i64)] (.t 96), some (95, true)⟩,
              ⟨some 98, .bin .eql (.t 97) (.c (.v (.int .i64 0))), some (95, true)⟩,
              ⟨some 99, .pick (.t 95) (.t 98) (.c (.v (.bool false))), none⟩,
              ⟨some 9, .mv (.t 99), none⟩]) (.seq (.reg false [⟨some 101, .bin .eql (.t 49) (.c (.v (.int .i64 5))), none⟩,
              ⟨some 100, .mv (.t 101), none⟩]) (
            .cond (.t 100) (.reg false [⟨some 102, .load true [(.i .i64), .s, (.i .i64), (.sl 1), (.sl 5)] (.t 2), none⟩,
                ⟨some 103, .call (.f 167) [.rd] false [.c .b] [(.t 102)], none⟩,
                ⟨some 104, .mv (.t 103), none⟩,
                ⟨some 105, .fad 1 (.t 2), some (104, true)⟩,
                ⟨some 106, .load false [.s] (.t 105), some (104, true)⟩,
                ⟨some 107, .bin .eql (.t 106) (.c (.v (.string ({ data := #[] } : ByteArray)))), some (104, true)⟩,
                ⟨some 108, .pick (.t 104) (.t 107) (.c (.v (.bool false))), none⟩,
                ⟨some 109, .mv (.t 108), none⟩,
                ⟨some 110, .fad 2 (.t 2), some (109, true)⟩,
                ⟨some 111, .load false [(.i .i64)] (.t 110), some (109, true)⟩,
                ⟨some 112, .bin .eql (.t 111) (.c (.v (.int .i64 0))), some (109, true)⟩,
                ⟨some 113, .pick (.t 109) (.t 112) (.c (.v (.bool false))), none⟩,
                ⟨some 9, .mv (.t 113), none⟩]) (.skip))))))))))))) (
  .seq (.seq (.reg false [⟨some 114, .mv (.t 9), none⟩,
    ⟨some 115, .un .not (.t 114), none⟩]) (
  .cond (.t 115) (.seq (.reg false [⟨some 4, .mv (.c (.v (.int .i64 0))), none⟩]) (
    .ret)) (.skip))) (
  .seq (.reg false [⟨some 116, .mv (.t 5), none⟩,
    ⟨some 4, .mv (.t 116), none⟩]) (
  .ret))))))))))⟩
theorem l145x0s (T : Table) (k n : Nat) (n7 : Int) (n8 : Int) (s9 : ByteArray) (n10 : Int) (l11 : Rows) (l12 : Rows) (n13 : Int) (n14 : Int) : l145x0 T k (n + 1) [(.v (.int .i64 n7)), (.b [(.v (.int .i64 n8)), (.v (.string s9)), (.v (.int .i64 n10)), (.fz 1 l11), (.fz 5 l12)]), (.v (.int .i64 n13)), (.v (.int .i64 n14))] = (
 bif (decide (n14 < (l12.length : Int))) then (
 tst (decide (0 ≤ n14)) (
 look l12 (Int.toNat n14) fun r15 =>
 cI .i64 r15 0 fun n16 =>
 cS r15 1 fun s17 =>
 cI .i64 r15 2 fun n18 =>
 cL 1 r15 3 fun l19 =>
 cL 5 r15 4 fun l20 =>
 callT T 145 [(.g [(.v (.int .i64 n16)), (.v (.string s17)), (.v (.int .i64 n18)), (.s 1 l19), (.s 5 l20)]), (.d (.v (.int .i64 (IntKind.wrap .i64 (n7 - 1)))))] fun o21 =>
 oD o21.res fun d22 =>
 dI .i64 d22 fun n23 =>
 bif (n23 == 0) == false then (
 bif (decide ((IntKind.wrap .i64 (n13 + n23)) > 300)) then (
 some (.ret, [(.v (.int .i64 0))])) else (
 l145x0 T k n [(.v (.int .i64 n7)), (.b [(.v (.int .i64 n8)), (.v (.string s9)), (.v (.int .i64 n10)), (.fz 1 l11), (.fz 5 l12)]), (.v (.int .i64 (IntKind.wrap .i64 (n13 + n23)))), (.v (.int .i64 (IntKind.wrap .i64 (n14 + 1))))])) else (
 some (.ret, [(.v (.int .i64 0))])))) else (
 some ((.exit 0), [(.b [(.v (.int .i64 n8)), (.v (.string s9)), (.v (.int .i64 n10)), (.fz 1 l11), (.fz 5 l12)]), (.v (.int .i64 n13))]))) := by kernel_rfl
theorem a145q (T : Table) (k : Nat) (n1 : Int) (s2 : ByteArray) (n3 : Int) (l4 : Rows) (l5 : Rows) (n6 : Int) : evalF T k a145 [(.g [(.v (.int .i64 n1)), (.v (.string s2)), (.v (.int .i64 n3)), (.s 1 l4), (.s 5 l5)]), (.d (.v (.int .i64 n6)))] = (
 bif (n6 == 0) then (
 some ⟨(.d (.v (.int .i64 0))), []⟩) else (
 aft (l145x0 T k k [(.v (.int .i64 n6)), (.b [(.v (.int .i64 n1)), (.v (.string s2)), (.v (.int .i64 n3)), (.fz 1 l4), (.fz 5 l5)]), (.v (.int .i64 1)), (.v (.int .i64 0))]) fun e24 ys25 =>
 bif e24.same .ret then (
 aV ys25 0 fun x26 =>
 aI .i64 x26 fun n27 =>
 some ⟨(.d (.v (.int .i64 n27))), []⟩) else (
 bif e24.same (.exit 0) then (
 aV ys25 0 fun x28 =>
 aX x28 fun xs29 =>
 aV xs29 0 fun x30 =>
 aI .i64 x30 fun n31 =>
 aV xs29 1 fun x32 =>
 aS x32 fun s33 =>
 aV xs29 2 fun x34 =>
 aI .i64 x34 fun n35 =>
 aV xs29 3 fun x36 =>
 aL 1 x36 fun l37 =>
 aV xs29 4 fun x38 =>
 aL 5 x38 fun l39 =>
 aV ys25 1 fun x40 =>
 aI .i64 x40 fun n41 =>
 bif ((l37.length : Int) == 0) == true then (
 bif (n31 == 1) then (
 bif ((l39.length : Int) == 0) == true then (
 bif (n35 == 0) == true then (
 callT T 166 [(.d (.v (.string s33)))] fun o42 =>
 oD o42.res fun d43 =>
 dB d43 fun b44 =>
 bif (!b44) then (
 some ⟨(.d (.v (.int .i64 0))), []⟩) else (
 some ⟨(.d (.v (.int .i64 n41))), []⟩)) else (
 bif (!false) then (
 some ⟨(.d (.v (.int .i64 0))), []⟩) else (
 some ⟨(.d (.v (.int .i64 n41))), []⟩))) else (
 bif (!false) then (
 some ⟨(.d (.v (.int .i64 0))), []⟩) else (
 some ⟨(.d (.v (.int .i64 n41))), []⟩))) else (
 bif (n31 == 2) then (
 bif ((l39.length : Int) == 0) == true then (
 bif (!(bytesEq s33 ({ data := #[] } : ByteArray))) then (
 some ⟨(.d (.v (.int .i64 0))), []⟩) else (
 some ⟨(.d (.v (.int .i64 n41))), []⟩)) else (
 bif (!false) then (
 some ⟨(.d (.v (.int .i64 0))), []⟩) else (
 some ⟨(.d (.v (.int .i64 n41))), []⟩))) else (
 bif (n31 == 3) then (
 bif ((l39.length : Int) == 0) == true then (
 bif (bytesEq s33 ({ data := #[] } : ByteArray)) == true then (
 callT T 78 [(.d (.v (.int .i64 n35))), (.d (.v (.int .i64 0))), (.d (.v (.int .i64 1)))] fun o45 =>
 oD o45.res fun d46 =>
 dB d46 fun b47 =>
 bif (!b47) then (
 some ⟨(.d (.v (.int .i64 0))), []⟩) else (
 some ⟨(.d (.v (.int .i64 n41))), []⟩)) else (
 bif (!false) then (
 some ⟨(.d (.v (.int .i64 0))), []⟩) else (
 some ⟨(.d (.v (.int .i64 n41))), []⟩))) else (
 bif (!false) then (
 some ⟨(.d (.v (.int .i64 0))), []⟩) else (
 some ⟨(.d (.v (.int .i64 n41))), []⟩))) else (
 bif (n31 == 4) then (
 bif ((l37.length : Int) == 0) == true then (
 bif (bytesEq s33 ({ data := #[] } : ByteArray)) == true then (
 bif (!(n35 == 0)) then (
 some ⟨(.d (.v (.int .i64 0))), []⟩) else (
 some ⟨(.d (.v (.int .i64 n41))), []⟩)) else (
 bif (!false) then (
 some ⟨(.d (.v (.int .i64 0))), []⟩) else (
 some ⟨(.d (.v (.int .i64 n41))), []⟩))) else (
 bif (!false) then (
 some ⟨(.d (.v (.int .i64 0))), []⟩) else (
 some ⟨(.d (.v (.int .i64 n41))), []⟩))) else (
 bif (n31 == 5) then (
 callT T 167 [(.g [(.v (.int .i64 n31)), (.v (.string s33)), (.v (.int .i64 n35)), (.s 1 l37), (.s 5 l39)])] fun o48 =>
 oD o48.res fun d49 =>
 dB d49 fun b50 =>
 bif b50 == true then (
 bif (bytesEq s33 ({ data := #[] } : ByteArray)) == true then (
 bif (!(n35 == 0)) then (
 some ⟨(.d (.v (.int .i64 0))), []⟩) else (
 some ⟨(.d (.v (.int .i64 n41))), []⟩)) else (
 bif (!false) then (
 some ⟨(.d (.v (.int .i64 0))), []⟩) else (
 some ⟨(.d (.v (.int .i64 n41))), []⟩))) else (
 bif (!false) then (
 some ⟨(.d (.v (.int .i64 0))), []⟩) else (
 some ⟨(.d (.v (.int .i64 n41))), []⟩))) else (
 bif (!false) then (
 some ⟨(.d (.v (.int .i64 0))), []⟩) else (
 some ⟨(.d (.v (.int .i64 n41))), []⟩))))))) else (
 bif (n31 == 1) then (
 bif (!false) then (
 some ⟨(.d (.v (.int .i64 0))), []⟩) else (
 some ⟨(.d (.v (.int .i64 n41))), []⟩)) else (
 bif (n31 == 2) then (
 bif (!false) then (
 some ⟨(.d (.v (.int .i64 0))), []⟩) else (
 some ⟨(.d (.v (.int .i64 n41))), []⟩)) else (
 bif (n31 == 3) then (
 bif (!false) then (
 some ⟨(.d (.v (.int .i64 0))), []⟩) else (
 some ⟨(.d (.v (.int .i64 n41))), []⟩)) else (
 bif (n31 == 4) then (
 bif ((l37.length : Int) == 0) == true then (
 bif (bytesEq s33 ({ data := #[] } : ByteArray)) == true then (
 bif (!(n35 == 0)) then (
 some ⟨(.d (.v (.int .i64 0))), []⟩) else (
 some ⟨(.d (.v (.int .i64 n41))), []⟩)) else (
 bif (!false) then (
 some ⟨(.d (.v (.int .i64 0))), []⟩) else (
 some ⟨(.d (.v (.int .i64 n41))), []⟩))) else (
 bif (!false) then (
 some ⟨(.d (.v (.int .i64 0))), []⟩) else (
 some ⟨(.d (.v (.int .i64 n41))), []⟩))) else (
 bif (n31 == 5) then (
 callT T 167 [(.g [(.v (.int .i64 n31)), (.v (.string s33)), (.v (.int .i64 n35)), (.s 1 l37), (.s 5 l39)])] fun o51 =>
 oD o51.res fun d52 =>
 dB d52 fun b53 =>
 bif b53 == true then (
 bif (bytesEq s33 ({ data := #[] } : ByteArray)) == true then (
 bif (!(n35 == 0)) then (
 some ⟨(.d (.v (.int .i64 0))), []⟩) else (
 some ⟨(.d (.v (.int .i64 n41))), []⟩)) else (
 bif (!false) then (
 some ⟨(.d (.v (.int .i64 0))), []⟩) else (
 some ⟨(.d (.v (.int .i64 n41))), []⟩))) else (
 bif (!false) then (
 some ⟨(.d (.v (.int .i64 0))), []⟩) else (
 some ⟨(.d (.v (.int .i64 n41))), []⟩))) else (
 bif (!false) then (
 some ⟨(.d (.v (.int .i64 0))), []⟩) else (
 some ⟨(.d (.v (.int .i64 n41))), []⟩)))))))) else (
 none)))) := by kernel_rfl
/- loop.example/g00119/spec.ValueOk -/

def a122 : AFun := ⟨[.rd], false, [.t 2], (
  .seq (.reg false [⟨some 1, .box (.t 0), none⟩,
    ⟨some 2, .mv (.c (.v (.bool false))), none⟩]) (
  .seq (.reg false [⟨some 3, .load true [(.i .i64), .s, (.i .i64), (.sl 1), (.sl 5)] (.t 1), none⟩,
    ⟨some 4, .call (.f 145) [.rd, .rd] false [.c (.i .i64)] [(.t 3), (.c (.v (.int .i64 6)))], none⟩,
    ⟨some 5, .bin .gtr (.t 4) (.c (.v (.int .i64 0))), none⟩,
    ⟨some 2, .mv (.t 5), none⟩]) (
  .ret)))⟩

theorem a122q (T : Table) (k : Nat) (n1 : Int) (s2 : ByteArray) (n3 : Int) (l4 : Rows) (l5 : Rows) : evalF T k a122 [(.g [(.v (.int .i64 n1)), (.v (.string s2)), (.v (.int .i64 n3)), (.s 1 l4), (.s 5 l5)])] = (
 callT T 145 [(.g [(.v (.int .i64 n1)), (.v (.string s2)), (.v (.int .i64 n3)), (.s 1 l4), (.s 5 l5)]), (.d (.v (.int .i64 6)))] fun o6 =>
 oD o6.res fun d7 =>
 dI .i64 d7 fun n8 =>
 some ⟨(.d (.v (.bool (decide (n8 > 0))))), []⟩) := by kernel_rfl
/- loop.example/g00119/spec.WorksOk -/
def b80x0 : ACode := (
  .seq (.seq (.reg false [⟨some 5, .mv (.t 3), none⟩,
    ⟨some 6, .mv (.t 0), none⟩,
    ⟨some 7, .len false (.t 6), none⟩,
    ⟨some 8, .bin .lss (.t 5) (.t 7), none⟩]) (
  .cond (.t 8) (.skip) (.exit 0))) (
  .seq (.block 1 (.seq (.reg false [⟨some 11, .mv (.t 0), none⟩,
      ⟨some 12, .mv (.t 3), none⟩,
      ⟨some 13, .iad 7 (.t 11) (.t 12), none⟩,
      ⟨some 14, .load true [(.i .i64), (.i .i64), (.i .i64), .s, (.i .i64), (.sl 1), (.sl 5)] (.t 13), none⟩,
      ⟨some 4, .alloc [(.v (.int .i64 0)), (.v (.int .i64 0)), (.v (.int .i64 0)), (.v (.string ByteArray.empty)), (.v (.int .i64 0)), (.s 1 []), (.s 5 [])], none⟩,
      ⟨none, .store 7 (.t 4) (.t 14), none⟩]) (
    .seq (.dreg [] [(0, ⟨some 15, .fad 0 (.t 4), none⟩),
      (0, ⟨some 16, .load false [(.i .i64)] (.t 15), none⟩),
      (1, ⟨some 17, .call (.f 78) [.rd, .rd, .rd] false [.c .b] [(.t 16), (.c (.v (.int .i64 1))), (.c (.v (.int .i64 1000000)))], none⟩),
      (0, ⟨some 18, .un .not (.t 17), none⟩),
      (0, ⟨some 19, .mv (.t 18), none⟩),
      (0, ⟨some 20, .fad 1 (.t 4), some (19, false)⟩),
      (0, ⟨some 21, .load false [(.i .i64)] (.t 20), some (19, false)⟩),
      (1, ⟨some 22, .call (.f 78) [.rd, .rd, .rd] false [.c .b] [(.t 21), (.c (.v (.int .i64 1))), (.c (.v (.int .i64 10000)))], some (19, false)⟩),
      (0, ⟨some 23, .un .not (.t 22), some (19, false)⟩),
      (0, ⟨some 24, .pick (.t 19) (.c (.v (.bool true))) (.t 23), none⟩),
      (0, ⟨some 25, .mv (.t 24), none⟩),
      (0, ⟨some 26, .fad 2 (.t 4), some (25, false)⟩),
      (0, ⟨some 27, .load true [(.i .i64), .s, (.i .i64), (.sl 1), (.sl 5)] (.t 26), some (25, false)⟩),
      (1, ⟨some 28, .call (.f 122) [.rd] false [.c .b] [(.t 27)], some (25, false)⟩),
      (0, ⟨some 29, .un .not (.t 28), some (25, false)⟩),
      (0, ⟨some 30, .pick (.t 25) (.c (.v (.bool true))) (.t 29), none⟩),
      (0, ⟨some 31, .mv (.t 30), none⟩),
      (0, ⟨some 32, .mv (.t 3), some (31, false)⟩),
      (0, ⟨some 33, .bin .gtr (.t 32) (.c (.v (.int .i64 0))), some (31, false)⟩),
      (0, ⟨some 34, .mv (.t 33), some (31, false)⟩),
      (0, ⟨some 35, .mv (.t 0), some (34, true)⟩),
      (0, ⟨some 36, .mv (.t 3), some (34, true)⟩),
      (0, ⟨some 37, .bin .sub (.t 36) (.c (.v (.int .i64 1))), some (34, true)⟩),
      (0, ⟨some 38, .iad 7 (.t 35) (.t 37), some (34, true)⟩),
      (0, ⟨some 39, .fad 0 (.t 38), some (34, true)⟩),
      (0, ⟨some 40, .load false [(.i .i64)] (.t 39), some (34, true)⟩),
      (0, ⟨some 41, .fad 0 (.t 4), some (34, true)⟩),
      (0, ⟨some 42, .load false [(.i .i64)] (.t 41), some (34, true)⟩)] [⟨some 43, .bin .geq (.t 40) (.t 42), some (34, true)⟩,
      ⟨some 44, .pick (.t 34) (.t 43) (.c (.v (.bool false))), some (31, false)⟩,
      ⟨some 45, .pick (.t 31) (.c (.v (.bool true))) (.t 44), none⟩]) (
    .cond (.t 45) (.seq (.reg false [⟨some 2, .mv (.c (.v (.bool false))), none⟩]) (
      .ret)) (.skip))))) (
  .reg false [⟨some 9, .mv (.t 3), none⟩,
    ⟨some 10, .bin .add (.t 9) (.c (.v (.int .i64 1))), none⟩,
    ⟨some 3, .mv (.t 10), none⟩])))
def e80x0 : Exits := [(.ret, [(2, .c .b)]), ((.exit 0), [(0, .c (.sl 7))])]
noncomputable def l80x0 (T : Table) (k : Nat) := loopN (evalC ⟨T, []⟩ k b80x0 (Ex × List AV)) [0, 3] e80x0
def a80 : AFun := ⟨[.rd], false, [.t 2], (
  .seq (.reg false [⟨some 2, .mv (.c (.v (.bool false))), none⟩]) (
  .seq (.seq (.reg false [⟨some 3, .mv (.c (.v (.int .i64 0))), none⟩]) (
  .block 0 (.loop [0, 3] e80x0 b80x0))) (
  .seq (.reg false [⟨some 46, .mv (.t 0), none⟩,
    ⟨some 47, .len false (.t 46), none⟩,
    ⟨some 48, .bin .leq (.t 47) (.c (.v (.int .i64 40))), none⟩,
    ⟨some 2, .mv (.t 48), none⟩]) (
  .ret))))⟩
theorem l80x0s (T : Table) (k n : Nat) (l2 : Rows) (n3 : Int) : l80x0 T k (n + 1) [(.fz 7 l2), (.v (.int .i64 n3))] = (
 bif (decide (n3 < (l2.length : Int))) then (
 tst (decide (0 ≤ n3)) (
 look l2 (Int.toNat n3) fun r4 =>
 cI .i64 r4 0 fun n5 =>
 cI .i64 r4 1 fun n6 =>
 cI .i64 r4 2 fun n7 =>
 cS r4 3 fun s8 =>
 cI .i64 r4 4 fun n9 =>
 cL 1 r4 5 fun l10 =>
 cL 5 r4 6 fun l11 =>
 callT T 78 [(.d (.v (.int .i64 n5))), (.d (.v (.int .i64 1))), (.d (.v (.int .i64 1000000)))] fun o12 =>
 oD o12.res fun d13 =>
 dB d13 fun b14 =>
 bif (!b14) == false then (
 callT T 78 [(.d (.v (.int .i64 n6))), (.d (.v (.int .i64 1))), (.d (.v (.int .i64 10000)))] fun o15 =>
 oD o15.res fun d16 =>
 dB d16 fun b17 =>
 bif (!b17) == false then (
 callT T 122 [(.g [(.v (.int .i64 n7)), (.v (.string s8)), (.v (.int .i64 n9)), (.s 1 l10), (.s 5 l11)])] fun o18 =>
 oD o18.res fun d19 =>
 dB d19 fun b20 =>
 bif (!b20) == false then (
 bif (decide (n3 > 0)) == true then (
 tst (decide (0 ≤ (IntKind.wrap .i64 (n3 - 1)))) (
 look l2 (Int.toNat (IntKind.wrap .i64 (n3 - 1))) fun r21 =>
 cI .i64 r21 0 fun n22 =>
 bif (decide (n22 ≥ n5)) then (
 some (.ret, [(.v (.bool false))])) else (
 l80x0 T k n [(.fz 7 l2), (.v (.int .i64 (IntKind.wrap .i64 (n3 + 1))))]))) else (
 l80x0 T k n [(.fz 7 l2), (.v (.int .i64 (IntKind.wrap .i64 (n3 + 1))))])) else (
 some (.ret, [(.v (.bool false))]))) else (
 some (.ret, [(.v (.bool false))]))) else (
 some (.ret, [(.v (.bool false))])))) else (
 some ((.exit 0), [(.fz 7 l2)]))) := by kernel_rfl
theorem a80q (T : Table) (k : Nat) (l1 : Rows) : evalF T k a80 [(.d (.s 7 l1))] = (
 aft (l80x0 T k k [(.fz 7 l1), (.v (.int .i64 0))]) fun e23 ys24 =>
 bif e23.same .ret then (
 aV ys24 0 fun x25 =>
 aB x25 fun b26 =>
 some ⟨(.d (.v (.bool b26))), []⟩) else (
 bif e23.same (.exit 0) then (
 aV ys24 0 fun x27 =>
 aL 7 x27 fun l28 =>
 some ⟨(.d (.v (.bool (decide ((l28.length : Int) ≤ 40))))), []⟩) else (
 none))) := by kernel_rfl
/- loop.example/g00119/spec.MsgOk -/

def a34 : AFun := ⟨[.rd], false, [.t 2], (
  .seq (.reg false [⟨some 1, .box (.t 0), none⟩,
    ⟨some 2, .mv (.c (.v (.bool false))), none⟩]) (
  .seq (.block 0 (.seq (.reg false [⟨some 4, .fad 1 (.t 1), none⟩,
      ⟨some 5, .load false [.s] (.t 4), none⟩,
      ⟨some 6, .call (.f 77) [.rd] false [.c .b] [(.t 5)], none⟩,
      ⟨some 7, .un .not (.t 6), none⟩,
      ⟨some 3, .mv (.t 7), none⟩]) (
    .cond (.t 3) (.seq (.reg false [⟨some 2, .mv (.c (.v (.bool false))), none⟩]) (
      .ret)) (.seq (.reg false [⟨some 9, .fad 0 (.t 1), none⟩,
        ⟨some 10, .load false [(.i .i64)] (.t 9), none⟩,
        ⟨some 11, .bin .eql (.t 10) (.c (.v (.int .i64 1))), none⟩,
        ⟨some 8, .mv (.t 11), none⟩]) (
      .cond (.t 8) (.seq (.reg false [⟨some 12, .fad 2 (.t 1), none⟩,
          ⟨some 13, .load false [(.i .i64)] (.t 12), none⟩,
          ⟨some 14, .call (.f 78) [.rd, .rd, .rd] false [.c .b] [(.t 13), (.c (.v (.int .i64 0))), (.c (.v (.int .i64 1000000)))], none⟩,
          ⟨some 15, .mv (.t 14), none⟩,
          ⟨some 16, .fad 4 (.t 1), some (15, true)⟩,
          ⟨some 17, .load false [(.sl 2)] (.t 16), some (15, true)⟩,
          ⟨some 18, .call (.f 79) [.rd, .rd] false [.c .b] [(.t 17), (.c (.v (.int .i64 0)))], some (15, true)⟩,
          ⟨some 19, .pick (.t 15) (.t 18) (.c (.v (.bool false))), none⟩,
          ⟨some 20, .mv (.t 19), none⟩,
          ⟨some 21, .fad 3 (.t 1), some (20, true)⟩,
          ⟨some 22, .load false [(.sl 7)] (.t 21), some (20, true)⟩,
          ⟨some 23, .len false (.t 22), some (20, true)⟩,
          ⟨some 24, .bin .eql (.t 23) (.c (.v (.int .i64 0))), some (20, true)⟩,
          ⟨some 25, .pick (.t 20) (.t 24) (.c (.v (.bool false))), none⟩,
          ⟨some 2, .mv (.t 25), none⟩]) (
        .ret)) (.seq (.reg false [⟨some 27, .fad 0 (.t 1), none⟩,
          ⟨some 28, .load false [(.i .i64)] (.t 27), none⟩,
          ⟨some 29, .bin .eql (.t 28) (.c (.v (.int .i64 2))), none⟩,
          ⟨some 26, .mv (.t 29), none⟩]) (
        .cond (.t 26) (.seq (.reg false [⟨some 30, .fad 2 (.t 1), none⟩,
            ⟨some 31, .load false [(.i .i64)] (.t 30), none⟩,
            ⟨some 32, .call (.f 78) [.rd, .rd, .rd] false [.c .b] [(.t 31), (.c (.v (.int .i64 1))), (.c (.v (.int .i64 1000000)))], none⟩,
            ⟨some 33, .mv (.t 32), none⟩,
            ⟨some 34, .fad 3 (.t 1), some (33, true)⟩,
            ⟨some 35, .load false [(.sl 7)] (.t 34), some (33, true)⟩,
            ⟨some 36, .call (.f 80) [.rd] false [.c .b] [(.t 35)], some (33, true)⟩,
            ⟨some 37, .pick (.t 33) (.t 36) (.c (.v (.bool false))), none⟩,
            ⟨some 38, .mv (.t 37), none⟩,
            ⟨some 39, .fad 4 (.t 1), some (38, true)⟩,
            ⟨some 40, .load false [(.sl 2)] (.t 39), some (38, true)⟩,
            ⟨some 41, .len false (.t 40), some (38, true)⟩,
            ⟨some 42, .bin .eql (.t 41) (.c (.v (.int .i64 0))), some (38, true)⟩,
            ⟨some 43, .pick (.t 38) (.t 42) (.c (.v (.bool false))), none⟩,
            ⟨some 2, .mv (.t 43), none⟩]) (
          .ret)) (.skip)))))))) (
  .seq (.reg false [⟨some 2, .mv (.c (.v (.bool false))), none⟩]) (
  .ret))))⟩

theorem a34q (T : Table) (k : Nat) (n1 : Int) (s2 : ByteArray) (n3 : Int) (l4 : Rows) (l5 : Rows) : evalF T k a34 [(.g [(.v (.int .i64 n1)), (.v (.string s2)), (.v (.int .i64 n3)), (.s 7 l4), (.s 2 l5)])] = (
 callT T 77 [(.d (.v (.string s2)))] fun o6 =>
 oD o6.res fun d7 =>
 dB d7 fun b8 =>
 bif (!b8) then (
 some ⟨(.d (.v (.bool false))), []⟩) else (
 bif (n1 == 1) then (
 callT T 78 [(.d (.v (.int .i64 n3))), (.d (.v (.int .i64 0))), (.d (.v (.int .i64 1000000)))] fun o9 =>
 oD o9.res fun d10 =>
 dB d10 fun b11 =>
 bif b11 == true then (
 callT T 79 [(.d (.s 2 l5)), (.d (.v (.int .i64 0)))] fun o12 =>
 oD o12.res fun d13 =>
 dB d13 fun b14 =>
 bif b14 == true then (
 some ⟨(.d (.v (.bool ((l4.length : Int) == 0)))), []⟩) else (
 some ⟨(.d (.v (.bool false))), []⟩)) else (
 some ⟨(.d (.v (.bool false))), []⟩)) else (
 bif (n1 == 2) then (
 callT T 78 [(.d (.v (.int .i64 n3))), (.d (.v (.int .i64 1))), (.d (.v (.int .i64 1000000)))] fun o15 =>
 oD o15.res fun d16 =>
 dB d16 fun b17 =>
 bif b17 == true then (
 callT T 80 [(.d (.s 7 l4))] fun o18 =>
 oD o18.res fun d19 =>
 dB d19 fun b20 =>
 bif b20 == true then (
 some ⟨(.d (.v (.bool ((l5.length : Int) == 0)))), []⟩) else (
 some ⟨(.d (.v (.bool false))), []⟩)) else (
 some ⟨(.d (.v (.bool false))), []⟩)) else (
 some ⟨(.d (.v (.bool false))), []⟩)))) := by kernel_rfl
/- loop.example/g00119/spec.l4Copy -/
def b123x0 : ACode := (
  .seq (.seq (.reg false [⟨some 16, .mv (.t 4), none⟩,
    ⟨some 17, .fad 4 (.t 1), none⟩,
    ⟨some 18, .load false [(.sl 5)] (.t 17), none⟩,
    ⟨some 19, .len false (.t 18), none⟩,
    ⟨some 20, .bin .lss (.t 16) (.t 19), none⟩]) (
  .cond (.t 20) (.skip) (.exit 0))) (
  .seq (.block 1 (.dreg [(3, 4, [(.sl 5)])] [(0, ⟨some 23, .fad 4 (.t 3), none⟩),
      (0, ⟨some 24, .load false [(.sl 5)] (.t 23), none⟩),
      (0, ⟨some 25, .fad 4 (.t 1), none⟩),
      (0, ⟨some 26, .load false [(.sl 5)] (.t 25), none⟩),
      (0, ⟨some 27, .mv (.t 4), none⟩),
      (0, ⟨some 28, .iad 5 (.t 26) (.t 27), none⟩),
      (0, ⟨some 29, .load true [(.i .i64), .s, (.i .i64), (.sl 1), (.sl 5)] (.t 28), none⟩),
      (1, ⟨some 30, .call (.f 123) [.rd] false [.g [(.i .i64), .s, (.i .i64), (.sl 1), (.sl 5)]] [(.t 29)], none⟩),
      (1, ⟨some 31, .lit 5 ([[(.v (.int .i64 0)), (.v (.string ByteArray.empty)), (.v (.int .i64 0)), (.s 1 []), (.s 5 [])]] : Rows) [(0, (.t 30))], none⟩)] [⟨some 32, .app 5 80 (.t 24) (.t 31), none⟩,
      ⟨some 33, .fad 4 (.t 3), none⟩,
      ⟨none, .store 1 (.t 33) (.t 32), none⟩])) (
  .reg false [⟨some 21, .mv (.t 4), none⟩,
    ⟨some 22, .bin .add (.t 21) (.c (.v (.int .i64 1))), none⟩,
    ⟨some 4, .mv (.t 22), none⟩])))
def e123x0 : Exits := [((.exit 0), [(2, .b [.c (.i .i64), .c .s, .c (.i .i64), .o 1, .o 5]), (3, .b [.c (.i .i64), .c .s, .c (.i .i64), .o 1, .o 5])])]
noncomputable def l123x0 (T : Table) (k : Nat) := loopN (evalC ⟨T, []⟩ k b123x0 (Ex × List AV)) [1, 2, 3, 4] e123x0
def a123 : AFun := ⟨[.rd], false, [.c 2 true [(.i .i64), .s, (.i .i64), (.sl 1), (.sl 5)]], (
  .seq (.reg false [⟨some 1, .box (.t 0), none⟩,
    ⟨some 2, .alloc [(.v (.int .i64 0)), (.v (.string ByteArray.empty)), (.v (.int .i64 0)), (.s 1 []), (.s 5 [])], none⟩]) (
  .seq (.dreg [] [(0, ⟨some 5, .fad 0 (.t 1), none⟩),
    (0, ⟨some 6, .load false [(.i .i64)] (.t 5), none⟩),
    (0, ⟨some 7, .fad 1 (.t 1), none⟩),
    (0, ⟨some 8, .load false [.s] (.t 7), none⟩),
    (0, ⟨some 9, .fad 2 (.t 1), none⟩),
    (0, ⟨some 10, .load false [(.i .i64)] (.t 9), none⟩),
    (0, ⟨some 11, .lit 1 ([] : Rows) [], none⟩),
    (0, ⟨some 12, .fad 3 (.t 1), none⟩),
    (0, ⟨some 13, .load false [(.sl 1)] (.t 12), none⟩),
    (1, ⟨some 14, .app 1 16 (.t 11) (.t 13), none⟩),
    (0, ⟨some 15, .build [(.v (.int .i64 0)), (.v (.string ByteArray.empty)), (.v (.int .i64 0)), (.s 1 []), (.s 5 [])] [(0, 1, (.t 6)), (1, 1, (.t 8)), (2, 1, (.t 10)), (3, 1, (.t 14))], none⟩),
    (2, ⟨some 3, .alloc [(.v (.int .i64 0)), (.v (.string ByteArray.empty)), (.v (.int .i64 0)), (.s 1 []), (.s 5 [])], none⟩)] [⟨none, .store 5 (.t 3) (.t 15), none⟩]) (
  .seq (.seq (.reg false [⟨some 4, .mv (.c (.v (.int .i64 0))), none⟩]) (
  .block 0 (.loop [1, 2, 3, 4] e123x0 b123x0))) (
  .seq (.reg false [⟨some 34, .load true [(.i .i64), .s, (.i .i64), (.sl 1), (.sl 5)] (.t 3), none⟩,
    ⟨none, .store 5 (.t 2) (.t 34), none⟩]) (
  .ret)))))⟩
theorem l123x0s (T : Table) (k n : Nat) (n6 : Int) (s7 : ByteArray) (n8 : Int) (l9 : Rows) (l10 : Rows) (n11 : Int) (s12 : ByteArray) (n13 : Int) (l14 : Rows) (l15 : Rows) (n16 : Int) (s17 : ByteArray) (n18 : Int) (l19 : Rows) (l20 : Rows) (n21 : Int) : l123x0 T k (n + 1) [(.b [(.v (.int .i64 n6)), (.v (.string s7)), (.v (.int .i64 n8)), (.fz 1 l9), (.fz 5 l10)]), (.b [(.v (.int .i64 n11)), (.v (.string s12)), (.v (.int .i64 n13)), (.o 1 l14), (.o 5 l15)]), (.b [(.v (.int .i64 n16)), (.v (.string s17)), (.v (.int .i64 n18)), (.o 1 l19), (.o 5 l20)]), (.v (.int .i64 n21))] = (
 bif (decide (n21 < (l10.length : Int))) then (
 tst (decide (0 ≤ n21)) (
 look l10 (Int.toNat n21) fun r22 =>
 cI .i64 r22 0 fun n23 =>
 cS r22 1 fun s24 =>
 cI .i64 r22 2 fun n25 =>
 cL 1 r22 3 fun l26 =>
 cL 5 r22 4 fun l27 =>
 callT T 123 [(.g [(.v (.int .i64 n23)), (.v (.string s24)), (.v (.int .i64 n25)), (.s 1 l26), (.s 5 l27)])] fun o28 =>
 oG o28.res fun r29 =>
 tst (Nat.beq r29.length 5) (
 cI .i64 r29 0 fun n30 =>
 cS r29 1 fun s31 =>
 cI .i64 r29 2 fun n32 =>
 cL 1 r29 3 fun l33 =>
 cL 5 r29 4 fun l34 =>
 tst (decide ((l20.length + ([[(.v (.int .i64 n30)), (.v (.string s31)), (.v (.int .i64 n32)), hole, hole]] : Rows).length) * 80 ≤ maxBytes)) (
 l123x0 T k n [(.b [(.v (.int .i64 n6)), (.v (.string s7)), (.v (.int .i64 n8)), (.fz 1 l9), (.fz 5 l10)]), (.b [(.v (.int .i64 n11)), (.v (.string s12)), (.v (.int .i64 n13)), (.o 1 l14), (.o 5 l15)]), (.b [(.v (.int .i64 n16)), (.v (.string s17)), (.v (.int .i64 n18)), (.o 1 l19), (.o 5 (setD (setD (l20 ++ ([[(.v (.int .i64 n30)), (.v (.string s31)), (.v (.int .i64 n32)), hole, hole]] : Rows)) (0 + l20.length) 4 (.s 5 l34)) (0 + l20.length) 3 (.s 1 l33)))]), (.v (.int .i64 (IntKind.wrap .i64 (n21 + 1))))])))) else (
 some ((.exit 0), [(.b [(.v (.int .i64 n11)), (.v (.string s12)), (.v (.int .i64 n13)), (.o 1 l14), (.o 5 l15)]), (.b [(.v (.int .i64 n16)), (.v (.string s17)), (.v (.int .i64 n18)), (.o 1 l19), (.o 5 l20)])]))) := by kernel_rfl
theorem a123q (T : Table) (k : Nat) (n1 : Int) (s2 : ByteArray) (n3 : Int) (l4 : Rows) (l5 : Rows) : evalF T k a123 [(.g [(.v (.int .i64 n1)), (.v (.string s2)), (.v (.int .i64 n3)), (.s 1 l4), (.s 5 l5)])] = (
 tst (flatRows l4) (
 tst (decide ((([] : Rows).length + l4.length) * 16 ≤ maxBytes)) (
 aft (l123x0 T k k [(.b [(.v (.int .i64 n1)), (.v (.string s2)), (.v (.int .i64 n3)), (.fz 1 l4), (.fz 5 l5)]), (.b [(.v (.int .i64 0)), (.v (.string ByteArray.empty)), (.v (.int .i64 0)), (.o 1 []), (.o 5 [])]), (.b [(.v (.int .i64 n1)), (.v (.string s2)), (.v (.int .i64 n3)), (.o 1 (([] : Rows) ++ l4)), (.o 5 [])]), (.v (.int .i64 0))]) fun e35 ys36 =>
 bif e35.same (.exit 0) then (
 aV ys36 0 fun x37 =>
 aX x37 fun xs38 =>
 aV xs38 0 fun x39 =>
 aI .i64 x39 fun n40 =>
 aV xs38 1 fun x41 =>
 aS x41 fun s42 =>
 aV xs38 2 fun x43 =>
 aI .i64 x43 fun n44 =>
 aV xs38 3 fun x45 =>
 aO 1 x45 fun l46 =>
 aV xs38 4 fun x47 =>
 aO 5 x47 fun l48 =>
 aV ys36 1 fun x49 =>
 aX x49 fun xs50 =>
 aV xs50 0 fun x51 =>
 aI .i64 x51 fun n52 =>
 aV xs50 1 fun x53 =>
 aS x53 fun s54 =>
 aV xs50 2 fun x55 =>
 aI .i64 x55 fun n56 =>
 aV xs50 3 fun x57 =>
 aO 1 x57 fun l58 =>
 aV xs50 4 fun x59 =>
 aO 5 x59 fun l60 =>
 some ⟨(.g [(.v (.int .i64 n52)), (.v (.string s54)), (.v (.int .i64 n56)), (.s 1 l58), (.s 5 l60)]), []⟩) else (
 none)))) := by kernel_rfl
/- loop.example/g00119/spec.l12Works -/
def b81x0 : ACode := (
  .seq (.seq (.reg false [⟨some 6, .mv (.t 4), none⟩,
    ⟨some 7, .mv (.t 0), none⟩,
    ⟨some 8, .len false (.t 7), none⟩,
    ⟨some 9, .bin .lss (.t 6) (.t 8), none⟩]) (
  .cond (.t 9) (.skip) (.exit 0))) (
  .seq (.block 1 (.dreg [] [(0, ⟨some 12, .mv (.t 3), none⟩),
      (0, ⟨some 13, .mv (.t 0), none⟩),
      (0, ⟨some 14, .mv (.t 4), none⟩),
      (0, ⟨some 15, .iad 7 (.t 13) (.t 14), none⟩),
      (0, ⟨some 16, .fad 0 (.t 15), none⟩),
      (0, ⟨some 17, .load false [(.i .i64)] (.t 16), none⟩),
      (0, ⟨some 18, .mv (.t 0), none⟩),
      (0, ⟨some 19, .mv (.t 4), none⟩),
      (0, ⟨some 20, .iad 7 (.t 18) (.t 19), none⟩),
      (0, ⟨some 21, .fad 1 (.t 20), none⟩),
      (0, ⟨some 22, .load false [(.i .i64)] (.t 21), none⟩),
      (0, ⟨some 23, .mv (.t 0), none⟩),
      (0, ⟨some 24, .mv (.t 4), none⟩),
      (0, ⟨some 25, .iad 7 (.t 23) (.t 24), none⟩),
      (0, ⟨some 26, .fad 2 (.t 25), none⟩),
      (0, ⟨some 27, .load true [(.i .i64), .s, (.i .i64), (.sl 1), (.sl 5)] (.t 26), none⟩),
      (1, ⟨some 28, .call (.f 123) [.rd] false [.g [(.i .i64), .s, (.i .i64), (.sl 1), (.sl 5)]] [(.t 27)], none⟩),
      (0, ⟨some 29, .build [(.v (.int .i64 0)), (.v (.int .i64 0)), (.v (.int .i64 0)), (.v (.string ByteArray.empty)), (.v (.int .i64 0)), (.s 1 []), (.s 5 [])] [(0, 1, (.t 17)), (1, 1, (.t 22)), (2, 5, (.t 28))], none⟩),
      (1, ⟨some 30, .lit 7 ([[(.v (.int .i64 0)), (.v (.int .i64 0)), (.v (.int .i64 0)), (.v (.string ByteArray.empty)), (.v (.int .i64 0)), (.s 1 []), (.s 5 [])]] : Rows) [(0, (.t 29))], none⟩)] [⟨some 31, .app 7 96 (.t 12) (.t 30), none⟩,
      ⟨some 3, .mv (.t 31), none⟩])) (
  .reg false [⟨some 10, .mv (.t 4), none⟩,
    ⟨some 11, .bin .add (.t 10) (.c (.v (.int .i64 1))), none⟩,
    ⟨some 4, .mv (.t 11), none⟩])))
def e81x0 : Exits := [((.exit 0), [(3, .o 7)])]
noncomputable def l81x0 (T : Table) (k : Nat) := loopN (evalC ⟨T, []⟩ k b81x0 (Ex × List AV)) [0, 3, 4] e81x0
def a81 : AFun := ⟨[.rd], false, [.t 2], (
  .seq (.reg false [⟨some 2, .mv (.c (.o 7 [])), none⟩]) (
  .seq (.reg false [⟨some 5, .lit 7 ([] : Rows) [], none⟩,
    ⟨some 3, .mv (.t 5), none⟩]) (
  .seq (.seq (.reg false [⟨some 4, .mv (.c (.v (.int .i64 0))), none⟩]) (
  .block 0 (.loop [0, 3, 4] e81x0 b81x0))) (
  .seq (.reg false [⟨some 32, .mv (.t 3), none⟩,
    ⟨some 2, .mv (.t 32), none⟩]) (
  .ret)))))⟩
theorem l81x0s (T : Table) (k n : Nat) (l2 : Rows) (l3 : Rows) (n4 : Int) : l81x0 T k (n + 1) [(.fz 7 l2), (.o 7 l3), (.v (.int .i64 n4))] = (
 bif (decide (n4 < (l2.length : Int))) then (
 tst (decide (0 ≤ n4)) (
 look l2 (Int.toNat n4) fun r5 =>
 cI .i64 r5 0 fun n6 =>
 tst (decide (0 ≤ n4)) (
 look l2 (Int.toNat n4) fun r7 =>
 cI .i64 r7 1 fun n8 =>
 tst (decide (0 ≤ n4)) (
 look l2 (Int.toNat n4) fun r9 =>
 cI .i64 r9 2 fun n10 =>
 cS r9 3 fun s11 =>
 cI .i64 r9 4 fun n12 =>
 cL 1 r9 5 fun l13 =>
 cL 5 r9 6 fun l14 =>
 callT T 123 [(.g [(.v (.int .i64 n10)), (.v (.string s11)), (.v (.int .i64 n12)), (.s 1 l13), (.s 5 l14)])] fun o15 =>
 oG o15.res fun r16 =>
 tst (Nat.beq r16.length 5) (
 cI .i64 r16 0 fun n17 =>
 cS r16 1 fun s18 =>
 cI .i64 r16 2 fun n19 =>
 cL 1 r16 3 fun l20 =>
 cL 5 r16 4 fun l21 =>
 tst (decide ((l3.length + ([[(.v (.int .i64 n6)), (.v (.int .i64 n8)), (.v (.int .i64 n17)), (.v (.string s18)), (.v (.int .i64 n19)), hole, hole]] : Rows).length) * 96 ≤ maxBytes)) (
 l81x0 T k n [(.fz 7 l2), (.o 7 (setD (setD (l3 ++ ([[(.v (.int .i64 n6)), (.v (.int .i64 n8)), (.v (.int .i64 n17)), (.v (.string s18)), (.v (.int .i64 n19)), hole, hole]] : Rows)) (0 + l3.length) 6 (.s 5 l21)) (0 + l3.length) 5 (.s 1 l20))), (.v (.int .i64 (IntKind.wrap .i64 (n4 + 1))))])))))) else (
 some ((.exit 0), [(.o 7 l3)]))) := by kernel_rfl
theorem a81q (T : Table) (k : Nat) (l1 : Rows) : evalF T k a81 [(.d (.s 7 l1))] = (
 aft (l81x0 T k k [(.fz 7 l1), (.o 7 []), (.v (.int .i64 0))]) fun e22 ys23 =>
 bif e22.same (.exit 0) then (
 aV ys23 0 fun x24 =>
 aO 7 x24 fun l25 =>
 some ⟨(.d (.s 7 l25)), []⟩) else (
 none)) := by kernel_rfl
/- loop.example/g00119/spec.l13Copy -/

def a35 : AFun := ⟨[.rd], false, [.c 2 true [.s, (.i .i64), (.i .i64), (.sl 7), (.sl 2)]], (
  .seq (.reg false [⟨some 1, .box (.t 0), none⟩,
    ⟨some 2, .alloc [(.v (.string ByteArray.empty)), (.v (.int .i64 0)), (.v (.int .i64 0)), (.s 7 []), (.s 2 [])], none⟩]) (
  .seq (.dreg [] [(0, ⟨some 3, .fad 0 (.t 1), none⟩),
    (0, ⟨some 4, .load false [.s] (.t 3), none⟩),
    (0, ⟨some 5, .fad 1 (.t 1), none⟩),
    (0, ⟨some 6, .load false [(.i .i64)] (.t 5), none⟩),
    (0, ⟨some 7, .fad 2 (.t 1), none⟩),
    (0, ⟨some 8, .load false [(.i .i64)] (.t 7), none⟩),
    (0, ⟨some 9, .fad 3 (.t 1), none⟩),
    (0, ⟨some 10, .load false [(.sl 7)] (.t 9), none⟩),
    (1, ⟨some 11, .call (.f 81) [.rd] false [.c (.sl 7)] [(.t 10)], none⟩),
    (0, ⟨some 12, .lit 2 ([] : Rows) [], none⟩),
    (0, ⟨some 13, .fad 4 (.t 1), none⟩),
    (0, ⟨some 14, .load false [(.sl 2)] (.t 13), none⟩),
    (1, ⟨some 15, .app 2 16 (.t 12) (.t 14), none⟩)] [⟨some 16, .build [(.v (.string ByteArray.empty)), (.v (.int .i64 0)), (.v (.int .i64 0)), (.s 7 []), (.s 2 [])] [(0, 1, (.t 4)), (1, 1, (.t 6)), (2, 1, (.t 8)), (3, 1, (.t 11)), (4, 1, (.t 15))], none⟩,
    ⟨none, .store 5 (.t 2) (.t 16), none⟩]) (
  .ret)))⟩

theorem a35q (T : Table) (k : Nat) (s1 : ByteArray) (n2 : Int) (n3 : Int) (l4 : Rows) (l5 : Rows) : evalF T k a35 [(.g [(.v (.string s1)), (.v (.int .i64 n2)), (.v (.int .i64 n3)), (.s 7 l4), (.s 2 l5)])] = (
 callT T 81 [(.d (.s 7 l4))] fun o6 =>
 oD o6.res fun d7 =>
 dL 7 d7 fun l8 =>
 tst (flatRows l5) (
 tst (decide ((([] : Rows).length + l5.length) * 16 ≤ maxBytes)) (
 some ⟨(.g [(.v (.string s1)), (.v (.int .i64 n2)), (.v (.int .i64 n3)), (.s 7 l8), (.s 2 (([] : Rows) ++ l5))]), []⟩))) := by kernel_rfl
/- loop.example/g00119/spec.l13Sum -/
def b106x0 : ACode := (
  .seq (.seq (.reg false [⟨some 5, .mv (.t 4), none⟩,
    ⟨some 6, .mv (.t 0), none⟩,
    ⟨some 7, .len false (.t 6), none⟩,
    ⟨some 8, .bin .lss (.t 5) (.t 7), none⟩]) (
  .cond (.t 8) (.skip) (.exit 0))) (
  .seq (.block 1 (.reg false [⟨some 11, .mv (.t 3), none⟩,
      ⟨some 12, .mv (.t 0), none⟩,
      ⟨some 13, .mv (.t 4), none⟩,
      ⟨some 14, .iad 2 (.t 12) (.t 13), none⟩,
      ⟨some 15, .fad 1 (.t 14), none⟩,
      ⟨some 16, .load false [(.i .i64)] (.t 15), none⟩,
      ⟨some 17, .bin .add (.t 11) (.t 16), none⟩,
      ⟨some 3, .mv (.t 17), none⟩])) (
  .reg false [⟨some 9, .mv (.t 4), none⟩,
    ⟨some 10, .bin .add (.t 9) (.c (.v (.int .i64 1))), none⟩,
    ⟨some 4, .mv (.t 10), none⟩])))
def e106x0 : Exits := [((.exit 0), [(3, .c (.i .i64))])]
noncomputable def l106x0 (T : Table) (k : Nat) := loopN (evalC ⟨T, []⟩ k b106x0 (Ex × List AV)) [0, 3, 4] e106x0
def a106 : AFun := ⟨[.rd], false, [.t 2], (
  .seq (.reg false [⟨some 2, .mv (.c (.v (.int .i64 0))), none⟩]) (
  .seq (.reg false [⟨some 3, .mv (.c (.v (.int .i64 0))), none⟩]) (
  .seq (.seq (.reg false [⟨some 4, .mv (.c (.v (.int .i64 0))), none⟩]) (
  .block 0 (.loop [0, 3, 4] e106x0 b106x0))) (
  .seq (.reg false [⟨some 18, .mv (.t 3), none⟩,
    ⟨some 2, .mv (.t 18), none⟩]) (
  .ret)))))⟩
theorem l106x0s (T : Table) (k n : Nat) (l2 : Rows) (n3 : Int) (n4 : Int) : l106x0 T k (n + 1) [(.fz 2 l2), (.v (.int .i64 n3)), (.v (.int .i64 n4))] = (
 bif (decide (n4 < (l2.length : Int))) then (
 tst (decide (0 ≤ n4)) (
 look l2 (Int.toNat n4) fun r5 =>
 cI .i64 r5 1 fun n6 =>
 l106x0 T k n [(.fz 2 l2), (.v (.int .i64 (IntKind.wrap .i64 (n3 + n6)))), (.v (.int .i64 (IntKind.wrap .i64 (n4 + 1))))])) else (
 some ((.exit 0), [(.v (.int .i64 n3))]))) := by kernel_rfl
theorem a106q (T : Table) (k : Nat) (l1 : Rows) : evalF T k a106 [(.d (.s 2 l1))] = (
 aft (l106x0 T k k [(.fz 2 l1), (.v (.int .i64 0)), (.v (.int .i64 0))]) fun e7 ys8 =>
 bif e7.same (.exit 0) then (
 aV ys8 0 fun x9 =>
 aI .i64 x9 fun n10 =>
 some ⟨(.d (.v (.int .i64 n10))), []⟩) else (
 none)) := by kernel_rfl
/- loop.example/g00119/spec.IsleOk -/

def a64 : AFun := ⟨[.rd], false, [.t 2], (
  .seq (.reg false [⟨some 1, .box (.t 0), none⟩,
    ⟨some 2, .mv (.c (.v (.bool false))), none⟩]) (
  .seq (.dreg [] [(0, ⟨some 3, .fad 0 (.t 1), none⟩),
    (0, ⟨some 4, .load false [.s] (.t 3), none⟩),
    (1, ⟨some 5, .call (.f 77) [.rd] false [.c .b] [(.t 4)], none⟩),
    (0, ⟨some 6, .mv (.t 5), none⟩),
    (0, ⟨some 7, .fad 1 (.t 1), some (6, true)⟩),
    (0, ⟨some 8, .load false [(.i .i64)] (.t 7), some (6, true)⟩),
    (1, ⟨some 9, .call (.f 78) [.rd, .rd, .rd] false [.c .b] [(.t 8), (.c (.v (.int .i64 0))), (.c (.v (.int .i64 10000)))], some (6, true)⟩),
    (0, ⟨some 10, .pick (.t 6) (.t 9) (.c (.v (.bool false))), none⟩),
    (0, ⟨some 11, .mv (.t 10), none⟩),
    (0, ⟨some 12, .fad 2 (.t 1), some (11, true)⟩),
    (0, ⟨some 13, .load false [(.i .i64)] (.t 12), some (11, true)⟩),
    (1, ⟨some 14, .call (.f 78) [.rd, .rd, .rd] false [.c .b] [(.t 13), (.c (.v (.int .i64 0))), (.c (.v (.int .i64 1000000)))], some (11, true)⟩),
    (0, ⟨some 15, .pick (.t 11) (.t 14) (.c (.v (.bool false))), none⟩),
    (0, ⟨some 16, .mv (.t 15), none⟩),
    (0, ⟨some 17, .fad 3 (.t 1), some (16, true)⟩),
    (0, ⟨some 18, .load false [(.sl 7)] (.t 17), some (16, true)⟩),
    (1, ⟨some 19, .call (.f 80) [.rd] false [.c .b] [(.t 18)], some (16, true)⟩),
    (0, ⟨some 20, .pick (.t 16) (.t 19) (.c (.v (.bool false))), none⟩),
    (0, ⟨some 21, .mv (.t 20), none⟩),
    (0, ⟨some 22, .fad 4 (.t 1), some (21, true)⟩),
    (0, ⟨some 23, .load false [(.sl 2)] (.t 22), some (21, true)⟩),
    (1, ⟨some 24, .call (.f 79) [.rd, .rd] false [.c .b] [(.t 23), (.c (.v (.int .i64 1)))], some (21, true)⟩),
    (0, ⟨some 25, .pick (.t 21) (.t 24) (.c (.v (.bool false))), none⟩),
    (0, ⟨some 26, .mv (.t 25), none⟩),
    (0, ⟨some 27, .fad 4 (.t 1), some (26, true)⟩),
    (0, ⟨some 28, .load false [(.sl 2)] (.t 27), some (26, true)⟩),
    (1, ⟨some 29, .call (.f 106) [.rd] false [.c (.i .i64)] [(.t 28)], some (26, true)⟩),
    (0, ⟨some 30, .fad 1 (.t 1), some (26, true)⟩),
    (0, ⟨some 31, .load false [(.i .i64)] (.t 30), some (26, true)⟩)] [⟨some 32, .bin .leq (.t 29) (.t 31), some (26, true)⟩,
    ⟨some 33, .pick (.t 26) (.t 32) (.c (.v (.bool false))), none⟩,
    ⟨some 2, .mv (.t 33), none⟩]) (
  .ret)))⟩

theorem a64q (T : Table) (k : Nat) (s1 : ByteArray) (n2 : Int) (n3 : Int) (l4 : Rows) (l5 : Rows) : evalF T k a64 [(.g [(.v (.string s1)), (.v (.int .i64 n2)), (.v (.int .i64 n3)), (.s 7 l4), (.s 2 l5)])] = (
 callT T 77 [(.d (.v (.string s1)))] fun o6 =>
 oD o6.res fun d7 =>
 dB d7 fun b8 =>
 bif b8 == true then (
 callT T 78 [(.d (.v (.int .i64 n2))), (.d (.v (.int .i64 0))), (.d (.v (.int .i64 10000)))] fun o9 =>
 oD o9.res fun d10 =>
 dB d10 fun b11 =>
 bif b11 == true then (
 callT T 78 [(.d (.v (.int .i64 n3))), (.d (.v (.int .i64 0))), (.d (.v (.int .i64 1000000)))] fun o12 =>
 oD o12.res fun d13 =>
 dB d13 fun b14 =>
 bif b14 == true then (
 callT T 80 [(.d (.s 7 l4))] fun o15 =>
 oD o15.res fun d16 =>
 dB d16 fun b17 =>
 bif b17 == true then (
 callT T 79 [(.d (.s 2 l5)), (.d (.v (.int .i64 1)))] fun o18 =>
 oD o18.res fun d19 =>
 dB d19 fun b20 =>
 bif b20 == true then (
 callT T 106 [(.d (.s 2 l5))] fun o21 =>
 oD o21.res fun d22 =>
 dI .i64 d22 fun n23 =>
 some ⟨(.d (.v (.bool (decide (n23 ≤ n2))))), []⟩) else (
 some ⟨(.d (.v (.bool false))), []⟩)) else (
 some ⟨(.d (.v (.bool false))), []⟩)) else (
 some ⟨(.d (.v (.bool false))), []⟩)) else (
 some ⟨(.d (.v (.bool false))), []⟩)) else (
 some ⟨(.d (.v (.bool false))), []⟩)) := by kernel_rfl
/- loop.example/g00119/spec.Obey -/

def a36 : AFun := ⟨[.rd, .rd, .rd], false, [.c 6 true [.s, (.i .i64), (.i .i64), (.sl 7), (.sl 2)], .t 7], (
  .seq (.reg false [⟨some 3, .box (.t 0), none⟩,
    ⟨some 6, .alloc [(.v (.string ByteArray.empty)), (.v (.int .i64 0)), (.v (.int .i64 0)), (.s 7 []), (.s 2 [])], none⟩,
    ⟨some 7, .mv (.c (.v (.bool false))), none⟩]) (
  .seq (.reg false [⟨some 9, .load true [.s, (.i .i64), (.i .i64), (.sl 7), (.sl 2)] (.t 3), none⟩,
    ⟨some 10, .call (.f 35) [.rd] false [.g [.s, (.i .i64), (.i .i64), (.sl 7), (.sl 2)]] [(.t 9)], none⟩,
    ⟨some 8, .alloc [(.v (.string ByteArray.empty)), (.v (.int .i64 0)), (.v (.int .i64 0)), (.s 7 []), (.s 2 [])], none⟩,
    ⟨none, .store 5 (.t 8) (.t 10), none⟩]) (
  .seq (.seq (.reg false [⟨some 11, .load true [.s, (.i .i64), (.i .i64), (.sl 7), (.sl 2)] (.t 3), none⟩,
    ⟨some 12, .call (.f 64) [.rd] false [.c .b] [(.t 11)], none⟩,
    ⟨some 13, .un .not (.t 12), none⟩,
    ⟨some 14, .mv (.t 13), none⟩,
    ⟨some 15, .mv (.t 2), some (14, false)⟩,
    ⟨some 16, .call (.f 80) [.rd] false [.c .b] [(.t 15)], some (14, false)⟩,
    ⟨some 17, .un .not (.t 16), some (14, false)⟩,
    ⟨some 18, .pick (.t 14) (.c (.v (.bool true))) (.t 17), none⟩,
    ⟨some 19, .mv (.t 18), none⟩,
    ⟨some 20, .mv (.t 1), some (19, false)⟩,
    ⟨some 21, .fad 2 (.t 3), some (19, false)⟩,
    ⟨some 22, .load false [(.i .i64)] (.t 21), some (19, false)⟩,
    ⟨some 23, .bin .leq (.t 20) (.t 22), some (19, false)⟩,
    ⟨some 24, .pick (.t 19) (.c (.v (.bool true))) (.t 23), none⟩,
    ⟨some 25, .mv (.t 24), none⟩,
    ⟨some 26, .mv (.t 1), some (25, false)⟩,
    ⟨some 27, .bin .gtr (.t 26) (.c (.v (.int .i64 1000000))), some (25, false)⟩,
    ⟨some 28, .pick (.t 25) (.c (.v (.bool true))) (.t 27), none⟩]) (
  .cond (.t 28) (.seq (.reg false [⟨some 29, .load true [.s, (.i .i64), (.i .i64), (.sl 7), (.sl 2)] (.t 8), none⟩,
      ⟨none, .store 5 (.t 6) (.t 29), none⟩,
      ⟨some 7, .mv (.c (.v (.bool false))), none⟩]) (
    .ret)) (.skip))) (
  .seq (.reg false [⟨some 30, .mv (.t 1), none⟩,
    ⟨some 31, .fad 2 (.t 8), none⟩,
    ⟨none, .store 1 (.t 31) (.t 30), none⟩]) (
  .seq (.reg false [⟨some 32, .mv (.t 2), none⟩,
    ⟨some 33, .call (.f 81) [.rd] false [.c (.sl 7)] [(.t 32)], none⟩,
    ⟨some 34, .fad 3 (.t 8), none⟩,
    ⟨none, .store 1 (.t 34) (.t 33), none⟩]) (
  .seq (.reg false [⟨some 35, .load true [.s, (.i .i64), (.i .i64), (.sl 7), (.sl 2)] (.t 8), none⟩,
    ⟨none, .store 5 (.t 6) (.t 35), none⟩,
    ⟨some 7, .mv (.c (.v (.bool true))), none⟩]) (
  .ret)))))))⟩

theorem a36q (T : Table) (k : Nat) (s1 : ByteArray) (n2 : Int) (n3 : Int) (l4 : Rows) (l5 : Rows) (n6 : Int) (l7 : Rows) : evalF T k a36 [(.g [(.v (.string s1)), (.v (.int .i64 n2)), (.v (.int .i64 n3)), (.s 7 l4), (.s 2 l5)]), (.d (.v (.int .i64 n6))), (.d (.s 7 l7))] = (
 callT T 35 [(.g [(.v (.string s1)), (.v (.int .i64 n2)), (.v (.int .i64 n3)), (.s 7 l4), (.s 2 l5)])] fun o8 =>
 oG o8.res fun r9 =>
 tst (Nat.beq r9.length 5) (
 cS r9 0 fun s10 =>
 cI .i64 r9 1 fun n11 =>
 cI .i64 r9 2 fun n12 =>
 cL 7 r9 3 fun l13 =>
 cL 2 r9 4 fun l14 =>
 callT T 64 [(.g [(.v (.string s1)), (.v (.int .i64 n2)), (.v (.int .i64 n3)), (.s 7 l4), (.s 2 l5)])] fun o15 =>
 oD o15.res fun d16 =>
 dB d16 fun b17 =>
 bif (!b17) == false then (
 callT T 80 [(.d (.s 7 l7))] fun o18 =>
 oD o18.res fun d19 =>
 dB d19 fun b20 =>
 bif (!b20) == false then (
 bif (decide (n6 ≤ n3)) == false then (
 bif (decide (n6 > 1000000)) then (
 some ⟨(.t [(.g [(.v (.string s10)), (.v (.int .i64 n11)), (.v (.int .i64 n12)), (.s 7 l13), (.s 2 l14)]), (.d (.v (.bool false)))]), []⟩) else (
 callT T 81 [(.d (.s 7 l7))] fun o21 =>
 oD o21.res fun d22 =>
 dL 7 d22 fun l23 =>
 some ⟨(.t [(.g [(.v (.string s10)), (.v (.int .i64 n11)), (.v (.int .i64 n6)), (.s 7 l23), (.s 2 l14)]), (.d (.v (.bool true)))]), []⟩)) else (
 some ⟨(.t [(.g [(.v (.string s10)), (.v (.int .i64 n11)), (.v (.int .i64 n12)), (.s 7 l13), (.s 2 l14)]), (.d (.v (.bool false)))]), []⟩)) else (
 some ⟨(.t [(.g [(.v (.string s10)), (.v (.int .i64 n11)), (.v (.int .i64 n12)), (.s 7 l13), (.s 2 l14)]), (.d (.v (.bool false)))]), []⟩)) else (
 some ⟨(.t [(.g [(.v (.string s10)), (.v (.int .i64 n11)), (.v (.int .i64 n12)), (.s 7 l13), (.s 2 l14)]), (.d (.v (.bool false)))]), []⟩))) := by kernel_rfl
/- loop.example/g00119/spec.Land -/

def a9 : AFun := ⟨[.rd, .rd], false, [.c 4 true [.s, (.i .i64), (.i .i64), (.sl 7), (.sl 2)], .t 5], (
  .seq (.reg false [⟨some 2, .box (.t 0), none⟩,
    ⟨some 3, .box (.t 1), none⟩,
    ⟨some 4, .alloc [(.v (.string ByteArray.empty)), (.v (.int .i64 0)), (.v (.int .i64 0)), (.s 7 []), (.s 2 [])], none⟩,
    ⟨some 5, .mv (.c (.v (.bool false))), none⟩]) (
  .seq (.seq (.reg false [⟨some 6, .load true [(.i .i64), .s, (.i .i64), (.sl 7), (.sl 2)] (.t 3), none⟩,
    ⟨some 7, .call (.f 34) [.rd] false [.c .b] [(.t 6)], none⟩,
    ⟨some 8, .un .not (.t 7), none⟩,
    ⟨some 9, .mv (.t 8), none⟩,
    ⟨some 10, .fad 0 (.t 3), some (9, false)⟩,
    ⟨some 11, .load false [(.i .i64)] (.t 10), some (9, false)⟩,
    ⟨some 12, .bin .neq (.t 11) (.c (.v (.int .i64 2))), some (9, false)⟩,
    ⟨some 13, .pick (.t 9) (.c (.v (.bool true))) (.t 12), none⟩,
    ⟨some 14, .mv (.t 13), none⟩,
    ⟨some 15, .fad 1 (.t 3), some (14, false)⟩,
    ⟨some 16, .load false [.s] (.t 15), some (14, false)⟩,
    ⟨some 17, .fad 0 (.t 2), some (14, false)⟩,
    ⟨some 18, .load false [.s] (.t 17), some (14, false)⟩,
    ⟨some 19, .bin .neq (.t 16) (.t 18), some (14, false)⟩,
    ⟨some 20, .pick (.t 14) (.c (.v (.bool true))) (.t 19), none⟩]) (
  .cond (.t 20) (.seq (.reg false [⟨some 21, .load true [.s, (.i .i64), (.i .i64), (.sl 7), (.sl 2)] (.t 2), none⟩,
      ⟨some 22, .call (.f 35) [.rd] false [.g [.s, (.i .i64), (.i .i64), (.sl 7), (.sl 2)]] [(.t 21)], none⟩,
      ⟨none, .store 5 (.t 4) (.t 22), none⟩,
      ⟨some 5, .mv (.c (.v (.bool false))), none⟩]) (
    .ret)) (.skip))) (
  .seq (.reg false [⟨some 23, .load true [.s, (.i .i64), (.i .i64), (.sl 7), (.sl 2)] (.t 2), none⟩,
    ⟨some 24, .fad 2 (.t 3), none⟩,
    ⟨some 25, .load false [(.i .i64)] (.t 24), none⟩,
    ⟨some 26, .fad 3 (.t 3), none⟩,
    ⟨some 27, .load false [(.sl 7)] (.t 26), none⟩,
    ⟨some 28, .call (.f 36) [.rd, .rd, .rd] false [.g [.s, (.i .i64), (.i .i64), (.sl 7), (.sl 2)], .c .b] [(.t 23), (.t 25), (.t 27)], none⟩,
    ⟨some 29, .ext (.t 28) 0, none⟩,
    ⟨some 30, .ext (.t 28) 1, none⟩,
    ⟨none, .store 5 (.t 4) (.t 29), none⟩,
    ⟨some 5, .mv (.t 30), none⟩]) (
  .ret))))⟩

theorem a9q (T : Table) (k : Nat) (s1 : ByteArray) (n2 : Int) (n3 : Int) (l4 : Rows) (l5 : Rows) (n6 : Int) (s7 : ByteArray) (n8 : Int) (l9 : Rows) (l10 : Rows) : evalF T k a9 [(.g [(.v (.string s1)), (.v (.int .i64 n2)), (.v (.int .i64 n3)), (.s 7 l4), (.s 2 l5)]), (.g [(.v (.int .i64 n6)), (.v (.string s7)), (.v (.int .i64 n8)), (.s 7 l9), (.s 2 l10)])] = (
 callT T 34 [(.g [(.v (.int .i64 n6)), (.v (.string s7)), (.v (.int .i64 n8)), (.s 7 l9), (.s 2 l10)])] fun o11 =>
 oD o11.res fun d12 =>
 dB d12 fun b13 =>
 bif (!b13) == false then (
 bif (n6 != 2) == false then (
 bif (!(bytesEq s7 s1)) then (
 callT T 35 [(.g [(.v (.string s1)), (.v (.int .i64 n2)), (.v (.int .i64 n3)), (.s 7 l4), (.s 2 l5)])] fun o14 =>
 oG o14.res fun r15 =>
 tst (Nat.beq r15.length 5) (
 cS r15 0 fun s16 =>
 cI .i64 r15 1 fun n17 =>
 cI .i64 r15 2 fun n18 =>
 cL 7 r15 3 fun l19 =>
 cL 2 r15 4 fun l20 =>
 some ⟨(.t [(.g [(.v (.string s16)), (.v (.int .i64 n17)), (.v (.int .i64 n18)), (.s 7 l19), (.s 2 l20)]), (.d (.v (.bool false)))]), []⟩)) else (
 callT T 36 [(.g [(.v (.string s1)), (.v (.int .i64 n2)), (.v (.int .i64 n3)), (.s 7 l4), (.s 2 l5)]), (.d (.v (.int .i64 n8))), (.d (.s 7 l9))] fun o21 =>
 oT o21.res fun is22 =>
 tst (Nat.beq is22.length 2) (
 nth is22 0 fun i23 =>
 oG i23 fun r24 =>
 tst (Nat.beq r24.length 5) (
 cS r24 0 fun s25 =>
 cI .i64 r24 1 fun n26 =>
 cI .i64 r24 2 fun n27 =>
 cL 7 r24 3 fun l28 =>
 cL 2 r24 4 fun l29 =>
 nth is22 1 fun i30 =>
 oD i30 fun d31 =>
 dB d31 fun b32 =>
 some ⟨(.t [(.g [(.v (.string s25)), (.v (.int .i64 n26)), (.v (.int .i64 n27)), (.s 7 l28), (.s 2 l29)]), (.d (.v (.bool b32)))]), []⟩)))) else (
 callT T 35 [(.g [(.v (.string s1)), (.v (.int .i64 n2)), (.v (.int .i64 n3)), (.s 7 l4), (.s 2 l5)])] fun o33 =>
 oG o33.res fun r34 =>
 tst (Nat.beq r34.length 5) (
 cS r34 0 fun s35 =>
 cI .i64 r34 1 fun n36 =>
 cI .i64 r34 2 fun n37 =>
 cL 7 r34 3 fun l38 =>
 cL 2 r34 4 fun l39 =>
 some ⟨(.t [(.g [(.v (.string s35)), (.v (.int .i64 n36)), (.v (.int .i64 n37)), (.s 7 l38), (.s 2 l39)]), (.d (.v (.bool false)))]), []⟩))) else (
 callT T 35 [(.g [(.v (.string s1)), (.v (.int .i64 n2)), (.v (.int .i64 n3)), (.s 7 l4), (.s 2 l5)])] fun o40 =>
 oG o40.res fun r41 =>
 tst (Nat.beq r41.length 5) (
 cS r41 0 fun s42 =>
 cI .i64 r41 1 fun n43 =>
 cI .i64 r41 2 fun n44 =>
 cL 7 r41 3 fun l45 =>
 cL 2 r41 4 fun l46 =>
 some ⟨(.t [(.g [(.v (.string s42)), (.v (.int .i64 n43)), (.v (.int .i64 n44)), (.s 7 l45), (.s 2 l46)]), (.d (.v (.bool false)))]), []⟩))) := by kernel_rfl
/- loop.example/g00119/laws.toStringS -/
def b56x0 : ACode := (
  .seq (.seq (.reg false [⟨some 8, .mv (.t 4), none⟩,
    ⟨some 9, .mv (.t 0), none⟩,
    ⟨some 10, .len false (.t 9), none⟩,
    ⟨some 11, .bin .lss (.t 8) (.t 10), none⟩]) (
  .cond (.t 11) (.skip) (.exit 0))) (
  .seq (.block 1 (.reg false [⟨some 14, .mv (.t 3), none⟩,
      ⟨some 15, .mv (.t 4), none⟩,
      ⟨some 16, .mv (.t 0), none⟩,
      ⟨some 17, .mv (.t 4), none⟩,
      ⟨some 18, .iad 1 (.t 16) (.t 17), none⟩,
      ⟨some 19, .load false [.s] (.t 18), none⟩,
      ⟨some 20, .iad 1 (.t 14) (.t 15), none⟩,
      ⟨none, .store 1 (.t 20) (.t 19), none⟩])) (
  .reg false [⟨some 12, .mv (.t 4), none⟩,
    ⟨some 13, .bin .add (.t 12) (.c (.v (.int .i64 1))), none⟩,
    ⟨some 4, .mv (.t 13), none⟩])))
def e56x0 : Exits := [((.exit 0), [(3, .o 1)])]
noncomputable def l56x0 (T : Table) (k : Nat) := loopN (evalC ⟨T, []⟩ k b56x0 (Ex × List AV)) [0, 3, 4] e56x0
def a56 : AFun := ⟨[.rd], false, [.t 2], (
  .seq (.reg false [⟨some 2, .mv (.c (.o 1 [])), none⟩]) (
  .seq (.reg false [⟨some 5, .mv (.t 0), none⟩,
    ⟨some 6, .len false (.t 5), none⟩,
    ⟨some 7, .mk [(.v (.string ByteArray.empty))] 16 (.t 6) (.t 6), none⟩,
    ⟨some 3, .mv (.t 7), none⟩]) (
  .seq (.seq (.reg false [⟨some 4, .mv (.c (.v (.int .i64 0))), none⟩]) (
  .block 0 (.loop [0, 3, 4] e56x0 b56x0))) (
  .seq (.reg false [⟨some 21, .mv (.t 3), none⟩,
    ⟨some 2, .mv (.t 21), none⟩]) (
  .ret)))))⟩
theorem l56x0s (T : Table) (k n : Nat) (l2 : Rows) (l3 : Rows) (n4 : Int) : l56x0 T k (n + 1) [(.fz 1 l2), (.o 1 l3), (.v (.int .i64 n4))] = (
 bif (decide (n4 < (l2.length : Int))) then (
 tst (decide (0 ≤ n4)) (
 look l2 (Int.toNat n4) fun r5 =>
 cS r5 0 fun s6 =>
 tst (decide (0 ≤ n4) && decide (Int.toNat n4 < l3.length)) (
 l56x0 T k n [(.fz 1 l2), (.o 1 (setD l3 (Int.toNat n4) 0 (.v (.string s6)))), (.v (.int .i64 (IntKind.wrap .i64 (n4 + 1))))]))) else (
 some ((.exit 0), [(.o 1 l3)]))) := by kernel_rfl
theorem a56q (T : Table) (k : Nat) (l1 : Rows) : evalF T k a56 [(.d (.s 1 l1))] = (
 tst (cutOk (l1.length : Int) (l1.length : Int) maxLen && decide (Int.toNat (l1.length : Int) * 16 ≤ maxBytes)) (
 aft (l56x0 T k k [(.fz 1 l1), (.o 1 (List.replicate (Int.toNat (l1.length : Int)) [(.v (.string ByteArray.empty))])), (.v (.int .i64 0))]) fun e7 ys8 =>
 bif e7.same (.exit 0) then (
 aV ys8 0 fun x9 =>
 aO 1 x9 fun l10 =>
 some ⟨(.d (.s 1 l10)), []⟩) else (
 none))) := by kernel_rfl
/- loop.example/g00119/laws.toValueS -/
def b146x0 : ACode := (
  .seq (.seq (.reg false [⟨some 8, .mv (.t 4), none⟩,
    ⟨some 9, .mv (.t 0), none⟩,
    ⟨some 10, .len false (.t 9), none⟩,
    ⟨some 11, .bin .lss (.t 8) (.t 10), none⟩]) (
  .cond (.t 11) (.skip) (.exit 0))) (
  .seq (.block 1 (.reg false [⟨some 14, .mv (.t 3), none⟩,
      ⟨some 15, .mv (.t 4), none⟩,
      ⟨some 16, .mv (.t 0), none⟩,
      ⟨some 17, .mv (.t 4), none⟩,
      ⟨some 18, .iad 5 (.t 16) (.t 17), none⟩,
      ⟨some 19, .load true [(.i .i64), .s, (.i .i64), (.sl 1), (.sl 5)] (.t 18), none⟩,
      ⟨some 20, .call (.f 124) [.rd] false [.g [(.i .i64), .s, (.i .i64), (.sl 1), (.sl 5)]] [(.t 19)], none⟩,
      ⟨some 21, .iad 5 (.t 14) (.t 15), none⟩,
      ⟨none, .store 5 (.t 21) (.t 20), none⟩])) (
  .reg false [⟨some 12, .mv (.t 4), none⟩,
    ⟨some 13, .bin .add (.t 12) (.c (.v (.int .i64 1))), none⟩,
    ⟨some 4, .mv (.t 13), none⟩])))
def e146x0 : Exits := [((.exit 0), [(3, .o 5)])]
noncomputable def l146x0 (T : Table) (k : Nat) := loopN (evalC ⟨T, []⟩ k b146x0 (Ex × List AV)) [0, 3, 4] e146x0
def a146 : AFun := ⟨[.rd], false, [.t 2], (
  .seq (.reg false [⟨some 2, .mv (.c (.o 5 [])), none⟩]) (
  .seq (.reg false [⟨some 5, .mv (.t 0), none⟩,
    ⟨some 6, .len false (.t 5), none⟩,
    ⟨some 7, .mk [(.v (.int .i64 0)), (.v (.string ByteArray.empty)), (.v (.int .i64 0)), (.s 1 []), (.s 5 [])] 80 (.t 6) (.t 6), none⟩,
    ⟨some 3, .mv (.t 7), none⟩]) (
  .seq (.seq (.reg false [⟨some 4, .mv (.c (.v (.int .i64 0))), none⟩]) (
  .block 0 (.loop [0, 3, 4] e146x0 b146x0))) (
  .seq (.reg false [⟨some 22, .mv (.t 3), none⟩,
    ⟨some 2, .mv (.t 22), none⟩]) (
  .ret)))))⟩
theorem l146x0s (T : Table) (k n : Nat) (l2 : Rows) (l3 : Rows) (n4 : Int) : l146x0 T k (n + 1) [(.fz 5 l2), (.o 5 l3), (.v (.int .i64 n4))] = (
 bif (decide (n4 < (l2.length : Int))) then (
 tst (decide (0 ≤ n4)) (
 look l2 (Int.toNat n4) fun r5 =>
 cI .i64 r5 0 fun n6 =>
 cS r5 1 fun s7 =>
 cI .i64 r5 2 fun n8 =>
 cL 1 r5 3 fun l9 =>
 cL 5 r5 4 fun l10 =>
 callT T 124 [(.g [(.v (.int .i64 n6)), (.v (.string s7)), (.v (.int .i64 n8)), (.s 1 l9), (.s 5 l10)])] fun o11 =>
 oG o11.res fun r12 =>
 tst (Nat.beq r12.length 5) (
 cI .i64 r12 0 fun n13 =>
 cS r12 1 fun s14 =>
 cI .i64 r12 2 fun n15 =>
 cL 1 r12 3 fun l16 =>
 cL 5 r12 4 fun l17 =>
 tst (decide (0 ≤ n4) && decide (Int.toNat n4 < l3.length)) (
 l146x0 T k n [(.fz 5 l2), (.o 5 (setD (setD (setD (setD (setD (setD (setD l3 (Int.toNat n4) 0 (.v (.int .i64 n13))) (Int.toNat n4) 1 (.v (.string s14))) (Int.toNat n4) 2 (.v (.int .i64 n15))) (Int.toNat n4) 3 hole) (Int.toNat n4) 4 hole) (Int.toNat n4) 4 (.s 5 l17)) (Int.toNat n4) 3 (.s 1 l16))), (.v (.int .i64 (IntKind.wrap .i64 (n4 + 1))))])))) else (
 some ((.exit 0), [(.o 5 l3)]))) := by kernel_rfl
theorem a146q (T : Table) (k : Nat) (l1 : Rows) : evalF T k a146 [(.d (.s 5 l1))] = (
 tst (cutOk (l1.length : Int) (l1.length : Int) maxLen && decide (Int.toNat (l1.length : Int) * 80 ≤ maxBytes)) (
 aft (l146x0 T k k [(.fz 5 l1), (.o 5 (List.replicate (Int.toNat (l1.length : Int)) [(.v (.int .i64 0)), (.v (.string ByteArray.empty)), (.v (.int .i64 0)), (.s 1 []), (.s 5 [])])), (.v (.int .i64 0))]) fun e18 ys19 =>
 bif e18.same (.exit 0) then (
 aV ys19 0 fun x20 =>
 aO 5 x20 fun l21 =>
 some ⟨(.d (.s 5 l21)), []⟩) else (
 none))) := by kernel_rfl
/- loop.example/g00119/laws.toValue -/

def a124 : AFun := ⟨[.rd], false, [.c 2 true [(.i .i64), .s, (.i .i64), (.sl 1), (.sl 5)]], (
  .seq (.reg false [⟨some 1, .box (.t 0), none⟩,
    ⟨some 2, .alloc [(.v (.int .i64 0)), (.v (.string ByteArray.empty)), (.v (.int .i64 0)), (.s 1 []), (.s 5 [])], none⟩]) (
  .seq (.reg false [⟨some 3, .alloc [(.v (.int .i64 0)), (.v (.string ByteArray.empty)), (.v (.int .i64 0)), (.s 1 []), (.s 5 [])], none⟩]) (
  .seq (.reg false [⟨some 4, .fad 0 (.t 1), none⟩,
    ⟨some 5, .load false [(.i .i64)] (.t 4), none⟩,
    ⟨some 6, .fad 0 (.t 3), none⟩,
    ⟨none, .store 1 (.t 6) (.t 5), none⟩]) (
  .seq (.reg false [⟨some 7, .fad 1 (.t 1), none⟩,
    ⟨some 8, .load false [.s] (.t 7), none⟩,
    ⟨some 9, .fad 1 (.t 3), none⟩,
    ⟨none, .store 1 (.t 9) (.t 8), none⟩]) (
  .seq (.reg false [⟨some 10, .fad 2 (.t 1), none⟩,
    ⟨some 11, .load false [(.i .i64)] (.t 10), none⟩,
    ⟨some 12, .fad 2 (.t 3), none⟩,
    ⟨none, .store 1 (.t 12) (.t 11), none⟩]) (
  .seq (.reg false [⟨some 13, .fad 3 (.t 1), none⟩,
    ⟨some 14, .load false [(.sl 1)] (.t 13), none⟩,
    ⟨some 15, .call (.f 56) [.rd] false [.c (.sl 1)] [(.t 14)], none⟩,
    ⟨some 16, .fad 3 (.t 3), none⟩,
    ⟨none, .store 1 (.t 16) (.t 15), none⟩]) (
  .seq (.reg false [⟨some 17, .fad 4 (.t 1), none⟩,
    ⟨some 18, .load false [(.sl 5)] (.t 17), none⟩,
    ⟨some 19, .call (.f 146) [.rd] false [.c (.sl 5)] [(.t 18)], none⟩,
    ⟨some 20, .fad 4 (.t 3), none⟩,
    ⟨none, .store 1 (.t 20) (.t 19), none⟩]) (
  .seq (.reg false [⟨some 21, .load true [(.i .i64), .s, (.i .i64), (.sl 1), (.sl 5)] (.t 3), none⟩,
    ⟨none, .store 5 (.t 2) (.t 21), none⟩]) (
  .ret)))))))))⟩

theorem a124q (T : Table) (k : Nat) (n1 : Int) (s2 : ByteArray) (n3 : Int) (l4 : Rows) (l5 : Rows) : evalF T k a124 [(.g [(.v (.int .i64 n1)), (.v (.string s2)), (.v (.int .i64 n3)), (.s 1 l4), (.s 5 l5)])] = (
 callT T 56 [(.d (.s 1 l4))] fun o6 =>
 oD o6.res fun d7 =>
 dL 1 d7 fun l8 =>
 callT T 146 [(.d (.s 5 l5))] fun o9 =>
 oD o9.res fun d10 =>
 dL 5 d10 fun l11 =>
 some ⟨(.g [(.v (.int .i64 n1)), (.v (.string s2)), (.v (.int .i64 n3)), (.s 1 l8), (.s 5 l11)]), []⟩) := by kernel_rfl
/- loop.example/g00119/laws.toWork -/

def a82 : AFun := ⟨[.rd], false, [.c 2 true [(.i .i64), (.i .i64), (.i .i64), .s, (.i .i64), (.sl 1), (.sl 5)]], (
  .seq (.reg false [⟨some 1, .box (.t 0), none⟩,
    ⟨some 2, .alloc [(.v (.int .i64 0)), (.v (.int .i64 0)), (.v (.int .i64 0)), (.v (.string ByteArray.empty)), (.v (.int .i64 0)), (.s 1 []), (.s 5 [])], none⟩]) (
  .seq (.reg false [⟨some 3, .alloc [(.v (.int .i64 0)), (.v (.int .i64 0)), (.v (.int .i64 0)), (.v (.string ByteArray.empty)), (.v (.int .i64 0)), (.s 1 []), (.s 5 [])], none⟩]) (
  .seq (.reg false [⟨some 4, .fad 0 (.t 1), none⟩,
    ⟨some 5, .load false [(.i .i64)] (.t 4), none⟩,
    ⟨some 6, .fad 0 (.t 3), none⟩,
    ⟨none, .store 1 (.t 6) (.t 5), none⟩]) (
  .seq (.reg false [⟨some 7, .fad 1 (.t 1), none⟩,
    ⟨some 8, .load false [(.i .i64)] (.t 7), none⟩,
    ⟨some 9, .fad 1 (.t 3), none⟩,
    ⟨none, .store 1 (.t 9) (.t 8), none⟩]) (
  .seq (.reg false [⟨some 10, .fad 2 (.t 1), none⟩,
    ⟨some 11, .load true [(.i .i64), .s, (.i .i64), (.sl 1), (.sl 5)] (.t 10), none⟩,
    ⟨some 12, .call (.f 124) [.rd] false [.g [(.i .i64), .s, (.i .i64), (.sl 1), (.sl 5)]] [(.t 11)], none⟩,
    ⟨some 13, .fad 2 (.t 3), none⟩,
    ⟨none, .store 5 (.t 13) (.t 12), none⟩]) (
  .seq (.reg false [⟨some 14, .load true [(.i .i64), (.i .i64), (.i .i64), .s, (.i .i64), (.sl 1), (.sl 5)] (.t 3), none⟩,
    ⟨none, .store 7 (.t 2) (.t 14), none⟩]) (
  .ret)))))))⟩

theorem a82q (T : Table) (k : Nat) (n1 : Int) (n2 : Int) (n3 : Int) (s4 : ByteArray) (n5 : Int) (l6 : Rows) (l7 : Rows) : evalF T k a82 [(.g [(.v (.int .i64 n1)), (.v (.int .i64 n2)), (.v (.int .i64 n3)), (.v (.string s4)), (.v (.int .i64 n5)), (.s 1 l6), (.s 5 l7)])] = (
 callT T 124 [(.g [(.v (.int .i64 n3)), (.v (.string s4)), (.v (.int .i64 n5)), (.s 1 l6), (.s 5 l7)])] fun o8 =>
 oG o8.res fun r9 =>
 tst (Nat.beq r9.length 5) (
 cI .i64 r9 0 fun n10 =>
 cS r9 1 fun s11 =>
 cI .i64 r9 2 fun n12 =>
 cL 1 r9 3 fun l13 =>
 cL 5 r9 4 fun l14 =>
 some ⟨(.g [(.v (.int .i64 n1)), (.v (.int .i64 n2)), (.v (.int .i64 n10)), (.v (.string s11)), (.v (.int .i64 n12)), (.s 1 l13), (.s 5 l14)]), []⟩)) := by kernel_rfl
/- loop.example/g00119/laws.toWorkS -/
def b37x0 : ACode := (
  .seq (.seq (.reg false [⟨some 8, .mv (.t 4), none⟩,
    ⟨some 9, .mv (.t 0), none⟩,
    ⟨some 10, .len false (.t 9), none⟩,
    ⟨some 11, .bin .lss (.t 8) (.t 10), none⟩]) (
  .cond (.t 11) (.skip) (.exit 0))) (
  .seq (.block 1 (.reg false [⟨some 14, .mv (.t 3), none⟩,
      ⟨some 15, .mv (.t 4), none⟩,
      ⟨some 16, .mv (.t 0), none⟩,
      ⟨some 17, .mv (.t 4), none⟩,
      ⟨some 18, .iad 7 (.t 16) (.t 17), none⟩,
      ⟨some 19, .load true [(.i .i64), (.i .i64), (.i .i64), .s, (.i .i64), (.sl 1), (.sl 5)] (.t 18), none⟩,
      ⟨some 20, .call (.f 82) [.rd] false [.g [(.i .i64), (.i .i64), (.i .i64), .s, (.i .i64), (.sl 1), (.sl 5)]] [(.t 19)], none⟩,
      ⟨some 21, .iad 7 (.t 14) (.t 15), none⟩,
      ⟨none, .store 7 (.t 21) (.t 20), none⟩])) (
  .reg false [⟨some 12, .mv (.t 4), none⟩,
    ⟨some 13, .bin .add (.t 12) (.c (.v (.int .i64 1))), none⟩,
    ⟨some 4, .mv (.t 13), none⟩])))
def e37x0 : Exits := [((.exit 0), [(3, .o 7)])]
noncomputable def l37x0 (T : Table) (k : Nat) := loopN (evalC ⟨T, []⟩ k b37x0 (Ex × List AV)) [0, 3, 4] e37x0
def a37 : AFun := ⟨[.rd], false, [.t 2], (
  .seq (.reg false [⟨some 2, .mv (.c (.o 7 [])), none⟩]) (
  .seq (.reg false [⟨some 5, .mv (.t 0), none⟩,
    ⟨some 6, .len false (.t 5), none⟩,
    ⟨some 7, .mk [(.v (.int .i64 0)), (.v (.int .i64 0)), (.v (.int .i64 0)), (.v (.string ByteArray.empty)), (.v (.int .i64 0)), (.s 1 []), (.s 5 [])] 96 (.t 6) (.t 6), none⟩,
    ⟨some 3, .mv (.t 7), none⟩]) (
  .seq (.seq (.reg false [⟨some 4, .mv (.c (.v (.int .i64 0))), none⟩]) (
  .block 0 (.loop [0, 3, 4] e37x0 b37x0))) (
  .seq (.reg false [⟨some 22, .mv (.t 3), none⟩,
    ⟨some 2, .mv (.t 22), none⟩]) (
  .ret)))))⟩
theorem l37x0s (T : Table) (k n : Nat) (l2 : Rows) (l3 : Rows) (n4 : Int) : l37x0 T k (n + 1) [(.fz 7 l2), (.o 7 l3), (.v (.int .i64 n4))] = (
 bif (decide (n4 < (l2.length : Int))) then (
 tst (decide (0 ≤ n4)) (
 look l2 (Int.toNat n4) fun r5 =>
 cI .i64 r5 0 fun n6 =>
 cI .i64 r5 1 fun n7 =>
 cI .i64 r5 2 fun n8 =>
 cS r5 3 fun s9 =>
 cI .i64 r5 4 fun n10 =>
 cL 1 r5 5 fun l11 =>
 cL 5 r5 6 fun l12 =>
 callT T 82 [(.g [(.v (.int .i64 n6)), (.v (.int .i64 n7)), (.v (.int .i64 n8)), (.v (.string s9)), (.v (.int .i64 n10)), (.s 1 l11), (.s 5 l12)])] fun o13 =>
 oG o13.res fun r14 =>
 tst (Nat.beq r14.length 7) (
 cI .i64 r14 0 fun n15 =>
 cI .i64 r14 1 fun n16 =>
 cI .i64 r14 2 fun n17 =>
 cS r14 3 fun s18 =>
 cI .i64 r14 4 fun n19 =>
 cL 1 r14 5 fun l20 =>
 cL 5 r14 6 fun l21 =>
 tst (decide (0 ≤ n4) && decide (Int.toNat n4 < l3.length)) (
 l37x0 T k n [(.fz 7 l2), (.o 7 (setD (setD (setD (setD (setD (setD (setD (setD (setD l3 (Int.toNat n4) 0 (.v (.int .i64 n15))) (Int.toNat n4) 1 (.v (.int .i64 n16))) (Int.toNat n4) 2 (.v (.int .i64 n17))) (Int.toNat n4) 3 (.v (.string s18))) (Int.toNat n4) 4 (.v (.int .i64 n19))) (Int.toNat n4) 5 hole) (Int.toNat n4) 6 hole) (Int.toNat n4) 6 (.s 5 l21)) (Int.toNat n4) 5 (.s 1 l20))), (.v (.int .i64 (IntKind.wrap .i64 (n4 + 1))))])))) else (
 some ((.exit 0), [(.o 7 l3)]))) := by kernel_rfl
theorem a37q (T : Table) (k : Nat) (l1 : Rows) : evalF T k a37 [(.d (.s 7 l1))] = (
 tst (cutOk (l1.length : Int) (l1.length : Int) maxLen && decide (Int.toNat (l1.length : Int) * 96 ≤ maxBytes)) (
 aft (l37x0 T k k [(.fz 7 l1), (.o 7 (List.replicate (Int.toNat (l1.length : Int)) [(.v (.int .i64 0)), (.v (.int .i64 0)), (.v (.int .i64 0)), (.v (.string ByteArray.empty)), (.v (.int .i64 0)), (.s 1 []), (.s 5 [])])), (.v (.int .i64 0))]) fun e22 ys23 =>
 bif e22.same (.exit 0) then (
 aV ys23 0 fun x24 =>
 aO 7 x24 fun l25 =>
 some ⟨(.d (.s 7 l25)), []⟩) else (
 none))) := by kernel_rfl
/- loop.example/g00119/laws.toRun -/

def a83 : AFun := ⟨[.rd], false, [.c 2 true [(.i .i64), (.i .i64)]], (
  .seq (.reg false [⟨some 1, .box (.t 0), none⟩,
    ⟨some 2, .alloc [(.v (.int .i64 0)), (.v (.int .i64 0))], none⟩]) (
  .seq (.reg false [⟨some 3, .alloc [(.v (.int .i64 0)), (.v (.int .i64 0))], none⟩]) (
  .seq (.reg false [⟨some 4, .fad 0 (.t 1), none⟩,
    ⟨some 5, .load false [(.i .i64)] (.t 4), none⟩,
    ⟨some 6, .fad 0 (.t 3), none⟩,
    ⟨none, .store 1 (.t 6) (.t 5), none⟩]) (
  .seq (.reg false [⟨some 7, .fad 1 (.t 1), none⟩,
    ⟨some 8, .load false [(.i .i64)] (.t 7), none⟩,
    ⟨some 9, .fad 1 (.t 3), none⟩,
    ⟨none, .store 1 (.t 9) (.t 8), none⟩]) (
  .seq (.reg false [⟨some 10, .load true [(.i .i64), (.i .i64)] (.t 3), none⟩,
    ⟨none, .store 2 (.t 2) (.t 10), none⟩]) (
  .ret))))))⟩

theorem a83q (T : Table) (k : Nat) (n1 : Int) (n2 : Int) : evalF T k a83 [(.g [(.v (.int .i64 n1)), (.v (.int .i64 n2))])] = (
 some ⟨(.g [(.v (.int .i64 n1)), (.v (.int .i64 n2))]), []⟩) := by kernel_rfl
/- loop.example/g00119/laws.toRunS -/
def b38x0 : ACode := (
  .seq (.seq (.reg false [⟨some 8, .mv (.t 4), none⟩,
    ⟨some 9, .mv (.t 0), none⟩,
    ⟨some 10, .len false (.t 9), none⟩,
    ⟨some 11, .bin .lss (.t 8) (.t 10), none⟩]) (
  .cond (.t 11) (.skip) (.exit 0))) (
  .seq (.block 1 (.reg false [⟨some 14, .mv (.t 3), none⟩,
      ⟨some 15, .mv (.t 4), none⟩,
      ⟨some 16, .mv (.t 0), none⟩,
      ⟨some 17, .mv (.t 4), none⟩,
      ⟨some 18, .iad 2 (.t 16) (.t 17), none⟩,
      ⟨some 19, .load true [(.i .i64), (.i .i64)] (.t 18), none⟩,
      ⟨some 20, .call (.f 83) [.rd] false [.g [(.i .i64), (.i .i64)]] [(.t 19)], none⟩,
      ⟨some 21, .iad 2 (.t 14) (.t 15), none⟩,
      ⟨none, .store 2 (.t 21) (.t 20), none⟩])) (
  .reg false [⟨some 12, .mv (.t 4), none⟩,
    ⟨some 13, .bin .add (.t 12) (.c (.v (.int .i64 1))), none⟩,
    ⟨some 4, .mv (.t 13), none⟩])))
def e38x0 : Exits := [((.exit 0), [(3, .o 2)])]
noncomputable def l38x0 (T : Table) (k : Nat) := loopN (evalC ⟨T, []⟩ k b38x0 (Ex × List AV)) [0, 3, 4] e38x0
def a38 : AFun := ⟨[.rd], false, [.t 2], (
  .seq (.reg false [⟨some 2, .mv (.c (.o 2 [])), none⟩]) (
  .seq (.reg false [⟨some 5, .mv (.t 0), none⟩,
    ⟨some 6, .len false (.t 5), none⟩,
    ⟨some 7, .mk [(.v (.int .i64 0)), (.v (.int .i64 0))] 16 (.t 6) (.t 6), none⟩,
    ⟨some 3, .mv (.t 7), none⟩]) (
  .seq (.seq (.reg false [⟨some 4, .mv (.c (.v (.int .i64 0))), none⟩]) (
  .block 0 (.loop [0, 3, 4] e38x0 b38x0))) (
  .seq (.reg false [⟨some 22, .mv (.t 3), none⟩,
    ⟨some 2, .mv (.t 22), none⟩]) (
  .ret)))))⟩
theorem l38x0s (T : Table) (k n : Nat) (l2 : Rows) (l3 : Rows) (n4 : Int) : l38x0 T k (n + 1) [(.fz 2 l2), (.o 2 l3), (.v (.int .i64 n4))] = (
 bif (decide (n4 < (l2.length : Int))) then (
 tst (decide (0 ≤ n4)) (
 look l2 (Int.toNat n4) fun r5 =>
 cI .i64 r5 0 fun n6 =>
 cI .i64 r5 1 fun n7 =>
 callT T 83 [(.g [(.v (.int .i64 n6)), (.v (.int .i64 n7))])] fun o8 =>
 oG o8.res fun r9 =>
 tst (Nat.beq r9.length 2) (
 cI .i64 r9 0 fun n10 =>
 cI .i64 r9 1 fun n11 =>
 tst (decide (0 ≤ n4) && decide (Int.toNat n4 < l3.length)) (
 l38x0 T k n [(.fz 2 l2), (.o 2 (setD (setD l3 (Int.toNat n4) 0 (.v (.int .i64 n10))) (Int.toNat n4) 1 (.v (.int .i64 n11)))), (.v (.int .i64 (IntKind.wrap .i64 (n4 + 1))))])))) else (
 some ((.exit 0), [(.o 2 l3)]))) := by kernel_rfl
theorem a38q (T : Table) (k : Nat) (l1 : Rows) : evalF T k a38 [(.d (.s 2 l1))] = (
 tst (cutOk (l1.length : Int) (l1.length : Int) maxLen && decide (Int.toNat (l1.length : Int) * 16 ≤ maxBytes)) (
 aft (l38x0 T k k [(.fz 2 l1), (.o 2 (List.replicate (Int.toNat (l1.length : Int)) [(.v (.int .i64 0)), (.v (.int .i64 0))])), (.v (.int .i64 0))]) fun e12 ys13 =>
 bif e12.same (.exit 0) then (
 aV ys13 0 fun x14 =>
 aO 2 x14 fun l15 =>
 some ⟨(.d (.s 2 l15)), []⟩) else (
 none))) := by kernel_rfl
/- loop.example/g00119/laws.toIsle -/

def a10 : AFun := ⟨[.rd], false, [.c 2 true [.s, (.i .i64), (.i .i64), (.sl 7), (.sl 2)]], (
  .seq (.reg false [⟨some 1, .box (.t 0), none⟩,
    ⟨some 2, .alloc [(.v (.string ByteArray.empty)), (.v (.int .i64 0)), (.v (.int .i64 0)), (.s 7 []), (.s 2 [])], none⟩]) (
  .seq (.reg false [⟨some 3, .alloc [(.v (.string ByteArray.empty)), (.v (.int .i64 0)), (.v (.int .i64 0)), (.s 7 []), (.s 2 [])], none⟩]) (
  .seq (.reg false [⟨some 4, .fad 0 (.t 1), none⟩,
    ⟨some 5, .load false [.s] (.t 4), none⟩,
    ⟨some 6, .fad 0 (.t 3), none⟩,
    ⟨none, .store 1 (.t 6) (.t 5), none⟩]) (
  .seq (.reg false [⟨some 7, .fad 1 (.t 1), none⟩,
    ⟨some 8, .load false [(.i .i64)] (.t 7), none⟩,
    ⟨some 9, .fad 1 (.t 3), none⟩,
    ⟨none, .store 1 (.t 9) (.t 8), none⟩]) (
  .seq (.reg false [⟨some 10, .fad 2 (.t 1), none⟩,
    ⟨some 11, .load false [(.i .i64)] (.t 10), none⟩,
    ⟨some 12, .fad 2 (.t 3), none⟩,
    ⟨none, .store 1 (.t 12) (.t 11), none⟩]) (
  .seq (.reg false [⟨some 13, .fad 3 (.t 1), none⟩,
    ⟨some 14, .load false [(.sl 7)] (.t 13), none⟩,
    ⟨some 15, .call (.f 37) [.rd] false [.c (.sl 7)] [(.t 14)], none⟩,
    ⟨some 16, .fad 3 (.t 3), none⟩,
    ⟨none, .store 1 (.t 16) (.t 15), none⟩]) (
  .seq (.reg false [⟨some 17, .fad 4 (.t 1), none⟩,
    ⟨some 18, .load false [(.sl 2)] (.t 17), none⟩,
    ⟨some 19, .call (.f 38) [.rd] false [.c (.sl 2)] [(.t 18)], none⟩,
    ⟨some 20, .fad 4 (.t 3), none⟩,
    ⟨none, .store 1 (.t 20) (.t 19), none⟩]) (
  .seq (.reg false [⟨some 21, .load true [.s, (.i .i64), (.i .i64), (.sl 7), (.sl 2)] (.t 3), none⟩,
    ⟨none, .store 5 (.t 2) (.t 21), none⟩]) (
  .ret)))))))))⟩

theorem a10q (T : Table) (k : Nat) (s1 : ByteArray) (n2 : Int) (n3 : Int) (l4 : Rows) (l5 : Rows) : evalF T k a10 [(.g [(.v (.string s1)), (.v (.int .i64 n2)), (.v (.int .i64 n3)), (.s 7 l4), (.s 2 l5)])] = (
 callT T 37 [(.d (.s 7 l4))] fun o6 =>
 oD o6.res fun d7 =>
 dL 7 d7 fun l8 =>
 callT T 38 [(.d (.s 2 l5))] fun o9 =>
 oD o9.res fun d10 =>
 dL 2 d10 fun l11 =>
 some ⟨(.g [(.v (.string s1)), (.v (.int .i64 n2)), (.v (.int .i64 n3)), (.s 7 l8), (.s 2 l11)]), []⟩) := by kernel_rfl
/- loop.example/g00119/laws.toMsg -/

def a11 : AFun := ⟨[.rd], false, [.c 2 true [(.i .i64), .s, (.i .i64), (.sl 7), (.sl 2)]], (
  .seq (.reg false [⟨some 1, .box (.t 0), none⟩,
    ⟨some 2, .alloc [(.v (.int .i64 0)), (.v (.string ByteArray.empty)), (.v (.int .i64 0)), (.s 7 []), (.s 2 [])], none⟩]) (
  .seq (.reg false [⟨some 3, .alloc [(.v (.int .i64 0)), (.v (.string ByteArray.empty)), (.v (.int .i64 0)), (.s 7 []), (.s 2 [])], none⟩]) (
  .seq (.reg false [⟨some 4, .fad 0 (.t 1), none⟩,
    ⟨some 5, .load false [(.i .i64)] (.t 4), none⟩,
    ⟨some 6, .fad 0 (.t 3), none⟩,
    ⟨none, .store 1 (.t 6) (.t 5), none⟩]) (
  .seq (.reg false [⟨some 7, .fad 1 (.t 1), none⟩,
    ⟨some 8, .load false [.s] (.t 7), none⟩,
    ⟨some 9, .fad 1 (.t 3), none⟩,
    ⟨none, .store 1 (.t 9) (.t 8), none⟩]) (
  .seq (.reg false [⟨some 10, .fad 2 (.t 1), none⟩,
    ⟨some 11, .load false [(.i .i64)] (.t 10), none⟩,
    ⟨some 12, .fad 2 (.t 3), none⟩,
    ⟨none, .store 1 (.t 12) (.t 11), none⟩]) (
  .seq (.reg false [⟨some 13, .fad 3 (.t 1), none⟩,
    ⟨some 14, .load false [(.sl 7)] (.t 13), none⟩,
    ⟨some 15, .call (.f 37) [.rd] false [.c (.sl 7)] [(.t 14)], none⟩,
    ⟨some 16, .fad 3 (.t 3), none⟩,
    ⟨none, .store 1 (.t 16) (.t 15), none⟩]) (
  .seq (.reg false [⟨some 17, .fad 4 (.t 1), none⟩,
    ⟨some 18, .load false [(.sl 2)] (.t 17), none⟩,
    ⟨some 19, .call (.f 38) [.rd] false [.c (.sl 2)] [(.t 18)], none⟩,
    ⟨some 20, .fad 4 (.t 3), none⟩,
    ⟨none, .store 1 (.t 20) (.t 19), none⟩]) (
  .seq (.reg false [⟨some 21, .load true [(.i .i64), .s, (.i .i64), (.sl 7), (.sl 2)] (.t 3), none⟩,
    ⟨none, .store 5 (.t 2) (.t 21), none⟩]) (
  .ret)))))))))⟩

theorem a11q (T : Table) (k : Nat) (n1 : Int) (s2 : ByteArray) (n3 : Int) (l4 : Rows) (l5 : Rows) : evalF T k a11 [(.g [(.v (.int .i64 n1)), (.v (.string s2)), (.v (.int .i64 n3)), (.s 7 l4), (.s 2 l5)])] = (
 callT T 37 [(.d (.s 7 l4))] fun o6 =>
 oD o6.res fun d7 =>
 dL 7 d7 fun l8 =>
 callT T 38 [(.d (.s 2 l5))] fun o9 =>
 oD o9.res fun d10 =>
 dL 2 d10 fun l11 =>
 some ⟨(.g [(.v (.int .i64 n1)), (.v (.string s2)), (.v (.int .i64 n3)), (.s 7 l8), (.s 2 l11)]), []⟩) := by kernel_rfl
/- loop.example/g00119/impl.within -/

def a85 : AFun := ⟨[.rd, .rd, .rd], false, [.t 6], (
  .seq (.reg false [⟨some 6, .mv (.c (.v (.bool false))), none⟩]) (
  .seq (.reg false [⟨some 7, .mv (.t 0), none⟩,
    ⟨some 8, .mv (.t 1), none⟩,
    ⟨some 9, .bin .geq (.t 7) (.t 8), none⟩,
    ⟨some 10, .mv (.t 9), none⟩,
    ⟨some 11, .mv (.t 0), some (10, true)⟩,
    ⟨some 12, .mv (.t 2), some (10, true)⟩,
    ⟨some 13, .bin .leq (.t 11) (.t 12), some (10, true)⟩,
    ⟨some 14, .pick (.t 10) (.t 13) (.c (.v (.bool false))), none⟩,
    ⟨some 6, .mv (.t 14), none⟩]) (
  .ret)))⟩

theorem a85q (T : Table) (k : Nat) (n1 : Int) (n2 : Int) (n3 : Int) : evalF T k a85 [(.d (.v (.int .i64 n1))), (.d (.v (.int .i64 n2))), (.d (.v (.int .i64 n3)))] = (
 bif (decide (n1 ≥ n2)) == true then (
 some ⟨(.d (.v (.bool (decide (n1 ≤ n3))))), []⟩) else (
 some ⟨(.d (.v (.bool false))), []⟩)) := by kernel_rfl
/- loop.example/g00119/impl.NameOk -/
def b84x0 : ACode := (
  .seq (.reg false [⟨some 8, .bin .lss (.t 7) (.t 6), none⟩]) (
  .seq (.cond (.t 8) (.skip) (.exit 0)) (
  .seq (.block 1 (.seq (.reg false [⟨some 9, .mv (.t 7), none⟩,
      ⟨some 3, .mv (.t 9), none⟩]) (
    .seq (.reg false [⟨some 10, .mv (.t 0), none⟩,
      ⟨some 11, .mv (.t 3), none⟩,
      ⟨some 12, .idx (.t 10) (.t 11), none⟩,
      ⟨some 4, .mv (.t 12), none⟩]) (
    .seq (.reg false [⟨some 13, .mv (.t 4), none⟩,
      ⟨some 14, .bin .lss (.t 13) (.c (.v (.int .u8 97))), none⟩,
      ⟨some 15, .mv (.t 14), none⟩,
      ⟨some 16, .mv (.t 4), some (15, false)⟩,
      ⟨some 17, .bin .gtr (.t 16) (.c (.v (.int .u8 122))), some (15, false)⟩,
      ⟨some 18, .pick (.t 15) (.c (.v (.bool true))) (.t 17), none⟩,
      ⟨some 19, .mv (.t 18), none⟩,
      ⟨some 20, .mv (.t 4), some (19, true)⟩,
      ⟨some 21, .bin .lss (.t 20) (.c (.v (.int .u8 48))), some (19, true)⟩,
      ⟨some 22, .mv (.t 21), some (19, true)⟩,
      ⟨some 23, .mv (.t 4), some (22, false)⟩,
      ⟨some 24, .bin .gtr (.t 23) (.c (.v (.int .u8 57))), some (22, false)⟩,
      ⟨some 25, .pick (.t 22) (.c (.v (.bool true))) (.t 24), some (19, true)⟩,
      ⟨some 26, .pick (.t 19) (.t 25) (.c (.v (.bool false))), none⟩,
      ⟨some 27, .mv (.t 26), none⟩,
      ⟨some 28, .mv (.t 4), some (27, true)⟩,
      ⟨some 29, .bin .neq (.t 28) (.c (.v (.int .u8 45))), some (27, true)⟩,
      ⟨some 30, .pick (.t 27) (.t 29) (.c (.v (.bool false))), none⟩]) (
    .cond (.t 30) (.seq (.reg false [⟨some 2, .mv (.c (.v (.bool false))), none⟩]) (
      .ret)) (.skip)))))) (
  .reg false [⟨some 31, .bin .add (.t 7) (.c (.v (.int .i64 1))), none⟩,
    ⟨some 7, .mv (.t 31), none⟩]))))
def e84x0 : Exits := [(.ret, [(2, .c .b)]), ((.exit 0), [(0, .c .s)])]
noncomputable def l84x0 (T : Table) (k : Nat) := loopN (evalC ⟨T, []⟩ k b84x0 (Ex × List AV)) [0, 6, 7] e84x0
def a84 : AFun := ⟨[.rd], false, [.t 2], (
  .seq (.reg false [⟨some 2, .mv (.c (.v (.bool false))), none⟩]) (
  .seq (.seq (.reg false [⟨some 5, .mv (.t 0), none⟩,
    ⟨some 6, .len true (.t 5), none⟩,
    ⟨some 7, .mv (.c (.v (.int .i64 0))), none⟩]) (
  .block 0 (.loop [0, 6, 7] e84x0 b84x0))) (
  .seq (.reg false [⟨some 32, .mv (.t 0), none⟩,
    ⟨some 33, .len true (.t 32), none⟩,
    ⟨some 34, .call (.f 85) [.rd, .rd, .rd] false [.c .b] [(.t 33), (.c (.v (.int .i64 1))), (.c (.v (.int .i64 20)))], none⟩,
    ⟨some 35, .mv (.t 34), none⟩,
    ⟨some 36, .mv (.t 0), some (35, true)⟩,
    ⟨some 37, .idx (.t 36) (.c (.v (.int .i64 0))), some (35, true)⟩,
    ⟨some 38, .bin .neq (.t 37) (.c (.v (.int .u8 45))), some (35, true)⟩,
    ⟨some 39, .pick (.t 35) (.t 38) (.c (.v (.bool false))), none⟩,
    ⟨some 40, .mv (.t 39), none⟩,
    ⟨some 41, .mv (.t 0), some (40, true)⟩,
    ⟨some 42, .mv (.t 0), some (40, true)⟩,
    ⟨some 43, .len true (.t 42), some (40, true)⟩,
    ⟨some 44, .bin .sub (.t 43) (.c (.v (.int .i64 1))), some (40, true)⟩,
    ⟨some 45, .idx (.t 41) (.t 44), some (40, true)⟩,
    ⟨some 46, .bin .neq (.t 45) (.c (.v (.int .u8 45))), some (40, true)⟩,
    ⟨some 47, .pick (.t 40) (.t 46) (.c (.v (.bool false))), none⟩,
    ⟨some 2, .mv (.t 47), none⟩]) (
  .ret))))⟩
theorem l84x0s (T : Table) (k n : Nat) (s2 : ByteArray) (n3 : Int) (n4 : Int) : l84x0 T k (n + 1) [(.v (.string s2)), (.v (.int .i64 n3)), (.v (.int .i64 n4))] = (
 bif (decide (n4 < n3)) then (
 tst (decide (0 ≤ n4)) (
 byteAt s2 (Int.toNat n4) fun c5 =>
 bif (decide ((c5.toNat : Int) < 97)) == false then (
 bif (decide ((c5.toNat : Int) > 122)) == true then (
 bif (decide ((c5.toNat : Int) < 48)) == false then (
 bif (decide ((c5.toNat : Int) > 57)) == true then (
 bif ((c5.toNat : Int) != 45) then (
 some (.ret, [(.v (.bool false))])) else (
 l84x0 T k n [(.v (.string s2)), (.v (.int .i64 n3)), (.v (.int .i64 (IntKind.wrap .i64 (n4 + 1))))])) else (
 l84x0 T k n [(.v (.string s2)), (.v (.int .i64 n3)), (.v (.int .i64 (IntKind.wrap .i64 (n4 + 1))))])) else (
 bif ((c5.toNat : Int) != 45) then (
 some (.ret, [(.v (.bool false))])) else (
 l84x0 T k n [(.v (.string s2)), (.v (.int .i64 n3)), (.v (.int .i64 (IntKind.wrap .i64 (n4 + 1))))]))) else (
 l84x0 T k n [(.v (.string s2)), (.v (.int .i64 n3)), (.v (.int .i64 (IntKind.wrap .i64 (n4 + 1))))])) else (
 bif (decide ((c5.toNat : Int) < 48)) == false then (
 bif (decide ((c5.toNat : Int) > 57)) == true then (
 bif ((c5.toNat : Int) != 45) then (
 some (.ret, [(.v (.bool false))])) else (
 l84x0 T k n [(.v (.string s2)), (.v (.int .i64 n3)), (.v (.int .i64 (IntKind.wrap .i64 (n4 + 1))))])) else (
 l84x0 T k n [(.v (.string s2)), (.v (.int .i64 n3)), (.v (.int .i64 (IntKind.wrap .i64 (n4 + 1))))])) else (
 bif ((c5.toNat : Int) != 45) then (
 some (.ret, [(.v (.bool false))])) else (
 l84x0 T k n [(.v (.string s2)), (.v (.int .i64 n3)), (.v (.int .i64 (IntKind.wrap .i64 (n4 + 1))))]))))) else (
 some ((.exit 0), [(.v (.string s2))]))) := by kernel_rfl
theorem a84q (T : Table) (k : Nat) (s1 : ByteArray) : evalF T k a84 [(.d (.v (.string s1)))] = (
 aft (l84x0 T k k [(.v (.string s1)), (.v (.int .i64 (s1.size : Int))), (.v (.int .i64 0))]) fun e6 ys7 =>
 bif e6.same .ret then (
 aV ys7 0 fun x8 =>
 aB x8 fun b9 =>
 some ⟨(.d (.v (.bool b9))), []⟩) else (
 bif e6.same (.exit 0) then (
 aV ys7 0 fun x10 =>
 aS x10 fun s11 =>
 callT T 85 [(.d (.v (.int .i64 (s11.size : Int)))), (.d (.v (.int .i64 1))), (.d (.v (.int .i64 20)))] fun o12 =>
 oD o12.res fun d13 =>
 dB d13 fun b14 =>
 bif b14 == true then (
 tst (decide (0 ≤ 0)) (
 byteAt s11 (Int.toNat 0) fun c15 =>
 bif ((c15.toNat : Int) != 45) == true then (
 tst (decide (0 ≤ (IntKind.wrap .i64 ((s11.size : Int) - 1)))) (
 byteAt s11 (Int.toNat (IntKind.wrap .i64 ((s11.size : Int) - 1))) fun c16 =>
 some ⟨(.d (.v (.bool ((c16.toNat : Int) != 45)))), []⟩)) else (
 some ⟨(.d (.v (.bool false))), []⟩))) else (
 some ⟨(.d (.v (.bool false))), []⟩)) else (
 none))) := by kernel_rfl
/- loop.example/g00119/impl.isCopies -/

def a108 : AFun := ⟨[.rd], false, [.t 2], (
  .seq (.reg false [⟨some 2, .mv (.c (.v (.bool false))), none⟩]) (
  .seq (.reg false [⟨some 3, .mv (.t 0), none⟩,
    ⟨some 4, .call (.f 85) [.rd, .rd, .rd] false [.c .b] [(.t 3), (.c (.v (.int .i64 0))), (.c (.v (.int .i64 10000)))], none⟩,
    ⟨some 2, .mv (.t 4), none⟩]) (
  .ret)))⟩

theorem a108q (T : Table) (k : Nat) (n1 : Int) : evalF T k a108 [(.d (.v (.int .i64 n1)))] = (
 callT T 85 [(.d (.v (.int .i64 n1))), (.d (.v (.int .i64 0))), (.d (.v (.int .i64 10000)))] fun o2 =>
 oD o2.res fun d3 =>
 dB d3 fun b4 =>
 some ⟨(.d (.v (.bool b4))), []⟩) := by kernel_rfl
/- loop.example/g00119/impl.runsOk -/
def b86x0 : ACode := (
  .seq (.reg false [⟨some 8, .bin .lss (.t 7) (.t 6), none⟩]) (
  .seq (.cond (.t 8) (.skip) (.exit 0)) (
  .seq (.block 1 (.seq (.reg false [⟨some 9, .mv (.t 7), none⟩,
      ⟨some 10, .iad 2 (.t 5) (.t 7), none⟩,
      ⟨some 11, .load true [(.i .i64), (.i .i64)] (.t 10), none⟩,
      ⟨some 4, .alloc [(.v (.int .i64 0)), (.v (.int .i64 0))], none⟩,
      ⟨some 3, .mv (.t 9), none⟩,
      ⟨none, .store 2 (.t 4) (.t 11), none⟩]) (
    .seq (.dreg [] [(0, ⟨some 12, .fad 0 (.t 4), none⟩),
      (0, ⟨some 13, .load false [(.i .i64)] (.t 12), none⟩),
      (1, ⟨some 14, .call (.f 85) [.rd, .rd, .rd] false [.c .b] [(.t 13), (.c (.v (.int .i64 1))), (.c (.v (.int .i64 1000000)))], none⟩),
      (0, ⟨some 15, .un .not (.t 14), none⟩),
      (0, ⟨some 16, .mv (.t 15), none⟩),
      (0, ⟨some 17, .fad 1 (.t 4), some (16, false)⟩),
      (0, ⟨some 18, .load false [(.i .i64)] (.t 17), some (16, false)⟩),
      (1, ⟨some 19, .call (.f 108) [.rd] false [.c .b] [(.t 18)], some (16, false)⟩),
      (0, ⟨some 20, .un .not (.t 19), some (16, false)⟩),
      (0, ⟨some 21, .pick (.t 16) (.c (.v (.bool true))) (.t 20), none⟩),
      (0, ⟨some 22, .mv (.t 21), none⟩),
      (0, ⟨some 23, .mv (.t 3), some (22, false)⟩),
      (0, ⟨some 24, .bin .gtr (.t 23) (.c (.v (.int .i64 0))), some (22, false)⟩),
      (0, ⟨some 25, .mv (.t 24), some (22, false)⟩),
      (0, ⟨some 26, .mv (.t 0), some (25, true)⟩),
      (0, ⟨some 27, .mv (.t 3), some (25, true)⟩),
      (0, ⟨some 28, .bin .sub (.t 27) (.c (.v (.int .i64 1))), some (25, true)⟩),
      (0, ⟨some 29, .iad 2 (.t 26) (.t 28), some (25, true)⟩),
      (0, ⟨some 30, .fad 0 (.t 29), some (25, true)⟩),
      (0, ⟨some 31, .load false [(.i .i64)] (.t 30), some (25, true)⟩),
      (0, ⟨some 32, .fad 0 (.t 4), some (25, true)⟩),
      (0, ⟨some 33, .load false [(.i .i64)] (.t 32), some (25, true)⟩)] [⟨some 34, .bin .geq (.t 31) (.t 33), some (25, true)⟩,
      ⟨some 35, .pick (.t 25) (.t 34) (.c (.v (.bool false))), some (22, false)⟩,
      ⟨some 36, .pick (.t 22) (.c (.v (.bool true))) (.t 35), none⟩]) (
    .cond (.t 36) (.seq (.reg false [⟨some 2, .mv (.c (.v (.bool false))), none⟩]) (
      .ret)) (.skip))))) (
  .reg false [⟨some 37, .bin .add (.t 7) (.c (.v (.int .i64 1))), none⟩,
    ⟨some 7, .mv (.t 37), none⟩]))))
def e86x0 : Exits := [(.ret, [(2, .c .b)]), ((.exit 0), [(0, .c (.sl 2))])]
noncomputable def l86x0 (T : Table) (k : Nat) := loopN (evalC ⟨T, []⟩ k b86x0 (Ex × List AV)) [0, 5, 6, 7] e86x0
def a86 : AFun := ⟨[.rd], false, [.t 2], (
  .seq (.reg false [⟨some 2, .mv (.c (.v (.bool false))), none⟩]) (
  .seq (.seq (.reg false [⟨some 5, .mv (.t 0), none⟩,
    ⟨some 6, .len false (.t 5), none⟩,
    ⟨some 7, .mv (.c (.v (.int .i64 0))), none⟩]) (
  .block 0 (.loop [0, 5, 6, 7] e86x0 b86x0))) (
  .seq (.reg false [⟨some 38, .mv (.t 0), none⟩,
    ⟨some 39, .len false (.t 38), none⟩,
    ⟨some 40, .bin .leq (.t 39) (.c (.v (.int .i64 80))), none⟩,
    ⟨some 2, .mv (.t 40), none⟩]) (
  .ret))))⟩
theorem l86x0s (T : Table) (k n : Nat) (l2 : Rows) (l3 : Rows) (n4 : Int) (n5 : Int) : l86x0 T k (n + 1) [(.fz 2 l2), (.fz 2 l3), (.v (.int .i64 n4)), (.v (.int .i64 n5))] = (
 bif (decide (n5 < n4)) then (
 tst (decide (0 ≤ n5)) (
 look l3 (Int.toNat n5) fun r6 =>
 cI .i64 r6 0 fun n7 =>
 cI .i64 r6 1 fun n8 =>
 callT T 85 [(.d (.v (.int .i64 n7))), (.d (.v (.int .i64 1))), (.d (.v (.int .i64 1000000)))] fun o9 =>
 oD o9.res fun d10 =>
 dB d10 fun b11 =>
 bif (!b11) == false then (
 callT T 108 [(.d (.v (.int .i64 n8)))] fun o12 =>
 oD o12.res fun d13 =>
 dB d13 fun b14 =>
 bif (!b14) == false then (
 bif (decide (n5 > 0)) == true then (
 tst (decide (0 ≤ (IntKind.wrap .i64 (n5 - 1)))) (
 look l2 (Int.toNat (IntKind.wrap .i64 (n5 - 1))) fun r15 =>
 cI .i64 r15 0 fun n16 =>
 bif (decide (n16 ≥ n7)) then (
 some (.ret, [(.v (.bool false))])) else (
 l86x0 T k n [(.fz 2 l2), (.fz 2 l3), (.v (.int .i64 n4)), (.v (.int .i64 (IntKind.wrap .i64 (n5 + 1))))]))) else (
 l86x0 T k n [(.fz 2 l2), (.fz 2 l3), (.v (.int .i64 n4)), (.v (.int .i64 (IntKind.wrap .i64 (n5 + 1))))])) else (
 some (.ret, [(.v (.bool false))]))) else (
 some (.ret, [(.v (.bool false))])))) else (
 some ((.exit 0), [(.fz 2 l2)]))) := by kernel_rfl
theorem a86q (T : Table) (k : Nat) (l1 : Rows) : evalF T k a86 [(.d (.s 2 l1))] = (
 aft (l86x0 T k k [(.fz 2 l1), (.fz 2 l1), (.v (.int .i64 (l1.length : Int))), (.v (.int .i64 0))]) fun e17 ys18 =>
 bif e17.same .ret then (
 aV ys18 0 fun x19 =>
 aB x19 fun b20 =>
 some ⟨(.d (.v (.bool b20))), []⟩) else (
 bif e17.same (.exit 0) then (
 aV ys18 0 fun x21 =>
 aL 2 x21 fun l22 =>
 some ⟨(.d (.v (.bool (decide ((l22.length : Int) ≤ 80))))), []⟩) else (
 none))) := by kernel_rfl
/- loop.example/g00119/impl.namesOk -/
def b183x0 : ACode := (
  .seq (.reg false [⟨some 10, .bin .lss (.t 9) (.t 8), none⟩]) (
  .seq (.cond (.t 10) (.skip) (.exit 0)) (
  .seq (.block 1 (.seq (.reg false [⟨some 11, .mv (.t 9), none⟩,
      ⟨some 12, .iad 1 (.t 7) (.t 9), none⟩,
      ⟨some 13, .load false [.s] (.t 12), none⟩,
      ⟨some 5, .mv (.t 11), none⟩,
      ⟨some 6, .mv (.t 13), none⟩]) (
    .seq (.reg false [⟨some 14, .mv (.t 6), none⟩,
      ⟨some 15, .call (.f 84) [.rd] false [.c .b] [(.t 14)], none⟩,
      ⟨some 16, .un .not (.t 15), none⟩,
      ⟨some 17, .mv (.t 16), none⟩,
      ⟨some 18, .mv (.t 5), some (17, false)⟩,
      ⟨some 19, .bin .gtr (.t 18) (.c (.v (.int .i64 0))), some (17, false)⟩,
      ⟨some 20, .mv (.t 19), some (17, false)⟩,
      ⟨some 21, .mv (.t 0), some (20, true)⟩,
      ⟨some 22, .mv (.t 5), some (20, true)⟩,
      ⟨some 23, .bin .sub (.t 22) (.c (.v (.int .i64 1))), some (20, true)⟩,
      ⟨some 24, .iad 1 (.t 21) (.t 23), some (20, true)⟩,
      ⟨some 25, .load false [.s] (.t 24), some (20, true)⟩,
      ⟨some 26, .mv (.t 6), some (20, true)⟩,
      ⟨some 27, .bin .geq (.t 25) (.t 26), some (20, true)⟩,
      ⟨some 28, .pick (.t 20) (.t 27) (.c (.v (.bool false))), some (17, false)⟩,
      ⟨some 29, .pick (.t 17) (.c (.v (.bool true))) (.t 28), none⟩]) (
    .cond (.t 29) (.seq (.reg false [⟨some 4, .mv (.c (.v (.bool false))), none⟩]) (
      .ret)) (.skip))))) (
  .reg false [⟨some 30, .bin .add (.t 9) (.c (.v (.int .i64 1))), none⟩,
    ⟨some 9, .mv (.t 30), none⟩]))))
def e183x0 : Exits := [(.ret, [(4, .c .b)]), ((.exit 0), [(0, .c (.sl 1)), (1, .c (.i .i64))])]
noncomputable def l183x0 (T : Table) (k : Nat) := loopN (evalC ⟨T, []⟩ k b183x0 (Ex × List AV)) [0, 1, 7, 8, 9] e183x0
def a183 : AFun := ⟨[.rd, .rd], false, [.t 4], (
  .seq (.reg false [⟨some 4, .mv (.c (.v (.bool false))), none⟩]) (
  .seq (.seq (.reg false [⟨some 7, .mv (.t 0), none⟩,
    ⟨some 8, .len false (.t 7), none⟩,
    ⟨some 9, .mv (.c (.v (.int .i64 0))), none⟩]) (
  .block 0 (.loop [0, 1, 7, 8, 9] e183x0 b183x0))) (
  .seq (.reg false [⟨some 31, .mv (.t 0), none⟩,
    ⟨some 32, .len false (.t 31), none⟩,
    ⟨some 33, .mv (.t 1), none⟩,
    ⟨some 34, .bin .leq (.t 32) (.t 33), none⟩,
    ⟨some 4, .mv (.t 34), none⟩]) (
  .ret))))⟩
theorem l183x0s (T : Table) (k n : Nat) (l3 : Rows) (n4 : Int) (l5 : Rows) (n6 : Int) (n7 : Int) : l183x0 T k (n + 1) [(.fz 1 l3), (.v (.int .i64 n4)), (.fz 1 l5), (.v (.int .i64 n6)), (.v (.int .i64 n7))] = (
 bif (decide (n7 < n6)) then (
 tst (decide (0 ≤ n7)) (
 look l5 (Int.toNat n7) fun r8 =>
 cS r8 0 fun s9 =>
 callT T 84 [(.d (.v (.string s9)))] fun o10 =>
 oD o10.res fun d11 =>
 dB d11 fun b12 =>
 bif (!b12) == false then (
 bif (decide (n7 > 0)) == true then (
 tst (decide (0 ≤ (IntKind.wrap .i64 (n7 - 1)))) (
 look l3 (Int.toNat (IntKind.wrap .i64 (n7 - 1))) fun r13 =>
 cS r13 0 fun s14 =>
 bif (!(bytesLess s14 s9)) then (
 some (.ret, [(.v (.bool false))])) else (
 l183x0 T k n [(.fz 1 l3), (.v (.int .i64 n4)), (.fz 1 l5), (.v (.int .i64 n6)), (.v (.int .i64 (IntKind.wrap .i64 (n7 + 1))))]))) else (
 l183x0 T k n [(.fz 1 l3), (.v (.int .i64 n4)), (.fz 1 l5), (.v (.int .i64 n6)), (.v (.int .i64 (IntKind.wrap .i64 (n7 + 1))))])) else (
 some (.ret, [(.v (.bool false))])))) else (
 some ((.exit 0), [(.fz 1 l3), (.v (.int .i64 n4))]))) := by kernel_rfl
theorem a183q (T : Table) (k : Nat) (l1 : Rows) (n2 : Int) : evalF T k a183 [(.d (.s 1 l1)), (.d (.v (.int .i64 n2)))] = (
 aft (l183x0 T k k [(.fz 1 l1), (.v (.int .i64 n2)), (.fz 1 l1), (.v (.int .i64 (l1.length : Int))), (.v (.int .i64 0))]) fun e15 ys16 =>
 bif e15.same .ret then (
 aV ys16 0 fun x17 =>
 aB x17 fun b18 =>
 some ⟨(.d (.v (.bool b18))), []⟩) else (
 bif e15.same (.exit 0) then (
 aV ys16 0 fun x19 =>
 aL 1 x19 fun l20 =>
 aV ys16 1 fun x21 =>
 aI .i64 x21 fun n22 =>
 some ⟨(.d (.v (.bool (decide ((l20.length : Int) ≤ n22))))), []⟩) else (
 none))) := by kernel_rfl
/- loop.example/g00119/impl.shapeOk -/
def b168x0 : ACode := (
  .seq (.reg false [⟨some 30, .bin .lss (.t 29) (.t 28), none⟩]) (
  .seq (.cond (.t 30) (.skip) (.exit 1)) (
  .seq (.block 2 (.seq (.reg false [⟨some 31, .mv (.t 29), none⟩,
      ⟨some 7, .mv (.t 31), none⟩]) (
    .seq (.reg false [⟨some 32, .fad 1 (.t 1), none⟩,
      ⟨some 33, .load false [.s] (.t 32), none⟩,
      ⟨some 34, .mv (.t 7), none⟩,
      ⟨some 35, .idx (.t 33) (.t 34), none⟩,
      ⟨some 36, .conv (.int .i64) (.t 35), none⟩,
      ⟨some 37, .call (.f 85) [.rd, .rd, .rd] false [.c .b] [(.t 36), (.c (.v (.int .i64 32))), (.c (.v (.int .i64 126)))], none⟩,
      ⟨some 38, .un .not (.t 37), none⟩]) (
    .cond (.t 38) (.seq (.reg false [⟨some 2, .mv (.c (.v (.bool false))), none⟩]) (
      .ret)) (.skip))))) (
  .reg false [⟨some 39, .bin .add (.t 29) (.c (.v (.int .i64 1))), none⟩,
    ⟨some 29, .mv (.t 39), none⟩]))))
def e168x0 : Exits := [(.ret, [(2, .c .b)]), ((.exit 1), [(1, .b [.c (.i .i64), .c .s, .c (.i .i64), .c (.sl 1), .c (.sl 5)]), (4, .c .b), (5, .c .b), (6, .c .b)])]
noncomputable def l168x0 (T : Table) (k : Nat) := loopN (evalC ⟨T, []⟩ k b168x0 (Ex × List AV)) [1, 4, 5, 6, 28, 29] e168x0
def a168 : AFun := ⟨[.rd], false, [.t 2], (
  .seq (.reg false [⟨some 1, .box (.t 0), none⟩,
    ⟨some 2, .mv (.c (.v (.bool false))), none⟩]) (
  .seq (.dreg [] [(0, ⟨some 8, .fad 1 (.t 1), none⟩),
    (0, ⟨some 9, .load false [.s] (.t 8), none⟩),
    (0, ⟨some 10, .bin .eql (.t 9) (.c (.v (.string ({ data := #[] } : ByteArray)))), none⟩),
    (0, ⟨some 11, .fad 2 (.t 1), none⟩),
    (0, ⟨some 12, .load false [(.i .i64)] (.t 11), none⟩),
    (0, ⟨some 13, .bin .eql (.t 12) (.c (.v (.int .i64 0))), none⟩),
    (0, ⟨some 14, .fad 3 (.t 1), none⟩),
    (0, ⟨some 15, .load false [(.sl 1)] (.t 14), none⟩),
    (0, ⟨some 16, .len false (.t 15), none⟩),
    (0, ⟨some 17, .bin .eql (.t 16) (.c (.v (.int .i64 0))), none⟩),
    (0, ⟨some 18, .fad 4 (.t 1), none⟩),
    (0, ⟨some 19, .load false [(.sl 5)] (.t 18), none⟩),
    (0, ⟨some 20, .len false (.t 19), none⟩),
    (0, ⟨some 21, .bin .eql (.t 20) (.c (.v (.int .i64 0))), none⟩),
    (0, ⟨some 3, .mv (.t 10), none⟩),
    (0, ⟨some 4, .mv (.t 13), none⟩),
    (0, ⟨some 5, .mv (.t 17), none⟩)] [⟨some 6, .mv (.t 21), none⟩]) (
  .seq (.seq (.reg false [⟨some 22, .fad 0 (.t 1), none⟩,
    ⟨some 23, .load false [(.i .i64)] (.t 22), none⟩]) (
  .block 0 (.seq (.reg false [⟨some 25, .bin .eql (.t 23) (.c (.v (.int .i64 1))), none⟩,
      ⟨some 24, .mv (.t 25), none⟩]) (
    .cond (.t 24) (.seq (.seq (.reg false [⟨some 26, .fad 1 (.t 1), none⟩,
        ⟨some 27, .load false [.s] (.t 26), none⟩,
        ⟨some 28, .len true (.t 27), none⟩,
        ⟨some 29, .mv (.c (.v (.int .i64 0))), none⟩]) (
      .block 1 (.loop [1, 4, 5, 6, 28, 29] e168x0 b168x0))) (
      .reg false [⟨some 40, .fad 1 (.t 1), none⟩,
        ⟨some 41, .load false [.s] (.t 40), none⟩,
        ⟨some 42, .len true (.t 41), none⟩,
        ⟨some 43, .bin .leq (.t 42) (.c (.v (.int .i64 100))), none⟩,
        ⟨some 3, .mv (.t 43), none⟩])) (.seq (.reg false [⟨some 45, .bin .eql (.t 23) (.c (.v (.int .i64 2))), none⟩,
        ⟨some 44, .mv (.t 45), none⟩]) (
      .cond (.t 44) (.reg false [⟨some 4, .mv (.c (.v (.bool true))), none⟩]) (.seq (.reg false [⟨some 47, .bin .eql (.t 23) (.c (.v (.int .i64 3))), none⟩,
          ⟨some 46, .mv (.t 47), none⟩]) (
        .cond (.t 46) (.reg false [⟨some 48, .fad 2 (.t 1), none⟩,
            ⟨some 49, .load false [(.i .i64)] (.t 48), none⟩,
            ⟨some 50, .call (.f 85) [.rd, .rd, .rd] false [.c .b] [(.t 49), (.c (.v (.int .i64 0))), (.c (.v (.int .i64 1)))], none⟩,
            ⟨some 4, .mv (.t 50), none⟩]) (.seq (.reg false [⟨some 52, .bin .eql (.t 23) (.c (.v (.int .i64 4))), none⟩,
            ⟨some 51, .mv (.t 52), none⟩]) (
          .cond (.t 51) (.reg false [⟨some 6, .mv (.c (.v (.bool true))), none⟩]) (.seq (.reg false [⟨some 54, .bin .eql (.t 23) (.c (.v (.int .i64 5))), none⟩,
              ⟨some 53, .mv (.t 54), none⟩]) (
            .cond (.t 53) (.seq (.reg false [⟨some 55, .fad 3 (.t 1), none⟩,
                ⟨some 56, .load false [(.sl 1)] (.t 55), none⟩,
                ⟨some 57, .call (.f 183) [.rd, .rd] false [.c .b] [(.t 56), (.c (.v (.int .i64 300)))], none⟩,
                ⟨some 58, .mv (.t 57), none⟩,
                ⟨some 59, .fad 3 (.t 1), some (58, true)⟩,
                ⟨some 60, .load false [(.sl 1)] (.t 59), some (58, true)⟩,
                ⟨some 61, .len false (.t 60), some (58, true)⟩,
                ⟨some 62, .fad 4 (.t 1), some (58, true)⟩,
                ⟨some 63, .load false [(.sl 5)] (.t 62), some (58, true)⟩,
                ⟨some 64, .len false (.t 63), some (58, true)⟩,
                ⟨some 65, .bin .eql (.t 61) (.t 64), some (58, true)⟩,
                ⟨some 66, .pick (.t 58) (.t 65) (.c (.v (.bool false))), none⟩,
                ⟨some 5, .mv (.t 66), none⟩]) (
              .reg false [⟨some 6, .mv (.c (.v (.bool true))), none⟩])) (.seq (.reg false [⟨some 2, .mv (.c (.v (.bool false))), none⟩]) (
              .ret)))))))))))))) (
  .seq (.reg false [⟨some 67, .mv (.t 3), none⟩,
    ⟨some 68, .mv (.t 67), none⟩,
    ⟨some 69, .mv (.t 4), some (68, true)⟩,
    ⟨some 70, .pick (.t 68) (.t 69) (.c (.v (.bool false))), none⟩,
    ⟨some 71, .mv (.t 70), none⟩,
    ⟨some 72, .mv (.t 5), some (71, true)⟩,
    ⟨some 73, .pick (.t 71) (.t 72) (.c (.v (.bool false))), none⟩,
    ⟨some 74, .mv (.t 73), none⟩,
    ⟨some 75, .mv (.t 6), some (74, true)⟩,
    ⟨some 76, .pick (.t 74) (.t 75) (.c (.v (.bool false))), none⟩,
    ⟨some 2, .mv (.t 76), none⟩]) (
  .ret)))))⟩
theorem l168x0s (T : Table) (k n : Nat) (n6 : Int) (s7 : ByteArray) (n8 : Int) (l9 : Rows) (l10 : Rows) (b11 : Bool) (b12 : Bool) (b13 : Bool) (n14 : Int) (n15 : Int) : l168x0 T k (n + 1) [(.b [(.v (.int .i64 n6)), (.v (.string s7)), (.v (.int .i64 n8)), (.fz 1 l9), (.fz 5 l10)]), (.v (.bool b11)), (.v (.bool b12)), (.v (.bool b13)), (.v (.int .i64 n14)), (.v (.int .i64 n15))] = (
 bif (decide (n15 < n14)) then (
 tst (decide (0 ≤ n15)) (
 byteAt s7 (Int.toNat n15) fun c16 =>
 callT T 85 [(.d (.v (.int .i64 (IntKind.wrap .i64 (c16.toNat : Int))))), (.d (.v (.int .i64 32))), (.d (.v (.int .i64 126)))] fun o17 =>
 oD o17.res fun d18 =>
 dB d18 fun b19 =>
 bif (!b19) then (
 some (.ret, [(.v (.bool false))])) else (
 l168x0 T k n [(.b [(.v (.int .i64 n6)), (.v (.string s7)), (.v (.int .i64 n8)), (.fz 1 l9), (.fz 5 l10)]), (.v (.bool b11)), (.v (.bool b12)), (.v (.bool b13)), (.v (.int .i64 n14)), (.v (.int .i64 (IntKind.wrap .i64 (n15 + 1))))]))) else (
 some ((.exit 1), [(.b [(.v (.int .i64 n6)), (.v (.string s7)), (.v (.int .i64 n8)), (.fz 1 l9), (.fz 5 l10)]), (.v (.bool b11)), (.v (.bool b12)), (.v (.bool b13))]))) := by kernel_rfl
theorem a168q (T : Table) (k : Nat) (n1 : Int) (s2 : ByteArray) (n3 : Int) (l4 : Rows) (l5 : Rows) : evalF T k a168 [(.g [(.v (.int .i64 n1)), (.v (.string s2)), (.v (.int .i64 n3)), (.s 1 l4), (.s 5 l5)])] = (
 bif (n1 == 1) then (
 aft (l168x0 T k k [(.b [(.v (.int .i64 n1)), (.v (.string s2)), (.v (.int .i64 n3)), (.fz 1 l4), (.fz 5 l5)]), (.v (.bool (n3 == 0))), (.v (.bool ((l4.length : Int) == 0))), (.v (.bool ((l5.length : Int) == 0))), (.v (.int .i64 (s2.size : Int))), (.v (.int .i64 0))]) fun e20 ys21 =>
 bif e20.same .ret then (
 aV ys21 0 fun x22 =>
 aB x22 fun b23 =>
 some ⟨(.d (.v (.bool b23))), []⟩) else (
 bif e20.same (.exit 1) then (
 aV ys21 0 fun x24 =>
 aX x24 fun xs25 =>
 aV xs25 0 fun x26 =>
 aI .i64 x26 fun n27 =>
 aV xs25 1 fun x28 =>
 aS x28 fun s29 =>
 aV xs25 2 fun x30 =>
 aI .i64 x30 fun n31 =>
 aV xs25 3 fun x32 =>
 aL 1 x32 fun l33 =>
 aV xs25 4 fun x34 =>
 aL 5 x34 fun l35 =>
 aV ys21 1 fun x36 =>
 aB x36 fun b37 =>
 aV ys21 2 fun x38 =>
 aB x38 fun b39 =>
 aV ys21 3 fun x40 =>
 aB x40 fun b41 =>
 bif (decide ((s29.size : Int) ≤ 100)) == true then (
 bif b37 == true then (
 bif b39 == true then (
 some ⟨(.d (.v (.bool b41))), []⟩) else (
 some ⟨(.d (.v (.bool false))), []⟩)) else (
 some ⟨(.d (.v (.bool false))), []⟩)) else (
 some ⟨(.d (.v (.bool false))), []⟩)) else (
 none))) else (
 bif (n1 == 2) then (
 bif (bytesEq s2 ({ data := #[] } : ByteArray)) == true then (
 bif ((l4.length : Int) == 0) == true then (
 some ⟨(.d (.v (.bool ((l5.length : Int) == 0)))), []⟩) else (
 some ⟨(.d (.v (.bool false))), []⟩)) else (
 some ⟨(.d (.v (.bool false))), []⟩)) else (
 bif (n1 == 3) then (
 callT T 85 [(.d (.v (.int .i64 n3))), (.d (.v (.int .i64 0))), (.d (.v (.int .i64 1)))] fun o42 =>
 oD o42.res fun d43 =>
 dB d43 fun b44 =>
 bif (bytesEq s2 ({ data := #[] } : ByteArray)) == true then (
 bif b44 == true then (
 bif ((l4.length : Int) == 0) == true then (
 some ⟨(.d (.v (.bool ((l5.length : Int) == 0)))), []⟩) else (
 some ⟨(.d (.v (.bool false))), []⟩)) else (
 some ⟨(.d (.v (.bool false))), []⟩)) else (
 some ⟨(.d (.v (.bool false))), []⟩)) else (
 bif (n1 == 4) then (
 bif (bytesEq s2 ({ data := #[] } : ByteArray)) == true then (
 bif (n3 == 0) == true then (
 bif ((l4.length : Int) == 0) == true then (
 some ⟨(.d (.v (.bool true))), []⟩) else (
 some ⟨(.d (.v (.bool false))), []⟩)) else (
 some ⟨(.d (.v (.bool false))), []⟩)) else (
 some ⟨(.d (.v (.bool false))), []⟩)) else (
 bif (n1 == 5) then (
 callT T 183 [(.d (.s 1 l4)), (.d (.v (.int .i64 300)))] fun o45 =>
 oD o45.res fun d46 =>
 dB d46 fun b47 =>
 bif b47 == true then (
 bif (bytesEq s2 ({ data := #[] } : ByteArray)) == true then (
 bif (n3 == 0) == true then (
 bif ((l4.length : Int) == (l5.length : Int)) == true then (
 some ⟨(.d (.v (.bool true))), []⟩) else (
 some ⟨(.d (.v (.bool false))), []⟩)) else (
 some ⟨(.d (.v (.bool false))), []⟩)) else (
 some ⟨(.d (.v (.bool false))), []⟩)) else (
 bif (bytesEq s2 ({ data := #[] } : ByteArray)) == true then (
 bif (n3 == 0) == true then (
 some ⟨(.d (.v (.bool false))), []⟩) else (
 some ⟨(.d (.v (.bool false))), []⟩)) else (
 some ⟨(.d (.v (.bool false))), []⟩))) else (
 some ⟨(.d (.v (.bool false))), []⟩)))))) := by kernel_rfl
/- loop.example/g00119/impl.measured -/
def b147x0 : ACode := (
  .seq (.reg false [⟨some 19, .bin .lss (.t 18) (.t 17), none⟩]) (
  .seq (.cond (.t 19) (.skip) (.exit 0)) (
  .seq (.block 1 (.seq (.reg false [⟨some 20, .iad 5 (.t 16) (.t 18), none⟩,
      ⟨some 21, .load true [(.i .i64), .s, (.i .i64), (.sl 1), (.sl 5)] (.t 20), none⟩,
      ⟨some 7, .alloc [(.v (.int .i64 0)), (.v (.string ByteArray.empty)), (.v (.int .i64 0)), (.s 1 []), (.s 5 [])], none⟩,
      ⟨none, .store 5 (.t 7) (.t 21), none⟩]) (
    .seq (.reg false [⟨some 22, .mv (.t 5), none⟩,
      ⟨some 23, .load true [(.i .i64), .s, (.i .i64), (.sl 1), (.sl 5)] (.t 7), none⟩,
      ⟨some 24, .mv (.t 1), none⟩,
      ⟨some 25, .bin .sub (.t 24) (.c (.v (.int .i64 1))), none⟩,
      ⟨some 26, .call (.f 147) [.rd, .rd] false [.c (.i .i64)] [(.t 23), (.t 25)], none⟩,
      ⟨some 27, .bin .add (.t 22) (.t 26), none⟩,
      ⟨some 5, .mv (.t 27), none⟩]) (
    .seq (.reg false [⟨some 28, .mv (.t 5), none⟩,
      ⟨some 29, .bin .gtr (.t 28) (.c (.v (.int .i64 300))), none⟩]) (
    .cond (.t 29) (.seq (.reg false [⟨some 4, .mv (.c (.v (.int .i64 301))), none⟩]) (
      .ret)) (.skip)))))) (
  .reg false [⟨some 30, .bin .add (.t 18) (.c (.v (.int .i64 1))), none⟩,
    ⟨some 18, .mv (.t 30), none⟩]))))
def e147x0 : Exits := [(.ret, [(4, .c (.i .i64))]), ((.exit 0), [(5, .c (.i .i64))])]
noncomputable def l147x0 (T : Table) (k : Nat) := loopN (evalC ⟨T, []⟩ k b147x0 (Ex × List AV)) [1, 5, 16, 17, 18] e147x0
def a147 : AFun := ⟨[.rd, .rd], false, [.t 4], (
  .seq (.reg false [⟨some 2, .box (.t 0), none⟩,
    ⟨some 4, .mv (.c (.v (.int .i64 0))), none⟩]) (
  .seq (.seq (.reg false [⟨some 8, .mv (.t 1), none⟩,
    ⟨some 9, .bin .eql (.t 8) (.c (.v (.int .i64 0))), none⟩,
    ⟨some 10, .mv (.t 9), none⟩,
    ⟨some 11, .load true [(.i .i64), .s, (.i .i64), (.sl 1), (.sl 5)] (.t 2), some (10, false)⟩,
    ⟨some 12, .call (.f 168) [.rd] false [.c .b] [(.t 11)], some (10, false)⟩,
    ⟨some 13, .un .not (.t 12), some (10, false)⟩,
    ⟨some 14, .pick (.t 10) (.c (.v (.bool true))) (.t 13), none⟩]) (
  .cond (.t 14) (.seq (.reg false [⟨some 4, .mv (.c (.v (.int .i64 301))), none⟩]) (
    .ret)) (.skip))) (
  .seq (.reg false [⟨some 5, .mv (.c (.v (.int .i64 1))), none⟩]) (
  .seq (.seq (.reg false [⟨some 15, .fad 4 (.t 2), none⟩,
    ⟨some 16, .load false [(.sl 5)] (.t 15), none⟩,
    ⟨some 17, .len false (.t 16), none⟩,
    ⟨some 18, .mv (.c (.v (.int .i64 0))), none⟩]) (
  .block 0 (.loop [1, 5, 16, 17, 18] e147x0 b147x0))) (
  .seq (.reg false [⟨some 31, .mv (.t 5), none⟩,
    ⟨some 4, .mv (.t 31), none⟩]) (
  .ret))))))⟩
theorem l147x0s (T : Table) (k n : Nat) (n10 : Int) (n11 : Int) (l12 : Rows) (n13 : Int) (n14 : Int) : l147x0 T k (n + 1) [(.v (.int .i64 n10)), (.v (.int .i64 n11)), (.fz 5 l12), (.v (.int .i64 n13)), (.v (.int .i64 n14))] = (
 bif (decide (n14 < n13)) then (
 tst (decide (0 ≤ n14)) (
 look l12 (Int.toNat n14) fun r15 =>
 cI .i64 r15 0 fun n16 =>
 cS r15 1 fun s17 =>
 cI .i64 r15 2 fun n18 =>
 cL 1 r15 3 fun l19 =>
 cL 5 r15 4 fun l20 =>
 callT T 147 [(.g [(.v (.int .i64 n16)), (.v (.string s17)), (.v (.int .i64 n18)), (.s 1 l19), (.s 5 l20)]), (.d (.v (.int .i64 (IntKind.wrap .i64 (n10 - 1)))))] fun o21 =>
 oD o21.res fun d22 =>
 dI .i64 d22 fun n23 =>
 bif (decide ((IntKind.wrap .i64 (n11 + n23)) > 300)) then (
 some (.ret, [(.v (.int .i64 301))])) else (
 l147x0 T k n [(.v (.int .i64 n10)), (.v (.int .i64 (IntKind.wrap .i64 (n11 + n23)))), (.fz 5 l12), (.v (.int .i64 n13)), (.v (.int .i64 (IntKind.wrap .i64 (n14 + 1))))]))) else (
 some ((.exit 0), [(.v (.int .i64 n11))]))) := by kernel_rfl
theorem a147q (T : Table) (k : Nat) (n1 : Int) (s2 : ByteArray) (n3 : Int) (l4 : Rows) (l5 : Rows) (n6 : Int) : evalF T k a147 [(.g [(.v (.int .i64 n1)), (.v (.string s2)), (.v (.int .i64 n3)), (.s 1 l4), (.s 5 l5)]), (.d (.v (.int .i64 n6)))] = (
 bif (n6 == 0) == false then (
 callT T 168 [(.g [(.v (.int .i64 n1)), (.v (.string s2)), (.v (.int .i64 n3)), (.s 1 l4), (.s 5 l5)])] fun o7 =>
 oD o7.res fun d8 =>
 dB d8 fun b9 =>
 bif (!b9) then (
 some ⟨(.d (.v (.int .i64 301))), []⟩) else (
 aft (l147x0 T k k [(.v (.int .i64 n6)), (.v (.int .i64 1)), (.fz 5 l5), (.v (.int .i64 (l5.length : Int))), (.v (.int .i64 0))]) fun e24 ys25 =>
 bif e24.same .ret then (
 aV ys25 0 fun x26 =>
 aI .i64 x26 fun n27 =>
 some ⟨(.d (.v (.int .i64 n27))), []⟩) else (
 bif e24.same (.exit 0) then (
 aV ys25 0 fun x28 =>
 aI .i64 x28 fun n29 =>
 some ⟨(.d (.v (.int .i64 n29))), []⟩) else (
 none)))) else (
 some ⟨(.d (.v (.int .i64 301))), []⟩)) := by kernel_rfl
/- loop.example/g00119/impl.ValueOk -/

def a125 : AFun := ⟨[.rd], false, [.t 2], (
  .seq (.reg false [⟨some 1, .box (.t 0), none⟩,
    ⟨some 2, .mv (.c (.v (.bool false))), none⟩]) (
  .seq (.reg false [⟨some 3, .load true [(.i .i64), .s, (.i .i64), (.sl 1), (.sl 5)] (.t 1), none⟩,
    ⟨some 4, .call (.f 147) [.rd, .rd] false [.c (.i .i64)] [(.t 3), (.c (.v (.int .i64 6)))], none⟩,
    ⟨some 5, .bin .leq (.t 4) (.c (.v (.int .i64 300))), none⟩,
    ⟨some 2, .mv (.t 5), none⟩]) (
  .ret)))⟩

theorem a125q (T : Table) (k : Nat) (n1 : Int) (s2 : ByteArray) (n3 : Int) (l4 : Rows) (l5 : Rows) : evalF T k a125 [(.g [(.v (.int .i64 n1)), (.v (.string s2)), (.v (.int .i64 n3)), (.s 1 l4), (.s 5 l5)])] = (
 callT T 147 [(.g [(.v (.int .i64 n1)), (.v (.string s2)), (.v (.int .i64 n3)), (.s 1 l4), (.s 5 l5)]), (.d (.v (.int .i64 6)))] fun o6 =>
 oD o6.res fun d7 =>
 dI .i64 d7 fun n8 =>
 some ⟨(.d (.v (.bool (decide (n8 ≤ 300))))), []⟩) := by kernel_rfl
/- loop.example/g00119/impl.WorksOk -/
def b87x0 : ACode := (
  .seq (.reg false [⟨some 8, .bin .lss (.t 7) (.t 6), none⟩]) (
  .seq (.cond (.t 8) (.skip) (.exit 0)) (
  .seq (.block 1 (.seq (.reg false [⟨some 9, .mv (.t 7), none⟩,
      ⟨some 10, .iad 7 (.t 5) (.t 7), none⟩,
      ⟨some 11, .load true [(.i .i64), (.i .i64), (.i .i64), .s, (.i .i64), (.sl 1), (.sl 5)] (.t 10), none⟩,
      ⟨some 4, .alloc [(.v (.int .i64 0)), (.v (.int .i64 0)), (.v (.int .i64 0)), (.v (.string ByteArray.empty)), (.v (.int .i64 0)), (.s 1 []), (.s 5 [])], none⟩,
      ⟨some 3, .mv (.t 9), none⟩,
      ⟨none, .store 7 (.t 4) (.t 11), none⟩]) (
    .seq (.dreg [] [(0, ⟨some 12, .fad 0 (.t 4), none⟩),
      (0, ⟨some 13, .load false [(.i .i64)] (.t 12), none⟩),
      (1, ⟨some 14, .call (.f 85) [.rd, .rd, .rd] false [.c .b] [(.t 13), (.c (.v (.int .i64 1))), (.c (.v (.int .i64 1000000)))], none⟩),
      (0, ⟨some 15, .un .not (.t 14), none⟩),
      (0, ⟨some 16, .mv (.t 15), none⟩),
      (0, ⟨some 17, .fad 1 (.t 4), some (16, false)⟩),
      (0, ⟨some 18, .load false [(.i .i64)] (.t 17), some (16, false)⟩),
      (1, ⟨some 19, .call (.f 85) [.rd, .rd, .rd] false [.c .b] [(.t 18), (.c (.v (.int .i64 1))), (.c (.v (.int .i64 10000)))], some (16, false)⟩),
      (0, ⟨some 20, .un .not (.t 19), some (16, false)⟩),
      (0, ⟨some 21, .pick (.t 16) (.c (.v (.bool true))) (.t 20), none⟩),
      (0, ⟨some 22, .mv (.t 21), none⟩),
      (0, ⟨some 23, .fad 2 (.t 4), some (22, false)⟩),
      (0, ⟨some 24, .load true [(.i .i64), .s, (.i .i64), (.sl 1), (.sl 5)] (.t 23), some (22, false)⟩),
      (1, ⟨some 25, .call (.f 125) [.rd] false [.c .b] [(.t 24)], some (22, false)⟩),
      (0, ⟨some 26, .un .not (.t 25), some (22, false)⟩),
      (0, ⟨some 27, .pick (.t 22) (.c (.v (.bool true))) (.t 26), none⟩),
      (0, ⟨some 28, .mv (.t 27), none⟩),
      (0, ⟨some 29, .mv (.t 3), some (28, false)⟩),
      (0, ⟨some 30, .bin .gtr (.t 29) (.c (.v (.int .i64 0))), some (28, false)⟩),
      (0, ⟨some 31, .mv (.t 30), some (28, false)⟩),
      (0, ⟨some 32, .mv (.t 0), some (31, true)⟩),
      (0, ⟨some 33, .mv (.t 3), some (31, true)⟩),
      (0, ⟨some 34, .bin .sub (.t 33) (.c (.v (.int .i64 1))), some (31, true)⟩),
      (0, ⟨some 35, .iad 7 (.t 32) (.t 34), some (31, true)⟩),
      (0, ⟨some 36, .fad 0 (.t 35), some (31, true)⟩),
      (0, ⟨some 37, .load false [(.i .i64)] (.t 36), some (31, true)⟩),
      (0, ⟨some 38, .fad 0 (.t 4), some (31, true)⟩),
      (0, ⟨some 39, .load false [(.i .i64)] (.t 38), some (31, true)⟩)] [⟨some 40, .bin .geq (.t 37) (.t 39), some (31, true)⟩,
      ⟨some 41, .pick (.t 31) (.t 40) (.c (.v (.bool false))), some (28, false)⟩,
      ⟨some 42, .pick (.t 28) (.c (.v (.bool true))) (.t 41), none⟩]) (
    .cond (.t 42) (.seq (.reg false [⟨some 2, .mv (.c (.v (.bool false))), none⟩]) (
      .ret)) (.skip))))) (
  .reg false [⟨some 43, .bin .add (.t 7) (.c (.v (.int .i64 1))), none⟩,
    ⟨some 7, .mv (.t 43), none⟩]))))
def e87x0 : Exits := [(.ret, [(2, .c .b)]), ((.exit 0), [(0, .c (.sl 7))])]
noncomputable def l87x0 (T : Table) (k : Nat) := loopN (evalC ⟨T, []⟩ k b87x0 (Ex × List AV)) [0, 5, 6, 7] e87x0
def a87 : AFun := ⟨[.rd], false, [.t 2], (
  .seq (.reg false [⟨some 2, .mv (.c (.v (.bool false))), none⟩]) (
  .seq (.seq (.reg false [⟨some 5, .mv (.t 0), none⟩,
    ⟨some 6, .len false (.t 5), none⟩,
    ⟨some 7, .mv (.c (.v (.int .i64 0))), none⟩]) (
  .block 0 (.loop [0, 5, 6, 7] e87x0 b87x0))) (
  .seq (.reg false [⟨some 44, .mv (.t 0), none⟩,
    ⟨some 45, .len false (.t 44), none⟩,
    ⟨some 46, .bin .leq (.t 45) (.c (.v (.int .i64 40))), none⟩,
    ⟨some 2, .mv (.t 46), none⟩]) (
  .ret))))⟩
theorem l87x0s (T : Table) (k n : Nat) (l2 : Rows) (l3 : Rows) (n4 : Int) (n5 : Int) : l87x0 T k (n + 1) [(.fz 7 l2), (.fz 7 l3), (.v (.int .i64 n4)), (.v (.int .i64 n5))] = (
 bif (decide (n5 < n4)) then (
 tst (decide (0 ≤ n5)) (
 look l3 (Int.toNat n5) fun r6 =>
 cI .i64 r6 0 fun n7 =>
 cI .i64 r6 1 fun n8 =>
 cI .i64 r6 2 fun n9 =>
 cS r6 3 fun s10 =>
 cI .i64 r6 4 fun n11 =>
 cL 1 r6 5 fun l12 =>
 cL 5 r6 6 fun l13 =>
 callT T 85 [(.d (.v (.int .i64 n7))), (.d (.v (.int .i64 1))), (.d (.v (.int .i64 1000000)))] fun o14 =>
 oD o14.res fun d15 =>
 dB d15 fun b16 =>
 bif (!b16) == false then (
 callT T 85 [(.d (.v (.int .i64 n8))), (.d (.v (.int .i64 1))), (.d (.v (.int .i64 10000)))] fun o17 =>
 oD o17.res fun d18 =>
 dB d18 fun b19 =>
 bif (!b19) == false then (
 callT T 125 [(.g [(.v (.int .i64 n9)), (.v (.string s10)), (.v (.int .i64 n11)), (.s 1 l12), (.s 5 l13)])] fun o20 =>
 oD o20.res fun d21 =>
 dB d21 fun b22 =>
 bif (!b22) == false then (
 bif (decide (n5 > 0)) == true then (
 tst (decide (0 ≤ (IntKind.wrap .i64 (n5 - 1)))) (
 look l2 (Int.toNat (IntKind.wrap .i64 (n5 - 1))) fun r23 =>
 cI .i64 r23 0 fun n24 =>
 bif (decide (n24 ≥ n7)) then (
 some (.ret, [(.v (.bool false))])) else (
 l87x0 T k n [(.fz 7 l2), (.fz 7 l3), (.v (.int .i64 n4)), (.v (.int .i64 (IntKind.wrap .i64 (n5 + 1))))]))) else (
 l87x0 T k n [(.fz 7 l2), (.fz 7 l3), (.v (.int .i64 n4)), (.v (.int .i64 (IntKind.wrap .i64 (n5 + 1))))])) else (
 some (.ret, [(.v (.bool false))]))) else (
 some (.ret, [(.v (.bool false))]))) else (
 some (.ret, [(.v (.bool false))])))) else (
 some ((.exit 0), [(.fz 7 l2)]))) := by kernel_rfl
theorem a87q (T : Table) (k : Nat) (l1 : Rows) : evalF T k a87 [(.d (.s 7 l1))] = (
 aft (l87x0 T k k [(.fz 7 l1), (.fz 7 l1), (.v (.int .i64 (l1.length : Int))), (.v (.int .i64 0))]) fun e25 ys26 =>
 bif e25.same .ret then (
 aV ys26 0 fun x27 =>
 aB x27 fun b28 =>
 some ⟨(.d (.v (.bool b28))), []⟩) else (
 bif e25.same (.exit 0) then (
 aV ys26 0 fun x29 =>
 aL 7 x29 fun l30 =>
 some ⟨(.d (.v (.bool (decide ((l30.length : Int) ≤ 40))))), []⟩) else (
 none))) := by kernel_rfl
/- loop.example/g00119/impl.MsgOk -/

def a39 : AFun := ⟨[.rd], false, [.t 2], (
  .seq (.reg false [⟨some 1, .box (.t 0), none⟩,
    ⟨some 2, .mv (.c (.v (.bool false))), none⟩]) (
  .seq (.seq (.reg false [⟨some 3, .fad 0 (.t 1), none⟩,
    ⟨some 4, .load false [(.i .i64)] (.t 3), none⟩]) (
  .block 0 (.seq (.reg false [⟨some 6, .bin .eql (.t 4) (.c (.v (.int .i64 1))), none⟩,
      ⟨some 5, .mv (.t 6), none⟩]) (
    .cond (.t 5) (.seq (.reg false [⟨some 7, .fad 1 (.t 1), none⟩,
        ⟨some 8, .load false [.s] (.t 7), none⟩,
        ⟨some 9, .call (.f 84) [.rd] false [.c .b] [(.t 8)], none⟩,
        ⟨some 10, .mv (.t 9), none⟩,
        ⟨some 11, .fad 2 (.t 1), some (10, true)⟩,
        ⟨some 12, .load false [(.i .i64)] (.t 11), some (10, true)⟩,
        ⟨some 13, .call (.f 85) [.rd, .rd, .rd] false [.c .b] [(.t 12), (.c (.v (.int .i64 0))), (.c (.v (.int .i64 1000000)))], some (10, true)⟩,
        ⟨some 14, .pick (.t 10) (.t 13) (.c (.v (.bool false))), none⟩,
        ⟨some 15, .mv (.t 14), none⟩,
        ⟨some 16, .fad 4 (.t 1), some (15, true)⟩,
        ⟨some 17, .load false [(.sl 2)] (.t 16), some (15, true)⟩,
        ⟨some 18, .call (.f 86) [.rd] false [.c .b] [(.t 17)], some (15, true)⟩,
        ⟨some 19, .pick (.t 15) (.t 18) (.c (.v (.bool false))), none⟩,
        ⟨some 20, .mv (.t 19), none⟩,
        ⟨some 21, .fad 3 (.t 1), some (20, true)⟩,
        ⟨some 22, .load false [(.sl 7)] (.t 21), some (20, true)⟩,
        ⟨some 23, .len false (.t 22), some (20, true)⟩,
        ⟨some 24, .bin .eql (.t 23) (.c (.v (.int .i64 0))), some (20, true)⟩,
        ⟨some 25, .pick (.t 20) (.t 24) (.c (.v (.bool false))), none⟩,
        ⟨some 2, .mv (.t 25), none⟩]) (
      .ret)) (.seq (.reg false [⟨some 27, .bin .eql (.t 4) (.c (.v (.int .i64 2))), none⟩,
        ⟨some 26, .mv (.t 27), none⟩]) (
      .cond (.t 26) (.seq (.reg false [⟨some 28, .fad 1 (.t 1), none⟩,
          ⟨some 29, .load false [.s] (.t 28), none⟩,
          ⟨some 30, .call (.f 84) [.rd] false [.c .b] [(.t 29)], none⟩,
          ⟨some 31, .mv (.t 30), none⟩,
          ⟨some 32, .fad 2 (.t 1), some (31, true)⟩,
          ⟨some 33, .load false [(.i .i64)] (.t 32), some (31, true)⟩,
          ⟨some 34, .call (.f 85) [.rd, .rd, .rd] false [.c .b] [(.t 33), (.c (.v (.int .i64 1))), (.c (.v (.int .i64 1000000)))], some (31, true)⟩,
          ⟨some 35, .pick (.t 31) (.t 34) (.c (.v (.bool false))), none⟩,
          ⟨some 36, .mv (.t 35), none⟩,
          ⟨some 37, .fad 3 (.t 1), some (36, true)⟩,
          ⟨some 38, .load false [(.sl 7)] (.t 37), some (36, true)⟩,
          ⟨some 39, .call (.f 87) [.rd] false [.c .b] [(.t 38)], some (36, true)⟩,
          ⟨some 40, .pick (.t 36) (.t 39) (.c (.v (.bool false))), none⟩,
          ⟨some 41, .mv (.t 40), none⟩,
          ⟨some 42, .fad 4 (.t 1), some (41, true)⟩,
          ⟨some 43, .load false [(.sl 2)] (.t 42), some (41, true)⟩,
          ⟨some 44, .len false (.t 43), some (41, true)⟩,
          ⟨some 45, .bin .eql (.t 44) (.c (.v (.int .i64 0))), some (41, true)⟩,
          ⟨some 46, .pick (.t 41) (.t 45) (.c (.v (.bool false))), none⟩,
          ⟨some 2, .mv (.t 46), none⟩]) (
        .ret)) (.skip))))))) (
  .seq (.reg false [⟨some 2, .mv (.c (.v (.bool false))), none⟩]) (
  .ret))))⟩

theorem a39q (T : Table) (k : Nat) (n1 : Int) (s2 : ByteArray) (n3 : Int) (l4 : Rows) (l5 : Rows) : evalF T k a39 [(.g [(.v (.int .i64 n1)), (.v (.string s2)), (.v (.int .i64 n3)), (.s 7 l4), (.s 2 l5)])] = (
 bif (n1 == 1) then (
 callT T 84 [(.d (.v (.string s2)))] fun o6 =>
 oD o6.res fun d7 =>
 dB d7 fun b8 =>
 bif b8 == true then (
 callT T 85 [(.d (.v (.int .i64 n3))), (.d (.v (.int .i64 0))), (.d (.v (.int .i64 1000000)))] fun o9 =>
 oD o9.res fun d10 =>
 dB d10 fun b11 =>
 bif b11 == true then (
 callT T 86 [(.d (.s 2 l5))] fun o12 =>
 oD o12.res fun d13 =>
 dB d13 fun b14 =>
 bif b14 == true then (
 some ⟨(.d (.v (.bool ((l4.length : Int) == 0)))), []⟩) else (
 some ⟨(.d (.v (.bool false))), []⟩)) else (
 some ⟨(.d (.v (.bool false))), []⟩)) else (
 some ⟨(.d (.v (.bool false))), []⟩)) else (
 bif (n1 == 2) then (
 callT T 84 [(.d (.v (.string s2)))] fun o15 =>
 oD o15.res fun d16 =>
 dB d16 fun b17 =>
 bif b17 == true then (
 callT T 85 [(.d (.v (.int .i64 n3))), (.d (.v (.int .i64 1))), (.d (.v (.int .i64 1000000)))] fun o18 =>
 oD o18.res fun d19 =>
 dB d19 fun b20 =>
 bif b20 == true then (
 callT T 87 [(.d (.s 7 l4))] fun o21 =>
 oD o21.res fun d22 =>
 dB d22 fun b23 =>
 bif b23 == true then (
 some ⟨(.d (.v (.bool ((l5.length : Int) == 0)))), []⟩) else (
 some ⟨(.d (.v (.bool false))), []⟩)) else (
 some ⟨(.d (.v (.bool false))), []⟩)) else (
 some ⟨(.d (.v (.bool false))), []⟩)) else (
 some ⟨(.d (.v (.bool false))), []⟩))) := by kernel_rfl
/- slices.Clone[[]string,string] -/

def a148 : AFun := ⟨[.rd], false, [.t 2], (
  .seq (.reg false [⟨some 2, .mv (.c (.o 1 [])), none⟩]) (
  .seq (.seq (.reg false [⟨some 3, .mv (.t 0), none⟩,
    ⟨some 4, .more (.nilq 1 (.t 3)), none⟩]) (
  .cond (.t 4) (.seq (.reg false [⟨some 2, .mv (.c (.o 1 [])), none⟩]) (
    .ret)) (.skip))) (
  .seq (.reg false [⟨some 5, .lit 1 ([] : Rows) [], none⟩,
    ⟨some 6, .mv (.t 0), none⟩,
    ⟨some 7, .app 1 16 (.t 5) (.t 6), none⟩,
    ⟨some 2, .mv (.t 7), none⟩]) (
  .ret))))⟩

theorem a148q (T : Table) (k : Nat) (l1 : Rows) : evalF T k a148 [(.d (.s 1 l1))] = (
 bif List.isEmpty l1 then (
 agree (
 some ⟨(.d (.s 1 [])), []⟩) (
 tst (flatRows l1) (
 tst (decide ((([] : Rows).length + l1.length) * 16 ≤ maxBytes)) (
 some ⟨(.d (.s 1 (([] : Rows) ++ l1))), []⟩)))) else (
 tst (flatRows l1) (
 tst (decide ((([] : Rows).length + l1.length) * 16 ≤ maxBytes)) (
 some ⟨(.d (.s 1 (([] : Rows) ++ l1))), []⟩)))) := by kernel_rfl
/- loop.example/g00119/impl.copyValue -/
def b126x0 : ACode := (
  .seq (.reg false [⟨some 15, .bin .lss (.t 14) (.t 13), none⟩]) (
  .seq (.cond (.t 15) (.skip) (.exit 0)) (
  .seq (.block 1 (.seq (.reg false [⟨some 16, .iad 5 (.t 12) (.t 14), none⟩,
      ⟨some 17, .load true [(.i .i64), .s, (.i .i64), (.sl 1), (.sl 5)] (.t 16), none⟩,
      ⟨some 5, .alloc [(.v (.int .i64 0)), (.v (.string ByteArray.empty)), (.v (.int .i64 0)), (.s 1 []), (.s 5 [])], none⟩,
      ⟨none, .store 5 (.t 5) (.t 17), none⟩]) (
    .reg false [⟨some 18, .mv (.t 3), none⟩,
      ⟨some 19, .load true [(.i .i64), .s, (.i .i64), (.sl 1), (.sl 5)] (.t 5), none⟩,
      ⟨some 20, .call (.f 126) [.rd] false [.g [(.i .i64), .s, (.i .i64), (.sl 1), (.sl 5)]] [(.t 19)], none⟩,
      ⟨some 21, .lit 5 ([[(.v (.int .i64 0)), (.v (.string ByteArray.empty)), (.v (.int .i64 0)), (.s 1 []), (.s 5 [])]] : Rows) [(0, (.t 20))], none⟩,
      ⟨some 22, .app 5 80 (.t 18) (.t 21), none⟩,
      ⟨some 3, .mv (.t 22), none⟩]))) (
  .reg false [⟨some 23, .bin .add (.t 14) (.c (.v (.int .i64 1))), none⟩,
    ⟨some 14, .mv (.t 23), none⟩]))))
def e126x0 : Exits := [((.exit 0), [(1, .b [.c (.i .i64), .c .s, .c (.i .i64), .o 1, .c (.sl 5)]), (2, .b [.c (.i .i64), .c .s, .c (.i .i64), .o 1, .o 5]), (3, .o 5)])]
noncomputable def l126x0 (T : Table) (k : Nat) := loopN (evalC ⟨T, []⟩ k b126x0 (Ex × List AV)) [1, 2, 3, 12, 13, 14] e126x0
def a126 : AFun := ⟨[.rd], false, [.c 2 true [(.i .i64), .s, (.i .i64), (.sl 1), (.sl 5)]], (
  .seq (.reg false [⟨some 1, .box (.t 0), none⟩,
    ⟨some 2, .alloc [(.v (.int .i64 0)), (.v (.string ByteArray.empty)), (.v (.int .i64 0)), (.s 1 []), (.s 5 [])], none⟩]) (
  .seq (.reg false [⟨some 6, .fad 3 (.t 1), none⟩,
    ⟨some 7, .load false [(.sl 1)] (.t 6), none⟩,
    ⟨some 8, .call (.f 148) [.rd] false [.c (.sl 1)] [(.t 7)], none⟩,
    ⟨some 9, .fad 3 (.t 1), none⟩,
    ⟨none, .store 1 (.t 9) (.t 8), none⟩]) (
  .seq (.reg false [⟨some 10, .lit 5 ([] : Rows) [], none⟩,
    ⟨some 3, .mv (.t 10), none⟩]) (
  .seq (.seq (.reg false [⟨some 11, .fad 4 (.t 1), none⟩,
    ⟨some 12, .load false [(.sl 5)] (.t 11), none⟩,
    ⟨some 13, .len false (.t 12), none⟩,
    ⟨some 14, .mv (.c (.v (.int .i64 0))), none⟩]) (
  .block 0 (.loop [1, 2, 3, 12, 13, 14] e126x0 b126x0))) (
  .seq (.reg false [⟨some 24, .mv (.t 3), none⟩,
    ⟨some 25, .fad 4 (.t 1), none⟩,
    ⟨none, .store 1 (.t 25) (.t 24), none⟩]) (
  .seq (.reg false [⟨some 26, .load true [(.i .i64), .s, (.i .i64), (.sl 1), (.sl 5)] (.t 1), none⟩,
    ⟨none, .store 5 (.t 2) (.t 26), none⟩]) (
  .ret)))))))⟩
theorem l126x0s (T : Table) (k n : Nat) (n9 : Int) (s10 : ByteArray) (n11 : Int) (l12 : Rows) (l13 : Rows) (n14 : Int) (s15 : ByteArray) (n16 : Int) (l17 : Rows) (l18 : Rows) (l19 : Rows) (l20 : Rows) (n21 : Int) (n22 : Int) : l126x0 T k (n + 1) [(.b [(.v (.int .i64 n9)), (.v (.string s10)), (.v (.int .i64 n11)), (.o 1 l12), (.fz 5 l13)]), (.b [(.v (.int .i64 n14)), (.v (.string s15)), (.v (.int .i64 n16)), (.o 1 l17), (.o 5 l18)]), (.o 5 l19), (.fz 5 l20), (.v (.int .i64 n21)), (.v (.int .i64 n22))] = (
 bif (decide (n22 < n21)) then (
 tst (decide (0 ≤ n22)) (
 look l20 (Int.toNat n22) fun r23 =>
 cI .i64 r23 0 fun n24 =>
 cS r23 1 fun s25 =>
 cI .i64 r23 2 fun n26 =>
 cL 1 r23 3 fun l27 =>
 cL 5 r23 4 fun l28 =>
 callT T 126 [(.g [(.v (.int .i64 n24)), (.v (.string s25)), (.v (.int .i64 n26)), (.s 1 l27), (.s 5 l28)])] fun o29 =>
 oG o29.res fun r30 =>
 tst (Nat.beq r30.length 5) (
 cI .i64 r30 0 fun n31 =>
 cS r30 1 fun s32 =>
 cI .i64 r30 2 fun n33 =>
 cL 1 r30 3 fun l34 =>
 cL 5 r30 4 fun l35 =>
 tst (decide ((l19.length + ([[(.v (.int .i64 n31)), (.v (.string s32)), (.v (.int .i64 n33)), hole, hole]] : Rows).length) * 80 ≤ maxBytes)) (
 l126x0 T k n [(.b [(.v (.int .i64 n9)), (.v (.string s10)), (.v (.int .i64 n11)), (.o 1 l12), (.fz 5 l13)]), (.b [(.v (.int .i64 n14)), (.v (.string s15)), (.v (.int .i64 n16)), (.o 1 l17), (.o 5 l18)]), (.o 5 (setD (setD (l19 ++ ([[(.v (.int .i64 n31)), (.v (.string s32)), (.v (.int .i64 n33)), hole, hole]] : Rows)) (0 + l19.length) 4 (.s 5 l35)) (0 + l19.length) 3 (.s 1 l34))), (.fz 5 l20), (.v (.int .i64 n21)), (.v (.int .i64 (IntKind.wrap .i64 (n22 + 1))))])))) else (
 some ((.exit 0), [(.b [(.v (.int .i64 n9)), (.v (.string s10)), (.v (.int .i64 n11)), (.o 1 l12), (.fz 5 l13)]), (.b [(.v (.int .i64 n14)), (.v (.string s15)), (.v (.int .i64 n16)), (.o 1 l17), (.o 5 l18)]), (.o 5 l19)]))) := by kernel_rfl
theorem a126q (T : Table) (k : Nat) (n1 : Int) (s2 : ByteArray) (n3 : Int) (l4 : Rows) (l5 : Rows) : evalF T k a126 [(.g [(.v (.int .i64 n1)), (.v (.string s2)), (.v (.int .i64 n3)), (.s 1 l4), (.s 5 l5)])] = (
 callT T 148 [(.d (.s 1 l4))] fun o6 =>
 oD o6.res fun d7 =>
 dL 1 d7 fun l8 =>
 aft (l126x0 T k k [(.b [(.v (.int .i64 n1)), (.v (.string s2)), (.v (.int .i64 n3)), (.o 1 l8), (.fz 5 l5)]), (.b [(.v (.int .i64 0)), (.v (.string ByteArray.empty)), (.v (.int .i64 0)), (.o 1 []), (.o 5 [])]), (.o 5 []), (.fz 5 l5), (.v (.int .i64 (l5.length : Int))), (.v (.int .i64 0))]) fun e36 ys37 =>
 bif e36.same (.exit 0) then (
 aV ys37 0 fun x38 =>
 aX x38 fun xs39 =>
 aV xs39 0 fun x40 =>
 aI .i64 x40 fun n41 =>
 aV xs39 1 fun x42 =>
 aS x42 fun s43 =>
 aV xs39 2 fun x44 =>
 aI .i64 x44 fun n45 =>
 aV xs39 3 fun x46 =>
 aO 1 x46 fun l47 =>
 aV xs39 4 fun x48 =>
 aL 5 x48 fun l49 =>
 aV ys37 1 fun x50 =>
 aX x50 fun xs51 =>
 aV xs51 0 fun x52 =>
 aI .i64 x52 fun n53 =>
 aV xs51 1 fun x54 =>
 aS x54 fun s55 =>
 aV xs51 2 fun x56 =>
 aI .i64 x56 fun n57 =>
 aV xs51 3 fun x58 =>
 aO 1 x58 fun l59 =>
 aV xs51 4 fun x60 =>
 aO 5 x60 fun l61 =>
 aV ys37 2 fun x62 =>
 aO 5 x62 fun l63 =>
 some ⟨(.g [(.v (.int .i64 n41)), (.v (.string s43)), (.v (.int .i64 n45)), (.s 1 l47), (.s 5 l63)]), []⟩) else (
 none)) := by kernel_rfl
/- loop.example/g00119/impl.copyWorks -/
def b88x0 : ACode := (
  .seq (.reg false [⟨some 10, .bin .lss (.t 9) (.t 8), none⟩]) (
  .seq (.cond (.t 10) (.skip) (.exit 0)) (
  .seq (.block 1 (.seq (.reg false [⟨some 11, .iad 7 (.t 7) (.t 9), none⟩,
      ⟨some 12, .load true [(.i .i64), (.i .i64), (.i .i64), .s, (.i .i64), (.sl 1), (.sl 5)] (.t 11), none⟩,
      ⟨some 5, .alloc [(.v (.int .i64 0)), (.v (.int .i64 0)), (.v (.int .i64 0)), (.v (.string ByteArray.empty)), (.v (.int .i64 0)), (.s 1 []), (.s 5 [])], none⟩,
      ⟨none, .store 7 (.t 5) (.t 12), none⟩]) (
    .dreg [] [(0, ⟨some 13, .mv (.t 3), none⟩),
      (0, ⟨some 14, .fad 0 (.t 5), none⟩),
      (0, ⟨some 15, .load false [(.i .i64)] (.t 14), none⟩),
      (0, ⟨some 16, .fad 1 (.t 5), none⟩),
      (0, ⟨some 17, .load false [(.i .i64)] (.t 16), none⟩),
      (0, ⟨some 18, .fad 2 (.t 5), none⟩),
      (0, ⟨some 19, .load true [(.i .i64), .s, (.i .i64), (.sl 1), (.sl 5)] (.t 18), none⟩),
      (1, ⟨some 20, .call (.f 126) [.rd] false [.g [(.i .i64), .s, (.i .i64), (.sl 1), (.sl 5)]] [(.t 19)], none⟩),
      (0, ⟨some 21, .build [(.v (.int .i64 0)), (.v (.int .i64 0)), (.v (.int .i64 0)), (.v (.string ByteArray.empty)), (.v (.int .i64 0)), (.s 1 []), (.s 5 [])] [(0, 1, (.t 15)), (1, 1, (.t 17)), (2, 5, (.t 20))], none⟩),
      (1, ⟨some 22, .lit 7 ([[(.v (.int .i64 0)), (.v (.int .i64 0)), (.v (.int .i64 0)), (.v (.string ByteArray.empty)), (.v (.int .i64 0)), (.s 1 []), (.s 5 [])]] : Rows) [(0, (.t 21))], none⟩)] [⟨some 23, .app 7 96 (.t 13) (.t 22), none⟩,
      ⟨some 3, .mv (.t 23), none⟩]))) (
  .reg false [⟨some 24, .bin .add (.t 9) (.c (.v (.int .i64 1))), none⟩,
    ⟨some 9, .mv (.t 24), none⟩]))))
def e88x0 : Exits := [((.exit 0), [(3, .o 7)])]
noncomputable def l88x0 (T : Table) (k : Nat) := loopN (evalC ⟨T, []⟩ k b88x0 (Ex × List AV)) [3, 7, 8, 9] e88x0
def a88 : AFun := ⟨[.rd], false, [.t 2], (
  .seq (.reg false [⟨some 2, .mv (.c (.o 7 [])), none⟩]) (
  .seq (.reg false [⟨some 6, .lit 7 ([] : Rows) [], none⟩,
    ⟨some 3, .mv (.t 6), none⟩]) (
  .seq (.seq (.reg false [⟨some 7, .mv (.t 0), none⟩,
    ⟨some 8, .len false (.t 7), none⟩,
    ⟨some 9, .mv (.c (.v (.int .i64 0))), none⟩]) (
  .block 0 (.loop [3, 7, 8, 9] e88x0 b88x0))) (
  .seq (.reg false [⟨some 25, .mv (.t 3), none⟩,
    ⟨some 2, .mv (.t 25), none⟩]) (
  .ret)))))⟩
theorem l88x0s (T : Table) (k n : Nat) (l2 : Rows) (l3 : Rows) (n4 : Int) (n5 : Int) : l88x0 T k (n + 1) [(.o 7 l2), (.fz 7 l3), (.v (.int .i64 n4)), (.v (.int .i64 n5))] = (
 bif (decide (n5 < n4)) then (
 tst (decide (0 ≤ n5)) (
 look l3 (Int.toNat n5) fun r6 =>
 cI .i64 r6 0 fun n7 =>
 cI .i64 r6 1 fun n8 =>
 cI .i64 r6 2 fun n9 =>
 cS r6 3 fun s10 =>
 cI .i64 r6 4 fun n11 =>
 cL 1 r6 5 fun l12 =>
 cL 5 r6 6 fun l13 =>
 callT T 126 [(.g [(.v (.int .i64 n9)), (.v (.string s10)), (.v (.int .i64 n11)), (.s 1 l12), (.s 5 l13)])] fun o14 =>
 oG o14.res fun r15 =>
 tst (Nat.beq r15.length 5) (
 cI .i64 r15 0 fun n16 =>
 cS r15 1 fun s17 =>
 cI .i64 r15 2 fun n18 =>
 cL 1 r15 3 fun l19 =>
 cL 5 r15 4 fun l20 =>
 tst (decide ((l2.length + ([[(.v (.int .i64 n7)), (.v (.int .i64 n8)), (.v (.int .i64 n16)), (.v (.string s17)), (.v (.int .i64 n18)), hole, hole]] : Rows).length) * 96 ≤ maxBytes)) (
 l88x0 T k n [(.o 7 (setD (setD (l2 ++ ([[(.v (.int .i64 n7)), (.v (.int .i64 n8)), (.v (.int .i64 n16)), (.v (.string s17)), (.v (.int .i64 n18)), hole, hole]] : Rows)) (0 + l2.length) 6 (.s 5 l20)) (0 + l2.length) 5 (.s 1 l19))), (.fz 7 l3), (.v (.int .i64 n4)), (.v (.int .i64 (IntKind.wrap .i64 (n5 + 1))))])))) else (
 some ((.exit 0), [(.o 7 l2)]))) := by kernel_rfl
theorem a88q (T : Table) (k : Nat) (l1 : Rows) : evalF T k a88 [(.d (.s 7 l1))] = (
 aft (l88x0 T k k [(.o 7 []), (.fz 7 l1), (.v (.int .i64 (l1.length : Int))), (.v (.int .i64 0))]) fun e21 ys22 =>
 bif e21.same (.exit 0) then (
 aV ys22 0 fun x23 =>
 aO 7 x23 fun l24 =>
 some ⟨(.d (.s 7 l24)), []⟩) else (
 none)) := by kernel_rfl
/- slices.Clone[[]loop.example/g00119/impl.Run,loop.example/g00119/impl.Run] -/

def a89 : AFun := ⟨[.rd], false, [.t 2], (
  .seq (.reg false [⟨some 2, .mv (.c (.o 2 [])), none⟩]) (
  .seq (.seq (.reg false [⟨some 3, .mv (.t 0), none⟩,
    ⟨some 4, .more (.nilq 2 (.t 3)), none⟩]) (
  .cond (.t 4) (.seq (.reg false [⟨some 2, .mv (.c (.o 2 [])), none⟩]) (
    .ret)) (.skip))) (
  .seq (.reg false [⟨some 5, .lit 2 ([] : Rows) [], none⟩,
    ⟨some 6, .mv (.t 0), none⟩,
    ⟨some 7, .app 2 16 (.t 5) (.t 6), none⟩,
    ⟨some 2, .mv (.t 7), none⟩]) (
  .ret))))⟩

theorem a89q (T : Table) (k : Nat) (l1 : Rows) : evalF T k a89 [(.d (.s 2 l1))] = (
 bif List.isEmpty l1 then (
 agree (
 some ⟨(.d (.s 2 [])), []⟩) (
 tst (flatRows l1) (
 tst (decide ((([] : Rows).length + l1.length) * 16 ≤ maxBytes)) (
 some ⟨(.d (.s 2 (([] : Rows) ++ l1))), []⟩)))) else (
 tst (flatRows l1) (
 tst (decide ((([] : Rows).length + l1.length) * 16 ≤ maxBytes)) (
 some ⟨(.d (.s 2 (([] : Rows) ++ l1))), []⟩)))) := by kernel_rfl
/- loop.example/g00119/impl.copyIsle -/

def a40 : AFun := ⟨[.rd], false, [.c 2 true [.s, (.i .i64), (.i .i64), (.sl 7), (.sl 2)]], (
  .seq (.reg false [⟨some 1, .box (.t 0), none⟩,
    ⟨some 2, .alloc [(.v (.string ByteArray.empty)), (.v (.int .i64 0)), (.v (.int .i64 0)), (.s 7 []), (.s 2 [])], none⟩]) (
  .seq (.reg false [⟨some 3, .fad 3 (.t 1), none⟩,
    ⟨some 4, .load false [(.sl 7)] (.t 3), none⟩,
    ⟨some 5, .call (.f 88) [.rd] false [.c (.sl 7)] [(.t 4)], none⟩,
    ⟨some 6, .fad 3 (.t 1), none⟩,
    ⟨none, .store 1 (.t 6) (.t 5), none⟩]) (
  .seq (.reg false [⟨some 7, .fad 4 (.t 1), none⟩,
    ⟨some 8, .load false [(.sl 2)] (.t 7), none⟩,
    ⟨some 9, .call (.f 89) [.rd] false [.c (.sl 2)] [(.t 8)], none⟩,
    ⟨some 10, .fad 4 (.t 1), none⟩,
    ⟨none, .store 1 (.t 10) (.t 9), none⟩]) (
  .seq (.reg false [⟨some 11, .load true [.s, (.i .i64), (.i .i64), (.sl 7), (.sl 2)] (.t 1), none⟩,
    ⟨none, .store 5 (.t 2) (.t 11), none⟩]) (
  .ret)))))⟩

theorem a40q (T : Table) (k : Nat) (s1 : ByteArray) (n2 : Int) (n3 : Int) (l4 : Rows) (l5 : Rows) : evalF T k a40 [(.g [(.v (.string s1)), (.v (.int .i64 n2)), (.v (.int .i64 n3)), (.s 7 l4), (.s 2 l5)])] = (
 callT T 88 [(.d (.s 7 l4))] fun o6 =>
 oD o6.res fun d7 =>
 dL 7 d7 fun l8 =>
 callT T 89 [(.d (.s 2 l5))] fun o9 =>
 oD o9.res fun d10 =>
 dL 2 d10 fun l11 =>
 some ⟨(.g [(.v (.string s1)), (.v (.int .i64 n2)), (.v (.int .i64 n3)), (.s 7 l8), (.s 2 l11)]), []⟩) := by kernel_rfl
/- slices.IndexFunc[[]loop.example/g00119/impl.Run,loop.example/g00119/impl.Run] -/
def b139x0 : ACode := (
  .seq (.reg false [⟨some 9, .bin .lss (.t 8) (.t 7), none⟩]) (
  .seq (.cond (.t 9) (.skip) (.exit 0)) (
  .seq (.block 1 (.seq (.reg false [⟨some 10, .mv (.t 8), none⟩,
      ⟨some 5, .mv (.t 10), none⟩]) (
    .seq (.reg false [⟨some 11, .mv (.t 1), none⟩,
      ⟨some 12, .mv (.t 0), none⟩,
      ⟨some 13, .mv (.t 5), none⟩,
      ⟨some 14, .iad 2 (.t 12) (.t 13), none⟩,
      ⟨some 15, .load true [(.i .i64), (.i .i64)] (.t 14), none⟩,
      ⟨some 16, .call (.t 11) [.rd] false [.c .b] [(.t 15)], none⟩]) (
    .cond (.t 16) (.seq (.reg false [⟨some 17, .mv (.t 5), none⟩,
        ⟨some 4, .mv (.t 17), none⟩]) (
      .ret)) (.skip))))) (
  .reg false [⟨some 18, .bin .add (.t 8) (.c (.v (.int .i64 1))), none⟩,
    ⟨some 8, .mv (.t 18), none⟩]))))
def e139x0 : Exits := [(.ret, [(4, .c (.i .i64))]), ((.exit 0), [])]
noncomputable def l139x0 (T : Table) (k : Nat) := loopN (evalC ⟨T, []⟩ k b139x0 (Ex × List AV)) [0, 1, 7, 8] e139x0
def a139 : AFun := ⟨[.rd, .rd], false, [.t 4], (
  .seq (.reg false [⟨some 4, .mv (.c (.v (.int .i64 0))), none⟩]) (
  .seq (.seq (.reg false [⟨some 6, .mv (.t 0), none⟩,
    ⟨some 7, .len false (.t 6), none⟩,
    ⟨some 8, .mv (.c (.v (.int .i64 0))), none⟩]) (
  .block 0 (.loop [0, 1, 7, 8] e139x0 b139x0))) (
  .seq (.reg false [⟨some 4, .mv (.c (.v (.int .i64 (-1)))), none⟩]) (
  .ret))))⟩
theorem l139x0s (T : Table) (k n : Nat) (l4 : Rows) (f5 : Nat) (cs6 : List I) (n7 : Int) (n8 : Int) : l139x0 T k (n + 1) [(.fz 2 l4), (.ff f5 cs6), (.v (.int .i64 n7)), (.v (.int .i64 n8))] = (
 bif (decide (n8 < n7)) then (
 tst (decide (0 ≤ n8)) (
 look l4 (Int.toNat n8) fun r9 =>
 cI .i64 r9 0 fun n10 =>
 cI .i64 r9 1 fun n11 =>
 callT T f5 ([(.g [(.v (.int .i64 n10)), (.v (.int .i64 n11))])] ++ cs6) fun o12 =>
 oD o12.res fun d13 =>
 dB d13 fun b14 =>
 bif b14 then (
 some (.ret, [(.v (.int .i64 n8))])) else (
 l139x0 T k n [(.fz 2 l4), (.ff f5 cs6), (.v (.int .i64 n7)), (.v (.int .i64 (IntKind.wrap .i64 (n8 + 1))))]))) else (
 some ((.exit 0), []))) := by kernel_rfl
theorem a139q (T : Table) (k : Nat) (l1 : Rows) (f2 : Nat) (cs3 : List I) : evalF T k a139 [(.d (.s 2 l1)), (.f f2 cs3)] = (
 aft (l139x0 T k k [(.fz 2 l1), (.ff f2 cs3), (.v (.int .i64 (l1.length : Int))), (.v (.int .i64 0))]) fun e15 ys16 =>
 bif e15.same .ret then (
 aV ys16 0 fun x17 =>
 aI .i64 x17 fun n18 =>
 some ⟨(.d (.v (.int .i64 n18))), []⟩) else (
 bif e15.same (.exit 0) then (
 some ⟨(.d (.v (.int .i64 (-1)))), []⟩) else (
 none))) := by kernel_rfl
/- slices.ContainsFunc[[]loop.example/g00119/impl.Run,loop.example/g00119/impl.Run] -/

def a109 : AFun := ⟨[.rd, .rd], false, [.t 4], (
  .seq (.reg false [⟨some 4, .mv (.c (.v (.bool false))), none⟩]) (
  .seq (.reg false [⟨some 5, .mv (.t 0), none⟩,
    ⟨some 6, .mv (.t 1), none⟩,
    ⟨some 7, .call (.f 139) [.rd, .rd] false [.c (.i .i64)] [(.t 5), (.t 6)], none⟩,
    ⟨some 8, .bin .geq (.t 7) (.c (.v (.int .i64 0))), none⟩,
    ⟨some 4, .mv (.t 8), none⟩]) (
  .ret)))⟩

theorem a109q (T : Table) (k : Nat) (l1 : Rows) (f2 : Nat) (cs3 : List I) : evalF T k a109 [(.d (.s 2 l1)), (.f f2 cs3)] = (
 callT T 139 [(.d (.s 2 l1)), (.f f2 cs3)] fun o4 =>
 oD o4.res fun d5 =>
 dI .i64 d5 fun n6 =>
 some ⟨(.d (.v (.bool (decide (n6 ≥ 0))))), []⟩) := by kernel_rfl
/- loop.example/g00119/impl.IsleOk$1 -/

def a110 : AFun := ⟨[.rd], false, [.t 2], (
  .seq (.reg false [⟨some 1, .box (.t 0), none⟩,
    ⟨some 2, .mv (.c (.v (.bool false))), none⟩]) (
  .seq (.reg false [⟨some 3, .fad 1 (.t 1), none⟩,
    ⟨some 4, .load false [(.i .i64)] (.t 3), none⟩,
    ⟨some 5, .bin .eql (.t 4) (.c (.v (.int .i64 0))), none⟩,
    ⟨some 2, .mv (.t 5), none⟩]) (
  .ret)))⟩

theorem a110q (T : Table) (k : Nat) (n1 : Int) (n2 : Int) : evalF T k a110 [(.g [(.v (.int .i64 n1)), (.v (.int .i64 n2))])] = (
 some ⟨(.d (.v (.bool (n2 == 0)))), []⟩) := by kernel_rfl
/- loop.example/g00119/impl.running -/
def b111x0 : ACode := (
  .seq (.reg false [⟨some 10, .bin .lss (.t 9) (.t 8), none⟩]) (
  .seq (.cond (.t 10) (.skip) (.exit 0)) (
  .seq (.block 1 (.seq (.reg false [⟨some 11, .iad 2 (.t 7) (.t 9), none⟩,
      ⟨some 12, .load true [(.i .i64), (.i .i64)] (.t 11), none⟩,
      ⟨some 5, .alloc [(.v (.int .i64 0)), (.v (.int .i64 0))], none⟩,
      ⟨none, .store 2 (.t 5) (.t 12), none⟩]) (
    .reg false [⟨some 13, .mv (.t 3), none⟩,
      ⟨some 14, .fad 1 (.t 5), none⟩,
      ⟨some 15, .load false [(.i .i64)] (.t 14), none⟩,
      ⟨some 16, .bin .add (.t 13) (.t 15), none⟩,
      ⟨some 3, .mv (.t 16), none⟩]))) (
  .reg false [⟨some 17, .bin .add (.t 9) (.c (.v (.int .i64 1))), none⟩,
    ⟨some 9, .mv (.t 17), none⟩]))))
def e111x0 : Exits := [((.exit 0), [(3, .c (.i .i64))])]
noncomputable def l111x0 (T : Table) (k : Nat) := loopN (evalC ⟨T, []⟩ k b111x0 (Ex × List AV)) [3, 7, 8, 9] e111x0
def a111 : AFun := ⟨[.rd], false, [.t 2], (
  .seq (.reg false [⟨some 1, .box (.t 0), none⟩,
    ⟨some 2, .mv (.c (.v (.int .i64 0))), none⟩]) (
  .seq (.reg false [⟨some 3, .mv (.c (.v (.int .i64 0))), none⟩]) (
  .seq (.seq (.reg false [⟨some 6, .fad 4 (.t 1), none⟩,
    ⟨some 7, .load false [(.sl 2)] (.t 6), none⟩,
    ⟨some 8, .len false (.t 7), none⟩,
    ⟨some 9, .mv (.c (.v (.int .i64 0))), none⟩]) (
  .block 0 (.loop [3, 7, 8, 9] e111x0 b111x0))) (
  .seq (.reg false [⟨some 18, .mv (.t 3), none⟩,
    ⟨some 2, .mv (.t 18), none⟩]) (
  .ret)))))⟩
theorem l111x0s (T : Table) (k n : Nat) (n6 : Int) (l7 : Rows) (n8 : Int) (n9 : Int) : l111x0 T k (n + 1) [(.v (.int .i64 n6)), (.fz 2 l7), (.v (.int .i64 n8)), (.v (.int .i64 n9))] = (
 bif (decide (n9 < n8)) then (
 tst (decide (0 ≤ n9)) (
 look l7 (Int.toNat n9) fun r10 =>
 cI .i64 r10 0 fun n11 =>
 cI .i64 r10 1 fun n12 =>
 l111x0 T k n [(.v (.int .i64 (IntKind.wrap .i64 (n6 + n12)))), (.fz 2 l7), (.v (.int .i64 n8)), (.v (.int .i64 (IntKind.wrap .i64 (n9 + 1))))])) else (
 some ((.exit 0), [(.v (.int .i64 n6))]))) := by kernel_rfl
theorem a111q (T : Table) (k : Nat) (s1 : ByteArray) (n2 : Int) (n3 : Int) (l4 : Rows) (l5 : Rows) : evalF T k a111 [(.g [(.v (.string s1)), (.v (.int .i64 n2)), (.v (.int .i64 n3)), (.s 7 l4), (.s 2 l5)])] = (
 aft (l111x0 T k k [(.v (.int .i64 0)), (.fz 2 l5), (.v (.int .i64 (l5.length : Int))), (.v (.int .i64 0))]) fun e13 ys14 =>
 bif e13.same (.exit 0) then (
 aV ys14 0 fun x15 =>
 aI .i64 x15 fun n16 =>
 some ⟨(.d (.v (.int .i64 n16))), []⟩) else (
 none)) := by kernel_rfl
/- loop.example/g00119/impl.IsleOk -/

def a66 : AFun := ⟨[.rd], false, [.t 2], (
  .seq (.reg false [⟨some 1, .box (.t 0), none⟩,
    ⟨some 2, .mv (.c (.v (.bool false))), none⟩]) (
  .seq (.dreg [] [(0, ⟨some 3, .fad 0 (.t 1), none⟩),
    (0, ⟨some 4, .load false [.s] (.t 3), none⟩),
    (1, ⟨some 5, .call (.f 84) [.rd] false [.c .b] [(.t 4)], none⟩),
    (0, ⟨some 6, .mv (.t 5), none⟩),
    (0, ⟨some 7, .fad 1 (.t 1), some (6, true)⟩),
    (0, ⟨some 8, .load false [(.i .i64)] (.t 7), some (6, true)⟩),
    (1, ⟨some 9, .call (.f 108) [.rd] false [.c .b] [(.t 8)], some (6, true)⟩),
    (0, ⟨some 10, .pick (.t 6) (.t 9) (.c (.v (.bool false))), none⟩),
    (0, ⟨some 11, .mv (.t 10), none⟩),
    (0, ⟨some 12, .fad 2 (.t 1), some (11, true)⟩),
    (0, ⟨some 13, .load false [(.i .i64)] (.t 12), some (11, true)⟩),
    (1, ⟨some 14, .call (.f 85) [.rd, .rd, .rd] false [.c .b] [(.t 13), (.c (.v (.int .i64 0))), (.c (.v (.int .i64 1000000)))], some (11, true)⟩),
    (0, ⟨some 15, .pick (.t 11) (.t 14) (.c (.v (.bool false))), none⟩),
    (0, ⟨some 16, .mv (.t 15), none⟩),
    (0, ⟨some 17, .fad 3 (.t 1), some (16, true)⟩),
    (0, ⟨some 18, .load false [(.sl 7)] (.t 17), some (16, true)⟩),
    (1, ⟨some 19, .call (.f 87) [.rd] false [.c .b] [(.t 18)], some (16, true)⟩),
    (0, ⟨some 20, .pick (.t 16) (.t 19) (.c (.v (.bool false))), none⟩),
    (0, ⟨some 21, .mv (.t 20), none⟩),
    (0, ⟨some 22, .fad 4 (.t 1), some (21, true)⟩),
    (0, ⟨some 23, .load false [(.sl 2)] (.t 22), some (21, true)⟩),
    (1, ⟨some 24, .call (.f 86) [.rd] false [.c .b] [(.t 23)], some (21, true)⟩),
    (0, ⟨some 25, .pick (.t 21) (.t 24) (.c (.v (.bool false))), none⟩),
    (0, ⟨some 26, .mv (.t 25), none⟩),
    (0, ⟨some 27, .fad 4 (.t 1), some (26, true)⟩),
    (0, ⟨some 28, .load false [(.sl 2)] (.t 27), some (26, true)⟩),
    (1, ⟨some 29, .call (.f 109) [.rd, .rd] false [.c .b] [(.t 28), (.f 110)], some (26, true)⟩),
    (0, ⟨some 30, .un .not (.t 29), some (26, true)⟩),
    (0, ⟨some 31, .pick (.t 26) (.t 30) (.c (.v (.bool false))), none⟩),
    (0, ⟨some 32, .mv (.t 31), none⟩),
    (0, ⟨some 33, .load true [.s, (.i .i64), (.i .i64), (.sl 7), (.sl 2)] (.t 1), some (32, true)⟩),
    (1, ⟨some 34, .call (.f 111) [.rd] false [.c (.i .i64)] [(.t 33)], some (32, true)⟩),
    (0, ⟨some 35, .fad 1 (.t 1), some (32, true)⟩),
    (0, ⟨some 36, .load false [(.i .i64)] (.t 35), some (32, true)⟩)] [⟨some 37, .bin .leq (.t 34) (.t 36), some (32, true)⟩,
    ⟨some 38, .pick (.t 32) (.t 37) (.c (.v (.bool false))), none⟩,
    ⟨some 2, .mv (.t 38), none⟩]) (
  .ret)))⟩

theorem a66q (T : Table) (k : Nat) (s1 : ByteArray) (n2 : Int) (n3 : Int) (l4 : Rows) (l5 : Rows) : evalF T k a66 [(.g [(.v (.string s1)), (.v (.int .i64 n2)), (.v (.int .i64 n3)), (.s 7 l4), (.s 2 l5)])] = (
 callT T 84 [(.d (.v (.string s1)))] fun o6 =>
 oD o6.res fun d7 =>
 dB d7 fun b8 =>
 bif b8 == true then (
 callT T 108 [(.d (.v (.int .i64 n2)))] fun o9 =>
 oD o9.res fun d10 =>
 dB d10 fun b11 =>
 bif b11 == true then (
 callT T 85 [(.d (.v (.int .i64 n3))), (.d (.v (.int .i64 0))), (.d (.v (.int .i64 1000000)))] fun o12 =>
 oD o12.res fun d13 =>
 dB d13 fun b14 =>
 bif b14 == true then (
 callT T 87 [(.d (.s 7 l4))] fun o15 =>
 oD o15.res fun d16 =>
 dB d16 fun b17 =>
 bif b17 == true then (
 callT T 86 [(.d (.s 2 l5))] fun o18 =>
 oD o18.res fun d19 =>
 dB d19 fun b20 =>
 bif b20 == true then (
 callT T 109 [(.d (.s 2 l5)), (.f 110 [])] fun o21 =>
 oD o21.res fun d22 =>
 dB d22 fun b23 =>
 bif (!b23) == true then (
 callT T 111 [(.g [(.v (.string s1)), (.v (.int .i64 n2)), (.v (.int .i64 n3)), (.s 7 l4), (.s 2 l5)])] fun o24 =>
 oD o24.res fun d25 =>
 dI .i64 d25 fun n26 =>
 some ⟨(.d (.v (.bool (decide (n26 ≤ n2))))), []⟩) else (
 some ⟨(.d (.v (.bool false))), []⟩)) else (
 some ⟨(.d (.v (.bool false))), []⟩)) else (
 some ⟨(.d (.v (.bool false))), []⟩)) else (
 some ⟨(.d (.v (.bool false))), []⟩)) else (
 some ⟨(.d (.v (.bool false))), []⟩)) else (
 some ⟨(.d (.v (.bool false))), []⟩)) := by kernel_rfl
/- loop.example/g00119/impl.Obey -/

def a41 : AFun := ⟨[.rd, .rd, .rd], false, [.c 6 true [.s, (.i .i64), (.i .i64), (.sl 7), (.sl 2)], .t 7], (
  .seq (.reg false [⟨some 3, .box (.t 0), none⟩,
    ⟨some 6, .alloc [(.v (.string ByteArray.empty)), (.v (.int .i64 0)), (.v (.int .i64 0)), (.s 7 []), (.s 2 [])], none⟩,
    ⟨some 7, .mv (.c (.v (.bool false))), none⟩]) (
  .seq (.reg false [⟨some 9, .load true [.s, (.i .i64), (.i .i64), (.sl 7), (.sl 2)] (.t 3), none⟩,
    ⟨some 10, .call (.f 40) [.rd] false [.g [.s, (.i .i64), (.i .i64), (.sl 7), (.sl 2)]] [(.t 9)], none⟩,
    ⟨some 8, .alloc [(.v (.string ByteArray.empty)), (.v (.int .i64 0)), (.v (.int .i64 0)), (.s 7 []), (.s 2 [])], none⟩,
    ⟨none, .store 5 (.t 8) (.t 10), none⟩]) (
  .seq (.seq (.reg false [⟨some 11, .load true [.s, (.i .i64), (.i .i64), (.sl 7), (.sl 2)] (.t 3), none⟩,
    ⟨some 12, .call (.f 66) [.rd] false [.c .b] [(.t 11)], none⟩,
    ⟨some 13, .un .not (.t 12), none⟩,
    ⟨some 14, .mv (.t 13), none⟩,
    ⟨some 15, .mv (.t 2), some (14, false)⟩,
    ⟨some 16, .call (.f 87) [.rd] false [.c .b] [(.t 15)], some (14, false)⟩,
    ⟨some 17, .un .not (.t 16), some (14, false)⟩,
    ⟨some 18, .pick (.t 14) (.c (.v (.bool true))) (.t 17), none⟩,
    ⟨some 19, .mv (.t 18), none⟩,
    ⟨some 20, .mv (.t 1), some (19, false)⟩,
    ⟨some 21, .fad 2 (.t 3), some (19, false)⟩,
    ⟨some 22, .load false [(.i .i64)] (.t 21), some (19, false)⟩,
    ⟨some 23, .bin .leq (.t 20) (.t 22), some (19, false)⟩,
    ⟨some 24, .pick (.t 19) (.c (.v (.bool true))) (.t 23), none⟩,
    ⟨some 25, .mv (.t 24), none⟩,
    ⟨some 26, .mv (.t 1), some (25, false)⟩,
    ⟨some 27, .bin .gtr (.t 26) (.c (.v (.int .i64 1000000))), some (25, false)⟩,
    ⟨some 28, .pick (.t 25) (.c (.v (.bool true))) (.t 27), none⟩]) (
  .cond (.t 28) (.seq (.reg false [⟨some 29, .load true [.s, (.i .i64), (.i .i64), (.sl 7), (.sl 2)] (.t 8), none⟩,
      ⟨none, .store 5 (.t 6) (.t 29), none⟩,
      ⟨some 7, .mv (.c (.v (.bool false))), none⟩]) (
    .ret)) (.skip))) (
  .seq (.reg false [⟨some 30, .mv (.t 1), none⟩,
    ⟨some 31, .fad 2 (.t 8), none⟩,
    ⟨none, .store 1 (.t 31) (.t 30), none⟩]) (
  .seq (.reg false [⟨some 32, .mv (.t 2), none⟩,
    ⟨some 33, .call (.f 88) [.rd] false [.c (.sl 7)] [(.t 32)], none⟩,
    ⟨some 34, .fad 3 (.t 8), none⟩,
    ⟨none, .store 1 (.t 34) (.t 33), none⟩]) (
  .seq (.reg false [⟨some 35, .load true [.s, (.i .i64), (.i .i64), (.sl 7), (.sl 2)] (.t 8), none⟩,
    ⟨none, .store 5 (.t 6) (.t 35), none⟩,
    ⟨some 7, .mv (.c (.v (.bool true))), none⟩]) (
  .ret)))))))⟩

theorem a41q (T : Table) (k : Nat) (s1 : ByteArray) (n2 : Int) (n3 : Int) (l4 : Rows) (l5 : Rows) (n6 : Int) (l7 : Rows) : evalF T k a41 [(.g [(.v (.string s1)), (.v (.int .i64 n2)), (.v (.int .i64 n3)), (.s 7 l4), (.s 2 l5)]), (.d (.v (.int .i64 n6))), (.d (.s 7 l7))] = (
 callT T 40 [(.g [(.v (.string s1)), (.v (.int .i64 n2)), (.v (.int .i64 n3)), (.s 7 l4), (.s 2 l5)])] fun o8 =>
 oG o8.res fun r9 =>
 tst (Nat.beq r9.length 5) (
 cS r9 0 fun s10 =>
 cI .i64 r9 1 fun n11 =>
 cI .i64 r9 2 fun n12 =>
 cL 7 r9 3 fun l13 =>
 cL 2 r9 4 fun l14 =>
 callT T 66 [(.g [(.v (.string s1)), (.v (.int .i64 n2)), (.v (.int .i64 n3)), (.s 7 l4), (.s 2 l5)])] fun o15 =>
 oD o15.res fun d16 =>
 dB d16 fun b17 =>
 bif (!b17) == false then (
 callT T 87 [(.d (.s 7 l7))] fun o18 =>
 oD o18.res fun d19 =>
 dB d19 fun b20 =>
 bif (!b20) == false then (
 bif (decide (n6 ≤ n3)) == false then (
 bif (decide (n6 > 1000000)) then (
 some ⟨(.t [(.g [(.v (.string s10)), (.v (.int .i64 n11)), (.v (.int .i64 n12)), (.s 7 l13), (.s 2 l14)]), (.d (.v (.bool false)))]), []⟩) else (
 callT T 88 [(.d (.s 7 l7))] fun o21 =>
 oD o21.res fun d22 =>
 dL 7 d22 fun l23 =>
 some ⟨(.t [(.g [(.v (.string s10)), (.v (.int .i64 n11)), (.v (.int .i64 n6)), (.s 7 l23), (.s 2 l14)]), (.d (.v (.bool true)))]), []⟩)) else (
 some ⟨(.t [(.g [(.v (.string s10)), (.v (.int .i64 n11)), (.v (.int .i64 n12)), (.s 7 l13), (.s 2 l14)]), (.d (.v (.bool false)))]), []⟩)) else (
 some ⟨(.t [(.g [(.v (.string s10)), (.v (.int .i64 n11)), (.v (.int .i64 n12)), (.s 7 l13), (.s 2 l14)]), (.d (.v (.bool false)))]), []⟩)) else (
 some ⟨(.t [(.g [(.v (.string s10)), (.v (.int .i64 n11)), (.v (.int .i64 n12)), (.s 7 l13), (.s 2 l14)]), (.d (.v (.bool false)))]), []⟩))) := by kernel_rfl
/- loop.example/g00119/impl.Land -/

def a12 : AFun := ⟨[.rd, .rd], false, [.c 4 true [.s, (.i .i64), (.i .i64), (.sl 7), (.sl 2)], .t 5], (
  .seq (.reg false [⟨some 2, .box (.t 0), none⟩,
    ⟨some 3, .box (.t 1), none⟩,
    ⟨some 4, .alloc [(.v (.string ByteArray.empty)), (.v (.int .i64 0)), (.v (.int .i64 0)), (.s 7 []), (.s 2 [])], none⟩,
    ⟨some 5, .mv (.c (.v (.bool false))), none⟩]) (
  .seq (.seq (.reg false [⟨some 6, .fad 0 (.t 3), none⟩,
    ⟨some 7, .load false [(.i .i64)] (.t 6), none⟩,
    ⟨some 8, .bin .neq (.t 7) (.c (.v (.int .i64 2))), none⟩,
    ⟨some 9, .mv (.t 8), none⟩,
    ⟨some 10, .load true [(.i .i64), .s, (.i .i64), (.sl 7), (.sl 2)] (.t 3), some (9, false)⟩,
    ⟨some 11, .call (.f 39) [.rd] false [.c .b] [(.t 10)], some (9, false)⟩,
    ⟨some 12, .un .not (.t 11), some (9, false)⟩,
    ⟨some 13, .pick (.t 9) (.c (.v (.bool true))) (.t 12), none⟩,
    ⟨some 14, .mv (.t 13), none⟩,
    ⟨some 15, .fad 1 (.t 3), some (14, false)⟩,
    ⟨some 16, .load false [.s] (.t 15), some (14, false)⟩,
    ⟨some 17, .fad 0 (.t 2), some (14, false)⟩,
    ⟨some 18, .load false [.s] (.t 17), some (14, false)⟩,
    ⟨some 19, .bin .neq (.t 16) (.t 18), some (14, false)⟩,
    ⟨some 20, .pick (.t 14) (.c (.v (.bool true))) (.t 19), none⟩]) (
  .cond (.t 20) (.seq (.reg false [⟨some 21, .load true [.s, (.i .i64), (.i .i64), (.sl 7), (.sl 2)] (.t 2), none⟩,
      ⟨some 22, .call (.f 40) [.rd] false [.g [.s, (.i .i64), (.i .i64), (.sl 7), (.sl 2)]] [(.t 21)], none⟩,
      ⟨none, .store 5 (.t 4) (.t 22), none⟩,
      ⟨some 5, .mv (.c (.v (.bool false))), none⟩]) (
    .ret)) (.skip))) (
  .seq (.reg false [⟨some 23, .load true [.s, (.i .i64), (.i .i64), (.sl 7), (.sl 2)] (.t 2), none⟩,
    ⟨some 24, .fad 2 (.t 3), none⟩,
    ⟨some 25, .load false [(.i .i64)] (.t 24), none⟩,
    ⟨some 26, .fad 3 (.t 3), none⟩,
    ⟨some 27, .load false [(.sl 7)] (.t 26), none⟩,
    ⟨some 28, .call (.f 41) [.rd, .rd, .rd] false [.g [.s, (.i .i64), (.i .i64), (.sl 7), (.sl 2)], .c .b] [(.t 23), (.t 25), (.t 27)], none⟩,
    ⟨some 29, .ext (.t 28) 0, none⟩,
    ⟨some 30, .ext (.t 28) 1, none⟩,
    ⟨none, .store 5 (.t 4) (.t 29), none⟩,
    ⟨some 5, .mv (.t 30), none⟩]) (
  .ret))))⟩

theorem a12q (T : Table) (k : Nat) (s1 : ByteArray) (n2 : Int) (n3 : Int) (l4 : Rows) (l5 : Rows) (n6 : Int) (s7 : ByteArray) (n8 : Int) (l9 : Rows) (l10 : Rows) : evalF T k a12 [(.g [(.v (.string s1)), (.v (.int .i64 n2)), (.v (.int .i64 n3)), (.s 7 l4), (.s 2 l5)]), (.g [(.v (.int .i64 n6)), (.v (.string s7)), (.v (.int .i64 n8)), (.s 7 l9), (.s 2 l10)])] = (
 bif (n6 != 2) == false then (
 callT T 39 [(.g [(.v (.int .i64 n6)), (.v (.string s7)), (.v (.int .i64 n8)), (.s 7 l9), (.s 2 l10)])] fun o11 =>
 oD o11.res fun d12 =>
 dB d12 fun b13 =>
 bif (!b13) == false then (
 bif (!(bytesEq s7 s1)) then (
 callT T 40 [(.g [(.v (.string s1)), (.v (.int .i64 n2)), (.v (.int .i64 n3)), (.s 7 l4), (.s 2 l5)])] fun o14 =>
 oG o14.res fun r15 =>
 tst (Nat.beq r15.length 5) (
 cS r15 0 fun s16 =>
 cI .i64 r15 1 fun n17 =>
 cI .i64 r15 2 fun n18 =>
 cL 7 r15 3 fun l19 =>
 cL 2 r15 4 fun l20 =>
 some ⟨(.t [(.g [(.v (.string s16)), (.v (.int .i64 n17)), (.v (.int .i64 n18)), (.s 7 l19), (.s 2 l20)]), (.d (.v (.bool false)))]), []⟩)) else (
 callT T 41 [(.g [(.v (.string s1)), (.v (.int .i64 n2)), (.v (.int .i64 n3)), (.s 7 l4), (.s 2 l5)]), (.d (.v (.int .i64 n8))), (.d (.s 7 l9))] fun o21 =>
 oT o21.res fun is22 =>
 tst (Nat.beq is22.length 2) (
 nth is22 0 fun i23 =>
 oG i23 fun r24 =>
 tst (Nat.beq r24.length 5) (
 cS r24 0 fun s25 =>
 cI .i64 r24 1 fun n26 =>
 cI .i64 r24 2 fun n27 =>
 cL 7 r24 3 fun l28 =>
 cL 2 r24 4 fun l29 =>
 nth is22 1 fun i30 =>
 oD i30 fun d31 =>
 dB d31 fun b32 =>
 some ⟨(.t [(.g [(.v (.string s25)), (.v (.int .i64 n26)), (.v (.int .i64 n27)), (.s 7 l28), (.s 2 l29)]), (.d (.v (.bool b32)))]), []⟩)))) else (
 callT T 40 [(.g [(.v (.string s1)), (.v (.int .i64 n2)), (.v (.int .i64 n3)), (.s 7 l4), (.s 2 l5)])] fun o33 =>
 oG o33.res fun r34 =>
 tst (Nat.beq r34.length 5) (
 cS r34 0 fun s35 =>
 cI .i64 r34 1 fun n36 =>
 cI .i64 r34 2 fun n37 =>
 cL 7 r34 3 fun l38 =>
 cL 2 r34 4 fun l39 =>
 some ⟨(.t [(.g [(.v (.string s35)), (.v (.int .i64 n36)), (.v (.int .i64 n37)), (.s 7 l38), (.s 2 l39)]), (.d (.v (.bool false)))]), []⟩))) else (
 callT T 40 [(.g [(.v (.string s1)), (.v (.int .i64 n2)), (.v (.int .i64 n3)), (.s 7 l4), (.s 2 l5)])] fun o40 =>
 oG o40.res fun r41 =>
 tst (Nat.beq r41.length 5) (
 cS r41 0 fun s42 =>
 cI .i64 r41 1 fun n43 =>
 cI .i64 r41 2 fun n44 =>
 cL 7 r41 3 fun l45 =>
 cL 2 r41 4 fun l46 =>
 some ⟨(.t [(.g [(.v (.string s42)), (.v (.int .i64 n43)), (.v (.int .i64 n44)), (.s 7 l45), (.s 2 l46)]), (.d (.v (.bool false)))]), []⟩))) := by kernel_rfl
/- loop.example/g00119/laws.eqStringS -/
def b63x0 : ACode := (
  .seq (.seq (.reg false [⟨some 11, .mv (.t 5), none⟩,
    ⟨some 12, .mv (.t 0), none⟩,
    ⟨some 13, .len false (.t 12), none⟩,
    ⟨some 14, .bin .lss (.t 11) (.t 13), none⟩]) (
  .cond (.t 14) (.skip) (.exit 0))) (
  .seq (.block 1 (.seq (.dreg [] [(0, ⟨some 17, .mv (.t 0), none⟩),
      (0, ⟨some 18, .mv (.t 5), none⟩),
      (0, ⟨some 19, .iad 1 (.t 17) (.t 18), none⟩),
      (0, ⟨some 20, .load false [.s] (.t 19), none⟩),
      (0, ⟨some 21, .mv (.t 1), none⟩),
      (0, ⟨some 22, .mv (.t 5), none⟩),
      (0, ⟨some 23, .iad 1 (.t 21) (.t 22), none⟩),
      (0, ⟨some 24, .load false [.s] (.t 23), none⟩)] [⟨some 25, .bin .neq (.t 20) (.t 24), none⟩]) (
    .cond (.t 25) (.seq (.reg false [⟨some 4, .mv (.c (.v (.bool false))), none⟩]) (
      .ret)) (.skip)))) (
  .reg false [⟨some 15, .mv (.t 5), none⟩,
    ⟨some 16, .bin .add (.t 15) (.c (.v (.int .i64 1))), none⟩,
    ⟨some 5, .mv (.t 16), none⟩])))
def e63x0 : Exits := [(.ret, [(4, .c .b)]), ((.exit 0), [])]
noncomputable def l63x0 (T : Table) (k : Nat) := loopN (evalC ⟨T, []⟩ k b63x0 (Ex × List AV)) [0, 1, 5] e63x0
def a63 : AFun := ⟨[.rd, .rd], false, [.t 4], (
  .seq (.reg false [⟨some 4, .mv (.c (.v (.bool false))), none⟩]) (
  .seq (.seq (.reg false [⟨some 6, .mv (.t 0), none⟩,
    ⟨some 7, .len false (.t 6), none⟩,
    ⟨some 8, .mv (.t 1), none⟩,
    ⟨some 9, .len false (.t 8), none⟩,
    ⟨some 10, .bin .neq (.t 7) (.t 9), none⟩]) (
  .cond (.t 10) (.seq (.reg false [⟨some 4, .mv (.c (.v (.bool false))), none⟩]) (
    .ret)) (.skip))) (
  .seq (.seq (.reg false [⟨some 5, .mv (.c (.v (.int .i64 0))), none⟩]) (
  .block 0 (.loop [0, 1, 5] e63x0 b63x0))) (
  .seq (.reg false [⟨some 4, .mv (.c (.v (.bool true))), none⟩]) (
  .ret)))))⟩
theorem l63x0s (T : Table) (k n : Nat) (l3 : Rows) (l4 : Rows) (n5 : Int) : l63x0 T k (n + 1) [(.fz 1 l3), (.fz 1 l4), (.v (.int .i64 n5))] = (
 bif (decide (n5 < (l3.length : Int))) then (
 tst (decide (0 ≤ n5)) (
 look l3 (Int.toNat n5) fun r6 =>
 cS r6 0 fun s7 =>
 tst (decide (0 ≤ n5)) (
 look l4 (Int.toNat n5) fun r8 =>
 cS r8 0 fun s9 =>
 bif (!(bytesEq s7 s9)) then (
 some (.ret, [(.v (.bool false))])) else (
 l63x0 T k n [(.fz 1 l3), (.fz 1 l4), (.v (.int .i64 (IntKind.wrap .i64 (n5 + 1))))])))) else (
 some ((.exit 0), []))) := by kernel_rfl
theorem a63q (T : Table) (k : Nat) (l1 : Rows) (l2 : Rows) : evalF T k a63 [(.d (.s 1 l1)), (.d (.s 1 l2))] = (
 bif ((l1.length : Int) != (l2.length : Int)) then (
 some ⟨(.d (.v (.bool false))), []⟩) else (
 aft (l63x0 T k k [(.fz 1 l1), (.fz 1 l2), (.v (.int .i64 0))]) fun e10 ys11 =>
 bif e10.same .ret then (
 aV ys11 0 fun x12 =>
 aB x12 fun b13 =>
 some ⟨(.d (.v (.bool b13))), []⟩) else (
 bif e10.same (.exit 0) then (
 some ⟨(.d (.v (.bool true))), []⟩) else (
 none)))) := by kernel_rfl
/- loop.example/g00119/laws.eqValueS -/
def b149x0 : ACode := (
  .seq (.seq (.reg false [⟨some 11, .mv (.t 5), none⟩,
    ⟨some 12, .mv (.t 0), none⟩,
    ⟨some 13, .len false (.t 12), none⟩,
    ⟨some 14, .bin .lss (.t 11) (.t 13), none⟩]) (
  .cond (.t 14) (.skip) (.exit 0))) (
  .seq (.block 1 (.seq (.dreg [] [(0, ⟨some 17, .mv (.t 0), none⟩),
      (0, ⟨some 18, .mv (.t 5), none⟩),
      (0, ⟨some 19, .iad 5 (.t 17) (.t 18), none⟩),
      (0, ⟨some 20, .load true [(.i .i64), .s, (.i .i64), (.sl 1), (.sl 5)] (.t 19), none⟩),
      (0, ⟨some 21, .mv (.t 1), none⟩),
      (0, ⟨some 22, .mv (.t 5), none⟩),
      (0, ⟨some 23, .iad 5 (.t 21) (.t 22), none⟩),
      (0, ⟨some 24, .load true [(.i .i64), .s, (.i .i64), (.sl 1), (.sl 5)] (.t 23), none⟩)] [⟨some 25, .call (.f 127) [.rd, .rd] false [.c .b] [(.t 20), (.t 24)], none⟩,
      ⟨some 26, .un .not (.t 25), none⟩]) (
    .cond (.t 26) (.seq (.reg false [⟨some 4, .mv (.c (.v (.bool false))), none⟩]) (
      .ret)) (.skip)))) (
  .reg false [⟨some 15, .mv (.t 5), none⟩,
    ⟨some 16, .bin .add (.t 15) (.c (.v (.int .i64 1))), none⟩,
    ⟨some 5, .mv (.t 16), none⟩])))
def e149x0 : Exits := [(.ret, [(4, .c .b)]), ((.exit 0), [])]
noncomputable def l149x0 (T : Table) (k : Nat) := loopN (evalC ⟨T, []⟩ k b149x0 (Ex × List AV)) [0, 1, 5] e149x0
def a149 : AFun := ⟨[.rd, .rd], false, [.t 4], (
  .seq (.reg false [⟨some 4, .mv (.c (.v (.bool false))), none⟩]) (
  .seq (.seq (.reg false [⟨some 6, .mv (.t 0), none⟩,
    ⟨some 7, .len false (.t 6), none⟩,
    ⟨some 8, .mv (.t 1), none⟩,
    ⟨some 9, .len false (.t 8), none⟩,
    ⟨some 10, .bin .neq (.t 7) (.t 9), none⟩]) (
  .cond (.t 10) (.seq (.reg false [⟨some 4, .mv (.c (.v (.bool false))), none⟩]) (
    .ret)) (.skip))) (
  .seq (.seq (.reg false [⟨some 5, .mv (.c (.v (.int .i64 0))), none⟩]) (
  .block 0 (.loop [0, 1, 5] e149x0 b149x0))) (
  .seq (.reg false [⟨some 4, .mv (.c (.v (.bool true))), none⟩]) (
  .ret)))))⟩
theorem l149x0s (T : Table) (k n : Nat) (l3 : Rows) (l4 : Rows) (n5 : Int) : l149x0 T k (n + 1) [(.fz 5 l3), (.fz 5 l4), (.v (.int .i64 n5))] = (
 bif (decide (n5 < (l3.length : Int))) then (
 tst (decide (0 ≤ n5)) (
 look l3 (Int.toNat n5) fun r6 =>
 cI .i64 r6 0 fun n7 =>
 cS r6 1 fun s8 =>
 cI .i64 r6 2 fun n9 =>
 cL 1 r6 3 fun l10 =>
 cL 5 r6 4 fun l11 =>
 tst (decide (0 ≤ n5)) (
 look l4 (Int.toNat n5) fun r12 =>
 cI .i64 r12 0 fun n13 =>
 cS r12 1 fun s14 =>
 cI .i64 r12 2 fun n15 =>
 cL 1 r12 3 fun l16 =>
 cL 5 r12 4 fun l17 =>
 callT T 127 [(.g [(.v (.int .i64 n7)), (.v (.string s8)), (.v (.int .i64 n9)), (.s 1 l10), (.s 5 l11)]), (.g [(.v (.int .i64 n13)), (.v (.string s14)), (.v (.int .i64 n15)), (.s 1 l16), (.s 5 l17)])] fun o18 =>
 oD o18.res fun d19 =>
 dB d19 fun b20 =>
 bif (!b20) then (
 some (.ret, [(.v (.bool false))])) else (
 l149x0 T k n [(.fz 5 l3), (.fz 5 l4), (.v (.int .i64 (IntKind.wrap .i64 (n5 + 1))))])))) else (
 some ((.exit 0), []))) := by kernel_rfl
theorem a149q (T : Table) (k : Nat) (l1 : Rows) (l2 : Rows) : evalF T k a149 [(.d (.s 5 l1)), (.d (.s 5 l2))] = (
 bif ((l1.length : Int) != (l2.length : Int)) then (
 some ⟨(.d (.v (.bool false))), []⟩) else (
 aft (l149x0 T k k [(.fz 5 l1), (.fz 5 l2), (.v (.int .i64 0))]) fun e21 ys22 =>
 bif e21.same .ret then (
 aV ys22 0 fun x23 =>
 aB x23 fun b24 =>
 some ⟨(.d (.v (.bool b24))), []⟩) else (
 bif e21.same (.exit 0) then (
 some ⟨(.d (.v (.bool true))), []⟩) else (
 none)))) := by kernel_rfl
/- loop.example/g00119/laws.eqValue -/

def a127 : AFun := ⟨[.rd, .rd], false, [.t 4], (
  .seq (.reg false [⟨some 2, .box (.t 0), none⟩,
    ⟨some 3, .box (.t 1), none⟩,
    ⟨some 4, .mv (.c (.v (.bool false))), none⟩]) (
  .seq (.seq (.reg false [⟨some 5, .fad 0 (.t 2), none⟩,
    ⟨some 6, .load false [(.i .i64)] (.t 5), none⟩,
    ⟨some 7, .fad 0 (.t 3), none⟩,
    ⟨some 8, .load false [(.i .i64)] (.t 7), none⟩,
    ⟨some 9, .bin .neq (.t 6) (.t 8), none⟩]) (
  .cond (.t 9) (.seq (.reg false [⟨some 4, .mv (.c (.v (.bool false))), none⟩]) (
    .ret)) (.skip))) (
  .seq (.seq (.reg false [⟨some 10, .fad 1 (.t 2), none⟩,
    ⟨some 11, .load false [.s] (.t 10), none⟩,
    ⟨some 12, .fad 1 (.t 3), none⟩,
    ⟨some 13, .load false [.s] (.t 12), none⟩,
    ⟨some 14, .bin .neq (.t 11) (.t 13), none⟩]) (
  .cond (.t 14) (.seq (.reg false [⟨some 4, .mv (.c (.v (.bool false))), none⟩]) (
    .ret)) (.skip))) (
  .seq (.seq (.reg false [⟨some 15, .fad 2 (.t 2), none⟩,
    ⟨some 16, .load false [(.i .i64)] (.t 15), none⟩,
    ⟨some 17, .fad 2 (.t 3), none⟩,
    ⟨some 18, .load false [(.i .i64)] (.t 17), none⟩,
    ⟨some 19, .bin .neq (.t 16) (.t 18), none⟩]) (
  .cond (.t 19) (.seq (.reg false [⟨some 4, .mv (.c (.v (.bool false))), none⟩]) (
    .ret)) (.skip))) (
  .seq (.seq (.reg false [⟨some 20, .fad 3 (.t 2), none⟩,
    ⟨some 21, .load false [(.sl 1)] (.t 20), none⟩,
    ⟨some 22, .fad 3 (.t 3), none⟩,
    ⟨some 23, .load false [(.sl 1)] (.t 22), none⟩,
    ⟨some 24, .call (.f 63) [.rd, .rd] false [.c .b] [(.t 21), (.t 23)], none⟩,
    ⟨some 25, .un .not (.t 24), none⟩]) (
  .cond (.t 25) (.seq (.reg false [⟨some 4, .mv (.c (.v (.bool false))), none⟩]) (
    .ret)) (.skip))) (
  .seq (.seq (.reg false [⟨some 26, .fad 4 (.t 2), none⟩,
    ⟨some 27, .load false [(.sl 5)] (.t 26), none⟩,
    ⟨some 28, .fad 4 (.t 3), none⟩,
    ⟨some 29, .load false [(.sl 5)] (.t 28), none⟩,
    ⟨some 30, .call (.f 149) [.rd, .rd] false [.c .b] [(.t 27), (.t 29)], none⟩,
    ⟨some 31, .un .not (.t 30), none⟩]) (
  .cond (.t 31) (.seq (.reg false [⟨some 4, .mv (.c (.v (.bool false))), none⟩]) (
    .ret)) (.skip))) (
  .seq (.reg false [⟨some 4, .mv (.c (.v (.bool true))), none⟩]) (
  .ret))))))))⟩

theorem a127q (T : Table) (k : Nat) (n1 : Int) (s2 : ByteArray) (n3 : Int) (l4 : Rows) (l5 : Rows) (n6 : Int) (s7 : ByteArray) (n8 : Int) (l9 : Rows) (l10 : Rows) : evalF T k a127 [(.g [(.v (.int .i64 n1)), (.v (.string s2)), (.v (.int .i64 n3)), (.s 1 l4), (.s 5 l5)]), (.g [(.v (.int .i64 n6)), (.v (.string s7)), (.v (.int .i64 n8)), (.s 1 l9), (.s 5 l10)])] = (
 bif (n1 != n6) then (
 some ⟨(.d (.v (.bool false))), []⟩) else (
 bif (!(bytesEq s2 s7)) then (
 some ⟨(.d (.v (.bool false))), []⟩) else (
 bif (n3 != n8) then (
 some ⟨(.d (.v (.bool false))), []⟩) else (
 callT T 63 [(.d (.s 1 l4)), (.d (.s 1 l9))] fun o11 =>
 oD o11.res fun d12 =>
 dB d12 fun b13 =>
 bif (!b13) then (
 some ⟨(.d (.v (.bool false))), []⟩) else (
 callT T 149 [(.d (.s 5 l5)), (.d (.s 5 l10))] fun o14 =>
 oD o14.res fun d15 =>
 dB d15 fun b16 =>
 bif (!b16) then (
 some ⟨(.d (.v (.bool false))), []⟩) else (
 some ⟨(.d (.v (.bool true))), []⟩)))))) := by kernel_rfl
/- loop.example/g00119/laws.eqWork -/

def a90 : AFun := ⟨[.rd, .rd], false, [.t 4], (
  .seq (.reg false [⟨some 2, .box (.t 0), none⟩,
    ⟨some 3, .box (.t 1), none⟩,
    ⟨some 4, .mv (.c (.v (.bool false))), none⟩]) (
  .seq (.seq (.reg false [⟨some 5, .fad 0 (.t 2), none⟩,
    ⟨some 6, .load false [(.i .i64)] (.t 5), none⟩,
    ⟨some 7, .fad 0 (.t 3), none⟩,
    ⟨some 8, .load false [(.i .i64)] (.t 7), none⟩,
    ⟨some 9, .bin .neq (.t 6) (.t 8), none⟩]) (
  .cond (.t 9) (.seq (.reg false [⟨some 4, .mv (.c (.v (.bool false))), none⟩]) (
    .ret)) (.skip))) (
  .seq (.seq (.reg false [⟨some 10, .fad 1 (.t 2), none⟩,
    ⟨some 11, .load false [(.i .i64)] (.t 10), none⟩,
    ⟨some 12, .fad 1 (.t 3), none⟩,
    ⟨some 13, .load false [(.i .i64)] (.t 12), none⟩,
    ⟨some 14, .bin .neq (.t 11) (.t 13), none⟩]) (
  .cond (.t 14) (.seq (.reg false [⟨some 4, .mv (.c (.v (.bool false))), none⟩]) (
    .ret)) (.skip))) (
  .seq (.seq (.reg false [⟨some 15, .fad 2 (.t 2), none⟩,
    ⟨some 16, .load true [(.i .i64), .s, (.i .i64), (.sl 1), (.sl 5)] (.t 15), none⟩,
    ⟨some 17, .fad 2 (.t 3), none⟩,
    ⟨some 18, .load true [(.i .i64), .s, (.i .i64), (.sl 1), (.sl 5)] (.t 17), none⟩,
    ⟨some 19, .call (.f 127) [.rd, .rd] false [.c .b] [(.t 16), (.t 18)], none⟩,
    ⟨some 20, .un .not (.t 19), none⟩]) (
  .cond (.t 20) (.seq (.reg false [⟨some 4, .mv (.c (.v (.bool false))), none⟩]) (
    .ret)) (.skip))) (
  .seq (.reg false [⟨some 4, .mv (.c (.v (.bool true))), none⟩]) (
  .ret))))))⟩

theorem a90q (T : Table) (k : Nat) (n1 : Int) (n2 : Int) (n3 : Int) (s4 : ByteArray) (n5 : Int) (l6 : Rows) (l7 : Rows) (n8 : Int) (n9 : Int) (n10 : Int) (s11 : ByteArray) (n12 : Int) (l13 : Rows) (l14 : Rows) : evalF T k a90 [(.g [(.v (.int .i64 n1)), (.v (.int .i64 n2)), (.v (.int .i64 n3)), (.v (.string s4)), (.v (.int .i64 n5)), (.s 1 l6), (.s 5 l7)]), (.g [(.v (.int .i64 n8)), (.v (.int .i64 n9)), (.v (.int .i64 n10)), (.v (.string s11)), (.v (.int .i64 n12)), (.s 1 l13), (.s 5 l14)])] = (
 bif (n1 != n8) then (
 some ⟨(.d (.v (.bool false))), []⟩) else (
 bif (n2 != n9) then (
 some ⟨(.d (.v (.bool false))), []⟩) else (
 callT T 127 [(.g [(.v (.int .i64 n3)), (.v (.string s4)), (.v (.int .i64 n5)), (.s 1 l6), (.s 5 l7)]), (.g [(.v (.int .i64 n10)), (.v (.string s11)), (.v (.int .i64 n12)), (.s 1 l13), (.s 5 l14)])] fun o15 =>
 oD o15.res fun d16 =>
 dB d16 fun b17 =>
 bif (!b17) then (
 some ⟨(.d (.v (.bool false))), []⟩) else (
 some ⟨(.d (.v (.bool true))), []⟩)))) := by kernel_rfl
/- loop.example/g00119/laws.eqWorkS -/
def b42x0 : ACode := (
  .seq (.seq (.reg false [⟨some 11, .mv (.t 5), none⟩,
    ⟨some 12, .mv (.t 0), none⟩,
    ⟨some 13, .len false (.t 12), none⟩,
    ⟨some 14, .bin .lss (.t 11) (.t 13), none⟩]) (
  .cond (.t 14) (.skip) (.exit 0))) (
  .seq (.block 1 (.seq (.dreg [] [(0, ⟨some 17, .mv (.t 0), none⟩),
      (0, ⟨some 18, .mv (.t 5), none⟩),
      (0, ⟨some 19, .iad 7 (.t 17) (.t 18), none⟩),
      (0, ⟨some 20, .load true [(.i .i64), (.i .i64), (.i .i64), .s, (.i .i64), (.sl 1), (.sl 5)] (.t 19), none⟩),
      (0, ⟨some 21, .mv (.t 1), none⟩),
      (0, ⟨some 22, .mv (.t 5), none⟩),
      (0, ⟨some 23, .iad 7 (.t 21) (.t 22), none⟩),
      (0, ⟨some 24, .load true [(.i .i64), (.i .i64), (.i .i64), .s, (.i .i64), (.sl 1), (.sl 5)] (.t 23), none⟩)] [⟨some 25, .call (.f 90) [.rd, .rd] false [.c .b] [(.t 20), (.t 24)], none⟩,
      ⟨some 26, .un .not (.t 25), none⟩]) (
    .cond (.t 26) (.seq (.reg false [⟨some 4, .mv (.c (.v (.bool false))), none⟩]) (
      .ret)) (.skip)))) (
  .reg false [⟨some 15, .mv (.t 5), none⟩,
    ⟨some 16, .bin .add (.t 15) (.c (.v (.int .i64 1))), none⟩,
    ⟨some 5, .mv (.t 16), none⟩])))
def e42x0 : Exits := [(.ret, [(4, .c .b)]), ((.exit 0), [])]
noncomputable def l42x0 (T : Table) (k : Nat) := loopN (evalC ⟨T, []⟩ k b42x0 (Ex × List AV)) [0, 1, 5] e42x0
def a42 : AFun := ⟨[.rd, .rd], false, [.t 4], (
  .seq (.reg false [⟨some 4, .mv (.c (.v (.bool false))), none⟩]) (
  .seq (.seq (.reg false [⟨some 6, .mv (.t 0), none⟩,
    ⟨some 7, .len false (.t 6), none⟩,
    ⟨some 8, .mv (.t 1), none⟩,
    ⟨some 9, .len false (.t 8), none⟩,
    ⟨some 10, .bin .neq (.t 7) (.t 9), none⟩]) (
  .cond (.t 10) (.seq (.reg false [⟨some 4, .mv (.c (.v (.bool false))), none⟩]) (
    .ret)) (.skip))) (
  .seq (.seq (.reg false [⟨some 5, .mv (.c (.v (.int .i64 0))), none⟩]) (
  .block 0 (.loop [0, 1, 5] e42x0 b42x0))) (
  .seq (.reg false [⟨some 4, .mv (.c (.v (.bool true))), none⟩]) (
  .ret)))))⟩
theorem l42x0s (T : Table) (k n : Nat) (l3 : Rows) (l4 : Rows) (n5 : Int) : l42x0 T k (n + 1) [(.fz 7 l3), (.fz 7 l4), (.v (.int .i64 n5))] = (
 bif (decide (n5 < (l3.length : Int))) then (
 tst (decide (0 ≤ n5)) (
 look l3 (Int.toNat n5) fun r6 =>
 cI .i64 r6 0 fun n7 =>
 cI .i64 r6 1 fun n8 =>
 cI .i64 r6 2 fun n9 =>
 cS r6 3 fun s10 =>
 cI .i64 r6 4 fun n11 =>
 cL 1 r6 5 fun l12 =>
 cL 5 r6 6 fun l13 =>
 tst (decide (0 ≤ n5)) (
 look l4 (Int.toNat n5) fun r14 =>
 cI .i64 r14 0 fun n15 =>
 cI .i64 r14 1 fun n16 =>
 cI .i64 r14 2 fun n17 =>
 cS r14 3 fun s18 =>
 cI .i64 r14 4 fun n19 =>
 cL 1 r14 5 fun l20 =>
 cL 5 r14 6 fun l21 =>
 callT T 90 [(.g [(.v (.int .i64 n7)), (.v (.int .i64 n8)), (.v (.int .i64 n9)), (.v (.string s10)), (.v (.int .i64 n11)), (.s 1 l12), (.s 5 l13)]), (.g [(.v (.int .i64 n15)), (.v (.int .i64 n16)), (.v (.int .i64 n17)), (.v (.string s18)), (.v (.int .i64 n19)), (.s 1 l20), (.s 5 l21)])] fun o22 =>
 oD o22.res fun d23 =>
 dB d23 fun b24 =>
 bif (!b24) then (
 some (.ret, [(.v (.bool false))])) else (
 l42x0 T k n [(.fz 7 l3), (.fz 7 l4), (.v (.int .i64 (IntKind.wrap .i64 (n5 + 1))))])))) else (
 some ((.exit 0), []))) := by kernel_rfl
theorem a42q (T : Table) (k : Nat) (l1 : Rows) (l2 : Rows) : evalF T k a42 [(.d (.s 7 l1)), (.d (.s 7 l2))] = (
 bif ((l1.length : Int) != (l2.length : Int)) then (
 some ⟨(.d (.v (.bool false))), []⟩) else (
 aft (l42x0 T k k [(.fz 7 l1), (.fz 7 l2), (.v (.int .i64 0))]) fun e25 ys26 =>
 bif e25.same .ret then (
 aV ys26 0 fun x27 =>
 aB x27 fun b28 =>
 some ⟨(.d (.v (.bool b28))), []⟩) else (
 bif e25.same (.exit 0) then (
 some ⟨(.d (.v (.bool true))), []⟩) else (
 none)))) := by kernel_rfl
/- loop.example/g00119/laws.eqRun -/

def a91 : AFun := ⟨[.rd, .rd], false, [.t 4], (
  .seq (.reg false [⟨some 2, .box (.t 0), none⟩,
    ⟨some 3, .box (.t 1), none⟩,
    ⟨some 4, .mv (.c (.v (.bool false))), none⟩]) (
  .seq (.seq (.reg false [⟨some 5, .fad 0 (.t 2), none⟩,
    ⟨some 6, .load false [(.i .i64)] (.t 5), none⟩,
    ⟨some 7, .fad 0 (.t 3), none⟩,
    ⟨some 8, .load false [(.i .i64)] (.t 7), none⟩,
    ⟨some 9, .bin .neq (.t 6) (.t 8), none⟩]) (
  .cond (.t 9) (.seq (.reg false [⟨some 4, .mv (.c (.v (.bool false))), none⟩]) (
    .ret)) (.skip))) (
  .seq (.seq (.reg false [⟨some 10, .fad 1 (.t 2), none⟩,
    ⟨some 11, .load false [(.i .i64)] (.t 10), none⟩,
    ⟨some 12, .fad 1 (.t 3), none⟩,
    ⟨some 13, .load false [(.i .i64)] (.t 12), none⟩,
    ⟨some 14, .bin .neq (.t 11) (.t 13), none⟩]) (
  .cond (.t 14) (.seq (.reg false [⟨some 4, .mv (.c (.v (.bool false))), none⟩]) (
    .ret)) (.skip))) (
  .seq (.reg false [⟨some 4, .mv (.c (.v (.bool true))), none⟩]) (
  .ret)))))⟩

theorem a91q (T : Table) (k : Nat) (n1 : Int) (n2 : Int) (n3 : Int) (n4 : Int) : evalF T k a91 [(.g [(.v (.int .i64 n1)), (.v (.int .i64 n2))]), (.g [(.v (.int .i64 n3)), (.v (.int .i64 n4))])] = (
 bif (n1 != n3) then (
 some ⟨(.d (.v (.bool false))), []⟩) else (
 bif (n2 != n4) then (
 some ⟨(.d (.v (.bool false))), []⟩) else (
 some ⟨(.d (.v (.bool true))), []⟩))) := by kernel_rfl
/- loop.example/g00119/laws.eqRunS -/
def b43x0 : ACode := (
  .seq (.seq (.reg false [⟨some 11, .mv (.t 5), none⟩,
    ⟨some 12, .mv (.t 0), none⟩,
    ⟨some 13, .len false (.t 12), none⟩,
    ⟨some 14, .bin .lss (.t 11) (.t 13), none⟩]) (
  .cond (.t 14) (.skip) (.exit 0))) (
  .seq (.block 1 (.seq (.dreg [] [(0, ⟨some 17, .mv (.t 0), none⟩),
      (0, ⟨some 18, .mv (.t 5), none⟩),
      (0, ⟨some 19, .iad 2 (.t 17) (.t 18), none⟩),
      (0, ⟨some 20, .load true [(.i .i64), (.i .i64)] (.t 19), none⟩),
      (0, ⟨some 21, .mv (.t 1), none⟩),
      (0, ⟨some 22, .mv (.t 5), none⟩),
      (0, ⟨some 23, .iad 2 (.t 21) (.t 22), none⟩),
      (0, ⟨some 24, .load true [(.i .i64), (.i .i64)] (.t 23), none⟩)] [⟨some 25, .call (.f 91) [.rd, .rd] false [.c .b] [(.t 20), (.t 24)], none⟩,
      ⟨some 26, .un .not (.t 25), none⟩]) (
    .cond (.t 26) (.seq (.reg false [⟨some 4, .mv (.c (.v (.bool false))), none⟩]) (
      .ret)) (.skip)))) (
  .reg false [⟨some 15, .mv (.t 5), none⟩,
    ⟨some 16, .bin .add (.t 15) (.c (.v (.int .i64 1))), none⟩,
    ⟨some 5, .mv (.t 16), none⟩])))
def e43x0 : Exits := [(.ret, [(4, .c .b)]), ((.exit 0), [])]
noncomputable def l43x0 (T : Table) (k : Nat) := loopN (evalC ⟨T, []⟩ k b43x0 (Ex × List AV)) [0, 1, 5] e43x0
def a43 : AFun := ⟨[.rd, .rd], false, [.t 4], (
  .seq (.reg false [⟨some 4, .mv (.c (.v (.bool false))), none⟩]) (
  .seq (.seq (.reg false [⟨some 6, .mv (.t 0), none⟩,
    ⟨some 7, .len false (.t 6), none⟩,
    ⟨some 8, .mv (.t 1), none⟩,
    ⟨some 9, .len false (.t 8), none⟩,
    ⟨some 10, .bin .neq (.t 7) (.t 9), none⟩]) (
  .cond (.t 10) (.seq (.reg false [⟨some 4, .mv (.c (.v (.bool false))), none⟩]) (
    .ret)) (.skip))) (
  .seq (.seq (.reg false [⟨some 5, .mv (.c (.v (.int .i64 0))), none⟩]) (
  .block 0 (.loop [0, 1, 5] e43x0 b43x0))) (
  .seq (.reg false [⟨some 4, .mv (.c (.v (.bool true))), none⟩]) (
  .ret)))))⟩
theorem l43x0s (T : Table) (k n : Nat) (l3 : Rows) (l4 : Rows) (n5 : Int) : l43x0 T k (n + 1) [(.fz 2 l3), (.fz 2 l4), (.v (.int .i64 n5))] = (
 bif (decide (n5 < (l3.length : Int))) then (
 tst (decide (0 ≤ n5)) (
 look l3 (Int.toNat n5) fun r6 =>
 cI .i64 r6 0 fun n7 =>
 cI .i64 r6 1 fun n8 =>
 tst (decide (0 ≤ n5)) (
 look l4 (Int.toNat n5) fun r9 =>
 cI .i64 r9 0 fun n10 =>
 cI .i64 r9 1 fun n11 =>
 callT T 91 [(.g [(.v (.int .i64 n7)), (.v (.int .i64 n8))]), (.g [(.v (.int .i64 n10)), (.v (.int .i64 n11))])] fun o12 =>
 oD o12.res fun d13 =>
 dB d13 fun b14 =>
 bif (!b14) then (
 some (.ret, [(.v (.bool false))])) else (
 l43x0 T k n [(.fz 2 l3), (.fz 2 l4), (.v (.int .i64 (IntKind.wrap .i64 (n5 + 1))))])))) else (
 some ((.exit 0), []))) := by kernel_rfl
theorem a43q (T : Table) (k : Nat) (l1 : Rows) (l2 : Rows) : evalF T k a43 [(.d (.s 2 l1)), (.d (.s 2 l2))] = (
 bif ((l1.length : Int) != (l2.length : Int)) then (
 some ⟨(.d (.v (.bool false))), []⟩) else (
 aft (l43x0 T k k [(.fz 2 l1), (.fz 2 l2), (.v (.int .i64 0))]) fun e15 ys16 =>
 bif e15.same .ret then (
 aV ys16 0 fun x17 =>
 aB x17 fun b18 =>
 some ⟨(.d (.v (.bool b18))), []⟩) else (
 bif e15.same (.exit 0) then (
 some ⟨(.d (.v (.bool true))), []⟩) else (
 none)))) := by kernel_rfl
/- loop.example/g00119/laws.eqIsle -/

def a13 : AFun := ⟨[.rd, .rd], false, [.t 4], (
  .seq (.reg false [⟨some 2, .box (.t 0), none⟩,
    ⟨some 3, .box (.t 1), none⟩,
    ⟨some 4, .mv (.c (.v (.bool false))), none⟩]) (
  .seq (.seq (.reg false [⟨some 5, .fad 0 (.t 2), none⟩,
    ⟨some 6, .load false [.s] (.t 5), none⟩,
    ⟨some 7, .fad 0 (.t 3), none⟩,
    ⟨some 8, .load false [.s] (.t 7), none⟩,
    ⟨some 9, .bin .neq (.t 6) (.t 8), none⟩]) (
  .cond (.t 9) (.seq (.reg false [⟨some 4, .mv (.c (.v (.bool false))), none⟩]) (
    .ret)) (.skip))) (
  .seq (.seq (.reg false [⟨some 10, .fad 1 (.t 2), none⟩,
    ⟨some 11, .load false [(.i .i64)] (.t 10), none⟩,
    ⟨some 12, .fad 1 (.t 3), none⟩,
    ⟨some 13, .load false [(.i .i64)] (.t 12), none⟩,
    ⟨some 14, .bin .neq (.t 11) (.t 13), none⟩]) (
  .cond (.t 14) (.seq (.reg false [⟨some 4, .mv (.c (.v (.bool false))), none⟩]) (
    .ret)) (.skip))) (
  .seq (.seq (.reg false [⟨some 15, .fad 2 (.t 2), none⟩,
    ⟨some 16, .load false [(.i .i64)] (.t 15), none⟩,
    ⟨some 17, .fad 2 (.t 3), none⟩,
    ⟨some 18, .load false [(.i .i64)] (.t 17), none⟩,
    ⟨some 19, .bin .neq (.t 16) (.t 18), none⟩]) (
  .cond (.t 19) (.seq (.reg false [⟨some 4, .mv (.c (.v (.bool false))), none⟩]) (
    .ret)) (.skip))) (
  .seq (.seq (.reg false [⟨some 20, .fad 3 (.t 2), none⟩,
    ⟨some 21, .load false [(.sl 7)] (.t 20), none⟩,
    ⟨some 22, .fad 3 (.t 3), none⟩,
    ⟨some 23, .load false [(.sl 7)] (.t 22), none⟩,
    ⟨some 24, .call (.f 42) [.rd, .rd] false [.c .b] [(.t 21), (.t 23)], none⟩,
    ⟨some 25, .un .not (.t 24), none⟩]) (
  .cond (.t 25) (.seq (.reg false [⟨some 4, .mv (.c (.v (.bool false))), none⟩]) (
    .ret)) (.skip))) (
  .seq (.seq (.reg false [⟨some 26, .fad 4 (.t 2), none⟩,
    ⟨some 27, .load false [(.sl 2)] (.t 26), none⟩,
    ⟨some 28, .fad 4 (.t 3), none⟩,
    ⟨some 29, .load false [(.sl 2)] (.t 28), none⟩,
    ⟨some 30, .call (.f 43) [.rd, .rd] false [.c .b] [(.t 27), (.t 29)], none⟩,
    ⟨some 31, .un .not (.t 30), none⟩]) (
  .cond (.t 31) (.seq (.reg false [⟨some 4, .mv (.c (.v (.bool false))), none⟩]) (
    .ret)) (.skip))) (
  .seq (.reg false [⟨some 4, .mv (.c (.v (.bool true))), none⟩]) (
  .ret))))))))⟩

theorem a13q (T : Table) (k : Nat) (s1 : ByteArray) (n2 : Int) (n3 : Int) (l4 : Rows) (l5 : Rows) (s6 : ByteArray) (n7 : Int) (n8 : Int) (l9 : Rows) (l10 : Rows) : evalF T k a13 [(.g [(.v (.string s1)), (.v (.int .i64 n2)), (.v (.int .i64 n3)), (.s 7 l4), (.s 2 l5)]), (.g [(.v (.string s6)), (.v (.int .i64 n7)), (.v (.int .i64 n8)), (.s 7 l9), (.s 2 l10)])] = (
 bif (!(bytesEq s1 s6)) then (
 some ⟨(.d (.v (.bool false))), []⟩) else (
 bif (n2 != n7) then (
 some ⟨(.d (.v (.bool false))), []⟩) else (
 bif (n3 != n8) then (
 some ⟨(.d (.v (.bool false))), []⟩) else (
 callT T 42 [(.d (.s 7 l4)), (.d (.s 7 l9))] fun o11 =>
 oD o11.res fun d12 =>
 dB d12 fun b13 =>
 bif (!b13) then (
 some ⟨(.d (.v (.bool false))), []⟩) else (
 callT T 43 [(.d (.s 2 l5)), (.d (.s 2 l10))] fun o14 =>
 oD o14.res fun d15 =>
 dB d15 fun b16 =>
 bif (!b16) then (
 some ⟨(.d (.v (.bool false))), []⟩) else (
 some ⟨(.d (.v (.bool true))), []⟩)))))) := by kernel_rfl
/- loop.example/g00119/laws.eqMsg -/

def a14 : AFun := ⟨[.rd, .rd], false, [.t 4], (
  .seq (.reg false [⟨some 2, .box (.t 0), none⟩,
    ⟨some 3, .box (.t 1), none⟩,
    ⟨some 4, .mv (.c (.v (.bool false))), none⟩]) (
  .seq (.seq (.reg false [⟨some 5, .fad 0 (.t 2), none⟩,
    ⟨some 6, .load false [(.i .i64)] (.t 5), none⟩,
    ⟨some 7, .fad 0 (.t 3), none⟩,
    ⟨some 8, .load false [(.i .i64)] (.t 7), none⟩,
    ⟨some 9, .bin .neq (.t 6) (.t 8), none⟩]) (
  .cond (.t 9) (.seq (.reg false [⟨some 4, .mv (.c (.v (.bool false))), none⟩]) (
    .ret)) (.skip))) (
  .seq (.seq (.reg false [⟨some 10, .fad 1 (.t 2), none⟩,
    ⟨some 11, .load false [.s] (.t 10), none⟩,
    ⟨some 12, .fad 1 (.t 3), none⟩,
    ⟨some 13, .load false [.s] (.t 12), none⟩,
    ⟨some 14, .bin .neq (.t 11) (.t 13), none⟩]) (
  .cond (.t 14) (.seq (.reg false [⟨some 4, .mv (.c (.v (.bool false))), none⟩]) (
    .ret)) (.skip))) (
  .seq (.seq (.reg false [⟨some 15, .fad 2 (.t 2), none⟩,
    ⟨some 16, .load false [(.i .i64)] (.t 15), none⟩,
    ⟨some 17, .fad 2 (.t 3), none⟩,
    ⟨some 18, .load false [(.i .i64)] (.t 17), none⟩,
    ⟨some 19, .bin .neq (.t 16) (.t 18), none⟩]) (
  .cond (.t 19) (.seq (.reg false [⟨some 4, .mv (.c (.v (.bool false))), none⟩]) (
    .ret)) (.skip))) (
  .seq (.seq (.reg false [⟨some 20, .fad 3 (.t 2), none⟩,
    ⟨some 21, .load false [(.sl 7)] (.t 20), none⟩,
    ⟨some 22, .fad 3 (.t 3), none⟩,
    ⟨some 23, .load false [(.sl 7)] (.t 22), none⟩,
    ⟨some 24, .call (.f 42) [.rd, .rd] false [.c .b] [(.t 21), (.t 23)], none⟩,
    ⟨some 25, .un .not (.t 24), none⟩]) (
  .cond (.t 25) (.seq (.reg false [⟨some 4, .mv (.c (.v (.bool false))), none⟩]) (
    .ret)) (.skip))) (
  .seq (.seq (.reg false [⟨some 26, .fad 4 (.t 2), none⟩,
    ⟨some 27, .load false [(.sl 2)] (.t 26), none⟩,
    ⟨some 28, .fad 4 (.t 3), none⟩,
    ⟨some 29, .load false [(.sl 2)] (.t 28), none⟩,
    ⟨some 30, .call (.f 43) [.rd, .rd] false [.c .b] [(.t 27), (.t 29)], none⟩,
    ⟨some 31, .un .not (.t 30), none⟩]) (
  .cond (.t 31) (.seq (.reg false [⟨some 4, .mv (.c (.v (.bool false))), none⟩]) (
    .ret)) (.skip))) (
  .seq (.reg false [⟨some 4, .mv (.c (.v (.bool true))), none⟩]) (
  .ret))))))))⟩

theorem a14q (T : Table) (k : Nat) (n1 : Int) (s2 : ByteArray) (n3 : Int) (l4 : Rows) (l5 : Rows) (n6 : Int) (s7 : ByteArray) (n8 : Int) (l9 : Rows) (l10 : Rows) : evalF T k a14 [(.g [(.v (.int .i64 n1)), (.v (.string s2)), (.v (.int .i64 n3)), (.s 7 l4), (.s 2 l5)]), (.g [(.v (.int .i64 n6)), (.v (.string s7)), (.v (.int .i64 n8)), (.s 7 l9), (.s 2 l10)])] = (
 bif (n1 != n6) then (
 some ⟨(.d (.v (.bool false))), []⟩) else (
 bif (!(bytesEq s2 s7)) then (
 some ⟨(.d (.v (.bool false))), []⟩) else (
 bif (n3 != n8) then (
 some ⟨(.d (.v (.bool false))), []⟩) else (
 callT T 42 [(.d (.s 7 l4)), (.d (.s 7 l9))] fun o11 =>
 oD o11.res fun d12 =>
 dB d12 fun b13 =>
 bif (!b13) then (
 some ⟨(.d (.v (.bool false))), []⟩) else (
 callT T 43 [(.d (.s 2 l5)), (.d (.s 2 l10))] fun o14 =>
 oD o14.res fun d15 =>
 dB d15 fun b16 =>
 bif (!b16) then (
 some ⟨(.d (.v (.bool false))), []⟩) else (
 some ⟨(.d (.v (.bool true))), []⟩)))))) := by kernel_rfl
/- loop.example/g00119/laws.markText -/
def b75x0 : ACode := (
  .seq (.seq (.reg false [⟨some 6, .mv (.t 0), none⟩,
    ⟨some 7, .bin .gtr (.t 6) (.c (.v (.int .i64 0))), none⟩]) (
  .cond (.t 7) (.skip) (.exit 0))) (
  .block 1 (.seq (.reg false [⟨some 8, .mv (.t 0), none⟩,
      ⟨some 9, .bin .rem (.t 8) (.c (.v (.int .i64 10))), none⟩,
      ⟨some 10, .bin .add (.c (.v (.int .i64 48))) (.t 9), none⟩,
      ⟨some 11, .conv (.int .u8) (.t 10), none⟩,
      ⟨some 12, .lit 1 ([[(.v (.int .u8 0))]] : Rows) [(0, (.t 11))], none⟩,
      ⟨some 13, .conv .bytesStr (.t 12), none⟩,
      ⟨some 14, .mv (.t 3), none⟩,
      ⟨some 15, .bin .add (.t 13) (.t 14), none⟩,
      ⟨some 3, .mv (.t 15), none⟩]) (
    .reg false [⟨some 16, .mv (.t 0), none⟩,
      ⟨some 17, .bin .quo (.t 16) (.c (.v (.int .i64 10))), none⟩,
      ⟨some 0, .mv (.t 17), none⟩]))))
def e75x0 : Exits := [((.exit 0), [(3, .c .s)])]
noncomputable def l75x0 (T : Table) (k : Nat) := loopN (evalC ⟨T, []⟩ k b75x0 (Ex × List AV)) [0, 3] e75x0
def a75 : AFun := ⟨[.rd], false, [.t 2], (
  .seq (.reg false [⟨some 2, .mv (.c (.v (.string ({ data := #[] } : ByteArray)))), none⟩]) (
  .seq (.seq (.reg false [⟨some 4, .mv (.t 0), none⟩,
    ⟨some 5, .bin .leq (.t 4) (.c (.v (.int .i64 0))), none⟩]) (
  .cond (.t 5) (.seq (.reg false [⟨some 2, .mv (.c (.v (.string ({ data := #[109, 48] } : ByteArray)))), none⟩]) (
    .ret)) (.skip))) (
  .seq (.reg false [⟨some 3, .mv (.c (.v (.string ({ data := #[] } : ByteArray)))), none⟩]) (
  .seq (.block 0 (.loop [0, 3] e75x0 b75x0)) (
  .seq (.reg false [⟨some 18, .mv (.t 3), none⟩,
    ⟨some 19, .bin .add (.c (.v (.string ({ data := #[109] } : ByteArray)))) (.t 18), none⟩,
    ⟨some 2, .mv (.t 19), none⟩]) (
  .ret))))))⟩
theorem l75x0s (T : Table) (k n : Nat) (n2 : Int) (s3 : ByteArray) : l75x0 T k (n + 1) [(.v (.int .i64 n2)), (.v (.string s3))] = (
 bif (decide (n2 > 0)) then (
 tst (decide (10 ≠ 0)) (
 tst (allBytes ([[(.v (.int .u8 (IntKind.wrap .u8 (IntKind.wrap .i64 (48 + (Int.tmod n2 10))))))]] : Rows)) (
 tst (decide ((bytesOfRows ([[(.v (.int .u8 (IntKind.wrap .u8 (IntKind.wrap .i64 (48 + (Int.tmod n2 10))))))]] : Rows)).size + s3.size ≤ maxLen)) (
 tst (decide (10 ≠ 0)) (
 l75x0 T k n [(.v (.int .i64 (IntKind.wrap .i64 (Int.tdiv n2 10)))), (.v (.string ((bytesOfRows ([[(.v (.int .u8 (IntKind.wrap .u8 (IntKind.wrap .i64 (48 + (Int.tmod n2 10))))))]] : Rows)) ++ s3)))]))))) else (
 some ((.exit 0), [(.v (.string s3))]))) := by kernel_rfl
theorem a75q (T : Table) (k : Nat) (n1 : Int) : evalF T k a75 [(.d (.v (.int .i64 n1)))] = (
 bif (decide (n1 ≤ 0)) then (
 some ⟨(.d (.v (.string ({ data := #[109, 48] } : ByteArray)))), []⟩) else (
 aft (l75x0 T k k [(.v (.int .i64 n1)), (.v (.string ({ data := #[] } : ByteArray)))]) fun e4 ys5 =>
 bif e4.same (.exit 0) then (
 aV ys5 0 fun x6 =>
 aS x6 fun s7 =>
 tst (decide (({ data := #[109] } : ByteArray).size + s7.size ≤ maxLen)) (
 some ⟨(.d (.v (.string (({ data := #[109] } : ByteArray) ++ s7)))), []⟩)) else (
 none))) := by kernel_rfl
/- loop.example/g00119/laws.markStringS -/
def b74x0 : ACode := (
  .seq (.seq (.reg false [⟨some 6, .mv (.t 5), none⟩,
    ⟨some 7, .mv (.t 0), none⟩,
    ⟨some 8, .len false (.t 7), none⟩,
    ⟨some 9, .bin .lss (.t 6) (.t 8), none⟩]) (
  .cond (.t 9) (.skip) (.exit 0))) (
  .seq (.block 1 (.seq (.reg false [⟨some 12, .mv (.t 0), none⟩,
      ⟨some 13, .mv (.t 5), none⟩,
      ⟨some 14, .mv (.t 1), none⟩,
      ⟨some 15, .call (.f 75) [.rd] false [.c .s] [(.t 14)], none⟩,
      ⟨some 16, .iad 1 (.t 12) (.t 13), none⟩,
      ⟨none, .store 1 (.t 16) (.t 15), none⟩]) (
    .reg false [⟨some 17, .mv (.t 1), none⟩,
      ⟨some 18, .bin .add (.t 17) (.c (.v (.int .i64 1))), none⟩,
      ⟨some 1, .mv (.t 18), none⟩]))) (
  .reg false [⟨some 10, .mv (.t 5), none⟩,
    ⟨some 11, .bin .add (.t 10) (.c (.v (.int .i64 1))), none⟩,
    ⟨some 5, .mv (.t 11), none⟩])))
def e74x0 : Exits := [((.exit 0), [(0, .o 1), (1, .c (.i .i64))])]
noncomputable def l74x0 (T : Table) (k : Nat) := loopN (evalC ⟨T, [0]⟩ k b74x0 (Ex × List AV)) [0, 1, 5] e74x0
def a74 : AFun := ⟨[.lent, .rd], false, [.t 4], (
  .seq (.reg false [⟨some 4, .mv (.c (.v (.int .i64 0))), none⟩]) (
  .seq (.seq (.reg false [⟨some 5, .mv (.c (.v (.int .i64 0))), none⟩]) (
  .block 0 (.loop [0, 1, 5] e74x0 b74x0))) (
  .seq (.reg false [⟨some 19, .mv (.t 1), none⟩,
    ⟨some 4, .mv (.t 19), none⟩]) (
  .ret))))⟩
theorem l74x0s (T : Table) (k n : Nat) (l3 : Rows) (n4 : Int) (n5 : Int) : l74x0 T k (n + 1) [(.o 1 l3), (.v (.int .i64 n4)), (.v (.int .i64 n5))] = (
 bif (decide (n5 < (l3.length : Int))) then (
 callT T 75 [(.d (.v (.int .i64 n4)))] fun o6 =>
 oD o6.res fun d7 =>
 dS d7 fun s8 =>
 tst (decide (0 ≤ n5) && decide (Int.toNat n5 < l3.length)) (
 l74x0 T k n [(.o 1 (setD l3 (Int.toNat n5) 0 (.v (.string s8)))), (.v (.int .i64 (IntKind.wrap .i64 (n4 + 1)))), (.v (.int .i64 (IntKind.wrap .i64 (n5 + 1))))])) else (
 some ((.exit 0), [(.o 1 l3), (.v (.int .i64 n4))]))) := by kernel_rfl
theorem a74q (T : Table) (k : Nat) (l1 : Rows) (n2 : Int) : evalF T k a74 [(.d (.s 1 l1)), (.d (.v (.int .i64 n2)))] = (
 aft (l74x0 T k k [(.o 1 l1), (.v (.int .i64 n2)), (.v (.int .i64 0))]) fun e9 ys10 =>
 bif e9.same (.exit 0) then (
 aV ys10 0 fun x11 =>
 aO 1 x11 fun l12 =>
 aV ys10 1 fun x13 =>
 aI .i64 x13 fun n14 =>
 some ⟨(.d (.v (.int .i64 n14))), [(.d (.s 1 l12))]⟩) else (
 none)) := by kernel_rfl
/- loop.example/g00119/laws.markValueS -/
def b92x0 : ACode := (
  .seq (.seq (.reg false [⟨some 6, .mv (.t 5), none⟩,
    ⟨some 7, .mv (.t 0), none⟩,
    ⟨some 8, .len false (.t 7), none⟩,
    ⟨some 9, .bin .lss (.t 6) (.t 8), none⟩]) (
  .cond (.t 9) (.skip) (.exit 0))) (
  .seq (.block 1 (.seq (.reg false [⟨some 12, .mv (.t 0), none⟩,
      ⟨some 13, .mv (.t 5), none⟩,
      ⟨some 14, .mv (.t 1), none⟩,
      ⟨some 15, .iad 5 (.t 12) (.t 13), none⟩,
      ⟨some 16, .fad 0 (.t 15), none⟩,
      ⟨none, .store 1 (.t 16) (.t 14), none⟩]) (
    .seq (.reg false [⟨some 17, .mv (.t 1), none⟩,
      ⟨some 18, .bin .add (.t 17) (.c (.v (.int .i64 1))), none⟩,
      ⟨some 1, .mv (.t 18), none⟩]) (
    .seq (.reg false [⟨some 19, .mv (.t 0), none⟩,
      ⟨some 20, .mv (.t 5), none⟩,
      ⟨some 21, .mv (.t 1), none⟩,
      ⟨some 22, .call (.f 75) [.rd] false [.c .s] [(.t 21)], none⟩,
      ⟨some 23, .iad 5 (.t 19) (.t 20), none⟩,
      ⟨some 24, .fad 1 (.t 23), none⟩,
      ⟨none, .store 1 (.t 24) (.t 22), none⟩]) (
    .seq (.reg false [⟨some 25, .mv (.t 1), none⟩,
      ⟨some 26, .bin .add (.t 25) (.c (.v (.int .i64 1))), none⟩,
      ⟨some 1, .mv (.t 26), none⟩]) (
    .seq (.reg false [⟨some 27, .mv (.t 0), none⟩,
      ⟨some 28, .mv (.t 5), none⟩,
      ⟨some 29, .mv (.t 1), none⟩,
      ⟨some 30, .iad 5 (.t 27) (.t 28), none⟩,
      ⟨some 31, .fad 2 (.t 30), none⟩,
      ⟨none, .store 1 (.t 31) (.t 29), none⟩]) (
    .seq (.reg false [⟨some 32, .mv (.t 1), none⟩,
      ⟨some 33, .bin .add (.t 32) (.c (.v (.int .i64 1))), none⟩,
      ⟨some 1, .mv (.t 33), none⟩]) (
    .seq (.reg false [⟨some 34, .mv (.t 0), none⟩,
      ⟨some 35, .mv (.t 5), none⟩,
      ⟨some 36, .iad 5 (.t 34) (.t 35), none⟩,
      ⟨some 37, .fad 3 (.t 36), none⟩,
      ⟨some 38, .load false [(.sl 1)] (.t 37), none⟩,
      ⟨some 39, .mv (.t 1), none⟩,
      ⟨some 40, .call (.f 74) [.lent, .rd] false [.c (.i .i64)] [(.t 38), (.t 39)], none⟩,
      ⟨some 1, .mv (.t 40), none⟩]) (
    .reg false [⟨some 41, .mv (.t 0), none⟩,
      ⟨some 42, .mv (.t 5), none⟩,
      ⟨some 43, .iad 5 (.t 41) (.t 42), none⟩,
      ⟨some 44, .fad 4 (.t 43), none⟩,
      ⟨some 45, .load false [(.sl 5)] (.t 44), none⟩,
      ⟨some 46, .mv (.t 1), none⟩,
      ⟨some 47, .call (.f 92) [.lent, .rd] false [.c (.i .i64)] [(.t 45), (.t 46)], none⟩,
      ⟨some 1, .mv (.t 47), none⟩]))))))))) (
  .reg false [⟨some 10, .mv (.t 5), none⟩,
    ⟨some 11, .bin .add (.t 10) (.c (.v (.int .i64 1))), none⟩,
    ⟨some 5, .mv (.t 11), none⟩])))
def e92x0 : Exits := [((.exit 0), [(0, .o 5), (1, .c (.i .i64))])]
noncomputable def l92x0 (T : Table) (k : Nat) := loopN (evalC ⟨T, [0]⟩ k b92x0 (Ex × List AV)) [0, 1, 5] e92x0
def a92 : AFun := ⟨[.lent, .rd], false, [.t 4], (
  .seq (.reg false [⟨some 4, .mv (.c (.v (.int .i64 0))), none⟩]) (
  .seq (.seq (.reg false [⟨some 5, .mv (.c (.v (.int .i64 0))), none⟩]) (
  .block 0 (.loop [0, 1, 5] e92x0 b92x0))) (
  .seq (.reg false [⟨some 48, .mv (.t 1), none⟩,
    ⟨some 4, .mv (.t 48), none⟩]) (
  .ret))))⟩
theorem l92x0s (T : Table) (k n : Nat) (l3 : Rows) (n4 : Int) (n5 : Int) : l92x0 T k (n + 1) [(.o 5 l3), (.v (.int .i64 n4)), (.v (.int .i64 n5))] = (
 bif (decide (n5 < (l3.length : Int))) then (
 tst (decide (0 ≤ n5) && decide (Int.toNat n5 < l3.length)) (
 callT T 75 [(.d (.v (.int .i64 (IntKind.wrap .i64 (n4 + 1)))))] fun o6 =>
 oD o6.res fun d7 =>
 dS d7 fun s8 =>
 tst (decide (0 ≤ n5) && decide (Int.toNat n5 < (setD l3 (Int.toNat n5) 0 (.v (.int .i64 n4))).length)) (
 tst (decide (0 ≤ n5) && decide (Int.toNat n5 < (setD (setD l3 (Int.toNat n5) 0 (.v (.int .i64 n4))) (Int.toNat n5) 1 (.v (.string s8))).length)) (
 tst (decide (0 ≤ n5) && decide (Int.toNat n5 < (setD (setD (setD l3 (Int.toNat n5) 0 (.v (.int .i64 n4))) (Int.toNat n5) 1 (.v (.string s8))) (Int.toNat n5) 2 (.v (.int .i64 (IntKind.wrap .i64 ((IntKind.wrap .i64 (n4 + 1)) + 1))))).length)) (
 look (setD (setD (setD l3 (Int.toNat n5) 0 (.v (.int .i64 n4))) (Int.toNat n5) 1 (.v (.string s8))) (Int.toNat n5) 2 (.v (.int .i64 (IntKind.wrap .i64 ((IntKind.wrap .i64 (n4 + 1)) + 1))))) (Int.toNat n5) fun r9 =>
 cL 1 r9 3 fun l10 =>
 callT T 74 [(.d (.s 1 l10)), (.d (.v (.int .i64 (IntKind.wrap .i64 ((IntKind.wrap .i64 ((IntKind.wrap .i64 (n4 + 1)) + 1)) + 1)))))] fun o11 =>
 nth o11.back 0 fun i12 =>
 oD i12 fun d13 =>
 dL 1 d13 fun l14 =>
 oD o11.res fun d15 =>
 dI .i64 d15 fun n16 =>
 tst (decide (0 ≤ n5) && decide (Int.toNat n5 < (setD (setD (setD l3 (Int.toNat n5) 0 (.v (.int .i64 n4))) (Int.toNat n5) 1 (.v (.string s8))) (Int.toNat n5) 2 (.v (.int .i64 (IntKind.wrap .i64 ((IntKind.wrap .i64 (n4 + 1)) + 1))))).length)) (
 look (setD (setD (setD l3 (Int.toNat n5) 0 (.v (.int .i64 n4))) (Int.toNat n5) 1 (.v (.string s8))) (Int.toNat n5) 2 (.v (.int .i64 (IntKind.wrap .i64 ((IntKind.wrap .i64 (n4 + 1)) + 1))))) (Int.toNat n5) fun r17 =>
 cL 5 r17 4 fun l18 =>
 callT T 92 [(.d (.s 5 l18)), (.d (.v (.int .i64 n16)))] fun o19 =>
 nth o19.back 0 fun i20 =>
 oD i20 fun d21 =>
 dL 5 d21 fun l22 =>
 oD o19.res fun d23 =>
 dI .i64 d23 fun n24 =>
 l92x0 T k n [(.o 5 (setD (setD (setD (setD (setD l3 (Int.toNat n5) 0 (.v (.int .i64 n4))) (Int.toNat n5) 1 (.v (.string s8))) (Int.toNat n5) 2 (.v (.int .i64 (IntKind.wrap .i64 ((IntKind.wrap .i64 (n4 + 1)) + 1))))) (Int.toNat n5) 4 (.s 5 l22)) (Int.toNat n5) 3 (.s 1 l14))), (.v (.int .i64 n24)), (.v (.int .i64 (IntKind.wrap .i64 (n5 + 1))))])))))) else (
 some ((.exit 0), [(.o 5 l3), (.v (.int .i64 n4))]))) := by kernel_rfl
theorem a92q (T : Table) (k : Nat) (l1 : Rows) (n2 : Int) : evalF T k a92 [(.d (.s 5 l1)), (.d (.v (.int .i64 n2)))] = (
 aft (l92x0 T k k [(.o 5 l1), (.v (.int .i64 n2)), (.v (.int .i64 0))]) fun e25 ys26 =>
 bif e25.same (.exit 0) then (
 aV ys26 0 fun x27 =>
 aO 5 x27 fun l28 =>
 aV ys26 1 fun x29 =>
 aI .i64 x29 fun n30 =>
 some ⟨(.d (.v (.int .i64 n30))), [(.d (.s 5 l28))]⟩) else (
 none)) := by kernel_rfl
/- loop.example/g00119/laws.markWorkS -/
def b44x0 : ACode := (
  .seq (.seq (.reg false [⟨some 6, .mv (.t 5), none⟩,
    ⟨some 7, .mv (.t 0), none⟩,
    ⟨some 8, .len false (.t 7), none⟩,
    ⟨some 9, .bin .lss (.t 6) (.t 8), none⟩]) (
  .cond (.t 9) (.skip) (.exit 0))) (
  .seq (.block 1 (.seq (.reg false [⟨some 12, .mv (.t 0), none⟩,
      ⟨some 13, .mv (.t 5), none⟩,
      ⟨some 14, .mv (.t 1), none⟩,
      ⟨some 15, .iad 7 (.t 12) (.t 13), none⟩,
      ⟨some 16, .fad 0 (.t 15), none⟩,
      ⟨none, .store 1 (.t 16) (.t 14), none⟩]) (
    .seq (.reg false [⟨some 17, .mv (.t 1), none⟩,
      ⟨some 18, .bin .add (.t 17) (.c (.v (.int .i64 1))), none⟩,
      ⟨some 1, .mv (.t 18), none⟩]) (
    .seq (.reg false [⟨some 19, .mv (.t 0), none⟩,
      ⟨some 20, .mv (.t 5), none⟩,
      ⟨some 21, .mv (.t 1), none⟩,
      ⟨some 22, .iad 7 (.t 19) (.t 20), none⟩,
      ⟨some 23, .fad 1 (.t 22), none⟩,
      ⟨none, .store 1 (.t 23) (.t 21), none⟩]) (
    .seq (.reg false [⟨some 24, .mv (.t 1), none⟩,
      ⟨some 25, .bin .add (.t 24) (.c (.v (.int .i64 1))), none⟩,
      ⟨some 1, .mv (.t 25), none⟩]) (
    .seq (.reg false [⟨some 26, .mv (.t 0), none⟩,
      ⟨some 27, .mv (.t 5), none⟩,
      ⟨some 28, .mv (.t 1), none⟩,
      ⟨some 29, .iad 7 (.t 26) (.t 27), none⟩,
      ⟨some 30, .fad 2 (.t 29), none⟩,
      ⟨some 31, .fad 0 (.t 30), none⟩,
      ⟨none, .store 1 (.t 31) (.t 28), none⟩]) (
    .seq (.reg false [⟨some 32, .mv (.t 1), none⟩,
      ⟨some 33, .bin .add (.t 32) (.c (.v (.int .i64 1))), none⟩,
      ⟨some 1, .mv (.t 33), none⟩]) (
    .seq (.reg false [⟨some 34, .mv (.t 0), none⟩,
      ⟨some 35, .mv (.t 5), none⟩,
      ⟨some 36, .mv (.t 1), none⟩,
      ⟨some 37, .call (.f 75) [.rd] false [.c .s] [(.t 36)], none⟩,
      ⟨some 38, .iad 7 (.t 34) (.t 35), none⟩,
      ⟨some 39, .fad 2 (.t 38), none⟩,
      ⟨some 40, .fad 1 (.t 39), none⟩,
      ⟨none, .store 1 (.t 40) (.t 37), none⟩]) (
    .seq (.reg false [⟨some 41, .mv (.t 1), none⟩,
      ⟨some 42, .bin .add (.t 41) (.c (.v (.int .i64 1))), none⟩,
      ⟨some 1, .mv (.t 42), none⟩]) (
    .seq (.reg false [⟨some 43, .mv (.t 0), none⟩,
      ⟨some 44, .mv (.t 5), none⟩,
      ⟨some 45, .mv (.t 1), none⟩,
      ⟨some 46, .iad 7 (.t 43) (.t 44), none⟩,
      ⟨some 47, .fad 2 (.t 46), none⟩,
      ⟨some 48, .fad 2 (.t 47), none⟩,
      ⟨none, .store 1 (.t 48) (.t 45), none⟩]) (
    .seq (.reg false [⟨some 49, .mv (.t 1), none⟩,
      ⟨some 50, .bin .add (.t 49) (.c (.v (.int .i64 1))), none⟩,
      ⟨some 1, .mv (.t 50), none⟩]) (
    .seq (.reg false [⟨some 51, .mv (.t 0), none⟩,
      ⟨some 52, .mv (.t 5), none⟩,
      ⟨some 53, .iad 7 (.t 51) (.t 52), none⟩,
      ⟨some 54, .fad 2 (.t 53), none⟩,
      ⟨some 55, .fad 3 (.t 54), none⟩,
      ⟨some 56, .load false [(.sl 1)] (.t 55), none⟩,
      ⟨some 57, .mv (.t 1), none⟩,
      ⟨some 58, .call (.f 74) [.lent, .rd] false [.c (.i .i64)] [(.t 56), (.t 57)], none⟩,
      ⟨some 1, .mv (.t 58), none⟩]) (
    .reg false [⟨some 59, .mv (.t 0), none⟩,
      ⟨some 60, .mv (.t 5), none⟩,
      ⟨some 61, .iad 7 (.t 59) (.t 60), none⟩,
      ⟨some 62, .fad 2 (.t 61), none⟩,
      ⟨some 63, .fad 4 (.t 62), none⟩,
      ⟨some 64, .load false [(.sl 5)] (.t 63), none⟩,
      ⟨some 65, .mv (.t 1), none⟩,
      ⟨some 66, .call (.f 92) [.lent, .rd] false [.c (.i .i64)] [(.t 64), (.t 65)], none⟩,
      ⟨some 1, .mv (.t 66), none⟩]))))))))))))) (
  .reg false [⟨some 10, .mv (.t 5), none⟩,
    ⟨some 11, .bin .add (.t 10) (.c (.v (.int .i64 1))), none⟩,
    ⟨some 5, .mv (.t 11), none⟩])))
def e44x0 : Exits := [((.exit 0), [(0, .o 7), (1, .c (.i .i64))])]
noncomputable def l44x0 (T : Table) (k : Nat) := loopN (evalC ⟨T, [0]⟩ k b44x0 (Ex × List AV)) [0, 1, 5] e44x0
def a44 : AFun := ⟨[.lent, .rd], false, [.t 4], (
  .seq (.reg false [⟨some 4, .mv (.c (.v (.int .i64 0))), none⟩]) (
  .seq (.seq (.reg false [⟨some 5, .mv (.c (.v (.int .i64 0))), none⟩]) (
  .block 0 (.loop [0, 1, 5] e44x0 b44x0))) (
  .seq (.reg false [⟨some 67, .mv (.t 1), none⟩,
    ⟨some 4, .mv (.t 67), none⟩]) (
  .ret))))⟩
theorem l44x0s (T : Table) (k n : Nat) (l3 : Rows) (n4 : Int) (n5 : Int) : l44x0 T k (n + 1) [(.o 7 l3), (.v (.int .i64 n4)), (.v (.int .i64 n5))] = (
 bif (decide (n5 < (l3.length : Int))) then (
 tst (decide (0 ≤ n5) && decide (Int.toNat n5 < l3.length)) (
 tst (decide (0 ≤ n5) && decide (Int.toNat n5 < (setD l3 (Int.toNat n5) 0 (.v (.int .i64 n4))).length)) (
 tst (decide (0 ≤ n5) && decide (Int.toNat n5 < (setD (setD l3 (Int.toNat n5) 0 (.v (.int .i64 n4))) (Int.toNat n5) 1 (.v (.int .i64 (IntKind.wrap .i64 (n4 + 1))))).length)) (
 callT T 75 [(.d (.v (.int .i64 (IntKind.wrap .i64 ((IntKind.wrap .i64 ((IntKind.wrap .i64 (n4 + 1)) + 1)) + 1)))))] fun o6 =>
 oD o6.res fun d7 =>
 dS d7 fun s8 =>
 tst (decide (0 ≤ n5) && decide (Int.toNat n5 < (setD (setD (setD l3 (Int.toNat n5) 0 (.v (.int .i64 n4))) (Int.toNat n5) 1 (.v (.int .i64 (IntKind.wrap .i64 (n4 + 1))))) (Int.toNat n5) 2 (.v (.int .i64 (IntKind.wrap .i64 ((IntKind.wrap .i64 (n4 + 1)) + 1))))).length)) (
 tst (decide (0 ≤ n5) && decide (Int.toNat n5 < (setD (setD (setD (setD l3 (Int.toNat n5) 0 (.v (.int .i64 n4))) (Int.toNat n5) 1 (.v (.int .i64 (IntKind.wrap .i64 (n4 + 1))))) (Int.toNat n5) 2 (.v (.int .i64 (IntKind.wrap .i64 ((IntKind.wrap .i64 (n4 + 1)) + 1))))) (Int.toNat n5) 3 (.v (.string s8))).length)) (
 tst (decide (0 ≤ n5) && decide (Int.toNat n5 < (setD (setD (setD (setD (setD l3 (Int.toNat n5) 0 (.v (.int .i64 n4))) (Int.toNat n5) 1 (.v (.int .i64 (IntKind.wrap .i64 (n4 + 1))))) (Int.toNat n5) 2 (.v (.int .i64 (IntKind.wrap .i64 ((IntKind.wrap .i64 (n4 + 1)) + 1))))) (Int.toNat n5) 3 (.v (.string s8))) (Int.toNat n5) 4 (.v (.int .i64 (IntKind.wrap .i64 ((IntKind.wrap .i64 ((IntKind.wrap .i64 ((IntKind.wrap .i64 (n4 + 1)) + 1)) + 1)) + 1))))).length)) (
 look (setD (setD (setD (setD (setD l3 (Int.toNat n5) 0 (.v (.int .i64 n4))) (Int.toNat n5) 1 (.v (.int .i64 (IntKind.wrap .i64 (n4 + 1))))) (Int.toNat n5) 2 (.v (.int .i64 (IntKind.wrap .i64 ((IntKind.wrap .i64 (n4 + 1)) + 1))))) (Int.toNat n5) 3 (.v (.string s8))) (Int.toNat n5) 4 (.v (.int .i64 (IntKind.wrap .i64 ((IntKind.wrap .i64 ((IntKind.wrap .i64 ((IntKind.wrap .i64 (n4 + 1)) + 1)) + 1)) + 1))))) (Int.toNat n5) fun r9 =>
 cL 1 r9 5 fun l10 =>
 callT T 74 [(.d (.s 1 l10)), (.d (.v (.int .i64 (IntKind.wrap .i64 ((IntKind.wrap .i64 ((IntKind.wrap .i64 ((IntKind.wrap .i64 ((IntKind.wrap .i64 (n4 + 1)) + 1)) + 1)) + 1)) + 1)))))] fun o11 =>
 nth o11.back 0 fun i12 =>
 oD i12 fun d13 =>
 dL 1 d13 fun l14 =>
 oD o11.res fun d15 =>
 dI .i64 d15 fun n16 =>
 tst (decide (0 ≤ n5) && decide (Int.toNat n5 < (setD (setD (setD (setD (setD l3 (Int.toNat n5) 0 (.v (.int .i64 n4))) (Int.toNat n5) 1 (.v (.int .i64 (IntKind.wrap .i64 (n4 + 1))))) (Int.toNat n5) 2 (.v (.int .i64 (IntKind.wrap .i64 ((IntKind.wrap .i64 (n4 + 1)) + 1))))) (Int.toNat n5) 3 (.v (.string s8))) (Int.toNat n5) 4 (.v (.int .i64 (IntKind.wrap .i64 ((IntKind.wrap .i64 ((IntKind.wrap .i64 ((IntKind.wrap .i64 (n4 + 1)) + 1)) + 1)) + 1))))).length)) (
 look (setD (setD (setD (setD (setD l3 (Int.toNat n5) 0 (.v (.int .i64 n4))) (Int.toNat n5) 1 (.v (.int .i64 (IntKind.wrap .i64 (n4 + 1))))) (Int.toNat n5) 2 (.v (.int .i64 (IntKind.wrap .i64 ((IntKind.wrap .i64 (n4 + 1)) + 1))))) (Int.toNat n5) 3 (.v (.string s8))) (Int.toNat n5) 4 (.v (.int .i64 (IntKind.wrap .i64 ((IntKind.wrap .i64 ((IntKind.wrap .i64 ((IntKind.wrap .i64 (n4 + 1)) + 1)) + 1)) + 1))))) (Int.toNat n5) fun r17 =>
 cL 5 r17 6 fun l18 =>
 callT T 92 [(.d (.s 5 l18)), (.d (.v (.int .i64 n16)))] fun o19 =>
 nth o19.back 0 fun i20 =>
 oD i20 fun d21 =>
 dL 5 d21 fun l22 =>
 oD o19.res fun d23 =>
 dI .i64 d23 fun n24 =>
 l44x0 T k n [(.o 7 (setD (setD (setD (setD (setD (setD (setD l3 (Int.toNat n5) 0 (.v (.int .i64 n4))) (Int.toNat n5) 1 (.v (.int .i64 (IntKind.wrap .i64 (n4 + 1))))) (Int.toNat n5) 2 (.v (.int .i64 (IntKind.wrap .i64 ((IntKind.wrap .i64 (n4 + 1)) + 1))))) (Int.toNat n5) 3 (.v (.string s8))) (Int.toNat n5) 4 (.v (.int .i64 (IntKind.wrap .i64 ((IntKind.wrap .i64 ((IntKind.wrap .i64 ((IntKind.wrap .i64 (n4 + 1)) + 1)) + 1)) + 1))))) (Int.toNat n5) 6 (.s 5 l22)) (Int.toNat n5) 5 (.s 1 l14))), (.v (.int .i64 n24)), (.v (.int .i64 (IntKind.wrap .i64 (n5 + 1))))])))))))) else (
 some ((.exit 0), [(.o 7 l3), (.v (.int .i64 n4))]))) := by kernel_rfl
theorem a44q (T : Table) (k : Nat) (l1 : Rows) (n2 : Int) : evalF T k a44 [(.d (.s 7 l1)), (.d (.v (.int .i64 n2)))] = (
 aft (l44x0 T k k [(.o 7 l1), (.v (.int .i64 n2)), (.v (.int .i64 0))]) fun e25 ys26 =>
 bif e25.same (.exit 0) then (
 aV ys26 0 fun x27 =>
 aO 7 x27 fun l28 =>
 aV ys26 1 fun x29 =>
 aI .i64 x29 fun n30 =>
 some ⟨(.d (.v (.int .i64 n30))), [(.d (.s 7 l28))]⟩) else (
 none)) := by kernel_rfl
/- loop.example/g00119/laws.markRunS -/
def b45x0 : ACode := (
  .seq (.seq (.reg false [⟨some 6, .mv (.t 5), none⟩,
    ⟨some 7, .mv (.t 0), none⟩,
    ⟨some 8, .len false (.t 7), none⟩,
    ⟨some 9, .bin .lss (.t 6) (.t 8), none⟩]) (
  .cond (.t 9) (.skip) (.exit 0))) (
  .seq (.block 1 (.seq (.reg false [⟨some 12, .mv (.t 0), none⟩,
      ⟨some 13, .mv (.t 5), none⟩,
      ⟨some 14, .mv (.t 1), none⟩,
      ⟨some 15, .iad 2 (.t 12) (.t 13), none⟩,
      ⟨some 16, .fad 0 (.t 15), none⟩,
      ⟨none, .store 1 (.t 16) (.t 14), none⟩]) (
    .seq (.reg false [⟨some 17, .mv (.t 1), none⟩,
      ⟨some 18, .bin .add (.t 17) (.c (.v (.int .i64 1))), none⟩,
      ⟨some 1, .mv (.t 18), none⟩]) (
    .seq (.reg false [⟨some 19, .mv (.t 0), none⟩,
      ⟨some 20, .mv (.t 5), none⟩,
      ⟨some 21, .mv (.t 1), none⟩,
      ⟨some 22, .iad 2 (.t 19) (.t 20), none⟩,
      ⟨some 23, .fad 1 (.t 22), none⟩,
      ⟨none, .store 1 (.t 23) (.t 21), none⟩]) (
    .reg false [⟨some 24, .mv (.t 1), none⟩,
      ⟨some 25, .bin .add (.t 24) (.c (.v (.int .i64 1))), none⟩,
      ⟨some 1, .mv (.t 25), none⟩]))))) (
  .reg false [⟨some 10, .mv (.t 5), none⟩,
    ⟨some 11, .bin .add (.t 10) (.c (.v (.int .i64 1))), none⟩,
    ⟨some 5, .mv (.t 11), none⟩])))
def e45x0 : Exits := [((.exit 0), [(0, .o 2), (1, .c (.i .i64))])]
noncomputable def l45x0 (T : Table) (k : Nat) := loopN (evalC ⟨T, [0]⟩ k b45x0 (Ex × List AV)) [0, 1, 5] e45x0
def a45 : AFun := ⟨[.lent, .rd], false, [.t 4], (
  .seq (.reg false [⟨some 4, .mv (.c (.v (.int .i64 0))), none⟩]) (
  .seq (.seq (.reg false [⟨some 5, .mv (.c (.v (.int .i64 0))), none⟩]) (
  .block 0 (.loop [0, 1, 5] e45x0 b45x0))) (
  .seq (.reg false [⟨some 26, .mv (.t 1), none⟩,
    ⟨some 4, .mv (.t 26), none⟩]) (
  .ret))))⟩
theorem l45x0s (T : Table) (k n : Nat) (l3 : Rows) (n4 : Int) (n5 : Int) : l45x0 T k (n + 1) [(.o 2 l3), (.v (.int .i64 n4)), (.v (.int .i64 n5))] = (
 bif (decide (n5 < (l3.length : Int))) then (
 tst (decide (0 ≤ n5) && decide (Int.toNat n5 < l3.length)) (
 tst (decide (0 ≤ n5) && decide (Int.toNat n5 < (setD l3 (Int.toNat n5) 0 (.v (.int .i64 n4))).length)) (
 l45x0 T k n [(.o 2 (setD (setD l3 (Int.toNat n5) 0 (.v (.int .i64 n4))) (Int.toNat n5) 1 (.v (.int .i64 (IntKind.wrap .i64 (n4 + 1)))))), (.v (.int .i64 (IntKind.wrap .i64 ((IntKind.wrap .i64 (n4 + 1)) + 1)))), (.v (.int .i64 (IntKind.wrap .i64 (n5 + 1))))]))) else (
 some ((.exit 0), [(.o 2 l3), (.v (.int .i64 n4))]))) := by kernel_rfl
theorem a45q (T : Table) (k : Nat) (l1 : Rows) (n2 : Int) : evalF T k a45 [(.d (.s 2 l1)), (.d (.v (.int .i64 n2)))] = (
 aft (l45x0 T k k [(.o 2 l1), (.v (.int .i64 n2)), (.v (.int .i64 0))]) fun e6 ys7 =>
 bif e6.same (.exit 0) then (
 aV ys7 0 fun x8 =>
 aO 2 x8 fun l9 =>
 aV ys7 1 fun x10 =>
 aI .i64 x10 fun n11 =>
 some ⟨(.d (.v (.int .i64 n11))), [(.d (.s 2 l9))]⟩) else (
 none)) := by kernel_rfl
/- loop.example/g00119/laws.markIsle -/

def a15 : AFun := ⟨[.lent, .rd], false, [.t 4], (
  .seq (.reg false [⟨some 2, .box (.t 0), none⟩,
    ⟨some 4, .mv (.c (.v (.int .i64 0))), none⟩]) (
  .seq (.reg false [⟨some 5, .fad 3 (.t 2), none⟩,
    ⟨some 6, .load false [(.sl 7)] (.t 5), none⟩,
    ⟨some 7, .mv (.t 1), none⟩,
    ⟨some 8, .call (.f 44) [.lent, .rd] false [.c (.i .i64)] [(.t 6), (.t 7)], none⟩,
    ⟨some 1, .mv (.t 8), none⟩]) (
  .seq (.reg false [⟨some 9, .fad 4 (.t 2), none⟩,
    ⟨some 10, .load false [(.sl 2)] (.t 9), none⟩,
    ⟨some 11, .mv (.t 1), none⟩,
    ⟨some 12, .call (.f 45) [.lent, .rd] false [.c (.i .i64)] [(.t 10), (.t 11)], none⟩,
    ⟨some 1, .mv (.t 12), none⟩]) (
  .seq (.reg false [⟨some 13, .mv (.t 1), none⟩,
    ⟨some 4, .mv (.t 13), none⟩]) (
  .ret)))))⟩

theorem a15q (T : Table) (k : Nat) (s1 : ByteArray) (n2 : Int) (n3 : Int) (l4 : Rows) (l5 : Rows) (n6 : Int) : evalF T k a15 [(.g [(.v (.string s1)), (.v (.int .i64 n2)), (.v (.int .i64 n3)), (.s 7 l4), (.s 2 l5)]), (.d (.v (.int .i64 n6)))] = (
 callT T 44 [(.d (.s 7 l4)), (.d (.v (.int .i64 n6)))] fun o7 =>
 nth o7.back 0 fun i8 =>
 oD i8 fun d9 =>
 dL 7 d9 fun l10 =>
 oD o7.res fun d11 =>
 dI .i64 d11 fun n12 =>
 callT T 45 [(.d (.s 2 l5)), (.d (.v (.int .i64 n12)))] fun o13 =>
 nth o13.back 0 fun i14 =>
 oD i14 fun d15 =>
 dL 2 d15 fun l16 =>
 oD o13.res fun d17 =>
 dI .i64 d17 fun n18 =>
 some ⟨(.d (.v (.int .i64 n18))), [(.g [(.v (.string s1)), (.v (.int .i64 n2)), (.v (.int .i64 n3)), (.s 7 l10), (.s 2 l16)])]⟩) := by kernel_rfl
/- loop.example/g00119/laws.markMsg -/

def a16 : AFun := ⟨[.lent, .rd], false, [.t 4], (
  .seq (.reg false [⟨some 2, .box (.t 0), none⟩,
    ⟨some 4, .mv (.c (.v (.int .i64 0))), none⟩]) (
  .seq (.reg false [⟨some 5, .fad 3 (.t 2), none⟩,
    ⟨some 6, .load false [(.sl 7)] (.t 5), none⟩,
    ⟨some 7, .mv (.t 1), none⟩,
    ⟨some 8, .call (.f 44) [.lent, .rd] false [.c (.i .i64)] [(.t 6), (.t 7)], none⟩,
    ⟨some 1, .mv (.t 8), none⟩]) (
  .seq (.reg false [⟨some 9, .fad 4 (.t 2), none⟩,
    ⟨some 10, .load false [(.sl 2)] (.t 9), none⟩,
    ⟨some 11, .mv (.t 1), none⟩,
    ⟨some 12, .call (.f 45) [.lent, .rd] false [.c (.i .i64)] [(.t 10), (.t 11)], none⟩,
    ⟨some 1, .mv (.t 12), none⟩]) (
  .seq (.reg false [⟨some 13, .mv (.t 1), none⟩,
    ⟨some 4, .mv (.t 13), none⟩]) (
  .ret)))))⟩

theorem a16q (T : Table) (k : Nat) (n1 : Int) (s2 : ByteArray) (n3 : Int) (l4 : Rows) (l5 : Rows) (n6 : Int) : evalF T k a16 [(.g [(.v (.int .i64 n1)), (.v (.string s2)), (.v (.int .i64 n3)), (.s 7 l4), (.s 2 l5)]), (.d (.v (.int .i64 n6)))] = (
 callT T 44 [(.d (.s 7 l4)), (.d (.v (.int .i64 n6)))] fun o7 =>
 nth o7.back 0 fun i8 =>
 oD i8 fun d9 =>
 dL 7 d9 fun l10 =>
 oD o7.res fun d11 =>
 dI .i64 d11 fun n12 =>
 callT T 45 [(.d (.s 2 l5)), (.d (.v (.int .i64 n12)))] fun o13 =>
 nth o13.back 0 fun i14 =>
 oD i14 fun d15 =>
 dL 2 d15 fun l16 =>
 oD o13.res fun d17 =>
 dI .i64 d17 fun n18 =>
 some ⟨(.d (.v (.int .i64 n18))), [(.g [(.v (.int .i64 n1)), (.v (.string s2)), (.v (.int .i64 n3)), (.s 7 l10), (.s 2 l16)])]⟩) := by kernel_rfl
/- loop.example/g00119/laws.heldStringS -/
def b93x0 : ACode := (
  .seq (.seq (.reg false [⟨some 6, .mv (.t 5), none⟩,
    ⟨some 7, .mv (.t 0), none⟩,
    ⟨some 8, .len false (.t 7), none⟩,
    ⟨some 9, .bin .lss (.t 6) (.t 8), none⟩]) (
  .cond (.t 9) (.skip) (.exit 0))) (
  .seq (.block 1 (.seq (.seq (.dreg [] [(0, ⟨some 12, .mv (.t 0), none⟩),
      (0, ⟨some 13, .mv (.t 5), none⟩),
      (0, ⟨some 14, .iad 1 (.t 12) (.t 13), none⟩),
      (0, ⟨some 15, .load false [.s] (.t 14), none⟩),
      (0, ⟨some 16, .mv (.t 1), none⟩),
      (1, ⟨some 17, .call (.f 75) [.rd] false [.c .s] [(.t 16)], none⟩)] [⟨some 18, .bin .neq (.t 15) (.t 17), none⟩]) (
    .cond (.t 18) (.seq (.reg false [⟨some 4, .mv (.c (.v (.int .i64 (-1)))), none⟩]) (
      .ret)) (.skip))) (
    .reg false [⟨some 19, .mv (.t 1), none⟩,
      ⟨some 20, .bin .add (.t 19) (.c (.v (.int .i64 1))), none⟩,
      ⟨some 1, .mv (.t 20), none⟩]))) (
  .reg false [⟨some 10, .mv (.t 5), none⟩,
    ⟨some 11, .bin .add (.t 10) (.c (.v (.int .i64 1))), none⟩,
    ⟨some 5, .mv (.t 11), none⟩])))
def e93x0 : Exits := [(.ret, [(4, .c (.i .i64))]), ((.exit 0), [(1, .c (.i .i64))])]
noncomputable def l93x0 (T : Table) (k : Nat) := loopN (evalC ⟨T, []⟩ k b93x0 (Ex × List AV)) [0, 1, 5] e93x0
def a93 : AFun := ⟨[.rd, .rd], false, [.t 4], (
  .seq (.reg false [⟨some 4, .mv (.c (.v (.int .i64 0))), none⟩]) (
  .seq (.seq (.reg false [⟨some 5, .mv (.c (.v (.int .i64 0))), none⟩]) (
  .block 0 (.loop [0, 1, 5] e93x0 b93x0))) (
  .seq (.reg false [⟨some 21, .mv (.t 1), none⟩,
    ⟨some 4, .mv (.t 21), none⟩]) (
  .ret))))⟩
theorem l93x0s (T : Table) (k n : Nat) (l3 : Rows) (n4 : Int) (n5 : Int) : l93x0 T k (n + 1) [(.fz 1 l3), (.v (.int .i64 n4)), (.v (.int .i64 n5))] = (
 bif (decide (n5 < (l3.length : Int))) then (
 tst (decide (0 ≤ n5)) (
 look l3 (Int.toNat n5) fun r6 =>
 cS r6 0 fun s7 =>
 callT T 75 [(.d (.v (.int .i64 n4)))] fun o8 =>
 oD o8.res fun d9 =>
 dS d9 fun s10 =>
 bif (!(bytesEq s7 s10)) then (
 some (.ret, [(.v (.int .i64 (-1)))])) else (
 l93x0 T k n [(.fz 1 l3), (.v (.int .i64 (IntKind.wrap .i64 (n4 + 1)))), (.v (.int .i64 (IntKind.wrap .i64 (n5 + 1))))]))) else (
 some ((.exit 0), [(.v (.int .i64 n4))]))) := by kernel_rfl
theorem a93q (T : Table) (k : Nat) (l1 : Rows) (n2 : Int) : evalF T k a93 [(.d (.s 1 l1)), (.d (.v (.int .i64 n2)))] = (
 aft (l93x0 T k k [(.fz 1 l1), (.v (.int .i64 n2)), (.v (.int .i64 0))]) fun e11 ys12 =>
 bif e11.same .ret then (
 aV ys12 0 fun x13 =>
 aI .i64 x13 fun n14 =>
 some ⟨(.d (.v (.int .i64 n14))), []⟩) else (
 bif e11.same (.exit 0) then (
 aV ys12 0 fun x15 =>
 aI .i64 x15 fun n16 =>
 some ⟨(.d (.v (.int .i64 n16))), []⟩) else (
 none))) := by kernel_rfl
/- loop.example/g00119/laws.heldValueS -/
def b94x0 : ACode := (
  .seq (.seq (.reg false [⟨some 6, .mv (.t 5), none⟩,
    ⟨some 7, .mv (.t 0), none⟩,
    ⟨some 8, .len false (.t 7), none⟩,
    ⟨some 9, .bin .lss (.t 6) (.t 8), none⟩]) (
  .cond (.t 9) (.skip) (.exit 0))) (
  .seq (.block 1 (.seq (.seq (.reg false [⟨some 12, .mv (.t 0), none⟩,
      ⟨some 13, .mv (.t 5), none⟩,
      ⟨some 14, .iad 5 (.t 12) (.t 13), none⟩,
      ⟨some 15, .fad 0 (.t 14), none⟩,
      ⟨some 16, .load false [(.i .i64)] (.t 15), none⟩,
      ⟨some 17, .mv (.t 1), none⟩,
      ⟨some 18, .bin .neq (.t 16) (.t 17), none⟩]) (
    .cond (.t 18) (.seq (.reg false [⟨some 4, .mv (.c (.v (.int .i64 (-1)))), none⟩]) (
      .ret)) (.skip))) (
    .seq (.reg false [⟨some 19, .mv (.t 1), none⟩,
      ⟨some 20, .bin .add (.t 19) (.c (.v (.int .i64 1))), none⟩,
      ⟨some 1, .mv (.t 20), none⟩]) (
    .seq (.seq (.dreg [] [(0, ⟨some 21, .mv (.t 0), none⟩),
      (0, ⟨some 22, .mv (.t 5), none⟩),
      (0, ⟨some 23, .iad 5 (.t 21) (.t 22), none⟩),
      (0, ⟨some 24, .fad 1 (.t 23), none⟩),
      (0, ⟨some 25, .load false [.s] (.t 24), none⟩),
      (0, ⟨some 26, .mv (.t 1), none⟩),
      (1, ⟨some 27, .call (.f 75) [.rd] false [.c .s] [(.t 26)], none⟩)] [⟨some 28, .bin .neq (.t 25) (.t 27), none⟩]) (
    .cond (.t 28) (.seq (.reg false [⟨some 4, .mv (.c (.v (.int .i64 (-1)))), none⟩]) (
      .ret)) (.skip))) (
    .seq (.reg false [⟨some 29, .mv (.t 1), none⟩,
      ⟨some 30, .bin .add (.t 29) (.c (.v (.int .i64 1))), none⟩,
      ⟨some 1, .mv (.t 30), none⟩]) (
    .seq (.seq (.reg false [⟨some 31, .mv (.t 0), none⟩,
      ⟨some 32, .mv (.t 5), none⟩,
      ⟨some 33, .iad 5 (.t 31) (.t 32), none⟩,
      ⟨some 34, .fad 2 (.t 33), none⟩,
      ⟨some 35, .load false [(.i .i64)] (.t 34), none⟩,
      ⟨some 36, .mv (.t 1), none⟩,
      ⟨some 37, .bin .neq (.t 35) (.t 36), none⟩]) (
    .cond (.t 37) (.seq (.reg false [⟨some 4, .mv (.c (.v (.int .i64 (-1)))), none⟩]) (
      .ret)) (.skip))) (
    .seq (.reg false [⟨some 38, .mv (.t 1), none⟩,
      ⟨some 39, .bin .add (.t 38) (.c (.v (.int .i64 1))), none⟩,
      ⟨some 1, .mv (.t 39), none⟩]) (
    .seq (.reg false [⟨some 40, .mv (.t 0), none⟩,
      ⟨some 41, .mv (.t 5), none⟩,
      ⟨some 42, .iad 5 (.t 40) (.t 41), none⟩,
      ⟨some 43, .fad 3 (.t 42), none⟩,
      ⟨some 44, .load false [(.sl 1)] (.t 43), none⟩,
      ⟨some 45, .mv (.t 1), none⟩,
      ⟨some 46, .call (.f 93) [.rd, .rd] false [.c (.i .i64)] [(.t 44), (.t 45)], none⟩,
      ⟨some 1, .mv (.t 46), none⟩]) (
    .seq (.seq (.reg false [⟨some 47, .mv (.t 1), none⟩,
      ⟨some 48, .bin .lss (.t 47) (.c (.v (.int .i64 0))), none⟩]) (
    .cond (.t 48) (.seq (.reg false [⟨some 4, .mv (.c (.v (.int .i64 (-1)))), none⟩]) (
      .ret)) (.skip))) (
    .seq (.reg false [⟨some 49, .mv (.t 0), none⟩,
      ⟨some 50, .mv (.t 5), none⟩,
      ⟨some 51, .iad 5 (.t 49) (.t 50), none⟩,
      ⟨some 52, .fad 4 (.t 51), none⟩,
      ⟨some 53, .load false [(.sl 5)] (.t 52), none⟩,
      ⟨some 54, .mv (.t 1), none⟩,
      ⟨some 55, .call (.f 94) [.rd, .rd] false [.c (.i .i64)] [(.t 53), (.t 54)], none⟩,
      ⟨some 1, .mv (.t 55), none⟩]) (
    .seq (.reg false [⟨some 56, .mv (.t 1), none⟩,
      ⟨some 57, .bin .lss (.t 56) (.c (.v (.int .i64 0))), none⟩]) (
    .cond (.t 57) (.seq (.reg false [⟨some 4, .mv (.c (.v (.int .i64 (-1)))), none⟩]) (
      .ret)) (.skip))))))))))))) (
  .reg false [⟨some 10, .mv (.t 5), none⟩,
    ⟨some 11, .bin .add (.t 10) (.c (.v (.int .i64 1))), none⟩,
    ⟨some 5, .mv (.t 11), none⟩])))
def e94x0 : Exits := [(.ret, [(4, .c (.i .i64))]), ((.exit 0), [(1, .c (.i .i64))])]
noncomputable def l94x0 (T : Table) (k : Nat) := loopN (evalC ⟨T, []⟩ k b94x0 (Ex × List AV)) [0, 1, 5] e94x0
def a94 : AFun := ⟨[.rd, .rd], false, [.t 4], (
  .seq (.reg false [⟨some 4, .mv (.c (.v (.int .i64 0))), none⟩]) (
  .seq (.seq (.reg false [⟨some 5, .mv (.c (.v (.int .i64 0))), none⟩]) (
  .block 0 (.loop [0, 1, 5] e94x0 b94x0))) (
  .seq (.reg false [⟨some 58, .mv (.t 1), none⟩,
    ⟨some 4, .mv (.t 58), none⟩]) (
  .ret))))⟩
theorem l94x0s (T : Table) (k n : Nat) (l3 : Rows) (n4 : Int) (n5 : Int) : l94x0 T k (n + 1) [(.fz 5 l3), (.v (.int .i64 n4)), (.v (.int .i64 n5))] = (
 bif (decide (n5 < (l3.length : Int))) then (
 tst (decide (0 ≤ n5)) (
 look l3 (Int.toNat n5) fun r6 =>
 cI .i64 r6 0 fun n7 =>
 bif (n7 != n4) then (
 some (.ret, [(.v (.int .i64 (-1)))])) else (
 tst (decide (0 ≤ n5)) (
 look l3 (Int.toNat n5) fun r8 =>
 cS r8 1 fun s9 =>
 callT T 75 [(.d (.v (.int .i64 (IntKind.wrap .i64 (n4 + 1)))))] fun o10 =>
 oD o10.res fun d11 =>
 dS d11 fun s12 =>
 bif (!(bytesEq s9 s12)) then (
 some (.ret, [(.v (.int .i64 (-1)))])) else (
 tst (decide (0 ≤ n5)) (
 look l3 (Int.toNat n5) fun r13 =>
 cI .i64 r13 2 fun n14 =>
 bif (n14 != (IntKind.wrap .i64 ((IntKind.wrap .i64 (n4 + 1)) + 1))) then (
 some (.ret, [(.v (.int .i64 (-1)))])) else (
 tst (decide (0 ≤ n5)) (
 look l3 (Int.toNat n5) fun r15 =>
 cL 1 r15 3 fun l16 =>
 callT T 93 [(.d (.s 1 l16)), (.d (.v (.int .i64 (IntKind.wrap .i64 ((IntKind.wrap .i64 ((IntKind.wrap .i64 (n4 + 1)) + 1)) + 1)))))] fun o17 =>
 oD o17.res fun d18 =>
 dI .i64 d18 fun n19 =>
 bif (decide (n19 < 0)) then (
 some (.ret, [(.v (.int .i64 (-1)))])) else (
 tst (decide (0 ≤ n5)) (
 look l3 (Int.toNat n5) fun r20 =>
 cL 5 r20 4 fun l21 =>
 callT T 94 [(.d (.s 5 l21)), (.d (.v (.int .i64 n19)))] fun o22 =>
 oD o22.res fun d23 =>
 dI .i64 d23 fun n24 =>
 bif (decide (n24 < 0)) then (
 some (.ret, [(.v (.int .i64 (-1)))])) else (
 l94x0 T k n [(.fz 5 l3), (.v (.int .i64 n24)), (.v (.int .i64 (IntKind.wrap .i64 (n5 + 1))))]))))))))))) else (
 some ((.exit 0), [(.v (.int .i64 n4))]))) := by kernel_rfl
theorem a94q (T : Table) (k : Nat) (l1 : Rows) (n2 : Int) : evalF T k a94 [(.d (.s 5 l1)), (.d (.v (.int .i64 n2)))] = (
 aft (l94x0 T k k [(.fz 5 l1), (.v (.int .i64 n2)), (.v (.int .i64 0))]) fun e25 ys26 =>
 bif e25.same .ret then (
 aV ys26 0 fun x27 =>
 aI .i64 x27 fun n28 =>
 some ⟨(.d (.v (.int .i64 n28))), []⟩) else (
 bif e25.same (.exit 0) then (
 aV ys26 0 fun x29 =>
 aI .i64 x29 fun n30 =>
 some ⟨(.d (.v (.int .i64 n30))), []⟩) else (
 none))) := by kernel_rfl
/- loop.example/g00119/laws.heldWorkS -/
def b46x0 : ACode := (
  .seq (.seq (.reg false [⟨some 6, .mv (.t 5), none⟩,
    ⟨some 7, .mv (.t 0), none⟩,
    ⟨some 8, .len false (.t 7), none⟩,
    ⟨some 9, .bin .lss (.t 6) (.t 8), none⟩]) (
  .cond (.t 9) (.skip) (.exit 0))) (
  .seq (.block 1 (.seq (.seq (.reg false [⟨some 12, .mv (.t 0), none⟩,
      ⟨some 13, .mv (.t 5), none⟩,
      ⟨some 14, .iad 7 (.t 12) (.t 13), none⟩,
      ⟨some 15, .fad 0 (.t 14), none⟩,
      ⟨some 16, .load false [(.i .i64)] (.t 15), none⟩,
      ⟨some 17, .mv (.t 1), none⟩,
      ⟨some 18, .bin .neq (.t 16) (.t 17), none⟩]) (
    .cond (.t 18) (.seq (.reg false [⟨some 4, .mv (.c (.v (.int .i64 (-1)))), none⟩]) (
      .ret)) (.skip))) (
    .seq (.reg false [⟨some 19, .mv (.t 1), none⟩,
      ⟨some 20, .bin .add (.t 19) (.c (.v (.int .i64 1))), none⟩,
      ⟨some 1, .mv (.t 20), none⟩]) (
    .seq (.seq (.reg false [⟨some 21, .mv (.t 0), none⟩,
      ⟨some 22, .mv (.t 5), none⟩,
      ⟨some 23, .iad 7 (.t 21) (.t 22), none⟩,
      ⟨some 24, .fad 1 (.t 23), none⟩,
      ⟨some 25, .load false [(.i .i64)] (.t 24), none⟩,
      ⟨some 26, .mv (.t 1), none⟩,
      ⟨some 27, .bin .neq (.t 25) (.t 26), none⟩]) (
    .cond (.t 27) (.seq (.reg false [⟨some 4, .mv (.c (.v (.int .i64 (-1)))), none⟩]) (
      .ret)) (.skip))) (
    .seq (.reg false [⟨some 28, .mv (.t 1), none⟩,
      ⟨some 29, .bin .add (.t 28) (.c (.v (.int .i64 1))), none⟩,
      ⟨some 1, .mv (.t 29), none⟩]) (
    .seq (.seq (.reg false [⟨some 30, .mv (.t 0), none⟩,
      ⟨some 31, .mv (.t 5), none⟩,
      ⟨some 32, .iad 7 (.t 30) (.t 31), none⟩,
      ⟨some 33, .fad 2 (.t 32), none⟩,
      ⟨some 34, .fad 0 (.t 33), none⟩,
      ⟨some 35, .load false [(.i .i64)] (.t 34), none⟩,
      ⟨some 36, .mv (.t 1), none⟩,
      ⟨some 37, .bin .neq (.t 35) (.t 36), none⟩]) (
    .cond (.t 37) (.seq (.reg false [⟨some 4, .mv (.c (.v (.int .i64 (-1)))), none⟩]) (
      .ret)) (.skip))) (
    .seq (.reg false [⟨some 38, .mv (.t 1), none⟩,
      ⟨some 39, .bin .add (.t 38) (.c (.v (.int .i64 1))), none⟩,
      ⟨some 1, .mv (.t 39), none⟩]) (
    .seq (.seq (.dreg [] [(0, ⟨some 40, .mv (.t 0), none⟩),
      (0, ⟨some 41, .mv (.t 5), none⟩),
      (0, ⟨some 42, .iad 7 (.t 40) (.t 41), none⟩),
      (0, ⟨some 43, .fad 2 (.t 42), none⟩),
      (0, ⟨some 44, .fad 1 (.t 43), none⟩),
      (0, ⟨some 45, .load false [.s] (.t 44), none⟩),
      (0, ⟨some 46, .mv (.t 1), none⟩),
      (1, ⟨some 47, .call (.f 75) [.rd] false [.c .s] [(.t 46)], none⟩)] [⟨some 48, .bin .neq (.t 45) (.t 47), none⟩]) (
    .cond (.t 48) (.seq (.reg false [⟨some 4, .mv (.c (.v (.int .i64 (-1)))), none⟩]) (
      .ret)) (.skip))) (
    .seq (.reg false [⟨some 49, .mv (.t 1), none⟩,
      ⟨some 50, .bin .add (.t 49) (.c (.v (.int .i64 1))), none⟩,
      ⟨some 1, .mv (.t 50), none⟩]) (
    .seq (.seq (.reg false [⟨some 51, .mv (.t 0), none⟩,
      ⟨some 52, .mv (.t 5), none⟩,
      ⟨some 53, .iad 7 (.t 51) (.t 52), none⟩,
      ⟨some 54, .fad 2 (.t 53), none⟩,
      ⟨some 55, .fad 2 (.t 54), none⟩,
      ⟨some 56, .load false [(.i .i64)] (.t 55), none⟩,
      ⟨some 57, .mv (.t 1), none⟩,
      ⟨some 58, .bin .neq (.t 56) (.t 57), none⟩]) (
    .cond (.t 58) (.seq (.reg false [⟨some 4, .mv (.c (.v (.int .i64 (-1)))), none⟩]) (
      .ret)) (.skip))) (
    .seq (.reg false [⟨some 59, .mv (.t 1), none⟩,
      ⟨some 60, .bin .add (.t 59) (.c (.v (.int .i64 1))), none⟩,
      ⟨some 1, .mv (.t 60), none⟩]) (
    .seq (.reg false [⟨some 61, .mv (.t 0), none⟩,
      ⟨some 62, .mv (.t 5), none⟩,
      ⟨some 63, .iad 7 (.t 61) (.t 62), none⟩,
      ⟨some 64, .fad 2 (.t 63), none⟩,
      ⟨some 65, .fad 3 (.t 64), none⟩,
      ⟨some 66, .load false [(.sl 1)] (.t 65), none⟩,
      ⟨some 67, .mv (.t 1), none⟩,
      ⟨some 68, .call (.f 93) [.rd, .rd] false [.c (.i .i64)] [(.t 66), (.t 67)], none⟩,
      ⟨some 1, .mv (.t 68), none⟩]) (
    .seq (.seq (.reg false [⟨some 69, .mv (.t 1), none⟩,
      ⟨some 70, .bin .lss (.t 69) (.c (.v (.int .i64 0))), none⟩]) (
    .cond (.t 70) (.seq (.reg false [⟨some 4, .mv (.c (.v (.int .i64 (-1)))), none⟩]) (
      .ret)) (.skip))) (
    .seq (.reg false [⟨some 71, .mv (.t 0), none⟩,
      ⟨some 72, .mv (.t 5), none⟩,
      ⟨some 73, .iad 7 (.t 71) (.t 72), none⟩,
      ⟨some 74, .fad 2 (.t 73), none⟩,
      ⟨some 75, .fad 4 (.t 74), none⟩,
      ⟨some 76, .load false [(.sl 5)] (.t 75), none⟩,
      ⟨some 77, .mv (.t 1), none⟩,
      ⟨some 78, .call (.f 94) [.rd, .rd] false [.c (.i .i64)] [(.t 76), (.t 77)], none⟩,
      ⟨some 1, .mv (.t 78), none⟩]) (
    .seq (.reg false [⟨some 79, .mv (.t 1), none⟩,
      ⟨some 80, .bin .lss (.t 79) (.c (.v (.int .i64 0))), none⟩]) (
    .cond (.t 80) (.seq (.reg false [⟨some 4, .mv (.c (.v (.int .i64 (-1)))), none⟩]) (
      .ret)) (.skip))))))))))))))))) (
  .reg false [⟨some 10, .mv (.t 5), none⟩,
    ⟨some 11, .bin .add (.t 10) (.c (.v (.int .i64 1))), none⟩,
    ⟨some 5, .mv (.t 11), none⟩])))
def e46x0 : Exits := [(.ret, [(4, .c (.i .i64))]), ((.exit 0), [(1, .c (.i .i64))])]
noncomputable def l46x0 (T : Table) (k : Nat) := loopN (evalC ⟨T, []⟩ k b46x0 (Ex × List AV)) [0, 1, 5] e46x0
def a46 : AFun := ⟨[.rd, .rd], false, [.t 4], (
  .seq (.reg false [⟨some 4, .mv (.c (.v (.int .i64 0))), none⟩]) (
  .seq (.seq (.reg false [⟨some 5, .mv (.c (.v (.int .i64 0))), none⟩]) (
  .block 0 (.loop [0, 1, 5] e46x0 b46x0))) (
  .seq (.reg false [⟨some 81, .mv (.t 1), none⟩,
    ⟨some 4, .mv (.t 81), none⟩]) (
  .ret))))⟩
theorem l46x0s (T : Table) (k n : Nat) (l3 : Rows) (n4 : Int) (n5 : Int) : l46x0 T k (n + 1) [(.fz 7 l3), (.v (.int .i64 n4)), (.v (.int .i64 n5))] = (
 bif (decide (n5 < (l3.length : Int))) then (
 tst (decide (0 ≤ n5)) (
 look l3 (Int.toNat n5) fun r6 =>
 cI .i64 r6 0 fun n7 =>
 bif (n7 != n4) then (
 some (.ret, [(.v (.int .i64 (-1)))])) else (
 tst (decide (0 ≤ n5)) (
 look l3 (Int.toNat n5) fun r8 =>
 cI .i64 r8 1 fun n9 =>
 bif (n9 != (IntKind.wrap .i64 (n4 + 1))) then (
 some (.ret, [(.v (.int .i64 (-1)))])) else (
 tst (decide (0 ≤ n5)) (
 look l3 (Int.toNat n5) fun r10 =>
 cI .i64 r10 2 fun n11 =>
 bif (n11 != (IntKind.wrap .i64 ((IntKind.wrap .i64 (n4 + 1)) + 1))) then (
 some (.ret, [(.v (.int .i64 (-1)))])) else (
 tst (decide (0 ≤ n5)) (
 look l3 (Int.toNat n5) fun r12 =>
 cS r12 3 fun s13 =>
 callT T 75 [(.d (.v (.int .i64 (IntKind.wrap .i64 ((IntKind.wrap .i64 ((IntKind.wrap .i64 (n4 + 1)) + 1)) + 1)))))] fun o14 =>
 oD o14.res fun d15 =>
 dS d15 fun s16 =>
 bif (!(bytesEq s13 s16)) then (
 some (.ret, [(.v (.int .i64 (-1)))])) else (
 tst (decide (0 ≤ n5)) (
 look l3 (Int.toNat n5) fun r17 =>
 cI .i64 r17 4 fun n18 =>
 bif (n18 != (IntKind.wrap .i64 ((IntKind.wrap .i64 ((IntKind.wrap .i64 ((IntKind.wrap .i64 (n4 + 1)) + 1)) + 1)) + 1))) then (
 some (.ret, [(.v (.int .i64 (-1)))])) else (
 tst (decide (0 ≤ n5)) (
 look l3 (Int.toNat n5) fun r19 =>
 cL 1 r19 5 fun l20 =>
 callT T 93 [(.d (.s 1 l20)), (.d (.v (.int .i64 (IntKind.wrap .i64 ((IntKind.wrap .i64 ((IntKind.wrap .i64 ((IntKind.wrap .i64 ((IntKind.wrap .i64 (n4 + 1)) + 1)) + 1)) + 1)) + 1)))))] fun o21 =>
 oD o21.res fun d22 =>
 dI .i64 d22 fun n23 =>
 bif (decide (n23 < 0)) then (
 some (.ret, [(.v (.int .i64 (-1)))])) else (
 tst (decide (0 ≤ n5)) (
 look l3 (Int.toNat n5) fun r24 =>
 cL 5 r24 6 fun l25 =>
 callT T 94 [(.d (.s 5 l25)), (.d (.v (.int .i64 n23)))] fun o26 =>
 oD o26.res fun d27 =>
 dI .i64 d27 fun n28 =>
 bif (decide (n28 < 0)) then (
 some (.ret, [(.v (.int .i64 (-1)))])) else (
 l46x0 T k n [(.fz 7 l3), (.v (.int .i64 n28)), (.v (.int .i64 (IntKind.wrap .i64 (n5 + 1))))]))))))))))))))) else (
 some ((.exit 0), [(.v (.int .i64 n4))]))) := by kernel_rfl
theorem a46q (T : Table) (k : Nat) (l1 : Rows) (n2 : Int) : evalF T k a46 [(.d (.s 7 l1)), (.d (.v (.int .i64 n2)))] = (
 aft (l46x0 T k k [(.fz 7 l1), (.v (.int .i64 n2)), (.v (.int .i64 0))]) fun e29 ys30 =>
 bif e29.same .ret then (
 aV ys30 0 fun x31 =>
 aI .i64 x31 fun n32 =>
 some ⟨(.d (.v (.int .i64 n32))), []⟩) else (
 bif e29.same (.exit 0) then (
 aV ys30 0 fun x33 =>
 aI .i64 x33 fun n34 =>
 some ⟨(.d (.v (.int .i64 n34))), []⟩) else (
 none))) := by kernel_rfl
/- loop.example/g00119/laws.heldRunS -/
def b47x0 : ACode := (
  .seq (.seq (.reg false [⟨some 6, .mv (.t 5), none⟩,
    ⟨some 7, .mv (.t 0), none⟩,
    ⟨some 8, .len false (.t 7), none⟩,
    ⟨some 9, .bin .lss (.t 6) (.t 8), none⟩]) (
  .cond (.t 9) (.skip) (.exit 0))) (
  .seq (.block 1 (.seq (.seq (.reg false [⟨some 12, .mv (.t 0), none⟩,
      ⟨some 13, .mv (.t 5), none⟩,
      ⟨some 14, .iad 2 (.t 12) (.t 13), none⟩,
      ⟨some 15, .fad 0 (.t 14), none⟩,
      ⟨some 16, .load false [(.i .i64)] (.t 15), none⟩,
      ⟨some 17, .mv (.t 1), none⟩,
      ⟨some 18, .bin .neq (.t 16) (.t 17), none⟩]) (
    .cond (.t 18) (.seq (.reg false [⟨some 4, .mv (.c (.v (.int .i64 (-1)))), none⟩]) (
      .ret)) (.skip))) (
    .seq (.reg false [⟨some 19, .mv (.t 1), none⟩,
      ⟨some 20, .bin .add (.t 19) (.c (.v (.int .i64 1))), none⟩,
      ⟨some 1, .mv (.t 20), none⟩]) (
    .seq (.seq (.reg false [⟨some 21, .mv (.t 0), none⟩,
      ⟨some 22, .mv (.t 5), none⟩,
      ⟨some 23, .iad 2 (.t 21) (.t 22), none⟩,
      ⟨some 24, .fad 1 (.t 23), none⟩,
      ⟨some 25, .load false [(.i .i64)] (.t 24), none⟩,
      ⟨some 26, .mv (.t 1), none⟩,
      ⟨some 27, .bin .neq (.t 25) (.t 26), none⟩]) (
    .cond (.t 27) (.seq (.reg false [⟨some 4, .mv (.c (.v (.int .i64 (-1)))), none⟩]) (
      .ret)) (.skip))) (
    .reg false [⟨some 28, .mv (.t 1), none⟩,
      ⟨some 29, .bin .add (.t 28) (.c (.v (.int .i64 1))), none⟩,
      ⟨some 1, .mv (.t 29), none⟩]))))) (
  .reg false [⟨some 10, .mv (.t 5), none⟩,
    ⟨some 11, .bin .add (.t 10) (.c (.v (.int .i64 1))), none⟩,
    ⟨some 5, .mv (.t 11), none⟩])))
def e47x0 : Exits := [(.ret, [(4, .c (.i .i64))]), ((.exit 0), [(1, .c (.i .i64))])]
noncomputable def l47x0 (T : Table) (k : Nat) := loopN (evalC ⟨T, []⟩ k b47x0 (Ex × List AV)) [0, 1, 5] e47x0
def a47 : AFun := ⟨[.rd, .rd], false, [.t 4], (
  .seq (.reg false [⟨some 4, .mv (.c (.v (.int .i64 0))), none⟩]) (
  .seq (.seq (.reg false [⟨some 5, .mv (.c (.v (.int .i64 0))), none⟩]) (
  .block 0 (.loop [0, 1, 5] e47x0 b47x0))) (
  .seq (.reg false [⟨some 30, .mv (.t 1), none⟩,
    ⟨some 4, .mv (.t 30), none⟩]) (
  .ret))))⟩
theorem l47x0s (T : Table) (k n : Nat) (l3 : Rows) (n4 : Int) (n5 : Int) : l47x0 T k (n + 1) [(.fz 2 l3), (.v (.int .i64 n4)), (.v (.int .i64 n5))] = (
 bif (decide (n5 < (l3.length : Int))) then (
 tst (decide (0 ≤ n5)) (
 look l3 (Int.toNat n5) fun r6 =>
 cI .i64 r6 0 fun n7 =>
 bif (n7 != n4) then (
 some (.ret, [(.v (.int .i64 (-1)))])) else (
 tst (decide (0 ≤ n5)) (
 look l3 (Int.toNat n5) fun r8 =>
 cI .i64 r8 1 fun n9 =>
 bif (n9 != (IntKind.wrap .i64 (n4 + 1))) then (
 some (.ret, [(.v (.int .i64 (-1)))])) else (
 l47x0 T k n [(.fz 2 l3), (.v (.int .i64 (IntKind.wrap .i64 ((IntKind.wrap .i64 (n4 + 1)) + 1)))), (.v (.int .i64 (IntKind.wrap .i64 (n5 + 1))))]))))) else (
 some ((.exit 0), [(.v (.int .i64 n4))]))) := by kernel_rfl
theorem a47q (T : Table) (k : Nat) (l1 : Rows) (n2 : Int) : evalF T k a47 [(.d (.s 2 l1)), (.d (.v (.int .i64 n2)))] = (
 aft (l47x0 T k k [(.fz 2 l1), (.v (.int .i64 n2)), (.v (.int .i64 0))]) fun e10 ys11 =>
 bif e10.same .ret then (
 aV ys11 0 fun x12 =>
 aI .i64 x12 fun n13 =>
 some ⟨(.d (.v (.int .i64 n13))), []⟩) else (
 bif e10.same (.exit 0) then (
 aV ys11 0 fun x14 =>
 aI .i64 x14 fun n15 =>
 some ⟨(.d (.v (.int .i64 n15))), []⟩) else (
 none))) := by kernel_rfl
/- loop.example/g00119/laws.heldIsle -/

def a17 : AFun := ⟨[.rd, .rd], false, [.t 4], (
  .seq (.reg false [⟨some 2, .box (.t 0), none⟩,
    ⟨some 4, .mv (.c (.v (.int .i64 0))), none⟩]) (
  .seq (.reg false [⟨some 5, .fad 3 (.t 2), none⟩,
    ⟨some 6, .load false [(.sl 7)] (.t 5), none⟩,
    ⟨some 7, .mv (.t 1), none⟩,
    ⟨some 8, .call (.f 46) [.rd, .rd] false [.c (.i .i64)] [(.t 6), (.t 7)], none⟩,
    ⟨some 1, .mv (.t 8), none⟩]) (
  .seq (.seq (.reg false [⟨some 9, .mv (.t 1), none⟩,
    ⟨some 10, .bin .lss (.t 9) (.c (.v (.int .i64 0))), none⟩]) (
  .cond (.t 10) (.seq (.reg false [⟨some 4, .mv (.c (.v (.int .i64 (-1)))), none⟩]) (
    .ret)) (.skip))) (
  .seq (.reg false [⟨some 11, .fad 4 (.t 2), none⟩,
    ⟨some 12, .load false [(.sl 2)] (.t 11), none⟩,
    ⟨some 13, .mv (.t 1), none⟩,
    ⟨some 14, .call (.f 47) [.rd, .rd] false [.c (.i .i64)] [(.t 12), (.t 13)], none⟩,
    ⟨some 1, .mv (.t 14), none⟩]) (
  .seq (.seq (.reg false [⟨some 15, .mv (.t 1), none⟩,
    ⟨some 16, .bin .lss (.t 15) (.c (.v (.int .i64 0))), none⟩]) (
  .cond (.t 16) (.seq (.reg false [⟨some 4, .mv (.c (.v (.int .i64 (-1)))), none⟩]) (
    .ret)) (.skip))) (
  .seq (.reg false [⟨some 17, .mv (.t 1), none⟩,
    ⟨some 4, .mv (.t 17), none⟩]) (
  .ret)))))))⟩

theorem a17q (T : Table) (k : Nat) (s1 : ByteArray) (n2 : Int) (n3 : Int) (l4 : Rows) (l5 : Rows) (n6 : Int) : evalF T k a17 [(.g [(.v (.string s1)), (.v (.int .i64 n2)), (.v (.int .i64 n3)), (.s 7 l4), (.s 2 l5)]), (.d (.v (.int .i64 n6)))] = (
 callT T 46 [(.d (.s 7 l4)), (.d (.v (.int .i64 n6)))] fun o7 =>
 oD o7.res fun d8 =>
 dI .i64 d8 fun n9 =>
 bif (decide (n9 < 0)) then (
 some ⟨(.d (.v (.int .i64 (-1)))), []⟩) else (
 callT T 47 [(.d (.s 2 l5)), (.d (.v (.int .i64 n9)))] fun o10 =>
 oD o10.res fun d11 =>
 dI .i64 d11 fun n12 =>
 bif (decide (n12 < 0)) then (
 some ⟨(.d (.v (.int .i64 (-1)))), []⟩) else (
 some ⟨(.d (.v (.int .i64 n12))), []⟩))) := by kernel_rfl

end Go.Am.La
