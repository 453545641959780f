/- What the functions come to, printed: equations by the kernel. Nothing is assumed. -/
import Derived.Test.YtapjklbchbgiaaaAmA
import Derived.KernelRfl
namespace Go.Am.Sp
set_option linter.unusedVariables false
set_option linter.unusedSimpArgs false
set_option maxRecDepth 8000
/- loop.example/g00119/laws.szStringS -/
def b51x0 : ACode := (
  .seq (.seq (.reg false [⟨some 12, .mv (.t 5), none⟩,
    ⟨some 13, .mv (.t 0), none⟩,
    ⟨some 14, .len false (.t 13), none⟩,
    ⟨some 15, .bin .lss (.t 12) (.t 14), none⟩]) (
  .cond (.t 15) (.skip) (.exit 0))) (
  .seq (.block 1 (.seq (.reg false [⟨some 18, .mv (.t 1), none⟩,
      ⟨some 19, .mv (.t 0), none⟩,
      ⟨some 20, .mv (.t 5), none⟩,
      ⟨some 21, .iad 1 (.t 19) (.t 20), none⟩,
      ⟨some 22, .load false [.s] (.t 21), none⟩,
      ⟨some 23, .len true (.t 22), none⟩,
      ⟨some 24, .bin .sub (.t 18) (.t 23), none⟩,
      ⟨some 1, .mv (.t 24), none⟩]) (
    .seq (.reg false [⟨some 25, .mv (.t 1), none⟩,
      ⟨some 26, .bin .lss (.t 25) (.c (.v (.int .i64 0))), none⟩]) (
    .cond (.t 26) (.seq (.reg false [⟨some 4, .mv (.c (.v (.int .i64 (-1)))), none⟩]) (
      .ret)) (.skip))))) (
  .reg false [⟨some 16, .mv (.t 5), none⟩,
    ⟨some 17, .bin .add (.t 16) (.c (.v (.int .i64 1))), none⟩,
    ⟨some 5, .mv (.t 17), none⟩])))
def e51x0 : Exits := [(.ret, [(4, .c (.i .i64))]), ((.exit 0), [(1, .c (.i .i64))])]
noncomputable def l51x0 (T : Table) (k : Nat) := loopN (evalC ⟨T, []⟩ k b51x0 (Ex × List AV)) [0, 1, 5] e51x0
def a51 : AFun := ⟨[.rd, .rd], false, [.t 4], (
  .seq (.reg false [⟨some 4, .mv (.c (.v (.int .i64 0))), none⟩]) (
  .seq (.reg false [⟨some 6, .mv (.t 1), none⟩,
    ⟨some 7, .mv (.t 0), none⟩,
    ⟨some 8, .len false (.t 7), none⟩,
    ⟨some 9, .bin .sub (.t 6) (.t 8), none⟩,
    ⟨some 1, .mv (.t 9), none⟩]) (
  .seq (.seq (.reg false [⟨some 10, .mv (.t 1), none⟩,
    ⟨some 11, .bin .lss (.t 10) (.c (.v (.int .i64 0))), none⟩]) (
  .cond (.t 11) (.seq (.reg false [⟨some 4, .mv (.c (.v (.int .i64 (-1)))), none⟩]) (
    .ret)) (.skip))) (
  .seq (.seq (.reg false [⟨some 5, .mv (.c (.v (.int .i64 0))), none⟩]) (
  .block 0 (.loop [0, 1, 5] e51x0 b51x0))) (
  .seq (.reg false [⟨some 27, .mv (.t 1), none⟩,
    ⟨some 4, .mv (.t 27), none⟩]) (
  .ret))))))⟩
theorem l51x0s (T : Table) (k n : Nat) (l3 : Rows) (n4 : Int) (n5 : Int) : l51x0 T k (n + 1) [(.fz 1 l3), (.v (.int .i64 n4)), (.v (.int .i64 n5))] = (
 bif (decide (n5 < (l3.length : Int))) then (
 tst (decide (0 ≤ n5)) (
 look l3 (Int.toNat n5) fun r6 =>
 cS r6 0 fun s7 =>
 bif (decide ((IntKind.wrap .i64 (n4 - (s7.size : Int))) < 0)) then (
 some (.ret, [(.v (.int .i64 (-1)))])) else (
 l51x0 T k n [(.fz 1 l3), (.v (.int .i64 (IntKind.wrap .i64 (n4 - (s7.size : Int))))), (.v (.int .i64 (IntKind.wrap .i64 (n5 + 1))))]))) else (
 some ((.exit 0), [(.v (.int .i64 n4))]))) := by kernel_rfl
theorem a51q (T : Table) (k : Nat) (l1 : Rows) (n2 : Int) : evalF T k a51 [(.d (.s 1 l1)), (.d (.v (.int .i64 n2)))] = (
 bif (decide ((IntKind.wrap .i64 (n2 - (l1.length : Int))) < 0)) then (
 some ⟨(.d (.v (.int .i64 (-1)))), []⟩) else (
 aft (l51x0 T k k [(.fz 1 l1), (.v (.int .i64 (IntKind.wrap .i64 (n2 - (l1.length : Int))))), (.v (.int .i64 0))]) fun e8 ys9 =>
 bif e8.same .ret then (
 aV ys9 0 fun x10 =>
 aI .i64 x10 fun n11 =>
 some ⟨(.d (.v (.int .i64 n11))), []⟩) else (
 bif e8.same (.exit 0) then (
 aV ys9 0 fun x12 =>
 aI .i64 x12 fun n13 =>
 some ⟨(.d (.v (.int .i64 n13))), []⟩) else (
 none)))) := by kernel_rfl
/- loop.example/g00119/laws.szValueS -/
def b144x0 : ACode := (
  .seq (.seq (.reg false [⟨some 12, .mv (.t 5), none⟩,
    ⟨some 13, .mv (.t 0), none⟩,
    ⟨some 14, .len false (.t 13), none⟩,
    ⟨some 15, .bin .lss (.t 12) (.t 14), none⟩]) (
  .cond (.t 15) (.skip) (.exit 0))) (
  .seq (.block 1 (.seq (.reg false [⟨some 18, .mv (.t 0), none⟩,
      ⟨some 19, .mv (.t 5), none⟩,
      ⟨some 20, .iad 5 (.t 18) (.t 19), none⟩,
      ⟨some 21, .load true [(.i .i64), .s, (.i .i64), (.sl 1), (.sl 5)] (.t 20), none⟩,
      ⟨some 22, .mv (.t 1), none⟩,
      ⟨some 23, .call (.f 121) [.rd, .rd] false [.c (.i .i64)] [(.t 21), (.t 22)], none⟩,
      ⟨some 1, .mv (.t 23), none⟩]) (
    .seq (.reg false [⟨some 24, .mv (.t 1), none⟩,
      ⟨some 25, .bin .lss (.t 24) (.c (.v (.int .i64 0))), none⟩]) (
    .cond (.t 25) (.seq (.reg false [⟨some 4, .mv (.c (.v (.int .i64 (-1)))), none⟩]) (
      .ret)) (.skip))))) (
  .reg false [⟨some 16, .mv (.t 5), none⟩,
    ⟨some 17, .bin .add (.t 16) (.c (.v (.int .i64 1))), none⟩,
    ⟨some 5, .mv (.t 17), none⟩])))
def e144x0 : Exits := [(.ret, [(4, .c (.i .i64))]), ((.exit 0), [(1, .c (.i .i64))])]
noncomputable def l144x0 (T : Table) (k : Nat) := loopN (evalC ⟨T, []⟩ k b144x0 (Ex × List AV)) [0, 1, 5] e144x0
def a144 : AFun := ⟨[.rd, .rd], false, [.t 4], (
  .seq (.reg false [⟨some 4, .mv (.c (.v (.int .i64 0))), none⟩]) (
  .seq (.reg false [⟨some 6, .mv (.t 1), none⟩,
    ⟨some 7, .mv (.t 0), none⟩,
    ⟨some 8, .len false (.t 7), none⟩,
    ⟨some 9, .bin .sub (.t 6) (.t 8), none⟩,
    ⟨some 1, .mv (.t 9), none⟩]) (
  .seq (.seq (.reg false [⟨some 10, .mv (.t 1), none⟩,
    ⟨some 11, .bin .lss (.t 10) (.c (.v (.int .i64 0))), none⟩]) (
  .cond (.t 11) (.seq (.reg false [⟨some 4, .mv (.c (.v (.int .i64 (-1)))), none⟩]) (
    .ret)) (.skip))) (
  .seq (.seq (.reg false [⟨some 5, .mv (.c (.v (.int .i64 0))), none⟩]) (
  .block 0 (.loop [0, 1, 5] e144x0 b144x0))) (
  .seq (.reg false [⟨some 26, .mv (.t 1), none⟩,
    ⟨some 4, .mv (.t 26), none⟩]) (
  .ret))))))⟩
theorem l144x0s (T : Table) (k n : Nat) (l3 : Rows) (n4 : Int) (n5 : Int) : l144x0 T k (n + 1) [(.fz 5 l3), (.v (.int .i64 n4)), (.v (.int .i64 n5))] = (
 bif (decide (n5 < (l3.length : Int))) then (
 tst (decide (0 ≤ n5)) (
 look l3 (Int.toNat n5) fun r6 =>
 cI .i64 r6 0 fun n7 =>
 cS r6 1 fun s8 =>
 cI .i64 r6 2 fun n9 =>
 cL 1 r6 3 fun l10 =>
 cL 5 r6 4 fun l11 =>
 callT T 121 [(.g [(.v (.int .i64 n7)), (.v (.string s8)), (.v (.int .i64 n9)), (.s 1 l10), (.s 5 l11)]), (.d (.v (.int .i64 n4)))] fun o12 =>
 oD o12.res fun d13 =>
 dI .i64 d13 fun n14 =>
 bif (decide (n14 < 0)) then (
 some (.ret, [(.v (.int .i64 (-1)))])) else (
 l144x0 T k n [(.fz 5 l3), (.v (.int .i64 n14)), (.v (.int .i64 (IntKind.wrap .i64 (n5 + 1))))]))) else (
 some ((.exit 0), [(.v (.int .i64 n4))]))) := by kernel_rfl
theorem a144q (T : Table) (k : Nat) (l1 : Rows) (n2 : Int) : evalF T k a144 [(.d (.s 5 l1)), (.d (.v (.int .i64 n2)))] = (
 bif (decide ((IntKind.wrap .i64 (n2 - (l1.length : Int))) < 0)) then (
 some ⟨(.d (.v (.int .i64 (-1)))), []⟩) else (
 aft (l144x0 T k k [(.fz 5 l1), (.v (.int .i64 (IntKind.wrap .i64 (n2 - (l1.length : Int))))), (.v (.int .i64 0))]) fun e15 ys16 =>
 bif e15.same .ret then (
 aV ys16 0 fun x17 =>
 aI .i64 x17 fun n18 =>
 some ⟨(.d (.v (.int .i64 n18))), []⟩) else (
 bif e15.same (.exit 0) then (
 aV ys16 0 fun x19 =>
 aI .i64 x19 fun n20 =>
 some ⟨(.d (.v (.int .i64 n20))), []⟩) else (
 none)))) := by kernel_rfl
/- loop.example/g00119/laws.szValue -/

def a121 : AFun := ⟨[.rd, .rd], false, [.t 4], (
  .seq (.reg false [⟨some 2, .box (.t 0), none⟩,
    ⟨some 4, .mv (.c (.v (.int .i64 0))), none⟩]) (
  .seq (.reg false [⟨some 5, .mv (.t 1), none⟩,
    ⟨some 6, .fad 1 (.t 2), none⟩,
    ⟨some 7, .load false [.s] (.t 6), none⟩,
    ⟨some 8, .len true (.t 7), none⟩,
    ⟨some 9, .bin .sub (.t 5) (.t 8), none⟩,
    ⟨some 1, .mv (.t 9), none⟩]) (
  .seq (.seq (.reg false [⟨some 10, .mv (.t 1), none⟩,
    ⟨some 11, .bin .lss (.t 10) (.c (.v (.int .i64 0))), none⟩]) (
  .cond (.t 11) (.seq (.reg false [⟨some 4, .mv (.c (.v (.int .i64 (-1)))), none⟩]) (
    .ret)) (.skip))) (
  .seq (.reg false [⟨some 12, .fad 3 (.t 2), none⟩,
    ⟨some 13, .load false [(.sl 1)] (.t 12), none⟩,
    ⟨some 14, .mv (.t 1), none⟩,
    ⟨some 15, .call (.f 51) [.rd, .rd] false [.c (.i .i64)] [(.t 13), (.t 14)], none⟩,
    ⟨some 1, .mv (.t 15), none⟩]) (
  .seq (.seq (.reg false [⟨some 16, .mv (.t 1), none⟩,
    ⟨some 17, .bin .lss (.t 16) (.c (.v (.int .i64 0))), none⟩]) (
  .cond (.t 17) (.seq (.reg false [⟨some 4, .mv (.c (.v (.int .i64 (-1)))), none⟩]) (
    .ret)) (.skip))) (
  .seq (.reg false [⟨some 18, .fad 4 (.t 2), none⟩,
    ⟨some 19, .load false [(.sl 5)] (.t 18), none⟩,
    ⟨some 20, .mv (.t 1), none⟩,
    ⟨some 21, .call (.f 144) [.rd, .rd] false [.c (.i .i64)] [(.t 19), (.t 20)], none⟩,
    ⟨some 1, .mv (.t 21), none⟩]) (
  .seq (.seq (.reg false [⟨some 22, .mv (.t 1), none⟩,
    ⟨some 23, .bin .lss (.t 22) (.c (.v (.int .i64 0))), none⟩]) (
  .cond (.t 23) (.seq (.reg false [⟨some 4, .mv (.c (.v (.int .i64 (-1)))), none⟩]) (
    .ret)) (.skip))) (
  .seq (.reg false [⟨some 24, .mv (.t 1), none⟩,
    ⟨some 4, .mv (.t 24), none⟩]) (
  .ret)))))))))⟩

theorem a121q (T : Table) (k : Nat) (n1 : Int) (s2 : ByteArray) (n3 : Int) (l4 : Rows) (l5 : Rows) (n6 : Int) : evalF T k a121 [(.g [(.v (.int .i64 n1)), (.v (.string s2)), (.v (.int .i64 n3)), (.s 1 l4), (.s 5 l5)]), (.d (.v (.int .i64 n6)))] = (
 bif (decide ((IntKind.wrap .i64 (n6 - (s2.size : Int))) < 0)) then (
 some ⟨(.d (.v (.int .i64 (-1)))), []⟩) else (
 callT T 51 [(.d (.s 1 l4)), (.d (.v (.int .i64 (IntKind.wrap .i64 (n6 - (s2.size : Int))))))] fun o7 =>
 oD o7.res fun d8 =>
 dI .i64 d8 fun n9 =>
 bif (decide (n9 < 0)) then (
 some ⟨(.d (.v (.int .i64 (-1)))), []⟩) else (
 callT T 144 [(.d (.s 5 l5)), (.d (.v (.int .i64 n9)))] fun o10 =>
 oD o10.res fun d11 =>
 dI .i64 d11 fun n12 =>
 bif (decide (n12 < 0)) then (
 some ⟨(.d (.v (.int .i64 (-1)))), []⟩) else (
 some ⟨(.d (.v (.int .i64 n12))), []⟩)))) := by kernel_rfl
/- loop.example/g00119/laws.szTerm -/

def a169 : AFun := ⟨[.rd, .rd], false, [.t 4], (
  .seq (.reg false [⟨some 2, .box (.t 0), none⟩,
    ⟨some 4, .mv (.c (.v (.int .i64 0))), none⟩]) (
  .seq (.reg false [⟨some 5, .mv (.t 1), none⟩,
    ⟨some 6, .fad 1 (.t 2), none⟩,
    ⟨some 7, .load false [.s] (.t 6), none⟩,
    ⟨some 8, .len true (.t 7), none⟩,
    ⟨some 9, .bin .sub (.t 5) (.t 8), none⟩,
    ⟨some 1, .mv (.t 9), none⟩]) (
  .seq (.seq (.reg false [⟨some 10, .mv (.t 1), none⟩,
    ⟨some 11, .bin .lss (.t 10) (.c (.v (.int .i64 0))), none⟩]) (
  .cond (.t 11) (.seq (.reg false [⟨some 4, .mv (.c (.v (.int .i64 (-1)))), none⟩]) (
    .ret)) (.skip))) (
  .seq (.reg false [⟨some 12, .fad 2 (.t 2), none⟩,
    ⟨some 13, .load false [(.sl 1)] (.t 12), none⟩,
    ⟨some 14, .mv (.t 1), none⟩,
    ⟨some 15, .call (.f 51) [.rd, .rd] false [.c (.i .i64)] [(.t 13), (.t 14)], none⟩,
    ⟨some 1, .mv (.t 15), none⟩]) (
  .seq (.seq (.reg false [⟨some 16, .mv (.t 1), none⟩,
    ⟨some 17, .bin .lss (.t 16) (.c (.v (.int .i64 0))), none⟩]) (
  .cond (.t 17) (.seq (.reg false [⟨some 4, .mv (.c (.v (.int .i64 (-1)))), none⟩]) (
    .ret)) (.skip))) (
  .seq (.reg false [⟨some 18, .mv (.t 1), none⟩,
    ⟨some 4, .mv (.t 18), none⟩]) (
  .ret)))))))⟩

theorem a169q (T : Table) (k : Nat) (n1 : Int) (s2 : ByteArray) (l3 : Rows) (n4 : Int) : evalF T k a169 [(.g [(.v (.int .i64 n1)), (.v (.string s2)), (.s 1 l3)]), (.d (.v (.int .i64 n4)))] = (
 bif (decide ((IntKind.wrap .i64 (n4 - (s2.size : Int))) < 0)) then (
 some ⟨(.d (.v (.int .i64 (-1)))), []⟩) else (
 callT T 51 [(.d (.s 1 l3)), (.d (.v (.int .i64 (IntKind.wrap .i64 (n4 - (s2.size : Int))))))] fun o5 =>
 oD o5.res fun d6 =>
 dI .i64 d6 fun n7 =>
 bif (decide (n7 < 0)) then (
 some ⟨(.d (.v (.int .i64 (-1)))), []⟩) else (
 some ⟨(.d (.v (.int .i64 n7))), []⟩))) := by kernel_rfl
/- loop.example/g00119/laws.szTermS -/
def b150x0 : ACode := (
  .seq (.seq (.reg false [⟨some 12, .mv (.t 5), none⟩,
    ⟨some 13, .mv (.t 0), none⟩,
    ⟨some 14, .len false (.t 13), none⟩,
    ⟨some 15, .bin .lss (.t 12) (.t 14), none⟩]) (
  .cond (.t 15) (.skip) (.exit 0))) (
  .seq (.block 1 (.seq (.reg false [⟨some 18, .mv (.t 0), none⟩,
      ⟨some 19, .mv (.t 5), none⟩,
      ⟨some 20, .iad 3 (.t 18) (.t 19), none⟩,
      ⟨some 21, .load true [(.i .i64), .s, (.sl 1)] (.t 20), none⟩,
      ⟨some 22, .mv (.t 1), none⟩,
      ⟨some 23, .call (.f 169) [.rd, .rd] false [.c (.i .i64)] [(.t 21), (.t 22)], none⟩,
      ⟨some 1, .mv (.t 23), none⟩]) (
    .seq (.reg false [⟨some 24, .mv (.t 1), none⟩,
      ⟨some 25, .bin .lss (.t 24) (.c (.v (.int .i64 0))), none⟩]) (
    .cond (.t 25) (.seq (.reg false [⟨some 4, .mv (.c (.v (.int .i64 (-1)))), none⟩]) (
      .ret)) (.skip))))) (
  .reg false [⟨some 16, .mv (.t 5), none⟩,
    ⟨some 17, .bin .add (.t 16) (.c (.v (.int .i64 1))), none⟩,
    ⟨some 5, .mv (.t 17), none⟩])))
def e150x0 : Exits := [(.ret, [(4, .c (.i .i64))]), ((.exit 0), [(1, .c (.i .i64))])]
noncomputable def l150x0 (T : Table) (k : Nat) := loopN (evalC ⟨T, []⟩ k b150x0 (Ex × List AV)) [0, 1, 5] e150x0
def a150 : AFun := ⟨[.rd, .rd], false, [.t 4], (
  .seq (.reg false [⟨some 4, .mv (.c (.v (.int .i64 0))), none⟩]) (
  .seq (.reg false [⟨some 6, .mv (.t 1), none⟩,
    ⟨some 7, .mv (.t 0), none⟩,
    ⟨some 8, .len false (.t 7), none⟩,
    ⟨some 9, .bin .sub (.t 6) (.t 8), none⟩,
    ⟨some 1, .mv (.t 9), none⟩]) (
  .seq (.seq (.reg false [⟨some 10, .mv (.t 1), none⟩,
    ⟨some 11, .bin .lss (.t 10) (.c (.v (.int .i64 0))), none⟩]) (
  .cond (.t 11) (.seq (.reg false [⟨some 4, .mv (.c (.v (.int .i64 (-1)))), none⟩]) (
    .ret)) (.skip))) (
  .seq (.seq (.reg false [⟨some 5, .mv (.c (.v (.int .i64 0))), none⟩]) (
  .block 0 (.loop [0, 1, 5] e150x0 b150x0))) (
  .seq (.reg false [⟨some 26, .mv (.t 1), none⟩,
    ⟨some 4, .mv (.t 26), none⟩]) (
  .ret))))))⟩
theorem l150x0s (T : Table) (k n : Nat) (l3 : Rows) (n4 : Int) (n5 : Int) : l150x0 T k (n + 1) [(.fz 3 l3), (.v (.int .i64 n4)), (.v (.int .i64 n5))] = (
 bif (decide (n5 < (l3.length : Int))) then (
 tst (decide (0 ≤ n5)) (
 look l3 (Int.toNat n5) fun r6 =>
 cI .i64 r6 0 fun n7 =>
 cS r6 1 fun s8 =>
 cL 1 r6 2 fun l9 =>
 callT T 169 [(.g [(.v (.int .i64 n7)), (.v (.string s8)), (.s 1 l9)]), (.d (.v (.int .i64 n4)))] fun o10 =>
 oD o10.res fun d11 =>
 dI .i64 d11 fun n12 =>
 bif (decide (n12 < 0)) then (
 some (.ret, [(.v (.int .i64 (-1)))])) else (
 l150x0 T k n [(.fz 3 l3), (.v (.int .i64 n12)), (.v (.int .i64 (IntKind.wrap .i64 (n5 + 1))))]))) else (
 some ((.exit 0), [(.v (.int .i64 n4))]))) := by kernel_rfl
theorem a150q (T : Table) (k : Nat) (l1 : Rows) (n2 : Int) : evalF T k a150 [(.d (.s 3 l1)), (.d (.v (.int .i64 n2)))] = (
 bif (decide ((IntKind.wrap .i64 (n2 - (l1.length : Int))) < 0)) then (
 some ⟨(.d (.v (.int .i64 (-1)))), []⟩) else (
 aft (l150x0 T k k [(.fz 3 l1), (.v (.int .i64 (IntKind.wrap .i64 (n2 - (l1.length : Int))))), (.v (.int .i64 0))]) fun e13 ys14 =>
 bif e13.same .ret then (
 aV ys14 0 fun x15 =>
 aI .i64 x15 fun n16 =>
 some ⟨(.d (.v (.int .i64 n16))), []⟩) else (
 bif e13.same (.exit 0) then (
 aV ys14 0 fun x17 =>
 aI .i64 x17 fun n18 =>
 some ⟨(.d (.v (.int .i64 n18))), []⟩) else (
 none)))) := by kernel_rfl
/- loop.example/g00119/laws.szWeigh -/

def a170 : AFun := ⟨[.rd, .rd], false, [.t 4], (
  .seq (.reg false [⟨some 2, .box (.t 0), none⟩,
    ⟨some 4, .mv (.c (.v (.int .i64 0))), none⟩]) (
  .seq (.reg false [⟨some 5, .mv (.t 1), none⟩,
    ⟨some 6, .fad 0 (.t 2), none⟩,
    ⟨some 7, .load false [.s] (.t 6), none⟩,
    ⟨some 8, .len true (.t 7), none⟩,
    ⟨some 9, .bin .sub (.t 5) (.t 8), none⟩,
    ⟨some 1, .mv (.t 9), none⟩]) (
  .seq (.seq (.reg false [⟨some 10, .mv (.t 1), none⟩,
    ⟨some 11, .bin .lss (.t 10) (.c (.v (.int .i64 0))), none⟩]) (
  .cond (.t 11) (.seq (.reg false [⟨some 4, .mv (.c (.v (.int .i64 (-1)))), none⟩]) (
    .ret)) (.skip))) (
  .seq (.reg false [⟨some 12, .mv (.t 1), none⟩,
    ⟨some 4, .mv (.t 12), none⟩]) (
  .ret)))))⟩

theorem a170q (T : Table) (k : Nat) (s1 : ByteArray) (n2 : Int) (n3 : Int) : evalF T k a170 [(.g [(.v (.string s1)), (.v (.int .i64 n2))]), (.d (.v (.int .i64 n3)))] = (
 bif (decide ((IntKind.wrap .i64 (n3 - (s1.size : Int))) < 0)) then (
 some ⟨(.d (.v (.int .i64 (-1)))), []⟩) else (
 some ⟨(.d (.v (.int .i64 (IntKind.wrap .i64 (n3 - (s1.size : Int)))))), []⟩)) := by kernel_rfl
/- loop.example/g00119/laws.szWeighS -/
def b151x0 : ACode := (
  .seq (.seq (.reg false [⟨some 12, .mv (.t 5), none⟩,
    ⟨some 13, .mv (.t 0), none⟩,
    ⟨some 14, .len false (.t 13), none⟩,
    ⟨some 15, .bin .lss (.t 12) (.t 14), none⟩]) (
  .cond (.t 15) (.skip) (.exit 0))) (
  .seq (.block 1 (.seq (.reg false [⟨some 18, .mv (.t 0), none⟩,
      ⟨some 19, .mv (.t 5), none⟩,
      ⟨some 20, .iad 2 (.t 18) (.t 19), none⟩,
      ⟨some 21, .load true [.s, (.i .i64)] (.t 20), none⟩,
      ⟨some 22, .mv (.t 1), none⟩,
      ⟨some 23, .call (.f 170) [.rd, .rd] false [.c (.i .i64)] [(.t 21), (.t 22)], none⟩,
      ⟨some 1, .mv (.t 23), none⟩]) (
    .seq (.reg false [⟨some 24, .mv (.t 1), none⟩,
      ⟨some 25, .bin .lss (.t 24) (.c (.v (.int .i64 0))), none⟩]) (
    .cond (.t 25) (.seq (.reg false [⟨some 4, .mv (.c (.v (.int .i64 (-1)))), none⟩]) (
      .ret)) (.skip))))) (
  .reg false [⟨some 16, .mv (.t 5), none⟩,
    ⟨some 17, .bin .add (.t 16) (.c (.v (.int .i64 1))), none⟩,
    ⟨some 5, .mv (.t 17), none⟩])))
def e151x0 : Exits := [(.ret, [(4, .c (.i .i64))]), ((.exit 0), [(1, .c (.i .i64))])]
noncomputable def l151x0 (T : Table) (k : Nat) := loopN (evalC ⟨T, []⟩ k b151x0 (Ex × List AV)) [0, 1, 5] e151x0
def a151 : AFun := ⟨[.rd, .rd], false, [.t 4], (
  .seq (.reg false [⟨some 4, .mv (.c (.v (.int .i64 0))), none⟩]) (
  .seq (.reg false [⟨some 6, .mv (.t 1), none⟩,
    ⟨some 7, .mv (.t 0), none⟩,
    ⟨some 8, .len false (.t 7), none⟩,
    ⟨some 9, .bin .sub (.t 6) (.t 8), none⟩,
    ⟨some 1, .mv (.t 9), none⟩]) (
  .seq (.seq (.reg false [⟨some 10, .mv (.t 1), none⟩,
    ⟨some 11, .bin .lss (.t 10) (.c (.v (.int .i64 0))), none⟩]) (
  .cond (.t 11) (.seq (.reg false [⟨some 4, .mv (.c (.v (.int .i64 (-1)))), none⟩]) (
    .ret)) (.skip))) (
  .seq (.seq (.reg false [⟨some 5, .mv (.c (.v (.int .i64 0))), none⟩]) (
  .block 0 (.loop [0, 1, 5] e151x0 b151x0))) (
  .seq (.reg false [⟨some 26, .mv (.t 1), none⟩,
    ⟨some 4, .mv (.t 26), none⟩]) (
  .ret))))))⟩
theorem l151x0s (T : Table) (k n : Nat) (l3 : Rows) (n4 : Int) (n5 : Int) : l151x0 T k (n + 1) [(.fz 2 l3), (.v (.int .i64 n4)), (.v (.int .i64 n5))] = (
 bif (decide (n5 < (l3.length : Int))) then (
 tst (decide (0 ≤ n5)) (
 look l3 (Int.toNat n5) fun r6 =>
 cS r6 0 fun s7 =>
 cI .i64 r6 1 fun n8 =>
 callT T 170 [(.g [(.v (.string s7)), (.v (.int .i64 n8))]), (.d (.v (.int .i64 n4)))] fun o9 =>
 oD o9.res fun d10 =>
 dI .i64 d10 fun n11 =>
 bif (decide (n11 < 0)) then (
 some (.ret, [(.v (.int .i64 (-1)))])) else (
 l151x0 T k n [(.fz 2 l3), (.v (.int .i64 n11)), (.v (.int .i64 (IntKind.wrap .i64 (n5 + 1))))]))) else (
 some ((.exit 0), [(.v (.int .i64 n4))]))) := by kernel_rfl
theorem a151q (T : Table) (k : Nat) (l1 : Rows) (n2 : Int) : evalF T k a151 [(.d (.s 2 l1)), (.d (.v (.int .i64 n2)))] = (
 bif (decide ((IntKind.wrap .i64 (n2 - (l1.length : Int))) < 0)) then (
 some ⟨(.d (.v (.int .i64 (-1)))), []⟩) else (
 aft (l151x0 T k k [(.fz 2 l1), (.v (.int .i64 (IntKind.wrap .i64 (n2 - (l1.length : Int))))), (.v (.int .i64 0))]) fun e12 ys13 =>
 bif e12.same .ret then (
 aV ys13 0 fun x14 =>
 aI .i64 x14 fun n15 =>
 some ⟨(.d (.v (.int .i64 n15))), []⟩) else (
 bif e12.same (.exit 0) then (
 aV ys13 0 fun x16 =>
 aI .i64 x16 fun n17 =>
 some ⟨(.d (.v (.int .i64 n17))), []⟩) else (
 none)))) := by kernel_rfl
/- loop.example/g00119/laws.szWant -/

def a128 : AFun := ⟨[.rd, .rd], false, [.t 4], (
  .seq (.reg false [⟨some 2, .box (.t 0), none⟩,
    ⟨some 4, .mv (.c (.v (.int .i64 0))), none⟩]) (
  .seq (.reg false [⟨some 5, .fad 1 (.t 2), none⟩,
    ⟨some 6, .load false [(.sl 3)] (.t 5), none⟩,
    ⟨some 7, .mv (.t 1), none⟩,
    ⟨some 8, .call (.f 150) [.rd, .rd] false [.c (.i .i64)] [(.t 6), (.t 7)], none⟩,
    ⟨some 1, .mv (.t 8), none⟩]) (
  .seq (.seq (.reg false [⟨some 9, .mv (.t 1), none⟩,
    ⟨some 10, .bin .lss (.t 9) (.c (.v (.int .i64 0))), none⟩]) (
  .cond (.t 10) (.seq (.reg false [⟨some 4, .mv (.c (.v (.int .i64 (-1)))), none⟩]) (
    .ret)) (.skip))) (
  .seq (.reg false [⟨some 11, .fad 2 (.t 2), none⟩,
    ⟨some 12, .load false [(.sl 1)] (.t 11), none⟩,
    ⟨some 13, .mv (.t 1), none⟩,
    ⟨some 14, .call (.f 51) [.rd, .rd] false [.c (.i .i64)] [(.t 12), (.t 13)], none⟩,
    ⟨some 1, .mv (.t 14), none⟩]) (
  .seq (.seq (.reg false [⟨some 15, .mv (.t 1), none⟩,
    ⟨some 16, .bin .lss (.t 15) (.c (.v (.int .i64 0))), none⟩]) (
  .cond (.t 16) (.seq (.reg false [⟨some 4, .mv (.c (.v (.int .i64 (-1)))), none⟩]) (
    .ret)) (.skip))) (
  .seq (.reg false [⟨some 17, .fad 3 (.t 2), none⟩,
    ⟨some 18, .load false [(.sl 2)] (.t 17), none⟩,
    ⟨some 19, .mv (.t 1), none⟩,
    ⟨some 20, .call (.f 151) [.rd, .rd] false [.c (.i .i64)] [(.t 18), (.t 19)], none⟩,
    ⟨some 1, .mv (.t 20), none⟩]) (
  .seq (.seq (.reg false [⟨some 21, .mv (.t 1), none⟩,
    ⟨some 22, .bin .lss (.t 21) (.c (.v (.int .i64 0))), none⟩]) (
  .cond (.t 22) (.seq (.reg false [⟨some 4, .mv (.c (.v (.int .i64 (-1)))), none⟩]) (
    .ret)) (.skip))) (
  .seq (.reg false [⟨some 23, .mv (.t 1), none⟩,
    ⟨some 4, .mv (.t 23), none⟩]) (
  .ret)))))))))⟩

theorem a128q (T : Table) (k : Nat) (n1 : Int) (l2 : Rows) (l3 : Rows) (l4 : Rows) (n5 : Int) : evalF T k a128 [(.g [(.v (.int .i64 n1)), (.s 3 l2), (.s 1 l3), (.s 2 l4)]), (.d (.v (.int .i64 n5)))] = (
 callT T 150 [(.d (.s 3 l2)), (.d (.v (.int .i64 n5)))] fun o6 =>
 oD o6.res fun d7 =>
 dI .i64 d7 fun n8 =>
 bif (decide (n8 < 0)) then (
 some ⟨(.d (.v (.int .i64 (-1)))), []⟩) else (
 callT T 51 [(.d (.s 1 l3)), (.d (.v (.int .i64 n8)))] fun o9 =>
 oD o9.res fun d10 =>
 dI .i64 d10 fun n11 =>
 bif (decide (n11 < 0)) then (
 some ⟨(.d (.v (.int .i64 (-1)))), []⟩) else (
 callT T 151 [(.d (.s 2 l4)), (.d (.v (.int .i64 n11)))] fun o12 =>
 oD o12.res fun d13 =>
 dI .i64 d13 fun n14 =>
 bif (decide (n14 < 0)) then (
 some ⟨(.d (.v (.int .i64 (-1)))), []⟩) else (
 some ⟨(.d (.v (.int .i64 n14))), []⟩)))) := by kernel_rfl
/- loop.example/g00119/laws.szOp -/

def a184 : AFun := ⟨[.rd, .rd], false, [.t 4], (
  .seq (.reg false [⟨some 2, .box (.t 0), none⟩,
    ⟨some 4, .mv (.c (.v (.int .i64 0))), none⟩]) (
  .seq (.reg false [⟨some 5, .fad 1 (.t 2), none⟩,
    ⟨some 6, .load false [(.sl 1)] (.t 5), none⟩,
    ⟨some 7, .mv (.t 1), none⟩,
    ⟨some 8, .call (.f 51) [.rd, .rd] false [.c (.i .i64)] [(.t 6), (.t 7)], none⟩,
    ⟨some 1, .mv (.t 8), none⟩]) (
  .seq (.seq (.reg false [⟨some 9, .mv (.t 1), none⟩,
    ⟨some 10, .bin .lss (.t 9) (.c (.v (.int .i64 0))), none⟩]) (
  .cond (.t 10) (.seq (.reg false [⟨some 4, .mv (.c (.v (.int .i64 (-1)))), none⟩]) (
    .ret)) (.skip))) (
  .seq (.reg false [⟨some 11, .fad 2 (.t 2), none⟩,
    ⟨some 12, .load true [(.i .i64), .s, (.i .i64), (.sl 1), (.sl 5)] (.t 11), none⟩,
    ⟨some 13, .mv (.t 1), none⟩,
    ⟨some 14, .call (.f 121) [.rd, .rd] false [.c (.i .i64)] [(.t 12), (.t 13)], none⟩,
    ⟨some 1, .mv (.t 14), none⟩]) (
  .seq (.seq (.reg false [⟨some 15, .mv (.t 1), none⟩,
    ⟨some 16, .bin .lss (.t 15) (.c (.v (.int .i64 0))), none⟩]) (
  .cond (.t 16) (.seq (.reg false [⟨some 4, .mv (.c (.v (.int .i64 (-1)))), none⟩]) (
    .ret)) (.skip))) (
  .seq (.reg false [⟨some 17, .mv (.t 1), none⟩,
    ⟨some 4, .mv (.t 17), none⟩]) (
  .ret)))))))⟩

theorem a184q (T : Table) (k : Nat) (n1 : Int) (l2 : Rows) (n3 : Int) (s4 : ByteArray) (n5 : Int) (l6 : Rows) (l7 : Rows) (n8 : Int) : evalF T k a184 [(.g [(.v (.int .i64 n1)), (.s 1 l2), (.v (.int .i64 n3)), (.v (.string s4)), (.v (.int .i64 n5)), (.s 1 l6), (.s 5 l7)]), (.d (.v (.int .i64 n8)))] = (
 callT T 51 [(.d (.s 1 l2)), (.d (.v (.int .i64 n8)))] fun o9 =>
 oD o9.res fun d10 =>
 dI .i64 d10 fun n11 =>
 bif (decide (n11 < 0)) then (
 some ⟨(.d (.v (.int .i64 (-1)))), []⟩) else (
 callT T 121 [(.g [(.v (.int .i64 n3)), (.v (.string s4)), (.v (.int .i64 n5)), (.s 1 l6), (.s 5 l7)]), (.d (.v (.int .i64 n11)))] fun o12 =>
 oD o12.res fun d13 =>
 dI .i64 d13 fun n14 =>
 bif (decide (n14 < 0)) then (
 some ⟨(.d (.v (.int .i64 (-1)))), []⟩) else (
 some ⟨(.d (.v (.int .i64 n14))), []⟩))) := by kernel_rfl
/- loop.example/g00119/laws.szOpS -/
def b171x0 : ACode := (
  .seq (.seq (.reg false [⟨some 12, .mv (.t 5), none⟩,
    ⟨some 13, .mv (.t 0), none⟩,
    ⟨some 14, .len false (.t 13), none⟩,
    ⟨some 15, .bin .lss (.t 12) (.t 14), none⟩]) (
  .cond (.t 15) (.skip) (.exit 0))) (
  .seq (.block 1 (.seq (.reg false [⟨some 18, .mv (.t 0), none⟩,
      ⟨some 19, .mv (.t 5), none⟩,
      ⟨some 20, .iad 7 (.t 18) (.t 19), none⟩,
      ⟨some 21, .load true [(.i .i64), (.sl 1), (.i .i64), .s, (.i .i64), (.sl 1), (.sl 5)] (.t 20), none⟩,
      ⟨some 22, .mv (.t 1), none⟩,
      ⟨some 23, .call (.f 184) [.rd, .rd] false [.c (.i .i64)] [(.t 21), (.t 22)], none⟩,
      ⟨some 1, .mv (.t 23), none⟩]) (
    .seq (.reg false [⟨some 24, .mv (.t 1), none⟩,
      ⟨some 25, .bin .lss (.t 24) (.c (.v (.int .i64 0))), none⟩]) (
    .cond (.t 25) (.seq (.reg false [⟨some 4, .mv (.c (.v (.int .i64 (-1)))), none⟩]) (
      .ret)) (.skip))))) (
  .reg false [⟨some 16, .mv (.t 5), none⟩,
    ⟨some 17, .bin .add (.t 16) (.c (.v (.int .i64 1))), none⟩,
    ⟨some 5, .mv (.t 17), none⟩])))
def e171x0 : Exits := [(.ret, [(4, .c (.i .i64))]), ((.exit 0), [(1, .c (.i .i64))])]
noncomputable def l171x0 (T : Table) (k : Nat) := loopN (evalC ⟨T, []⟩ k b171x0 (Ex × List AV)) [0, 1, 5] e171x0
def a171 : AFun := ⟨[.rd, .rd], false, [.t 4], (
  .seq (.reg false [⟨some 4, .mv (.c (.v (.int .i64 0))), none⟩]) (
  .seq (.reg false [⟨some 6, .mv (.t 1), none⟩,
    ⟨some 7, .mv (.t 0), none⟩,
    ⟨some 8, .len false (.t 7), none⟩,
    ⟨some 9, .bin .sub (.t 6) (.t 8), none⟩,
    ⟨some 1, .mv (.t 9), none⟩]) (
  .seq (.seq (.reg false [⟨some 10, .mv (.t 1), none⟩,
    ⟨some 11, .bin .lss (.t 10) (.c (.v (.int .i64 0))), none⟩]) (
  .cond (.t 11) (.seq (.reg false [⟨some 4, .mv (.c (.v (.int .i64 (-1)))), none⟩]) (
    .ret)) (.skip))) (
  .seq (.seq (.reg false [⟨some 5, .mv (.c (.v (.int .i64 0))), none⟩]) (
  .block 0 (.loop [0, 1, 5] e171x0 b171x0))) (
  .seq (.reg false [⟨some 26, .mv (.t 1), none⟩,
    ⟨some 4, .mv (.t 26), none⟩]) (
  .ret))))))⟩
theorem l171x0s (T : Table) (k n : Nat) (l3 : Rows) (n4 : Int) (n5 : Int) : l171x0 T k (n + 1) [(.fz 7 l3), (.v (.int .i64 n4)), (.v (.int .i64 n5))] = (
 bif (decide (n5 < (l3.length : Int))) then (
 tst (decide (0 ≤ n5)) (
 look l3 (Int.toNat n5) fun r6 =>
 cI .i64 r6 0 fun n7 =>
 cL 1 r6 1 fun l8 =>
 cI .i64 r6 2 fun n9 =>
 cS r6 3 fun s10 =>
 cI .i64 r6 4 fun n11 =>
 cL 1 r6 5 fun l12 =>
 cL 5 r6 6 fun l13 =>
 callT T 184 [(.g [(.v (.int .i64 n7)), (.s 1 l8), (.v (.int .i64 n9)), (.v (.string s10)), (.v (.int .i64 n11)), (.s 1 l12), (.s 5 l13)]), (.d (.v (.int .i64 n4)))] fun o14 =>
 oD o14.res fun d15 =>
 dI .i64 d15 fun n16 =>
 bif (decide (n16 < 0)) then (
 some (.ret, [(.v (.int .i64 (-1)))])) else (
 l171x0 T k n [(.fz 7 l3), (.v (.int .i64 n16)), (.v (.int .i64 (IntKind.wrap .i64 (n5 + 1))))]))) else (
 some ((.exit 0), [(.v (.int .i64 n4))]))) := by kernel_rfl
theorem a171q (T : Table) (k : Nat) (l1 : Rows) (n2 : Int) : evalF T k a171 [(.d (.s 7 l1)), (.d (.v (.int .i64 n2)))] = (
 bif (decide ((IntKind.wrap .i64 (n2 - (l1.length : Int))) < 0)) then (
 some ⟨(.d (.v (.int .i64 (-1)))), []⟩) else (
 aft (l171x0 T k k [(.fz 7 l1), (.v (.int .i64 (IntKind.wrap .i64 (n2 - (l1.length : Int))))), (.v (.int .i64 0))]) fun e17 ys18 =>
 bif e17.same .ret then (
 aV ys18 0 fun x19 =>
 aI .i64 x19 fun n20 =>
 some ⟨(.d (.v (.int .i64 n20))), []⟩) else (
 bif e17.same (.exit 0) then (
 aV ys18 0 fun x21 =>
 aI .i64 x21 fun n22 =>
 some ⟨(.d (.v (.int .i64 n22))), []⟩) else (
 none)))) := by kernel_rfl
/- loop.example/g00119/laws.szOver -/

def a152 : AFun := ⟨[.rd, .rd], false, [.t 4], (
  .seq (.reg false [⟨some 2, .box (.t 0), none⟩,
    ⟨some 4, .mv (.c (.v (.int .i64 0))), none⟩]) (
  .seq (.reg false [⟨some 5, .mv (.t 1), none⟩,
    ⟨some 6, .fad 0 (.t 2), none⟩,
    ⟨some 7, .load false [.s] (.t 6), none⟩,
    ⟨some 8, .len true (.t 7), none⟩,
    ⟨some 9, .bin .sub (.t 5) (.t 8), none⟩,
    ⟨some 1, .mv (.t 9), none⟩]) (
  .seq (.seq (.reg false [⟨some 10, .mv (.t 1), none⟩,
    ⟨some 11, .bin .lss (.t 10) (.c (.v (.int .i64 0))), none⟩]) (
  .cond (.t 11) (.seq (.reg false [⟨some 4, .mv (.c (.v (.int .i64 (-1)))), none⟩]) (
    .ret)) (.skip))) (
  .seq (.reg false [⟨some 12, .fad 1 (.t 2), none⟩,
    ⟨some 13, .load false [(.sl 7)] (.t 12), none⟩,
    ⟨some 14, .mv (.t 1), none⟩,
    ⟨some 15, .call (.f 171) [.rd, .rd] false [.c (.i .i64)] [(.t 13), (.t 14)], none⟩,
    ⟨some 1, .mv (.t 15), none⟩]) (
  .seq (.seq (.reg false [⟨some 16, .mv (.t 1), none⟩,
    ⟨some 17, .bin .lss (.t 16) (.c (.v (.int .i64 0))), none⟩]) (
  .cond (.t 17) (.seq (.reg false [⟨some 4, .mv (.c (.v (.int .i64 (-1)))), none⟩]) (
    .ret)) (.skip))) (
  .seq (.reg false [⟨some 18, .mv (.t 1), none⟩,
    ⟨some 4, .mv (.t 18), none⟩]) (
  .ret)))))))⟩

theorem a152q (T : Table) (k : Nat) (s1 : ByteArray) (l2 : Rows) (n3 : Int) : evalF T k a152 [(.g [(.v (.string s1)), (.s 7 l2)]), (.d (.v (.int .i64 n3)))] = (
 bif (decide ((IntKind.wrap .i64 (n3 - (s1.size : Int))) < 0)) then (
 some ⟨(.d (.v (.int .i64 (-1)))), []⟩) else (
 callT T 171 [(.d (.s 7 l2)), (.d (.v (.int .i64 (IntKind.wrap .i64 (n3 - (s1.size : Int))))))] fun o4 =>
 oD o4.res fun d5 =>
 dI .i64 d5 fun n6 =>
 bif (decide (n6 < 0)) then (
 some ⟨(.d (.v (.int .i64 (-1)))), []⟩) else (
 some ⟨(.d (.v (.int .i64 n6))), []⟩))) := by kernel_rfl
/- loop.example/g00119/laws.szOverS -/
def b129x0 : ACode := (
  .seq (.seq (.reg false [⟨some 12, .mv (.t 5), none⟩,
    ⟨some 13, .mv (.t 0), none⟩,
    ⟨some 14, .len false (.t 13), none⟩,
    ⟨some 15, .bin .lss (.t 12) (.t 14), none⟩]) (
  .cond (.t 15) (.skip) (.exit 0))) (
  .seq (.block 1 (.seq (.reg false [⟨some 18, .mv (.t 0), none⟩,
      ⟨some 19, .mv (.t 5), none⟩,
      ⟨some 20, .iad 2 (.t 18) (.t 19), none⟩,
      ⟨some 21, .load true [.s, (.sl 7)] (.t 20), none⟩,
      ⟨some 22, .mv (.t 1), none⟩,
      ⟨some 23, .call (.f 152) [.rd, .rd] false [.c (.i .i64)] [(.t 21), (.t 22)], none⟩,
      ⟨some 1, .mv (.t 23), none⟩]) (
    .seq (.reg false [⟨some 24, .mv (.t 1), none⟩,
      ⟨some 25, .bin .lss (.t 24) (.c (.v (.int .i64 0))), none⟩]) (
    .cond (.t 25) (.seq (.reg false [⟨some 4, .mv (.c (.v (.int .i64 (-1)))), none⟩]) (
      .ret)) (.skip))))) (
  .reg false [⟨some 16, .mv (.t 5), none⟩,
    ⟨some 17, .bin .add (.t 16) (.c (.v (.int .i64 1))), none⟩,
    ⟨some 5, .mv (.t 17), none⟩])))
def e129x0 : Exits := [(.ret, [(4, .c (.i .i64))]), ((.exit 0), [(1, .c (.i .i64))])]
noncomputable def l129x0 (T : Table) (k : Nat) := loopN (evalC ⟨T, []⟩ k b129x0 (Ex × List AV)) [0, 1, 5] e129x0
def a129 : AFun := ⟨[.rd, .rd], false, [.t 4], (
  .seq (.reg false [⟨some 4, .mv (.c (.v (.int .i64 0))), none⟩]) (
  .seq (.reg false [⟨some 6, .mv (.t 1), none⟩,
    ⟨some 7, .mv (.t 0), none⟩,
    ⟨some 8, .len false (.t 7), none⟩,
    ⟨some 9, .bin .sub (.t 6) (.t 8), none⟩,
    ⟨some 1, .mv (.t 9), none⟩]) (
  .seq (.seq (.reg false [⟨some 10, .mv (.t 1), none⟩,
    ⟨some 11, .bin .lss (.t 10) (.c (.v (.int .i64 0))), none⟩]) (
  .cond (.t 11) (.seq (.reg false [⟨some 4, .mv (.c (.v (.int .i64 (-1)))), none⟩]) (
    .ret)) (.skip))) (
  .seq (.seq (.reg false [⟨some 5, .mv (.c (.v (.int .i64 0))), none⟩]) (
  .block 0 (.loop [0, 1, 5] e129x0 b129x0))) (
  .seq (.reg false [⟨some 26, .mv (.t 1), none⟩,
    ⟨some 4, .mv (.t 26), none⟩]) (
  .ret))))))⟩
theorem l129x0s (T : Table) (k n : Nat) (l3 : Rows) (n4 : Int) (n5 : Int) : l129x0 T k (n + 1) [(.fz 2 l3), (.v (.int .i64 n4)), (.v (.int .i64 n5))] = (
 bif (decide (n5 < (l3.length : Int))) then (
 tst (decide (0 ≤ n5)) (
 look l3 (Int.toNat n5) fun r6 =>
 cS r6 0 fun s7 =>
 cL 7 r6 1 fun l8 =>
 callT T 152 [(.g [(.v (.string s7)), (.s 7 l8)]), (.d (.v (.int .i64 n4)))] fun o9 =>
 oD o9.res fun d10 =>
 dI .i64 d10 fun n11 =>
 bif (decide (n11 < 0)) then (
 some (.ret, [(.v (.int .i64 (-1)))])) else (
 l129x0 T k n [(.fz 2 l3), (.v (.int .i64 n11)), (.v (.int .i64 (IntKind.wrap .i64 (n5 + 1))))]))) else (
 some ((.exit 0), [(.v (.int .i64 n4))]))) := by kernel_rfl
theorem a129q (T : Table) (k : Nat) (l1 : Rows) (n2 : Int) : evalF T k a129 [(.d (.s 2 l1)), (.d (.v (.int .i64 n2)))] = (
 bif (decide ((IntKind.wrap .i64 (n2 - (l1.length : Int))) < 0)) then (
 some ⟨(.d (.v (.int .i64 (-1)))), []⟩) else (
 aft (l129x0 T k k [(.fz 2 l1), (.v (.int .i64 (IntKind.wrap .i64 (n2 - (l1.length : Int))))), (.v (.int .i64 0))]) fun e12 ys13 =>
 bif e12.same .ret then (
 aV ys13 0 fun x14 =>
 aI .i64 x14 fun n15 =>
 some ⟨(.d (.v (.int .i64 n15))), []⟩) else (
 bif e12.same (.exit 0) then (
 aV ys13 0 fun x16 =>
 aI .i64 x16 fun n17 =>
 some ⟨(.d (.v (.int .i64 n17))), []⟩) else (
 none)))) := by kernel_rfl
/- loop.example/g00119/laws.szJob -/

def a95 : AFun := ⟨[.rd, .rd], false, [.t 4], (
  .seq (.reg false [⟨some 2, .box (.t 0), none⟩,
    ⟨some 4, .mv (.c (.v (.int .i64 0))), none⟩]) (
  .seq (.reg false [⟨some 5, .mv (.t 1), none⟩,
    ⟨some 6, .fad 1 (.t 2), none⟩,
    ⟨some 7, .load false [.s] (.t 6), none⟩,
    ⟨some 8, .len true (.t 7), none⟩,
    ⟨some 9, .bin .sub (.t 5) (.t 8), none⟩,
    ⟨some 1, .mv (.t 9), none⟩]) (
  .seq (.seq (.reg false [⟨some 10, .mv (.t 1), none⟩,
    ⟨some 11, .bin .lss (.t 10) (.c (.v (.int .i64 0))), none⟩]) (
  .cond (.t 11) (.seq (.reg false [⟨some 4, .mv (.c (.v (.int .i64 (-1)))), none⟩]) (
    .ret)) (.skip))) (
  .seq (.reg false [⟨some 12, .fad 2 (.t 2), none⟩,
    ⟨some 13, .load true [(.i .i64), (.sl 3), (.sl 1), (.sl 2)] (.t 12), none⟩,
    ⟨some 14, .mv (.t 1), none⟩,
    ⟨some 15, .call (.f 128) [.rd, .rd] false [.c (.i .i64)] [(.t 13), (.t 14)], none⟩,
    ⟨some 1, .mv (.t 15), none⟩]) (
  .seq (.seq (.reg false [⟨some 16, .mv (.t 1), none⟩,
    ⟨some 17, .bin .lss (.t 16) (.c (.v (.int .i64 0))), none⟩]) (
  .cond (.t 17) (.seq (.reg false [⟨some 4, .mv (.c (.v (.int .i64 (-1)))), none⟩]) (
    .ret)) (.skip))) (
  .seq (.reg false [⟨some 18, .fad 6 (.t 2), none⟩,
    ⟨some 19, .load true [(.i .i64), .s, (.i .i64), (.sl 1), (.sl 5)] (.t 18), none⟩,
    ⟨some 20, .mv (.t 1), none⟩,
    ⟨some 21, .call (.f 121) [.rd, .rd] false [.c (.i .i64)] [(.t 19), (.t 20)], none⟩,
    ⟨some 1, .mv (.t 21), none⟩]) (
  .seq (.seq (.reg false [⟨some 22, .mv (.t 1), none⟩,
    ⟨some 23, .bin .lss (.t 22) (.c (.v (.int .i64 0))), none⟩]) (
  .cond (.t 23) (.seq (.reg false [⟨some 4, .mv (.c (.v (.int .i64 (-1)))), none⟩]) (
    .ret)) (.skip))) (
  .seq (.reg false [⟨some 24, .fad 11 (.t 2), none⟩,
    ⟨some 25, .load false [(.sl 2)] (.t 24), none⟩,
    ⟨some 26, .mv (.t 1), none⟩,
    ⟨some 27, .call (.f 129) [.rd, .rd] false [.c (.i .i64)] [(.t 25), (.t 26)], none⟩,
    ⟨some 1, .mv (.t 27), none⟩]) (
  .seq (.seq (.reg false [⟨some 28, .mv (.t 1), none⟩,
    ⟨some 29, .bin .lss (.t 28) (.c (.v (.int .i64 0))), none⟩]) (
  .cond (.t 29) (.seq (.reg false [⟨some 4, .mv (.c (.v (.int .i64 (-1)))), none⟩]) (
    .ret)) (.skip))) (
  .seq (.reg false [⟨some 30, .mv (.t 1), none⟩,
    ⟨some 4, .mv (.t 30), none⟩]) (
  .ret)))))))))))⟩

theorem a95q (T : Table) (k : Nat) (n1 : Int) (s2 : ByteArray) (n3 : Int) (l4 : Rows) (l5 : Rows) (l6 : Rows) (n7 : Int) (s8 : ByteArray) (n9 : Int) (l10 : Rows) (l11 : Rows) (l12 : Rows) (b13 : Bool) (n14 : Int) : evalF T k a95 [(.g [(.v (.int .i64 n1)), (.v (.string s2)), (.v (.int .i64 n3)), (.s 3 l4), (.s 1 l5), (.s 2 l6), (.v (.int .i64 n7)), (.v (.string s8)), (.v (.int .i64 n9)), (.s 1 l10), (.s 5 l11), (.s 2 l12), (.v (.bool b13))]), (.d (.v (.int .i64 n14)))] = (
 bif (decide ((IntKind.wrap .i64 (n14 - (s2.size : Int))) < 0)) then (
 some ⟨(.d (.v (.int .i64 (-1)))), []⟩) else (
 callT T 128 [(.g [(.v (.int .i64 n3)), (.s 3 l4), (.s 1 l5), (.s 2 l6)]), (.d (.v (.int .i64 (IntKind.wrap .i64 (n14 - (s2.size : Int))))))] fun o15 =>
 oD o15.res fun d16 =>
 dI .i64 d16 fun n17 =>
 bif (decide (n17 < 0)) then (
 some ⟨(.d (.v (.int .i64 (-1)))), []⟩) else (
 callT T 121 [(.g [(.v (.int .i64 n7)), (.v (.string s8)), (.v (.int .i64 n9)), (.s 1 l10), (.s 5 l11)]), (.d (.v (.int .i64 n17)))] fun o18 =>
 oD o18.res fun d19 =>
 dI .i64 d19 fun n20 =>
 bif (decide (n20 < 0)) then (
 some ⟨(.d (.v (.int .i64 (-1)))), []⟩) else (
 callT T 129 [(.d (.s 2 l12)), (.d (.v (.int .i64 n20)))] fun o21 =>
 oD o21.res fun d22 =>
 dI .i64 d22 fun n23 =>
 bif (decide (n23 < 0)) then (
 some ⟨(.d (.v (.int .i64 (-1)))), []⟩) else (
 some ⟨(.d (.v (.int .i64 n23))), []⟩))))) := by kernel_rfl
/- loop.example/g00119/laws.szJobS -/
def b48x0 : ACode := (
  .seq (.seq (.reg false [⟨some 12, .mv (.t 5), none⟩,
    ⟨some 13, .mv (.t 0), none⟩,
    ⟨some 14, .len false (.t 13), none⟩,
    ⟨some 15, .bin .lss (.t 12) (.t 14), none⟩]) (
  .cond (.t 15) (.skip) (.exit 0))) (
  .seq (.block 1 (.seq (.reg false [⟨some 18, .mv (.t 0), none⟩,
      ⟨some 19, .mv (.t 5), none⟩,
      ⟨some 20, .iad 13 (.t 18) (.t 19), none⟩,
      ⟨some 21, .load true [(.i .i64), .s, (.i .i64), (.sl 3), (.sl 1), (.sl 2), (.i .i64), .s, (.i .i64), (.sl 1), (.sl 5), (.sl 2), .b] (.t 20), none⟩,
      ⟨some 22, .mv (.t 1), none⟩,
      ⟨some 23, .call (.f 95) [.rd, .rd] false [.c (.i .i64)] [(.t 21), (.t 22)], none⟩,
      ⟨some 1, .mv (.t 23), none⟩]) (
    .seq (.reg false [⟨some 24, .mv (.t 1), none⟩,
      ⟨some 25, .bin .lss (.t 24) (.c (.v (.int .i64 0))), none⟩]) (
    .cond (.t 25) (.seq (.reg false [⟨some 4, .mv (.c (.v (.int .i64 (-1)))), none⟩]) (
      .ret)) (.skip))))) (
  .reg false [⟨some 16, .mv (.t 5), none⟩,
    ⟨some 17, .bin .add (.t 16) (.c (.v (.int .i64 1))), none⟩,
    ⟨some 5, .mv (.t 17), none⟩])))
def e48x0 : Exits := [(.ret, [(4, .c (.i .i64))]), ((.exit 0), [(1, .c (.i .i64))])]
noncomputable def l48x0 (T : Table) (k : Nat) := loopN (evalC ⟨T, []⟩ k b48x0 (Ex × List AV)) [0, 1, 5] e48x0
def a48 : AFun := ⟨[.rd, .rd], false, [.t 4], (
  .seq (.reg false [⟨some 4, .mv (.c (.v (.int .i64 0))), none⟩]) (
  .seq (.reg false [⟨some 6, .mv (.t 1), none⟩,
    ⟨some 7, .mv (.t 0), none⟩,
    ⟨some 8, .len false (.t 7), none⟩,
    ⟨some 9, .bin .sub (.t 6) (.t 8), none⟩,
    ⟨some 1, .mv (.t 9), none⟩]) (
  .seq (.seq (.reg false [⟨some 10, .mv (.t 1), none⟩,
    ⟨some 11, .bin .lss (.t 10) (.c (.v (.int .i64 0))), none⟩]) (
  .cond (.t 11) (.seq (.reg false [⟨some 4, .mv (.c (.v (.int .i64 (-1)))), none⟩]) (
    .ret)) (.skip))) (
  .seq (.seq (.reg false [⟨some 5, .mv (.c (.v (.int .i64 0))), none⟩]) (
  .block 0 (.loop [0, 1, 5] e48x0 b48x0))) (
  .seq (.reg false [⟨some 26, .mv (.t 1), none⟩,
    ⟨some 4, .mv (.t 26), none⟩]) (
  .ret))))))⟩
theorem l48x0s (T : Table) (k n : Nat) (l3 : Rows) (n4 : Int) (n5 : Int) : l48x0 T k (n + 1) [(.fz 13 l3), (.v (.int .i64 n4)), (.v (.int .i64 n5))] = (
 bif (decide (n5 < (l3.length : Int))) then (
 tst (decide (0 ≤ n5)) (
 look l3 (Int.toNat n5) fun r6 =>
 cI .i64 r6 0 fun n7 =>
 cS r6 1 fun s8 =>
 cI .i64 r6 2 fun n9 =>
 cL 3 r6 3 fun l10 =>
 cL 1 r6 4 fun l11 =>
 cL 2 r6 5 fun l12 =>
 cI .i64 r6 6 fun n13 =>
 cS r6 7 fun s14 =>
 cI .i64 r6 8 fun n15 =>
 cL 1 r6 9 fun l16 =>
 cL 5 r6 10 fun l17 =>
 cL 2 r6 11 fun l18 =>
 cB r6 12 fun b19 =>
 callT T 95 [(.g [(.v (.int .i64 n7)), (.v (.string s8)), (.v (.int .i64 n9)), (.s 3 l10), (.s 1 l11), (.s 2 l12), (.v (.int .i64 n13)), (.v (.string s14)), (.v (.int .i64 n15)), (.s 1 l16), (.s 5 l17), (.s 2 l18), (.v (.bool b19))]), (.d (.v (.int .i64 n4)))] fun o20 =>
 oD o20.res fun d21 =>
 dI .i64 d21 fun n22 =>
 bif (decide (n22 < 0)) then (
 some (.ret, [(.v (.int .i64 (-1)))])) else (
 l48x0 T k n [(.fz 13 l3), (.v (.int .i64 n22)), (.v (.int .i64 (IntKind.wrap .i64 (n5 + 1))))]))) else (
 some ((.exit 0), [(.v (.int .i64 n4))]))) := by kernel_rfl
theorem a48q (T : Table) (k : Nat) (l1 : Rows) (n2 : Int) : evalF T k a48 [(.d (.s 13 l1)), (.d (.v (.int .i64 n2)))] = (
 bif (decide ((IntKind.wrap .i64 (n2 - (l1.length : Int))) < 0)) then (
 some ⟨(.d (.v (.int .i64 (-1)))), []⟩) else (
 aft (l48x0 T k k [(.fz 13 l1), (.v (.int .i64 (IntKind.wrap .i64 (n2 - (l1.length : Int))))), (.v (.int .i64 0))]) fun e23 ys24 =>
 bif e23.same .ret then (
 aV ys24 0 fun x25 =>
 aI .i64 x25 fun n26 =>
 some ⟨(.d (.v (.int .i64 n26))), []⟩) else (
 bif e23.same (.exit 0) then (
 aV ys24 0 fun x27 =>
 aI .i64 x27 fun n28 =>
 some ⟨(.d (.v (.int .i64 n28))), []⟩) else (
 none)))) := by kernel_rfl
/- loop.example/g00119/laws.szLabel -/

def a172 : AFun := ⟨[.rd, .rd], false, [.t 4], (
  .seq (.reg false [⟨some 2, .box (.t 0), none⟩,
    ⟨some 4, .mv (.c (.v (.int .i64 0))), none⟩]) (
  .seq (.reg false [⟨some 5, .mv (.t 1), none⟩,
    ⟨some 6, .fad 0 (.t 2), none⟩,
    ⟨some 7, .load false [.s] (.t 6), none⟩,
    ⟨some 8, .len true (.t 7), none⟩,
    ⟨some 9, .bin .sub (.t 5) (.t 8), none⟩,
    ⟨some 1, .mv (.t 9), none⟩]) (
  .seq (.seq (.reg false [⟨some 10, .mv (.t 1), none⟩,
    ⟨some 11, .bin .lss (.t 10) (.c (.v (.int .i64 0))), none⟩]) (
  .cond (.t 11) (.seq (.reg false [⟨some 4, .mv (.c (.v (.int .i64 (-1)))), none⟩]) (
    .ret)) (.skip))) (
  .seq (.reg false [⟨some 12, .mv (.t 1), none⟩,
    ⟨some 13, .fad 1 (.t 2), none⟩,
    ⟨some 14, .load false [.s] (.t 13), none⟩,
    ⟨some 15, .len true (.t 14), none⟩,
    ⟨some 16, .bin .sub (.t 12) (.t 15), none⟩,
    ⟨some 1, .mv (.t 16), none⟩]) (
  .seq (.seq (.reg false [⟨some 17, .mv (.t 1), none⟩,
    ⟨some 18, .bin .lss (.t 17) (.c (.v (.int .i64 0))), none⟩]) (
  .cond (.t 18) (.seq (.reg false [⟨some 4, .mv (.c (.v (.int .i64 (-1)))), none⟩]) (
    .ret)) (.skip))) (
  .seq (.reg false [⟨some 19, .mv (.t 1), none⟩,
    ⟨some 4, .mv (.t 19), none⟩]) (
  .ret)))))))⟩

theorem a172q (T : Table) (k : Nat) (s1 : ByteArray) (s2 : ByteArray) (n3 : Int) : evalF T k a172 [(.g [(.v (.string s1)), (.v (.string s2))]), (.d (.v (.int .i64 n3)))] = (
 bif (decide ((IntKind.wrap .i64 (n3 - (s1.size : Int))) < 0)) then (
 some ⟨(.d (.v (.int .i64 (-1)))), []⟩) else (
 bif (decide ((IntKind.wrap .i64 ((IntKind.wrap .i64 (n3 - (s1.size : Int))) - (s2.size : Int))) < 0)) then (
 some ⟨(.d (.v (.int .i64 (-1)))), []⟩) else (
 some ⟨(.d (.v (.int .i64 (IntKind.wrap .i64 ((IntKind.wrap .i64 (n3 - (s1.size : Int))) - (s2.size : Int)))))), []⟩))) := by kernel_rfl
/- loop.example/g00119/laws.szLabelS -/
def b153x0 : ACode := (
  .seq (.seq (.reg false [⟨some 12, .mv (.t 5), none⟩,
    ⟨some 13, .mv (.t 0), none⟩,
    ⟨some 14, .len false (.t 13), none⟩,
    ⟨some 15, .bin .lss (.t 12) (.t 14), none⟩]) (
  .cond (.t 15) (.skip) (.exit 0))) (
  .seq (.block 1 (.seq (.reg false [⟨some 18, .mv (.t 0), none⟩,
      ⟨some 19, .mv (.t 5), none⟩,
      ⟨some 20, .iad 2 (.t 18) (.t 19), none⟩,
      ⟨some 21, .load true [.s, .s] (.t 20), none⟩,
      ⟨some 22, .mv (.t 1), none⟩,
      ⟨some 23, .call (.f 172) [.rd, .rd] false [.c (.i .i64)] [(.t 21), (.t 22)], none⟩,
      ⟨some 1, .mv (.t 23), none⟩]) (
    .seq (.reg false [⟨some 24, .mv (.t 1), none⟩,
      ⟨some 25, .bin .lss (.t 24) (.c (.v (.int .i64 0))), none⟩]) (
    .cond (.t 25) (.seq (.reg false [⟨some 4, .mv (.c (.v (.int .i64 (-1)))), none⟩]) (
      .ret)) (.skip))))) (
  .reg false [⟨some 16, .mv (.t 5), none⟩,
    ⟨some 17, .bin .add (.t 16) (.c (.v (.int .i64 1))), none⟩,
    ⟨some 5, .mv (.t 17), none⟩])))
def e153x0 : Exits := [(.ret, [(4, .c (.i .i64))]), ((.exit 0), [(1, .c (.i .i64))])]
noncomputable def l153x0 (T : Table) (k : Nat) := loopN (evalC ⟨T, []⟩ k b153x0 (Ex × List AV)) [0, 1, 5] e153x0
def a153 : AFun := ⟨[.rd, .rd], false, [.t 4], (
  .seq (.reg false [⟨some 4, .mv (.c (.v (.int .i64 0))), none⟩]) (
  .seq (.reg false [⟨some 6, .mv (.t 1), none⟩,
    ⟨some 7, .mv (.t 0), none⟩,
    ⟨some 8, .len false (.t 7), none⟩,
    ⟨some 9, .bin .sub (.t 6) (.t 8), none⟩,
    ⟨some 1, .mv (.t 9), none⟩]) (
  .seq (.seq (.reg false [⟨some 10, .mv (.t 1), none⟩,
    ⟨some 11, .bin .lss (.t 10) (.c (.v (.int .i64 0))), none⟩]) (
  .cond (.t 11) (.seq (.reg false [⟨some 4, .mv (.c (.v (.int .i64 (-1)))), none⟩]) (
    .ret)) (.skip))) (
  .seq (.seq (.reg false [⟨some 5, .mv (.c (.v (.int .i64 0))), none⟩]) (
  .block 0 (.loop [0, 1, 5] e153x0 b153x0))) (
  .seq (.reg false [⟨some 26, .mv (.t 1), none⟩,
    ⟨some 4, .mv (.t 26), none⟩]) (
  .ret))))))⟩
theorem l153x0s (T : Table) (k n : Nat) (l3 : Rows) (n4 : Int) (n5 : Int) : l153x0 T k (n + 1) [(.fz 2 l3), (.v (.int .i64 n4)), (.v (.int .i64 n5))] = (
 bif (decide (n5 < (l3.length : Int))) then (
 tst (decide (0 ≤ n5)) (
 look l3 (Int.toNat n5) fun r6 =>
 cS r6 0 fun s7 =>
 cS r6 1 fun s8 =>
 callT T 172 [(.g [(.v (.string s7)), (.v (.string s8))]), (.d (.v (.int .i64 n4)))] fun o9 =>
 oD o9.res fun d10 =>
 dI .i64 d10 fun n11 =>
 bif (decide (n11 < 0)) then (
 some (.ret, [(.v (.int .i64 (-1)))])) else (
 l153x0 T k n [(.fz 2 l3), (.v (.int .i64 n11)), (.v (.int .i64 (IntKind.wrap .i64 (n5 + 1))))]))) else (
 some ((.exit 0), [(.v (.int .i64 n4))]))) := by kernel_rfl
theorem a153q (T : Table) (k : Nat) (l1 : Rows) (n2 : Int) : evalF T k a153 [(.d (.s 2 l1)), (.d (.v (.int .i64 n2)))] = (
 bif (decide ((IntKind.wrap .i64 (n2 - (l1.length : Int))) < 0)) then (
 some ⟨(.d (.v (.int .i64 (-1)))), []⟩) else (
 aft (l153x0 T k k [(.fz 2 l1), (.v (.int .i64 (IntKind.wrap .i64 (n2 - (l1.length : Int))))), (.v (.int .i64 0))]) fun e12 ys13 =>
 bif e12.same .ret then (
 aV ys13 0 fun x14 =>
 aI .i64 x14 fun n15 =>
 some ⟨(.d (.v (.int .i64 n15))), []⟩) else (
 bif e12.same (.exit 0) then (
 aV ys13 0 fun x16 =>
 aI .i64 x16 fun n17 =>
 some ⟨(.d (.v (.int .i64 n17))), []⟩) else (
 none)))) := by kernel_rfl
/- loop.example/g00119/laws.szIsland -/

def a130 : AFun := ⟨[.rd, .rd], false, [.t 4], (
  .seq (.reg false [⟨some 2, .box (.t 0), none⟩,
    ⟨some 4, .mv (.c (.v (.int .i64 0))), none⟩]) (
  .seq (.reg false [⟨some 5, .mv (.t 1), none⟩,
    ⟨some 6, .fad 0 (.t 2), none⟩,
    ⟨some 7, .load false [.s] (.t 6), none⟩,
    ⟨some 8, .len true (.t 7), none⟩,
    ⟨some 9, .bin .sub (.t 5) (.t 8), none⟩,
    ⟨some 1, .mv (.t 9), none⟩]) (
  .seq (.seq (.reg false [⟨some 10, .mv (.t 1), none⟩,
    ⟨some 11, .bin .lss (.t 10) (.c (.v (.int .i64 0))), none⟩]) (
  .cond (.t 11) (.seq (.reg false [⟨some 4, .mv (.c (.v (.int .i64 (-1)))), none⟩]) (
    .ret)) (.skip))) (
  .seq (.reg false [⟨some 12, .fad 1 (.t 2), none⟩,
    ⟨some 13, .load false [(.sl 2)] (.t 12), none⟩,
    ⟨some 14, .mv (.t 1), none⟩,
    ⟨some 15, .call (.f 153) [.rd, .rd] false [.c (.i .i64)] [(.t 13), (.t 14)], none⟩,
    ⟨some 1, .mv (.t 15), none⟩]) (
  .seq (.seq (.reg false [⟨some 16, .mv (.t 1), none⟩,
    ⟨some 17, .bin .lss (.t 16) (.c (.v (.int .i64 0))), none⟩]) (
  .cond (.t 17) (.seq (.reg false [⟨some 4, .mv (.c (.v (.int .i64 (-1)))), none⟩]) (
    .ret)) (.skip))) (
  .seq (.reg false [⟨some 18, .fad 2 (.t 2), none⟩,
    ⟨some 19, .load false [(.sl 1)] (.t 18), none⟩,
    ⟨some 20, .mv (.t 1), none⟩,
    ⟨some 21, .call (.f 51) [.rd, .rd] false [.c (.i .i64)] [(.t 19), (.t 20)], none⟩,
    ⟨some 1, .mv (.t 21), none⟩]) (
  .seq (.seq (.reg false [⟨some 22, .mv (.t 1), none⟩,
    ⟨some 23, .bin .lss (.t 22) (.c (.v (.int .i64 0))), none⟩]) (
  .cond (.t 23) (.seq (.reg false [⟨some 4, .mv (.c (.v (.int .i64 (-1)))), none⟩]) (
    .ret)) (.skip))) (
  .seq (.reg false [⟨some 24, .mv (.t 1), none⟩,
    ⟨some 4, .mv (.t 24), none⟩]) (
  .ret)))))))))⟩

theorem a130q (T : Table) (k : Nat) (s1 : ByteArray) (l2 : Rows) (l3 : Rows) (n4 : Int) (n5 : Int) : evalF T k a130 [(.g [(.v (.string s1)), (.s 2 l2), (.s 1 l3), (.v (.int .i64 n4))]), (.d (.v (.int .i64 n5)))] = (
 bif (decide ((IntKind.wrap .i64 (n5 - (s1.size : Int))) < 0)) then (
 some ⟨(.d (.v (.int .i64 (-1)))), []⟩) else (
 callT T 153 [(.d (.s 2 l2)), (.d (.v (.int .i64 (IntKind.wrap .i64 (n5 - (s1.size : Int))))))] fun o6 =>
 oD o6.res fun d7 =>
 dI .i64 d7 fun n8 =>
 bif (decide (n8 < 0)) then (
 some ⟨(.d (.v (.int .i64 (-1)))), []⟩) else (
 callT T 51 [(.d (.s 1 l3)), (.d (.v (.int .i64 n8)))] fun o9 =>
 oD o9.res fun d10 =>
 dI .i64 d10 fun n11 =>
 bif (decide (n11 < 0)) then (
 some ⟨(.d (.v (.int .i64 (-1)))), []⟩) else (
 some ⟨(.d (.v (.int .i64 n11))), []⟩)))) := by kernel_rfl
/- loop.example/g00119/laws.szPost -/

def a96 : AFun := ⟨[.rd, .rd], false, [.t 4], (
  .seq (.reg false [⟨some 2, .box (.t 0), none⟩,
    ⟨some 4, .mv (.c (.v (.int .i64 0))), none⟩]) (
  .seq (.reg false [⟨some 5, .fad 0 (.t 2), none⟩,
    ⟨some 6, .load true [.s, (.sl 2), (.sl 1), (.i .i64)] (.t 5), none⟩,
    ⟨some 7, .mv (.t 1), none⟩,
    ⟨some 8, .call (.f 130) [.rd, .rd] false [.c (.i .i64)] [(.t 6), (.t 7)], none⟩,
    ⟨some 1, .mv (.t 8), none⟩]) (
  .seq (.seq (.reg false [⟨some 9, .mv (.t 1), none⟩,
    ⟨some 10, .bin .lss (.t 9) (.c (.v (.int .i64 0))), none⟩]) (
  .cond (.t 10) (.seq (.reg false [⟨some 4, .mv (.c (.v (.int .i64 (-1)))), none⟩]) (
    .ret)) (.skip))) (
  .seq (.reg false [⟨some 11, .mv (.t 1), none⟩,
    ⟨some 4, .mv (.t 11), none⟩]) (
  .ret)))))⟩

theorem a96q (T : Table) (k : Nat) (s1 : ByteArray) (l2 : Rows) (l3 : Rows) (n4 : Int) (n5 : Int) (n6 : Int) (n7 : Int) : evalF T k a96 [(.g [(.v (.string s1)), (.s 2 l2), (.s 1 l3), (.v (.int .i64 n4)), (.v (.int .i64 n5)), (.v (.int .i64 n6))]), (.d (.v (.int .i64 n7)))] = (
 callT T 130 [(.g [(.v (.string s1)), (.s 2 l2), (.s 1 l3), (.v (.int .i64 n4))]), (.d (.v (.int .i64 n7)))] fun o8 =>
 oD o8.res fun d9 =>
 dI .i64 d9 fun n10 =>
 bif (decide (n10 < 0)) then (
 some ⟨(.d (.v (.int .i64 (-1)))), []⟩) else (
 some ⟨(.d (.v (.int .i64 n10))), []⟩)) := by kernel_rfl
/- loop.example/g00119/laws.szPostS -/
def b49x0 : ACode := (
  .seq (.seq (.reg false [⟨some 12, .mv (.t 5), none⟩,
    ⟨some 13, .mv (.t 0), none⟩,
    ⟨some 14, .len false (.t 13), none⟩,
    ⟨some 15, .bin .lss (.t 12) (.t 14), none⟩]) (
  .cond (.t 15) (.skip) (.exit 0))) (
  .seq (.block 1 (.seq (.reg false [⟨some 18, .mv (.t 0), none⟩,
      ⟨some 19, .mv (.t 5), none⟩,
      ⟨some 20, .iad 6 (.t 18) (.t 19), none⟩,
      ⟨some 21, .load true [.s, (.sl 2), (.sl 1), (.i .i64), (.i .i64), (.i .i64)] (.t 20), none⟩,
      ⟨some 22, .mv (.t 1), none⟩,
      ⟨some 23, .call (.f 96) [.rd, .rd] false [.c (.i .i64)] [(.t 21), (.t 22)], none⟩,
      ⟨some 1, .mv (.t 23), none⟩]) (
    .seq (.reg false [⟨some 24, .mv (.t 1), none⟩,
      ⟨some 25, .bin .lss (.t 24) (.c (.v (.int .i64 0))), none⟩]) (
    .cond (.t 25) (.seq (.reg false [⟨some 4, .mv (.c (.v (.int .i64 (-1)))), none⟩]) (
      .ret)) (.skip))))) (
  .reg false [⟨some 16, .mv (.t 5), none⟩,
    ⟨some 17, .bin .add (.t 16) (.c (.v (.int .i64 1))), none⟩,
    ⟨some 5, .mv (.t 17), none⟩])))
def e49x0 : Exits := [(.ret, [(4, .c (.i .i64))]), ((.exit 0), [(1, .c (.i .i64))])]
noncomputable def l49x0 (T : Table) (k : Nat) := loopN (evalC ⟨T, []⟩ k b49x0 (Ex × List AV)) [0, 1, 5] e49x0
def a49 : AFun := ⟨[.rd, .rd], false, [.t 4], (
  .seq (.reg false [⟨some 4, .mv (.c (.v (.int .i64 0))), none⟩]) (
  .seq (.reg false [⟨some 6, .mv (.t 1), none⟩,
    ⟨some 7, .mv (.t 0), none⟩,
    ⟨some 8, .len false (.t 7), none⟩,
    ⟨some 9, .bin .sub (.t 6) (.t 8), none⟩,
    ⟨some 1, .mv (.t 9), none⟩]) (
  .seq (.seq (.reg false [⟨some 10, .mv (.t 1), none⟩,
    ⟨some 11, .bin .lss (.t 10) (.c (.v (.int .i64 0))), none⟩]) (
  .cond (.t 11) (.seq (.reg false [⟨some 4, .mv (.c (.v (.int .i64 (-1)))), none⟩]) (
    .ret)) (.skip))) (
  .seq (.seq (.reg false [⟨some 5, .mv (.c (.v (.int .i64 0))), none⟩]) (
  .block 0 (.loop [0, 1, 5] e49x0 b49x0))) (
  .seq (.reg false [⟨some 26, .mv (.t 1), none⟩,
    ⟨some 4, .mv (.t 26), none⟩]) (
  .ret))))))⟩
theorem l49x0s (T : Table) (k n : Nat) (l3 : Rows) (n4 : Int) (n5 : Int) : l49x0 T k (n + 1) [(.fz 6 l3), (.v (.int .i64 n4)), (.v (.int .i64 n5))] = (
 bif (decide (n5 < (l3.length : Int))) then (
 tst (decide (0 ≤ n5)) (
 look l3 (Int.toNat n5) fun r6 =>
 cS r6 0 fun s7 =>
 cL 2 r6 1 fun l8 =>
 cL 1 r6 2 fun l9 =>
 cI .i64 r6 3 fun n10 =>
 cI .i64 r6 4 fun n11 =>
 cI .i64 r6 5 fun n12 =>
 callT T 96 [(.g [(.v (.string s7)), (.s 2 l8), (.s 1 l9), (.v (.int .i64 n10)), (.v (.int .i64 n11)), (.v (.int .i64 n12))]), (.d (.v (.int .i64 n4)))] fun o13 =>
 oD o13.res fun d14 =>
 dI .i64 d14 fun n15 =>
 bif (decide (n15 < 0)) then (
 some (.ret, [(.v (.int .i64 (-1)))])) else (
 l49x0 T k n [(.fz 6 l3), (.v (.int .i64 n15)), (.v (.int .i64 (IntKind.wrap .i64 (n5 + 1))))]))) else (
 some ((.exit 0), [(.v (.int .i64 n4))]))) := by kernel_rfl
theorem a49q (T : Table) (k : Nat) (l1 : Rows) (n2 : Int) : evalF T k a49 [(.d (.s 6 l1)), (.d (.v (.int .i64 n2)))] = (
 bif (decide ((IntKind.wrap .i64 (n2 - (l1.length : Int))) < 0)) then (
 some ⟨(.d (.v (.int .i64 (-1)))), []⟩) else (
 aft (l49x0 T k k [(.fz 6 l1), (.v (.int .i64 (IntKind.wrap .i64 (n2 - (l1.length : Int))))), (.v (.int .i64 0))]) fun e16 ys17 =>
 bif e16.same .ret then (
 aV ys17 0 fun x18 =>
 aI .i64 x18 fun n19 =>
 some ⟨(.d (.v (.int .i64 n19))), []⟩) else (
 bif e16.same (.exit 0) then (
 aV ys17 0 fun x20 =>
 aI .i64 x20 fun n21 =>
 some ⟨(.d (.v (.int .i64 n21))), []⟩) else (
 none)))) := by kernel_rfl
/- loop.example/g00119/laws.szHold -/

def a97 : AFun := ⟨[.rd, .rd], false, [.t 4], (
  .seq (.reg false [⟨some 2, .box (.t 0), none⟩,
    ⟨some 4, .mv (.c (.v (.int .i64 0))), none⟩]) (
  .seq (.reg false [⟨some 5, .mv (.t 1), none⟩,
    ⟨some 6, .fad 1 (.t 2), none⟩,
    ⟨some 7, .load false [.s] (.t 6), none⟩,
    ⟨some 8, .len true (.t 7), none⟩,
    ⟨some 9, .bin .sub (.t 5) (.t 8), none⟩,
    ⟨some 1, .mv (.t 9), none⟩]) (
  .seq (.seq (.reg false [⟨some 10, .mv (.t 1), none⟩,
    ⟨some 11, .bin .lss (.t 10) (.c (.v (.int .i64 0))), none⟩]) (
  .cond (.t 11) (.seq (.reg false [⟨some 4, .mv (.c (.v (.int .i64 (-1)))), none⟩]) (
    .ret)) (.skip))) (
  .seq (.reg false [⟨some 12, .mv (.t 1), none⟩,
    ⟨some 4, .mv (.t 12), none⟩]) (
  .ret)))))⟩

theorem a97q (T : Table) (k : Nat) (n1 : Int) (s2 : ByteArray) (n3 : Int) (n4 : Int) (n5 : Int) (n6 : Int) : evalF T k a97 [(.g [(.v (.int .i64 n1)), (.v (.string s2)), (.v (.int .i64 n3)), (.v (.int .i64 n4)), (.v (.int .i64 n5))]), (.d (.v (.int .i64 n6)))] = (
 bif (decide ((IntKind.wrap .i64 (n6 - (s2.size : Int))) < 0)) then (
 some ⟨(.d (.v (.int .i64 (-1)))), []⟩) else (
 some ⟨(.d (.v (.int .i64 (IntKind.wrap .i64 (n6 - (s2.size : Int)))))), []⟩)) := by kernel_rfl
/- loop.example/g00119/laws.szHoldS -/
def b50x0 : ACode := (
  .seq (.seq (.reg false [⟨some 12, .mv (.t 5), none⟩,
    ⟨some 13, .mv (.t 0), none⟩,
    ⟨some 14, .len false (.t 13), none⟩,
    ⟨some 15, .bin .lss (.t 12) (.t 14), none⟩]) (
  .cond (.t 15) (.skip) (.exit 0))) (
  .seq (.block 1 (.seq (.reg false [⟨some 18, .mv (.t 0), none⟩,
      ⟨some 19, .mv (.t 5), none⟩,
      ⟨some 20, .iad 5 (.t 18) (.t 19), none⟩,
      ⟨some 21, .load true [(.i .i64), .s, (.i .i64), (.i .i64), (.i .i64)] (.t 20), none⟩,
      ⟨some 22, .mv (.t 1), none⟩,
      ⟨some 23, .call (.f 97) [.rd, .rd] false [.c (.i .i64)] [(.t 21), (.t 22)], none⟩,
      ⟨some 1, .mv (.t 23), none⟩]) (
    .seq (.reg false [⟨some 24, .mv (.t 1), none⟩,
      ⟨some 25, .bin .lss (.t 24) (.c (.v (.int .i64 0))), none⟩]) (
    .cond (.t 25) (.seq (.reg false [⟨some 4, .mv (.c (.v (.int .i64 (-1)))), none⟩]) (
      .ret)) (.skip))))) (
  .reg false [⟨some 16, .mv (.t 5), none⟩,
    ⟨some 17, .bin .add (.t 16) (.c (.v (.int .i64 1))), none⟩,
    ⟨some 5, .mv (.t 17), none⟩])))
def e50x0 : Exits := [(.ret, [(4, .c (.i .i64))]), ((.exit 0), [(1, .c (.i .i64))])]
noncomputable def l50x0 (T : Table) (k : Nat) := loopN (evalC ⟨T, []⟩ k b50x0 (Ex × List AV)) [0, 1, 5] e50x0
def a50 : AFun := ⟨[.rd, .rd], false, [.t 4], (
  .seq (.reg false [⟨some 4, .mv (.c (.v (.int .i64 0))), none⟩]) (
  .seq (.reg false [⟨some 6, .mv (.t 1), none⟩,
    ⟨some 7, .mv (.t 0), none⟩,
    ⟨some 8, .len false (.t 7), none⟩,
    ⟨some 9, .bin .sub (.t 6) (.t 8), none⟩,
    ⟨some 1, .mv (.t 9), none⟩]) (
  .seq (.seq (.reg false [⟨some 10, .mv (.t 1), none⟩,
    ⟨some 11, .bin .lss (.t 10) (.c (.v (.int .i64 0))), none⟩]) (
  .cond (.t 11) (.seq (.reg false [⟨some 4, .mv (.c (.v (.int .i64 (-1)))), none⟩]) (
    .ret)) (.skip))) (
  .seq (.seq (.reg false [⟨some 5, .mv (.c (.v (.int .i64 0))), none⟩]) (
  .block 0 (.loop [0, 1, 5] e50x0 b50x0))) (
  .seq (.reg false [⟨some 26, .mv (.t 1), none⟩,
    ⟨some 4, .mv (.t 26), none⟩]) (
  .ret))))))⟩
theorem l50x0s (T : Table) (k n : Nat) (l3 : Rows) (n4 : Int) (n5 : Int) : l50x0 T k (n + 1) [(.fz 5 l3), (.v (.int .i64 n4)), (.v (.int .i64 n5))] = (
 bif (decide (n5 < (l3.length : Int))) then (
 tst (decide (0 ≤ n5)) (
 look l3 (Int.toNat n5) fun r6 =>
 cI .i64 r6 0 fun n7 =>
 cS r6 1 fun s8 =>
 cI .i64 r6 2 fun n9 =>
 cI .i64 r6 3 fun n10 =>
 cI .i64 r6 4 fun n11 =>
 callT T 97 [(.g [(.v (.int .i64 n7)), (.v (.string s8)), (.v (.int .i64 n9)), (.v (.int .i64 n10)), (.v (.int .i64 n11))]), (.d (.v (.int .i64 n4)))] fun o12 =>
 oD o12.res fun d13 =>
 dI .i64 d13 fun n14 =>
 bif (decide (n14 < 0)) then (
 some (.ret, [(.v (.int .i64 (-1)))])) else (
 l50x0 T k n [(.fz 5 l3), (.v (.int .i64 n14)), (.v (.int .i64 (IntKind.wrap .i64 (n5 + 1))))]))) else (
 some ((.exit 0), [(.v (.int .i64 n4))]))) := by kernel_rfl
theorem a50q (T : Table) (k : Nat) (l1 : Rows) (n2 : Int) : evalF T k a50 [(.d (.s 5 l1)), (.d (.v (.int .i64 n2)))] = (
 bif (decide ((IntKind.wrap .i64 (n2 - (l1.length : Int))) < 0)) then (
 some ⟨(.d (.v (.int .i64 (-1)))), []⟩) else (
 aft (l50x0 T k k [(.fz 5 l1), (.v (.int .i64 (IntKind.wrap .i64 (n2 - (l1.length : Int))))), (.v (.int .i64 0))]) fun e15 ys16 =>
 bif e15.same .ret then (
 aV ys16 0 fun x17 =>
 aI .i64 x17 fun n18 =>
 some ⟨(.d (.v (.int .i64 n18))), []⟩) else (
 bif e15.same (.exit 0) then (
 aV ys16 0 fun x19 =>
 aI .i64 x19 fun n20 =>
 some ⟨(.d (.v (.int .i64 n20))), []⟩) else (
 none)))) := by kernel_rfl
/- loop.example/g00119/laws.szHub -/

def a18 : AFun := ⟨[.rd, .rd], false, [.t 4], (
  .seq (.reg false [⟨some 2, .box (.t 0), none⟩,
    ⟨some 4, .mv (.c (.v (.int .i64 0))), none⟩]) (
  .seq (.reg false [⟨some 5, .fad 3 (.t 2), none⟩,
    ⟨some 6, .load false [(.sl 13)] (.t 5), none⟩,
    ⟨some 7, .mv (.t 1), none⟩,
    ⟨some 8, .call (.f 48) [.rd, .rd] false [.c (.i .i64)] [(.t 6), (.t 7)], none⟩,
    ⟨some 1, .mv (.t 8), none⟩]) (
  .seq (.seq (.reg false [⟨some 9, .mv (.t 1), none⟩,
    ⟨some 10, .bin .lss (.t 9) (.c (.v (.int .i64 0))), none⟩]) (
  .cond (.t 10) (.seq (.reg false [⟨some 4, .mv (.c (.v (.int .i64 (-1)))), none⟩]) (
    .ret)) (.skip))) (
  .seq (.reg false [⟨some 11, .fad 4 (.t 2), none⟩,
    ⟨some 12, .load false [(.sl 6)] (.t 11), none⟩,
    ⟨some 13, .mv (.t 1), none⟩,
    ⟨some 14, .call (.f 49) [.rd, .rd] false [.c (.i .i64)] [(.t 12), (.t 13)], none⟩,
    ⟨some 1, .mv (.t 14), none⟩]) (
  .seq (.seq (.reg false [⟨some 15, .mv (.t 1), none⟩,
    ⟨some 16, .bin .lss (.t 15) (.c (.v (.int .i64 0))), none⟩]) (
  .cond (.t 16) (.seq (.reg false [⟨some 4, .mv (.c (.v (.int .i64 (-1)))), none⟩]) (
    .ret)) (.skip))) (
  .seq (.reg false [⟨some 17, .fad 5 (.t 2), none⟩,
    ⟨some 18, .load false [(.sl 5)] (.t 17), none⟩,
    ⟨some 19, .mv (.t 1), none⟩,
    ⟨some 20, .call (.f 50) [.rd, .rd] false [.c (.i .i64)] [(.t 18), (.t 19)], none⟩,
    ⟨some 1, .mv (.t 20), none⟩]) (
  .seq (.seq (.reg false [⟨some 21, .mv (.t 1), none⟩,
    ⟨some 22, .bin .lss (.t 21) (.c (.v (.int .i64 0))), none⟩]) (
  .cond (.t 22) (.seq (.reg false [⟨some 4, .mv (.c (.v (.int .i64 (-1)))), none⟩]) (
    .ret)) (.skip))) (
  .seq (.reg false [⟨some 23, .fad 6 (.t 2), none⟩,
    ⟨some 24, .load false [(.sl 1)] (.t 23), none⟩,
    ⟨some 25, .mv (.t 1), none⟩,
    ⟨some 26, .call (.f 51) [.rd, .rd] false [.c (.i .i64)] [(.t 24), (.t 25)], none⟩,
    ⟨some 1, .mv (.t 26), none⟩]) (
  .seq (.seq (.reg false [⟨some 27, .mv (.t 1), none⟩,
    ⟨some 28, .bin .lss (.t 27) (.c (.v (.int .i64 0))), none⟩]) (
  .cond (.t 28) (.seq (.reg false [⟨some 4, .mv (.c (.v (.int .i64 (-1)))), none⟩]) (
    .ret)) (.skip))) (
  .seq (.reg false [⟨some 29, .mv (.t 1), none⟩,
    ⟨some 4, .mv (.t 29), none⟩]) (
  .ret)))))))))))⟩

theorem a18q (T : Table) (k : Nat) (n1 : Int) (n2 : Int) (n3 : Int) (l4 : Rows) (l5 : Rows) (l6 : Rows) (l7 : Rows) (n8 : Int) : evalF T k a18 [(.g [(.v (.int .i64 n1)), (.v (.int .i64 n2)), (.v (.int .i64 n3)), (.s 13 l4), (.s 6 l5), (.s 5 l6), (.s 1 l7)]), (.d (.v (.int .i64 n8)))] = (
 callT T 48 [(.d (.s 13 l4)), (.d (.v (.int .i64 n8)))] fun o9 =>
 oD o9.res fun d10 =>
 dI .i64 d10 fun n11 =>
 bif (decide (n11 < 0)) then (
 some ⟨(.d (.v (.int .i64 (-1)))), []⟩) else (
 callT T 49 [(.d (.s 6 l5)), (.d (.v (.int .i64 n11)))] fun o12 =>
 oD o12.res fun d13 =>
 dI .i64 d13 fun n14 =>
 bif (decide (n14 < 0)) then (
 some ⟨(.d (.v (.int .i64 (-1)))), []⟩) else (
 callT T 50 [(.d (.s 5 l6)), (.d (.v (.int .i64 n14)))] fun o15 =>
 oD o15.res fun d16 =>
 dI .i64 d16 fun n17 =>
 bif (decide (n17 < 0)) then (
 some ⟨(.d (.v (.int .i64 (-1)))), []⟩) else (
 callT T 51 [(.d (.s 1 l7)), (.d (.v (.int .i64 n17)))] fun o18 =>
 oD o18.res fun d19 =>
 dI .i64 d19 fun n20 =>
 bif (decide (n20 < 0)) then (
 some ⟨(.d (.v (.int .i64 (-1)))), []⟩) else (
 some ⟨(.d (.v (.int .i64 n20))), []⟩))))) := by kernel_rfl
/- loop.example/g00119/laws.toStringS -/
def b56x0 : ACode := (
  .seq (.seq (.reg false [⟨some 8, .mv (.t 4), none⟩,
    ⟨some 9, .mv (.t 0), none⟩,
    ⟨some 10, .len false (.t 9), none⟩,
    ⟨some 11, .bin .lss (.t 8) (.t 10), none⟩]) (
  .cond (.t 11) (.skip) (.exit 0))) (
  .seq (.block 1 (.reg false [⟨some 14, .mv (.t 3), none⟩,
      ⟨some 15, .mv (.t 4), none⟩,
      ⟨some 16, .mv (.t 0), none⟩,
      ⟨some 17, .mv (.t 4), none⟩,
      ⟨some 18, .iad 1 (.t 16) (.t 17), none⟩,
      ⟨some 19, .load false [.s] (.t 18), none⟩,
      ⟨some 20, .iad 1 (.t 14) (.t 15), none⟩,
      ⟨none, .store 1 (.t 20) (.t 19), none⟩])) (
  .reg false [⟨some 12, .mv (.t 4), none⟩,
    ⟨some 13, .bin .add (.t 12) (.c (.v (.int .i64 1))), none⟩,
    ⟨some 4, .mv (.t 13), none⟩])))
def e56x0 : Exits := [((.exit 0), [(3, .o 1)])]
noncomputable def l56x0 (T : Table) (k : Nat) := loopN (evalC ⟨T, []⟩ k b56x0 (Ex × List AV)) [0, 3, 4] e56x0
def a56 : AFun := ⟨[.rd], false, [.t 2], (
  .seq (.reg false [⟨some 2, .mv (.c (.o 1 [])), none⟩]) (
  .seq (.reg false [⟨some 5, .mv (.t 0), none⟩,
    ⟨some 6, .len false (.t 5), none⟩,
    ⟨some 7, .mk [(.v (.string ByteArray.empty))] 16 (.t 6) (.t 6), none⟩,
    ⟨some 3, .mv (.t 7), none⟩]) (
  .seq (.seq (.reg false [⟨some 4, .mv (.c (.v (.int .i64 0))), none⟩]) (
  .block 0 (.loop [0, 3, 4] e56x0 b56x0))) (
  .seq (.reg false [⟨some 21, .mv (.t 3), none⟩,
    ⟨some 2, .mv (.t 21), none⟩]) (
  .ret)))))⟩
theorem l56x0s (T : Table) (k n : Nat) (l2 : Rows) (l3 : Rows) (n4 : Int) : l56x0 T k (n + 1) [(.fz 1 l2), (.o 1 l3), (.v (.int .i64 n4))] = (
 bif (decide (n4 < (l2.length : Int))) then (
 tst (decide (0 ≤ n4)) (
 look l2 (Int.toNat n4) fun r5 =>
 cS r5 0 fun s6 =>
 tst (decide (0 ≤ n4) && decide (Int.toNat n4 < l3.length)) (
 l56x0 T k n [(.fz 1 l2), (.o 1 (setD l3 (Int.toNat n4) 0 (.v (.string s6)))), (.v (.int .i64 (IntKind.wrap .i64 (n4 + 1))))]))) else (
 some ((.exit 0), [(.o 1 l3)]))) := by kernel_rfl
theorem a56q (T : Table) (k : Nat) (l1 : Rows) : evalF T k a56 [(.d (.s 1 l1))] = (
 tst (cutOk (l1.length : Int) (l1.length : Int) maxLen && decide (Int.toNat (l1.length : Int) * 16 ≤ maxBytes)) (
 aft (l56x0 T k k [(.fz 1 l1), (.o 1 (List.replicate (Int.toNat (l1.length : Int)) [(.v (.string ByteArray.empty))])), (.v (.int .i64 0))]) fun e7 ys8 =>
 bif e7.same (.exit 0) then (
 aV ys8 0 fun x9 =>
 aO 1 x9 fun l10 =>
 some ⟨(.d (.s 1 l10)), []⟩) else (
 none))) := by kernel_rfl
/- loop.example/g00119/laws.toValueS -/
def b146x0 : ACode := (
  .seq (.seq (.reg false [⟨some 8, .mv (.t 4), none⟩,
    ⟨some 9, .mv (.t 0), none⟩,
    ⟨some 10, .len false (.t 9), none⟩,
    ⟨some 11, .bin .lss (.t 8) (.t 10), none⟩]) (
  .cond (.t 11) (.skip) (.exit 0))) (
  .seq (.block 1 (.reg false [⟨some 14, .mv (.t 3), none⟩,
      ⟨some 15, .mv (.t 4), none⟩,
      ⟨some 16, .mv (.t 0), none⟩,
      ⟨some 17, .mv (.t 4), none⟩,
      ⟨some 18, .iad 5 (.t 16) (.t 17), none⟩,
      ⟨some 19, .load true [(.i .i64), .s, (.i .i64), (.sl 1), (.sl 5)] (.t 18), none⟩,
      ⟨some 20, .call (.f 124) [.rd] false [.g [(.i .i64), .s, (.i .i64), (.sl 1), (.sl 5)]] [(.t 19)], none⟩,
      ⟨some 21, .iad 5 (.t 14) (.t 15), none⟩,
      ⟨none, .store 5 (.t 21) (.t 20), none⟩])) (
  .reg false [⟨some 12, .mv (.t 4), none⟩,
    ⟨some 13, .bin .add (.t 12) (.c (.v (.int .i64 1))), none⟩,
    ⟨some 4, .mv (.t 13), none⟩])))
def e146x0 : Exits := [((.exit 0), [(3, .o 5)])]
noncomputable def l146x0 (T : Table) (k : Nat) := loopN (evalC ⟨T, []⟩ k b146x0 (Ex × List AV)) [0, 3, 4] e146x0
def a146 : AFun := ⟨[.rd], false, [.t 2], (
  .seq (.reg false [⟨some 2, .mv (.c (.o 5 [])), none⟩]) (
  .seq (.reg false [⟨some 5, .mv (.t 0), none⟩,
    ⟨some 6, .len false (.t 5), none⟩,
    ⟨some 7, .mk [(.v (.int .i64 0)), (.v (.string ByteArray.empty)), (.v (.int .i64 0)), (.s 1 []), (.s 5 [])] 80 (.t 6) (.t 6), none⟩,
    ⟨some 3, .mv (.t 7), none⟩]) (
  .seq (.seq (.reg false [⟨some 4, .mv (.c (.v (.int .i64 0))), none⟩]) (
  .block 0 (.loop [0, 3, 4] e146x0 b146x0))) (
  .seq (.reg false [⟨some 22, .mv (.t 3), none⟩,
    ⟨some 2, .mv (.t 22), none⟩]) (
  .ret)))))⟩
theorem l146x0s (T : Table) (k n : Nat) (l2 : Rows) (l3 : Rows) (n4 : Int) : l146x0 T k (n + 1) [(.fz 5 l2), (.o 5 l3), (.v (.int .i64 n4))] = (
 bif (decide (n4 < (l2.length : Int))) then (
 tst (decide (0 ≤ n4)) (
 look l2 (Int.toNat n4) fun r5 =>
 cI .i64 r5 0 fun n6 =>
 cS r5 1 fun s7 =>
 cI .i64 r5 2 fun n8 =>
 cL 1 r5 3 fun l9 =>
 cL 5 r5 4 fun l10 =>
 callT T 124 [(.g [(.v (.int .i64 n6)), (.v (.string s7)), (.v (.int .i64 n8)), (.s 1 l9), (.s 5 l10)])] fun o11 =>
 oG o11.res fun r12 =>
 tst (Nat.beq r12.length 5) (
 cI .i64 r12 0 fun n13 =>
 cS r12 1 fun s14 =>
 cI .i64 r12 2 fun n15 =>
 cL 1 r12 3 fun l16 =>
 cL 5 r12 4 fun l17 =>
 tst (decide (0 ≤ n4) && decide (Int.toNat n4 < l3.length)) (
 l146x0 T k n [(.fz 5 l2), (.o 5 (setD (setD (setD (setD (setD (setD (setD l3 (Int.toNat n4) 0 (.v (.int .i64 n13))) (Int.toNat n4) 1 (.v (.string s14))) (Int.toNat n4) 2 (.v (.int .i64 n15))) (Int.toNat n4) 3 hole) (Int.toNat n4) 4 hole) (Int.toNat n4) 4 (.s 5 l17)) (Int.toNat n4) 3 (.s 1 l16))), (.v (.int .i64 (IntKind.wrap .i64 (n4 + 1))))])))) else (
 some ((.exit 0), [(.o 5 l3)]))) := by kernel_rfl
theorem a146q (T : Table) (k : Nat) (l1 : Rows) : evalF T k a146 [(.d (.s 5 l1))] = (
 tst (cutOk (l1.length : Int) (l1.length : Int) maxLen && decide (Int.toNat (l1.length : Int) * 80 ≤ maxBytes)) (
 aft (l146x0 T k k [(.fz 5 l1), (.o 5 (List.replicate (Int.toNat (l1.length : Int)) [(.v (.int .i64 0)), (.v (.string ByteArray.empty)), (.v (.int .i64 0)), (.s 1 []), (.s 5 [])])), (.v (.int .i64 0))]) fun e18 ys19 =>
 bif e18.same (.exit 0) then (
 aV ys19 0 fun x20 =>
 aO 5 x20 fun l21 =>
 some ⟨(.d (.s 5 l21)), []⟩) else (
 none))) := by kernel_rfl
/- loop.example/g00119/laws.toValue -/

def a124 : AFun := ⟨[.rd], false, [.c 2 true [(.i .i64), .s, (.i .i64), (.sl 1), (.sl 5)]], (
  .seq (.reg false [⟨some 1, .box (.t 0), none⟩,
    ⟨some 2, .alloc [(.v (.int .i64 0)), (.v (.string ByteArray.empty)), (.v (.int .i64 0)), (.s 1 []), (.s 5 [])], none⟩]) (
  .seq (.reg false [⟨some 3, .alloc [(.v (.int .i64 0)), (.v (.string ByteArray.empty)), (.v (.int .i64 0)), (.s 1 []), (.s 5 [])], none⟩]) (
  .seq (.reg false [⟨some 4, .fad 0 (.t 1), none⟩,
    ⟨some 5, .load false [(.i .i64)] (.t 4), none⟩,
    ⟨some 6, .fad 0 (.t 3), none⟩,
    ⟨none, .store 1 (.t 6) (.t 5), none⟩]) (
  .seq (.reg false [⟨some 7, .fad 1 (.t 1), none⟩,
    ⟨some 8, .load false [.s] (.t 7), none⟩,
    ⟨some 9, .fad 1 (.t 3), none⟩,
    ⟨none, .store 1 (.t 9) (.t 8), none⟩]) (
  .seq (.reg false [⟨some 10, .fad 2 (.t 1), none⟩,
    ⟨some 11, .load false [(.i .i64)] (.t 10), none⟩,
    ⟨some 12, .fad 2 (.t 3), none⟩,
    ⟨none, .store 1 (.t 12) (.t 11), none⟩]) (
  .seq (.reg false [⟨some 13, .fad 3 (.t 1), none⟩,
    ⟨some 14, .load false [(.sl 1)] (.t 13), none⟩,
    ⟨some 15, .call (.f 56) [.rd] false [.c (.sl 1)] [(.t 14)], none⟩,
    ⟨some 16, .fad 3 (.t 3), none⟩,
    ⟨none, .store 1 (.t 16) (.t 15), none⟩]) (
  .seq (.reg false [⟨some 17, .fad 4 (.t 1), none⟩,
    ⟨some 18, .load false [(.sl 5)] (.t 17), none⟩,
    ⟨some 19, .call (.f 146) [.rd] false [.c (.sl 5)] [(.t 18)], none⟩,
    ⟨some 20, .fad 4 (.t 3), none⟩,
    ⟨none, .store 1 (.t 20) (.t 19), none⟩]) (
  .seq (.reg false [⟨some 21, .load true [(.i .i64), .s, (.i .i64), (.sl 1), (.sl 5)] (.t 3), none⟩,
    ⟨none, .store 5 (.t 2) (.t 21), none⟩]) (
  .ret)))))))))⟩

theorem a124q (T : Table) (k : Nat) (n1 : Int) (s2 : ByteArray) (n3 : Int) (l4 : Rows) (l5 : Rows) : evalF T k a124 [(.g [(.v (.int .i64 n1)), (.v (.string s2)), (.v (.int .i64 n3)), (.s 1 l4), (.s 5 l5)])] = (
 callT T 56 [(.d (.s 1 l4))] fun o6 =>
 oD o6.res fun d7 =>
 dL 1 d7 fun l8 =>
 callT T 146 [(.d (.s 5 l5))] fun o9 =>
 oD o9.res fun d10 =>
 dL 5 d10 fun l11 =>
 some ⟨(.g [(.v (.int .i64 n1)), (.v (.string s2)), (.v (.int .i64 n3)), (.s 1 l8), (.s 5 l11)]), []⟩) := by kernel_rfl
/- loop.example/g00119/laws.toTerm -/

def a173 : AFun := ⟨[.rd], false, [.c 2 true [(.i .i64), .s, (.sl 1)]], (
  .seq (.reg false [⟨some 1, .box (.t 0), none⟩,
    ⟨some 2, .alloc [(.v (.int .i64 0)), (.v (.string ByteArray.empty)), (.s 1 [])], none⟩]) (
  .seq (.reg false [⟨some 3, .alloc [(.v (.int .i64 0)), (.v (.string ByteArray.empty)), (.s 1 [])], none⟩]) (
  .seq (.reg false [⟨some 4, .fad 0 (.t 1), none⟩,
    ⟨some 5, .load false [(.i .i64)] (.t 4), none⟩,
    ⟨some 6, .fad 0 (.t 3), none⟩,
    ⟨none, .store 1 (.t 6) (.t 5), none⟩]) (
  .seq (.reg false [⟨some 7, .fad 1 (.t 1), none⟩,
    ⟨some 8, .load false [.s] (.t 7), none⟩,
    ⟨some 9, .fad 1 (.t 3), none⟩,
    ⟨none, .store 1 (.t 9) (.t 8), none⟩]) (
  .seq (.reg false [⟨some 10, .fad 2 (.t 1), none⟩,
    ⟨some 11, .load false [(.sl 1)] (.t 10), none⟩,
    ⟨some 12, .call (.f 56) [.rd] false [.c (.sl 1)] [(.t 11)], none⟩,
    ⟨some 13, .fad 2 (.t 3), none⟩,
    ⟨none, .store 1 (.t 13) (.t 12), none⟩]) (
  .seq (.reg false [⟨some 14, .load true [(.i .i64), .s, (.sl 1)] (.t 3), none⟩,
    ⟨none, .store 3 (.t 2) (.t 14), none⟩]) (
  .ret)))))))⟩

theorem a173q (T : Table) (k : Nat) (n1 : Int) (s2 : ByteArray) (l3 : Rows) : evalF T k a173 [(.g [(.v (.int .i64 n1)), (.v (.string s2)), (.s 1 l3)])] = (
 callT T 56 [(.d (.s 1 l3))] fun o4 =>
 oD o4.res fun d5 =>
 dL 1 d5 fun l6 =>
 some ⟨(.g [(.v (.int .i64 n1)), (.v (.string s2)), (.s 1 l6)]), []⟩) := by kernel_rfl
/- loop.example/g00119/laws.toTermS -/
def b154x0 : ACode := (
  .seq (.seq (.reg false [⟨some 8, .mv (.t 4), none⟩,
    ⟨some 9, .mv (.t 0), none⟩,
    ⟨some 10, .len false (.t 9), none⟩,
    ⟨some 11, .bin .lss (.t 8) (.t 10), none⟩]) (
  .cond (.t 11) (.skip) (.exit 0))) (
  .seq (.block 1 (.reg false [⟨some 14, .mv (.t 3), none⟩,
      ⟨some 15, .mv (.t 4), none⟩,
      ⟨some 16, .mv (.t 0), none⟩,
      ⟨some 17, .mv (.t 4), none⟩,
      ⟨some 18, .iad 3 (.t 16) (.t 17), none⟩,
      ⟨some 19, .load true [(.i .i64), .s, (.sl 1)] (.t 18), none⟩,
      ⟨some 20, .call (.f 173) [.rd] false [.g [(.i .i64), .s, (.sl 1)]] [(.t 19)], none⟩,
      ⟨some 21, .iad 3 (.t 14) (.t 15), none⟩,
      ⟨none, .store 3 (.t 21) (.t 20), none⟩])) (
  .reg false [⟨some 12, .mv (.t 4), none⟩,
    ⟨some 13, .bin .add (.t 12) (.c (.v (.int .i64 1))), none⟩,
    ⟨some 4, .mv (.t 13), none⟩])))
def e154x0 : Exits := [((.exit 0), [(3, .o 3)])]
noncomputable def l154x0 (T : Table) (k : Nat) := loopN (evalC ⟨T, []⟩ k b154x0 (Ex × List AV)) [0, 3, 4] e154x0
def a154 : AFun := ⟨[.rd], false, [.t 2], (
  .seq (.reg false [⟨some 2, .mv (.c (.o 3 [])), none⟩]) (
  .seq (.reg false [⟨some 5, .mv (.t 0), none⟩,
    ⟨some 6, .len false (.t 5), none⟩,
    ⟨some 7, .mk [(.v (.int .i64 0)), (.v (.string ByteArray.empty)), (.s 1 [])] 48 (.t 6) (.t 6), none⟩,
    ⟨some 3, .mv (.t 7), none⟩]) (
  .seq (.seq (.reg false [⟨some 4, .mv (.c (.v (.int .i64 0))), none⟩]) (
  .block 0 (.loop [0, 3, 4] e154x0 b154x0))) (
  .seq (.reg false [⟨some 22, .mv (.t 3), none⟩,
    ⟨some 2, .mv (.t 22), none⟩]) (
  .ret)))))⟩
theorem l154x0s (T : Table) (k n : Nat) (l2 : Rows) (l3 : Rows) (n4 : Int) : l154x0 T k (n + 1) [(.fz 3 l2), (.o 3 l3), (.v (.int .i64 n4))] = (
 bif (decide (n4 < (l2.length : Int))) then (
 tst (decide (0 ≤ n4)) (
 look l2 (Int.toNat n4) fun r5 =>
 cI .i64 r5 0 fun n6 =>
 cS r5 1 fun s7 =>
 cL 1 r5 2 fun l8 =>
 callT T 173 [(.g [(.v (.int .i64 n6)), (.v (.string s7)), (.s 1 l8)])] fun o9 =>
 oG o9.res fun r10 =>
 tst (Nat.beq r10.length 3) (
 cI .i64 r10 0 fun n11 =>
 cS r10 1 fun s12 =>
 cL 1 r10 2 fun l13 =>
 tst (decide (0 ≤ n4) && decide (Int.toNat n4 < l3.length)) (
 l154x0 T k n [(.fz 3 l2), (.o 3 (setD (setD (setD (setD l3 (Int.toNat n4) 0 (.v (.int .i64 n11))) (Int.toNat n4) 1 (.v (.string s12))) (Int.toNat n4) 2 hole) (Int.toNat n4) 2 (.s 1 l13))), (.v (.int .i64 (IntKind.wrap .i64 (n4 + 1))))])))) else (
 some ((.exit 0), [(.o 3 l3)]))) := by kernel_rfl
theorem a154q (T : Table) (k : Nat) (l1 : Rows) : evalF T k a154 [(.d (.s 3 l1))] = (
 tst (cutOk (l1.length : Int) (l1.length : Int) maxLen && decide (Int.toNat (l1.length : Int) * 48 ≤ maxBytes)) (
 aft (l154x0 T k k [(.fz 3 l1), (.o 3 (List.replicate (Int.toNat (l1.length : Int)) [(.v (.int .i64 0)), (.v (.string ByteArray.empty)), (.s 1 [])])), (.v (.int .i64 0))]) fun e14 ys15 =>
 bif e14.same (.exit 0) then (
 aV ys15 0 fun x16 =>
 aO 3 x16 fun l17 =>
 some ⟨(.d (.s 3 l17)), []⟩) else (
 none))) := by kernel_rfl
/- loop.example/g00119/laws.toWeigh -/

def a174 : AFun := ⟨[.rd], false, [.c 2 true [.s, (.i .i64)]], (
  .seq (.reg false [⟨some 1, .box (.t 0), none⟩,
    ⟨some 2, .alloc [(.v (.string ByteArray.empty)), (.v (.int .i64 0))], none⟩]) (
  .seq (.reg false [⟨some 3, .alloc [(.v (.string ByteArray.empty)), (.v (.int .i64 0))], none⟩]) (
  .seq (.reg false [⟨some 4, .fad 0 (.t 1), none⟩,
    ⟨some 5, .load false [.s] (.t 4), none⟩,
    ⟨some 6, .fad 0 (.t 3), none⟩,
    ⟨none, .store 1 (.t 6) (.t 5), none⟩]) (
  .seq (.reg false [⟨some 7, .fad 1 (.t 1), none⟩,
    ⟨some 8, .load false [(.i .i64)] (.t 7), none⟩,
    ⟨some 9, .fad 1 (.t 3), none⟩,
    ⟨none, .store 1 (.t 9) (.t 8), none⟩]) (
  .seq (.reg false [⟨some 10, .load true [.s, (.i .i64)] (.t 3), none⟩,
    ⟨none, .store 2 (.t 2) (.t 10), none⟩]) (
  .ret))))))⟩

theorem a174q (T : Table) (k : Nat) (s1 : ByteArray) (n2 : Int) : evalF T k a174 [(.g [(.v (.string s1)), (.v (.int .i64 n2))])] = (
 some ⟨(.g [(.v (.string s1)), (.v (.int .i64 n2))]), []⟩) := by kernel_rfl
/- loop.example/g00119/laws.toWeighS -/
def b155x0 : ACode := (
  .seq (.seq (.reg false [⟨some 8, .mv (.t 4), none⟩,
    ⟨some 9, .mv (.t 0), none⟩,
    ⟨some 10, .len false (.t 9), none⟩,
    ⟨some 11, .bin .lss (.t 8) (.t 10), none⟩]) (
  .cond (.t 11) (.skip) (.exit 0))) (
  .seq (.block 1 (.reg false [⟨some 14, .mv (.t 3), none⟩,
      ⟨some 15, .mv (.t 4), none⟩,
      ⟨some 16, .mv (.t 0), none⟩,
      ⟨some 17, .mv (.t 4), none⟩,
      ⟨some 18, .iad 2 (.t 16) (.t 17), none⟩,
      ⟨some 19, .load true [.s, (.i .i64)] (.t 18), none⟩,
      ⟨some 20, .call (.f 174) [.rd] false [.g [.s, (.i .i64)]] [(.t 19)], none⟩,
      ⟨some 21, .iad 2 (.t 14) (.t 15), none⟩,
      ⟨none, .store 2 (.t 21) (.t 20), none⟩])) (
  .reg false [⟨some 12, .mv (.t 4), none⟩,
    ⟨some 13, .bin .add (.t 12) (.c (.v (.int .i64 1))), none⟩,
    ⟨some 4, .mv (.t 13), none⟩])))
def e155x0 : Exits := [((.exit 0), [(3, .o 2)])]
noncomputable def l155x0 (T : Table) (k : Nat) := loopN (evalC ⟨T, []⟩ k b155x0 (Ex × List AV)) [0, 3, 4] e155x0
def a155 : AFun := ⟨[.rd], false, [.t 2], (
  .seq (.reg false [⟨some 2, .mv (.c (.o 2 [])), none⟩]) (
  .seq (.reg false [⟨some 5, .mv (.t 0), none⟩,
    ⟨some 6, .len false (.t 5), none⟩,
    ⟨some 7, .mk [(.v (.string ByteArray.empty)), (.v (.int .i64 0))] 24 (.t 6) (.t 6), none⟩,
    ⟨some 3, .mv (.t 7), none⟩]) (
  .seq (.seq (.reg false [⟨some 4, .mv (.c (.v (.int .i64 0))), none⟩]) (
  .block 0 (.loop [0, 3, 4] e155x0 b155x0))) (
  .seq (.reg false [⟨some 22, .mv (.t 3), none⟩,
    ⟨some 2, .mv (.t 22), none⟩]) (
  .ret)))))⟩
theorem l155x0s (T : Table) (k n : Nat) (l2 : Rows) (l3 : Rows) (n4 : Int) : l155x0 T k (n + 1) [(.fz 2 l2), (.o 2 l3), (.v (.int .i64 n4))] = (
 bif (decide (n4 < (l2.length : Int))) then (
 tst (decide (0 ≤ n4)) (
 look l2 (Int.toNat n4) fun r5 =>
 cS r5 0 fun s6 =>
 cI .i64 r5 1 fun n7 =>
 callT T 174 [(.g [(.v (.string s6)), (.v (.int .i64 n7))])] fun o8 =>
 oG o8.res fun r9 =>
 tst (Nat.beq r9.length 2) (
 cS r9 0 fun s10 =>
 cI .i64 r9 1 fun n11 =>
 tst (decide (0 ≤ n4) && decide (Int.toNat n4 < l3.length)) (
 l155x0 T k n [(.fz 2 l2), (.o 2 (setD (setD l3 (Int.toNat n4) 0 (.v (.string s10))) (Int.toNat n4) 1 (.v (.int .i64 n11)))), (.v (.int .i64 (IntKind.wrap .i64 (n4 + 1))))])))) else (
 some ((.exit 0), [(.o 2 l3)]))) := by kernel_rfl
theorem a155q (T : Table) (k : Nat) (l1 : Rows) : evalF T k a155 [(.d (.s 2 l1))] = (
 tst (cutOk (l1.length : Int) (l1.length : Int) maxLen && decide (Int.toNat (l1.length : Int) * 24 ≤ maxBytes)) (
 aft (l155x0 T k k [(.fz 2 l1), (.o 2 (List.replicate (Int.toNat (l1.length : Int)) [(.v (.string ByteArray.empty)), (.v (.int .i64 0))])), (.v (.int .i64 0))]) fun e12 ys13 =>
 bif e12.same (.exit 0) then (
 aV ys13 0 fun x14 =>
 aO 2 x14 fun l15 =>
 some ⟨(.d (.s 2 l15)), []⟩) else (
 none))) := by kernel_rfl
/- loop.example/g00119/laws.toWant -/

def a131 : AFun := ⟨[.rd], false, [.c 2 true [(.i .i64), (.sl 3), (.sl 1), (.sl 2)]], (
  .seq (.reg false [⟨some 1, .box (.t 0), none⟩,
    ⟨some 2, .alloc [(.v (.int .i64 0)), (.s 3 []), (.s 1 []), (.s 2 [])], none⟩]) (
  .seq (.reg false [⟨some 3, .alloc [(.v (.int .i64 0)), (.s 3 []), (.s 1 []), (.s 2 [])], none⟩]) (
  .seq (.reg false [⟨some 4, .fad 0 (.t 1), none⟩,
    ⟨some 5, .load false [(.i .i64)] (.t 4), none⟩,
    ⟨some 6, .fad 0 (.t 3), none⟩,
    ⟨none, .store 1 (.t 6) (.t 5), none⟩]) (
  .seq (.reg false [⟨some 7, .fad 1 (.t 1), none⟩,
    ⟨some 8, .load false [(.sl 3)] (.t 7), none⟩,
    ⟨some 9, .call (.f 154) [.rd] false [.c (.sl 3)] [(.t 8)], none⟩,
    ⟨some 10, .fad 1 (.t 3), none⟩,
    ⟨none, .store 1 (.t 10) (.t 9), none⟩]) (
  .seq (.reg false [⟨some 11, .fad 2 (.t 1), none⟩,
    ⟨some 12, .load false [(.sl 1)] (.t 11), none⟩,
    ⟨some 13, .call (.f 56) [.rd] false [.c (.sl 1)] [(.t 12)], none⟩,
    ⟨some 14, .fad 2 (.t 3), none⟩,
    ⟨none, .store 1 (.t 14) (.t 13), none⟩]) (
  .seq (.reg false [⟨some 15, .fad 3 (.t 1), none⟩,
    ⟨some 16, .load false [(.sl 2)] (.t 15), none⟩,
    ⟨some 17, .call (.f 155) [.rd] false [.c (.sl 2)] [(.t 16)], none⟩,
    ⟨some 18, .fad 3 (.t 3), none⟩,
    ⟨none, .store 1 (.t 18) (.t 17), none⟩]) (
  .seq (.reg false [⟨some 19, .load true [(.i .i64), (.sl 3), (.sl 1), (.sl 2)] (.t 3), none⟩,
    ⟨none, .store 4 (.t 2) (.t 19), none⟩]) (
  .ret))))))))⟩

theorem a131q (T : Table) (k : Nat) (n1 : Int) (l2 : Rows) (l3 : Rows) (l4 : Rows) : evalF T k a131 [(.g [(.v (.int .i64 n1)), (.s 3 l2), (.s 1 l3), (.s 2 l4)])] = (
 callT T 154 [(.d (.s 3 l2))] fun o5 =>
 oD o5.res fun d6 =>
 dL 3 d6 fun l7 =>
 callT T 56 [(.d (.s 1 l3))] fun o8 =>
 oD o8.res fun d9 =>
 dL 1 d9 fun l10 =>
 callT T 155 [(.d (.s 2 l4))] fun o11 =>
 oD o11.res fun d12 =>
 dL 2 d12 fun l13 =>
 some ⟨(.g [(.v (.int .i64 n1)), (.s 3 l7), (.s 1 l10), (.s 2 l13)]), []⟩) := by kernel_rfl
/- loop.example/g00119/laws.toOp -/

def a185 : AFun := ⟨[.rd], false, [.c 2 true [(.i .i64), (.sl 1), (.i .i64), .s, (.i .i64), (.sl 1), (.sl 5)]], (
  .seq (.reg false [⟨some 1, .box (.t 0), none⟩,
    ⟨some 2, .alloc [(.v (.int .i64 0)), (.s 1 []), (.v (.int .i64 0)), (.v (.string ByteArray.empty)), (.v (.int .i64 0)), (.s 1 []), (.s 5 [])], none⟩]) (
  .seq (.reg false [⟨some 3, .alloc [(.v (.int .i64 0)), (.s 1 []), (.v (.int .i64 0)), (.v (.string ByteArray.empty)), (.v (.int .i64 0)), (.s 1 []), (.s 5 [])], none⟩]) (
  .seq (.reg false [⟨some 4, .fad 0 (.t 1), none⟩,
    ⟨some 5, .load false [(.i .i64)] (.t 4), none⟩,
    ⟨some 6, .fad 0 (.t 3), none⟩,
    ⟨none, .store 1 (.t 6) (.t 5), none⟩]) (
  .seq (.reg false [⟨some 7, .fad 1 (.t 1), none⟩,
    ⟨some 8, .load false [(.sl 1)] (.t 7), none⟩,
    ⟨some 9, .call (.f 56) [.rd] false [.c (.sl 1)] [(.t 8)], none⟩,
    ⟨some 10, .fad 1 (.t 3), none⟩,
    ⟨none, .store 1 (.t 10) (.t 9), none⟩]) (
  .seq (.reg false [⟨some 11, .fad 2 (.t 1), none⟩,
    ⟨some 12, .load true [(.i .i64), .s, (.i .i64), (.sl 1), (.sl 5)] (.t 11), none⟩,
    ⟨some 13, .call (.f 124) [.rd] false [.g [(.i .i64), .s, (.i .i64), (.sl 1), (.sl 5)]] [(.t 12)], none⟩,
    ⟨some 14, .fad 2 (.t 3), none⟩,
    ⟨none, .store 5 (.t 14) (.t 13), none⟩]) (
  .seq (.reg false [⟨some 15, .load true [(.i .i64), (.sl 1), (.i .i64), .s, (.i .i64), (.sl 1), (.sl 5)] (.t 3), none⟩,
    ⟨none, .store 7 (.t 2) (.t 15), none⟩]) (
  .ret)))))))⟩

theorem a185q (T : Table) (k : Nat) (n1 : Int) (l2 : Rows) (n3 : Int) (s4 : ByteArray) (n5 : Int) (l6 : Rows) (l7 : Rows) : evalF T k a185 [(.g [(.v (.int .i64 n1)), (.s 1 l2), (.v (.int .i64 n3)), (.v (.string s4)), (.v (.int .i64 n5)), (.s 1 l6), (.s 5 l7)])] = (
 callT T 56 [(.d (.s 1 l2))] fun o8 =>
 oD o8.res fun d9 =>
 dL 1 d9 fun l10 =>
 callT T 124 [(.g [(.v (.int .i64 n3)), (.v (.string s4)), (.v (.int .i64 n5)), (.s 1 l6), (.s 5 l7)])] fun o11 =>
 oG o11.res fun r12 =>
 tst (Nat.beq r12.length 5) (
 cI .i64 r12 0 fun n13 =>
 cS r12 1 fun s14 =>
 cI .i64 r12 2 fun n15 =>
 cL 1 r12 3 fun l16 =>
 cL 5 r12 4 fun l17 =>
 some ⟨(.g [(.v (.int .i64 n1)), (.s 1 l10), (.v (.int .i64 n13)), (.v (.string s14)), (.v (.int .i64 n15)), (.s 1 l16), (.s 5 l17)]), []⟩)) := by kernel_rfl
/- loop.example/g00119/laws.toOpS -/
def b175x0 : ACode := (
  .seq (.seq (.reg false [⟨some 8, .mv (.t 4), none⟩,
    ⟨some 9, .mv (.t 0), none⟩,
    ⟨some 10, .len false (.t 9), none⟩,
    ⟨some 11, .bin .lss (.t 8) (.t 10), none⟩]) (
  .cond (.t 11) (.skip) (.exit 0))) (
  .seq (.block 1 (.reg false [⟨some 14, .mv (.t 3), none⟩,
      ⟨some 15, .mv (.t 4), none⟩,
      ⟨some 16, .mv (.t 0), none⟩,
      ⟨some 17, .mv (.t 4), none⟩,
      ⟨some 18, .iad 7 (.t 16) (.t 17), none⟩,
      ⟨some 19, .load true [(.i .i64), (.sl 1), (.i .i64), .s, (.i .i64), (.sl 1), (.sl 5)] (.t 18), none⟩,
      ⟨some 20, .call (.f 185) [.rd] false [.g [(.i .i64), (.sl 1), (.i .i64), .s, (.i .i64), (.sl 1), (.sl 5)]] [(.t 19)], none⟩,
      ⟨some 21, .iad 7 (.t 14) (.t 15), none⟩,
      ⟨none, .store 7 (.t 21) (.t 20), none⟩])) (
  .reg false [⟨some 12, .mv (.t 4), none⟩,
    ⟨some 13, .bin .add (.t 12) (.c (.v (.int .i64 1))), none⟩,
    ⟨some 4, .mv (.t 13), none⟩])))
def e175x0 : Exits := [((.exit 0), [(3, .o 7)])]
noncomputable def l175x0 (T : Table) (k : Nat) := loopN (evalC ⟨T, []⟩ k b175x0 (Ex × List AV)) [0, 3, 4] e175x0
def a175 : AFun := ⟨[.rd], false, [.t 2], (
  .seq (.reg false [⟨some 2, .mv (.c (.o 7 [])), none⟩]) (
  .seq (.reg false [⟨some 5, .mv (.t 0), none⟩,
    ⟨some 6, .len false (.t 5), none⟩,
    ⟨some 7, .mk [(.v (.int .i64 0)), (.s 1 []), (.v (.int .i64 0)), (.v (.string ByteArray.empty)), (.v (.int .i64 0)), (.s 1 []), (.s 5 [])] 112 (.t 6) (.t 6), none⟩,
    ⟨some 3, .mv (.t 7), none⟩]) (
  .seq (.seq (.reg false [⟨some 4, .mv (.c (.v (.int .i64 0))), none⟩]) (
  .block 0 (.loop [0, 3, 4] e175x0 b175x0))) (
  .seq (.reg false [⟨some 22, .mv (.t 3), none⟩,
    ⟨some 2, .mv (.t 22), none⟩]) (
  .ret)))))⟩
theorem l175x0s (T : Table) (k n : Nat) (l2 : Rows) (l3 : Rows) (n4 : Int) : l175x0 T k (n + 1) [(.fz 7 l2), (.o 7 l3), (.v (.int .i64 n4))] = (
 bif (decide (n4 < (l2.length : Int))) then (
 tst (decide (0 ≤ n4)) (
 look l2 (Int.toNat n4) fun r5 =>
 cI .i64 r5 0 fun n6 =>
 cL 1 r5 1 fun l7 =>
 cI .i64 r5 2 fun n8 =>
 cS r5 3 fun s9 =>
 cI .i64 r5 4 fun n10 =>
 cL 1 r5 5 fun l11 =>
 cL 5 r5 6 fun l12 =>
 callT T 185 [(.g [(.v (.int .i64 n6)), (.s 1 l7), (.v (.int .i64 n8)), (.v (.string s9)), (.v (.int .i64 n10)), (.s 1 l11), (.s 5 l12)])] fun o13 =>
 oG o13.res fun r14 =>
 tst (Nat.beq r14.length 7) (
 cI .i64 r14 0 fun n15 =>
 cL 1 r14 1 fun l16 =>
 cI .i64 r14 2 fun n17 =>
 cS r14 3 fun s18 =>
 cI .i64 r14 4 fun n19 =>
 cL 1 r14 5 fun l20 =>
 cL 5 r14 6 fun l21 =>
 tst (decide (0 ≤ n4) && decide (Int.toNat n4 < l3.length)) (
 l175x0 T k n [(.fz 7 l2), (.o 7 (setD (setD (setD (setD (setD (setD (setD (setD (setD (setD l3 (Int.toNat n4) 0 (.v (.int .i64 n15))) (Int.toNat n4) 1 hole) (Int.toNat n4) 2 (.v (.int .i64 n17))) (Int.toNat n4) 3 (.v (.string s18))) (Int.toNat n4) 4 (.v (.int .i64 n19))) (Int.toNat n4) 5 hole) (Int.toNat n4) 6 hole) (Int.toNat n4) 6 (.s 5 l21)) (Int.toNat n4) 5 (.s 1 l20)) (Int.toNat n4) 1 (.s 1 l16))), (.v (.int .i64 (IntKind.wrap .i64 (n4 + 1))))])))) else (
 some ((.exit 0), [(.o 7 l3)]))) := by kernel_rfl
theorem a175q (T : Table) (k : Nat) (l1 : Rows) : evalF T k a175 [(.d (.s 7 l1))] = (
 tst (cutOk (l1.length : Int) (l1.length : Int) maxLen && decide (Int.toNat (l1.length : Int) * 112 ≤ maxBytes)) (
 aft (l175x0 T k k [(.fz 7 l1), (.o 7 (List.replicate (Int.toNat (l1.length : Int)) [(.v (.int .i64 0)), (.s 1 []), (.v (.int .i64 0)), (.v (.string ByteArray.empty)), (.v (.int .i64 0)), (.s 1 []), (.s 5 [])])), (.v (.int .i64 0))]) fun e22 ys23 =>
 bif e22.same (.exit 0) then (
 aV ys23 0 fun x24 =>
 aO 7 x24 fun l25 =>
 some ⟨(.d (.s 7 l25)), []⟩) else (
 none))) := by kernel_rfl
/- loop.example/g00119/laws.toOver -/

def a156 : AFun := ⟨[.rd], false, [.c 2 true [.s, (.sl 7)]], (
  .seq (.reg false [⟨some 1, .box (.t 0), none⟩,
    ⟨some 2, .alloc [(.v (.string ByteArray.empty)), (.s 7 [])], none⟩]) (
  .seq (.reg false [⟨some 3, .alloc [(.v (.string ByteArray.empty)), (.s 7 [])], none⟩]) (
  .seq (.reg false [⟨some 4, .fad 0 (.t 1), none⟩,
    ⟨some 5, .load false [.s] (.t 4), none⟩,
    ⟨some 6, .fad 0 (.t 3), none⟩,
    ⟨none, .store 1 (.t 6) (.t 5), none⟩]) (
  .seq (.reg false [⟨some 7, .fad 1 (.t 1), none⟩,
    ⟨some 8, .load false [(.sl 7)] (.t 7), none⟩,
    ⟨some 9, .call (.f 175) [.rd] false [.c (.sl 7)] [(.t 8)], none⟩,
    ⟨some 10, .fad 1 (.t 3), none⟩,
    ⟨none, .store 1 (.t 10) (.t 9), none⟩]) (
  .seq (.reg false [⟨some 11, .load true [.s, (.sl 7)] (.t 3), none⟩,
    ⟨none, .store 2 (.t 2) (.t 11), none⟩]) (
  .ret))))))⟩

theorem a156q (T : Table) (k : Nat) (s1 : ByteArray) (l2 : Rows) : evalF T k a156 [(.g [(.v (.string s1)), (.s 7 l2)])] = (
 callT T 175 [(.d (.s 7 l2))] fun o3 =>
 oD o3.res fun d4 =>
 dL 7 d4 fun l5 =>
 some ⟨(.g [(.v (.string s1)), (.s 7 l5)]), []⟩) := by kernel_rfl
/- loop.example/g00119/laws.toOverS -/
def b132x0 : ACode := (
  .seq (.seq (.reg false [⟨some 8, .mv (.t 4), none⟩,
    ⟨some 9, .mv (.t 0), none⟩,
    ⟨some 10, .len false (.t 9), none⟩,
    ⟨some 11, .bin .lss (.t 8) (.t 10), none⟩]) (
  .cond (.t 11) (.skip) (.exit 0))) (
  .seq (.block 1 (.reg false [⟨some 14, .mv (.t 3), none⟩,
      ⟨some 15, .mv (.t 4), none⟩,
      ⟨some 16, .mv (.t 0), none⟩,
      ⟨some 17, .mv (.t 4), none⟩,
      ⟨some 18, .iad 2 (.t 16) (.t 17), none⟩,
      ⟨some 19, .load true [.s, (.sl 7)] (.t 18), none⟩,
      ⟨some 20, .call (.f 156) [.rd] false [.g [.s, (.sl 7)]] [(.t 19)], none⟩,
      ⟨some 21, .iad 2 (.t 14) (.t 15), none⟩,
      ⟨none, .store 2 (.t 21) (.t 20), none⟩])) (
  .reg false [⟨some 12, .mv (.t 4), none⟩,
    ⟨some 13, .bin .add (.t 12) (.c (.v (.int .i64 1))), none⟩,
    ⟨some 4, .mv (.t 13), none⟩])))
def e132x0 : Exits := [((.exit 0), [(3, .o 2)])]
noncomputable def l132x0 (T : Table) (k : Nat) := loopN (evalC ⟨T, []⟩ k b132x0 (Ex × List AV)) [0, 3, 4] e132x0
def a132 : AFun := ⟨[.rd], false, [.t 2], (
  .seq (.reg false [⟨some 2, .mv (.c (.o 2 [])), none⟩]) (
  .seq (.reg false [⟨some 5, .mv (.t 0), none⟩,
    ⟨some 6, .len false (.t 5), none⟩,
    ⟨some 7, .mk [(.v (.string ByteArray.empty)), (.s 7 [])] 40 (.t 6) (.t 6), none⟩,
    ⟨some 3, .mv (.t 7), none⟩]) (
  .seq (.seq (.reg false [⟨some 4, .mv (.c (.v (.int .i64 0))), none⟩]) (
  .block 0 (.loop [0, 3, 4] e132x0 b132x0))) (
  .seq (.reg false [⟨some 22, .mv (.t 3), none⟩,
    ⟨some 2, .mv (.t 22), none⟩]) (
  .ret)))))⟩
theorem l132x0s (T : Table) (k n : Nat) (l2 : Rows) (l3 : Rows) (n4 : Int) : l132x0 T k (n + 1) [(.fz 2 l2), (.o 2 l3), (.v (.int .i64 n4))] = (
 bif (decide (n4 < (l2.length : Int))) then (
 tst (decide (0 ≤ n4)) (
 look l2 (Int.toNat n4) fun r5 =>
 cS r5 0 fun s6 =>
 cL 7 r5 1 fun l7 =>
 callT T 156 [(.g [(.v (.string s6)), (.s 7 l7)])] fun o8 =>
 oG o8.res fun r9 =>
 tst (Nat.beq r9.length 2) (
 cS r9 0 fun s10 =>
 cL 7 r9 1 fun l11 =>
 tst (decide (0 ≤ n4) && decide (Int.toNat n4 < l3.length)) (
 l132x0 T k n [(.fz 2 l2), (.o 2 (setD (setD (setD l3 (Int.toNat n4) 0 (.v (.string s10))) (Int.toNat n4) 1 hole) (Int.toNat n4) 1 (.s 7 l11))), (.v (.int .i64 (IntKind.wrap .i64 (n4 + 1))))])))) else (
 some ((.exit 0), [(.o 2 l3)]))) := by kernel_rfl
theorem a132q (T : Table) (k : Nat) (l1 : Rows) : evalF T k a132 [(.d (.s 2 l1))] = (
 tst (cutOk (l1.length : Int) (l1.length : Int) maxLen && decide (Int.toNat (l1.length : Int) * 40 ≤ maxBytes)) (
 aft (l132x0 T k k [(.fz 2 l1), (.o 2 (List.replicate (Int.toNat (l1.length : Int)) [(.v (.string ByteArray.empty)), (.s 7 [])])), (.v (.int .i64 0))]) fun e12 ys13 =>
 bif e12.same (.exit 0) then (
 aV ys13 0 fun x14 =>
 aO 2 x14 fun l15 =>
 some ⟨(.d (.s 2 l15)), []⟩) else (
 none))) := by kernel_rfl
/- loop.example/g00119/laws.toJob -/

def a98 : AFun := ⟨[.rd], false, [.c 2 true [(.i .i64), .s, (.i .i64), (.sl 3), (.sl 1), (.sl 2), (.i .i64), .s, (.i .i64), (.sl 1), (.sl 5), (.sl 2), .b]], (
  .seq (.reg false [⟨some 1, .box (.t 0), none⟩,
    ⟨some 2, .alloc [(.v (.int .i64 0)), (.v (.string ByteArray.empty)), (.v (.int .i64 0)), (.s 3 []), (.s 1 []), (.s 2 []), (.v (.int .i64 0)), (.v (.string ByteArray.empty)), (.v (.int .i64 0)), (.s 1 []), (.s 5 []), (.s 2 []), (.v (.bool false))], none⟩]) (
  .seq (.reg false [⟨some 3, .alloc [(.v (.int .i64 0)), (.v (.string ByteArray.empty)), (.v (.int .i64 0)), (.s 3 []), (.s 1 []), (.s 2 []), (.v (.int .i64 0)), (.v (.string ByteArray.empty)), (.v (.int .i64 0)), (.s 1 []), (.s 5 []), (.s 2 []), (.v (.bool false))], none⟩]) (
  .seq (.reg false [⟨some 4, .fad 0 (.t 1), none⟩,
    ⟨some 5, .load false [(.i .i64)] (.t 4), none⟩,
    ⟨some 6, .fad 0 (.t 3), none⟩,
    ⟨none, .store 1 (.t 6) (.t 5), none⟩]) (
  .seq (.reg false [⟨some 7, .fad 1 (.t 1), none⟩,
    ⟨some 8, .load false [.s] (.t 7), none⟩,
    ⟨some 9, .fad 1 (.t 3), none⟩,
    ⟨none, .store 1 (.t 9) (.t 8), none⟩]) (
  .seq (.reg false [⟨some 10, .fad 2 (.t 1), none⟩,
    ⟨some 11, .load true [(.i .i64), (.sl 3), (.sl 1), (.sl 2)] (.t 10), none⟩,
    ⟨some 12, .call (.f 131) [.rd] false [.g [(.i .i64), (.sl 3), (.sl 1), (.sl 2)]] [(.t 11)], none⟩,
    ⟨some 13, .fad 2 (.t 3), none⟩,
    ⟨none, .store 4 (.t 13) (.t 12), none⟩]) (
  .seq (.reg false [⟨some 14, .fad 6 (.t 1), none⟩,
    ⟨some 15, .load true [(.i .i64), .s, (.i .i64), (.sl 1), (.sl 5)] (.t 14), none⟩,
    ⟨some 16, .call (.f 124) [.rd] false [.g [(.i .i64), .s, (.i .i64), (.sl 1), (.sl 5)]] [(.t 15)], none⟩,
    ⟨some 17, .fad 6 (.t 3), none⟩,
    ⟨none, .store 5 (.t 17) (.t 16), none⟩]) (
  .seq (.reg false [⟨some 18, .fad 11 (.t 1), none⟩,
    ⟨some 19, .load false [(.sl 2)] (.t 18), none⟩,
    ⟨some 20, .call (.f 132) [.rd] false [.c (.sl 2)] [(.t 19)], none⟩,
    ⟨some 21, .fad 11 (.t 3), none⟩,
    ⟨none, .store 1 (.t 21) (.t 20), none⟩]) (
  .seq (.reg false [⟨some 22, .fad 12 (.t 1), none⟩,
    ⟨some 23, .load false [.b] (.t 22), none⟩,
    ⟨some 24, .fad 12 (.t 3), none⟩,
    ⟨none, .store 1 (.t 24) (.t 23), none⟩]) (
  .seq (.reg false [⟨some 25, .load true [(.i .i64), .s, (.i .i64), (.sl 3), (.sl 1), (.sl 2), (.i .i64), .s, (.i .i64), (.sl 1), (.sl 5), (.sl 2), .b] (.t 3), none⟩,
    ⟨none, .store 13 (.t 2) (.t 25), none⟩]) (
  .ret))))))))))⟩

theorem a98q (T : Table) (k : Nat) (n1 : Int) (s2 : ByteArray) (n3 : Int) (l4 : Rows) (l5 : Rows) (l6 : Rows) (n7 : Int) (s8 : ByteArray) (n9 : Int) (l10 : Rows) (l11 : Rows) (l12 : Rows) (b13 : Bool) : evalF T k a98 [(.g [(.v (.int .i64 n1)), (.v (.string s2)), (.v (.int .i64 n3)), (.s 3 l4), (.s 1 l5), (.s 2 l6), (.v (.int .i64 n7)), (.v (.string s8)), (.v (.int .i64 n9)), (.s 1 l10), (.s 5 l11), (.s 2 l12), (.v (.bool b13))])] = (
 callT T 131 [(.g [(.v (.int .i64 n3)), (.s 3 l4), (.s 1 l5), (.s 2 l6)])] fun o14 =>
 oG o14.res fun r15 =>
 tst (Nat.beq r15.length 4) (
 cI .i64 r15 0 fun n16 =>
 cL 3 r15 1 fun l17 =>
 cL 1 r15 2 fun l18 =>
 cL 2 r15 3 fun l19 =>
 callT T 124 [(.g [(.v (.int .i64 n7)), (.v (.string s8)), (.v (.int .i64 n9)), (.s 1 l10), (.s 5 l11)])] fun o20 =>
 oG o20.res fun r21 =>
 tst (Nat.beq r21.length 5) (
 cI .i64 r21 0 fun n22 =>
 cS r21 1 fun s23 =>
 cI .i64 r21 2 fun n24 =>
 cL 1 r21 3 fun l25 =>
 cL 5 r21 4 fun l26 =>
 callT T 132 [(.d (.s 2 l12))] fun o27 =>
 oD o27.res fun d28 =>
 dL 2 d28 fun l29 =>
 some ⟨(.g [(.v (.int .i64 n1)), (.v (.string s2)), (.v (.int .i64 n16)), (.s 3 l17), (.s 1 l18), (.s 2 l19), (.v (.int .i64 n22)), (.v (.string s23)), (.v (.int .i64 n24)), (.s 1 l25), (.s 5 l26), (.s 2 l29), (.v (.bool b13))]), []⟩))) := by kernel_rfl
/- loop.example/g00119/laws.toJobS -/
def b53x0 : ACode := (
  .seq (.seq (.reg false [⟨some 8, .mv (.t 4), none⟩,
    ⟨some 9, .mv (.t 0), none⟩,
    ⟨some 10, .len false (.t 9), none⟩,
    ⟨some 11, .bin .lss (.t 8) (.t 10), none⟩]) (
  .cond (.t 11) (.skip) (.exit 0))) (
  .seq (.block 1 (.reg false [⟨some 14, .mv (.t 3), none⟩,
      ⟨some 15, .mv (.t 4), none⟩,
      ⟨some 16, .mv (.t 0), none⟩,
      ⟨some 17, .mv (.t 4), none⟩,
      ⟨some 18, .iad 13 (.t 16) (.t 17), none⟩,
      ⟨some 19, .load true [(.i .i64), .s, (.i .i64), (.sl 3), (.sl 1), (.sl 2), (.i .i64), .s, (.i .i64), (.sl 1), (.sl 5), (.sl 2), .b] (.t 18), none⟩,
      ⟨some 20, .call (.f 98) [.rd] false [.g [(.i .i64), .s, (.i .i64), (.sl 3), (.sl 1), (.sl 2), (.i .i64), .s, (.i .i64), (.sl 1), (.sl 5), (.sl 2), .b]] [(.t 19)], none⟩,
      ⟨some 21, .iad 13 (.t 14) (.t 15), none⟩,
      ⟨none, .store 13 (.t 21) (.t 20), none⟩])) (
  .reg false [⟨some 12, .mv (.t 4), none⟩,
    ⟨some 13, .bin .add (.t 12) (.c (.v (.int .i64 1))), none⟩,
    ⟨some 4, .mv (.t 13), none⟩])))
def e53x0 : Exits := [((.exit 0), [(3, .o 13)])]
noncomputable def l53x0 (T : Table) (k : Nat) := loopN (evalC ⟨T, []⟩ k b53x0 (Ex × List AV)) [0, 3, 4] e53x0
def a53 : AFun := ⟨[.rd], false, [.t 2], (
  .seq (.reg false [⟨some 2, .mv (.c (.o 13 [])), none⟩]) (
  .seq (.reg false [⟨some 5, .mv (.t 0), none⟩,
    ⟨some 6, .len false (.t 5), none⟩,
    ⟨some 7, .mk [(.v (.int .i64 0)), (.v (.string ByteArray.empty)), (.v (.int .i64 0)), (.s 3 []), (.s 1 []), (.s 2 []), (.v (.int .i64 0)), (.v (.string ByteArray.empty)), (.v (.int .i64 0)), (.s 1 []), (.s 5 []), (.s 2 []), (.v (.bool false))] 216 (.t 6) (.t 6), none⟩,
    ⟨some 3, .mv (.t 7), none⟩]) (
  .seq (.seq (.reg false [⟨some 4, .mv (.c (.v (.int .i64 0))), none⟩]) (
  .block 0 (.loop [0, 3, 4] e53x0 b53x0))) (
  .seq (.reg false [⟨some 22, .mv (.t 3), none⟩,
    ⟨some 2, .mv (.t 22), none⟩]) (
  .ret)))))⟩
theorem l53x0s (T : Table) (k n : Nat) (l2 : Rows) (l3 : Rows) (n4 : Int) : l53x0 T k (n + 1) [(.fz 13 l2), (.o 13 l3), (.v (.int .i64 n4))] = (
 bif (decide (n4 < (l2.length : Int))) then (
 tst (decide (0 ≤ n4)) (
 look l2 (Int.toNat n4) fun r5 =>
 cI .i64 r5 0 fun n6 =>
 cS r5 1 fun s7 =>
 cI .i64 r5 2 fun n8 =>
 cL 3 r5 3 fun l9 =>
 cL 1 r5 4 fun l10 =>
 cL 2 r5 5 fun l11 =>
 cI .i64 r5 6 fun n12 =>
 cS r5 7 fun s13 =>
 cI .i64 r5 8 fun n14 =>
 cL 1 r5 9 fun l15 =>
 cL 5 r5 10 fun l16 =>
 cL 2 r5 11 fun l17 =>
 cB r5 12 fun b18 =>
 callT T 98 [(.g [(.v (.int .i64 n6)), (.v (.string s7)), (.v (.int .i64 n8)), (.s 3 l9), (.s 1 l10), (.s 2 l11), (.v (.int .i64 n12)), (.v (.string s13)), (.v (.int .i64 n14)), (.s 1 l15), (.s 5 l16), (.s 2 l17), (.v (.bool b18))])] fun o19 =>
 oG o19.res fun r20 =>
 tst (Nat.beq r20.length 13) (
 cI .i64 r20 0 fun n21 =>
 cS r20 1 fun s22 =>
 cI .i64 r20 2 fun n23 =>
 cL 3 r20 3 fun l24 =>
 cL 1 r20 4 fun l25 =>
 cL 2 r20 5 fun l26 =>
 cI .i64 r20 6 fun n27 =>
 cS r20 7 fun s28 =>
 cI .i64 r20 8 fun n29 =>
 cL 1 r20 9 fun l30 =>
 cL 5 r20 10 fun l31 =>
 cL 2 r20 11 fun l32 =>
 cB r20 12 fun b33 =>
 tst (decide (0 ≤ n4) && decide (Int.toNat n4 < l3.length)) (
 l53x0 T k n [(.fz 13 l2), (.o 13 (setD (setD (setD (setD (setD (setD (setD (setD (setD (setD (setD (setD (setD (setD (setD (setD (setD (setD (setD l3 (Int.toNat n4) 0 (.v (.int .i64 n21))) (Int.toNat n4) 1 (.v (.string s22))) (Int.toNat n4) 2 (.v (.int .i64 n23))) (Int.toNat n4) 3 hole) (Int.toNat n4) 4 hole) (Int.toNat n4) 5 hole) (Int.toNat n4) 6 (.v (.int .i64 n27))) (Int.toNat n4) 7 (.v (.string s28))) (Int.toNat n4) 8 (.v (.int .i64 n29))) (Int.toNat n4) 9 hole) (Int.toNat n4) 10 hole) (Int.toNat n4) 11 hole) (Int.toNat n4) 12 (.v (.bool b33))) (Int.toNat n4) 11 (.s 2 l32)) (Int.toNat n4) 10 (.s 5 l31)) (Int.toNat n4) 9 (.s 1 l30)) (Int.toNat n4) 5 (.s 2 l26)) (Int.toNat n4) 4 (.s 1 l25)) (Int.toNat n4) 3 (.s 3 l24))), (.v (.int .i64 (IntKind.wrap .i64 (n4 + 1))))])))) else (
 some ((.exit 0), [(.o 13 l3)]))) := by kernel_rfl
theorem a53q (T : Table) (k : Nat) (l1 : Rows) : evalF T k a53 [(.d (.s 13 l1))] = (
 tst (cutOk (l1.length : Int) (l1.length : Int) maxLen && decide (Int.toNat (l1.length : Int) * 216 ≤ maxBytes)) (
 aft (l53x0 T k k [(.fz 13 l1), (.o 13 (List.replicate (Int.toNat (l1.length : Int)) [(.v (.int .i64 0)), (.v (.string ByteArray.empty)), (.v (.int .i64 0)), (.s 3 []), (.s 1 []), (.s 2 []), (.v (.int .i64 0)), (.v (.string ByteArray.empty)), (.v (.int .i64 0)), (.s 1 []), (.s 5 []), (.s 2 []), (.v (.bool false))])), (.v (.int .i64 0))]) fun e34 ys35 =>
 bif e34.same (.exit 0) then (
 aV ys35 0 fun x36 =>
 aO 13 x36 fun l37 =>
 some ⟨(.d (.s 13 l37)), []⟩) else (
 none))) := by kernel_rfl
/- loop.example/g00119/laws.toLabel -/

def a176 : AFun := ⟨[.rd], false, [.c 2 true [.s, .s]], (
  .seq (.reg false [⟨some 1, .box (.t 0), none⟩,
    ⟨some 2, .alloc [(.v (.string ByteArray.empty)), (.v (.string ByteArray.empty))], none⟩]) (
  .seq (.reg false [⟨some 3, .alloc [(.v (.string ByteArray.empty)), (.v (.string ByteArray.empty))], none⟩]) (
  .seq (.reg false [⟨some 4, .fad 0 (.t 1), none⟩,
    ⟨some 5, .load false [.s] (.t 4), none⟩,
    ⟨some 6, .fad 0 (.t 3), none⟩,
    ⟨none, .store 1 (.t 6) (.t 5), none⟩]) (
  .seq (.reg false [⟨some 7, .fad 1 (.t 1), none⟩,
    ⟨some 8, .load false [.s] (.t 7), none⟩,
    ⟨some 9, .fad 1 (.t 3), none⟩,
    ⟨none, .store 1 (.t 9) (.t 8), none⟩]) (
  .seq (.reg false [⟨some 10, .load true [.s, .s] (.t 3), none⟩,
    ⟨none, .store 2 (.t 2) (.t 10), none⟩]) (
  .ret))))))⟩

theorem a176q (T : Table) (k : Nat) (s1 : ByteArray) (s2 : ByteArray) : evalF T k a176 [(.g [(.v (.string s1)), (.v (.string s2))])] = (
 some ⟨(.g [(.v (.string s1)), (.v (.string s2))]), []⟩) := by kernel_rfl
/- loop.example/g00119/laws.toLabelS -/
def b157x0 : ACode := (
  .seq (.seq (.reg false [⟨some 8, .mv (.t 4), none⟩,
    ⟨some 9, .mv (.t 0), none⟩,
    ⟨some 10, .len false (.t 9), none⟩,
    ⟨some 11, .bin .lss (.t 8) (.t 10), none⟩]) (
  .cond (.t 11) (.skip) (.exit 0))) (
  .seq (.block 1 (.reg false [⟨some 14, .mv (.t 3), none⟩,
      ⟨some 15, .mv (.t 4), none⟩,
      ⟨some 16, .mv (.t 0), none⟩,
      ⟨some 17, .mv (.t 4), none⟩,
      ⟨some 18, .iad 2 (.t 16) (.t 17), none⟩,
      ⟨some 19, .load true [.s, .s] (.t 18), none⟩,
      ⟨some 20, .call (.f 176) [.rd] false [.g [.s, .s]] [(.t 19)], none⟩,
      ⟨some 21, .iad 2 (.t 14) (.t 15), none⟩,
      ⟨none, .store 2 (.t 21) (.t 20), none⟩])) (
  .reg false [⟨some 12, .mv (.t 4), none⟩,
    ⟨some 13, .bin .add (.t 12) (.c (.v (.int .i64 1))), none⟩,
    ⟨some 4, .mv (.t 13), none⟩])))
def e157x0 : Exits := [((.exit 0), [(3, .o 2)])]
noncomputable def l157x0 (T : Table) (k : Nat) := loopN (evalC ⟨T, []⟩ k b157x0 (Ex × List AV)) [0, 3, 4] e157x0
def a157 : AFun := ⟨[.rd], false, [.t 2], (
  .seq (.reg false [⟨some 2, .mv (.c (.o 2 [])), none⟩]) (
  .seq (.reg false [⟨some 5, .mv (.t 0), none⟩,
    ⟨some 6, .len false (.t 5), none⟩,
    ⟨some 7, .mk [(.v (.string ByteArray.empty)), (.v (.string ByteArray.empty))] 32 (.t 6) (.t 6), none⟩,
    ⟨some 3, .mv (.t 7), none⟩]) (
  .seq (.seq (.reg false [⟨some 4, .mv (.c (.v (.int .i64 0))), none⟩]) (
  .block 0 (.loop [0, 3, 4] e157x0 b157x0))) (
  .seq (.reg false [⟨some 22, .mv (.t 3), none⟩,
    ⟨some 2, .mv (.t 22), none⟩]) (
  .ret)))))⟩
theorem l157x0s (T : Table) (k n : Nat) (l2 : Rows) (l3 : Rows) (n4 : Int) : l157x0 T k (n + 1) [(.fz 2 l2), (.o 2 l3), (.v (.int .i64 n4))] = (
 bif (decide (n4 < (l2.length : Int))) then (
 tst (decide (0 ≤ n4)) (
 look l2 (Int.toNat n4) fun r5 =>
 cS r5 0 fun s6 =>
 cS r5 1 fun s7 =>
 callT T 176 [(.g [(.v (.string s6)), (.v (.string s7))])] fun o8 =>
 oG o8.res fun r9 =>
 tst (Nat.beq r9.length 2) (
 cS r9 0 fun s10 =>
 cS r9 1 fun s11 =>
 tst (decide (0 ≤ n4) && decide (Int.toNat n4 < l3.length)) (
 l157x0 T k n [(.fz 2 l2), (.o 2 (setD (setD l3 (Int.toNat n4) 0 (.v (.string s10))) (Int.toNat n4) 1 (.v (.string s11)))), (.v (.int .i64 (IntKind.wrap .i64 (n4 + 1))))])))) else (
 some ((.exit 0), [(.o 2 l3)]))) := by kernel_rfl
theorem a157q (T : Table) (k : Nat) (l1 : Rows) : evalF T k a157 [(.d (.s 2 l1))] = (
 tst (cutOk (l1.length : Int) (l1.length : Int) maxLen && decide (Int.toNat (l1.length : Int) * 32 ≤ maxBytes)) (
 aft (l157x0 T k k [(.fz 2 l1), (.o 2 (List.replicate (Int.toNat (l1.length : Int)) [(.v (.string ByteArray.empty)), (.v (.string ByteArray.empty))])), (.v (.int .i64 0))]) fun e12 ys13 =>
 bif e12.same (.exit 0) then (
 aV ys13 0 fun x14 =>
 aO 2 x14 fun l15 =>
 some ⟨(.d (.s 2 l15)), []⟩) else (
 none))) := by kernel_rfl

-- a158 "internal/bytealg.abigen_runtime_cmpstring": IndexError('list index out of range')
/- loop.example/g00119/laws.toIsland -/

def a133 : AFun := ⟨[.rd], false, [.c 2 true [.s, (.sl 2), (.sl 1), (.i .i64)]], (
  .seq (.reg false [⟨some 1, .box (.t 0), none⟩,
    ⟨some 2, .alloc [(.v (.string ByteArray.empty)), (.s 2 []), (.s 1 []), (.v (.int .i64 0))], none⟩]) (
  .seq (.reg false [⟨some 3, .alloc [(.v (.string ByteArray.empty)), (.s 2 []), (.s 1 []), (.v (.int .i64 0))], none⟩]) (
  .seq (.reg false [⟨some 4, .fad 0 (.t 1), none⟩,
    ⟨some 5, .load false [.s] (.t 4), none⟩,
    ⟨some 6, .fad 0 (.t 3), none⟩,
    ⟨none, .store 1 (.t 6) (.t 5), none⟩]) (
  .seq (.reg false [⟨some 7, .fad 1 (.t 1), none⟩,
    ⟨some 8, .load false [(.sl 2)] (.t 7), none⟩,
    ⟨some 9, .call (.f 157) [.rd] false [.c (.sl 2)] [(.t 8)], none⟩,
    ⟨some 10, .fad 1 (.t 3), none⟩,
    ⟨none, .store 1 (.t 10) (.t 9), none⟩]) (
  .seq (.reg false [⟨some 11, .fad 2 (.t 1), none⟩,
    ⟨some 12, .load false [(.sl 1)] (.t 11), none⟩,
    ⟨some 13, .call (.f 56) [.rd] false [.c (.sl 1)] [(.t 12)], none⟩,
    ⟨some 14, .fad 2 (.t 3), none⟩,
    ⟨none, .store 1 (.t 14) (.t 13), none⟩]) (
  .seq (.reg false [⟨some 15, .fad 3 (.t 1), none⟩,
    ⟨some 16, .load false [(.i .i64)] (.t 15), none⟩,
    ⟨some 17, .fad 3 (.t 3), none⟩,
    ⟨none, .store 1 (.t 17) (.t 16), none⟩]) (
  .seq (.reg false [⟨some 18, .load true [.s, (.sl 2), (.sl 1), (.i .i64)] (.t 3), none⟩,
    ⟨none, .store 4 (.t 2) (.t 18), none⟩]) (
  .ret))))))))⟩

theorem a133q (T : Table) (k : Nat) (s1 : ByteArray) (l2 : Rows) (l3 : Rows) (n4 : Int) : evalF T k a133 [(.g [(.v (.string s1)), (.s 2 l2), (.s 1 l3), (.v (.int .i64 n4))])] = (
 callT T 157 [(.d (.s 2 l2))] fun o5 =>
 oD o5.res fun d6 =>
 dL 2 d6 fun l7 =>
 callT T 56 [(.d (.s 1 l3))] fun o8 =>
 oD o8.res fun d9 =>
 dL 1 d9 fun l10 =>
 some ⟨(.g [(.v (.string s1)), (.s 2 l7), (.s 1 l10), (.v (.int .i64 n4))]), []⟩) := by kernel_rfl
/- loop.example/g00119/laws.toPost -/

def a99 : AFun := ⟨[.rd], false, [.c 2 true [.s, (.sl 2), (.sl 1), (.i .i64), (.i .i64), (.i .i64)]], (
  .seq (.reg false [⟨some 1, .box (.t 0), none⟩,
    ⟨some 2, .alloc [(.v (.string ByteArray.empty)), (.s 2 []), (.s 1 []), (.v (.int .i64 0)), (.v (.int .i64 0)), (.v (.int .i64 0))], none⟩]) (
  .seq (.reg false [⟨some 3, .alloc [(.v (.string ByteArray.empty)), (.s 2 []), (.s 1 []), (.v (.int .i64 0)), (.v (.int .i64 0)), (.v (.int .i64 0))], none⟩]) (
  .seq (.reg false [⟨some 4, .fad 0 (.t 1), none⟩,
    ⟨some 5, .load true [.s, (.sl 2), (.sl 1), (.i .i64)] (.t 4), none⟩,
    ⟨some 6, .call (.f 133) [.rd] false [.g [.s, (.sl 2), (.sl 1), (.i .i64)]] [(.t 5)], none⟩,
    ⟨some 7, .fad 0 (.t 3), none⟩,
    ⟨none, .store 4 (.t 7) (.t 6), none⟩]) (
  .seq (.reg false [⟨some 8, .fad 4 (.t 1), none⟩,
    ⟨some 9, .load false [(.i .i64)] (.t 8), none⟩,
    ⟨some 10, .fad 4 (.t 3), none⟩,
    ⟨none, .store 1 (.t 10) (.t 9), none⟩]) (
  .seq (.reg false [⟨some 11, .fad 5 (.t 1), none⟩,
    ⟨some 12, .load false [(.i .i64)] (.t 11), none⟩,
    ⟨some 13, .fad 5 (.t 3), none⟩,
    ⟨none, .store 1 (.t 13) (.t 12), none⟩]) (
  .seq (.reg false [⟨some 14, .load true [.s, (.sl 2), (.sl 1), (.i .i64), (.i .i64), (.i .i64)] (.t 3), none⟩,
    ⟨none, .store 6 (.t 2) (.t 14), none⟩]) (
  .ret)))))))⟩

theorem a99q (T : Table) (k : Nat) (s1 : ByteArray) (l2 : Rows) (l3 : Rows) (n4 : Int) (n5 : Int) (n6 : Int) : evalF T k a99 [(.g [(.v (.string s1)), (.s 2 l2), (.s 1 l3), (.v (.int .i64 n4)), (.v (.int .i64 n5)), (.v (.int .i64 n6))])] = (
 callT T 133 [(.g [(.v (.string s1)), (.s 2 l2), (.s 1 l3), (.v (.int .i64 n4))])] fun o7 =>
 oG o7.res fun r8 =>
 tst (Nat.beq r8.length 4) (
 cS r8 0 fun s9 =>
 cL 2 r8 1 fun l10 =>
 cL 1 r8 2 fun l11 =>
 cI .i64 r8 3 fun n12 =>
 some ⟨(.g [(.v (.string s9)), (.s 2 l10), (.s 1 l11), (.v (.int .i64 n12)), (.v (.int .i64 n5)), (.v (.int .i64 n6))]), []⟩)) := by kernel_rfl
/- loop.example/g00119/laws.toPostS -/
def b54x0 : ACode := (
  .seq (.seq (.reg false [⟨some 8, .mv (.t 4), none⟩,
    ⟨some 9, .mv (.t 0), none⟩,
    ⟨some 10, .len false (.t 9), none⟩,
    ⟨some 11, .bin .lss (.t 8) (.t 10), none⟩]) (
  .cond (.t 11) (.skip) (.exit 0))) (
  .seq (.block 1 (.reg false [⟨some 14, .mv (.t 3), none⟩,
      ⟨some 15, .mv (.t 4), none⟩,
      ⟨some 16, .mv (.t 0), none⟩,
      ⟨some 17, .mv (.t 4), none⟩,
      ⟨some 18, .iad 6 (.t 16) (.t 17), none⟩,
      ⟨some 19, .load true [.s, (.sl 2), (.sl 1), (.i .i64), (.i .i64), (.i .i64)] (.t 18), none⟩,
      ⟨some 20, .call (.f 99) [.rd] false [.g [.s, (.sl 2), (.sl 1), (.i .i64), (.i .i64), (.i .i64)]] [(.t 19)], none⟩,
      ⟨some 21, .iad 6 (.t 14) (.t 15), none⟩,
      ⟨none, .store 6 (.t 21) (.t 20), none⟩])) (
  .reg false [⟨some 12, .mv (.t 4), none⟩,
    ⟨some 13, .bin .add (.t 12) (.c (.v (.int .i64 1))), none⟩,
    ⟨some 4, .mv (.t 13), none⟩])))
def e54x0 : Exits := [((.exit 0), [(3, .o 6)])]
noncomputable def l54x0 (T : Table) (k : Nat) := loopN (evalC ⟨T, []⟩ k b54x0 (Ex × List AV)) [0, 3, 4] e54x0
def a54 : AFun := ⟨[.rd], false, [.t 2], (
  .seq (.reg false [⟨some 2, .mv (.c (.o 6 [])), none⟩]) (
  .seq (.reg false [⟨some 5, .mv (.t 0), none⟩,
    ⟨some 6, .len false (.t 5), none⟩,
    ⟨some 7, .mk [(.v (.string ByteArray.empty)), (.s 2 []), (.s 1 []), (.v (.int .i64 0)), (.v (.int .i64 0)), (.v (.int .i64 0))] 88 (.t 6) (.t 6), none⟩,
    ⟨some 3, .mv (.t 7), none⟩]) (
  .seq (.seq (.reg false [⟨some 4, .mv (.c (.v (.int .i64 0))), none⟩]) (
  .block 0 (.loop [0, 3, 4] e54x0 b54x0))) (
  .seq (.reg false [⟨some 22, .mv (.t 3), none⟩,
    ⟨some 2, .mv (.t 22), none⟩]) (
  .ret)))))⟩
theorem l54x0s (T : Table) (k n : Nat) (l2 : Rows) (l3 : Rows) (n4 : Int) : l54x0 T k (n + 1) [(.fz 6 l2), (.o 6 l3), (.v (.int .i64 n4))] = (
 bif (decide (n4 < (l2.length : Int))) then (
 tst (decide (0 ≤ n4)) (
 look l2 (Int.toNat n4) fun r5 =>
 cS r5 0 fun s6 =>
 cL 2 r5 1 fun l7 =>
 cL 1 r5 2 fun l8 =>
 cI .i64 r5 3 fun n9 =>
 cI .i64 r5 4 fun n10 =>
 cI .i64 r5 5 fun n11 =>
 callT T 99 [(.g [(.v (.string s6)), (.s 2 l7), (.s 1 l8), (.v (.int .i64 n9)), (.v (.int .i64 n10)), (.v (.int .i64 n11))])] fun o12 =>
 oG o12.res fun r13 =>
 tst (Nat.beq r13.length 6) (
 cS r13 0 fun s14 =>
 cL 2 r13 1 fun l15 =>
 cL 1 r13 2 fun l16 =>
 cI .i64 r13 3 fun n17 =>
 cI .i64 r13 4 fun n18 =>
 cI .i64 r13 5 fun n19 =>
 tst (decide (0 ≤ n4) && decide (Int.toNat n4 < l3.length)) (
 l54x0 T k n [(.fz 6 l2), (.o 6 (setD (setD (setD (setD (setD (setD (setD (setD l3 (Int.toNat n4) 0 (.v (.string s14))) (Int.toNat n4) 1 hole) (Int.toNat n4) 2 hole) (Int.toNat n4) 3 (.v (.int .i64 n17))) (Int.toNat n4) 4 (.v (.int .i64 n18))) (Int.toNat n4) 5 (.v (.int .i64 n19))) (Int.toNat n4) 2 (.s 1 l16)) (Int.toNat n4) 1 (.s 2 l15))), (.v (.int .i64 (IntKind.wrap .i64 (n4 + 1))))])))) else (
 some ((.exit 0), [(.o 6 l3)]))) := by kernel_rfl
theorem a54q (T : Table) (k : Nat) (l1 : Rows) : evalF T k a54 [(.d (.s 6 l1))] = (
 tst (cutOk (l1.length : Int) (l1.length : Int) maxLen && decide (Int.toNat (l1.length : Int) * 88 ≤ maxBytes)) (
 aft (l54x0 T k k [(.fz 6 l1), (.o 6 (List.replicate (Int.toNat (l1.length : Int)) [(.v (.string ByteArray.empty)), (.s 2 []), (.s 1 []), (.v (.int .i64 0)), (.v (.int .i64 0)), (.v (.int .i64 0))])), (.v (.int .i64 0))]) fun e20 ys21 =>
 bif e20.same (.exit 0) then (
 aV ys21 0 fun x22 =>
 aO 6 x22 fun l23 =>
 some ⟨(.d (.s 6 l23)), []⟩) else (
 none))) := by kernel_rfl
/- loop.example/g00119/laws.toHold -/

def a100 : AFun := ⟨[.rd], false, [.c 2 true [(.i .i64), .s, (.i .i64), (.i .i64), (.i .i64)]], (
  .seq (.reg false [⟨some 1, .box (.t 0), none⟩,
    ⟨some 2, .alloc [(.v (.int .i64 0)), (.v (.string ByteArray.empty)), (.v (.int .i64 0)), (.v (.int .i64 0)), (.v (.int .i64 0))], none⟩]) (
  .seq (.reg false [⟨some 3, .alloc [(.v (.int .i64 0)), (.v (.string ByteArray.empty)), (.v (.int .i64 0)), (.v (.int .i64 0)), (.v (.int .i64 0))], none⟩]) (
  .seq (.reg false [⟨some 4, .fad 0 (.t 1), none⟩,
    ⟨some 5, .load false [(.i .i64)] (.t 4), none⟩,
    ⟨some 6, .fad 0 (.t 3), none⟩,
    ⟨none, .store 1 (.t 6) (.t 5), none⟩]) (
  .seq (.reg false [⟨some 7, .fad 1 (.t 1), none⟩,
    ⟨some 8, .load false [.s] (.t 7), none⟩,
    ⟨some 9, .fad 1 (.t 3), none⟩,
    ⟨none, .store 1 (.t 9) (.t 8), none⟩]) (
  .seq (.reg false [⟨some 10, .fad 2 (.t 1), none⟩,
    ⟨some 11, .load false [(.i .i64)] (.t 10), none⟩,
    ⟨some 12, .fad 2 (.t 3), none⟩,
    ⟨none, .store 1 (.t 12) (.t 11), none⟩]) (
  .seq (.reg false [⟨some 13, .fad 3 (.t 1), none⟩,
    ⟨some 14, .load false [(.i .i64)] (.t 13), none⟩,
    ⟨some 15, .fad 3 (.t 3), none⟩,
    ⟨none, .store 1 (.t 15) (.t 14), none⟩]) (
  .seq (.reg false [⟨some 16, .fad 4 (.t 1), none⟩,
    ⟨some 17, .load false [(.i .i64)] (.t 16), none⟩,
    ⟨some 18, .fad 4 (.t 3), none⟩,
    ⟨none, .store 1 (.t 18) (.t 17), none⟩]) (
  .seq (.reg false [⟨some 19, .load true [(.i .i64), .s, (.i .i64), (.i .i64), (.i .i64)] (.t 3), none⟩,
    ⟨none, .store 5 (.t 2) (.t 19), none⟩]) (
  .ret)))))))))⟩

theorem a100q (T : Table) (k : Nat) (n1 : Int) (s2 : ByteArray) (n3 : Int) (n4 : Int) (n5 : Int) : evalF T k a100 [(.g [(.v (.int .i64 n1)), (.v (.string s2)), (.v (.int .i64 n3)), (.v (.int .i64 n4)), (.v (.int .i64 n5))])] = (
 some ⟨(.g [(.v (.int .i64 n1)), (.v (.string s2)), (.v (.int .i64 n3)), (.v (.int .i64 n4)), (.v (.int .i64 n5))]), []⟩) := by kernel_rfl
/- loop.example/g00119/laws.toHoldS -/
def b55x0 : ACode := (
  .seq (.seq (.reg false [⟨some 8, .mv (.t 4), none⟩,
    ⟨some 9, .mv (.t 0), none⟩,
    ⟨some 10, .len false (.t 9), none⟩,
    ⟨some 11, .bin .lss (.t 8) (.t 10), none⟩]) (
  .cond (.t 11) (.skip) (.exit 0))) (
  .seq (.block 1 (.reg false [⟨some 14, .mv (.t 3), none⟩,
      ⟨some 15, .mv (.t 4), none⟩,
      ⟨some 16, .mv (.t 0), none⟩,
      ⟨some 17, .mv (.t 4), none⟩,
      ⟨some 18, .iad 5 (.t 16) (.t 17), none⟩,
      ⟨some 19, .load true [(.i .i64), .s, (.i .i64), (.i .i64), (.i .i64)] (.t 18), none⟩,
      ⟨some 20, .call (.f 100) [.rd] false [.g [(.i .i64), .s, (.i .i64), (.i .i64), (.i .i64)]] [(.t 19)], none⟩,
      ⟨some 21, .iad 5 (.t 14) (.t 15), none⟩,
      ⟨none, .store 5 (.t 21) (.t 20), none⟩])) (
  .reg false [⟨some 12, .mv (.t 4), none⟩,
    ⟨some 13, .bin .add (.t 12) (.c (.v (.int .i64 1))), none⟩,
    ⟨some 4, .mv (.t 13), none⟩])))
def e55x0 : Exits := [((.exit 0), [(3, .o 5)])]
noncomputable def l55x0 (T : Table) (k : Nat) := loopN (evalC ⟨T, []⟩ k b55x0 (Ex × List AV)) [0, 3, 4] e55x0
def a55 : AFun := ⟨[.rd], false, [.t 2], (
  .seq (.reg false [⟨some 2, .mv (.c (.o 5 [])), none⟩]) (
  .seq (.reg false [⟨some 5, .mv (.t 0), none⟩,
    ⟨some 6, .len false (.t 5), none⟩,
    ⟨some 7, .mk [(.v (.int .i64 0)), (.v (.string ByteArray.empty)), (.v (.int .i64 0)), (.v (.int .i64 0)), (.v (.int .i64 0))] 48 (.t 6) (.t 6), none⟩,
    ⟨some 3, .mv (.t 7), none⟩]) (
  .seq (.seq (.reg false [⟨some 4, .mv (.c (.v (.int .i64 0))), none⟩]) (
  .block 0 (.loop [0, 3, 4] e55x0 b55x0))) (
  .seq (.reg false [⟨some 22, .mv (.t 3), none⟩,
    ⟨some 2, .mv (.t 22), none⟩]) (
  .ret)))))⟩
theorem l55x0s (T : Table) (k n : Nat) (l2 : Rows) (l3 : Rows) (n4 : Int) : l55x0 T k (n + 1) [(.fz 5 l2), (.o 5 l3), (.v (.int .i64 n4))] = (
 bif (decide (n4 < (l2.length : Int))) then (
 tst (decide (0 ≤ n4)) (
 look l2 (Int.toNat n4) fun r5 =>
 cI .i64 r5 0 fun n6 =>
 cS r5 1 fun s7 =>
 cI .i64 r5 2 fun n8 =>
 cI .i64 r5 3 fun n9 =>
 cI .i64 r5 4 fun n10 =>
 callT T 100 [(.g [(.v (.int .i64 n6)), (.v (.string s7)), (.v (.int .i64 n8)), (.v (.int .i64 n9)), (.v (.int .i64 n10))])] fun o11 =>
 oG o11.res fun r12 =>
 tst (Nat.beq r12.length 5) (
 cI .i64 r12 0 fun n13 =>
 cS r12 1 fun s14 =>
 cI .i64 r12 2 fun n15 =>
 cI .i64 r12 3 fun n16 =>
 cI .i64 r12 4 fun n17 =>
 tst (decide (0 ≤ n4) && decide (Int.toNat n4 < l3.length)) (
 l55x0 T k n [(.fz 5 l2), (.o 5 (setD (setD (setD (setD (setD l3 (Int.toNat n4) 0 (.v (.int .i64 n13))) (Int.toNat n4) 1 (.v (.string s14))) (Int.toNat n4) 2 (.v (.int .i64 n15))) (Int.toNat n4) 3 (.v (.int .i64 n16))) (Int.toNat n4) 4 (.v (.int .i64 n17)))), (.v (.int .i64 (IntKind.wrap .i64 (n4 + 1))))])))) else (
 some ((.exit 0), [(.o 5 l3)]))) := by kernel_rfl
theorem a55q (T : Table) (k : Nat) (l1 : Rows) : evalF T k a55 [(.d (.s 5 l1))] = (
 tst (cutOk (l1.length : Int) (l1.length : Int) maxLen && decide (Int.toNat (l1.length : Int) * 48 ≤ maxBytes)) (
 aft (l55x0 T k k [(.fz 5 l1), (.o 5 (List.replicate (Int.toNat (l1.length : Int)) [(.v (.int .i64 0)), (.v (.string ByteArray.empty)), (.v (.int .i64 0)), (.v (.int .i64 0)), (.v (.int .i64 0))])), (.v (.int .i64 0))]) fun e18 ys19 =>
 bif e18.same (.exit 0) then (
 aV ys19 0 fun x20 =>
 aO 5 x20 fun l21 =>
 some ⟨(.d (.s 5 l21)), []⟩) else (
 none))) := by kernel_rfl
/- loop.example/g00119/laws.toHub -/

def a20 : AFun := ⟨[.rd], false, [.c 2 true [(.i .i64), (.i .i64), (.i .i64), (.sl 13), (.sl 6), (.sl 5), (.sl 1)]], (
  .seq (.reg false [⟨some 1, .box (.t 0), none⟩,
    ⟨some 2, .alloc [(.v (.int .i64 0)), (.v (.int .i64 0)), (.v (.int .i64 0)), (.s 13 []), (.s 6 []), (.s 5 []), (.s 1 [])], none⟩]) (
  .seq (.reg false [⟨some 3, .alloc [(.v (.int .i64 0)), (.v (.int .i64 0)), (.v (.int .i64 0)), (.s 13 []), (.s 6 []), (.s 5 []), (.s 1 [])], none⟩]) (
  .seq (.reg false [⟨some 4, .fad 0 (.t 1), none⟩,
    ⟨some 5, .load false [(.i .i64)] (.t 4), none⟩,
    ⟨some 6, .fad 0 (.t 3), none⟩,
    ⟨none, .store 1 (.t 6) (.t 5), none⟩]) (
  .seq (.reg false [⟨some 7, .fad 1 (.t 1), none⟩,
    ⟨some 8, .load false [(.i .i64)] (.t 7), none⟩,
    ⟨some 9, .fad 1 (.t 3), none⟩,
    ⟨none, .store 1 (.t 9) (.t 8), none⟩]) (
  .seq (.reg false [⟨some 10, .fad 2 (.t 1), none⟩,
    ⟨some 11, .load false [(.i .i64)] (.t 10), none⟩,
    ⟨some 12, .fad 2 (.t 3), none⟩,
    ⟨none, .store 1 (.t 12) (.t 11), none⟩]) (
  .seq (.reg false [⟨some 13, .fad 3 (.t 1), none⟩,
    ⟨some 14, .load false [(.sl 13)] (.t 13), none⟩,
    ⟨some 15, .call (.f 53) [.rd] false [.c (.sl 13)] [(.t 14)], none⟩,
    ⟨some 16, .fad 3 (.t 3), none⟩,
    ⟨none, .store 1 (.t 16) (.t 15), none⟩]) (
  .seq (.reg false [⟨some 17, .fad 4 (.t 1), none⟩,
    ⟨some 18, .load false [(.sl 6)] (.t 17), none⟩,
    ⟨some 19, .call (.f 54) [.rd] false [.c (.sl 6)] [(.t 18)], none⟩,
    ⟨some 20, .fad 4 (.t 3), none⟩,
    ⟨none, .store 1 (.t 20) (.t 19), none⟩]) (
  .seq (.reg false [⟨some 21, .fad 5 (.t 1), none⟩,
    ⟨some 22, .load false [(.sl 5)] (.t 21), none⟩,
    ⟨some 23, .call (.f 55) [.rd] false [.c (.sl 5)] [(.t 22)], none⟩,
    ⟨some 24, .fad 5 (.t 3), none⟩,
    ⟨none, .store 1 (.t 24) (.t 23), none⟩]) (
  .seq (.reg false [⟨some 25, .fad 6 (.t 1), none⟩,
    ⟨some 26, .load false [(.sl 1)] (.t 25), none⟩,
    ⟨some 27, .call (.f 56) [.rd] false [.c (.sl 1)] [(.t 26)], none⟩,
    ⟨some 28, .fad 6 (.t 3), none⟩,
    ⟨none, .store 1 (.t 28) (.t 27), none⟩]) (
  .seq (.reg false [⟨some 29, .load true [(.i .i64), (.i .i64), (.i .i64), (.sl 13), (.sl 6), (.sl 5), (.sl 1)] (.t 3), none⟩,
    ⟨none, .store 7 (.t 2) (.t 29), none⟩]) (
  .ret)))))))))))⟩

theorem a20q (T : Table) (k : Nat) (n1 : Int) (n2 : Int) (n3 : Int) (l4 : Rows) (l5 : Rows) (l6 : Rows) (l7 : Rows) : evalF T k a20 [(.g [(.v (.int .i64 n1)), (.v (.int .i64 n2)), (.v (.int .i64 n3)), (.s 13 l4), (.s 6 l5), (.s 5 l6), (.s 1 l7)])] = (
 callT T 53 [(.d (.s 13 l4))] fun o8 =>
 oD o8.res fun d9 =>
 dL 13 d9 fun l10 =>
 callT T 54 [(.d (.s 6 l5))] fun o11 =>
 oD o11.res fun d12 =>
 dL 6 d12 fun l13 =>
 callT T 55 [(.d (.s 5 l6))] fun o14 =>
 oD o14.res fun d15 =>
 dL 5 d15 fun l16 =>
 callT T 56 [(.d (.s 1 l7))] fun o17 =>
 oD o17.res fun d18 =>
 dL 1 d18 fun l19 =>
 some ⟨(.g [(.v (.int .i64 n1)), (.v (.int .i64 n2)), (.v (.int .i64 n3)), (.s 13 l10), (.s 6 l13), (.s 5 l16), (.s 1 l19)]), []⟩) := by kernel_rfl
/- loop.example/g00119/laws.eqStringS -/
def b63x0 : ACode := (
  .seq (.seq (.reg false [⟨some 11, .mv (.t 5), none⟩,
    ⟨some 12, .mv (.t 0), none⟩,
    ⟨some 13, .len false (.t 12), none⟩,
    ⟨some 14, .bin .lss (.t 11) (.t 13), none⟩]) (
  .cond (.t 14) (.skip) (.exit 0))) (
  .seq (.block 1 (.seq (.dreg [] [(0, ⟨some 17, .mv (.t 0), none⟩),
      (0, ⟨some 18, .mv (.t 5), none⟩),
      (0, ⟨some 19, .iad 1 (.t 17) (.t 18), none⟩),
      (0, ⟨some 20, .load false [.s] (.t 19), none⟩),
      (0, ⟨some 21, .mv (.t 1), none⟩),
      (0, ⟨some 22, .mv (.t 5), none⟩),
      (0, ⟨some 23, .iad 1 (.t 21) (.t 22), none⟩),
      (0, ⟨some 24, .load false [.s] (.t 23), none⟩)] [⟨some 25, .bin .neq (.t 20) (.t 24), none⟩]) (
    .cond (.t 25) (.seq (.reg false [⟨some 4, .mv (.c (.v (.bool false))), none⟩]) (
      .ret)) (.skip)))) (
  .reg false [⟨some 15, .mv (.t 5), none⟩,
    ⟨some 16, .bin .add (.t 15) (.c (.v (.int .i64 1))), none⟩,
    ⟨some 5, .mv (.t 16), none⟩])))
def e63x0 : Exits := [(.ret, [(4, .c .b)]), ((.exit 0), [])]
noncomputable def l63x0 (T : Table) (k : Nat) := loopN (evalC ⟨T, []⟩ k b63x0 (Ex × List AV)) [0, 1, 5] e63x0
def a63 : AFun := ⟨[.rd, .rd], false, [.t 4], (
  .seq (.reg false [⟨some 4, .mv (.c (.v (.bool false))), none⟩]) (
  .seq (.seq (.reg false [⟨some 6, .mv (.t 0), none⟩,
    ⟨some 7, .len false (.t 6), none⟩,
    ⟨some 8, .mv (.t 1), none⟩,
    ⟨some 9, .len false (.t 8), none⟩,
    ⟨some 10, .bin .neq (.t 7) (.t 9), none⟩]) (
  .cond (.t 10) (.seq (.reg false [⟨some 4, .mv (.c (.v (.bool false))), none⟩]) (
    .ret)) (.skip))) (
  .seq (.seq (.reg false [⟨some 5, .mv (.c (.v (.int .i64 0))), none⟩]) (
  .block 0 (.loop [0, 1, 5] e63x0 b63x0))) (
  .seq (.reg false [⟨some 4, .mv (.c (.v (.bool true))), none⟩]) (
  .ret)))))⟩
theorem l63x0s (T : Table) (k n : Nat) (l3 : Rows) (l4 : Rows) (n5 : Int) : l63x0 T k (n + 1) [(.fz 1 l3), (.fz 1 l4), (.v (.int .i64 n5))] = (
 bif (decide (n5 < (l3.length : Int))) then (
 tst (decide (0 ≤ n5)) (
 look l3 (Int.toNat n5) fun r6 =>
 cS r6 0 fun s7 =>
 tst (decide (0 ≤ n5)) (
 look l4 (Int.toNat n5) fun r8 =>
 cS r8 0 fun s9 =>
 bif (!(bytesEq s7 s9)) then (
 some (.ret, [(.v (.bool false))])) else (
 l63x0 T k n [(.fz 1 l3), (.fz 1 l4), (.v (.int .i64 (IntKind.wrap .i64 (n5 + 1))))])))) else (
 some ((.exit 0), []))) := by kernel_rfl
theorem a63q (T : Table) (k : Nat) (l1 : Rows) (l2 : Rows) : evalF T k a63 [(.d (.s 1 l1)), (.d (.s 1 l2))] = (
 bif ((l1.length : Int) != (l2.length : Int)) then (
 some ⟨(.d (.v (.bool false))), []⟩) else (
 aft (l63x0 T k k [(.fz 1 l1), (.fz 1 l2), (.v (.int .i64 0))]) fun e10 ys11 =>
 bif e10.same .ret then (
 aV ys11 0 fun x12 =>
 aB x12 fun b13 =>
 some ⟨(.d (.v (.bool b13))), []⟩) else (
 bif e10.same (.exit 0) then (
 some ⟨(.d (.v (.bool true))), []⟩) else (
 none)))) := by kernel_rfl
/- loop.example/g00119/laws.eqValueS -/
def b149x0 : ACode := (
  .seq (.seq (.reg false [⟨some 11, .mv (.t 5), none⟩,
    ⟨some 12, .mv (.t 0), none⟩,
    ⟨some 13, .len false (.t 12), none⟩,
    ⟨some 14, .bin .lss (.t 11) (.t 13), none⟩]) (
  .cond (.t 14) (.skip) (.exit 0))) (
  .seq (.block 1 (.seq (.dreg [] [(0, ⟨some 17, .mv (.t 0), none⟩),
      (0, ⟨some 18, .mv (.t 5), none⟩),
      (0, ⟨some 19, .iad 5 (.t 17) (.t 18), none⟩),
      (0, ⟨some 20, .load true [(.i .i64), .s, (.i .i64), (.sl 1), (.sl 5)] (.t 19), none⟩),
      (0, ⟨some 21, .mv (.t 1), none⟩),
      (0, ⟨some 22, .mv (.t 5), none⟩),
      (0, ⟨some 23, .iad 5 (.t 21) (.t 22), none⟩),
      (0, ⟨some 24, .load true [(.i .i64), .s, (.i .i64), (.sl 1), (.sl 5)] (.t 23), none⟩)] [⟨some 25, .call (.f 127) [.rd, .rd] false [.c .b] [(.t 20), (.t 24)], none⟩,
      ⟨some 26, .un .not (.t 25), none⟩]) (
    .cond (.t 26) (.seq (.reg false [⟨some 4, .mv (.c (.v (.bool false))), none⟩]) (
      .ret)) (.skip)))) (
  .reg false [⟨some 15, .mv (.t 5), none⟩,
    ⟨some 16, .bin .add (.t 15) (.c (.v (.int .i64 1))), none⟩,
    ⟨some 5, .mv (.t 16), none⟩])))
def e149x0 : Exits := [(.ret, [(4, .c .b)]), ((.exit 0), [])]
noncomputable def l149x0 (T : Table) (k : Nat) := loopN (evalC ⟨T, []⟩ k b149x0 (Ex × List AV)) [0, 1, 5] e149x0
def a149 : AFun := ⟨[.rd, .rd], false, [.t 4], (
  .seq (.reg false [⟨some 4, .mv (.c (.v (.bool false))), none⟩]) (
  .seq (.seq (.reg false [⟨some 6, .mv (.t 0), none⟩,
    ⟨some 7, .len false (.t 6), none⟩,
    ⟨some 8, .mv (.t 1), none⟩,
    ⟨some 9, .len false (.t 8), none⟩,
    ⟨some 10, .bin .neq (.t 7) (.t 9), none⟩]) (
  .cond (.t 10) (.seq (.reg false [⟨some 4, .mv (.c (.v (.bool false))), none⟩]) (
    .ret)) (.skip))) (
  .seq (.seq (.reg false [⟨some 5, .mv (.c (.v (.int .i64 0))), none⟩]) (
  .block 0 (.loop [0, 1, 5] e149x0 b149x0))) (
  .seq (.reg false [⟨some 4, .mv (.c (.v (.bool true))), none⟩]) (
  .ret)))))⟩
theorem l149x0s (T : Table) (k n : Nat) (l3 : Rows) (l4 : Rows) (n5 : Int) : l149x0 T k (n + 1) [(.fz 5 l3), (.fz 5 l4), (.v (.int .i64 n5))] = (
 bif (decide (n5 < (l3.length : Int))) then (
 tst (decide (0 ≤ n5)) (
 look l3 (Int.toNat n5) fun r6 =>
 cI .i64 r6 0 fun n7 =>
 cS r6 1 fun s8 =>
 cI .i64 r6 2 fun n9 =>
 cL 1 r6 3 fun l10 =>
 cL 5 r6 4 fun l11 =>
 tst (decide (0 ≤ n5)) (
 look l4 (Int.toNat n5) fun r12 =>
 cI .i64 r12 0 fun n13 =>
 cS r12 1 fun s14 =>
 cI .i64 r12 2 fun n15 =>
 cL 1 r12 3 fun l16 =>
 cL 5 r12 4 fun l17 =>
 callT T 127 [(.g [(.v (.int .i64 n7)), (.v (.string s8)), (.v (.int .i64 n9)), (.s 1 l10), (.s 5 l11)]), (.g [(.v (.int .i64 n13)), (.v (.string s14)), (.v (.int .i64 n15)), (.s 1 l16), (.s 5 l17)])] fun o18 =>
 oD o18.res fun d19 =>
 dB d19 fun b20 =>
 bif (!b20) then (
 some (.ret, [(.v (.bool false))])) else (
 l149x0 T k n [(.fz 5 l3), (.fz 5 l4), (.v (.int .i64 (IntKind.wrap .i64 (n5 + 1))))])))) else (
 some ((.exit 0), []))) := by kernel_rfl
theorem a149q (T : Table) (k : Nat) (l1 : Rows) (l2 : Rows) : evalF T k a149 [(.d (.s 5 l1)), (.d (.s 5 l2))] = (
 bif ((l1.length : Int) != (l2.length : Int)) then (
 some ⟨(.d (.v (.bool false))), []⟩) else (
 aft (l149x0 T k k [(.fz 5 l1), (.fz 5 l2), (.v (.int .i64 0))]) fun e21 ys22 =>
 bif e21.same .ret then (
 aV ys22 0 fun x23 =>
 aB x23 fun b24 =>
 some ⟨(.d (.v (.bool b24))), []⟩) else (
 bif e21.same (.exit 0) then (
 some ⟨(.d (.v (.bool true))), []⟩) else (
 none)))) := by kernel_rfl
/- loop.example/g00119/laws.eqValue -/

def a127 : AFun := ⟨[.rd, .rd], false, [.t 4], (
  .seq (.reg false [⟨some 2, .box (.t 0), none⟩,
    ⟨some 3, .box (.t 1), none⟩,
    ⟨some 4, .mv (.c (.v (.bool false))), none⟩]) (
  .seq (.seq (.reg false [⟨some 5, .fad 0 (.t 2), none⟩,
    ⟨some 6, .load false [(.i .i64)] (.t 5), none⟩,
    ⟨some 7, .fad 0 (.t 3), none⟩,
    ⟨some 8, .load false [(.i .i64)] (.t 7), none⟩,
    ⟨some 9, .bin .neq (.t 6) (.t 8), none⟩]) (
  .cond (.t 9) (.seq (.reg false [⟨some 4, .mv (.c (.v (.bool false))), none⟩]) (
    .ret)) (.skip))) (
  .seq (.seq (.reg false [⟨some 10, .fad 1 (.t 2), none⟩,
    ⟨some 11, .load false [.s] (.t 10), none⟩,
    ⟨some 12, .fad 1 (.t 3), none⟩,
    ⟨some 13, .load false [.s] (.t 12), none⟩,
    ⟨some 14, .bin .neq (.t 11) (.t 13), none⟩]) (
  .cond (.t 14) (.seq (.reg false [⟨some 4, .mv (.c (.v (.bool false))), none⟩]) (
    .ret)) (.skip))) (
  .seq (.seq (.reg false [⟨some 15, .fad 2 (.t 2), none⟩,
    ⟨some 16, .load false [(.i .i64)] (.t 15), none⟩,
    ⟨some 17, .fad 2 (.t 3), none⟩,
    ⟨some 18, .load false [(.i .i64)] (.t 17), none⟩,
    ⟨some 19, .bin .neq (.t 16) (.t 18), none⟩]) (
  .cond (.t 19) (.seq (.reg false [⟨some 4, .mv (.c (.v (.bool false))), none⟩]) (
    .ret)) (.skip))) (
  .seq (.seq (.reg false [⟨some 20, .fad 3 (.t 2), none⟩,
    ⟨some 21, .load false [(.sl 1)] (.t 20), none⟩,
    ⟨some 22, .fad 3 (.t 3), none⟩,
    ⟨some 23, .load false [(.sl 1)] (.t 22), none⟩,
    ⟨some 24, .call (.f 63) [.rd, .rd] false [.c .b] [(.t 21), (.t 23)], none⟩,
    ⟨some 25, .un .not (.t 24), none⟩]) (
  .cond (.t 25) (.seq (.reg false [⟨some 4, .mv (.c (.v (.bool false))), none⟩]) (
    .ret)) (.skip))) (
  .seq (.seq (.reg false [⟨some 26, .fad 4 (.t 2), none⟩,
    ⟨some 27, .load false [(.sl 5)] (.t 26), none⟩,
    ⟨some 28, .fad 4 (.t 3), none⟩,
    ⟨some 29, .load false [(.sl 5)] (.t 28), none⟩,
    ⟨some 30, .call (.f 149) [.rd, .rd] false [.c .b] [(.t 27), (.t 29)], none⟩,
    ⟨some 31, .un .not (.t 30), none⟩]) (
  .cond (.t 31) (.seq (.reg false [⟨some 4, .mv (.c (.v (.bool false))), none⟩]) (
    .ret)) (.skip))) (
  .seq (.reg false [⟨some 4, .mv (.c (.v (.bool true))), none⟩]) (
  .ret))))))))⟩

theorem a127q (T : Table) (k : Nat) (n1 : Int) (s2 : ByteArray) (n3 : Int) (l4 : Rows) (l5 : Rows) (n6 : Int) (s7 : ByteArray) (n8 : Int) (l9 : Rows) (l10 : Rows) : evalF T k a127 [(.g [(.v (.int .i64 n1)), (.v (.string s2)), (.v (.int .i64 n3)), (.s 1 l4), (.s 5 l5)]), (.g [(.v (.int .i64 n6)), (.v (.string s7)), (.v (.int .i64 n8)), (.s 1 l9), (.s 5 l10)])] = (
 bif (n1 != n6) then (
 some ⟨(.d (.v (.bool false))), []⟩) else (
 bif (!(bytesEq s2 s7)) then (
 some ⟨(.d (.v (.bool false))), []⟩) else (
 bif (n3 != n8) then (
 some ⟨(.d (.v (.bool false))), []⟩) else (
 callT T 63 [(.d (.s 1 l4)), (.d (.s 1 l9))] fun o11 =>
 oD o11.res fun d12 =>
 dB d12 fun b13 =>
 bif (!b13) then (
 some ⟨(.d (.v (.bool false))), []⟩) else (
 callT T 149 [(.d (.s 5 l5)), (.d (.s 5 l10))] fun o14 =>
 oD o14.res fun d15 =>
 dB d15 fun b16 =>
 bif (!b16) then (
 some ⟨(.d (.v (.bool false))), []⟩) else (
 some ⟨(.d (.v (.bool true))), []⟩)))))) := by kernel_rfl
/- loop.example/g00119/laws.eqTerm -/

def a177 : AFun := ⟨[.rd, .rd], false, [.t 4], (
  .seq (.reg false [⟨some 2, .box (.t 0), none⟩,
    ⟨some 3, .box (.t 1), none⟩,
    ⟨some 4, .mv (.c (.v (.bool false))), none⟩]) (
  .seq (.seq (.reg false [⟨some 5, .fad 0 (.t 2), none⟩,
    ⟨some 6, .load false [(.i .i64)] (.t 5), none⟩,
    ⟨some 7, .fad 0 (.t 3), none⟩,
    ⟨some 8, .load false [(.i .i64)] (.t 7), none⟩,
    ⟨some 9, .bin .neq (.t 6) (.t 8), none⟩]) (
  .cond (.t 9) (.seq (.reg false [⟨some 4, .mv (.c (.v (.bool false))), none⟩]) (
    .ret)) (.skip))) (
  .seq (.seq (.reg false [⟨some 10, .fad 1 (.t 2), none⟩,
    ⟨some 11, .load false [.s] (.t 10), none⟩,
    ⟨some 12, .fad 1 (.t 3), none⟩,
    ⟨some 13, .load false [.s] (.t 12), none⟩,
    ⟨some 14, .bin .neq (.t 11) (.t 13), none⟩]) (
  .cond (.t 14) (.seq (.reg false [⟨some 4, .mv (.c (.v (.bool false))), none⟩]) (
    .ret)) (.skip))) (
  .seq (.seq (.reg false [⟨some 15, .fad 2 (.t 2), none⟩,
    ⟨some 16, .load false [(.sl 1)] (.t 15), none⟩,
    ⟨some 17, .fad 2 (.t 3), none⟩,
    ⟨some 18, .load false [(.sl 1)] (.t 17), none⟩,
    ⟨some 19, .call (.f 63) [.rd, .rd] false [.c .b] [(.t 16), (.t 18)], none⟩,
    ⟨some 20, .un .not (.t 19), none⟩]) (
  .cond (.t 20) (.seq (.reg false [⟨some 4, .mv (.c (.v (.bool false))), none⟩]) (
    .ret)) (.skip))) (
  .seq (.reg false [⟨some 4, .mv (.c (.v (.bool true))), none⟩]) (
  .ret))))))⟩

theorem a177q (T : Table) (k : Nat) (n1 : Int) (s2 : ByteArray) (l3 : Rows) (n4 : Int) (s5 : ByteArray) (l6 : Rows) : evalF T k a177 [(.g [(.v (.int .i64 n1)), (.v (.string s2)), (.s 1 l3)]), (.g [(.v (.int .i64 n4)), (.v (.string s5)), (.s 1 l6)])] = (
 bif (n1 != n4) then (
 some ⟨(.d (.v (.bool false))), []⟩) else (
 bif (!(bytesEq s2 s5)) then (
 some ⟨(.d (.v (.bool false))), []⟩) else (
 callT T 63 [(.d (.s 1 l3)), (.d (.s 1 l6))] fun o7 =>
 oD o7.res fun d8 =>
 dB d8 fun b9 =>
 bif (!b9) then (
 some ⟨(.d (.v (.bool false))), []⟩) else (
 some ⟨(.d (.v (.bool true))), []⟩)))) := by kernel_rfl
/- loop.example/g00119/laws.eqTermS -/
def b159x0 : ACode := (
  .seq (.seq (.reg false [⟨some 11, .mv (.t 5), none⟩,
    ⟨some 12, .mv (.t 0), none⟩,
    ⟨some 13, .len false (.t 12), none⟩,
    ⟨some 14, .bin .lss (.t 11) (.t 13), none⟩]) (
  .cond (.t 14) (.skip) (.exit 0))) (
  .seq (.block 1 (.seq (.dreg [] [(0, ⟨some 17, .mv (.t 0), none⟩),
      (0, ⟨some 18, .mv (.t 5), none⟩),
      (0, ⟨some 19, .iad 3 (.t 17) (.t 18), none⟩),
      (0, ⟨some 20, .load true [(.i .i64), .s, (.sl 1)] (.t 19), none⟩),
      (0, ⟨some 21, .mv (.t 1), none⟩),
      (0, ⟨some 22, .mv (.t 5), none⟩),
      (0, ⟨some 23, .iad 3 (.t 21) (.t 22), none⟩),
      (0, ⟨some 24, .load true [(.i .i64), .s, (.sl 1)] (.t 23), none⟩)] [⟨some 25, .call (.f 177) [.rd, .rd] false [.c .b] [(.t 20), (.t 24)], none⟩,
      ⟨some 26, .un .not (.t 25), none⟩]) (
    .cond (.t 26) (.seq (.reg false [⟨some 4, .mv (.c (.v (.bool false))), none⟩]) (
      .ret)) (.skip)))) (
  .reg false [⟨some 15, .mv (.t 5), none⟩,
    ⟨some 16, .bin .add (.t 15) (.c (.v (.int .i64 1))), none⟩,
    ⟨some 5, .mv (.t 16), none⟩])))
def e159x0 : Exits := [(.ret, [(4, .c .b)]), ((.exit 0), [])]
noncomputable def l159x0 (T : Table) (k : Nat) := loopN (evalC ⟨T, []⟩ k b159x0 (Ex × List AV)) [0, 1, 5] e159x0
def a159 : AFun := ⟨[.rd, .rd], false, [.t 4], (
  .seq (.reg false [⟨some 4, .mv (.c (.v (.bool false))), none⟩]) (
  .seq (.seq (.reg false [⟨some 6, .mv (.t 0), none⟩,
    ⟨some 7, .len false (.t 6), none⟩,
    ⟨some 8, .mv (.t 1), none⟩,
    ⟨some 9, .len false (.t 8), none⟩,
    ⟨some 10, .bin .neq (.t 7) (.t 9), none⟩]) (
  .cond (.t 10) (.seq (.reg false [⟨some 4, .mv (.c (.v (.bool false))), none⟩]) (
    .ret)) (.skip))) (
  .seq (.seq (.reg false [⟨some 5, .mv (.c (.v (.int .i64 0))), none⟩]) (
  .block 0 (.loop [0, 1, 5] e159x0 b159x0))) (
  .seq (.reg false [⟨some 4, .mv (.c (.v (.bool true))), none⟩]) (
  .ret)))))⟩
theorem l159x0s (T : Table) (k n : Nat) (l3 : Rows) (l4 : Rows) (n5 : Int) : l159x0 T k (n + 1) [(.fz 3 l3), (.fz 3 l4), (.v (.int .i64 n5))] = (
 bif (decide (n5 < (l3.length : Int))) then (
 tst (decide (0 ≤ n5)) (
 look l3 (Int.toNat n5) fun r6 =>
 cI .i64 r6 0 fun n7 =>
 cS r6 1 fun s8 =>
 cL 1 r6 2 fun l9 =>
 tst (decide (0 ≤ n5)) (
 look l4 (Int.toNat n5) fun r10 =>
 cI .i64 r10 0 fun n11 =>
 cS r10 1 fun s12 =>
 cL 1 r10 2 fun l13 =>
 callT T 177 [(.g [(.v (.int .i64 n7)), (.v (.string s8)), (.s 1 l9)]), (.g [(.v (.int .i64 n11)), (.v (.string s12)), (.s 1 l13)])] fun o14 =>
 oD o14.res fun d15 =>
 dB d15 fun b16 =>
 bif (!b16) then (
 some (.ret, [(.v (.bool false))])) else (
 l159x0 T k n [(.fz 3 l3), (.fz 3 l4), (.v (.int .i64 (IntKind.wrap .i64 (n5 + 1))))])))) else (
 some ((.exit 0), []))) := by kernel_rfl
theorem a159q (T : Table) (k : Nat) (l1 : Rows) (l2 : Rows) : evalF T k a159 [(.d (.s 3 l1)), (.d (.s 3 l2))] = (
 bif ((l1.length : Int) != (l2.length : Int)) then (
 some ⟨(.d (.v (.bool false))), []⟩) else (
 aft (l159x0 T k k [(.fz 3 l1), (.fz 3 l2), (.v (.int .i64 0))]) fun e17 ys18 =>
 bif e17.same .ret then (
 aV ys18 0 fun x19 =>
 aB x19 fun b20 =>
 some ⟨(.d (.v (.bool b20))), []⟩) else (
 bif e17.same (.exit 0) then (
 some ⟨(.d (.v (.bool true))), []⟩) else (
 none)))) := by kernel_rfl
/- loop.example/g00119/laws.eqWeigh -/

def a178 : AFun := ⟨[.rd, .rd], false, [.t 4], (
  .seq (.reg false [⟨some 2, .box (.t 0), none⟩,
    ⟨some 3, .box (.t 1), none⟩,
    ⟨some 4, .mv (.c (.v (.bool false))), none⟩]) (
  .seq (.seq (.reg false [⟨some 5, .fad 0 (.t 2), none⟩,
    ⟨some 6, .load false [.s] (.t 5), none⟩,
    ⟨some 7, .fad 0 (.t 3), none⟩,
    ⟨some 8, .load false [.s] (.t 7), none⟩,
    ⟨some 9, .bin .neq (.t 6) (.t 8), none⟩]) (
  .cond (.t 9) (.seq (.reg false [⟨some 4, .mv (.c (.v (.bool false))), none⟩]) (
    .ret)) (.skip))) (
  .seq (.seq (.reg false [⟨some 10, .fad 1 (.t 2), none⟩,
    ⟨some 11, .load false [(.i .i64)] (.t 10), none⟩,
    ⟨some 12, .fad 1 (.t 3), none⟩,
    ⟨some 13, .load false [(.i .i64)] (.t 12), none⟩,
    ⟨some 14, .bin .neq (.t 11) (.t 13), none⟩]) (
  .cond (.t 14) (.seq (.reg false [⟨some 4, .mv (.c (.v (.bool false))), none⟩]) (
    .ret)) (.skip))) (
  .seq (.reg false [⟨some 4, .mv (.c (.v (.bool true))), none⟩]) (
  .ret)))))⟩

theorem a178q (T : Table) (k : Nat) (s1 : ByteArray) (n2 : Int) (s3 : ByteArray) (n4 : Int) : evalF T k a178 [(.g [(.v (.string s1)), (.v (.int .i64 n2))]), (.g [(.v (.string s3)), (.v (.int .i64 n4))])] = (
 bif (!(bytesEq s1 s3)) then (
 some ⟨(.d (.v (.bool false))), []⟩) else (
 bif (n2 != n4) then (
 some ⟨(.d (.v (.bool false))), []⟩) else (
 some ⟨(.d (.v (.bool true))), []⟩))) := by kernel_rfl
/- loop.example/g00119/laws.eqWeighS -/
def b160x0 : ACode := (
  .seq (.seq (.reg false [⟨some 11, .mv (.t 5), none⟩,
    ⟨some 12, .mv (.t 0), none⟩,
    ⟨some 13, .len false (.t 12), none⟩,
    ⟨some 14, .bin .lss (.t 11) (.t 13), none⟩]) (
  .cond (.t 14) (.skip) (.exit 0))) (
  .seq (.block 1 (.seq (.dreg [] [(0, ⟨some 17, .mv (.t 0), none⟩),
      (0, ⟨some 18, .mv (.t 5), none⟩),
      (0, ⟨some 19, .iad 2 (.t 17) (.t 18), none⟩),
      (0, ⟨some 20, .load true [.s, (.i .i64)] (.t 19), none⟩),
      (0, ⟨some 21, .mv (.t 1), none⟩),
      (0, ⟨some 22, .mv (.t 5), none⟩),
      (0, ⟨some 23, .iad 2 (.t 21) (.t 22), none⟩),
      (0, ⟨some 24, .load true [.s, (.i .i64)] (.t 23), none⟩)] [⟨some 25, .call (.f 178) [.rd, .rd] false [.c .b] [(.t 20), (.t 24)], none⟩,
      ⟨some 26, .un .not (.t 25), none⟩]) (
    .cond (.t 26) (.seq (.reg false [⟨some 4, .mv (.c (.v (.bool false))), none⟩]) (
      .ret)) (.skip)))) (
  .reg false [⟨some 15, .mv (.t 5), none⟩,
    ⟨some 16, .bin .add (.t 15) (.c (.v (.int .i64 1))), none⟩,
    ⟨some 5, .mv (.t 16), none⟩])))
def e160x0 : Exits := [(.ret, [(4, .c .b)]), ((.exit 0), [])]
noncomputable def l160x0 (T : Table) (k : Nat) := loopN (evalC ⟨T, []⟩ k b160x0 (Ex × List AV)) [0, 1, 5] e160x0
def a160 : AFun := ⟨[.rd, .rd], false, [.t 4], (
  .seq (.reg false [⟨some 4, .mv (.c (.v (.bool false))), none⟩]) (
  .seq (.seq (.reg false [⟨some 6, .mv (.t 0), none⟩,
    ⟨some 7, .len false (.t 6), none⟩,
    ⟨some 8, .mv (.t 1), none⟩,
    ⟨some 9, .len false (.t 8), none⟩,
    ⟨some 10, .bin .neq (.t 7) (.t 9), none⟩]) (
  .cond (.t 10) (.seq (.reg false [⟨some 4, .mv (.c (.v (.bool false))), none⟩]) (
    .ret)) (.skip))) (
  .seq (.seq (.reg false [⟨some 5, .mv (.c (.v (.int .i64 0))), none⟩]) (
  .block 0 (.loop [0, 1, 5] e160x0 b160x0))) (
  .seq (.reg false [⟨some 4, .mv (.c (.v (.bool true))), none⟩]) (
  .ret)))))⟩
theorem l160x0s (T : Table) (k n : Nat) (l3 : Rows) (l4 : Rows) (n5 : Int) : l160x0 T k (n + 1) [(.fz 2 l3), (.fz 2 l4), (.v (.int .i64 n5))] = (
 bif (decide (n5 < (l3.length : Int))) then (
 tst (decide (0 ≤ n5)) (
 look l3 (Int.toNat n5) fun r6 =>
 cS r6 0 fun s7 =>
 cI .i64 r6 1 fun n8 =>
 tst (decide (0 ≤ n5)) (
 look l4 (Int.toNat n5) fun r9 =>
 cS r9 0 fun s10 =>
 cI .i64 r9 1 fun n11 =>
 callT T 178 [(.g [(.v (.string s7)), (.v (.int .i64 n8))]), (.g [(.v (.string s10)), (.v (.int .i64 n11))])] fun o12 =>
 oD o12.res fun d13 =>
 dB d13 fun b14 =>
 bif (!b14) then (
 some (.ret, [(.v (.bool false))])) else (
 l160x0 T k n [(.fz 2 l3), (.fz 2 l4), (.v (.int .i64 (IntKind.wrap .i64 (n5 + 1))))])))) else (
 some ((.exit 0), []))) := by kernel_rfl
theorem a160q (T : Table) (k : Nat) (l1 : Rows) (l2 : Rows) : evalF T k a160 [(.d (.s 2 l1)), (.d (.s 2 l2))] = (
 bif ((l1.length : Int) != (l2.length : Int)) then (
 some ⟨(.d (.v (.bool false))), []⟩) else (
 aft (l160x0 T k k [(.fz 2 l1), (.fz 2 l2), (.v (.int .i64 0))]) fun e15 ys16 =>
 bif e15.same .ret then (
 aV ys16 0 fun x17 =>
 aB x17 fun b18 =>
 some ⟨(.d (.v (.bool b18))), []⟩) else (
 bif e15.same (.exit 0) then (
 some ⟨(.d (.v (.bool true))), []⟩) else (
 none)))) := by kernel_rfl
/- loop.example/g00119/laws.eqWant -/

def a136 : AFun := ⟨[.rd, .rd], false, [.t 4], (
  .seq (.reg false [⟨some 2, .box (.t 0), none⟩,
    ⟨some 3, .box (.t 1), none⟩,
    ⟨some 4, .mv (.c (.v (.bool false))), none⟩]) (
  .seq (.seq (.reg false [⟨some 5, .fad 0 (.t 2), none⟩,
    ⟨some 6, .load false [(.i .i64)] (.t 5), none⟩,
    ⟨some 7, .fad 0 (.t 3), none⟩,
    ⟨some 8, .load false [(.i .i64)] (.t 7), none⟩,
    ⟨some 9, .bin .neq (.t 6) (.t 8), none⟩]) (
  .cond (.t 9) (.seq (.reg false [⟨some 4, .mv (.c (.v (.bool false))), none⟩]) (
    .ret)) (.skip))) (
  .seq (.seq (.reg false [⟨some 10, .fad 1 (.t 2), none⟩,
    ⟨some 11, .load false [(.sl 3)] (.t 10), none⟩,
    ⟨some 12, .fad 1 (.t 3), none⟩,
    ⟨some 13, .load false [(.sl 3)] (.t 12), none⟩,
    ⟨some 14, .call (.f 159) [.rd, .rd] false [.c .b] [(.t 11), (.t 13)], none⟩,
    ⟨some 15, .un .not (.t 14), none⟩]) (
  .cond (.t 15) (.seq (.reg false [⟨some 4, .mv (.c (.v (.bool false))), none⟩]) (
    .ret)) (.skip))) (
  .seq (.seq (.reg false [⟨some 16, .fad 2 (.t 2), none⟩,
    ⟨some 17, .load false [(.sl 1)] (.t 16), none⟩,
    ⟨some 18, .fad 2 (.t 3), none⟩,
    ⟨some 19, .load false [(.sl 1)] (.t 18), none⟩,
    ⟨some 20, .call (.f 63) [.rd, .rd] false [.c .b] [(.t 17), (.t 19)], none⟩,
    ⟨some 21, .un .not (.t 20), none⟩]) (
  .cond (.t 21) (.seq (.reg false [⟨some 4, .mv (.c (.v (.bool false))), none⟩]) (
    .ret)) (.skip))) (
  .seq (.seq (.reg false [⟨some 22, .fad 3 (.t 2), none⟩,
    ⟨some 23, .load false [(.sl 2)] (.t 22), none⟩,
    ⟨some 24, .fad 3 (.t 3), none⟩,
    ⟨some 25, .load false [(.sl 2)] (.t 24), none⟩,
    ⟨some 26, .call (.f 160) [.rd, .rd] false [.c .b] [(.t 23), (.t 25)], none⟩,
    ⟨some 27, .un .not (.t 26), none⟩]) (
  .cond (.t 27) (.seq (.reg false [⟨some 4, .mv (.c (.v (.bool false))), none⟩]) (
    .ret)) (.skip))) (
  .seq (.reg false [⟨some 4, .mv (.c (.v (.bool true))), none⟩]) (
  .ret)))))))⟩

theorem a136q (T : Table) (k : Nat) (n1 : Int) (l2 : Rows) (l3 : Rows) (l4 : Rows) (n5 : Int) (l6 : Rows) (l7 : Rows) (l8 : Rows) : evalF T k a136 [(.g [(.v (.int .i64 n1)), (.s 3 l2), (.s 1 l3), (.s 2 l4)]), (.g [(.v (.int .i64 n5)), (.s 3 l6), (.s 1 l7), (.s 2 l8)])] = (
 bif (n1 != n5) then (
 some ⟨(.d (.v (.bool false))), []⟩) else (
 callT T 159 [(.d (.s 3 l2)), (.d (.s 3 l6))] fun o9 =>
 oD o9.res fun d10 =>
 dB d10 fun b11 =>
 bif (!b11) then (
 some ⟨(.d (.v (.bool false))), []⟩) else (
 callT T 63 [(.d (.s 1 l3)), (.d (.s 1 l7))] fun o12 =>
 oD o12.res fun d13 =>
 dB d13 fun b14 =>
 bif (!b14) then (
 some ⟨(.d (.v (.bool false))), []⟩) else (
 callT T 160 [(.d (.s 2 l4)), (.d (.s 2 l8))] fun o15 =>
 oD o15.res fun d16 =>
 dB d16 fun b17 =>
 bif (!b17) then (
 some ⟨(.d (.v (.bool false))), []⟩) else (
 some ⟨(.d (.v (.bool true))), []⟩))))) := by kernel_rfl
/- loop.example/g00119/laws.eqOp -/

def a186 : AFun := ⟨[.rd, .rd], false, [.t 4], (
  .seq (.reg false [⟨some 2, .box (.t 0), none⟩,
    ⟨some 3, .box (.t 1), none⟩,
    ⟨some 4, .mv (.c (.v (.bool false))), none⟩]) (
  .seq (.seq (.reg false [⟨some 5, .fad 0 (.t 2), none⟩,
    ⟨some 6, .load false [(.i .i64)] (.t 5), none⟩,
    ⟨some 7, .fad 0 (.t 3), none⟩,
    ⟨some 8, .load false [(.i .i64)] (.t 7), none⟩,
    ⟨some 9, .bin .neq (.t 6) (.t 8), none⟩]) (
  .cond (.t 9) (.seq (.reg false [⟨some 4, .mv (.c (.v (.bool false))), none⟩]) (
    .ret)) (.skip))) (
  .seq (.seq (.reg false [⟨some 10, .fad 1 (.t 2), none⟩,
    ⟨some 11, .load false [(.sl 1)] (.t 10), none⟩,
    ⟨some 12, .fad 1 (.t 3), none⟩,
    ⟨some 13, .load false [(.sl 1)] (.t 12), none⟩,
    ⟨some 14, .call (.f 63) [.rd, .rd] false [.c .b] [(.t 11), (.t 13)], none⟩,
    ⟨some 15, .un .not (.t 14), none⟩]) (
  .cond (.t 15) (.seq (.reg false [⟨some 4, .mv (.c (.v (.bool false))), none⟩]) (
    .ret)) (.skip))) (
  .seq (.seq (.reg false [⟨some 16, .fad 2 (.t 2), none⟩,
    ⟨some 17, .load true [(.i .i64), .s, (.i .i64), (.sl 1), (.sl 5)] (.t 16), none⟩,
    ⟨some 18, .fad 2 (.t 3), none⟩,
    ⟨some 19, .load true [(.i .i64), .s, (.i .i64), (.sl 1), (.sl 5)] (.t 18), none⟩,
    ⟨some 20, .call (.f 127) [.rd, .rd] false [.c .b] [(.t 17), (.t 19)], none⟩,
    ⟨some 21, .un .not (.t 20), none⟩]) (
  .cond (.t 21) (.seq (.reg false [⟨some 4, .mv (.c (.v (.bool false))), none⟩]) (
    .ret)) (.skip))) (
  .seq (.reg false [⟨some 4, .mv (.c (.v (.bool true))), none⟩]) (
  .ret))))))⟩

theorem a186q (T : Table) (k : Nat) (n1 : Int) (l2 : Rows) (n3 : Int) (s4 : ByteArray) (n5 : Int) (l6 : Rows) (l7 : Rows) (n8 : Int) (l9 : Rows) (n10 : Int) (s11 : ByteArray) (n12 : Int) (l13 : Rows) (l14 : Rows) : evalF T k a186 [(.g [(.v (.int .i64 n1)), (.s 1 l2), (.v (.int .i64 n3)), (.v (.string s4)), (.v (.int .i64 n5)), (.s 1 l6), (.s 5 l7)]), (.g [(.v (.int .i64 n8)), (.s 1 l9), (.v (.int .i64 n10)), (.v (.string s11)), (.v (.int .i64 n12)), (.s 1 l13), (.s 5 l14)])] = (
 bif (n1 != n8) then (
 some ⟨(.d (.v (.bool false))), []⟩) else (
 callT T 63 [(.d (.s 1 l2)), (.d (.s 1 l9))] fun o15 =>
 oD o15.res fun d16 =>
 dB d16 fun b17 =>
 bif (!b17) then (
 some ⟨(.d (.v (.bool false))), []⟩) else (
 callT T 127 [(.g [(.v (.int .i64 n3)), (.v (.string s4)), (.v (.int .i64 n5)), (.s 1 l6), (.s 5 l7)]), (.g [(.v (.int .i64 n10)), (.v (.string s11)), (.v (.int .i64 n12)), (.s 1 l13), (.s 5 l14)])] fun o18 =>
 oD o18.res fun d19 =>
 dB d19 fun b20 =>
 bif (!b20) then (
 some ⟨(.d (.v (.bool false))), []⟩) else (
 some ⟨(.d (.v (.bool true))), []⟩)))) := by kernel_rfl
/- loop.example/g00119/laws.eqOpS -/
def b179x0 : ACode := (
  .seq (.seq (.reg false [⟨some 11, .mv (.t 5), none⟩,
    ⟨some 12, .mv (.t 0), none⟩,
    ⟨some 13, .len false (.t 12), none⟩,
    ⟨some 14, .bin .lss (.t 11) (.t 13), none⟩]) (
  .cond (.t 14) (.skip) (.exit 0))) (
  .seq (.block 1 (.seq (.dreg [] [(0, ⟨some 17, .mv (.t 0), none⟩),
      (0, ⟨some 18, .mv (.t 5), none⟩),
      (0, ⟨some 19, .iad 7 (.t 17) (.t 18), none⟩),
      (0, ⟨some 20, .load true [(.i .i64), (.sl 1), (.i .i64), .s, (.i .i64), (.sl 1), (.sl 5)] (.t 19), none⟩),
      (0, ⟨some 21, .mv (.t 1), none⟩),
      (0, ⟨some 22, .mv (.t 5), none⟩),
      (0, ⟨some 23, .iad 7 (.t 21) (.t 22), none⟩),
      (0, ⟨some 24, .load true [(.i .i64), (.sl 1), (.i .i64), .s, (.i .i64), (.sl 1), (.sl 5)] (.t 23), none⟩)] [⟨some 25, .call (.f 186) [.rd, .rd] false [.c .b] [(.t 20), (.t 24)], none⟩,
      ⟨some 26, .un .not (.t 25), none⟩]) (
    .cond (.t 26) (.seq (.reg false [⟨some 4, .mv (.c (.v (.bool false))), none⟩]) (
      .ret)) (.skip)))) (
  .reg false [⟨some 15, .mv (.t 5), none⟩,
    ⟨some 16, .bin .add (.t 15) (.c (.v (.int .i64 1))), none⟩,
    ⟨some 5, .mv (.t 16), none⟩])))
def e179x0 : Exits := [(.ret, [(4, .c .b)]), ((.exit 0), [])]
noncomputable def l179x0 (T : Table) (k : Nat) := loopN (evalC ⟨T, []⟩ k b179x0 (Ex × List AV)) [0, 1, 5] e179x0
def a179 : AFun := ⟨[.rd, .rd], false, [.t 4], (
  .seq (.reg false [⟨some 4, .mv (.c (.v (.bool false))), none⟩]) (
  .seq (.seq (.reg false [⟨some 6, .mv (.t 0), none⟩,
    ⟨some 7, .len false (.t 6), none⟩,
    ⟨some 8, .mv (.t 1), none⟩,
    ⟨some 9, .len false (.t 8), none⟩,
    ⟨some 10, .bin .neq (.t 7) (.t 9), none⟩]) (
  .cond (.t 10) (.seq (.reg false [⟨some 4, .mv (.c (.v (.bool false))), none⟩]) (
    .ret)) (.skip))) (
  .seq (.seq (.reg false [⟨some 5, .mv (.c (.v (.int .i64 0))), none⟩]) (
  .block 0 (.loop [0, 1, 5] e179x0 b179x0))) (
  .seq (.reg false [⟨some 4, .mv (.c (.v (.bool true))), none⟩]) (
  .ret)))))⟩
theorem l179x0s (T : Table) (k n : Nat) (l3 : Rows) (l4 : Rows) (n5 : Int) : l179x0 T k (n + 1) [(.fz 7 l3), (.fz 7 l4), (.v (.int .i64 n5))] = (
 bif (decide (n5 < (l3.length : Int))) then (
 tst (decide (0 ≤ n5)) (
 look l3 (Int.toNat n5) fun r6 =>
 cI .i64 r6 0 fun n7 =>
 cL 1 r6 1 fun l8 =>
 cI .i64 r6 2 fun n9 =>
 cS r6 3 fun s10 =>
 cI .i64 r6 4 fun n11 =>
 cL 1 r6 5 fun l12 =>
 cL 5 r6 6 fun l13 =>
 tst (decide (0 ≤ n5)) (
 look l4 (Int.toNat n5) fun r14 =>
 cI .i64 r14 0 fun n15 =>
 cL 1 r14 1 fun l16 =>
 cI .i64 r14 2 fun n17 =>
 cS r14 3 fun s18 =>
 cI .i64 r14 4 fun n19 =>
 cL 1 r14 5 fun l20 =>
 cL 5 r14 6 fun l21 =>
 callT T 186 [(.g [(.v (.int .i64 n7)), (.s 1 l8), (.v (.int .i64 n9)), (.v (.string s10)), (.v (.int .i64 n11)), (.s 1 l12), (.s 5 l13)]), (.g [(.v (.int .i64 n15)), (.s 1 l16), (.v (.int .i64 n17)), (.v (.string s18)), (.v (.int .i64 n19)), (.s 1 l20), (.s 5 l21)])] fun o22 =>
 oD o22.res fun d23 =>
 dB d23 fun b24 =>
 bif (!b24) then (
 some (.ret, [(.v (.bool false))])) else (
 l179x0 T k n [(.fz 7 l3), (.fz 7 l4), (.v (.int .i64 (IntKind.wrap .i64 (n5 + 1))))])))) else (
 some ((.exit 0), []))) := by kernel_rfl
theorem a179q (T : Table) (k : Nat) (l1 : Rows) (l2 : Rows) : evalF T k a179 [(.d (.s 7 l1)), (.d (.s 7 l2))] = (
 bif ((l1.length : Int) != (l2.length : Int)) then (
 some ⟨(.d (.v (.bool false))), []⟩) else (
 aft (l179x0 T k k [(.fz 7 l1), (.fz 7 l2), (.v (.int .i64 0))]) fun e25 ys26 =>
 bif e25.same .ret then (
 aV ys26 0 fun x27 =>
 aB x27 fun b28 =>
 some ⟨(.d (.v (.bool b28))), []⟩) else (
 bif e25.same (.exit 0) then (
 some ⟨(.d (.v (.bool true))), []⟩) else (
 none)))) := by kernel_rfl
/- loop.example/g00119/laws.eqOver -/

def a161 : AFun := ⟨[.rd, .rd], false, [.t 4], (
  .seq (.reg false [⟨some 2, .box (.t 0), none⟩,
    ⟨some 3, .box (.t 1), none⟩,
    ⟨some 4, .mv (.c (.v (.bool false))), none⟩]) (
  .seq (.seq (.reg false [⟨some 5, .fad 0 (.t 2), none⟩,
    ⟨some 6, .load false [.s] (.t 5), none⟩,
    ⟨some 7, .fad 0 (.t 3), none⟩,
    ⟨some 8, .load false [.s] (.t 7), none⟩,
    ⟨some 9, .bin .neq (.t 6) (.t 8), none⟩]) (
  .cond (.t 9) (.seq (.reg false [⟨some 4, .mv (.c (.v (.bool false))), none⟩]) (
    .ret)) (.skip))) (
  .seq (.seq (.reg false [⟨some 10, .fad 1 (.t 2), none⟩,
    ⟨some 11, .load false [(.sl 7)] (.t 10), none⟩,
    ⟨some 12, .fad 1 (.t 3), none⟩,
    ⟨some 13, .load false [(.sl 7)] (.t 12), none⟩,
    ⟨some 14, .call (.f 179) [.rd, .rd] false [.c .b] [(.t 11), (.t 13)], none⟩,
    ⟨some 15, .un .not (.t 14), none⟩]) (
  .cond (.t 15) (.seq (.reg false [⟨some 4, .mv (.c (.v (.bool false))), none⟩]) (
    .ret)) (.skip))) (
  .seq (.reg false [⟨some 4, .mv (.c (.v (.bool true))), none⟩]) (
  .ret)))))⟩

theorem a161q (T : Table) (k : Nat) (s1 : ByteArray) (l2 : Rows) (s3 : ByteArray) (l4 : Rows) : evalF T k a161 [(.g [(.v (.string s1)), (.s 7 l2)]), (.g [(.v (.string s3)), (.s 7 l4)])] = (
 bif (!(bytesEq s1 s3)) then (
 some ⟨(.d (.v (.bool false))), []⟩) else (
 callT T 179 [(.d (.s 7 l2)), (.d (.s 7 l4))] fun o5 =>
 oD o5.res fun d6 =>
 dB d6 fun b7 =>
 bif (!b7) then (
 some ⟨(.d (.v (.bool false))), []⟩) else (
 some ⟨(.d (.v (.bool true))), []⟩))) := by kernel_rfl
/- loop.example/g00119/laws.eqOverS -/
def b137x0 : ACode := (
  .seq (.seq (.reg false [⟨some 11, .mv (.t 5), none⟩,
    ⟨some 12, .mv (.t 0), none⟩,
    ⟨some 13, .len false (.t 12), none⟩,
    ⟨some 14, .bin .lss (.t 11) (.t 13), none⟩]) (
  .cond (.t 14) (.skip) (.exit 0))) (
  .seq (.block 1 (.seq (.dreg [] [(0, ⟨some 17, .mv (.t 0), none⟩),
      (0, ⟨some 18, .mv (.t 5), none⟩),
      (0, ⟨some 19, .iad 2 (.t 17) (.t 18), none⟩),
      (0, ⟨some 20, .load true [.s, (.sl 7)] (.t 19), none⟩),
      (0, ⟨some 21, .mv (.t 1), none⟩),
      (0, ⟨some 22, .mv (.t 5), none⟩),
      (0, ⟨some 23, .iad 2 (.t 21) (.t 22), none⟩),
      (0, ⟨some 24, .load true [.s, (.sl 7)] (.t 23), none⟩)] [⟨some 25, .call (.f 161) [.rd, .rd] false [.c .b] [(.t 20), (.t 24)], none⟩,
      ⟨some 26, .un .not (.t 25), none⟩]) (
    .cond (.t 26) (.seq (.reg false [⟨some 4, .mv (.c (.v (.bool false))), none⟩]) (
      .ret)) (.skip)))) (
  .reg false [⟨some 15, .mv (.t 5), none⟩,
    ⟨some 16, .bin .add (.t 15) (.c (.v (.int .i64 1))), none⟩,
    ⟨some 5, .mv (.t 16), none⟩])))
def e137x0 : Exits := [(.ret, [(4, .c .b)]), ((.exit 0), [])]
noncomputable def l137x0 (T : Table) (k : Nat) := loopN (evalC ⟨T, []⟩ k b137x0 (Ex × List AV)) [0, 1, 5] e137x0
def a137 : AFun := ⟨[.rd, .rd], false, [.t 4], (
  .seq (.reg false [⟨some 4, .mv (.c (.v (.bool false))), none⟩]) (
  .seq (.seq (.reg false [⟨some 6, .mv (.t 0), none⟩,
    ⟨some 7, .len false (.t 6), none⟩,
    ⟨some 8, .mv (.t 1), none⟩,
    ⟨some 9, .len false (.t 8), none⟩,
    ⟨some 10, .bin .neq (.t 7) (.t 9), none⟩]) (
  .cond (.t 10) (.seq (.reg false [⟨some 4, .mv (.c (.v (.bool false))), none⟩]) (
    .ret)) (.skip))) (
  .seq (.seq (.reg false [⟨some 5, .mv (.c (.v (.int .i64 0))), none⟩]) (
  .block 0 (.loop [0, 1, 5] e137x0 b137x0))) (
  .seq (.reg false [⟨some 4, .mv (.c (.v (.bool true))), none⟩]) (
  .ret)))))⟩
theorem l137x0s (T : Table) (k n : Nat) (l3 : Rows) (l4 : Rows) (n5 : Int) : l137x0 T k (n + 1) [(.fz 2 l3), (.fz 2 l4), (.v (.int .i64 n5))] = (
 bif (decide (n5 < (l3.length : Int))) then (
 tst (decide (0 ≤ n5)) (
 look l3 (Int.toNat n5) fun r6 =>
 cS r6 0 fun s7 =>
 cL 7 r6 1 fun l8 =>
 tst (decide (0 ≤ n5)) (
 look l4 (Int.toNat n5) fun r9 =>
 cS r9 0 fun s10 =>
 cL 7 r9 1 fun l11 =>
 callT T 161 [(.g [(.v (.string s7)), (.s 7 l8)]), (.g [(.v (.string s10)), (.s 7 l11)])] fun o12 =>
 oD o12.res fun d13 =>
 dB d13 fun b14 =>
 bif (!b14) then (
 some (.ret, [(.v (.bool false))])) else (
 l137x0 T k n [(.fz 2 l3), (.fz 2 l4), (.v (.int .i64 (IntKind.wrap .i64 (n5 + 1))))])))) else (
 some ((.exit 0), []))) := by kernel_rfl
theorem a137q (T : Table) (k : Nat) (l1 : Rows) (l2 : Rows) : evalF T k a137 [(.d (.s 2 l1)), (.d (.s 2 l2))] = (
 bif ((l1.length : Int) != (l2.length : Int)) then (
 some ⟨(.d (.v (.bool false))), []⟩) else (
 aft (l137x0 T k k [(.fz 2 l1), (.fz 2 l2), (.v (.int .i64 0))]) fun e15 ys16 =>
 bif e15.same .ret then (
 aV ys16 0 fun x17 =>
 aB x17 fun b18 =>
 some ⟨(.d (.v (.bool b18))), []⟩) else (
 bif e15.same (.exit 0) then (
 some ⟨(.d (.v (.bool true))), []⟩) else (
 none)))) := by kernel_rfl
/- loop.example/g00119/laws.eqJob -/

def a103 : AFun := ⟨[.rd, .rd], false, [.t 4], (
  .seq (.reg false [⟨some 2, .box (.t 0), none⟩,
    ⟨some 3, .box (.t 1), none⟩,
    ⟨some 4, .mv (.c (.v (.bool false))), none⟩]) (
  .seq (.seq (.reg false [⟨some 5, .fad 0 (.t 2), none⟩,
    ⟨some 6, .load false [(.i .i64)] (.t 5), none⟩,
    ⟨some 7, .fad 0 (.t 3), none⟩,
    ⟨some 8, .load false [(.i .i64)] (.t 7), none⟩,
    ⟨some 9, .bin .neq (.t 6) (.t 8), none⟩]) (
  .cond (.t 9) (.seq (.reg false [⟨some 4, .mv (.c (.v (.bool false))), none⟩]) (
    .ret)) (.skip))) (
  .seq (.seq (.reg false [⟨some 10, .fad 1 (.t 2), none⟩,
    ⟨some 11, .load false [.s] (.t 10), none⟩,
    ⟨some 12, .fad 1 (.t 3), none⟩,
    ⟨some 13, .load false [.s] (.t 12), none⟩,
    ⟨some 14, .bin .neq (.t 11) (.t 13), none⟩]) (
  .cond (.t 14) (.seq (.reg false [⟨some 4, .mv (.c (.v (.bool false))), none⟩]) (
    .ret)) (.skip))) (
  .seq (.seq (.reg false [⟨some 15, .fad 2 (.t 2), none⟩,
    ⟨some 16, .load true [(.i .i64), (.sl 3), (.sl 1), (.sl 2)] (.t 15), none⟩,
    ⟨some 17, .fad 2 (.t 3), none⟩,
    ⟨some 18, .load true [(.i .i64), (.sl 3), (.sl 1), (.sl 2)] (.t 17), none⟩,
    ⟨some 19, .call (.f 136) [.rd, .rd] false [.c .b] [(.t 16), (.t 18)], none⟩,
    ⟨some 20, .un .not (.t 19), none⟩]) (
  .cond (.t 20) (.seq (.reg false [⟨some 4, .mv (.c (.v (.bool false))), none⟩]) (
    .ret)) (.skip))) (
  .seq (.seq (.reg false [⟨some 21, .fad 6 (.t 2), none⟩,
    ⟨some 22, .load true [(.i .i64), .s, (.i .i64), (.sl 1), (.sl 5)] (.t 21), none⟩,
    ⟨some 23, .fad 6 (.t 3), none⟩,
    ⟨some 24, .load true [(.i .i64), .s, (.i .i64), (.sl 1), (.sl 5)] (.t 23), none⟩,
    ⟨some 25, .call (.f 127) [.rd, .rd] false [.c .b] [(.t 22), (.t 24)], none⟩,
    ⟨some 26, .un .not (.t 25), none⟩]) (
  .cond (.t 26) (.seq (.reg false [⟨some 4, .mv (.c (.v (.bool false))), none⟩]) (
    .ret)) (.skip))) (
  .seq (.seq (.reg false [⟨some 27, .fad 11 (.t 2), none⟩,
    ⟨some 28, .load false [(.sl 2)] (.t 27), none⟩,
    ⟨some 29, .fad 11 (.t 3), none⟩,
    ⟨some 30, .load false [(.sl 2)] (.t 29), none⟩,
    ⟨some 31, .call (.f 137) [.rd, .rd] false [.c .b] [(.t 28), (.t 30)], none⟩,
    ⟨some 32, .un .not (.t 31), none⟩]) (
  .cond (.t 32) (.seq (.reg false [⟨some 4, .mv (.c (.v (.bool false))), none⟩]) (
    .ret)) (.skip))) (
  .seq (.seq (.reg false [⟨some 33, .fad 12 (.t 2), none⟩,
    ⟨some 34, .load false [.b] (.t 33), none⟩,
    ⟨some 35, .fad 12 (.t 3), none⟩,
    ⟨some 36, .load false [.b] (.t 35), none⟩,
    ⟨some 37, .beq true (.t 34) (.t 36), none⟩]) (
  .cond (.t 37) (.seq (.reg false [⟨some 4, .mv (.c (.v (.bool false))), none⟩]) (
    .ret)) (.skip))) (
  .seq (.reg false [⟨some 4, .mv (.c (.v (.bool true))), none⟩]) (
  .ret)))))))))⟩

theorem a103q (T : Table) (k : Nat) (n1 : Int) (s2 : ByteArray) (n3 : Int) (l4 : Rows) (l5 : Rows) (l6 : Rows) (n7 : Int) (s8 : ByteArray) (n9 : Int) (l10 : Rows) (l11 : Rows) (l12 : Rows) (b13 : Bool) (n14 : Int) (s15 : ByteArray) (n16 : Int) (l17 : Rows) (l18 : Rows) (l19 : Rows) (n20 : Int) (s21 : ByteArray) (n22 : Int) (l23 : Rows) (l24 : Rows) (l25 : Rows) (b26 : Bool) : evalF T k a103 [(.g [(.v (.int .i64 n1)), (.v (.string s2)), (.v (.int .i64 n3)), (.s 3 l4), (.s 1 l5), (.s 2 l6), (.v (.int .i64 n7)), (.v (.string s8)), (.v (.int .i64 n9)), (.s 1 l10), (.s 5 l11), (.s 2 l12), (.v (.bool b13))]), (.g [(.v (.int .i64 n14)), (.v (.string s15)), (.v (.int .i64 n16)), (.s 3 l17), (.s 1 l18), (.s 2 l19), (.v (.int .i64 n20)), (.v (.string s21)), (.v (.int .i64 n22)), (.s 1 l23), (.s 5 l24), (.s 2 l25), (.v (.bool b26))])] = (
 bif (n1 != n14) then (
 some ⟨(.d (.v (.bool false))), []⟩) else (
 bif (!(bytesEq s2 s15)) then (
 some ⟨(.d (.v (.bool false))), []⟩) else (
 callT T 136 [(.g [(.v (.int .i64 n3)), (.s 3 l4), (.s 1 l5), (.s 2 l6)]), (.g [(.v (.int .i64 n16)), (.s 3 l17), (.s 1 l18), (.s 2 l19)])] fun o27 =>
 oD o27.res fun d28 =>
 dB d28 fun b29 =>
 bif (!b29) then (
 some ⟨(.d (.v (.bool false))), []⟩) else (
 callT T 127 [(.g [(.v (.int .i64 n7)), (.v (.string s8)), (.v (.int .i64 n9)), (.s 1 l10), (.s 5 l11)]), (.g [(.v (.int .i64 n20)), (.v (.string s21)), (.v (.int .i64 n22)), (.s 1 l23), (.s 5 l24)])] fun o30 =>
 oD o30.res fun d31 =>
 dB d31 fun b32 =>
 bif (!b32) then (
 some ⟨(.d (.v (.bool false))), []⟩) else (
 callT T 137 [(.d (.s 2 l12)), (.d (.s 2 l25))] fun o33 =>
 oD o33.res fun d34 =>
 dB d34 fun b35 =>
 bif (!b35) then (
 some ⟨(.d (.v (.bool false))), []⟩) else (
 bif (b13 != b26) then (
 some ⟨(.d (.v (.bool false))), []⟩) else (
 some ⟨(.d (.v (.bool true))), []⟩))))))) := by kernel_rfl
/- loop.example/g00119/laws.eqJobS -/
def b60x0 : ACode := (
  .seq (.seq (.reg false [⟨some 11, .mv (.t 5), none⟩,
    ⟨some 12, .mv (.t 0), none⟩,
    ⟨some 13, .len false (.t 12), none⟩,
    ⟨some 14, .bin .lss (.t 11) (.t 13), none⟩]) (
  .cond (.t 14) (.skip) (.exit 0))) (
  .seq (.block 1 (.seq (.dreg [] [(0, ⟨some 17, .mv (.t 0), none⟩),
      (0, ⟨some 18, .mv (.t 5), none⟩),
      (0, ⟨some 19, .iad 13 (.t 17) (.t 18), none⟩),
      (0, ⟨some 20, .load true [(.i .i64), .s, (.i .i64), (.sl 3), (.sl 1), (.sl 2), (.i .i64), .s, (.i .i64), (.sl 1), (.sl 5), (.sl 2), .b] (.t 19), none⟩),
      (0, ⟨some 21, .mv (.t 1), none⟩),
      (0, ⟨some 22, .mv (.t 5), none⟩),
      (0, ⟨some 23, .iad 13 (.t 21) (.t 22), none⟩),
      (0, ⟨some 24, .load true [(.i .i64), .s, (.i .i64), (.sl 3), (.sl 1), (.sl 2), (.i .i64), .s, (.i .i64), (.sl 1), (.sl 5), (.sl 2), .b] (.t 23), none⟩)] [⟨some 25, .call (.f 103) [.rd, .rd] false [.c .b] [(.t 20), (.t 24)], none⟩,
      ⟨some 26, .un .not (.t 25), none⟩]) (
    .cond (.t 26) (.seq (.reg false [⟨some 4, .mv (.c (.v (.bool false))), none⟩]) (
      .ret)) (.skip)))) (
  .reg false [⟨some 15, .mv (.t 5), none⟩,
    ⟨some 16, .bin .add (.t 15) (.c (.v (.int .i64 1))), none⟩,
    ⟨some 5, .mv (.t 16), none⟩])))
def e60x0 : Exits := [(.ret, [(4, .c .b)]), ((.exit 0), [])]
noncomputable def l60x0 (T : Table) (k : Nat) := loopN (evalC ⟨T, []⟩ k b60x0 (Ex × List AV)) [0, 1, 5] e60x0
def a60 : AFun := ⟨[.rd, .rd], false, [.t 4], (
  .seq (.reg false [⟨some 4, .mv (.c (.v (.bool false))), none⟩]) (
  .seq (.seq (.reg false [⟨some 6, .mv (.t 0), none⟩,
    ⟨some 7, .len false (.t 6), none⟩,
    ⟨some 8, .mv (.t 1), none⟩,
    ⟨some 9, .len false (.t 8), none⟩,
    ⟨some 10, .bin .neq (.t 7) (.t 9), none⟩]) (
  .cond (.t 10) (.seq (.reg false [⟨some 4, .mv (.c (.v (.bool false))), none⟩]) (
    .ret)) (.skip))) (
  .seq (.seq (.reg false [⟨some 5, .mv (.c (.v (.int .i64 0))), none⟩]) (
  .block 0 (.loop [0, 1, 5] e60x0 b60x0))) (
  .seq (.reg false [⟨some 4, .mv (.c (.v (.bool true))), none⟩]) (
  .ret)))))⟩
theorem l60x0s (T : Table) (k n : Nat) (l3 : Rows) (l4 : Rows) (n5 : Int) : l60x0 T k (n + 1) [(.fz 13 l3), (.fz 13 l4), (.v (.int .i64 n5))] = (
 bif (decide (n5 < (l3.length : Int))) then (
 tst (decide (0 ≤ n5)) (
 look l3 (Int.toNat n5) fun r6 =>
 cI .i64 r6 0 fun n7 =>
 cS r6 1 fun s8 =>
 cI .i64 r6 2 fun n9 =>
 cL 3 r6 3 fun l10 =>
 cL 1 r6 4 fun l11 =>
 cL 2 r6 5 fun l12 =>
 cI .i64 r6 6 fun n13 =>
 cS r6 7 fun s14 =>
 cI .i64 r6 8 fun n15 =>
 cL 1 r6 9 fun l16 =>
 cL 5 r6 10 fun l17 =>
 cL 2 r6 11 fun l18 =>
 cB r6 12 fun b19 =>
 tst (decide (0 ≤ n5)) (
 look l4 (Int.toNat n5) fun r20 =>
 cI .i64 r20 0 fun n21 =>
 cS r20 1 fun s22 =>
 cI .i64 r20 2 fun n23 =>
 cL 3 r20 3 fun l24 =>
 cL 1 r20 4 fun l25 =>
 cL 2 r20 5 fun l26 =>
 cI .i64 r20 6 fun n27 =>
 cS r20 7 fun s28 =>
 cI .i64 r20 8 fun n29 =>
 cL 1 r20 9 fun l30 =>
 cL 5 r20 10 fun l31 =>
 cL 2 r20 11 fun l32 =>
 cB r20 12 fun b33 =>
 callT T 103 [(.g [(.v (.int .i64 n7)), (.v (.string s8)), (.v (.int .i64 n9)), (.s 3 l10), (.s 1 l11), (.s 2 l12), (.v (.int .i64 n13)), (.v (.string s14)), (.v (.int .i64 n15)), (.s 1 l16), (.s 5 l17), (.s 2 l18), (.v (.bool b19))]), (.g [(.v (.int .i64 n21)), (.v (.string s22)), (.v (.int .i64 n23)), (.s 3 l24), (.s 1 l25), (.s 2 l26), (.v (.int .i64 n27)), (.v (.string s28)), (.v (.int .i64 n29)), (.s 1 l30), (.s 5 l31), (.s 2 l32), (.v (.bool b33))])] fun o34 =>
 oD o34.res fun d35 =>
 dB d35 fun b36 =>
 bif (!b36) then (
 some (.ret, [(.v (.bool false))])) else (
 l60x0 T k n [(.fz 13 l3), (.fz 13 l4), (.v (.int .i64 (IntKind.wrap .i64 (n5 + 1))))])))) else (
 some ((.exit 0), []))) := by kernel_rfl
theorem a60q (T : Table) (k : Nat) (l1 : Rows) (l2 : Rows) : evalF T k a60 [(.d (.s 13 l1)), (.d (.s 13 l2))] = (
 bif ((l1.length : Int) != (l2.length : Int)) then (
 some ⟨(.d (.v (.bool false))), []⟩) else (
 aft (l60x0 T k k [(.fz 13 l1), (.fz 13 l2), (.v (.int .i64 0))]) fun e37 ys38 =>
 bif e37.same .ret then (
 aV ys38 0 fun x39 =>
 aB x39 fun b40 =>
 some ⟨(.d (.v (.bool b40))), []⟩) else (
 bif e37.same (.exit 0) then (
 some ⟨(.d (.v (.bool true))), []⟩) else (
 none)))) := by kernel_rfl
/- loop.example/g00119/laws.eqLabel -/

def a180 : AFun := ⟨[.rd, .rd], false, [.t 4], (
  .seq (.reg false [⟨some 2, .box (.t 0), none⟩,
    ⟨some 3, .box (.t 1), none⟩,
    ⟨some 4, .mv (.c (.v (.bool false))), none⟩]) (
  .seq (.seq (.reg false [⟨some 5, .fad 0 (.t 2), none⟩,
    ⟨some 6, .load false [.s] (.t 5), none⟩,
    ⟨some 7, .fad 0 (.t 3), none⟩,
    ⟨some 8, .load false [.s] (.t 7), none⟩,
    ⟨some 9, .bin .neq (.t 6) (.t 8), none⟩]) (
  .cond (.t 9) (.seq (.reg false [⟨some 4, .mv (.c (.v (.bool false))), none⟩]) (
    .ret)) (.skip))) (
  .seq (.seq (.reg false [⟨some 10, .fad 1 (.t 2), none⟩,
    ⟨some 11, .load false [.s] (.t 10), none⟩,
    ⟨some 12, .fad 1 (.t 3), none⟩,
    ⟨some 13, .load false [.s] (.t 12), none⟩,
    ⟨some 14, .bin .neq (.t 11) (.t 13), none⟩]) (
  .cond (.t 14) (.seq (.reg false [⟨some 4, .mv (.c (.v (.bool false))), none⟩]) (
    .ret)) (.skip))) (
  .seq (.reg false [⟨some 4, .mv (.c (.v (.bool true))), none⟩]) (
  .ret)))))⟩

theorem a180q (T : Table) (k : Nat) (s1 : ByteArray) (s2 : ByteArray) (s3 : ByteArray) (s4 : ByteArray) : evalF T k a180 [(.g [(.v (.string s1)), (.v (.string s2))]), (.g [(.v (.string s3)), (.v (.string s4))])] = (
 bif (!(bytesEq s1 s3)) then (
 some ⟨(.d (.v (.bool false))), []⟩) else (
 bif (!(bytesEq s2 s4)) then (
 some ⟨(.d (.v (.bool false))), []⟩) else (
 some ⟨(.d (.v (.bool true))), []⟩))) := by kernel_rfl
/- loop.example/g00119/laws.eqLabelS -/
def b162x0 : ACode := (
  .seq (.seq (.reg false [⟨some 11, .mv (.t 5), none⟩,
    ⟨some 12, .mv (.t 0), none⟩,
    ⟨some 13, .len false (.t 12), none⟩,
    ⟨some 14, .bin .lss (.t 11) (.t 13), none⟩]) (
  .cond (.t 14) (.skip) (.exit 0))) (
  .seq (.block 1 (.seq (.dreg [] [(0, ⟨some 17, .mv (.t 0), none⟩),
      (0, ⟨some 18, .mv (.t 5), none⟩),
      (0, ⟨some 19, .iad 2 (.t 17) (.t 18), none⟩),
      (0, ⟨some 20, .load true [.s, .s] (.t 19), none⟩),
      (0, ⟨some 21, .mv (.t 1), none⟩),
      (0, ⟨some 22, .mv (.t 5), none⟩),
      (0, ⟨some 23, .iad 2 (.t 21) (.t 22), none⟩),
      (0, ⟨some 24, .load true [.s, .s] (.t 23), none⟩)] [⟨some 25, .call (.f 180) [.rd, .rd] false [.c .b] [(.t 20), (.t 24)], none⟩,
      ⟨some 26, .un .not (.t 25), none⟩]) (
    .cond (.t 26) (.seq (.reg false [⟨some 4, .mv (.c (.v (.bool false))), none⟩]) (
      .ret)) (.skip)))) (
  .reg false [⟨some 15, .mv (.t 5), none⟩,
    ⟨some 16, .bin .add (.t 15) (.c (.v (.int .i64 1))), none⟩,
    ⟨some 5, .mv (.t 16), none⟩])))
def e162x0 : Exits := [(.ret, [(4, .c .b)]), ((.exit 0), [])]
noncomputable def l162x0 (T : Table) (k : Nat) := loopN (evalC ⟨T, []⟩ k b162x0 (Ex × List AV)) [0, 1, 5] e162x0
def a162 : AFun := ⟨[.rd, .rd], false, [.t 4], (
  .seq (.reg false [⟨some 4, .mv (.c (.v (.bool false))), none⟩]) (
  .seq (.seq (.reg false [⟨some 6, .mv (.t 0), none⟩,
    ⟨some 7, .len false (.t 6), none⟩,
    ⟨some 8, .mv (.t 1), none⟩,
    ⟨some 9, .len false (.t 8), none⟩,
    ⟨some 10, .bin .neq (.t 7) (.t 9), none⟩]) (
  .cond (.t 10) (.seq (.reg false [⟨some 4, .mv (.c (.v (.bool false))), none⟩]) (
    .ret)) (.skip))) (
  .seq (.seq (.reg false [⟨some 5, .mv (.c (.v (.int .i64 0))), none⟩]) (
  .block 0 (.loop [0, 1, 5] e162x0 b162x0))) (
  .seq (.reg false [⟨some 4, .mv (.c (.v (.bool true))), none⟩]) (
  .ret)))))⟩
theorem l162x0s (T : Table) (k n : Nat) (l3 : Rows) (l4 : Rows) (n5 : Int) : l162x0 T k (n + 1) [(.fz 2 l3), (.fz 2 l4), (.v (.int .i64 n5))] = (
 bif (decide (n5 < (l3.length : Int))) then (
 tst (decide (0 ≤ n5)) (
 look l3 (Int.toNat n5) fun r6 =>
 cS r6 0 fun s7 =>
 cS r6 1 fun s8 =>
 tst (decide (0 ≤ n5)) (
 look l4 (Int.toNat n5) fun r9 =>
 cS r9 0 fun s10 =>
 cS r9 1 fun s11 =>
 callT T 180 [(.g [(.v (.string s7)), (.v (.string s8))]), (.g [(.v (.string s10)), (.v (.string s11))])] fun o12 =>
 oD o12.res fun d13 =>
 dB d13 fun b14 =>
 bif (!b14) then (
 some (.ret, [(.v (.bool false))])) else (
 l162x0 T k n [(.fz 2 l3), (.fz 2 l4), (.v (.int .i64 (IntKind.wrap .i64 (n5 + 1))))])))) else (
 some ((.exit 0), []))) := by kernel_rfl
theorem a162q (T : Table) (k : Nat) (l1 : Rows) (l2 : Rows) : evalF T k a162 [(.d (.s 2 l1)), (.d (.s 2 l2))] = (
 bif ((l1.length : Int) != (l2.length : Int)) then (
 some ⟨(.d (.v (.bool false))), []⟩) else (
 aft (l162x0 T k k [(.fz 2 l1), (.fz 2 l2), (.v (.int .i64 0))]) fun e15 ys16 =>
 bif e15.same .ret then (
 aV ys16 0 fun x17 =>
 aB x17 fun b18 =>
 some ⟨(.d (.v (.bool b18))), []⟩) else (
 bif e15.same (.exit 0) then (
 some ⟨(.d (.v (.bool true))), []⟩) else (
 none)))) := by kernel_rfl
/- loop.example/g00119/laws.eqIsland -/

def a138 : AFun := ⟨[.rd, .rd], false, [.t 4], (
  .seq (.reg false [⟨some 2, .box (.t 0), none⟩,
    ⟨some 3, .box (.t 1), none⟩,
    ⟨some 4, .mv (.c (.v (.bool false))), none⟩]) (
  .seq (.seq (.reg false [⟨some 5, .fad 0 (.t 2), none⟩,
    ⟨some 6, .load false [.s] (.t 5), none⟩,
    ⟨some 7, .fad 0 (.t 3), none⟩,
    ⟨some 8, .load false [.s] (.t 7), none⟩,
    ⟨some 9, .bin .neq (.t 6) (.t 8), none⟩]) (
  .cond (.t 9) (.seq (.reg false [⟨some 4, .mv (.c (.v (.bool false))), none⟩]) (
    .ret)) (.skip))) (
  .seq (.seq (.reg false [⟨some 10, .fad 1 (.t 2), none⟩,
    ⟨some 11, .load false [(.sl 2)] (.t 10), none⟩,
    ⟨some 12, .fad 1 (.t 3), none⟩,
    ⟨some 13, .load false [(.sl 2)] (.t 12), none⟩,
    ⟨some 14, .call (.f 162) [.rd, .rd] false [.c .b] [(.t 11), (.t 13)], none⟩,
    ⟨some 15, .un .not (.t 14), none⟩]) (
  .cond (.t 15) (.seq (.reg false [⟨some 4, .mv (.c (.v (.bool false))), none⟩]) (
    .ret)) (.skip))) (
  .seq (.seq (.reg false [⟨some 16, .fad 2 (.t 2), none⟩,
    ⟨some 17, .load false [(.sl 1)] (.t 16), none⟩,
    ⟨some 18, .fad 2 (.t 3), none⟩,
    ⟨some 19, .load false [(.sl 1)] (.t 18), none⟩,
    ⟨some 20, .call (.f 63) [.rd, .rd] false [.c .b] [(.t 17), (.t 19)], none⟩,
    ⟨some 21, .un .not (.t 20), none⟩]) (
  .cond (.t 21) (.seq (.reg false [⟨some 4, .mv (.c (.v (.bool false))), none⟩]) (
    .ret)) (.skip))) (
  .seq (.seq (.reg false [⟨some 22, .fad 3 (.t 2), none⟩,
    ⟨some 23, .load false [(.i .i64)] (.t 22), none⟩,
    ⟨some 24, .fad 3 (.t 3), none⟩,
    ⟨some 25, .load false [(.i .i64)] (.t 24), none⟩,
    ⟨some 26, .bin .neq (.t 23) (.t 25), none⟩]) (
  .cond (.t 26) (.seq (.reg false [⟨some 4, .mv (.c (.v (.bool false))), none⟩]) (
    .ret)) (.skip))) (
  .seq (.reg false [⟨some 4, .mv (.c (.v (.bool true))), none⟩]) (
  .ret)))))))⟩

theorem a138q (T : Table) (k : Nat) (s1 : ByteArray) (l2 : Rows) (l3 : Rows) (n4 : Int) (s5 : ByteArray) (l6 : Rows) (l7 : Rows) (n8 : Int) : evalF T k a138 [(.g [(.v (.string s1)), (.s 2 l2), (.s 1 l3), (.v (.int .i64 n4))]), (.g [(.v (.string s5)), (.s 2 l6), (.s 1 l7), (.v (.int .i64 n8))])] = (
 bif (!(bytesEq s1 s5)) then (
 some ⟨(.d (.v (.bool false))), []⟩) else (
 callT T 162 [(.d (.s 2 l2)), (.d (.s 2 l6))] fun o9 =>
 oD o9.res fun d10 =>
 dB d10 fun b11 =>
 bif (!b11) then (
 some ⟨(.d (.v (.bool false))), []⟩) else (
 callT T 63 [(.d (.s 1 l3)), (.d (.s 1 l7))] fun o12 =>
 oD o12.res fun d13 =>
 dB d13 fun b14 =>
 bif (!b14) then (
 some ⟨(.d (.v (.bool false))), []⟩) else (
 bif (n4 != n8) then (
 some ⟨(.d (.v (.bool false))), []⟩) else (
 some ⟨(.d (.v (.bool true))), []⟩))))) := by kernel_rfl
/- loop.example/g00119/laws.eqPost -/

def a104 : AFun := ⟨[.rd, .rd], false, [.t 4], (
  .seq (.reg false [⟨some 2, .box (.t 0), none⟩,
    ⟨some 3, .box (.t 1), none⟩,
    ⟨some 4, .mv (.c (.v (.bool false))), none⟩]) (
  .seq (.seq (.reg false [⟨some 5, .fad 0 (.t 2), none⟩,
    ⟨some 6, .load true [.s, (.sl 2), (.sl 1), (.i .i64)] (.t 5), none⟩,
    ⟨some 7, .fad 0 (.t 3), none⟩,
    ⟨some 8, .load true [.s, (.sl 2), (.sl 1), (.i .i64)] (.t 7), none⟩,
    ⟨some 9, .call (.f 138) [.rd, .rd] false [.c .b] [(.t 6), (.t 8)], none⟩,
    ⟨some 10, .un .not (.t 9), none⟩]) (
  .cond (.t 10) (.seq (.reg false [⟨some 4, .mv (.c (.v (.bool false))), none⟩]) (
    .ret)) (.skip))) (
  .seq (.seq (.reg false [⟨some 11, .fad 4 (.t 2), none⟩,
    ⟨some 12, .load false [(.i .i64)] (.t 11), none⟩,
    ⟨some 13, .fad 4 (.t 3), none⟩,
    ⟨some 14, .load false [(.i .i64)] (.t 13), none⟩,
    ⟨some 15, .bin .neq (.t 12) (.t 14), none⟩]) (
  .cond (.t 15) (.seq (.reg false [⟨some 4, .mv (.c (.v (.bool false))), none⟩]) (
    .ret)) (.skip))) (
  .seq (.seq (.reg false [⟨some 16, .fad 5 (.t 2), none⟩,
    ⟨some 17, .load false [(.i .i64)] (.t 16), none⟩,
    ⟨some 18, .fad 5 (.t 3), none⟩,
    ⟨some 19, .load false [(.i .i64)] (.t 18), none⟩,
    ⟨some 20, .bin .neq (.t 17) (.t 19), none⟩]) (
  .cond (.t 20) (.seq (.reg false [⟨some 4, .mv (.c (.v (.bool false))), none⟩]) (
    .ret)) (.skip))) (
  .seq (.reg false [⟨some 4, .mv (.c (.v (.bool true))), none⟩]) (
  .ret))))))⟩

theorem a104q (T : Table) (k : Nat) (s1 : ByteArray) (l2 : Rows) (l3 : Rows) (n4 : Int) (n5 : Int) (n6 : Int) (s7 : ByteArray) (l8 : Rows) (l9 : Rows) (n10 : Int) (n11 : Int) (n12 : Int) : evalF T k a104 [(.g [(.v (.string s1)), (.s 2 l2), (.s 1 l3), (.v (.int .i64 n4)), (.v (.int .i64 n5)), (.v (.int .i64 n6))]), (.g [(.v (.string s7)), (.s 2 l8), (.s 1 l9), (.v (.int .i64 n10)), (.v (.int .i64 n11)), (.v (.int .i64 n12))])] = (
 callT T 138 [(.g [(.v (.string s1)), (.s 2 l2), (.s 1 l3), (.v (.int .i64 n4))]), (.g [(.v (.string s7)), (.s 2 l8), (.s 1 l9), (.v (.int .i64 n10))])] fun o13 =>
 oD o13.res fun d14 =>
 dB d14 fun b15 =>
 bif (!b15) then (
 some ⟨(.d (.v (.bool false))), []⟩) else (
 bif (n5 != n11) then (
 some ⟨(.d (.v (.bool false))), []⟩) else (
 bif (n6 != n12) then (
 some ⟨(.d (.v (.bool false))), []⟩) else (
 some ⟨(.d (.v (.bool true))), []⟩)))) := by kernel_rfl
/- loop.example/g00119/laws.eqPostS -/
def b61x0 : ACode := (
  .seq (.seq (.reg false [⟨some 11, .mv (.t 5), none⟩,
    ⟨some 12, .mv (.t 0), none⟩,
    ⟨some 13, .len false (.t 12), none⟩,
    ⟨some 14, .bin .lss (.t 11) (.t 13), none⟩]) (
  .cond (.t 14) (.skip) (.exit 0))) (
  .seq (.block 1 (.seq (.dreg [] [(0, ⟨some 17, .mv (.t 0), none⟩),
      (0, ⟨some 18, .mv (.t 5), none⟩),
      (0, ⟨some 19, .iad 6 (.t 17) (.t 18), none⟩),
      (0, ⟨some 20, .load true [.s, (.sl 2), (.sl 1), (.i .i64), (.i .i64), (.i .i64)] (.t 19), none⟩),
      (0, ⟨some 21, .mv (.t 1), none⟩),
      (0, ⟨some 22, .mv (.t 5), none⟩),
      (0, ⟨some 23, .iad 6 (.t 21) (.t 22), none⟩),
      (0, ⟨some 24, .load true [.s, (.sl 2), (.sl 1), (.i .i64), (.i .i64), (.i .i64)] (.t 23), none⟩)] [⟨some 25, .call (.f 104) [.rd, .rd] false [.c .b] [(.t 20), (.t 24)], none⟩,
      ⟨some 26, .un .not (.t 25), none⟩]) (
    .cond (.t 26) (.seq (.reg false [⟨some 4, .mv (.c (.v (.bool false))), none⟩]) (
      .ret)) (.skip)))) (
  .reg false [⟨some 15, .mv (.t 5), none⟩,
    ⟨some 16, .bin .add (.t 15) (.c (.v (.int .i64 1))), none⟩,
    ⟨some 5, .mv (.t 16), none⟩])))
def e61x0 : Exits := [(.ret, [(4, .c .b)]), ((.exit 0), [])]
noncomputable def l61x0 (T : Table) (k : Nat) := loopN (evalC ⟨T, []⟩ k b61x0 (Ex × List AV)) [0, 1, 5] e61x0
def a61 : AFun := ⟨[.rd, .rd], false, [.t 4], (
  .seq (.reg false [⟨some 4, .mv (.c (.v (.bool false))), none⟩]) (
  .seq (.seq (.reg false [⟨some 6, .mv (.t 0), none⟩,
    ⟨some 7, .len false (.t 6), none⟩,
    ⟨some 8, .mv (.t 1), none⟩,
    ⟨some 9, .len false (.t 8), none⟩,
    ⟨some 10, .bin .neq (.t 7) (.t 9), none⟩]) (
  .cond (.t 10) (.seq (.reg false [⟨some 4, .mv (.c (.v (.bool false))), none⟩]) (
    .ret)) (.skip))) (
  .seq (.seq (.reg false [⟨some 5, .mv (.c (.v (.int .i64 0))), none⟩]) (
  .block 0 (.loop [0, 1, 5] e61x0 b61x0))) (
  .seq (.reg false [⟨some 4, .mv (.c (.v (.bool true))), none⟩]) (
  .ret)))))⟩
theorem l61x0s (T : Table) (k n : Nat) (l3 : Rows) (l4 : Rows) (n5 : Int) : l61x0 T k (n + 1) [(.fz 6 l3), (.fz 6 l4), (.v (.int .i64 n5))] = (
 bif (decide (n5 < (l3.length : Int))) then (
 tst (decide (0 ≤ n5)) (
 look l3 (Int.toNat n5) fun r6 =>
 cS r6 0 fun s7 =>
 cL 2 r6 1 fun l8 =>
 cL 1 r6 2 fun l9 =>
 cI .i64 r6 3 fun n10 =>
 cI .i64 r6 4 fun n11 =>
 cI .i64 r6 5 fun n12 =>
 tst (decide (0 ≤ n5)) (
 look l4 (Int.toNat n5) fun r13 =>
 cS r13 0 fun s14 =>
 cL 2 r13 1 fun l15 =>
 cL 1 r13 2 fun l16 =>
 cI .i64 r13 3 fun n17 =>
 cI .i64 r13 4 fun n18 =>
 cI .i64 r13 5 fun n19 =>
 callT T 104 [(.g [(.v (.string s7)), (.s 2 l8), (.s 1 l9), (.v (.int .i64 n10)), (.v (.int .i64 n11)), (.v (.int .i64 n12))]), (.g [(.v (.string s14)), (.s 2 l15), (.s 1 l16), (.v (.int .i64 n17)), (.v (.int .i64 n18)), (.v (.int .i64 n19))])] fun o20 =>
 oD o20.res fun d21 =>
 dB d21 fun b22 =>
 bif (!b22) then (
 some (.ret, [(.v (.bool false))])) else (
 l61x0 T k n [(.fz 6 l3), (.fz 6 l4), (.v (.int .i64 (IntKind.wrap .i64 (n5 + 1))))])))) else (
 some ((.exit 0), []))) := by kernel_rfl
theorem a61q (T : Table) (k : Nat) (l1 : Rows) (l2 : Rows) : evalF T k a61 [(.d (.s 6 l1)), (.d (.s 6 l2))] = (
 bif ((l1.length : Int) != (l2.length : Int)) then (
 some ⟨(.d (.v (.bool false))), []⟩) else (
 aft (l61x0 T k k [(.fz 6 l1), (.fz 6 l2), (.v (.int .i64 0))]) fun e23 ys24 =>
 bif e23.same .ret then (
 aV ys24 0 fun x25 =>
 aB x25 fun b26 =>
 some ⟨(.d (.v (.bool b26))), []⟩) else (
 bif e23.same (.exit 0) then (
 some ⟨(.d (.v (.bool true))), []⟩) else (
 none)))) := by kernel_rfl
/- loop.example/g00119/laws.eqHold -/

def a105 : AFun := ⟨[.rd, .rd], false, [.t 4], (
  .seq (.reg false [⟨some 2, .box (.t 0), none⟩,
    ⟨some 3, .box (.t 1), none⟩,
    ⟨some 4, .mv (.c (.v (.bool false))), none⟩]) (
  .seq (.seq (.reg false [⟨some 5, .fad 0 (.t 2), none⟩,
    ⟨some 6, .load false [(.i .i64)] (.t 5), none⟩,
    ⟨some 7, .fad 0 (.t 3), none⟩,
    ⟨some 8, .load false [(.i .i64)] (.t 7), none⟩,
    ⟨some 9, .bin .neq (.t 6) (.t 8), none⟩]) (
  .cond (.t 9) (.seq (.reg false [⟨some 4, .mv (.c (.v (.bool false))), none⟩]) (
    .ret)) (.skip))) (
  .seq (.seq (.reg false [⟨some 10, .fad 1 (.t 2), none⟩,
    ⟨some 11, .load false [.s] (.t 10), none⟩,
    ⟨some 12, .fad 1 (.t 3), none⟩,
    ⟨some 13, .load false [.s] (.t 12), none⟩,
    ⟨some 14, .bin .neq (.t 11) (.t 13), none⟩]) (
  .cond (.t 14) (.seq (.reg false [⟨some 4, .mv (.c (.v (.bool false))), none⟩]) (
    .ret)) (.skip))) (
  .seq (.seq (.reg false [⟨some 15, .fad 2 (.t 2), none⟩,
    ⟨some 16, .load false [(.i .i64)] (.t 15), none⟩,
    ⟨some 17, .fad 2 (.t 3), none⟩,
    ⟨some 18, .load false [(.i .i64)] (.t 17), none⟩,
    ⟨some 19, .bin .neq (.t 16) (.t 18), none⟩]) (
  .cond (.t 19) (.seq (.reg false [⟨some 4, .mv (.c (.v (.bool false))), none⟩]) (
    .ret)) (.skip))) (
  .seq (.seq (.reg false [⟨some 20, .fad 3 (.t 2), none⟩,
    ⟨some 21, .load false [(.i .i64)] (.t 20), none⟩,
    ⟨some 22, .fad 3 (.t 3), none⟩,
    ⟨some 23, .load false [(.i .i64)] (.t 22), none⟩,
    ⟨some 24, .bin .neq (.t 21) (.t 23), none⟩]) (
  .cond (.t 24) (.seq (.reg false [⟨some 4, .mv (.c (.v (.bool false))), none⟩]) (
    .ret)) (.skip))) (
  .seq (.seq (.reg false [⟨some 25, .fad 4 (.t 2), none⟩,
    ⟨some 26, .load false [(.i .i64)] (.t 25), none⟩,
    ⟨some 27, .fad 4 (.t 3), none⟩,
    ⟨some 28, .load false [(.i .i64)] (.t 27), none⟩,
    ⟨some 29, .bin .neq (.t 26) (.t 28), none⟩]) (
  .cond (.t 29) (.seq (.reg false [⟨some 4, .mv (.c (.v (.bool false))), none⟩]) (
    .ret)) (.skip))) (
  .seq (.reg false [⟨some 4, .mv (.c (.v (.bool true))), none⟩]) (
  .ret))))))))⟩

theorem a105q (T : Table) (k : Nat) (n1 : Int) (s2 : ByteArray) (n3 : Int) (n4 : Int) (n5 : Int) (n6 : Int) (s7 : ByteArray) (n8 : Int) (n9 : Int) (n10 : Int) : evalF T k a105 [(.g [(.v (.int .i64 n1)), (.v (.string s2)), (.v (.int .i64 n3)), (.v (.int .i64 n4)), (.v (.int .i64 n5))]), (.g [(.v (.int .i64 n6)), (.v (.string s7)), (.v (.int .i64 n8)), (.v (.int .i64 n9)), (.v (.int .i64 n10))])] = (
 bif (n1 != n6) then (
 some ⟨(.d (.v (.bool false))), []⟩) else (
 bif (!(bytesEq s2 s7)) then (
 some ⟨(.d (.v (.bool false))), []⟩) else (
 bif (n3 != n8) then (
 some ⟨(.d (.v (.bool false))), []⟩) else (
 bif (n4 != n9) then (
 some ⟨(.d (.v (.bool false))), []⟩) else (
 bif (n5 != n10) then (
 some ⟨(.d (.v (.bool false))), []⟩) else (
 some ⟨(.d (.v (.bool true))), []⟩)))))) := by kernel_rfl
/- loop.example/g00119/laws.eqHoldS -/
def b62x0 : ACode := (
  .seq (.seq (.reg false [⟨some 11, .mv (.t 5), none⟩,
    ⟨some 12, .mv (.t 0), none⟩,
    ⟨some 13, .len false (.t 12), none⟩,
    ⟨some 14, .bin .lss (.t 11) (.t 13), none⟩]) (
  .cond (.t 14) (.skip) (.exit 0))) (
  .seq (.block 1 (.seq (.dreg [] [(0, ⟨some 17, .mv (.t 0), none⟩),
      (0, ⟨some 18, .mv (.t 5), none⟩),
      (0, ⟨some 19, .iad 5 (.t 17) (.t 18), none⟩),
      (0, ⟨some 20, .load true [(.i .i64), .s, (.i .i64), (.i .i64), (.i .i64)] (.t 19), none⟩),
      (0, ⟨some 21, .mv (.t 1), none⟩),
      (0, ⟨some 22, .mv (.t 5), none⟩),
      (0, ⟨some 23, .iad 5 (.t 21) (.t 22), none⟩),
      (0, ⟨some 24, .load true [(.i .i64), .s, (.i .i64), (.i .i64), (.i .i64)] (.t 23), none⟩)] [⟨some 25, .call (.f 105) [.rd, .rd] false [.c .b] [(.t 20), (.t 24)], none⟩,
      ⟨some 26, .un .not (.t 25), none⟩]) (
    .cond (.t 26) (.seq (.reg false [⟨some 4, .mv (.c (.v (.bool false))), none⟩]) (
      .ret)) (.skip)))) (
  .reg false [⟨some 15, .mv (.t 5), none⟩,
    ⟨some 16, .bin .add (.t 15) (.c (.v (.int .i64 1))), none⟩,
    ⟨some 5, .mv (.t 16), none⟩])))
def e62x0 : Exits := [(.ret, [(4, .c .b)]), ((.exit 0), [])]
noncomputable def l62x0 (T : Table) (k : Nat) := loopN (evalC ⟨T, []⟩ k b62x0 (Ex × List AV)) [0, 1, 5] e62x0
def a62 : AFun := ⟨[.rd, .rd], false, [.t 4], (
  .seq (.reg false [⟨some 4, .mv (.c (.v (.bool false))), none⟩]) (
  .seq (.seq (.reg false [⟨some 6, .mv (.t 0), none⟩,
    ⟨some 7, .len false (.t 6), none⟩,
    ⟨some 8, .mv (.t 1), none⟩,
    ⟨some 9, .len false (.t 8), none⟩,
    ⟨some 10, .bin .neq (.t 7) (.t 9), none⟩]) (
  .cond (.t 10) (.seq (.reg false [⟨some 4, .mv (.c (.v (.bool false))), none⟩]) (
    .ret)) (.skip))) (
  .seq (.seq (.reg false [⟨some 5, .mv (.c (.v (.int .i64 0))), none⟩]) (
  .block 0 (.loop [0, 1, 5] e62x0 b62x0))) (
  .seq (.reg false [⟨some 4, .mv (.c (.v (.bool true))), none⟩]) (
  .ret)))))⟩
theorem l62x0s (T : Table) (k n : Nat) (l3 : Rows) (l4 : Rows) (n5 : Int) : l62x0 T k (n + 1) [(.fz 5 l3), (.fz 5 l4), (.v (.int .i64 n5))] = (
 bif (decide (n5 < (l3.length : Int))) then (
 tst (decide (0 ≤ n5)) (
 look l3 (Int.toNat n5) fun r6 =>
 cI .i64 r6 0 fun n7 =>
 cS r6 1 fun s8 =>
 cI .i64 r6 2 fun n9 =>
 cI .i64 r6 3 fun n10 =>
 cI .i64 r6 4 fun n11 =>
 tst (decide (0 ≤ n5)) (
 look l4 (Int.toNat n5) fun r12 =>
 cI .i64 r12 0 fun n13 =>
 cS r12 1 fun s14 =>
 cI .i64 r12 2 fun n15 =>
 cI .i64 r12 3 fun n16 =>
 cI .i64 r12 4 fun n17 =>
 callT T 105 [(.g [(.v (.int .i64 n7)), (.v (.string s8)), (.v (.int .i64 n9)), (.v (.int .i64 n10)), (.v (.int .i64 n11))]), (.g [(.v (.int .i64 n13)), (.v (.string s14)), (.v (.int .i64 n15)), (.v (.int .i64 n16)), (.v (.int .i64 n17))])] fun o18 =>
 oD o18.res fun d19 =>
 dB d19 fun b20 =>
 bif (!b20) then (
 some (.ret, [(.v (.bool false))])) else (
 l62x0 T k n [(.fz 5 l3), (.fz 5 l4), (.v (.int .i64 (IntKind.wrap .i64 (n5 + 1))))])))) else (
 some ((.exit 0), []))) := by kernel_rfl
theorem a62q (T : Table) (k : Nat) (l1 : Rows) (l2 : Rows) : evalF T k a62 [(.d (.s 5 l1)), (.d (.s 5 l2))] = (
 bif ((l1.length : Int) != (l2.length : Int)) then (
 some ⟨(.d (.v (.bool false))), []⟩) else (
 aft (l62x0 T k k [(.fz 5 l1), (.fz 5 l2), (.v (.int .i64 0))]) fun e21 ys22 =>
 bif e21.same .ret then (
 aV ys22 0 fun x23 =>
 aB x23 fun b24 =>
 some ⟨(.d (.v (.bool b24))), []⟩) else (
 bif e21.same (.exit 0) then (
 some ⟨(.d (.v (.bool true))), []⟩) else (
 none)))) := by kernel_rfl
/- loop.example/g00119/laws.eqHub -/

def a22 : AFun := ⟨[.rd, .rd], false, [.t 4], (
  .seq (.reg false [⟨some 2, .box (.t 0), none⟩,
    ⟨some 3, .box (.t 1), none⟩,
    ⟨some 4, .mv (.c (.v (.bool false))), none⟩]) (
  .seq (.seq (.reg false [⟨some 5, .fad 0 (.t 2), none⟩,
    ⟨some 6, .load false [(.i .i64)] (.t 5), none⟩,
    ⟨some 7, .fad 0 (.t 3), none⟩,
    ⟨some 8, .load false [(.i .i64)] (.t 7), none⟩,
    ⟨some 9, .bin .neq (.t 6) (.t 8), none⟩]) (
  .cond (.t 9) (.seq (.reg false [⟨some 4, .mv (.c (.v (.bool false))), none⟩]) (
    .ret)) (.skip))) (
  .seq (.seq (.reg false [⟨some 10, .fad 1 (.t 2), none⟩,
    ⟨some 11, .load false [(.i .i64)] (.t 10), none⟩,
    ⟨some 12, .fad 1 (.t 3), none⟩,
    ⟨some 13, .load false [(.i .i64)] (.t 12), none⟩,
    ⟨some 14, .bin .neq (.t 11) (.t 13), none⟩]) (
  .cond (.t 14) (.seq (.reg false [⟨some 4, .mv (.c (.v (.bool false))), none⟩]) (
    .ret)) (.skip))) (
  .seq (.seq (.reg false [⟨some 15, .fad 2 (.t 2), none⟩,
    ⟨some 16, .load false [(.i .i64)] (.t 15), none⟩,
    ⟨some 17, .fad 2 (.t 3), none⟩,
    ⟨some 18, .load false [(.i .i64)] (.t 17), none⟩,
    ⟨some 19, .bin .neq (.t 16) (.t 18), none⟩]) (
  .cond (.t 19) (.seq (.reg false [⟨some 4, .mv (.c (.v (.bool false))), none⟩]) (
    .ret)) (.skip))) (
  .seq (.seq (.reg false [⟨some 20, .fad 3 (.t 2), none⟩,
    ⟨some 21, .load false [(.sl 13)] (.t 20), none⟩,
    ⟨some 22, .fad 3 (.t 3), none⟩,
    ⟨some 23, .load false [(.sl 13)] (.t 22), none⟩,
    ⟨some 24, .call (.f 60) [.rd, .rd] false [.c .b] [(.t 21), (.t 23)], none⟩,
    ⟨some 25, .un .not (.t 24), none⟩]) (
  .cond (.t 25) (.seq (.reg false [⟨some 4, .mv (.c (.v (.bool false))), none⟩]) (
    .ret)) (.skip))) (
  .seq (.seq (.reg false [⟨some 26, .fad 4 (.t 2), none⟩,
    ⟨some 27, .load false [(.sl 6)] (.t 26), none⟩,
    ⟨some 28, .fad 4 (.t 3), none⟩,
    ⟨some 29, .load false [(.sl 6)] (.t 28), none⟩,
    ⟨some 30, .call (.f 61) [.rd, .rd] false [.c .b] [(.t 27), (.t 29)], none⟩,
    ⟨some 31, .un .not (.t 30), none⟩]) (
  .cond (.t 31) (.seq (.reg false [⟨some 4, .mv (.c (.v (.bool false))), none⟩]) (
    .ret)) (.skip))) (
  .seq (.seq (.reg false [⟨some 32, .fad 5 (.t 2), none⟩,
    ⟨some 33, .load false [(.sl 5)] (.t 32), none⟩,
    ⟨some 34, .fad 5 (.t 3), none⟩,
    ⟨some 35, .load false [(.sl 5)] (.t 34), none⟩,
    ⟨some 36, .call (.f 62) [.rd, .rd] false [.c .b] [(.t 33), (.t 35)], none⟩,
    ⟨some 37, .un .not (.t 36), none⟩]) (
  .cond (.t 37) (.seq (.reg false [⟨some 4, .mv (.c (.v (.bool false))), none⟩]) (
    .ret)) (.skip))) (
  .seq (.seq (.reg false [⟨some 38, .fad 6 (.t 2), none⟩,
    ⟨some 39, .load false [(.sl 1)] (.t 38), none⟩,
    ⟨some 40, .fad 6 (.t 3), none⟩,
    ⟨some 41, .load false [(.sl 1)] (.t 40), none⟩,
    ⟨some 42, .call (.f 63) [.rd, .rd] false [.c .b] [(.t 39), (.t 41)], none⟩,
    ⟨some 43, .un .not (.t 42), none⟩]) (
  .cond (.t 43) (.seq (.reg false [⟨some 4, .mv (.c (.v (.bool false))), none⟩]) (
    .ret)) (.skip))) (
  .seq (.reg false [⟨some 4, .mv (.c (.v (.bool true))), none⟩]) (
  .ret))))))))))⟩

theorem a22q (T : Table) (k : Nat) (n1 : Int) (n2 : Int) (n3 : Int) (l4 : Rows) (l5 : Rows) (l6 : Rows) (l7 : Rows) (n8 : Int) (n9 : Int) (n10 : Int) (l11 : Rows) (l12 : Rows) (l13 : Rows) (l14 : Rows) : evalF T k a22 [(.g [(.v (.int .i64 n1)), (.v (.int .i64 n2)), (.v (.int .i64 n3)), (.s 13 l4), (.s 6 l5), (.s 5 l6), (.s 1 l7)]), (.g [(.v (.int .i64 n8)), (.v (.int .i64 n9)), (.v (.int .i64 n10)), (.s 13 l11), (.s 6 l12), (.s 5 l13), (.s 1 l14)])] = (
 bif (n1 != n8) then (
 some ⟨(.d (.v (.bool false))), []⟩) else (
 bif (n2 != n9) then (
 some ⟨(.d (.v (.bool false))), []⟩) else (
 bif (n3 != n10) then (
 some ⟨(.d (.v (.bool false))), []⟩) else (
 callT T 60 [(.d (.s 13 l4)), (.d (.s 13 l11))] fun o15 =>
 oD o15.res fun d16 =>
 dB d16 fun b17 =>
 bif (!b17) then (
 some ⟨(.d (.v (.bool false))), []⟩) else (
 callT T 61 [(.d (.s 6 l5)), (.d (.s 6 l12))] fun o18 =>
 oD o18.res fun d19 =>
 dB d19 fun b20 =>
 bif (!b20) then (
 some ⟨(.d (.v (.bool false))), []⟩) else (
 callT T 62 [(.d (.s 5 l6)), (.d (.s 5 l13))] fun o21 =>
 oD o21.res fun d22 =>
 dB d22 fun b23 =>
 bif (!b23) then (
 some ⟨(.d (.v (.bool false))), []⟩) else (
 callT T 63 [(.d (.s 1 l7)), (.d (.s 1 l14))] fun o24 =>
 oD o24.res fun d25 =>
 dB d25 fun b26 =>
 bif (!b26) then (
 some ⟨(.d (.v (.bool false))), []⟩) else (
 some ⟨(.d (.v (.bool true))), []⟩)))))))) := by kernel_rfl
/- loop.example/g00119/spec.Spread -/
def b26x1 : ACode := (
  .seq (.seq (.dreg [] [(0, ⟨some 43, .mv (.t 8), none⟩),
    (0, ⟨some 44, .bin .gtr (.t 43) (.c (.v (.int .i64 0))), none⟩),
    (0, ⟨some 45, .mv (.t 44), none⟩),
    (0, ⟨some 46, .mv (.t 5), some (45, true)⟩),
    (0, ⟨some 47, .mv (.t 8), some (45, true)⟩),
    (0, ⟨some 48, .bin .sub (.t 47) (.c (.v (.int .i64 1))), some (45, true)⟩),
    (0, ⟨some 49, .iad 2 (.t 46) (.t 48), some (45, true)⟩),
    (0, ⟨some 50, .fad 0 (.t 49), some (45, true)⟩),
    (0, ⟨some 51, .load false [.s] (.t 50), some (45, true)⟩),
    (0, ⟨some 52, .fad 0 (.t 9), some (45, true)⟩),
    (0, ⟨some 53, .load false [.s] (.t 52), some (45, true)⟩)] [⟨some 54, .bin .gtr (.t 51) (.t 53), some (45, true)⟩,
    ⟨some 55, .pick (.t 45) (.t 54) (.c (.v (.bool false))), none⟩]) (
  .cond (.t 55) (.skip) (.exit 2))) (
  .block 3 (.seq (.reg false [⟨some 56, .mv (.t 5), none⟩,
      ⟨some 57, .mv (.t 8), none⟩,
      ⟨some 58, .mv (.t 5), none⟩,
      ⟨some 59, .mv (.t 8), none⟩,
      ⟨some 60, .bin .sub (.t 59) (.c (.v (.int .i64 1))), none⟩,
      ⟨some 61, .iad 2 (.t 58) (.t 60), none⟩,
      ⟨some 62, .load true [.s, (.i .i64)] (.t 61), none⟩,
      ⟨some 63, .iad 2 (.t 56) (.t 57), none⟩,
      ⟨none, .store 2 (.t 63) (.t 62), none⟩]) (
    .reg false [⟨some 64, .mv (.t 8), none⟩,
      ⟨some 65, .bin .sub (.t 64) (.c (.v (.int .i64 1))), none⟩,
      ⟨some 8, .mv (.t 65), none⟩]))))
def e26x1 : Exits := [((.exit 2), [(1, .c (.i .i64)), (2, .b [.c (.i .i64), .c (.i .i64), .c (.i .i64), .c (.sl 13), .c (.sl 6), .c (.sl 5), .c (.sl 1)]), (5, .o 2), (6, .c (.i .i64)), (8, .c (.i .i64)), (9, .b [.c .s, .c (.i .i64)])])]
noncomputable def l26x1 (T : Table) (k : Nat) := loopN (evalC ⟨T, []⟩ k b26x1 (Ex × List AV)) [1, 2, 5, 6, 8, 9] e26x1
def b26x0 : ACode := (
  .seq (.seq (.reg false [⟨some 11, .mv (.t 6), none⟩,
    ⟨some 12, .fad 5 (.t 2), none⟩,
    ⟨some 13, .load false [(.sl 5)] (.t 12), none⟩,
    ⟨some 14, .len false (.t 13), none⟩,
    ⟨some 15, .bin .lss (.t 11) (.t 14), none⟩]) (
  .cond (.t 15) (.skip) (.exit 0))) (
  .seq (.block 1 (.seq (.reg false [⟨some 18, .fad 5 (.t 2), none⟩,
      ⟨some 19, .load false [(.sl 5)] (.t 18), none⟩,
      ⟨some 20, .mv (.t 6), none⟩,
      ⟨some 21, .iad 5 (.t 19) (.t 20), none⟩,
      ⟨some 22, .load true [(.i .i64), .s, (.i .i64), (.i .i64), (.i .i64)] (.t 21), none⟩,
      ⟨some 7, .alloc [(.v (.int .i64 0)), (.v (.string ByteArray.empty)), (.v (.int .i64 0)), (.v (.int .i64 0)), (.v (.int .i64 0))], none⟩,
      ⟨none, .store 5 (.t 7) (.t 22), none⟩]) (
    .seq (.seq (.reg false [⟨some 23, .fad 0 (.t 7), none⟩,
      ⟨some 24, .load false [(.i .i64)] (.t 23), none⟩,
      ⟨some 25, .mv (.t 1), none⟩,
      ⟨some 26, .bin .neq (.t 24) (.t 25), none⟩,
      ⟨some 27, .mv (.t 26), none⟩,
      ⟨some 28, .fad 2 (.t 7), some (27, false)⟩,
      ⟨some 29, .load false [(.i .i64)] (.t 28), some (27, false)⟩,
      ⟨some 30, .bin .leq (.t 29) (.c (.v (.int .i64 0))), some (27, false)⟩,
      ⟨some 31, .pick (.t 27) (.c (.v (.bool true))) (.t 30), none⟩]) (
    .cond (.t 31) (.exit 1) (.skip))) (
    .seq (.reg false [⟨some 32, .mv (.t 5), none⟩,
      ⟨some 33, .len false (.t 32), none⟩,
      ⟨some 8, .mv (.t 33), none⟩]) (
    .seq (.reg false [⟨some 34, .fad 1 (.t 7), none⟩,
      ⟨some 35, .load false [.s] (.t 34), none⟩,
      ⟨some 36, .fad 2 (.t 7), none⟩,
      ⟨some 37, .load false [(.i .i64)] (.t 36), none⟩,
      ⟨some 38, .build [(.v (.string ByteArray.empty)), (.v (.int .i64 0))] [(0, 1, (.t 35)), (1, 1, (.t 37))], none⟩,
      ⟨some 9, .alloc [(.v (.string ByteArray.empty)), (.v (.int .i64 0))], none⟩,
      ⟨none, .store 2 (.t 9) (.t 38), none⟩]) (
    .seq (.reg false [⟨some 39, .mv (.t 5), none⟩,
      ⟨some 40, .load true [.s, (.i .i64)] (.t 9), none⟩,
      ⟨some 41, .lit 2 ([[(.v (.string ByteArray.empty)), (.v (.int .i64 0))]] : Rows) [(0, (.t 40))], none⟩,
      ⟨some 42, .app 2 24 (.t 39) (.t 41), none⟩,
      ⟨some 5, .mv (.t 42), none⟩]) (
    .seq (.block 2 (.loop [1, 2, 5, 6, 8, 9] e26x1 b26x1)) (
    .reg false [⟨some 66, .mv (.t 5), none⟩,
      ⟨some 67, .mv (.t 8), none⟩,
      ⟨some 68, .load true [.s, (.i .i64)] (.t 9), none⟩,
      ⟨some 69, .iad 2 (.t 66) (.t 67), none⟩,
      ⟨none, .store 2 (.t 69) (.t 68), none⟩])))))))) (
  .reg false [⟨some 16, .mv (.t 6), none⟩,
    ⟨some 17, .bin .add (.t 16) (.c (.v (.int .i64 1))), none⟩,
    ⟨some 6, .mv (.t 17), none⟩])))
def e26x0 : Exits := [((.exit 0), [(5, .o 2)])]
noncomputable def l26x0 (T : Table) (k : Nat) := loopN (evalC ⟨T, []⟩ k b26x0 (Ex × List AV)) [1, 2, 5, 6] e26x0
def a26 : AFun := ⟨[.rd, .rd], false, [.t 4], (
  .seq (.reg false [⟨some 2, .box (.t 0), none⟩,
    ⟨some 4, .mv (.c (.o 2 [])), none⟩]) (
  .seq (.reg false [⟨some 10, .lit 2 ([] : Rows) [], none⟩,
    ⟨some 5, .mv (.t 10), none⟩]) (
  .seq (.seq (.reg false [⟨some 6, .mv (.c (.v (.int .i64 0))), none⟩]) (
  .block 0 (.loop [1, 2, 5, 6] e26x0 b26x0))) (
  .seq (.reg false [⟨some 70, .mv (.t 5), none⟩,
    ⟨some 4, .mv (.t 70), none⟩]) (
  .ret)))))⟩
theorem l26x1s (T : Table) (k n : Nat) (n25 : Int) (n26 : Int) (n27 : Int) (n28 : Int) (l29 : Rows) (l30 : Rows) (l31 : Rows) (l32 : Rows) (l33 : Rows) (n34 : Int) (n35 : Int) (s36 : ByteArray) (n37 : Int) : l26x1 T k (n + 1) [(.v (.int .i64 n25)), (.b [(.v (.int .i64 n26)), (.v (.int .i64 n27)), (.v (.int .i64 n28)), (.fz 13 l29), (.fz 6 l30), (.fz 5 l31), (.fz 1 l32)]), (.o 2 l33), (.v (.int .i64 n34)), (.v (.int .i64 n35)), (.b [(.v (.string s36)), (.v (.int .i64 n37))])] = (
 bif (decide (n35 > 0)) == true then (
 tst (decide (0 ≤ (IntKind.wrap .i64 (n35 - 1))) && decide (Int.toNat (IntKind.wrap .i64 (n35 - 1)) < l33.length)) (
 look l33 (Int.toNat (IntKind.wrap .i64 (n35 - 1))) fun r38 =>
 cS r38 0 fun s39 =>
 bif (!(bytesLess s39 s36 || bytesEq s39 s36)) then (
 tst (decide (0 ≤ (IntKind.wrap .i64 (n35 - 1))) && decide (Int.toNat (IntKind.wrap .i64 (n35 - 1)) < l33.length)) (
 look l33 (Int.toNat (IntKind.wrap .i64 (n35 - 1))) fun r40 =>
 cS r40 0 fun s41 =>
 look l33 (Int.toNat (IntKind.wrap .i64 (n35 - 1))) fun r42 =>
 cI .i64 r42 1 fun n43 =>
 tst (decide (0 ≤ n35) && decide (Int.toNat n35 < l33.length)) (
 l26x1 T k n [(.v (.int .i64 n25)), (.b [(.v (.int .i64 n26)), (.v (.int .i64 n27)), (.v (.int .i64 n28)), (.fz 13 l29), (.fz 6 l30), (.fz 5 l31), (.fz 1 l32)]), (.o 2 (setD (setD l33 (Int.toNat n35) 0 (.v (.string s41))) (Int.toNat n35) 1 (.v (.int .i64 n43)))), (.v (.int .i64 n34)), (.v (.int .i64 (IntKind.wrap .i64 (n35 - 1)))), (.b [(.v (.string s36)), (.v (.int .i64 n37))])]))) else (
 some ((.exit 2), [(.v (.int .i64 n25)), (.b [(.v (.int .i64 n26)), (.v (.int .i64 n27)), (.v (.int .i64 n28)), (.fz 13 l29), (.fz 6 l30), (.fz 5 l31), (.fz 1 l32)]), (.o 2 l33), (.v (.int .i64 n34)), (.v (.int .i64 n35)), (.b [(.v (.string s36)), (.v (.int .i64 n37))])])))) else (
 some ((.exit 2), [(.v (.int .i64 n25)), (.b [(.v (.int .i64 n26)), (.v (.int .i64 n27)), (.v (.int .i64 n28)), (.fz 13 l29), (.fz 6 l30), (.fz 5 l31), (.fz 1 l32)]), (.o 2 l33), (.v (.int .i64 n34)), (.v (.int .i64 n35)), (.b [(.v (.string s36)), (.v (.int .i64 n37))])]))) := by kernel_rfl
theorem l26x0s (T : Table) (k n : Nat) (n9 : Int) (n10 : Int) (n11 : Int) (n12 : Int) (l13 : Rows) (l14 : Rows) (l15 : Rows) (l16 : Rows) (l17 : Rows) (n18 : Int) : l26x0 T k (n + 1) [(.v (.int .i64 n9)), (.b [(.v (.int .i64 n10)), (.v (.int .i64 n11)), (.v (.int .i64 n12)), (.fz 13 l13), (.fz 6 l14), (.fz 5 l15), (.fz 1 l16)]), (.o 2 l17), (.v (.int .i64 n18))] = (
 bif (decide (n18 < (l15.length : Int))) then (
 tst (decide (0 ≤ n18)) (
 look l15 (Int.toNat n18) fun r19 =>
 cI .i64 r19 0 fun n20 =>
 cS r19 1 fun s21 =>
 cI .i64 r19 2 fun n22 =>
 cI .i64 r19 3 fun n23 =>
 cI .i64 r19 4 fun n24 =>
 bif (n20 != n9) == false then (
 bif (decide (n22 ≤ 0)) then (
 l26x0 T k n [(.v (.int .i64 n9)), (.b [(.v (.int .i64 n10)), (.v (.int .i64 n11)), (.v (.int .i64 n12)), (.fz 13 l13), (.fz 6 l14), (.fz 5 l15), (.fz 1 l16)]), (.o 2 l17), (.v (.int .i64 (IntKind.wrap .i64 (n18 + 1))))]) else (
 tst (decide ((l17.length + ([[(.v (.string s21)), (.v (.int .i64 n22))]] : Rows).length) * 24 ≤ maxBytes)) (
 aft (l26x1 T k k [(.v (.int .i64 n9)), (.b [(.v (.int .i64 n10)), (.v (.int .i64 n11)), (.v (.int .i64 n12)), (.fz 13 l13), (.fz 6 l14), (.fz 5 l15), (.fz 1 l16)]), (.o 2 (l17 ++ ([[(.v (.string s21)), (.v (.int .i64 n22))]] : Rows))), (.v (.int .i64 n18)), (.v (.int .i64 (l17.length : Int))), (.b [(.v (.string s21)), (.v (.int .i64 n22))])]) fun e44 ys45 =>
 bif e44.same (.exit 2) then (
 aV ys45 0 fun x46 =>
 aI .i64 x46 fun n47 =>
 aV ys45 1 fun x48 =>
 aX x48 fun xs49 =>
 aV xs49 0 fun x50 =>
 aI .i64 x50 fun n51 =>
 aV xs49 1 fun x52 =>
 aI .i64 x52 fun n53 =>
 aV xs49 2 fun x54 =>
 aI .i64 x54 fun n55 =>
 aV xs49 3 fun x56 =>
 aL 13 x56 fun l57 =>
 aV xs49 4 fun x58 =>
 aL 6 x58 fun l59 =>
 aV xs49 5 fun x60 =>
 aL 5 x60 fun l61 =>
 aV xs49 6 fun x62 =>
 aL 1 x62 fun l63 =>
 aV ys45 2 fun x64 =>
 aO 2 x64 fun l65 =>
 aV ys45 3 fun x66 =>
 aI .i64 x66 fun n67 =>
 aV ys45 4 fun x68 =>
 aI .i64 x68 fun n69 =>
 aV ys45 5 fun x70 =>
 aX x70 fun xs71 =>
 aV xs71 0 fun x72 =>
 aS x72 fun s73 =>
 aV xs71 1 fun x74 =>
 aI .i64 x74 fun n75 =>
 tst (decide (0 ≤ n69) && decide (Int.toNat n69 < l65.length)) (
 l26x0 T k n [(.v (.int .i64 n47)), (.b [(.v (.int .i64 n51)), (.v (.int .i64 n53)), (.v (.int .i64 n55)), (.fz 13 l57), (.fz 6 l59), (.fz 5 l61), (.fz 1 l63)]), (.o 2 (setD (setD l65 (Int.toNat n69) 0 (.v (.string s73))) (Int.toNat n69) 1 (.v (.int .i64 n75)))), (.v (.int .i64 (IntKind.wrap .i64 (n67 + 1))))])) else (
 none)))) else (
 l26x0 T k n [(.v (.int .i64 n9)), (.b [(.v (.int .i64 n10)), (.v (.int .i64 n11)), (.v (.int .i64 n12)), (.fz 13 l13), (.fz 6 l14), (.fz 5 l15), (.fz 1 l16)]), (.o 2 l17), (.v (.int .i64 (IntKind.wrap .i64 (n18 + 1))))]))) else (
 some ((.exit 0), [(.o 2 l17)]))) := by kernel_rfl
theorem a26q (T : Table) (k : Nat) (n1 : Int) (n2 : Int) (n3 : Int) (l4 : Rows) (l5 : Rows) (l6 : Rows) (l7 : Rows) (n8 : Int) : evalF T k a26 [(.g [(.v (.int .i64 n1)), (.v (.int .i64 n2)), (.v (.int .i64 n3)), (.s 13 l4), (.s 6 l5), (.s 5 l6), (.s 1 l7)]), (.d (.v (.int .i64 n8)))] = (
 aft (l26x0 T k k [(.v (.int .i64 n8)), (.b [(.v (.int .i64 n1)), (.v (.int .i64 n2)), (.v (.int .i64 n3)), (.fz 13 l4), (.fz 6 l5), (.fz 5 l6), (.fz 1 l7)]), (.o 2 []), (.v (.int .i64 0))]) fun e76 ys77 =>
 bif e76.same (.exit 0) then (
 aV ys77 0 fun x78 =>
 aO 2 x78 fun l79 =>
 some ⟨(.d (.s 2 l79)), []⟩) else (
 none)) := by kernel_rfl
/- slices.insertionSortCmpFunc[loop.example/g00119/impl.Part] -/
def b141x1 : ACode := (
  .seq (.seq (.dreg [] [(0, ⟨some 18, .mv (.t 9), none⟩),
    (0, ⟨some 19, .mv (.t 1), none⟩),
    (0, ⟨some 20, .bin .gtr (.t 18) (.t 19), none⟩),
    (0, ⟨some 21, .mv (.t 20), none⟩),
    (0, ⟨some 22, .mv (.t 3), some (21, true)⟩),
    (0, ⟨some 23, .mv (.t 0), some (21, true)⟩),
    (0, ⟨some 24, .mv (.t 9), some (21, true)⟩),
    (0, ⟨some 25, .iad 2 (.t 23) (.t 24), some (21, true)⟩),
    (0, ⟨some 26, .load true [.s, (.i .i64)] (.t 25), some (21, true)⟩),
    (0, ⟨some 27, .mv (.t 0), some (21, true)⟩),
    (0, ⟨some 28, .mv (.t 9), some (21, true)⟩),
    (0, ⟨some 29, .bin .sub (.t 28) (.c (.v (.int .i64 1))), some (21, true)⟩),
    (0, ⟨some 30, .iad 2 (.t 27) (.t 29), some (21, true)⟩),
    (0, ⟨some 31, .load true [.s, (.i .i64)] (.t 30), some (21, true)⟩)] [⟨some 32, .call (.t 22) [.rd, .rd] false [.c (.i .i64)] [(.t 26), (.t 31)], some (21, true)⟩,
    ⟨some 33, .bin .lss (.t 32) (.c (.v (.int .i64 0))), some (21, true)⟩,
    ⟨some 34, .pick (.t 21) (.t 33) (.c (.v (.bool false))), none⟩]) (
  .cond (.t 34) (.skip) (.exit 2))) (
  .seq (.block 3 (.dreg [] [(0, ⟨some 37, .mv (.t 0), none⟩),
      (0, ⟨some 38, .mv (.t 9), none⟩),
      (3, ⟨some 39, .mv (.t 0), none⟩),
      (3, ⟨some 40, .mv (.t 9), none⟩),
      (3, ⟨some 41, .bin .sub (.t 40) (.c (.v (.int .i64 1))), none⟩),
      (0, ⟨some 42, .mv (.t 0), none⟩),
      (0, ⟨some 43, .mv (.t 9), none⟩),
      (0, ⟨some 44, .bin .sub (.t 43) (.c (.v (.int .i64 1))), none⟩),
      (0, ⟨some 45, .iad 2 (.t 42) (.t 44), none⟩),
      (0, ⟨some 46, .load true [.s, (.i .i64)] (.t 45), none⟩),
      (0, ⟨some 47, .mv (.t 0), none⟩),
      (0, ⟨some 48, .mv (.t 9), none⟩),
      (0, ⟨some 49, .iad 2 (.t 47) (.t 48), none⟩),
      (0, ⟨some 50, .load true [.s, (.i .i64)] (.t 49), none⟩)] [⟨some 51, .iad 2 (.t 37) (.t 38), none⟩,
      ⟨none, .store 2 (.t 51) (.t 46), none⟩,
      ⟨some 52, .iad 2 (.t 39) (.t 41), none⟩,
      ⟨none, .store 2 (.t 52) (.t 50), none⟩])) (
  .reg false [⟨some 35, .mv (.t 9), none⟩,
    ⟨some 36, .bin .sub (.t 35) (.c (.v (.int .i64 1))), none⟩,
    ⟨some 9, .mv (.t 36), none⟩])))
def e141x1 : Exits := [((.exit 2), [(0, .o 2), (1, .c (.i .i64)), (2, .c (.i .i64)), (3, .ff), (8, .c (.i .i64))])]
noncomputable def l141x1 (T : Table) (k : Nat) := loopN (evalC ⟨T, [0]⟩ k b141x1 (Ex × List AV)) [0, 1, 2, 3, 8, 9] e141x1
def b141x0 : ACode := (
  .seq (.seq (.reg false [⟨some 12, .mv (.t 8), none⟩,
    ⟨some 13, .mv (.t 2), none⟩,
    ⟨some 14, .bin .lss (.t 12) (.t 13), none⟩]) (
  .cond (.t 14) (.skip) (.exit 0))) (
  .seq (.block 1 (.seq (.reg false [⟨some 17, .mv (.t 8), none⟩,
      ⟨some 9, .mv (.t 17), none⟩]) (
    .block 2 (.loop [0, 1, 2, 3, 8, 9] e141x1 b141x1)))) (
  .reg false [⟨some 15, .mv (.t 8), none⟩,
    ⟨some 16, .bin .add (.t 15) (.c (.v (.int .i64 1))), none⟩,
    ⟨some 8, .mv (.t 16), none⟩])))
def e141x0 : Exits := [((.exit 0), [(0, .o 2)])]
noncomputable def l141x0 (T : Table) (k : Nat) := loopN (evalC ⟨T, [0]⟩ k b141x0 (Ex × List AV)) [0, 1, 2, 3, 8] e141x0
def a141 : AFun := ⟨[.lent, .rd, .rd, .rd], false, [], (
  .seq (.reg false [⟨some 10, .mv (.t 1), none⟩,
    ⟨some 11, .bin .add (.t 10) (.c (.v (.int .i64 1))), none⟩,
    ⟨some 8, .mv (.t 11), none⟩]) (
  .block 0 (.loop [0, 1, 2, 3, 8] e141x0 b141x0)))⟩
theorem l141x1s (T : Table) (k n : Nat) (l12 : Rows) (n13 : Int) (n14 : Int) (f15 : Nat) (cs16 : List I) (n17 : Int) (n18 : Int) : l141x1 T k (n + 1) [(.o 2 l12), (.v (.int .i64 n13)), (.v (.int .i64 n14)), (.ff f15 cs16), (.v (.int .i64 n17)), (.v (.int .i64 n18))] = (
 bif (decide (n18 > n13)) == true then (
 tst (decide (0 ≤ n18) && decide (Int.toNat n18 < l12.length)) (
 look l12 (Int.toNat n18) fun r19 =>
 cS r19 0 fun s20 =>
 look l12 (Int.toNat n18) fun r21 =>
 cI .i64 r21 1 fun n22 =>
 tst (decide (0 ≤ (IntKind.wrap .i64 (n18 - 1))) && decide (Int.toNat (IntKind.wrap .i64 (n18 - 1)) < l12.length)) (
 look l12 (Int.toNat (IntKind.wrap .i64 (n18 - 1))) fun r23 =>
 cS r23 0 fun s24 =>
 look l12 (Int.toNat (IntKind.wrap .i64 (n18 - 1))) fun r25 =>
 cI .i64 r25 1 fun n26 =>
 callT T f15 ([(.g [(.v (.string s20)), (.v (.int .i64 n22))]), (.g [(.v (.string s24)), (.v (.int .i64 n26))])] ++ cs16) fun o27 =>
 oD o27.res fun d28 =>
 dI .i64 d28 fun n29 =>
 bif (decide (n29 < 0)) then (
 tst (decide (0 ≤ (IntKind.wrap .i64 (n18 - 1))) && decide (Int.toNat (IntKind.wrap .i64 (n18 - 1)) < l12.length)) (
 look l12 (Int.toNat (IntKind.wrap .i64 (n18 - 1))) fun r30 =>
 cS r30 0 fun s31 =>
 look l12 (Int.toNat (IntKind.wrap .i64 (n18 - 1))) fun r32 =>
 cI .i64 r32 1 fun n33 =>
 tst (decide (0 ≤ n18) && decide (Int.toNat n18 < l12.length)) (
 look l12 (Int.toNat n18) fun r34 =>
 cS r34 0 fun s35 =>
 look l12 (Int.toNat n18) fun r36 =>
 cI .i64 r36 1 fun n37 =>
 tst (decide (0 ≤ n18) && decide (Int.toNat n18 < l12.length)) (
 tst (decide (0 ≤ (IntKind.wrap .i64 (n18 - 1))) && decide (Int.toNat (IntKind.wrap .i64 (n18 - 1)) < (setD (setD l12 (Int.toNat n18) 0 (.v (.string s31))) (Int.toNat n18) 1 (.v (.int .i64 n33))).length)) (
 l141x1 T k n [(.o 2 (setD (setD (setD (setD l12 (Int.toNat n18) 0 (.v (.string s31))) (Int.toNat n18) 1 (.v (.int .i64 n33))) (Int.toNat (IntKind.wrap .i64 (n18 - 1))) 0 (.v (.string s35))) (Int.toNat (IntKind.wrap .i64 (n18 - 1))) 1 (.v (.int .i64 n37)))), (.v (.int .i64 n13)), (.v (.int .i64 n14)), (.ff f15 cs16), (.v (.int .i64 n17)), (.v (.int .i64 (IntKind.wrap .i64 (n18 - 1))))]))))) else (
 some ((.exit 2), [(.o 2 l12), (.v (.int .i64 n13)), (.v (.int .i64 n14)), (.ff f15 cs16), (.v (.int .i64 n17))]))))) else (
 some ((.exit 2), [(.o 2 l12), (.v (.int .i64 n13)), (.v (.int .i64 n14)), (.ff f15 cs16), (.v (.int .i64 n17))]))) := by kernel_rfl
theorem l141x0s (T : Table) (k n : Nat) (l6 : Rows) (n7 : Int) (n8 : Int) (f9 : Nat) (cs10 : List I) (n11 : Int) : l141x0 T k (n + 1) [(.o 2 l6), (.v (.int .i64 n7)), (.v (.int .i64 n8)), (.ff f9 cs10), (.v (.int .i64 n11))] = (
 bif (decide (n11 < n8)) then (
 aft (l141x1 T k k [(.o 2 l6), (.v (.int .i64 n7)), (.v (.int .i64 n8)), (.ff f9 cs10), (.v (.int .i64 n11)), (.v (.int .i64 n11))]) fun e38 ys39 =>
 bif e38.same (.exit 2) then (
 aV ys39 0 fun x40 =>
 aO 2 x40 fun l41 =>
 aV ys39 1 fun x42 =>
 aI .i64 x42 fun n43 =>
 aV ys39 2 fun x44 =>
 aI .i64 x44 fun n45 =>
 aV ys39 3 fun x46 =>
 aF x46 fun f47 cs48 =>
 aV ys39 4 fun x49 =>
 aI .i64 x49 fun n50 =>
 l141x0 T k n [(.o 2 l41), (.v (.int .i64 n43)), (.v (.int .i64 n45)), (.ff f47 cs48), (.v (.int .i64 (IntKind.wrap .i64 (n50 + 1))))]) else (
 none)) else (
 some ((.exit 0), [(.o 2 l6)]))) := by kernel_rfl
theorem a141q (T : Table) (k : Nat) (l1 : Rows) (n2 : Int) (n3 : Int) (f4 : Nat) (cs5 : List I) : evalF T k a141 [(.d (.s 2 l1)), (.d (.v (.int .i64 n2))), (.d (.v (.int .i64 n3))), (.f f4 cs5)] = (
 aft (l141x0 T k k [(.o 2 l1), (.v (.int .i64 n2)), (.v (.int .i64 n3)), (.ff f4 cs5), (.v (.int .i64 (IntKind.wrap .i64 (n2 + 1))))]) fun e51 ys52 =>
 bif e51.same (.exit 0) then (
 aV ys52 0 fun x53 =>
 aO 2 x53 fun l54 =>
 some ⟨(.t []), [(.d (.s 2 l54))]⟩) else (
 none)) := by kernel_rfl
/- slices.swapRangeCmpFunc[loop.example/g00119/impl.Part] -/
def b182x0 : ACode := (
  .seq (.seq (.reg false [⟨some 11, .mv (.t 10), none⟩,
    ⟨some 12, .mv (.t 3), none⟩,
    ⟨some 13, .bin .lss (.t 11) (.t 12), none⟩]) (
  .cond (.t 13) (.skip) (.exit 0))) (
  .seq (.block 1 (.dreg [] [(0, ⟨some 16, .mv (.t 0), none⟩),
      (0, ⟨some 17, .mv (.t 1), none⟩),
      (0, ⟨some 18, .mv (.t 10), none⟩),
      (0, ⟨some 19, .bin .add (.t 17) (.t 18), none⟩),
      (3, ⟨some 20, .mv (.t 0), none⟩),
      (3, ⟨some 21, .mv (.t 2), none⟩),
      (3, ⟨some 22, .mv (.t 10), none⟩),
      (3, ⟨some 23, .bin .add (.t 21) (.t 22), none⟩),
      (0, ⟨some 24, .mv (.t 0), none⟩),
      (0, ⟨some 25, .mv (.t 2), none⟩),
      (0, ⟨some 26, .mv (.t 10), none⟩),
      (0, ⟨some 27, .bin .add (.t 25) (.t 26), none⟩),
      (0, ⟨some 28, .iad 2 (.t 24) (.t 27), none⟩),
      (0, ⟨some 29, .load true [.s, (.i .i64)] (.t 28), none⟩),
      (0, ⟨some 30, .mv (.t 0), none⟩),
      (0, ⟨some 31, .mv (.t 1), none⟩),
      (0, ⟨some 32, .mv (.t 10), none⟩),
      (0, ⟨some 33, .bin .add (.t 31) (.t 32), none⟩),
      (0, ⟨some 34, .iad 2 (.t 30) (.t 33), none⟩),
      (0, ⟨some 35, .load true [.s, (.i .i64)] (.t 34), none⟩)] [⟨some 36, .iad 2 (.t 16) (.t 19), none⟩,
      ⟨none, .store 2 (.t 36) (.t 29), none⟩,
      ⟨some 37, .iad 2 (.t 20) (.t 23), none⟩,
      ⟨none, .store 2 (.t 37) (.t 35), none⟩])) (
  .reg false [⟨some 14, .mv (.t 10), none⟩,
    ⟨some 15, .bin .add (.t 14) (.c (.v (.int .i64 1))), none⟩,
    ⟨some 10, .mv (.t 15), none⟩])))
def e182x0 : Exits := [((.exit 0), [(0, .o 2)])]
noncomputable def l182x0 (T : Table) (k : Nat) := loopN (evalC ⟨T, [0]⟩ k b182x0 (Ex × List AV)) [0, 1, 2, 3, 10] e182x0
def a182 : AFun := ⟨[.lent, .rd, .rd, .rd, .rd], false, [], (
  .seq (.reg false [⟨some 10, .mv (.c (.v (.int .i64 0))), none⟩]) (
  .block 0 (.loop [0, 1, 2, 3, 10] e182x0 b182x0)))⟩
theorem l182x0s (T : Table) (k n : Nat) (l7 : Rows) (n8 : Int) (n9 : Int) (n10 : Int) (n11 : Int) : l182x0 T k (n + 1) [(.o 2 l7), (.v (.int .i64 n8)), (.v (.int .i64 n9)), (.v (.int .i64 n10)), (.v (.int .i64 n11))] = (
 bif (decide (n11 < n10)) then (
 tst (decide (0 ≤ (IntKind.wrap .i64 (n9 + n11))) && decide (Int.toNat (IntKind.wrap .i64 (n9 + n11)) < l7.length)) (
 look l7 (Int.toNat (IntKind.wrap .i64 (n9 + n11))) fun r12 =>
 cS r12 0 fun s13 =>
 look l7 (Int.toNat (IntKind.wrap .i64 (n9 + n11))) fun r14 =>
 cI .i64 r14 1 fun n15 =>
 tst (decide (0 ≤ (IntKind.wrap .i64 (n8 + n11))) && decide (Int.toNat (IntKind.wrap .i64 (n8 + n11)) < l7.length)) (
 look l7 (Int.toNat (IntKind.wrap .i64 (n8 + n11))) fun r16 =>
 cS r16 0 fun s17 =>
 look l7 (Int.toNat (IntKind.wrap .i64 (n8 + n11))) fun r18 =>
 cI .i64 r18 1 fun n19 =>
 tst (decide (0 ≤ (IntKind.wrap .i64 (n8 + n11))) && decide (Int.toNat (IntKind.wrap .i64 (n8 + n11)) < l7.length)) (
 tst (decide (0 ≤ (IntKind.wrap .i64 (n9 + n11))) && decide (Int.toNat (IntKind.wrap .i64 (n9 + n11)) < (setD (setD l7 (Int.toNat (IntKind.wrap .i64 (n8 + n11))) 0 (.v (.string s13))) (Int.toNat (IntKind.wrap .i64 (n8 + n11))) 1 (.v (.int .i64 n15))).length)) (
 l182x0 T k n [(.o 2 (setD (setD (setD (setD l7 (Int.toNat (IntKind.wrap .i64 (n8 + n11))) 0 (.v (.string s13))) (Int.toNat (IntKind.wrap .i64 (n8 + n11))) 1 (.v (.int .i64 n15))) (Int.toNat (IntKind.wrap .i64 (n9 + n11))) 0 (.v (.string s17))) (Int.toNat (IntKind.wrap .i64 (n9 + n11))) 1 (.v (.int .i64 n19)))), (.v (.int .i64 n8)), (.v (.int .i64 n9)), (.v (.int .i64 n10)), (.v (.int .i64 (IntKind.wrap .i64 (n11 + 1))))]))))) else (
 some ((.exit 0), [(.o 2 l7)]))) := by kernel_rfl
theorem a182q (T : Table) (k : Nat) (l1 : Rows) (n2 : Int) (n3 : Int) (n4 : Int) (f5 : Nat) (cs6 : List I) : evalF T k a182 [(.d (.s 2 l1)), (.d (.v (.int .i64 n2))), (.d (.v (.int .i64 n3))), (.d (.v (.int .i64 n4))), (.f f5 cs6)] = (
 aft (l182x0 T k k [(.o 2 l1), (.v (.int .i64 n2)), (.v (.int .i64 n3)), (.v (.int .i64 n4)), (.v (.int .i64 0))]) fun e20 ys21 =>
 bif e20.same (.exit 0) then (
 aV ys21 0 fun x22 =>
 aO 2 x22 fun l23 =>
 some ⟨(.t []), [(.d (.s 2 l23))]⟩) else (
 none)) := by kernel_rfl
/- slices.rotateCmpFunc[loop.example/g00119/impl.Part] -/
def b165x0 : ACode := (
  .seq (.seq (.reg false [⟨some 18, .mv (.t 10), none⟩,
    ⟨some 19, .mv (.t 11), none⟩,
    ⟨some 20, .bin .neq (.t 18) (.t 19), none⟩]) (
  .cond (.t 20) (.skip) (.exit 0))) (
  .block 1 (.seq (.reg false [⟨some 21, .mv (.t 10), none⟩,
      ⟨some 22, .mv (.t 11), none⟩,
      ⟨some 23, .bin .gtr (.t 21) (.t 22), none⟩]) (
    .cond (.t 23) (.seq (.reg false [⟨some 24, .mv (.t 0), none⟩,
        ⟨some 25, .mv (.t 2), none⟩,
        ⟨some 26, .mv (.t 10), none⟩,
        ⟨some 27, .bin .sub (.t 25) (.t 26), none⟩,
        ⟨some 28, .mv (.t 2), none⟩,
        ⟨some 29, .mv (.t 11), none⟩,
        ⟨some 30, .mv (.t 4), none⟩,
        ⟨some 31, .call (.f 182) [.lent, .rd, .rd, .rd, .rd] false [] [(.t 24), (.t 27), (.t 28), (.t 29), (.t 30)], none⟩]) (
      .reg false [⟨some 32, .mv (.t 10), none⟩,
        ⟨some 33, .mv (.t 11), none⟩,
        ⟨some 34, .bin .sub (.t 32) (.t 33), none⟩,
        ⟨some 10, .mv (.t 34), none⟩])) (.seq (.reg false [⟨some 35, .mv (.t 0), none⟩,
        ⟨some 36, .mv (.t 2), none⟩,
        ⟨some 37, .mv (.t 10), none⟩,
        ⟨some 38, .bin .sub (.t 36) (.t 37), none⟩,
        ⟨some 39, .mv (.t 2), none⟩,
        ⟨some 40, .mv (.t 11), none⟩,
        ⟨some 41, .bin .add (.t 39) (.t 40), none⟩,
        ⟨some 42, .mv (.t 10), none⟩,
        ⟨some 43, .bin .sub (.t 41) (.t 42), none⟩,
        ⟨some 44, .mv (.t 10), none⟩,
        ⟨some 45, .mv (.t 4), none⟩,
        ⟨some 46, .call (.f 182) [.lent, .rd, .rd, .rd, .rd] false [] [(.t 35), (.t 38), (.t 43), (.t 44), (.t 45)], none⟩]) (
      .reg false [⟨some 47, .mv (.t 11), none⟩,
        ⟨some 48, .mv (.t 10), none⟩,
        ⟨some 49, .bin .sub (.t 47) (.t 48), none⟩,
        ⟨some 11, .mv (.t 49), none⟩]))))))
def e165x0 : Exits := [((.exit 0), [(0, .o 2), (2, .c (.i .i64)), (4, .ff), (10, .c (.i .i64))])]
noncomputable def l165x0 (T : Table) (k : Nat) := loopN (evalC ⟨T, [0]⟩ k b165x0 (Ex × List AV)) [0, 2, 4, 10, 11] e165x0
def a165 : AFun := ⟨[.lent, .rd, .rd, .rd, .rd], false, [], (
  .seq (.reg false [⟨some 12, .mv (.t 2), none⟩,
    ⟨some 13, .mv (.t 1), none⟩,
    ⟨some 14, .bin .sub (.t 12) (.t 13), none⟩,
    ⟨some 10, .mv (.t 14), none⟩]) (
  .seq (.reg false [⟨some 15, .mv (.t 3), none⟩,
    ⟨some 16, .mv (.t 2), none⟩,
    ⟨some 17, .bin .sub (.t 15) (.t 16), none⟩,
    ⟨some 11, .mv (.t 17), none⟩]) (
  .seq (.block 0 (.loop [0, 2, 4, 10, 11] e165x0 b165x0)) (
  .reg false [⟨some 50, .mv (.t 0), none⟩,
    ⟨some 51, .mv (.t 2), none⟩,
    ⟨some 52, .mv (.t 10), none⟩,
    ⟨some 53, .bin .sub (.t 51) (.t 52), none⟩,
    ⟨some 54, .mv (.t 2), none⟩,
    ⟨some 55, .mv (.t 10), none⟩,
    ⟨some 56, .mv (.t 4), none⟩,
    ⟨some 57, .call (.f 182) [.lent, .rd, .rd, .rd, .rd] false [] [(.t 50), (.t 53), (.t 54), (.t 55), (.t 56)], none⟩]))))⟩
theorem l165x0s (T : Table) (k n : Nat) (l7 : Rows) (n8 : Int) (f9 : Nat) (cs10 : List I) (n11 : Int) (n12 : Int) : l165x0 T k (n + 1) [(.o 2 l7), (.v (.int .i64 n8)), (.ff f9 cs10), (.v (.int .i64 n11)), (.v (.int .i64 n12))] = (
 bif (n11 != n12) then (
 bif (decide (n11 > n12)) then (
 callT T 182 [(.d (.s 2 l7)), (.d (.v (.int .i64 (IntKind.wrap .i64 (n8 - n11))))), (.d (.v (.int .i64 n8))), (.d (.v (.int .i64 n12))), (.f f9 cs10)] fun o13 =>
 nth o13.back 0 fun i14 =>
 oD i14 fun d15 =>
 dL 2 d15 fun l16 =>
 oT o13.res fun is17 =>
 tst (Nat.beq is17.length 0) (
 l165x0 T k n [(.o 2 l16), (.v (.int .i64 n8)), (.ff f9 cs10), (.v (.int .i64 (IntKind.wrap .i64 (n11 - n12)))), (.v (.int .i64 n12))])) else (
 callT T 182 [(.d (.s 2 l7)), (.d (.v (.int .i64 (IntKind.wrap .i64 (n8 - n11))))), (.d (.v (.int .i64 (IntKind.wrap .i64 ((IntKind.wrap .i64 (n8 + n12)) - n11))))), (.d (.v (.int .i64 n11))), (.f f9 cs10)] fun o18 =>
 nth o18.back 0 fun i19 =>
 oD i19 fun d20 =>
 dL 2 d20 fun l21 =>
 oT o18.res fun is22 =>
 tst (Nat.beq is22.length 0) (
 l165x0 T k n [(.o 2 l21), (.v (.int .i64 n8)), (.ff f9 cs10), (.v (.int .i64 n11)), (.v (.int .i64 (IntKind.wrap .i64 (n12 - n11))))]))) else (
 some ((.exit 0), [(.o 2 l7), (.v (.int .i64 n8)), (.ff f9 cs10), (.v (.int .i64 n11))]))) := by kernel_rfl
theorem a165q (T : Table) (k : Nat) (l1 : Rows) (n2 : Int) (n3 : Int) (n4 : Int) (f5 : Nat) (cs6 : List I) : evalF T k a165 [(.d (.s 2 l1)), (.d (.v (.int .i64 n2))), (.d (.v (.int .i64 n3))), (.d (.v (.int .i64 n4))), (.f f5 cs6)] = (
 aft (l165x0 T k k [(.o 2 l1), (.v (.int .i64 n3)), (.ff f5 cs6), (.v (.int .i64 (IntKind.wrap .i64 (n3 - n2)))), (.v (.int .i64 (IntKind.wrap .i64 (n4 - n3))))]) fun e23 ys24 =>
 bif e23.same (.exit 0) then (
 aV ys24 0 fun x25 =>
 aO 2 x25 fun l26 =>
 aV ys24 1 fun x27 =>
 aI .i64 x27 fun n28 =>
 aV ys24 2 fun x29 =>
 aF x29 fun f30 cs31 =>
 aV ys24 3 fun x32 =>
 aI .i64 x32 fun n33 =>
 callT T 182 [(.d (.s 2 l26)), (.d (.v (.int .i64 (IntKind.wrap .i64 (n28 - n33))))), (.d (.v (.int .i64 n28))), (.d (.v (.int .i64 n33))), (.f f30 cs31)] fun o34 =>
 nth o34.back 0 fun i35 =>
 oD i35 fun d36 =>
 dL 2 d36 fun l37 =>
 oT o34.res fun is38 =>
 tst (Nat.beq is38.length 0) (
 some ⟨(.t []), [(.d (.s 2 l37))]⟩)) else (
 none)) := by kernel_rfl
/- slices.symMergeCmpFunc[loop.example/g00119/impl.Part] -/
def b142x0 : ACode := (
  .seq (.seq (.reg false [⟨some 31, .mv (.t 10), none⟩,
    ⟨some 32, .mv (.t 11), none⟩,
    ⟨some 33, .bin .lss (.t 31) (.t 32), none⟩]) (
  .cond (.t 33) (.skip) (.exit 0))) (
  .block 1 (.seq (.reg false [⟨some 34, .mv (.t 10), none⟩,
      ⟨some 35, .mv (.t 11), none⟩,
      ⟨some 36, .bin .add (.t 34) (.t 35), none⟩,
      ⟨some 37, .conv (.int .u64) (.t 36), none⟩,
      ⟨some 38, .more (.shr 1 (.t 37)), none⟩,
      ⟨some 39, .conv (.int .i64) (.t 38), none⟩,
      ⟨some 12, .mv (.t 39), none⟩]) (
    .seq (.dreg [] [(0, ⟨some 40, .mv (.t 4), none⟩),
      (0, ⟨some 41, .mv (.t 0), none⟩),
      (0, ⟨some 42, .mv (.t 12), none⟩),
      (0, ⟨some 43, .iad 2 (.t 41) (.t 42), none⟩),
      (0, ⟨some 44, .load true [.s, (.i .i64)] (.t 43), none⟩),
      (0, ⟨some 45, .mv (.t 0), none⟩),
      (0, ⟨some 46, .mv (.t 1), none⟩),
      (0, ⟨some 47, .iad 2 (.t 45) (.t 46), none⟩),
      (0, ⟨some 48, .load true [.s, (.i .i64)] (.t 47), none⟩)] [⟨some 49, .call (.t 40) [.rd, .rd] false [.c (.i .i64)] [(.t 44), (.t 48)], none⟩,
      ⟨some 50, .bin .lss (.t 49) (.c (.v (.int .i64 0))), none⟩]) (
    .cond (.t 50) (.reg false [⟨some 51, .mv (.t 12), none⟩,
        ⟨some 52, .bin .add (.t 51) (.c (.v (.int .i64 1))), none⟩,
        ⟨some 10, .mv (.t 52), none⟩]) (.reg false [⟨some 53, .mv (.t 12), none⟩,
        ⟨some 11, .mv (.t 53), none⟩]))))))
def e142x0 : Exits := [((.exit 0), [(0, .o 2), (1, .c (.i .i64)), (10, .c (.i .i64))])]
noncomputable def l142x0 (T : Table) (k : Nat) := loopN (evalC ⟨T, [0]⟩ k b142x0 (Ex × List AV)) [0, 1, 4, 10, 11] e142x0
def b142x1 : ACode := (
  .seq (.seq (.reg false [⟨some 55, .mv (.t 13), none⟩,
    ⟨some 56, .mv (.t 10), none⟩,
    ⟨some 57, .bin .sub (.t 56) (.c (.v (.int .i64 1))), none⟩,
    ⟨some 58, .bin .lss (.t 55) (.t 57), none⟩]) (
  .cond (.t 58) (.skip) (.exit 2))) (
  .seq (.block 3 (.dreg [] [(0, ⟨some 61, .mv (.t 0), none⟩),
      (0, ⟨some 62, .mv (.t 13), none⟩),
      (3, ⟨some 63, .mv (.t 0), none⟩),
      (3, ⟨some 64, .mv (.t 13), none⟩),
      (3, ⟨some 65, .bin .add (.t 64) (.c (.v (.int .i64 1))), none⟩),
      (0, ⟨some 66, .mv (.t 0), none⟩),
      (0, ⟨some 67, .mv (.t 13), none⟩),
      (0, ⟨some 68, .bin .add (.t 67) (.c (.v (.int .i64 1))), none⟩),
      (0, ⟨some 69, .iad 2 (.t 66) (.t 68), none⟩),
      (0, ⟨some 70, .load true [.s, (.i .i64)] (.t 69), none⟩),
      (0, ⟨some 71, .mv (.t 0), none⟩),
      (0, ⟨some 72, .mv (.t 13), none⟩),
      (0, ⟨some 73, .iad 2 (.t 71) (.t 72), none⟩),
      (0, ⟨some 74, .load true [.s, (.i .i64)] (.t 73), none⟩)] [⟨some 75, .iad 2 (.t 61) (.t 62), none⟩,
      ⟨none, .store 2 (.t 75) (.t 70), none⟩,
      ⟨some 76, .iad 2 (.t 63) (.t 65), none⟩,
      ⟨none, .store 2 (.t 76) (.t 74), none⟩])) (
  .reg false [⟨some 59, .mv (.t 13), none⟩,
    ⟨some 60, .bin .add (.t 59) (.c (.v (.int .i64 1))), none⟩,
    ⟨some 13, .mv (.t 60), none⟩])))
def e142x1 : Exits := [((.exit 2), [(0, .o 2)])]
noncomputable def l142x1 (T : Table) (k : Nat) := loopN (evalC ⟨T, [0]⟩ k b142x1 (Ex × List AV)) [0, 10, 13] e142x1
def b142x2 : ACode := (
  .seq (.seq (.reg false [⟨some 83, .mv (.t 14), none⟩,
    ⟨some 84, .mv (.t 15), none⟩,
    ⟨some 85, .bin .lss (.t 83) (.t 84), none⟩]) (
  .cond (.t 85) (.skip) (.exit 4))) (
  .block 5 (.seq (.reg false [⟨some 86, .mv (.t 14), none⟩,
      ⟨some 87, .mv (.t 15), none⟩,
      ⟨some 88, .bin .add (.t 86) (.t 87), none⟩,
      ⟨some 89, .conv (.int .u64) (.t 88), none⟩,
      ⟨some 90, .more (.shr 1 (.t 89)), none⟩,
      ⟨some 91, .conv (.int .i64) (.t 90), none⟩,
      ⟨some 16, .mv (.t 91), none⟩]) (
    .seq (.dreg [] [(0, ⟨some 92, .mv (.t 4), none⟩),
      (0, ⟨some 93, .mv (.t 0), none⟩),
      (0, ⟨some 94, .mv (.t 2), none⟩),
      (0, ⟨some 95, .iad 2 (.t 93) (.t 94), none⟩),
      (0, ⟨some 96, .load true [.s, (.i .i64)] (.t 95), none⟩),
      (0, ⟨some 97, .mv (.t 0), none⟩),
      (0, ⟨some 98, .mv (.t 16), none⟩),
      (0, ⟨some 99, .iad 2 (.t 97) (.t 98), none⟩),
      (0, ⟨some 100, .load true [.s, (.i .i64)] (.t 99), none⟩)] [⟨some 101, .call (.t 92) [.rd, .rd] false [.c (.i .i64)] [(.t 96), (.t 100)], none⟩,
      ⟨some 102, .bin .lss (.t 101) (.c (.v (.int .i64 0))), none⟩,
      ⟨some 103, .un .not (.t 102), none⟩]) (
    .cond (.t 103) (.reg false [⟨some 104, .mv (.t 16), none⟩,
        ⟨some 105, .bin .add (.t 104) (.c (.v (.int .i64 1))), none⟩,
        ⟨some 14, .mv (.t 105), none⟩]) (.reg false [⟨some 106, .mv (.t 16), none⟩,
        ⟨some 15, .mv (.t 106), none⟩]))))))
def e142x2 : Exits := [((.exit 4), [(0, .o 2), (2, .c (.i .i64)), (14, .c (.i .i64))])]
noncomputable def l142x2 (T : Table) (k : Nat) := loopN (evalC ⟨T, [0]⟩ k b142x2 (Ex × List AV)) [0, 2, 4, 14, 15] e142x2
def b142x3 : ACode := (
  .seq (.seq (.reg false [⟨some 108, .mv (.t 17), none⟩,
    ⟨some 109, .mv (.t 14), none⟩,
    ⟨some 110, .bin .gtr (.t 108) (.t 109), none⟩]) (
  .cond (.t 110) (.skip) (.exit 6))) (
  .seq (.block 7 (.dreg [] [(0, ⟨some 113, .mv (.t 0), none⟩),
      (0, ⟨some 114, .mv (.t 17), none⟩),
      (3, ⟨some 115, .mv (.t 0), none⟩),
      (3, ⟨some 116, .mv (.t 17), none⟩),
      (3, ⟨some 117, .bin .sub (.t 116) (.c (.v (.int .i64 1))), none⟩),
      (0, ⟨some 118, .mv (.t 0), none⟩),
      (0, ⟨some 119, .mv (.t 17), none⟩),
      (0, ⟨some 120, .bin .sub (.t 119) (.c (.v (.int .i64 1))), none⟩),
      (0, ⟨some 121, .iad 2 (.t 118) (.t 120), none⟩),
      (0, ⟨some 122, .load true [.s, (.i .i64)] (.t 121), none⟩),
      (0, ⟨some 123, .mv (.t 0), none⟩),
      (0, ⟨some 124, .mv (.t 17), none⟩),
      (0, ⟨some 125, .iad 2 (.t 123) (.t 124), none⟩),
      (0, ⟨some 126, .load true [.s, (.i .i64)] (.t 125), none⟩)] [⟨some 127, .iad 2 (.t 113) (.t 114), none⟩,
      ⟨none, .store 2 (.t 127) (.t 122), none⟩,
      ⟨some 128, .iad 2 (.t 115) (.t 117), none⟩,
      ⟨none, .store 2 (.t 128) (.t 126), none⟩])) (
  .reg false [⟨some 111, .mv (.t 17), none⟩,
    ⟨some 112, .bin .sub (.t 111) (.c (.v (.int .i64 1))), none⟩,
    ⟨some 17, .mv (.t 112), none⟩])))
def e142x3 : Exits := [((.exit 6), [(0, .o 2)])]
noncomputable def l142x3 (T : Table) (k : Nat) := loopN (evalC ⟨T, [0]⟩ k b142x3 (Ex × List AV)) [0, 14, 17] e142x3
def b142x4 : ACode := (
  .seq (.seq (.reg false [⟨some 149, .mv (.t 20), none⟩,
    ⟨some 150, .mv (.t 21), none⟩,
    ⟨some 151, .bin .lss (.t 149) (.t 150), none⟩]) (
  .cond (.t 151) (.skip) (.exit 8))) (
  .block 9 (.seq (.reg false [⟨some 152, .mv (.t 20), none⟩,
      ⟨some 153, .mv (.t 21), none⟩,
      ⟨some 154, .bin .add (.t 152) (.t 153), none⟩,
      ⟨some 155, .conv (.int .u64) (.t 154), none⟩,
      ⟨some 156, .more (.shr 1 (.t 155)), none⟩,
      ⟨some 157, .conv (.int .i64) (.t 156), none⟩,
      ⟨some 23, .mv (.t 157), none⟩]) (
    .seq (.dreg [] [(0, ⟨some 158, .mv (.t 4), none⟩),
      (0, ⟨some 159, .mv (.t 0), none⟩),
      (0, ⟨some 160, .mv (.t 22), none⟩),
      (0, ⟨some 161, .mv (.t 23), none⟩),
      (0, ⟨some 162, .bin .sub (.t 160) (.t 161), none⟩),
      (0, ⟨some 163, .iad 2 (.t 159) (.t 162), none⟩),
      (0, ⟨some 164, .load true [.s, (.i .i64)] (.t 163), none⟩),
      (0, ⟨some 165, .mv (.t 0), none⟩),
      (0, ⟨some 166, .mv (.t 23), none⟩),
      (0, ⟨some 167, .iad 2 (.t 165) (.t 166), none⟩),
      (0, ⟨some 168, .load true [.s, (.i .i64)] (.t 167), none⟩)] [⟨some 169, .call (.t 158) [.rd, .rd] false [.c (.i .i64)] [(.t 164), (.t 168)], none⟩,
      ⟨some 170, .bin .lss (.t 169) (.c (.v (.int .i64 0))), none⟩,
      ⟨some 171, .un .not (.t 170), none⟩]) (
    .cond (.t 171) (.reg false [⟨some 172, .mv (.t 23), none⟩,
        ⟨some 173, .bin .add (.t 172) (.c (.v (.int .i64 1))), none⟩,
        ⟨some 20, .mv (.t 173), none⟩]) (.reg false [⟨some 174, .mv (.t 23), none⟩,
        ⟨some 21, .mv (.t 174), none⟩]))))))
def e142x4 : Exits := [((.exit 8), [(0, .o 2), (1, .c (.i .i64)), (2, .c (.i .i64)), (3, .c (.i .i64)), (4, .ff), (18, .c (.i .i64)), (19, .c (.i .i64)), (20, .c (.i .i64))])]
noncomputable def l142x4 (T : Table) (k : Nat) := loopN (evalC ⟨T, [0]⟩ k b142x4 (Ex × List AV)) [0, 1, 2, 3, 4, 18, 19, 20, 21, 22] e142x4
def a142 : AFun := ⟨[.lent, .rd, .rd, .rd, .rd], false, [], (
  .seq (.seq (.reg false [⟨some 25, .mv (.t 2), none⟩,
    ⟨some 26, .mv (.t 1), none⟩,
    ⟨some 27, .bin .sub (.t 25) (.t 26), none⟩,
    ⟨some 28, .bin .eql (.t 27) (.c (.v (.int .i64 1))), none⟩]) (
  .cond (.t 28) (.seq (.reg false [⟨some 29, .mv (.t 2), none⟩,
      ⟨some 10, .mv (.t 29), none⟩]) (
    .seq (.reg false [⟨some 30, .mv (.t 3), none⟩,
      ⟨some 11, .mv (.t 30), none⟩]) (
    .seq (.block 0 (.loop [0, 1, 4, 10, 11] e142x0 b142x0)) (
    .seq (.seq (.reg false [⟨some 54, .mv (.t 1), none⟩,
      ⟨some 13, .mv (.t 54), none⟩]) (
    .block 2 (.loop [0, 10, 13] e142x1 b142x1))) (
    .ret))))) (.skip))) (
  .seq (.seq (.reg false [⟨some 77, .mv (.t 3), none⟩,
    ⟨some 78, .mv (.t 2), none⟩,
    ⟨some 79, .bin .sub (.t 77) (.t 78), none⟩,
    ⟨some 80, .bin .eql (.t 79) (.c (.v (.int .i64 1))), none⟩]) (
  .cond (.t 80) (.seq (.reg false [⟨some 81, .mv (.t 1), none⟩,
      ⟨some 14, .mv (.t 81), none⟩]) (
    .seq (.reg false [⟨some 82, .mv (.t 2), none⟩,
      ⟨some 15, .mv (.t 82), none⟩]) (
    .seq (.block 4 (.loop [0, 2, 4, 14, 15] e142x2 b142x2)) (
    .seq (.seq (.reg false [⟨some 107, .mv (.t 2), none⟩,
      ⟨some 17, .mv (.t 107), none⟩]) (
    .block 6 (.loop [0, 14, 17] e142x3 b142x3))) (
    .ret))))) (.skip))) (
  .seq (.reg false [⟨some 129, .mv (.t 1), none⟩,
    ⟨some 130, .mv (.t 3), none⟩,
    ⟨some 131, .bin .add (.t 129) (.t 130), none⟩,
    ⟨some 132, .conv (.int .u64) (.t 131), none⟩,
    ⟨some 133, .more (.shr 1 (.t 132)), none⟩,
    ⟨some 134, .conv (.int .i64) (.t 133), none⟩,
    ⟨some 18, .mv (.t 134), none⟩]) (
  .seq (.reg false [⟨some 135, .mv (.t 18), none⟩,
    ⟨some 136, .mv (.t 2), none⟩,
    ⟨some 137, .bin .add (.t 135) (.t 136), none⟩,
    ⟨some 19, .mv (.t 137), none⟩]) (
  .seq (.reg false [⟨some 20, .mv (.c (.v (.int .i64 0))), none⟩,
    ⟨some 21, .mv (.c (.v (.int .i64 0))), none⟩]) (
  .seq (.seq (.reg false [⟨some 138, .mv (.t 2), none⟩,
    ⟨some 139, .mv (.t 18), none⟩,
    ⟨some 140, .bin .gtr (.t 138) (.t 139), none⟩]) (
  .cond (.t 140) (.seq (.reg false [⟨some 141, .mv (.t 19), none⟩,
      ⟨some 142, .mv (.t 3), none⟩,
      ⟨some 143, .bin .sub (.t 141) (.t 142), none⟩,
      ⟨some 20, .mv (.t 143), none⟩]) (
    .reg false [⟨some 144, .mv (.t 18), none⟩,
      ⟨some 21, .mv (.t 144), none⟩])) (.seq (.reg false [⟨some 145, .mv (.t 1), none⟩,
      ⟨some 20, .mv (.t 145), none⟩]) (
    .reg false [⟨some 146, .mv (.t 2), none⟩,
      ⟨some 21, .mv (.t 146), none⟩])))) (
  .seq (.reg false [⟨some 147, .mv (.t 19), none⟩,
    ⟨some 148, .bin .sub (.t 147) (.c (.v (.int .i64 1))), none⟩,
    ⟨some 22, .mv (.t 148), none⟩]) (
  .seq (.block 8 (.loop [0, 1, 2, 3, 4, 18, 19, 20, 21, 22] e142x4 b142x4)) (
  .seq (.reg false [⟨some 175, .mv (.t 19), none⟩,
    ⟨some 176, .mv (.t 20), none⟩,
    ⟨some 177, .bin .sub (.t 175) (.t 176), none⟩,
    ⟨some 24, .mv (.t 177), none⟩]) (
  .seq (.seq (.reg false [⟨some 178, .mv (.t 20), none⟩,
    ⟨some 179, .mv (.t 2), none⟩,
    ⟨some 180, .bin .lss (.t 178) (.t 179), none⟩,
    ⟨some 181, .mv (.t 180), none⟩,
    ⟨some 182, .mv (.t 2), some (181, true)⟩,
    ⟨some 183, .mv (.t 24), some (181, true)⟩,
    ⟨some 184, .bin .lss (.t 182) (.t 183), some (181, true)⟩,
    ⟨some 185, .pick (.t 181) (.t 184) (.c (.v (.bool false))), none⟩]) (
  .cond (.t 185) (.reg false [⟨some 186, .mv (.t 0), none⟩,
      ⟨some 187, .mv (.t 20), none⟩,
      ⟨some 188, .mv (.t 2), none⟩,
      ⟨some 189, .mv (.t 24), none⟩,
      ⟨some 190, .mv (.t 4), none⟩,
      ⟨some 191, .call (.f 165) [.lent, .rd, .rd, .rd, .rd] false [] [(.t 186), (.t 187), (.t 188), (.t 189), (.t 190)], none⟩]) (.skip))) (
  .seq (.seq (.reg false [⟨some 192, .mv (.t 1), none⟩,
    ⟨some 193, .mv (.t 20), none⟩,
    ⟨some 194, .bin .lss (.t 192) (.t 193), none⟩,
    ⟨some 195, .mv (.t 194), none⟩,
    ⟨some 196, .mv (.t 20), some (195, true)⟩,
    ⟨some 197, .mv (.t 18), some (195, true)⟩,
    ⟨some 198, .bin .lss (.t 196) (.t 197), some (195, true)⟩,
    ⟨some 199, .pick (.t 195) (.t 198) (.c (.v (.bool false))), none⟩]) (
  .cond (.t 199) (.reg false [⟨some 200, .mv (.t 0), none⟩,
      ⟨some 201, .mv (.t 1), none⟩,
      ⟨some 202, .mv (.t 20), none⟩,
      ⟨some 203, .mv (.t 18), none⟩,
      ⟨some 204, .mv (.t 4), none⟩,
      ⟨some 205, .call (.f 142) [.lent, .rd, .rd, .rd, .rd] false [] [(.t 200), (.t 201), (.t 202), (.t 203), (.t 204)], none⟩]) (.skip))) (
  .seq (.reg false [⟨some 206, .mv (.t 18), none⟩,
    ⟨some 207, .mv (.t 24), none⟩,
    ⟨some 208, .bin .lss (.t 206) (.t 207), none⟩,
    ⟨some 209, .mv (.t 208), none⟩,
    ⟨some 210, .mv (.t 24), some (209, true)⟩,
    ⟨some 211, .mv (.t 3), some (209, true)⟩,
    ⟨some 212, .bin .lss (.t 210) (.t 211), some (209, true)⟩,
    ⟨some 213, .pick (.t 209) (.t 212) (.c (.v (.bool false))), none⟩]) (
  .cond (.t 213) (.reg false [⟨some 214, .mv (.t 0), none⟩,
      ⟨some 215, .mv (.t 18), none⟩,
      ⟨some 216, .mv (.t 24), none⟩,
      ⟨some 217, .mv (.t 3), none⟩,
      ⟨some 218, .mv (.t 4), none⟩,
      ⟨some 219, .call (.f 142) [.lent, .rd, .rd, .rd, .rd] false [] [(.t 214), (.t 215), (.t 216), (.t 217), (.t 218)], none⟩]) (.skip))))))))))))))⟩
theorem l142x0s (T : Table) (k n : Nat) (l7 : Rows) (n8 : Int) (f9 : Nat) (cs10 : List I) (n11 : Int) (n12 : Int) : l142x0 T k (n + 1) [(.o 2 l7), (.v (.int .i64 n8)), (.ff f9 cs10), (.v (.int .i64 n11)), (.v (.int .i64 n12))] = (
 bif (decide (n11 < n12)) then (
 tst (decide (0 ≤ (IntKind.wrap .i64 (Int.fdiv (IntKind.wrap .u64 (IntKind.wrap .i64 (n11 + n12))) (2 ^ 1)))) && decide (Int.toNat (IntKind.wrap .i64 (Int.fdiv (IntKind.wrap .u64 (IntKind.wrap .i64 (n11 + n12))) (2 ^ 1))) < l7.length)) (
 look l7 (Int.toNat (IntKind.wrap .i64 (Int.fdiv (IntKind.wrap .u64 (IntKind.wrap .i64 (n11 + n12))) (2 ^ 1)))) fun r13 =>
 cS r13 0 fun s14 =>
 look l7 (Int.toNat (IntKind.wrap .i64 (Int.fdiv (IntKind.wrap .u64 (IntKind.wrap .i64 (n11 + n12))) (2 ^ 1)))) fun r15 =>
 cI .i64 r15 1 fun n16 =>
 tst (decide (0 ≤ n8) && decide (Int.toNat n8 < l7.length)) (
 look l7 (Int.toNat n8) fun r17 =>
 cS r17 0 fun s18 =>
 look l7 (Int.toNat n8) fun r19 =>
 cI .i64 r19 1 fun n20 =>
 callT T f9 ([(.g [(.v (.string s14)), (.v (.int .i64 n16))]), (.g [(.v (.string s18)), (.v (.int .i64 n20))])] ++ cs10) fun o21 =>
 oD o21.res fun d22 =>
 dI .i64 d22 fun n23 =>
 bif (decide (n23 < 0)) then (
 l142x0 T k n [(.o 2 l7), (.v (.int .i64 n8)), (.ff f9 cs10), (.v (.int .i64 (IntKind.wrap .i64 ((IntKind.wrap .i64 (Int.fdiv (IntKind.wrap .u64 (IntKind.wrap .i64 (n11 + n12))) (2 ^ 1))) + 1)))), (.v (.int .i64 n12))]) else (
 l142x0 T k n [(.o 2 l7), (.v (.int .i64 n8)), (.ff f9 cs10), (.v (.int .i64 n11)), (.v (.int .i64 (IntKind.wrap .i64 (Int.fdiv (IntKind.wrap .u64 (IntKind.wrap .i64 (n11 + n12))) (2 ^ 1)))))])))) else (
 some ((.exit 0), [(.o 2 l7), (.v (.int .i64 n8)), (.v (.int .i64 n11))]))) := by kernel_rfl
theorem l142x1s (T : Table) (k n : Nat) (l32 : Rows) (n33 : Int) (n34 : Int) : l142x1 T k (n + 1) [(.o 2 l32), (.v (.int .i64 n33)), (.v (.int .i64 n34))] = (
 bif (decide (n34 < (IntKind.wrap .i64 (n33 - 1)))) then (
 tst (decide (0 ≤ (IntKind.wrap .i64 (n34 + 1))) && decide (Int.toNat (IntKind.wrap .i64 (n34 + 1)) < l32.length)) (
 look l32 (Int.toNat (IntKind.wrap .i64 (n34 + 1))) fun r35 =>
 cS r35 0 fun s36 =>
 look l32 (Int.toNat (IntKind.wrap .i64 (n34 + 1))) fun r37 =>
 cI .i64 r37 1 fun n38 =>
 tst (decide (0 ≤ n34) && decide (Int.toNat n34 < l32.length)) (
 look l32 (Int.toNat n34) fun r39 =>
 cS r39 0 fun s40 =>
 look l32 (Int.toNat n34) fun r41 =>
 cI .i64 r41 1 fun n42 =>
 tst (decide (0 ≤ n34) && decide (Int.toNat n34 < l32.length)) (
 tst (decide (0 ≤ (IntKind.wrap .i64 (n34 + 1))) && decide (Int.toNat (IntKind.wrap .i64 (n34 + 1)) < (setD (setD l32 (Int.toNat n34) 0 (.v (.string s36))) (Int.toNat n34) 1 (.v (.int .i64 n38))).length)) (
 l142x1 T k n [(.o 2 (setD (setD (setD (setD l32 (Int.toNat n34) 0 (.v (.string s36))) (Int.toNat n34) 1 (.v (.int .i64 n38))) (Int.toNat (IntKind.wrap .i64 (n34 + 1))) 0 (.v (.string s40))) (Int.toNat (IntKind.wrap .i64 (n34 + 1))) 1 (.v (.int .i64 n42)))), (.v (.int .i64 n33)), (.v (.int .i64 (IntKind.wrap .i64 (n34 + 1))))]))))) else (
 some ((.exit 2), [(.o 2 l32)]))) := by kernel_rfl
theorem l142x2s (T : Table) (k n : Nat) (l47 : Rows) (n48 : Int) (f49 : Nat) (cs50 : List I) (n51 : Int) (n52 : Int) : l142x2 T k (n + 1) [(.o 2 l47), (.v (.int .i64 n48)), (.ff f49 cs50), (.v (.int .i64 n51)), (.v (.int .i64 n52))] = (
 bif (decide (n51 < n52)) then (
 tst (decide (0 ≤ n48) && decide (Int.toNat n48 < l47.length)) (
 look l47 (Int.toNat n48) fun r53 =>
 cS r53 0 fun s54 =>
 look l47 (Int.toNat n48) fun r55 =>
 cI .i64 r55 1 fun n56 =>
 tst (decide (0 ≤ (IntKind.wrap .i64 (Int.fdiv (IntKind.wrap .u64 (IntKind.wrap .i64 (n51 + n52))) (2 ^ 1)))) && decide (Int.toNat (IntKind.wrap .i64 (Int.fdiv (IntKind.wrap .u64 (IntKind.wrap .i64 (n51 + n52))) (2 ^ 1))) < l47.length)) (
 look l47 (Int.toNat (IntKind.wrap .i64 (Int.fdiv (IntKind.wrap .u64 (IntKind.wrap .i64 (n51 + n52))) (2 ^ 1)))) fun r57 =>
 cS r57 0 fun s58 =>
 look l47 (Int.toNat (IntKind.wrap .i64 (Int.fdiv (IntKind.wrap .u64 (IntKind.wrap .i64 (n51 + n52))) (2 ^ 1)))) fun r59 =>
 cI .i64 r59 1 fun n60 =>
 callT T f49 ([(.g [(.v (.string s54)), (.v (.int .i64 n56))]), (.g [(.v (.string s58)), (.v (.int .i64 n60))])] ++ cs50) fun o61 =>
 oD o61.res fun d62 =>
 dI .i64 d62 fun n63 =>
 bif (!(decide (n63 < 0))) then (
 l142x2 T k n [(.o 2 l47), (.v (.int .i64 n48)), (.ff f49 cs50), (.v (.int .i64 (IntKind.wrap .i64 ((IntKind.wrap .i64 (Int.fdiv (IntKind.wrap .u64 (IntKind.wrap .i64 (n51 + n52))) (2 ^ 1))) + 1)))), (.v (.int .i64 n52))]) else (
 l142x2 T k n [(.o 2 l47), (.v (.int .i64 n48)), (.ff f49 cs50), (.v (.int .i64 n51)), (.v (.int .i64 (IntKind.wrap .i64 (Int.fdiv (IntKind.wrap .u64 (IntKind.wrap .i64 (n51 + n52))) (2 ^ 1)))))])))) else (
 some ((.exit 4), [(.o 2 l47), (.v (.int .i64 n48)), (.v (.int .i64 n51))]))) := by kernel_rfl
theorem l142x3s (T : Table) (k n : Nat) (l72 : Rows) (n73 : Int) (n74 : Int) : l142x3 T k (n + 1) [(.o 2 l72), (.v (.int .i64 n73)), (.v (.int .i64 n74))] = (
 bif (decide (n74 > n73)) then (
 tst (decide (0 ≤ (IntKind.wrap .i64 (n74 - 1))) && decide (Int.toNat (IntKind.wrap .i64 (n74 - 1)) < l72.length)) (
 look l72 (Int.toNat (IntKind.wrap .i64 (n74 - 1))) fun r75 =>
 cS r75 0 fun s76 =>
 look l72 (Int.toNat (IntKind.wrap .i64 (n74 - 1))) fun r77 =>
 cI .i64 r77 1 fun n78 =>
 tst (decide (0 ≤ n74) && decide (Int.toNat n74 < l72.length)) (
 look l72 (Int.toNat n74) fun r79 =>
 cS r79 0 fun s80 =>
 look l72 (Int.toNat n74) fun r81 =>
 cI .i64 r81 1 fun n82 =>
 tst (decide (0 ≤ n74) && decide (Int.toNat n74 < l72.length)) (
 tst (decide (0 ≤ (IntKind.wrap .i64 (n74 - 1))) && decide (Int.toNat (IntKind.wrap .i64 (n74 - 1)) < (setD (setD l72 (Int.toNat n74) 0 (.v (.string s76))) (Int.toNat n74) 1 (.v (.int .i64 n78))).length)) (
 l142x3 T k n [(.o 2 (setD (setD (setD (setD l72 (Int.toNat n74) 0 (.v (.string s76))) (Int.toNat n74) 1 (.v (.int .i64 n78))) (Int.toNat (IntKind.wrap .i64 (n74 - 1))) 0 (.v (.string s80))) (Int.toNat (IntKind.wrap .i64 (n74 - 1))) 1 (.v (.int .i64 n82)))), (.v (.int .i64 n73)), (.v (.int .i64 (IntKind.wrap .i64 (n74 - 1))))]))))) else (
 some ((.exit 6), [(.o 2 l72)]))) := by kernel_rfl
theorem l142x4s (T : Table) (k n : Nat) (l87 : Rows) (n88 : Int) (n89 : Int) (n90 : Int) (f91 : Nat) (cs92 : List I) (n93 : Int) (n94 : Int) (n95 : Int) (n96 : Int) (n97 : Int) : l142x4 T k (n + 1) [(.o 2 l87), (.v (.int .i64 n88)), (.v (.int .i64 n89)), (.v (.int .i64 n90)), (.ff f91 cs92), (.v (.int .i64 n93)), (.v (.int .i64 n94)), (.v (.int .i64 n95)), (.v (.int .i64 n96)), (.v (.int .i64 n97))] = (
 bif (decide (n95 < n96)) then (
 tst (decide (0 ≤ (IntKind.wrap .i64 (n97 - (IntKind.wrap .i64 (Int.fdiv (IntKind.wrap .u64 (IntKind.wrap .i64 (n95 + n96))) (2 ^ 1)))))) && decide (Int.toNat (IntKind.wrap .i64 (n97 - (IntKind.wrap .i64 (Int.fdiv (IntKind.wrap .u64 (IntKind.wrap .i64 (n95 + n96))) (2 ^ 1))))) < l87.length)) (
 look l87 (Int.toNat (IntKind.wrap .i64 (n97 - (IntKind.wrap .i64 (Int.fdiv (IntKind.wrap .u64 (IntKind.wrap .i64 (n95 + n96))) (2 ^ 1)))))) fun r98 =>
 cS r98 0 fun s99 =>
 look l87 (Int.toNat (IntKind.wrap .i64 (n97 - (IntKind.wrap .i64 (Int.fdiv (IntKind.wrap .u64 (IntKind.wrap .i64 (n95 + n96))) (2 ^ 1)))))) fun r100 =>
 cI .i64 r100 1 fun n101 =>
 tst (decide (0 ≤ (IntKind.wrap .i64 (Int.fdiv (IntKind.wrap .u64 (IntKind.wrap .i64 (n95 + n96))) (2 ^ 1)))) && decide (Int.toNat (IntKind.wrap .i64 (Int.fdiv (IntKind.wrap .u64 (IntKind.wrap .i64 (n95 + n96))) (2 ^ 1))) < l87.length)) (
 look l87 (Int.toNat (IntKind.wrap .i64 (Int.fdiv (IntKind.wrap .u64 (IntKind.wrap .i64 (n95 + n96))) (2 ^ 1)))) fun r102 =>
 cS r102 0 fun s103 =>
 look l87 (Int.toNat (IntKind.wrap .i64 (Int.fdiv (IntKind.wrap .u64 (IntKind.wrap .i64 (n95 + n96))) (2 ^ 1)))) fun r104 =>
 cI .i64 r104 1 fun n105 =>
 callT T f91 ([(.g [(.v (.string s99)), (.v (.int .i64 n101))]), (.g [(.v (.string s103)), (.v (.int .i64 n105))])] ++ cs92) fun o106 =>
 oD o106.res fun d107 =>
 dI .i64 d107 fun n108 =>
 bif (!(decide (n108 < 0))) then (
 l142x4 T k n [(.o 2 l87), (.v (.int .i64 n88)), (.v (.int .i64 n89)), (.v (.int .i64 n90)), (.ff f91 cs92), (.v (.int .i64 n93)), (.v (.int .i64 n94)), (.v (.int .i64 (IntKind.wrap .i64 ((IntKind.wrap .i64 (Int.fdiv (IntKind.wrap .u64 (IntKind.wrap .i64 (n95 + n96))) (2 ^ 1))) + 1)))), (.v (.int .i64 n96)), (.v (.int .i64 n97))]) else (
 l142x4 T k n [(.o 2 l87), (.v (.int .i64 n88)), (.v (.int .i64 n89)), (.v (.int .i64 n90)), (.ff f91 cs92), (.v (.int .i64 n93)), (.v (.int .i64 n94)), (.v (.int .i64 n95)), (.v (.int .i64 (IntKind.wrap .i64 (Int.fdiv (IntKind.wrap .u64 (IntKind.wrap .i64 (n95 + n96))) (2 ^ 1))))), (.v (.int .i64 n97))])))) else (
 some ((.exit 8), [(.o 2 l87), (.v (.int .i64 n88)), (.v (.int .i64 n89)), (.v (.int .i64 n90)), (.ff f91 cs92), (.v (.int .i64 n93)), (.v (.int .i64 n94)), (.v (.int .i64 n95))]))) := by kernel_rfl
theorem a142q (T : Table) (k : Nat) (l1 : Rows) (n2 : Int) (n3 : Int) (n4 : Int) (f5 : Nat) (cs6 : List I) : evalF T k a142 [(.d (.s 2 l1)), (.d (.v (.int .i64 n2))), (.d (.v (.int .i64 n3))), (.d (.v (.int .i64 n4))), (.f f5 cs6)] = (
 bif ((IntKind.wrap .i64 (n3 - n2)) == 1) then (
 aft (l142x0 T k k [(.o 2 l1), (.v (.int .i64 n2)), (.ff f5 cs6), (.v (.int .i64 n3)), (.v (.int .i64 n4))]) fun e24 ys25 =>
 bif e24.same (.exit 0) then (
 aV ys25 0 fun x26 =>
 aO 2 x26 fun l27 =>
 aV ys25 1 fun x28 =>
 aI .i64 x28 fun n29 =>
 aV ys25 2 fun x30 =>
 aI .i64 x30 fun n31 =>
 aft (l142x1 T k k [(.o 2 l27), (.v (.int .i64 n31)), (.v (.int .i64 n29))]) fun e43 ys44 =>
 bif e43.same (.exit 2) then (
 aV ys44 0 fun x45 =>
 aO 2 x45 fun l46 =>
 some ⟨(.t []), [(.d (.s 2 l46))]⟩) else (
 none)) else (
 none)) else (
 bif ((IntKind.wrap .i64 (n4 - n3)) == 1) then (
 aft (l142x2 T k k [(.o 2 l1), (.v (.int .i64 n3)), (.ff f5 cs6), (.v (.int .i64 n2)), (.v (.int .i64 n3))]) fun e64 ys65 =>
 bif e64.same (.exit 4) then (
 aV ys65 0 fun x66 =>
 aO 2 x66 fun l67 =>
 aV ys65 1 fun x68 =>
 aI .i64 x68 fun n69 =>
 aV ys65 2 fun x70 =>
 aI .i64 x70 fun n71 =>
 aft (l142x3 T k k [(.o 2 l67), (.v (.int .i64 n71)), (.v (.int .i64 n69))]) fun e83 ys84 =>
 bif e83.same (.exit 6) then (
 aV ys84 0 fun x85 =>
 aO 2 x85 fun l86 =>
 some ⟨(.t []), [(.d (.s 2 l86))]⟩) else (
 none)) else (
 none)) else (
 bif (decide (n3 > (IntKind.wrap .i64 (Int.fdiv (IntKind.wrap .u64 (IntKind.wrap .i64 (n2 + n4))) (2 ^ 1))))) then (
 aft (l142x4 T k k [(.o 2 l1), (.v (.int .i64 n2)), (.v (.int .i64 n3)), (.v (.int .i64 n4)), (.ff f5 cs6), (.v (.int .i64 (IntKind.wrap .i64 (Int.fdiv (IntKind.wrap .u64 (IntKind.wrap .i64 (n2 + n4))) (2 ^ 1))))), (.v (.int .i64 (IntKind.wrap .i64 ((IntKind.wrap .i64 (Int.fdiv (IntKind.wrap .u64 (IntKind.wrap .i64 (n2 + n4))) (2 ^ 1))) + n3)))), (.v (.int .i64 (IntKind.wrap .i64 ((IntKind.wrap .i64 ((IntKind.wrap .i64 (Int.fdiv (IntKind.wrap .u64 (IntKind.wrap .i64 (n2 + n4))) (2 ^ 1))) + n3)) - n4)))), (.v (.int .i64 (IntKind.wrap .i64 (Int.fdiv (IntKind.wrap .u64 (IntKind.wrap .i64 (n2 + n4))) (2 ^ 1))))), (.v (.int .i64 (IntKind.wrap .i64 ((IntKind.wrap .i64 ((IntKind.wrap .i64 (Int.fdiv (IntKind.wrap .u64 (IntKind.wrap .i64 (n2 + n4))) (2 ^ 1))) + n3)) - 1))))]) fun e109 ys110 =>
 bif e109.same (.exit 8) then (
 aV ys110 0 fun x111 =>
 aO 2 x111 fun l112 =>
 aV ys110 1 fun x113 =>
 aI .i64 x113 fun n114 =>
 aV ys110 2 fun x115 =>
 aI .i64 x115 fun n116 =>
 aV ys110 3 fun x117 =>
 aI .i64 x117 fun n118 =>
 aV ys110 4 fun x119 =>
 aF x119 fun f120 cs121 =>
 aV ys110 5 fun x122 =>
 aI .i64 x122 fun n123 =>
 aV ys110 6 fun x124 =>
 aI .i64 x124 fun n125 =>
 aV ys110 7 fun x126 =>
 aI .i64 x126 fun n127 =>
 bif (decide (n127 < n116)) == true then (
 bif (decide (n116 < (IntKind.wrap .i64 (n125 - n127)))) then (
 callT T 165 [(.d (.s 2 l112)), (.d (.v (.int .i64 n127))), (.d (.v (.int .i64 n116))), (.d (.v (.int .i64 (IntKind.wrap .i64 (n125 - n127))))), (.f f120 cs121)] fun o128 =>
 nth o128.back 0 fun i129 =>
 oD i129 fun d130 =>
 dL 2 d130 fun l131 =>
 oT o128.res fun is132 =>
 tst (Nat.beq is132.length 0) (
 bif (decide (n114 < n127)) == true then (
 bif (decide (n127 < n123)) then (
 callT T 142 [(.d (.s 2 l131)), (.d (.v (.int .i64 n114))), (.d (.v (.int .i64 n127))), (.d (.v (.int .i64 n123))), (.f f120 cs121)] fun o133 =>
 nth o133.back 0 fun i134 =>
 oD i134 fun d135 =>
 dL 2 d135 fun l136 =>
 oT o133.res fun is137 =>
 tst (Nat.beq is137.length 0) (
 bif (decide (n123 < (IntKind.wrap .i64 (n125 - n127)))) == true then (
 bif (decide ((IntKind.wrap .i64 (n125 - n127)) < n118)) then (
 callT T 142 [(.d (.s 2 l136)), (.d (.v (.int .i64 n123))), (.d (.v (.int .i64 (IntKind.wrap .i64 (n125 - n127))))), (.d (.v (.int .i64 n118))), (.f f120 cs121)] fun o138 =>
 nth o138.back 0 fun i139 =>
 oD i139 fun d140 =>
 dL 2 d140 fun l141 =>
 oT o138.res fun is142 =>
 tst (Nat.beq is142.length 0) (
 some ⟨(.t []), [(.d (.s 2 l141))]⟩)) else (
 some ⟨(.t []), [(.d (.s 2 l136))]⟩)) else (
 some ⟨(.t []), [(.d (.s 2 l136))]⟩))) else (
 bif (decide (n123 < (IntKind.wrap .i64 (n125 - n127)))) == true then (
 bif (decide ((IntKind.wrap .i64 (n125 - n127)) < n118)) then (
 callT T 142 [(.d (.s 2 l131)), (.d (.v (.int .i64 n123))), (.d (.v (.int .i64 (IntKind.wrap .i64 (n125 - n127))))), (.d (.v (.int .i64 n118))), (.f f120 cs121)] fun o143 =>
 nth o143.back 0 fun i144 =>
 oD i144 fun d145 =>
 dL 2 d145 fun l146 =>
 oT o143.res fun is147 =>
 tst (Nat.beq is147.length 0) (
 some ⟨(.t []), [(.d (.s 2 l146))]⟩)) else (
 some ⟨(.t []), [(.d (.s 2 l131))]⟩)) else (
 some ⟨(.t []), [(.d (.s 2 l131))]⟩))) else (
 bif (decide (n123 < (IntKind.wrap .i64 (n125 - n127)))) == true then (
 bif (decide ((IntKind.wrap .i64 (n125 - n127)) < n118)) then (
 callT T 142 [(.d (.s 2 l131)), (.d (.v (.int .i64 n123))), (.d (.v (.int .i64 (IntKind.wrap .i64 (n125 - n127))))), (.d (.v (.int .i64 n118))), (.f f120 cs121)] fun o148 =>
 nth o148.back 0 fun i149 =>
 oD i149 fun d150 =>
 dL 2 d150 fun l151 =>
 oT o148.res fun is152 =>
 tst (Nat.beq is152.length 0) (
 some ⟨(.t []), [(.d (.s 2 l151))]⟩)) else (
 some ⟨(.t []), [(.d (.s 2 l131))]⟩)) else (
 some ⟨(.t []), [(.d (.s 2 l131))]⟩)))) else (
 bif (decide (n114 < n127)) == true then (
 bif (decide (n127 < n123)) then (
 callT T 142 [(.d (.s 2 l112)), (.d (.v (.int .i64 n114))), (.d (.v (.int .i64 n127))), (.d (.v (.int .i64 n123))), (.f f120 cs121)] fun o153 =>
 nth o153.back 0 fun i154 =>
 oD i154 fun d155 =>
 dL 2 d155 fun l156 =>
 oT o153.res fun is157 =>
 tst (Nat.beq is157.length 0) (
 bif (decide (n123 < (IntKind.wrap .i64 (n125 - n127)))) == true then (
 bif (decide ((IntKind.wrap .i64 (n125 - n127)) < n118)) then (
 callT T 142 [(.d (.s 2 l156)), (.d (.v (.int .i64 n123))), (.d (.v (.int .i64 (IntKind.wrap .i64 (n125 - n127))))), (.d (.v (.int .i64 n118))), (.f f120 cs121)] fun o158 =>
 nth o158.back 0 fun i159 =>
 oD i159 fun d160 =>
 dL 2 d160 fun l161 =>
 oT o158.res fun is162 =>
 tst (Nat.beq is162.length 0) (
 some ⟨(.t []), [(.d (.s 2 l161))]⟩)) else (
 some ⟨(.t []), [(.d (.s 2 l156))]⟩)) else (
 some ⟨(.t []), [(.d (.s 2 l156))]⟩))) else (
 bif (decide (n123 < (IntKind.wrap .i64 (n125 - n127)))) == true then (
 bif (decide ((IntKind.wrap .i64 (n125 - n127)) < n118)) then (
 callT T 142 [(.d (.s 2 l112)), (.d (.v (.int .i64 n123))), (.d (.v (.int .i64 (IntKind.wrap .i64 (n125 - n127))))), (.d (.v (.int .i64 n118))), (.f f120 cs121)] fun o163 =>
 nth o163.back 0 fun i164 =>
 oD i164 fun d165 =>
 dL 2 d165 fun l166 =>
 oT o163.res fun is167 =>
 tst (Nat.beq is167.length 0) (
 some ⟨(.t []), [(.d (.s 2 l166))]⟩)) else (
 some ⟨(.t []), [(.d (.s 2 l112))]⟩)) else (
 some ⟨(.t []), [(.d (.s 2 l112))]⟩))) else (
 bif (decide (n123 < (IntKind.wrap .i64 (n125 - n127)))) == true then (
 bif (decide ((IntKind.wrap .i64 (n125 - n127)) < n118)) then (
 callT T 142 [(.d (.s 2 l112)), (.d (.v (.int .i64 n123))), (.d (.v (.int .i64 (IntKind.wrap .i64 (n125 - n127))))), (.d (.v (.int .i64 n118))), (.f f120 cs121)] fun o168 =>
 nth o168.back 0 fun i169 =>
 oD i169 fun d170 =>
 dL 2 d170 fun l171 =>
 oT o168.res fun is172 =>
 tst (Nat.beq is172.length 0) (
 some ⟨(.t []), [(.d (.s 2 l171))]⟩)) else (
 some ⟨(.t []), [(.d (.s 2 l112))]⟩)) else (
 some ⟨(.t []), [(.d (.s 2 l112))]⟩)))) else (
 bif (decide (n114 < n127)) == true then (
 bif (decide (n127 < n123)) then (
 callT T 142 [(.d (.s 2 l112)), (.d (.v (.int .i64 n114))), (.d (.v (.int .i64 n127))), (.d (.v (.int .i64 n123))), (.f f120 cs121)] fun o173 =>
 nth o173.back 0 fun i174 =>
 oD i174 fun d175 =>
 dL 2 d175 fun l176 =>
 oT o173.res fun is177 =>
 tst (Nat.beq is177.length 0) (
 bif (decide (n123 < (IntKind.wrap .i64 (n125 - n127)))) == true then (
 bif (decide ((IntKind.wrap .i64 (n125 - n127)) < n118)) then (
 callT T 142 [(.d (.s 2 l176)), (.d (.v (.int .i64 n123))), (.d (.v (.int .i64 (IntKind.wrap .i64 (n125 - n127))))), (.d (.v (.int .i64 n118))), (.f f120 cs121)] fun o178 =>
 nth o178.back 0 fun i179 =>
 oD i179 fun d180 =>
 dL 2 d180 fun l181 =>
 oT o178.res fun is182 =>
 tst (Nat.beq is182.length 0) (
 some ⟨(.t []), [(.d (.s 2 l181))]⟩)) else (
 some ⟨(.t []), [(.d (.s 2 l176))]⟩)) else (
 some ⟨(.t []), [(.d (.s 2 l176))]⟩))) else (
 bif (decide (n123 < (IntKind.wrap .i64 (n125 - n127)))) == true then (
 bif (decide ((IntKind.wrap .i64 (n125 - n127)) < n118)) then (
 callT T 142 [(.d (.s 2 l112)), (.d (.v (.int .i64 n123))), (.d (.v (.int .i64 (IntKind.wrap .i64 (n125 - n127))))), (.d (.v (.int .i64 n118))), (.f f120 cs121)] fun o183 =>
 nth o183.back 0 fun i184 =>
 oD i184 fun d185 =>
 dL 2 d185 fun l186 =>
 oT o183.res fun is187 =>
 tst (Nat.beq is187.length 0) (
 some ⟨(.t []), [(.d (.s 2 l186))]⟩)) else (
 some ⟨(.t []), [(.d (.s 2 l112))]⟩)) else (
 some ⟨(.t []), [(.d (.s 2 l112))]⟩))) else (
 bif (decide (n123 < (IntKind.wrap .i64 (n125 - n127)))) == true then (
 bif (decide ((IntKind.wrap .i64 (n125 - n127)) < n118)) then (
 callT T 142 [(.d (.s 2 l112)), (.d (.v (.int .i64 n123))), (.d (.v (.int .i64 (IntKind.wrap .i64 (n125 - n127))))), (.d (.v (.int .i64 n118))), (.f f120 cs121)] fun o188 =>
 nth o188.back 0 fun i189 =>
 oD i189 fun d190 =>
 dL 2 d190 fun l191 =>
 oT o188.res fun is192 =>
 tst (Nat.beq is192.length 0) (
 some ⟨(.t []), [(.d (.s 2 l191))]⟩)) else (
 some ⟨(.t []), [(.d (.s 2 l112))]⟩)) else (
 some ⟨(.t []), [(.d (.s 2 l112))]⟩)))) else (
 none)) else (
 aft (l142x4 T k k [(.o 2 l1), (.v (.int .i64 n2)), (.v (.int .i64 n3)), (.v (.int .i64 n4)), (.ff f5 cs6), (.v (.int .i64 (IntKind.wrap .i64 (Int.fdiv (IntKind.wrap .u64 (IntKind.wrap .i64 (n2 + n4))) (2 ^ 1))))), (.v (.int .i64 (IntKind.wrap .i64 ((IntKind.wrap .i64 (Int.fdiv (IntKind.wrap .u64 (IntKind.wrap .i64 (n2 + n4))) (2 ^ 1))) + n3)))), (.v (.int .i64 n2)), (.v (.int .i64 n3)), (.v (.int .i64 (IntKind.wrap .i64 ((IntKind.wrap .i64 ((IntKind.wrap .i64 (Int.fdiv (IntKind.wrap .u64 (IntKind.wrap .i64 (n2 + n4))) (2 ^ 1))) + n3)) - 1))))]) fun e193 ys194 =>
 bif e193.same (.exit 8) then (
 aV ys194 0 fun x195 =>
 aO 2 x195 fun l196 =>
 aV ys194 1 fun x197 =>
 aI .i64 x197 fun n198 =>
 aV ys194 2 fun x199 =>
 aI .i64 x199 fun n200 =>
 aV ys194 3 fun x201 =>
 aI .i64 x201 fun n202 =>
 aV ys194 4 fun x203 =>
 aF x203 fun f204 cs205 =>
 aV ys194 5 fun x206 =>
 aI .i64 x206 fun n207 =>
 aV ys194 6 fun x208 =>
 aI .i64 x208 fun n209 =>
 aV ys194 7 fun x210 =>
 aI .i64 x210 fun n211 =>
 bif (decide (n211 < n200)) == true then (
 bif (decide (n200 < (IntKind.wrap .i64 (n209 - n211)))) then (
 callT T 165 [(.d (.s 2 l196)), (.d (.v (.int .i64 n211))), (.d (.v (.int .i64 n200))), (.d (.v (.int .i64 (IntKind.wrap .i64 (n209 - n211))))), (.f f204 cs205)] fun o212 =>
 nth o212.back 0 fun i213 =>
 oD i213 fun d214 =>
 dL 2 d214 fun l215 =>
 oT o212.res fun is216 =>
 tst (Nat.beq is216.length 0) (
 bif (decide (n198 < n211)) == true then (
 bif (decide (n211 < n207)) then (
 callT T 142 [(.d (.s 2 l215)), (.d (.v (.int .i64 n198))), (.d (.v (.int .i64 n211))), (.d (.v (.int .i64 n207))), (.f f204 cs205)] fun o217 =>
 nth o217.back 0 fun i218 =>
 oD i218 fun d219 =>
 dL 2 d219 fun l220 =>
 oT o217.res fun is221 =>
 tst (Nat.beq is221.length 0) (
 bif (decide (n207 < (IntKind.wrap .i64 (n209 - n211)))) == true then (
 bif (decide ((IntKind.wrap .i64 (n209 - n211)) < n202)) then (
 callT T 142 [(.d (.s 2 l220)), (.d (.v (.int .i64 n207))), (.d (.v (.int .i64 (IntKind.wrap .i64 (n209 - n211))))), (.d (.v (.int .i64 n202))), (.f f204 cs205)] fun o222 =>
 nth o222.back 0 fun i223 =>
 oD i223 fun d224 =>
 dL 2 d224 fun l225 =>
 oT o222.res fun is226 =>
 tst (Nat.beq is226.length 0) (
 some ⟨(.t []), [(.d (.s 2 l225))]⟩)) else (
 some ⟨(.t []), [(.d (.s 2 l220))]⟩)) else (
 some ⟨(.t []), [(.d (.s 2 l220))]⟩))) else (
 bif (decide (n207 < (IntKind.wrap .i64 (n209 - n211)))) == true then (
 bif (decide ((IntKind.wrap .i64 (n209 - n211)) < n202)) then (
 callT T 142 [(.d (.s 2 l215)), (.d (.v (.int .i64 n207))), (.d (.v (.int .i64 (IntKind.wrap .i64 (n209 - n211))))), (.d (.v (.int .i64 n202))), (.f f204 cs205)] fun o227 =>
 nth o227.back 0 fun i228 =>
 oD i228 fun d229 =>
 dL 2 d229 fun l230 =>
 oT o227.res fun is231 =>
 tst (Nat.beq is231.length 0) (
 some ⟨(.t []), [(.d (.s 2 l230))]⟩)) else (
 some ⟨(.t []), [(.d (.s 2 l215))]⟩)) else (
 some ⟨(.t []), [(.d (.s 2 l215))]⟩))) else (
 bif (decide (n207 < (IntKind.wrap .i64 (n209 - n211)))) == true then (
 bif (decide ((IntKind.wrap .i64 (n209 - n211)) < n202)) then (
 callT T 142 [(.d (.s 2 l215)), (.d (.v (.int .i64 n207))), (.d (.v (.int .i64 (IntKind.wrap .i64 (n209 - n211))))), (.d (.v (.int .i64 n202))), (.f f204 cs205)] fun o232 =>
 nth o232.back 0 fun i233 =>
 oD i233 fun d234 =>
 dL 2 d234 fun l235 =>
 oT o232.res fun is236 =>
 tst (Nat.beq is236.length 0) (
 some ⟨(.t []), [(.d (.s 2 l235))]⟩)) else (
 some ⟨(.t []), [(.d (.s 2 l215))]⟩)) else (
 some ⟨(.t []), [(.d (.s 2 l215))]⟩)))) else (
 bif (decide (n198 < n211)) == true then (
 bif (decide (n211 < n207)) then (
 callT T 142 [(.d (.s 2 l196)), (.d (.v (.int .i64 n198))), (.d (.v (.int .i64 n211))), (.d (.v (.int .i64 n207))), (.f f204 cs205)] fun o237 =>
 nth o237.back 0 fun i238 =>
 oD i238 fun d239 =>
 dL 2 d239 fun l240 =>
 oT o237.res fun is241 =>
 tst (Nat.beq is241.length 0) (
 bif (decide (n207 < (IntKind.wrap .i64 (n209 - n211)))) == true then (
 bif (decide ((IntKind.wrap .i64 (n209 - n211)) < n202)) then (
 callT T 142 [(.d (.s 2 l240)), (.d (.v (.int .i64 n207))), (.d (.v (.int .i64 (IntKind.wrap .i64 (n209 - n211))))), (.d (.v (.int .i64 n202))), (.f f204 cs205)] fun o242 =>
 nth o242.back 0 fun i243 =>
 oD i243 fun d244 =>
 dL 2 d244 fun l245 =>
 oT o242.res fun is246 =>
 tst (Nat.beq is246.length 0) (
 some ⟨(.t []), [(.d (.s 2 l245))]⟩)) else (
 some ⟨(.t []), [(.d (.s 2 l240))]⟩)) else (
 some ⟨(.t []), [(.d (.s 2 l240))]⟩))) else (
 bif (decide (n207 < (IntKind.wrap .i64 (n209 - n211)))) == true then (
 bif (decide ((IntKind.wrap .i64 (n209 - n211)) < n202)) then (
 callT T 142 [(.d (.s 2 l196)), (.d (.v (.int .i64 n207))), (.d (.v (.int .i64 (IntKind.wrap .i64 (n209 - n211))))), (.d (.v (.int .i64 n202))), (.f f204 cs205)] fun o247 =>
 nth o247.back 0 fun i248 =>
 oD i248 fun d249 =>
 dL 2 d249 fun l250 =>
 oT o247.res fun is251 =>
 tst (Nat.beq is251.length 0) (
 some ⟨(.t []), [(.d (.s 2 l250))]⟩)) else (
 some ⟨(.t []), [(.d (.s 2 l196))]⟩)) else (
 some ⟨(.t []), [(.d (.s 2 l196))]⟩))) else (
 bif (decide (n207 < (IntKind.wrap .i64 (n209 - n211)))) == true then (
 bif (decide ((IntKind.wrap .i64 (n209 - n211)) < n202)) then (
 callT T 142 [(.d (.s 2 l196)), (.d (.v (.int .i64 n207))), (.d (.v (.int .i64 (IntKind.wrap .i64 (n209 - n211))))), (.d (.v (.int .i64 n202))), (.f f204 cs205)] fun o252 =>
 nth o252.back 0 fun i253 =>
 oD i253 fun d254 =>
 dL 2 d254 fun l255 =>
 oT o252.res fun is256 =>
 tst (Nat.beq is256.length 0) (
 some ⟨(.t []), [(.d (.s 2 l255))]⟩)) else (
 some ⟨(.t []), [(.d (.s 2 l196))]⟩)) else (
 some ⟨(.t []), [(.d (.s 2 l196))]⟩)))) else (
 bif (decide (n198 < n211)) == true then (
 bif (decide (n211 < n207)) then (
 callT T 142 [(.d (.s 2 l196)), (.d (.v (.int .i64 n198))), (.d (.v (.int .i64 n211))), (.d (.v (.int .i64 n207))), (.f f204 cs205)] fun o257 =>
 nth o257.back 0 fun i258 =>
 oD i258 fun d259 =>
 dL 2 d259 fun l260 =>
 oT o257.res fun is261 =>
 tst (Nat.beq is261.length 0) (
 bif (decide (n207 < (IntKind.wrap .i64 (n209 - n211)))) == true then (
 bif (decide ((IntKind.wrap .i64 (n209 - n211)) < n202)) then (
 callT T 142 [(.d (.s 2 l260)), (.d (.v (.int .i64 n207))), (.d (.v (.int .i64 (IntKind.wrap .i64 (n209 - n211))))), (.d (.v (.int .i64 n202))), (.f f204 cs205)] fun o262 =>
 nth o262.back 0 fun i263 =>
 oD i263 fun d264 =>
 dL 2 d264 fun l265 =>
 oT o262.res fun is266 =>
 tst (Nat.beq is266.length 0) (
 some ⟨(.t []), [(.d (.s 2 l265))]⟩)) else (
 some ⟨(.t []), [(.d (.s 2 l260))]⟩)) else (
 some ⟨(.t []), [(.d (.s 2 l260))]⟩))) else (
 bif (decide (n207 < (IntKind.wrap .i64 (n209 - n211)))) == true then (
 bif (decide ((IntKind.wrap .i64 (n209 - n211)) < n202)) then (
 callT T 142 [(.d (.s 2 l196)), (.d (.v (.int .i64 n207))), (.d (.v (.int .i64 (IntKind.wrap .i64 (n209 - n211))))), (.d (.v (.int .i64 n202))), (.f f204 cs205)] fun o267 =>
 nth o267.back 0 fun i268 =>
 oD i268 fun d269 =>
 dL 2 d269 fun l270 =>
 oT o267.res fun is271 =>
 tst (Nat.beq is271.length 0) (
 some ⟨(.t []), [(.d (.s 2 l270))]⟩)) else (
 some ⟨(.t []), [(.d (.s 2 l196))]⟩)) else (
 some ⟨(.t []), [(.d (.s 2 l196))]⟩))) else (
 bif (decide (n207 < (IntKind.wrap .i64 (n209 - n211)))) == true then (
 bif (decide ((IntKind.wrap .i64 (n209 - n211)) < n202)) then (
 callT T 142 [(.d (.s 2 l196)), (.d (.v (.int .i64 n207))), (.d (.v (.int .i64 (IntKind.wrap .i64 (n209 - n211))))), (.d (.v (.int .i64 n202))), (.f f204 cs205)] fun o272 =>
 nth o272.back 0 fun i273 =>
 oD i273 fun d274 =>
 dL 2 d274 fun l275 =>
 oT o272.res fun is276 =>
 tst (Nat.beq is276.length 0) (
 some ⟨(.t []), [(.d (.s 2 l275))]⟩)) else (
 some ⟨(.t []), [(.d (.s 2 l196))]⟩)) else (
 some ⟨(.t []), [(.d (.s 2 l196))]⟩)))) else (
 none))))) := by kernel_rfl
/- slices.stableCmpFunc[loop.example/g00119/impl.Part] -/
def b116x0 : ACode := (
  .seq (.seq (.reg false [⟨some 11, .mv (.t 8), none⟩,
    ⟨some 12, .mv (.t 1), none⟩,
    ⟨some 13, .bin .leq (.t 11) (.t 12), none⟩]) (
  .cond (.t 13) (.skip) (.exit 0))) (
  .block 1 (.seq (.reg false [⟨some 14, .mv (.t 0), none⟩,
      ⟨some 15, .mv (.t 7), none⟩,
      ⟨some 16, .mv (.t 8), none⟩,
      ⟨some 17, .mv (.t 2), none⟩,
      ⟨some 18, .call (.f 141) [.lent, .rd, .rd, .rd] false [] [(.t 14), (.t 15), (.t 16), (.t 17)], none⟩]) (
    .seq (.reg false [⟨some 19, .mv (.t 8), none⟩,
      ⟨some 7, .mv (.t 19), none⟩]) (
    .reg false [⟨some 20, .mv (.t 8), none⟩,
      ⟨some 21, .mv (.t 6), none⟩,
      ⟨some 22, .bin .add (.t 20) (.t 21), none⟩,
      ⟨some 8, .mv (.t 22), none⟩])))))
def e116x0 : Exits := [((.exit 0), [(0, .o 2), (1, .c (.i .i64)), (2, .ff), (6, .c (.i .i64)), (7, .c (.i .i64))])]
noncomputable def l116x0 (T : Table) (k : Nat) := loopN (evalC ⟨T, [0]⟩ k b116x0 (Ex × List AV)) [0, 1, 2, 6, 7, 8] e116x0
def b116x2 : ACode := (
  .seq (.seq (.reg false [⟨some 33, .mv (.t 8), none⟩,
    ⟨some 34, .mv (.t 1), none⟩,
    ⟨some 35, .bin .leq (.t 33) (.t 34), none⟩]) (
  .cond (.t 35) (.skip) (.exit 4))) (
  .block 5 (.seq (.reg false [⟨some 36, .mv (.t 0), none⟩,
      ⟨some 37, .mv (.t 7), none⟩,
      ⟨some 38, .mv (.t 7), none⟩,
      ⟨some 39, .mv (.t 6), none⟩,
      ⟨some 40, .bin .add (.t 38) (.t 39), none⟩,
      ⟨some 41, .mv (.t 8), none⟩,
      ⟨some 42, .mv (.t 2), none⟩,
      ⟨some 43, .call (.f 142) [.lent, .rd, .rd, .rd, .rd] false [] [(.t 36), (.t 37), (.t 40), (.t 41), (.t 42)], none⟩]) (
    .seq (.reg false [⟨some 44, .mv (.t 8), none⟩,
      ⟨some 7, .mv (.t 44), none⟩]) (
    .reg false [⟨some 45, .mv (.t 8), none⟩,
      ⟨some 46, .mv (.t 6), none⟩,
      ⟨some 47, .bin .mul (.c (.v (.int .i64 2))) (.t 46), none⟩,
      ⟨some 48, .bin .add (.t 45) (.t 47), none⟩,
      ⟨some 8, .mv (.t 48), none⟩])))))
def e116x2 : Exits := [((.exit 4), [(0, .o 2), (1, .c (.i .i64)), (2, .ff), (6, .c (.i .i64)), (7, .c (.i .i64))])]
noncomputable def l116x2 (T : Table) (k : Nat) := loopN (evalC ⟨T, [0]⟩ k b116x2 (Ex × List AV)) [0, 1, 2, 6, 7, 8] e116x2
def b116x1 : ACode := (
  .seq (.seq (.reg false [⟨some 28, .mv (.t 6), none⟩,
    ⟨some 29, .mv (.t 1), none⟩,
    ⟨some 30, .bin .lss (.t 28) (.t 29), none⟩]) (
  .cond (.t 30) (.skip) (.exit 2))) (
  .block 3 (.seq (.reg false [⟨some 31, .mv (.t 6), none⟩,
      ⟨some 32, .bin .mul (.c (.v (.int .i64 2))) (.t 31), none⟩,
      ⟨some 7, .mv (.c (.v (.int .i64 0))), none⟩,
      ⟨some 8, .mv (.t 32), none⟩]) (
    .seq (.block 4 (.loop [0, 1, 2, 6, 7, 8] e116x2 b116x2)) (
    .seq (.seq (.reg false [⟨some 49, .mv (.t 7), none⟩,
      ⟨some 50, .mv (.t 6), none⟩,
      ⟨some 51, .bin .add (.t 49) (.t 50), none⟩,
      ⟨some 9, .mv (.t 51), none⟩]) (
    .seq (.reg false [⟨some 52, .mv (.t 9), none⟩,
      ⟨some 53, .mv (.t 1), none⟩,
      ⟨some 54, .bin .lss (.t 52) (.t 53), none⟩]) (
    .cond (.t 54) (.reg false [⟨some 55, .mv (.t 0), none⟩,
        ⟨some 56, .mv (.t 7), none⟩,
        ⟨some 57, .mv (.t 9), none⟩,
        ⟨some 58, .mv (.t 1), none⟩,
        ⟨some 59, .mv (.t 2), none⟩,
        ⟨some 60, .call (.f 142) [.lent, .rd, .rd, .rd, .rd] false [] [(.t 55), (.t 56), (.t 57), (.t 58), (.t 59)], none⟩]) (.skip)))) (
    .reg false [⟨some 61, .mv (.t 6), none⟩,
      ⟨some 62, .bin .mul (.t 61) (.c (.v (.int .i64 2))), none⟩,
      ⟨some 6, .mv (.t 62), none⟩]))))))
def e116x1 : Exits := [((.exit 2), [(0, .o 2)])]
noncomputable def l116x1 (T : Table) (k : Nat) := loopN (evalC ⟨T, [0]⟩ k b116x1 (Ex × List AV)) [0, 1, 2, 6] e116x1
def a116 : AFun := ⟨[.lent, .rd, .rd], false, [], (
  .seq (.reg false [⟨some 6, .mv (.c (.v (.int .i64 20))), none⟩]) (
  .seq (.reg false [⟨some 10, .mv (.t 6), none⟩,
    ⟨some 7, .mv (.c (.v (.int .i64 0))), none⟩,
    ⟨some 8, .mv (.t 10), none⟩]) (
  .seq (.block 0 (.loop [0, 1, 2, 6, 7, 8] e116x0 b116x0)) (
  .seq (.reg false [⟨some 23, .mv (.t 0), none⟩,
    ⟨some 24, .mv (.t 7), none⟩,
    ⟨some 25, .mv (.t 1), none⟩,
    ⟨some 26, .mv (.t 2), none⟩,
    ⟨some 27, .call (.f 141) [.lent, .rd, .rd, .rd] false [] [(.t 23), (.t 24), (.t 25), (.t 26)], none⟩]) (
  .block 2 (.loop [0, 1, 2, 6] e116x1 b116x1))))))⟩
theorem l116x0s (T : Table) (k n : Nat) (l5 : Rows) (n6 : Int) (f7 : Nat) (cs8 : List I) (n9 : Int) (n10 : Int) (n11 : Int) : l116x0 T k (n + 1) [(.o 2 l5), (.v (.int .i64 n6)), (.ff f7 cs8), (.v (.int .i64 n9)), (.v (.int .i64 n10)), (.v (.int .i64 n11))] = (
 bif (decide (n11 ≤ n6)) then (
 callT T 141 [(.d (.s 2 l5)), (.d (.v (.int .i64 n10))), (.d (.v (.int .i64 n11))), (.f f7 cs8)] fun o12 =>
 nth o12.back 0 fun i13 =>
 oD i13 fun d14 =>
 dL 2 d14 fun l15 =>
 oT o12.res fun is16 =>
 tst (Nat.beq is16.length 0) (
 l116x0 T k n [(.o 2 l15), (.v (.int .i64 n6)), (.ff f7 cs8), (.v (.int .i64 n9)), (.v (.int .i64 n11)), (.v (.int .i64 (IntKind.wrap .i64 (n11 + n9))))])) else (
 some ((.exit 0), [(.o 2 l5), (.v (.int .i64 n6)), (.ff f7 cs8), (.v (.int .i64 n9)), (.v (.int .i64 n10))]))) := by kernel_rfl
theorem l116x2s (T : Table) (k n : Nat) (l40 : Rows) (n41 : Int) (f42 : Nat) (cs43 : List I) (n44 : Int) (n45 : Int) (n46 : Int) : l116x2 T k (n + 1) [(.o 2 l40), (.v (.int .i64 n41)), (.ff f42 cs43), (.v (.int .i64 n44)), (.v (.int .i64 n45)), (.v (.int .i64 n46))] = (
 bif (decide (n46 ≤ n41)) then (
 callT T 142 [(.d (.s 2 l40)), (.d (.v (.int .i64 n45))), (.d (.v (.int .i64 (IntKind.wrap .i64 (n45 + n44))))), (.d (.v (.int .i64 n46))), (.f f42 cs43)] fun o47 =>
 nth o47.back 0 fun i48 =>
 oD i48 fun d49 =>
 dL 2 d49 fun l50 =>
 oT o47.res fun is51 =>
 tst (Nat.beq is51.length 0) (
 l116x2 T k n [(.o 2 l50), (.v (.int .i64 n41)), (.ff f42 cs43), (.v (.int .i64 n44)), (.v (.int .i64 n46)), (.v (.int .i64 (IntKind.wrap .i64 (n46 + (IntKind.wrap .i64 (2 * n44))))))])) else (
 some ((.exit 4), [(.o 2 l40), (.v (.int .i64 n41)), (.ff f42 cs43), (.v (.int .i64 n44)), (.v (.int .i64 n45))]))) := by kernel_rfl
theorem l116x1s (T : Table) (k n : Nat) (l35 : Rows) (n36 : Int) (f37 : Nat) (cs38 : List I) (n39 : Int) : l116x1 T k (n + 1) [(.o 2 l35), (.v (.int .i64 n36)), (.ff f37 cs38), (.v (.int .i64 n39))] = (
 bif (decide (n39 < n36)) then (
 aft (l116x2 T k k [(.o 2 l35), (.v (.int .i64 n36)), (.ff f37 cs38), (.v (.int .i64 n39)), (.v (.int .i64 0)), (.v (.int .i64 (IntKind.wrap .i64 (2 * n39))))]) fun e52 ys53 =>
 bif e52.same (.exit 4) then (
 aV ys53 0 fun x54 =>
 aO 2 x54 fun l55 =>
 aV ys53 1 fun x56 =>
 aI .i64 x56 fun n57 =>
 aV ys53 2 fun x58 =>
 aF x58 fun f59 cs60 =>
 aV ys53 3 fun x61 =>
 aI .i64 x61 fun n62 =>
 aV ys53 4 fun x63 =>
 aI .i64 x63 fun n64 =>
 bif (decide ((IntKind.wrap .i64 (n64 + n62)) < n57)) then (
 callT T 142 [(.d (.s 2 l55)), (.d (.v (.int .i64 n64))), (.d (.v (.int .i64 (IntKind.wrap .i64 (n64 + n62))))), (.d (.v (.int .i64 n57))), (.f f59 cs60)] fun o65 =>
 nth o65.back 0 fun i66 =>
 oD i66 fun d67 =>
 dL 2 d67 fun l68 =>
 oT o65.res fun is69 =>
 tst (Nat.beq is69.length 0) (
 l116x1 T k n [(.o 2 l68), (.v (.int .i64 n57)), (.ff f59 cs60), (.v (.int .i64 (IntKind.wrap .i64 (n62 * 2))))])) else (
 l116x1 T k n [(.o 2 l55), (.v (.int .i64 n57)), (.ff f59 cs60), (.v (.int .i64 (IntKind.wrap .i64 (n62 * 2))))])) else (
 none)) else (
 some ((.exit 2), [(.o 2 l35)]))) := by kernel_rfl
theorem a116q (T : Table) (k : Nat) (l1 : Rows) (n2 : Int) (f3 : Nat) (cs4 : List I) : evalF T k a116 [(.d (.s 2 l1)), (.d (.v (.int .i64 n2))), (.f f3 cs4)] = (
 aft (l116x0 T k k [(.o 2 l1), (.v (.int .i64 n2)), (.ff f3 cs4), (.v (.int .i64 20)), (.v (.int .i64 0)), (.v (.int .i64 20))]) fun e17 ys18 =>
 bif e17.same (.exit 0) then (
 aV ys18 0 fun x19 =>
 aO 2 x19 fun l20 =>
 aV ys18 1 fun x21 =>
 aI .i64 x21 fun n22 =>
 aV ys18 2 fun x23 =>
 aF x23 fun f24 cs25 =>
 aV ys18 3 fun x26 =>
 aI .i64 x26 fun n27 =>
 aV ys18 4 fun x28 =>
 aI .i64 x28 fun n29 =>
 callT T 141 [(.d (.s 2 l20)), (.d (.v (.int .i64 n29))), (.d (.v (.int .i64 n22))), (.f f24 cs25)] fun o30 =>
 nth o30.back 0 fun i31 =>
 oD i31 fun d32 =>
 dL 2 d32 fun l33 =>
 oT o30.res fun is34 =>
 tst (Nat.beq is34.length 0) (
 aft (l116x1 T k k [(.o 2 l33), (.v (.int .i64 n22)), (.ff f24 cs25), (.v (.int .i64 n27))]) fun e70 ys71 =>
 bif e70.same (.exit 2) then (
 aV ys71 0 fun x72 =>
 aO 2 x72 fun l73 =>
 some ⟨(.t []), [(.d (.s 2 l73))]⟩) else (
 none))) else (
 none)) := by kernel_rfl
/- slices.SortStableFunc[[]loop.example/g00119/impl.Part,loop.example/g00119/impl.Part] -/

def a68 : AFun := ⟨[.lent, .rd], false, [], (
  .reg false [⟨some 4, .mv (.t 0), none⟩,
    ⟨some 5, .mv (.t 0), none⟩,
    ⟨some 6, .len false (.t 5), none⟩,
    ⟨some 7, .mv (.t 1), none⟩,
    ⟨some 8, .call (.f 116) [.lent, .rd, .rd] false [] [(.t 4), (.t 6), (.t 7)], none⟩])⟩

theorem a68q (T : Table) (k : Nat) (l1 : Rows) (f2 : Nat) (cs3 : List I) : evalF T k a68 [(.d (.s 2 l1)), (.f f2 cs3)] = (
 callT T 116 [(.d (.s 2 l1)), (.d (.v (.int .i64 (l1.length : Int)))), (.f f2 cs3)] fun o4 =>
 nth o4.back 0 fun i5 =>
 oD i5 fun d6 =>
 dL 2 d6 fun l7 =>
 oT o4.res fun is8 =>
 tst (Nat.beq is8.length 0) (
 some ⟨(.t []), [(.d (.s 2 l7))]⟩)) := by kernel_rfl
/- loop.example/g00119/impl.Spread$1 -/

def a69 : AFun := ⟨[.rd, .rd], false, [.t 4], (
  .seq (.reg false [⟨some 2, .box (.t 0), none⟩,
    ⟨some 3, .box (.t 1), none⟩,
    ⟨some 4, .mv (.c (.v (.int .i64 0))), none⟩]) (
  .seq (.block 0 (.seq (.reg false [⟨some 6, .fad 0 (.t 2), none⟩,
      ⟨some 7, .load false [.s] (.t 6), none⟩,
      ⟨some 8, .fad 0 (.t 3), none⟩,
      ⟨some 9, .load false [.s] (.t 8), none⟩,
      ⟨some 10, .bin .lss (.t 7) (.t 9), none⟩,
      ⟨some 5, .mv (.t 10), none⟩]) (
    .cond (.t 5) (.seq (.reg false [⟨some 4, .mv (.c (.v (.int .i64 (-1)))), none⟩]) (
      .ret)) (.seq (.reg false [⟨some 12, .fad 0 (.t 2), none⟩,
        ⟨some 13, .load false [.s] (.t 12), none⟩,
        ⟨some 14, .fad 0 (.t 3), none⟩,
        ⟨some 15, .load false [.s] (.t 14), none⟩,
        ⟨some 16, .bin .gtr (.t 13) (.t 15), none⟩,
        ⟨some 11, .mv (.t 16), none⟩]) (
      .cond (.t 11) (.seq (.reg false [⟨some 4, .mv (.c (.v (.int .i64 1))), none⟩]) (
        .ret)) (.skip)))))) (
  .seq (.reg false [⟨some 4, .mv (.c (.v (.int .i64 0))), none⟩]) (
  .ret))))⟩

theorem a69q (T : Table) (k : Nat) (s1 : ByteArray) (n2 : Int) (s3 : ByteArray) (n4 : Int) : evalF T k a69 [(.g [(.v (.string s1)), (.v (.int .i64 n2))]), (.g [(.v (.string s3)), (.v (.int .i64 n4))])] = (
 bif (bytesLess s1 s3) then (
 some ⟨(.d (.v (.int .i64 (-1)))), []⟩) else (
 bif (!(bytesLess s1 s3 || bytesEq s1 s3)) then (
 some ⟨(.d (.v (.int .i64 1))), []⟩) else (
 some ⟨(.d (.v (.int .i64 0))), []⟩))) := by kernel_rfl
/- loop.example/g00119/impl.Spread -/
def b27x0 : ACode := (
  .seq (.reg false [⟨some 13, .bin .lss (.t 12) (.t 11), none⟩]) (
  .seq (.cond (.t 13) (.skip) (.exit 0)) (
  .seq (.block 1 (.seq (.reg false [⟨some 14, .iad 5 (.t 10) (.t 12), none⟩,
      ⟨some 15, .load true [(.i .i64), .s, (.i .i64), (.i .i64), (.i .i64)] (.t 14), none⟩,
      ⟨some 7, .alloc [(.v (.int .i64 0)), (.v (.string ByteArray.empty)), (.v (.int .i64 0)), (.v (.int .i64 0)), (.v (.int .i64 0))], none⟩,
      ⟨none, .store 5 (.t 7) (.t 15), none⟩]) (
    .seq (.reg false [⟨some 16, .fad 0 (.t 7), none⟩,
      ⟨some 17, .load false [(.i .i64)] (.t 16), none⟩,
      ⟨some 18, .mv (.t 1), none⟩,
      ⟨some 19, .bin .eql (.t 17) (.t 18), none⟩,
      ⟨some 20, .mv (.t 19), none⟩,
      ⟨some 21, .fad 2 (.t 7), some (20, true)⟩,
      ⟨some 22, .load false [(.i .i64)] (.t 21), some (20, true)⟩,
      ⟨some 23, .bin .gtr (.t 22) (.c (.v (.int .i64 0))), some (20, true)⟩,
      ⟨some 24, .pick (.t 20) (.t 23) (.c (.v (.bool false))), none⟩]) (
    .cond (.t 24) (.reg false [⟨some 25, .mv (.t 5), none⟩,
        ⟨some 26, .fad 1 (.t 7), none⟩,
        ⟨some 27, .load false [.s] (.t 26), none⟩,
        ⟨some 28, .fad 2 (.t 7), none⟩,
        ⟨some 29, .load false [(.i .i64)] (.t 28), none⟩,
        ⟨some 30, .build [(.v (.string ByteArray.empty)), (.v (.int .i64 0))] [(0, 1, (.t 27)), (1, 1, (.t 29))], none⟩,
        ⟨some 31, .lit 2 ([[(.v (.string ByteArray.empty)), (.v (.int .i64 0))]] : Rows) [(0, (.t 30))], none⟩,
        ⟨some 32, .app 2 24 (.t 25) (.t 31), none⟩,
        ⟨some 5, .mv (.t 32), none⟩]) (.skip))))) (
  .reg false [⟨some 33, .bin .add (.t 12) (.c (.v (.int .i64 1))), none⟩,
    ⟨some 12, .mv (.t 33), none⟩]))))
def e27x0 : Exits := [((.exit 0), [(5, .o 2)])]
noncomputable def l27x0 (T : Table) (k : Nat) := loopN (evalC ⟨T, []⟩ k b27x0 (Ex × List AV)) [1, 5, 10, 11, 12] e27x0
def a27 : AFun := ⟨[.rd, .rd], false, [.t 4], (
  .seq (.reg false [⟨some 2, .box (.t 0), none⟩,
    ⟨some 4, .mv (.c (.o 2 [])), none⟩]) (
  .seq (.reg false [⟨some 8, .lit 2 ([] : Rows) [], none⟩,
    ⟨some 5, .mv (.t 8), none⟩]) (
  .seq (.seq (.reg false [⟨some 9, .fad 5 (.t 2), none⟩,
    ⟨some 10, .load false [(.sl 5)] (.t 9), none⟩,
    ⟨some 11, .len false (.t 10), none⟩,
    ⟨some 12, .mv (.c (.v (.int .i64 0))), none⟩]) (
  .block 0 (.loop [1, 5, 10, 11, 12] e27x0 b27x0))) (
  .seq (.reg false [⟨some 34, .mv (.t 5), none⟩,
    ⟨some 35, .call (.f 68) [.lent, .rd] false [] [(.t 34), (.f 69)], none⟩]) (
  .seq (.reg false [⟨some 36, .mv (.t 5), none⟩,
    ⟨some 4, .mv (.t 36), none⟩]) (
  .ret))))))⟩
theorem l27x0s (T : Table) (k n : Nat) (n9 : Int) (l10 : Rows) (l11 : Rows) (n12 : Int) (n13 : Int) : l27x0 T k (n + 1) [(.v (.int .i64 n9)), (.o 2 l10), (.fz 5 l11), (.v (.int .i64 n12)), (.v (.int .i64 n13))] = (
 bif (decide (n13 < n12)) then (
 tst (decide (0 ≤ n13)) (
 look l11 (Int.toNat n13) fun r14 =>
 cI .i64 r14 0 fun n15 =>
 cS r14 1 fun s16 =>
 cI .i64 r14 2 fun n17 =>
 cI .i64 r14 3 fun n18 =>
 cI .i64 r14 4 fun n19 =>
 bif (n15 == n9) == true then (
 bif (decide (n17 > 0)) then (
 tst (decide ((l10.length + ([[(.v (.string s16)), (.v (.int .i64 n17))]] : Rows).length) * 24 ≤ maxBytes)) (
 l27x0 T k n [(.v (.int .i64 n9)), (.o 2 (l10 ++ ([[(.v (.string s16)), (.v (.int .i64 n17))]] : Rows))), (.fz 5 l11), (.v (.int .i64 n12)), (.v (.int .i64 (IntKind.wrap .i64 (n13 + 1))))])) else (
 l27x0 T k n [(.v (.int .i64 n9)), (.o 2 l10), (.fz 5 l11), (.v (.int .i64 n12)), (.v (.int .i64 (IntKind.wrap .i64 (n13 + 1))))])) else (
 l27x0 T k n [(.v (.int .i64 n9)), (.o 2 l10), (.fz 5 l11), (.v (.int .i64 n12)), (.v (.int .i64 (IntKind.wrap .i64 (n13 + 1))))]))) else (
 some ((.exit 0), [(.o 2 l10)]))) := by kernel_rfl
theorem a27q (T : Table) (k : Nat) (n1 : Int) (n2 : Int) (n3 : Int) (l4 : Rows) (l5 : Rows) (l6 : Rows) (l7 : Rows) (n8 : Int) : evalF T k a27 [(.g [(.v (.int .i64 n1)), (.v (.int .i64 n2)), (.v (.int .i64 n3)), (.s 13 l4), (.s 6 l5), (.s 5 l6), (.s 1 l7)]), (.d (.v (.int .i64 n8)))] = (
 aft (l27x0 T k k [(.v (.int .i64 n8)), (.o 2 []), (.fz 5 l6), (.v (.int .i64 (l6.length : Int))), (.v (.int .i64 0))]) fun e20 ys21 =>
 bif e20.same (.exit 0) then (
 aV ys21 0 fun x22 =>
 aO 2 x22 fun l23 =>
 callT T 68 [(.d (.s 2 l23)), (.f 69 [])] fun o24 =>
 nth o24.back 0 fun i25 =>
 oD i25 fun d26 =>
 dL 2 d26 fun l27 =>
 oT o24.res fun is28 =>
 tst (Nat.beq is28.length 0) (
 some ⟨(.d (.s 2 l27)), []⟩)) else (
 none)) := by kernel_rfl
/- loop.example/g00119/laws.eqPart -/

def a70 : AFun := ⟨[.rd, .rd], false, [.t 4], (
  .seq (.reg false [⟨some 2, .box (.t 0), none⟩,
    ⟨some 3, .box (.t 1), none⟩,
    ⟨some 4, .mv (.c (.v (.bool false))), none⟩]) (
  .seq (.seq (.reg false [⟨some 5, .fad 0 (.t 2), none⟩,
    ⟨some 6, .load false [.s] (.t 5), none⟩,
    ⟨some 7, .fad 0 (.t 3), none⟩,
    ⟨some 8, .load false [.s] (.t 7), none⟩,
    ⟨some 9, .bin .neq (.t 6) (.t 8), none⟩]) (
  .cond (.t 9) (.seq (.reg false [⟨some 4, .mv (.c (.v (.bool false))), none⟩]) (
    .ret)) (.skip))) (
  .seq (.seq (.reg false [⟨some 10, .fad 1 (.t 2), none⟩,
    ⟨some 11, .load false [(.i .i64)] (.t 10), none⟩,
    ⟨some 12, .fad 1 (.t 3), none⟩,
    ⟨some 13, .load false [(.i .i64)] (.t 12), none⟩,
    ⟨some 14, .bin .neq (.t 11) (.t 13), none⟩]) (
  .cond (.t 14) (.seq (.reg false [⟨some 4, .mv (.c (.v (.bool false))), none⟩]) (
    .ret)) (.skip))) (
  .seq (.reg false [⟨some 4, .mv (.c (.v (.bool true))), none⟩]) (
  .ret)))))⟩

theorem a70q (T : Table) (k : Nat) (s1 : ByteArray) (n2 : Int) (s3 : ByteArray) (n4 : Int) : evalF T k a70 [(.g [(.v (.string s1)), (.v (.int .i64 n2))]), (.g [(.v (.string s3)), (.v (.int .i64 n4))])] = (
 bif (!(bytesEq s1 s3)) then (
 some ⟨(.d (.v (.bool false))), []⟩) else (
 bif (n2 != n4) then (
 some ⟨(.d (.v (.bool false))), []⟩) else (
 some ⟨(.d (.v (.bool true))), []⟩))) := by kernel_rfl
/- loop.example/g00119/laws.eqPartS -/
def b28x0 : ACode := (
  .seq (.seq (.reg false [⟨some 11, .mv (.t 5), none⟩,
    ⟨some 12, .mv (.t 0), none⟩,
    ⟨some 13, .len false (.t 12), none⟩,
    ⟨some 14, .bin .lss (.t 11) (.t 13), none⟩]) (
  .cond (.t 14) (.skip) (.exit 0))) (
  .seq (.block 1 (.seq (.dreg [] [(0, ⟨some 17, .mv (.t 0), none⟩),
      (0, ⟨some 18, .mv (.t 5), none⟩),
      (0, ⟨some 19, .iad 2 (.t 17) (.t 18), none⟩),
      (0, ⟨some 20, .load true [.s, (.i .i64)] (.t 19), none⟩),
      (0, ⟨some 21, .mv (.t 1), none⟩),
      (0, ⟨some 22, .mv (.t 5), none⟩),
      (0, ⟨some 23, .iad 2 (.t 21) (.t 22), none⟩),
      (0, ⟨some 24, .load true [.s, (.i .i64)] (.t 23), none⟩)] [⟨some 25, .call (.f 70) [.rd, .rd] false [.c .b] [(.t 20), (.t 24)], none⟩,
      ⟨some 26, .un .not (.t 25), none⟩]) (
    .cond (.t 26) (.seq (.reg false [⟨some 4, .mv (.c (.v (.bool false))), none⟩]) (
      .ret)) (.skip)))) (
  .reg false [⟨some 15, .mv (.t 5), none⟩,
    ⟨some 16, .bin .add (.t 15) (.c (.v (.int .i64 1))), none⟩,
    ⟨some 5, .mv (.t 16), none⟩])))
def e28x0 : Exits := [(.ret, [(4, .c .b)]), ((.exit 0), [])]
noncomputable def l28x0 (T : Table) (k : Nat) := loopN (evalC ⟨T, []⟩ k b28x0 (Ex × List AV)) [0, 1, 5] e28x0
def a28 : AFun := ⟨[.rd, .rd], false, [.t 4], (
  .seq (.reg false [⟨some 4, .mv (.c (.v (.bool false))), none⟩]) (
  .seq (.seq (.reg false [⟨some 6, .mv (.t 0), none⟩,
    ⟨some 7, .len false (.t 6), none⟩,
    ⟨some 8, .mv (.t 1), none⟩,
    ⟨some 9, .len false (.t 8), none⟩,
    ⟨some 10, .bin .neq (.t 7) (.t 9), none⟩]) (
  .cond (.t 10) (.seq (.reg false [⟨some 4, .mv (.c (.v (.bool false))), none⟩]) (
    .ret)) (.skip))) (
  .seq (.seq (.reg false [⟨some 5, .mv (.c (.v (.int .i64 0))), none⟩]) (
  .block 0 (.loop [0, 1, 5] e28x0 b28x0))) (
  .seq (.reg false [⟨some 4, .mv (.c (.v (.bool true))), none⟩]) (
  .ret)))))⟩
theorem l28x0s (T : Table) (k n : Nat) (l3 : Rows) (l4 : Rows) (n5 : Int) : l28x0 T k (n + 1) [(.fz 2 l3), (.fz 2 l4), (.v (.int .i64 n5))] = (
 bif (decide (n5 < (l3.length : Int))) then (
 tst (decide (0 ≤ n5)) (
 look l3 (Int.toNat n5) fun r6 =>
 cS r6 0 fun s7 =>
 cI .i64 r6 1 fun n8 =>
 tst (decide (0 ≤ n5)) (
 look l4 (Int.toNat n5) fun r9 =>
 cS r9 0 fun s10 =>
 cI .i64 r9 1 fun n11 =>
 callT T 70 [(.g [(.v (.string s7)), (.v (.int .i64 n8))]), (.g [(.v (.string s10)), (.v (.int .i64 n11))])] fun o12 =>
 oD o12.res fun d13 =>
 dB d13 fun b14 =>
 bif (!b14) then (
 some (.ret, [(.v (.bool false))])) else (
 l28x0 T k n [(.fz 2 l3), (.fz 2 l4), (.v (.int .i64 (IntKind.wrap .i64 (n5 + 1))))])))) else (
 some ((.exit 0), []))) := by kernel_rfl
theorem a28q (T : Table) (k : Nat) (l1 : Rows) (l2 : Rows) : evalF T k a28 [(.d (.s 2 l1)), (.d (.s 2 l2))] = (
 bif ((l1.length : Int) != (l2.length : Int)) then (
 some ⟨(.d (.v (.bool false))), []⟩) else (
 aft (l28x0 T k k [(.fz 2 l1), (.fz 2 l2), (.v (.int .i64 0))]) fun e15 ys16 =>
 bif e15.same .ret then (
 aV ys16 0 fun x17 =>
 aB x17 fun b18 =>
 some ⟨(.d (.v (.bool b18))), []⟩) else (
 bif e15.same (.exit 0) then (
 some ⟨(.d (.v (.bool true))), []⟩) else (
 none)))) := by kernel_rfl

end Go.Am.Sp
