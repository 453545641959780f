/- What the functions come to, printed: equations by the kernel. Nothing is assumed. -/
import Derived.Test.YtapjklbchbgiaaaGreatAmA
import Derived.KernelRfl
namespace Go.Am.Is
set_option linter.unusedVariables false
set_option linter.unusedSimpArgs false
set_option maxRecDepth 8000
/- loop.example/g00119/laws.szStringS -/
def b50x0 : ACode := (
  .seq (.seq (.reg false [⟨some 12, .mv (.t 5), none⟩,
    ⟨some 13, .mv (.t 0), none⟩,
    ⟨some 14, .len false (.t 13), none⟩,
    ⟨some 15, .bin .lss (.t 12) (.t 14), none⟩]) (
  .cond (.t 15) (.skip) (.exit 0))) (
  .seq (.block 1 (.seq (.reg false [⟨some 18, .mv (.t 1), none⟩,
      ⟨some 19, .mv (.t 0), none⟩,
      ⟨some 20, .mv (.t 5), none⟩,
      ⟨some 21, .iad 1 (.t 19) (.t 20), none⟩,
      ⟨some 22, .load false [.s] (.t 21), none⟩,
      ⟨some 23, .len true (.t 22), none⟩,
      ⟨some 24, .bin .sub (.t 18) (.t 23), none⟩,
      ⟨some 1, .mv (.t 24), none⟩]) (
    .seq (.reg false [⟨some 25, .mv (.t 1), none⟩,
      ⟨some 26, .bin .lss (.t 25) (.c (.v (.int .i64 0))), none⟩]) (
    .cond (.t 26) (.seq (.reg false [⟨some 4, .mv (.c (.v (.int .i64 (-1)))), none⟩]) (
      .ret)) (.skip))))) (
  .reg false [⟨some 16, .mv (.t 5), none⟩,
    ⟨some 17, .bin .add (.t 16) (.c (.v (.int .i64 1))), none⟩,
    ⟨some 5, .mv (.t 17), none⟩])))
def e50x0 : Exits := [(.ret, [(4, .c (.i .i64))]), ((.exit 0), [(1, .c (.i .i64))])]
noncomputable def l50x0 (T : Table) (k : Nat) := loopN (evalC ⟨T, []⟩ k b50x0 (Ex × List AV)) [0, 1, 5] e50x0
def a50 : AFun := ⟨[.rd, .rd], false, [.t 4], (
  .seq (.reg false [⟨some 4, .mv (.c (.v (.int .i64 0))), none⟩]) (
  .seq (.reg false [⟨some 6, .mv (.t 1), none⟩,
    ⟨some 7, .mv (.t 0), none⟩,
    ⟨some 8, .len false (.t 7), none⟩,
    ⟨some 9, .bin .sub (.t 6) (.t 8), none⟩,
    ⟨some 1, .mv (.t 9), none⟩]) (
  .seq (.seq (.reg false [⟨some 10, .mv (.t 1), none⟩,
    ⟨some 11, .bin .lss (.t 10) (.c (.v (.int .i64 0))), none⟩]) (
  .cond (.t 11) (.seq (.reg false [⟨some 4, .mv (.c (.v (.int .i64 (-1)))), none⟩]) (
    .ret)) (.skip))) (
  .seq (.seq (.reg false [⟨some 5, .mv (.c (.v (.int .i64 0))), none⟩]) (
  .block 0 (.loop [0, 1, 5] e50x0 b50x0))) (
  .seq (.reg false [⟨some 27, .mv (.t 1), none⟩,
    ⟨some 4, .mv (.t 27), none⟩]) (
  .ret))))))⟩
theorem l50x0s (T : Table) (k n : Nat) (l3 : Rows) (n4 : Int) (n5 : Int) : l50x0 T k (n + 1) [(.fz 1 l3), (.v (.int .i64 n4)), (.v (.int .i64 n5))] = (
 bif (decide (n5 < (l3.length : Int))) then (
 tst (decide (0 ≤ n5)) (
 look l3 (Int.toNat n5) fun r6 =>
 cS r6 0 fun s7 =>
 bif (decide ((IntKind.wrap .i64 (n4 - (s7.size : Int))) < 0)) then (
 some (.ret, [(.v (.int .i64 (-1)))])) else (
 l50x0 T k n [(.fz 1 l3), (.v (.int .i64 (IntKind.wrap .i64 (n4 - (s7.size : Int))))), (.v (.int .i64 (IntKind.wrap .i64 (n5 + 1))))]))) else (
 some ((.exit 0), [(.v (.int .i64 n4))]))) := by kernel_rfl
theorem a50q (T : Table) (k : Nat) (l1 : Rows) (n2 : Int) : evalF T k a50 [(.d (.s 1 l1)), (.d (.v (.int .i64 n2)))] = (
 bif (decide ((IntKind.wrap .i64 (n2 - (l1.length : Int))) < 0)) then (
 some ⟨(.d (.v (.int .i64 (-1)))), []⟩) else (
 aft (l50x0 T k k [(.fz 1 l1), (.v (.int .i64 (IntKind.wrap .i64 (n2 - (l1.length : Int))))), (.v (.int .i64 0))]) fun e8 ys9 =>
 bif e8.same .ret then (
 aV ys9 0 fun x10 =>
 aI .i64 x10 fun n11 =>
 some ⟨(.d (.v (.int .i64 n11))), []⟩) else (
 bif e8.same (.exit 0) then (
 aV ys9 0 fun x12 =>
 aI .i64 x12 fun n13 =>
 some ⟨(.d (.v (.int .i64 n13))), []⟩) else (
 none)))) := by kernel_rfl
/- loop.example/g00119/laws.szTerm -/

def a275 : AFun := ⟨[.rd, .rd], false, [.t 4], (
  .seq (.reg false [⟨some 2, .box (.t 0), none⟩,
    ⟨some 4, .mv (.c (.v (.int .i64 0))), none⟩]) (
  .seq (.reg false [⟨some 5, .mv (.t 1), none⟩,
    ⟨some 6, .fad 1 (.t 2), none⟩,
    ⟨some 7, .load false [.s] (.t 6), none⟩,
    ⟨some 8, .len true (.t 7), none⟩,
    ⟨some 9, .bin .sub (.t 5) (.t 8), none⟩,
    ⟨some 1, .mv (.t 9), none⟩]) (
  .seq (.seq (.reg false [⟨some 10, .mv (.t 1), none⟩,
    ⟨some 11, .bin .lss (.t 10) (.c (.v (.int .i64 0))), none⟩]) (
  .cond (.t 11) (.seq (.reg false [⟨some 4, .mv (.c (.v (.int .i64 (-1)))), none⟩]) (
    .ret)) (.skip))) (
  .seq (.reg false [⟨some 12, .fad 2 (.t 2), none⟩,
    ⟨some 13, .load false [(.sl 1)] (.t 12), none⟩,
    ⟨some 14, .mv (.t 1), none⟩,
    ⟨some 15, .call (.f 50) [.rd, .rd] false [.c (.i .i64)] [(.t 13), (.t 14)], none⟩,
    ⟨some 1, .mv (.t 15), none⟩]) (
  .seq (.seq (.reg false [⟨some 16, .mv (.t 1), none⟩,
    ⟨some 17, .bin .lss (.t 16) (.c (.v (.int .i64 0))), none⟩]) (
  .cond (.t 17) (.seq (.reg false [⟨some 4, .mv (.c (.v (.int .i64 (-1)))), none⟩]) (
    .ret)) (.skip))) (
  .seq (.reg false [⟨some 18, .mv (.t 1), none⟩,
    ⟨some 4, .mv (.t 18), none⟩]) (
  .ret)))))))⟩

theorem a275q (T : Table) (k : Nat) (n1 : Int) (s2 : ByteArray) (l3 : Rows) (n4 : Int) : evalF T k a275 [(.g [(.v (.int .i64 n1)), (.v (.string s2)), (.s 1 l3)]), (.d (.v (.int .i64 n4)))] = (
 bif (decide ((IntKind.wrap .i64 (n4 - (s2.size : Int))) < 0)) then (
 some ⟨(.d (.v (.int .i64 (-1)))), []⟩) else (
 callT T 50 [(.d (.s 1 l3)), (.d (.v (.int .i64 (IntKind.wrap .i64 (n4 - (s2.size : Int))))))] fun o5 =>
 oD o5.res fun d6 =>
 dI .i64 d6 fun n7 =>
 bif (decide (n7 < 0)) then (
 some ⟨(.d (.v (.int .i64 (-1)))), []⟩) else (
 some ⟨(.d (.v (.int .i64 n7))), []⟩))) := by kernel_rfl
/- loop.example/g00119/laws.szTermS -/
def b173x0 : ACode := (
  .seq (.seq (.reg false [⟨some 12, .mv (.t 5), none⟩,
    ⟨some 13, .mv (.t 0), none⟩,
    ⟨some 14, .len false (.t 13), none⟩,
    ⟨some 15, .bin .lss (.t 12) (.t 14), none⟩]) (
  .cond (.t 15) (.skip) (.exit 0))) (
  .seq (.block 1 (.seq (.reg false [⟨some 18, .mv (.t 0), none⟩,
      ⟨some 19, .mv (.t 5), none⟩,
      ⟨some 20, .iad 3 (.t 18) (.t 19), none⟩,
      ⟨some 21, .load true [(.i .i64), .s, (.sl 1)] (.t 20), none⟩,
      ⟨some 22, .mv (.t 1), none⟩,
      ⟨some 23, .call (.f 275) [.rd, .rd] false [.c (.i .i64)] [(.t 21), (.t 22)], none⟩,
      ⟨some 1, .mv (.t 23), none⟩]) (
    .seq (.reg false [⟨some 24, .mv (.t 1), none⟩,
      ⟨some 25, .bin .lss (.t 24) (.c (.v (.int .i64 0))), none⟩]) (
    .cond (.t 25) (.seq (.reg false [⟨some 4, .mv (.c (.v (.int .i64 (-1)))), none⟩]) (
      .ret)) (.skip))))) (
  .reg false [⟨some 16, .mv (.t 5), none⟩,
    ⟨some 17, .bin .add (.t 16) (.c (.v (.int .i64 1))), none⟩,
    ⟨some 5, .mv (.t 17), none⟩])))
def e173x0 : Exits := [(.ret, [(4, .c (.i .i64))]), ((.exit 0), [(1, .c (.i .i64))])]
noncomputable def l173x0 (T : Table) (k : Nat) := loopN (evalC ⟨T, []⟩ k b173x0 (Ex × List AV)) [0, 1, 5] e173x0
def a173 : AFun := ⟨[.rd, .rd], false, [.t 4], (
  .seq (.reg false [⟨some 4, .mv (.c (.v (.int .i64 0))), none⟩]) (
  .seq (.reg false [⟨some 6, .mv (.t 1), none⟩,
    ⟨some 7, .mv (.t 0), none⟩,
    ⟨some 8, .len false (.t 7), none⟩,
    ⟨some 9, .bin .sub (.t 6) (.t 8), none⟩,
    ⟨some 1, .mv (.t 9), none⟩]) (
  .seq (.seq (.reg false [⟨some 10, .mv (.t 1), none⟩,
    ⟨some 11, .bin .lss (.t 10) (.c (.v (.int .i64 0))), none⟩]) (
  .cond (.t 11) (.seq (.reg false [⟨some 4, .mv (.c (.v (.int .i64 (-1)))), none⟩]) (
    .ret)) (.skip))) (
  .seq (.seq (.reg false [⟨some 5, .mv (.c (.v (.int .i64 0))), none⟩]) (
  .block 0 (.loop [0, 1, 5] e173x0 b173x0))) (
  .seq (.reg false [⟨some 26, .mv (.t 1), none⟩,
    ⟨some 4, .mv (.t 26), none⟩]) (
  .ret))))))⟩
theorem l173x0s (T : Table) (k n : Nat) (l3 : Rows) (n4 : Int) (n5 : Int) : l173x0 T k (n + 1) [(.fz 3 l3), (.v (.int .i64 n4)), (.v (.int .i64 n5))] = (
 bif (decide (n5 < (l3.length : Int))) then (
 tst (decide (0 ≤ n5)) (
 look l3 (Int.toNat n5) fun r6 =>
 cI .i64 r6 0 fun n7 =>
 cS r6 1 fun s8 =>
 cL 1 r6 2 fun l9 =>
 callT T 275 [(.g [(.v (.int .i64 n7)), (.v (.string s8)), (.s 1 l9)]), (.d (.v (.int .i64 n4)))] fun o10 =>
 oD o10.res fun d11 =>
 dI .i64 d11 fun n12 =>
 bif (decide (n12 < 0)) then (
 some (.ret, [(.v (.int .i64 (-1)))])) else (
 l173x0 T k n [(.fz 3 l3), (.v (.int .i64 n12)), (.v (.int .i64 (IntKind.wrap .i64 (n5 + 1))))]))) else (
 some ((.exit 0), [(.v (.int .i64 n4))]))) := by kernel_rfl
theorem a173q (T : Table) (k : Nat) (l1 : Rows) (n2 : Int) : evalF T k a173 [(.d (.s 3 l1)), (.d (.v (.int .i64 n2)))] = (
 bif (decide ((IntKind.wrap .i64 (n2 - (l1.length : Int))) < 0)) then (
 some ⟨(.d (.v (.int .i64 (-1)))), []⟩) else (
 aft (l173x0 T k k [(.fz 3 l1), (.v (.int .i64 (IntKind.wrap .i64 (n2 - (l1.length : Int))))), (.v (.int .i64 0))]) fun e13 ys14 =>
 bif e13.same .ret then (
 aV ys14 0 fun x15 =>
 aI .i64 x15 fun n16 =>
 some ⟨(.d (.v (.int .i64 n16))), []⟩) else (
 bif e13.same (.exit 0) then (
 aV ys14 0 fun x17 =>
 aI .i64 x17 fun n18 =>
 some ⟨(.d (.v (.int .i64 n18))), []⟩) else (
 none)))) := by kernel_rfl
/- loop.example/g00119/laws.szWeigh -/

def a276 : AFun := ⟨[.rd, .rd], false, [.t 4], (
  .seq (.reg false [⟨some 2, .box (.t 0), none⟩,
    ⟨some 4, .mv (.c (.v (.int .i64 0))), none⟩]) (
  .seq (.reg false [⟨some 5, .mv (.t 1), none⟩,
    ⟨some 6, .fad 0 (.t 2), none⟩,
    ⟨some 7, .load false [.s] (.t 6), none⟩,
    ⟨some 8, .len true (.t 7), none⟩,
    ⟨some 9, .bin .sub (.t 5) (.t 8), none⟩,
    ⟨some 1, .mv (.t 9), none⟩]) (
  .seq (.seq (.reg false [⟨some 10, .mv (.t 1), none⟩,
    ⟨some 11, .bin .lss (.t 10) (.c (.v (.int .i64 0))), none⟩]) (
  .cond (.t 11) (.seq (.reg false [⟨some 4, .mv (.c (.v (.int .i64 (-1)))), none⟩]) (
    .ret)) (.skip))) (
  .seq (.reg false [⟨some 12, .mv (.t 1), none⟩,
    ⟨some 4, .mv (.t 12), none⟩]) (
  .ret)))))⟩

theorem a276q (T : Table) (k : Nat) (s1 : ByteArray) (n2 : Int) (n3 : Int) : evalF T k a276 [(.g [(.v (.string s1)), (.v (.int .i64 n2))]), (.d (.v (.int .i64 n3)))] = (
 bif (decide ((IntKind.wrap .i64 (n3 - (s1.size : Int))) < 0)) then (
 some ⟨(.d (.v (.int .i64 (-1)))), []⟩) else (
 some ⟨(.d (.v (.int .i64 (IntKind.wrap .i64 (n3 - (s1.size : Int)))))), []⟩)) := by kernel_rfl
/- loop.example/g00119/laws.szWeighS -/
def b174x0 : ACode := (
  .seq (.seq (.reg false [⟨some 12, .mv (.t 5), none⟩,
    ⟨some 13, .mv (.t 0), none⟩,
    ⟨some 14, .len false (.t 13), none⟩,
    ⟨some 15, .bin .lss (.t 12) (.t 14), none⟩]) (
  .cond (.t 15) (.skip) (.exit 0))) (
  .seq (.block 1 (.seq (.reg false [⟨some 18, .mv (.t 0), none⟩,
      ⟨some 19, .mv (.t 5), none⟩,
      ⟨some 20, .iad 2 (.t 18) (.t 19), none⟩,
      ⟨some 21, .load true [.s, (.i .i64)] (.t 20), none⟩,
      ⟨some 22, .mv (.t 1), none⟩,
      ⟨some 23, .call (.f 276) [.rd, .rd] false [.c (.i .i64)] [(.t 21), (.t 22)], none⟩,
      ⟨some 1, .mv (.t 23), none⟩]) (
    .seq (.reg false [⟨some 24, .mv (.t 1), none⟩,
      ⟨some 25, .bin .lss (.t 24) (.c (.v (.int .i64 0))), none⟩]) (
    .cond (.t 25) (.seq (.reg false [⟨some 4, .mv (.c (.v (.int .i64 (-1)))), none⟩]) (
      .ret)) (.skip))))) (
  .reg false [⟨some 16, .mv (.t 5), none⟩,
    ⟨some 17, .bin .add (.t 16) (.c (.v (.int .i64 1))), none⟩,
    ⟨some 5, .mv (.t 17), none⟩])))
def e174x0 : Exits := [(.ret, [(4, .c (.i .i64))]), ((.exit 0), [(1, .c (.i .i64))])]
noncomputable def l174x0 (T : Table) (k : Nat) := loopN (evalC ⟨T, []⟩ k b174x0 (Ex × List AV)) [0, 1, 5] e174x0
def a174 : AFun := ⟨[.rd, .rd], false, [.t 4], (
  .seq (.reg false [⟨some 4, .mv (.c (.v (.int .i64 0))), none⟩]) (
  .seq (.reg false [⟨some 6, .mv (.t 1), none⟩,
    ⟨some 7, .mv (.t 0), none⟩,
    ⟨some 8, .len false (.t 7), none⟩,
    ⟨some 9, .bin .sub (.t 6) (.t 8), none⟩,
    ⟨some 1, .mv (.t 9), none⟩]) (
  .seq (.seq (.reg false [⟨some 10, .mv (.t 1), none⟩,
    ⟨some 11, .bin .lss (.t 10) (.c (.v (.int .i64 0))), none⟩]) (
  .cond (.t 11) (.seq (.reg false [⟨some 4, .mv (.c (.v (.int .i64 (-1)))), none⟩]) (
    .ret)) (.skip))) (
  .seq (.seq (.reg false [⟨some 5, .mv (.c (.v (.int .i64 0))), none⟩]) (
  .block 0 (.loop [0, 1, 5] e174x0 b174x0))) (
  .seq (.reg false [⟨some 26, .mv (.t 1), none⟩,
    ⟨some 4, .mv (.t 26), none⟩]) (
  .ret))))))⟩
theorem l174x0s (T : Table) (k n : Nat) (l3 : Rows) (n4 : Int) (n5 : Int) : l174x0 T k (n + 1) [(.fz 2 l3), (.v (.int .i64 n4)), (.v (.int .i64 n5))] = (
 bif (decide (n5 < (l3.length : Int))) then (
 tst (decide (0 ≤ n5)) (
 look l3 (Int.toNat n5) fun r6 =>
 cS r6 0 fun s7 =>
 cI .i64 r6 1 fun n8 =>
 callT T 276 [(.g [(.v (.string s7)), (.v (.int .i64 n8))]), (.d (.v (.int .i64 n4)))] fun o9 =>
 oD o9.res fun d10 =>
 dI .i64 d10 fun n11 =>
 bif (decide (n11 < 0)) then (
 some (.ret, [(.v (.int .i64 (-1)))])) else (
 l174x0 T k n [(.fz 2 l3), (.v (.int .i64 n11)), (.v (.int .i64 (IntKind.wrap .i64 (n5 + 1))))]))) else (
 some ((.exit 0), [(.v (.int .i64 n4))]))) := by kernel_rfl
theorem a174q (T : Table) (k : Nat) (l1 : Rows) (n2 : Int) : evalF T k a174 [(.d (.s 2 l1)), (.d (.v (.int .i64 n2)))] = (
 bif (decide ((IntKind.wrap .i64 (n2 - (l1.length : Int))) < 0)) then (
 some ⟨(.d (.v (.int .i64 (-1)))), []⟩) else (
 aft (l174x0 T k k [(.fz 2 l1), (.v (.int .i64 (IntKind.wrap .i64 (n2 - (l1.length : Int))))), (.v (.int .i64 0))]) fun e12 ys13 =>
 bif e12.same .ret then (
 aV ys13 0 fun x14 =>
 aI .i64 x14 fun n15 =>
 some ⟨(.d (.v (.int .i64 n15))), []⟩) else (
 bif e12.same (.exit 0) then (
 aV ys13 0 fun x16 =>
 aI .i64 x16 fun n17 =>
 some ⟨(.d (.v (.int .i64 n17))), []⟩) else (
 none)))) := by kernel_rfl
/- loop.example/g00119/laws.szWant -/

def a67 : AFun := ⟨[.rd, .rd], false, [.t 4], (
  .seq (.reg false [⟨some 2, .box (.t 0), none⟩,
    ⟨some 4, .mv (.c (.v (.int .i64 0))), none⟩]) (
  .seq (.reg false [⟨some 5, .fad 1 (.t 2), none⟩,
    ⟨some 6, .load false [(.sl 3)] (.t 5), none⟩,
    ⟨some 7, .mv (.t 1), none⟩,
    ⟨some 8, .call (.f 173) [.rd, .rd] false [.c (.i .i64)] [(.t 6), (.t 7)], none⟩,
    ⟨some 1, .mv (.t 8), none⟩]) (
  .seq (.seq (.reg false [⟨some 9, .mv (.t 1), none⟩,
    ⟨some 10, .bin .lss (.t 9) (.c (.v (.int .i64 0))), none⟩]) (
  .cond (.t 10) (.seq (.reg false [⟨some 4, .mv (.c (.v (.int .i64 (-1)))), none⟩]) (
    .ret)) (.skip))) (
  .seq (.reg false [⟨some 11, .fad 2 (.t 2), none⟩,
    ⟨some 12, .load false [(.sl 1)] (.t 11), none⟩,
    ⟨some 13, .mv (.t 1), none⟩,
    ⟨some 14, .call (.f 50) [.rd, .rd] false [.c (.i .i64)] [(.t 12), (.t 13)], none⟩,
    ⟨some 1, .mv (.t 14), none⟩]) (
  .seq (.seq (.reg false [⟨some 15, .mv (.t 1), none⟩,
    ⟨some 16, .bin .lss (.t 15) (.c (.v (.int .i64 0))), none⟩]) (
  .cond (.t 16) (.seq (.reg false [⟨some 4, .mv (.c (.v (.int .i64 (-1)))), none⟩]) (
    .ret)) (.skip))) (
  .seq (.reg false [⟨some 17, .fad 3 (.t 2), none⟩,
    ⟨some 18, .load false [(.sl 2)] (.t 17), none⟩,
    ⟨some 19, .mv (.t 1), none⟩,
    ⟨some 20, .call (.f 174) [.rd, .rd] false [.c (.i .i64)] [(.t 18), (.t 19)], none⟩,
    ⟨some 1, .mv (.t 20), none⟩]) (
  .seq (.seq (.reg false [⟨some 21, .mv (.t 1), none⟩,
    ⟨some 22, .bin .lss (.t 21) (.c (.v (.int .i64 0))), none⟩]) (
  .cond (.t 22) (.seq (.reg false [⟨some 4, .mv (.c (.v (.int .i64 (-1)))), none⟩]) (
    .ret)) (.skip))) (
  .seq (.reg false [⟨some 23, .mv (.t 1), none⟩,
    ⟨some 4, .mv (.t 23), none⟩]) (
  .ret)))))))))⟩

theorem a67q (T : Table) (k : Nat) (n1 : Int) (l2 : Rows) (l3 : Rows) (l4 : Rows) (n5 : Int) : evalF T k a67 [(.g [(.v (.int .i64 n1)), (.s 3 l2), (.s 1 l3), (.s 2 l4)]), (.d (.v (.int .i64 n5)))] = (
 callT T 173 [(.d (.s 3 l2)), (.d (.v (.int .i64 n5)))] fun o6 =>
 oD o6.res fun d7 =>
 dI .i64 d7 fun n8 =>
 bif (decide (n8 < 0)) then (
 some ⟨(.d (.v (.int .i64 (-1)))), []⟩) else (
 callT T 50 [(.d (.s 1 l3)), (.d (.v (.int .i64 n8)))] fun o9 =>
 oD o9.res fun d10 =>
 dI .i64 d10 fun n11 =>
 bif (decide (n11 < 0)) then (
 some ⟨(.d (.v (.int .i64 (-1)))), []⟩) else (
 callT T 174 [(.d (.s 2 l4)), (.d (.v (.int .i64 n11)))] fun o12 =>
 oD o12.res fun d13 =>
 dI .i64 d13 fun n14 =>
 bif (decide (n14 < 0)) then (
 some ⟨(.d (.v (.int .i64 (-1)))), []⟩) else (
 some ⟨(.d (.v (.int .i64 n14))), []⟩)))) := by kernel_rfl
/- loop.example/g00119/laws.szValueS -/
def b175x0 : ACode := (
  .seq (.seq (.reg false [⟨some 12, .mv (.t 5), none⟩,
    ⟨some 13, .mv (.t 0), none⟩,
    ⟨some 14, .len false (.t 13), none⟩,
    ⟨some 15, .bin .lss (.t 12) (.t 14), none⟩]) (
  .cond (.t 15) (.skip) (.exit 0))) (
  .seq (.block 1 (.seq (.reg false [⟨some 18, .mv (.t 0), none⟩,
      ⟨some 19, .mv (.t 5), none⟩,
      ⟨some 20, .iad 5 (.t 18) (.t 19), none⟩,
      ⟨some 21, .load true [(.i .i64), .s, (.i .i64), (.sl 1), (.sl 5)] (.t 20), none⟩,
      ⟨some 22, .mv (.t 1), none⟩,
      ⟨some 23, .call (.f 68) [.rd, .rd] false [.c (.i .i64)] [(.t 21), (.t 22)], none⟩,
      ⟨some 1, .mv (.t 23), none⟩]) (
    .seq (.reg false [⟨some 24, .mv (.t 1), none⟩,
      ⟨some 25, .bin .lss (.t 24) (.c (.v (.int .i64 0))), none⟩]) (
    .cond (.t 25) (.seq (.reg false [⟨some 4, .mv (.c (.v (.int .i64 (-1)))), none⟩]) (
      .ret)) (.skip))))) (
  .reg false [⟨some 16, .mv (.t 5), none⟩,
    ⟨some 17, .bin .add (.t 16) (.c (.v (.int .i64 1))), none⟩,
    ⟨some 5, .mv (.t 17), none⟩])))
def e175x0 : Exits := [(.ret, [(4, .c (.i .i64))]), ((.exit 0), [(1, .c (.i .i64))])]
noncomputable def l175x0 (T : Table) (k : Nat) := loopN (evalC ⟨T, []⟩ k b175x0 (Ex × List AV)) [0, 1, 5] e175x0
def a175 : AFun := ⟨[.rd, .rd], false, [.t 4], (
  .seq (.reg false [⟨some 4, .mv (.c (.v (.int .i64 0))), none⟩]) (
  .seq (.reg false [⟨some 6, .mv (.t 1), none⟩,
    ⟨some 7, .mv (.t 0), none⟩,
    ⟨some 8, .len false (.t 7), none⟩,
    ⟨some 9, .bin .sub (.t 6) (.t 8), none⟩,
    ⟨some 1, .mv (.t 9), none⟩]) (
  .seq (.seq (.reg false [⟨some 10, .mv (.t 1), none⟩,
    ⟨some 11, .bin .lss (.t 10) (.c (.v (.int .i64 0))), none⟩]) (
  .cond (.t 11) (.seq (.reg false [⟨some 4, .mv (.c (.v (.int .i64 (-1)))), none⟩]) (
    .ret)) (.skip))) (
  .seq (.seq (.reg false [⟨some 5, .mv (.c (.v (.int .i64 0))), none⟩]) (
  .block 0 (.loop [0, 1, 5] e175x0 b175x0))) (
  .seq (.reg false [⟨some 26, .mv (.t 1), none⟩,
    ⟨some 4, .mv (.t 26), none⟩]) (
  .ret))))))⟩
theorem l175x0s (T : Table) (k n : Nat) (l3 : Rows) (n4 : Int) (n5 : Int) : l175x0 T k (n + 1) [(.fz 5 l3), (.v (.int .i64 n4)), (.v (.int .i64 n5))] = (
 bif (decide (n5 < (l3.length : Int))) then (
 tst (decide (0 ≤ n5)) (
 look l3 (Int.toNat n5) fun r6 =>
 cI .i64 r6 0 fun n7 =>
 cS r6 1 fun s8 =>
 cI .i64 r6 2 fun n9 =>
 cL 1 r6 3 fun l10 =>
 cL 5 r6 4 fun l11 =>
 callT T 68 [(.g [(.v (.int .i64 n7)), (.v (.string s8)), (.v (.int .i64 n9)), (.s 1 l10), (.s 5 l11)]), (.d (.v (.int .i64 n4)))] fun o12 =>
 oD o12.res fun d13 =>
 dI .i64 d13 fun n14 =>
 bif (decide (n14 < 0)) then (
 some (.ret, [(.v (.int .i64 (-1)))])) else (
 l175x0 T k n [(.fz 5 l3), (.v (.int .i64 n14)), (.v (.int .i64 (IntKind.wrap .i64 (n5 + 1))))]))) else (
 some ((.exit 0), [(.v (.int .i64 n4))]))) := by kernel_rfl
theorem a175q (T : Table) (k : Nat) (l1 : Rows) (n2 : Int) : evalF T k a175 [(.d (.s 5 l1)), (.d (.v (.int .i64 n2)))] = (
 bif (decide ((IntKind.wrap .i64 (n2 - (l1.length : Int))) < 0)) then (
 some ⟨(.d (.v (.int .i64 (-1)))), []⟩) else (
 aft (l175x0 T k k [(.fz 5 l1), (.v (.int .i64 (IntKind.wrap .i64 (n2 - (l1.length : Int))))), (.v (.int .i64 0))]) fun e15 ys16 =>
 bif e15.same .ret then (
 aV ys16 0 fun x17 =>
 aI .i64 x17 fun n18 =>
 some ⟨(.d (.v (.int .i64 n18))), []⟩) else (
 bif e15.same (.exit 0) then (
 aV ys16 0 fun x19 =>
 aI .i64 x19 fun n20 =>
 some ⟨(.d (.v (.int .i64 n20))), []⟩) else (
 none)))) := by kernel_rfl
/- loop.example/g00119/laws.szValue -/

def a68 : AFun := ⟨[.rd, .rd], false, [.t 4], (
  .seq (.reg false [⟨some 2, .box (.t 0), none⟩,
    ⟨some 4, .mv (.c (.v (.int .i64 0))), none⟩]) (
  .seq (.reg false [⟨some 5, .mv (.t 1), none⟩,
    ⟨some 6, .fad 1 (.t 2), none⟩,
    ⟨some 7, .load false [.s] (.t 6), none⟩,
    ⟨some 8, .len true (.t 7), none⟩,
    ⟨some 9, .bin .sub (.t 5) (.t 8), none⟩,
    ⟨some 1, .mv (.t 9), none⟩]) (
  .seq (.seq (.reg false [⟨some 10, .mv (.t 1), none⟩,
    ⟨some 11, .bin .lss (.t 10) (.c (.v (.int .i64 0))), none⟩]) (
  .cond (.t 11) (.seq (.reg false [⟨some 4, .mv (.c (.v (.int .i64 (-1)))), none⟩]) (
    .ret)) (.skip))) (
  .seq (.reg false [⟨some 12, .fad 3 (.t 2), none⟩,
    ⟨some 13, .load false [(.sl 1)] (.t 12), none⟩,
    ⟨some 14, .mv (.t 1), none⟩,
    ⟨some 15, .call (.f 50) [.rd, .rd] false [.c (.i .i64)] [(.t 13), (.t 14)], none⟩,
    ⟨some 1, .mv (.t 15), none⟩]) (
  .seq (.seq (.reg false [⟨some 16, .mv (.t 1), none⟩,
    ⟨some 17, .bin .lss (.t 16) (.c (.v (.int .i64 0))), none⟩]) (
  .cond (.t 17) (.seq (.reg false [⟨some 4, .mv (.c (.v (.int .i64 (-1)))), none⟩]) (
    .ret)) (.skip))) (
  .seq (.reg false [⟨some 18, .fad 4 (.t 2), none⟩,
    ⟨some 19, .load false [(.sl 5)] (.t 18), none⟩,
    ⟨some 20, .mv (.t 1), none⟩,
    ⟨some 21, .call (.f 175) [.rd, .rd] false [.c (.i .i64)] [(.t 19), (.t 20)], none⟩,
    ⟨some 1, .mv (.t 21), none⟩]) (
  .seq (.seq (.reg false [⟨some 22, .mv (.t 1), none⟩,
    ⟨some 23, .bin .lss (.t 22) (.c (.v (.int .i64 0))), none⟩]) (
  .cond (.t 23) (.seq (.reg false [⟨some 4, .mv (.c (.v (.int .i64 (-1)))), none⟩]) (
    .ret)) (.skip))) (
  .seq (.reg false [⟨some 24, .mv (.t 1), none⟩,
    ⟨some 4, .mv (.t 24), none⟩]) (
  .ret)))))))))⟩

theorem a68q (T : Table) (k : Nat) (n1 : Int) (s2 : ByteArray) (n3 : Int) (l4 : Rows) (l5 : Rows) (n6 : Int) : evalF T k a68 [(.g [(.v (.int .i64 n1)), (.v (.string s2)), (.v (.int .i64 n3)), (.s 1 l4), (.s 5 l5)]), (.d (.v (.int .i64 n6)))] = (
 bif (decide ((IntKind.wrap .i64 (n6 - (s2.size : Int))) < 0)) then (
 some ⟨(.d (.v (.int .i64 (-1)))), []⟩) else (
 callT T 50 [(.d (.s 1 l4)), (.d (.v (.int .i64 (IntKind.wrap .i64 (n6 - (s2.size : Int))))))] fun o7 =>
 oD o7.res fun d8 =>
 dI .i64 d8 fun n9 =>
 bif (decide (n9 < 0)) then (
 some ⟨(.d (.v (.int .i64 (-1)))), []⟩) else (
 callT T 175 [(.d (.s 5 l5)), (.d (.v (.int .i64 n9)))] fun o10 =>
 oD o10.res fun d11 =>
 dI .i64 d11 fun n12 =>
 bif (decide (n12 < 0)) then (
 some ⟨(.d (.v (.int .i64 (-1)))), []⟩) else (
 some ⟨(.d (.v (.int .i64 n12))), []⟩)))) := by kernel_rfl
/- loop.example/g00119/laws.szOp -/

def a344 : AFun := ⟨[.rd, .rd], false, [.t 4], (
  .seq (.reg false [⟨some 2, .box (.t 0), none⟩,
    ⟨some 4, .mv (.c (.v (.int .i64 0))), none⟩]) (
  .seq (.reg false [⟨some 5, .fad 1 (.t 2), none⟩,
    ⟨some 6, .load false [(.sl 1)] (.t 5), none⟩,
    ⟨some 7, .mv (.t 1), none⟩,
    ⟨some 8, .call (.f 50) [.rd, .rd] false [.c (.i .i64)] [(.t 6), (.t 7)], none⟩,
    ⟨some 1, .mv (.t 8), none⟩]) (
  .seq (.seq (.reg false [⟨some 9, .mv (.t 1), none⟩,
    ⟨some 10, .bin .lss (.t 9) (.c (.v (.int .i64 0))), none⟩]) (
  .cond (.t 10) (.seq (.reg false [⟨some 4, .mv (.c (.v (.int .i64 (-1)))), none⟩]) (
    .ret)) (.skip))) (
  .seq (.reg false [⟨some 11, .fad 2 (.t 2), none⟩,
    ⟨some 12, .load true [(.i .i64), .s, (.i .i64), (.sl 1), (.sl 5)] (.t 11), none⟩,
    ⟨some 13, .mv (.t 1), none⟩,
    ⟨some 14, .call (.f 68) [.rd, .rd] false [.c (.i .i64)] [(.t 12), (.t 13)], none⟩,
    ⟨some 1, .mv (.t 14), none⟩]) (
  .seq (.seq (.reg false [⟨some 15, .mv (.t 1), none⟩,
    ⟨some 16, .bin .lss (.t 15) (.c (.v (.int .i64 0))), none⟩]) (
  .cond (.t 16) (.seq (.reg false [⟨some 4, .mv (.c (.v (.int .i64 (-1)))), none⟩]) (
    .ret)) (.skip))) (
  .seq (.reg false [⟨some 17, .mv (.t 1), none⟩,
    ⟨some 4, .mv (.t 17), none⟩]) (
  .ret)))))))⟩

theorem a344q (T : Table) (k : Nat) (n1 : Int) (l2 : Rows) (n3 : Int) (s4 : ByteArray) (n5 : Int) (l6 : Rows) (l7 : Rows) (n8 : Int) : evalF T k a344 [(.g [(.v (.int .i64 n1)), (.s 1 l2), (.v (.int .i64 n3)), (.v (.string s4)), (.v (.int .i64 n5)), (.s 1 l6), (.s 5 l7)]), (.d (.v (.int .i64 n8)))] = (
 callT T 50 [(.d (.s 1 l2)), (.d (.v (.int .i64 n8)))] fun o9 =>
 oD o9.res fun d10 =>
 dI .i64 d10 fun n11 =>
 bif (decide (n11 < 0)) then (
 some ⟨(.d (.v (.int .i64 (-1)))), []⟩) else (
 callT T 68 [(.g [(.v (.int .i64 n3)), (.v (.string s4)), (.v (.int .i64 n5)), (.s 1 l6), (.s 5 l7)]), (.d (.v (.int .i64 n11)))] fun o12 =>
 oD o12.res fun d13 =>
 dI .i64 d13 fun n14 =>
 bif (decide (n14 < 0)) then (
 some ⟨(.d (.v (.int .i64 (-1)))), []⟩) else (
 some ⟨(.d (.v (.int .i64 n14))), []⟩))) := by kernel_rfl
/- loop.example/g00119/laws.szOpS -/
def b277x0 : ACode := (
  .seq (.seq (.reg false [⟨some 12, .mv (.t 5), none⟩,
    ⟨some 13, .mv (.t 0), none⟩,
    ⟨some 14, .len false (.t 13), none⟩,
    ⟨some 15, .bin .lss (.t 12) (.t 14), none⟩]) (
  .cond (.t 15) (.skip) (.exit 0))) (
  .seq (.block 1 (.seq (.reg false [⟨some 18, .mv (.t 0), none⟩,
      ⟨some 19, .mv (.t 5), none⟩,
      ⟨some 20, .iad 7 (.t 18) (.t 19), none⟩,
      ⟨some 21, .load true [(.i .i64), (.sl 1), (.i .i64), .s, (.i .i64), (.sl 1), (.sl 5)] (.t 20), none⟩,
      ⟨some 22, .mv (.t 1), none⟩,
      ⟨some 23, .call (.f 344) [.rd, .rd] false [.c (.i .i64)] [(.t 21), (.t 22)], none⟩,
      ⟨some 1, .mv (.t 23), none⟩]) (
    .seq (.reg false [⟨some 24, .mv (.t 1), none⟩,
      ⟨some 25, .bin .lss (.t 24) (.c (.v (.int .i64 0))), none⟩]) (
    .cond (.t 25) (.seq (.reg false [⟨some 4, .mv (.c (.v (.int .i64 (-1)))), none⟩]) (
      .ret)) (.skip))))) (
  .reg false [⟨some 16, .mv (.t 5), none⟩,
    ⟨some 17, .bin .add (.t 16) (.c (.v (.int .i64 1))), none⟩,
    ⟨some 5, .mv (.t 17), none⟩])))
def e277x0 : Exits := [(.ret, [(4, .c (.i .i64))]), ((.exit 0), [(1, .c (.i .i64))])]
noncomputable def l277x0 (T : Table) (k : Nat) := loopN (evalC ⟨T, []⟩ k b277x0 (Ex × List AV)) [0, 1, 5] e277x0
def a277 : AFun := ⟨[.rd, .rd], false, [.t 4], (
  .seq (.reg false [⟨some 4, .mv (.c (.v (.int .i64 0))), none⟩]) (
  .seq (.reg false [⟨some 6, .mv (.t 1), none⟩,
    ⟨some 7, .mv (.t 0), none⟩,
    ⟨some 8, .len false (.t 7), none⟩,
    ⟨some 9, .bin .sub (.t 6) (.t 8), none⟩,
    ⟨some 1, .mv (.t 9), none⟩]) (
  .seq (.seq (.reg false [⟨some 10, .mv (.t 1), none⟩,
    ⟨some 11, .bin .lss (.t 10) (.c (.v (.int .i64 0))), none⟩]) (
  .cond (.t 11) (.seq (.reg false [⟨some 4, .mv (.c (.v (.int .i64 (-1)))), none⟩]) (
    .ret)) (.skip))) (
  .seq (.seq (.reg false [⟨some 5, .mv (.c (.v (.int .i64 0))), none⟩]) (
  .block 0 (.loop [0, 1, 5] e277x0 b277x0))) (
  .seq (.reg false [⟨some 26, .mv (.t 1), none⟩,
    ⟨some 4, .mv (.t 26), none⟩]) (
  .ret))))))⟩
theorem l277x0s (T : Table) (k n : Nat) (l3 : Rows) (n4 : Int) (n5 : Int) : l277x0 T k (n + 1) [(.fz 7 l3), (.v (.int .i64 n4)), (.v (.int .i64 n5))] = (
 bif (decide (n5 < (l3.length : Int))) then (
 tst (decide (0 ≤ n5)) (
 look l3 (Int.toNat n5) fun r6 =>
 cI .i64 r6 0 fun n7 =>
 cL 1 r6 1 fun l8 =>
 cI .i64 r6 2 fun n9 =>
 cS r6 3 fun s10 =>
 cI .i64 r6 4 fun n11 =>
 cL 1 r6 5 fun l12 =>
 cL 5 r6 6 fun l13 =>
 callT T 344 [(.g [(.v (.int .i64 n7)), (.s 1 l8), (.v (.int .i64 n9)), (.v (.string s10)), (.v (.int .i64 n11)), (.s 1 l12), (.s 5 l13)]), (.d (.v (.int .i64 n4)))] fun o14 =>
 oD o14.res fun d15 =>
 dI .i64 d15 fun n16 =>
 bif (decide (n16 < 0)) then (
 some (.ret, [(.v (.int .i64 (-1)))])) else (
 l277x0 T k n [(.fz 7 l3), (.v (.int .i64 n16)), (.v (.int .i64 (IntKind.wrap .i64 (n5 + 1))))]))) else (
 some ((.exit 0), [(.v (.int .i64 n4))]))) := by kernel_rfl
theorem a277q (T : Table) (k : Nat) (l1 : Rows) (n2 : Int) : evalF T k a277 [(.d (.s 7 l1)), (.d (.v (.int .i64 n2)))] = (
 bif (decide ((IntKind.wrap .i64 (n2 - (l1.length : Int))) < 0)) then (
 some ⟨(.d (.v (.int .i64 (-1)))), []⟩) else (
 aft (l277x0 T k k [(.fz 7 l1), (.v (.int .i64 (IntKind.wrap .i64 (n2 - (l1.length : Int))))), (.v (.int .i64 0))]) fun e17 ys18 =>
 bif e17.same .ret then (
 aV ys18 0 fun x19 =>
 aI .i64 x19 fun n20 =>
 some ⟨(.d (.v (.int .i64 n20))), []⟩) else (
 bif e17.same (.exit 0) then (
 aV ys18 0 fun x21 =>
 aI .i64 x21 fun n22 =>
 some ⟨(.d (.v (.int .i64 n22))), []⟩) else (
 none)))) := by kernel_rfl
/- loop.example/g00119/laws.szOver -/

def a176 : AFun := ⟨[.rd, .rd], false, [.t 4], (
  .seq (.reg false [⟨some 2, .box (.t 0), none⟩,
    ⟨some 4, .mv (.c (.v (.int .i64 0))), none⟩]) (
  .seq (.reg false [⟨some 5, .mv (.t 1), none⟩,
    ⟨some 6, .fad 0 (.t 2), none⟩,
    ⟨some 7, .load false [.s] (.t 6), none⟩,
    ⟨some 8, .len true (.t 7), none⟩,
    ⟨some 9, .bin .sub (.t 5) (.t 8), none⟩,
    ⟨some 1, .mv (.t 9), none⟩]) (
  .seq (.seq (.reg false [⟨some 10, .mv (.t 1), none⟩,
    ⟨some 11, .bin .lss (.t 10) (.c (.v (.int .i64 0))), none⟩]) (
  .cond (.t 11) (.seq (.reg false [⟨some 4, .mv (.c (.v (.int .i64 (-1)))), none⟩]) (
    .ret)) (.skip))) (
  .seq (.reg false [⟨some 12, .fad 1 (.t 2), none⟩,
    ⟨some 13, .load false [(.sl 7)] (.t 12), none⟩,
    ⟨some 14, .mv (.t 1), none⟩,
    ⟨some 15, .call (.f 277) [.rd, .rd] false [.c (.i .i64)] [(.t 13), (.t 14)], none⟩,
    ⟨some 1, .mv (.t 15), none⟩]) (
  .seq (.seq (.reg false [⟨some 16, .mv (.t 1), none⟩,
    ⟨some 17, .bin .lss (.t 16) (.c (.v (.int .i64 0))), none⟩]) (
  .cond (.t 17) (.seq (.reg false [⟨some 4, .mv (.c (.v (.int .i64 (-1)))), none⟩]) (
    .ret)) (.skip))) (
  .seq (.reg false [⟨some 18, .mv (.t 1), none⟩,
    ⟨some 4, .mv (.t 18), none⟩]) (
  .ret)))))))⟩

theorem a176q (T : Table) (k : Nat) (s1 : ByteArray) (l2 : Rows) (n3 : Int) : evalF T k a176 [(.g [(.v (.string s1)), (.s 7 l2)]), (.d (.v (.int .i64 n3)))] = (
 bif (decide ((IntKind.wrap .i64 (n3 - (s1.size : Int))) < 0)) then (
 some ⟨(.d (.v (.int .i64 (-1)))), []⟩) else (
 callT T 277 [(.d (.s 7 l2)), (.d (.v (.int .i64 (IntKind.wrap .i64 (n3 - (s1.size : Int))))))] fun o4 =>
 oD o4.res fun d5 =>
 dI .i64 d5 fun n6 =>
 bif (decide (n6 < 0)) then (
 some ⟨(.d (.v (.int .i64 (-1)))), []⟩) else (
 some ⟨(.d (.v (.int .i64 n6))), []⟩))) := by kernel_rfl
/- loop.example/g00119/laws.szOverS -/
def b69x0 : ACode := (
  .seq (.seq (.reg false [⟨some 12, .mv (.t 5), none⟩,
    ⟨some 13, .mv (.t 0), none⟩,
    ⟨some 14, .len false (.t 13), none⟩,
    ⟨some 15, .bin .lss (.t 12) (.t 14), none⟩]) (
  .cond (.t 15) (.skip) (.exit 0))) (
  .seq (.block 1 (.seq (.reg false [⟨some 18, .mv (.t 0), none⟩,
      ⟨some 19, .mv (.t 5), none⟩,
      ⟨some 20, .iad 2 (.t 18) (.t 19), none⟩,
      ⟨some 21, .load true [.s, (.sl 7)] (.t 20), none⟩,
      ⟨some 22, .mv (.t 1), none⟩,
      ⟨some 23, .call (.f 176) [.rd, .rd] false [.c (.i .i64)] [(.t 21), (.t 22)], none⟩,
      ⟨some 1, .mv (.t 23), none⟩]) (
    .seq (.reg false [⟨some 24, .mv (.t 1), none⟩,
      ⟨some 25, .bin .lss (.t 24) (.c (.v (.int .i64 0))), none⟩]) (
    .cond (.t 25) (.seq (.reg false [⟨some 4, .mv (.c (.v (.int .i64 (-1)))), none⟩]) (
      .ret)) (.skip))))) (
  .reg false [⟨some 16, .mv (.t 5), none⟩,
    ⟨some 17, .bin .add (.t 16) (.c (.v (.int .i64 1))), none⟩,
    ⟨some 5, .mv (.t 17), none⟩])))
def e69x0 : Exits := [(.ret, [(4, .c (.i .i64))]), ((.exit 0), [(1, .c (.i .i64))])]
noncomputable def l69x0 (T : Table) (k : Nat) := loopN (evalC ⟨T, []⟩ k b69x0 (Ex × List AV)) [0, 1, 5] e69x0
def a69 : AFun := ⟨[.rd, .rd], false, [.t 4], (
  .seq (.reg false [⟨some 4, .mv (.c (.v (.int .i64 0))), none⟩]) (
  .seq (.reg false [⟨some 6, .mv (.t 1), none⟩,
    ⟨some 7, .mv (.t 0), none⟩,
    ⟨some 8, .len false (.t 7), none⟩,
    ⟨some 9, .bin .sub (.t 6) (.t 8), none⟩,
    ⟨some 1, .mv (.t 9), none⟩]) (
  .seq (.seq (.reg false [⟨some 10, .mv (.t 1), none⟩,
    ⟨some 11, .bin .lss (.t 10) (.c (.v (.int .i64 0))), none⟩]) (
  .cond (.t 11) (.seq (.reg false [⟨some 4, .mv (.c (.v (.int .i64 (-1)))), none⟩]) (
    .ret)) (.skip))) (
  .seq (.seq (.reg false [⟨some 5, .mv (.c (.v (.int .i64 0))), none⟩]) (
  .block 0 (.loop [0, 1, 5] e69x0 b69x0))) (
  .seq (.reg false [⟨some 26, .mv (.t 1), none⟩,
    ⟨some 4, .mv (.t 26), none⟩]) (
  .ret))))))⟩
theorem l69x0s (T : Table) (k n : Nat) (l3 : Rows) (n4 : Int) (n5 : Int) : l69x0 T k (n + 1) [(.fz 2 l3), (.v (.int .i64 n4)), (.v (.int .i64 n5))] = (
 bif (decide (n5 < (l3.length : Int))) then (
 tst (decide (0 ≤ n5)) (
 look l3 (Int.toNat n5) fun r6 =>
 cS r6 0 fun s7 =>
 cL 7 r6 1 fun l8 =>
 callT T 176 [(.g [(.v (.string s7)), (.s 7 l8)]), (.d (.v (.int .i64 n4)))] fun o9 =>
 oD o9.res fun d10 =>
 dI .i64 d10 fun n11 =>
 bif (decide (n11 < 0)) then (
 some (.ret, [(.v (.int .i64 (-1)))])) else (
 l69x0 T k n [(.fz 2 l3), (.v (.int .i64 n11)), (.v (.int .i64 (IntKind.wrap .i64 (n5 + 1))))]))) else (
 some ((.exit 0), [(.v (.int .i64 n4))]))) := by kernel_rfl
theorem a69q (T : Table) (k : Nat) (l1 : Rows) (n2 : Int) : evalF T k a69 [(.d (.s 2 l1)), (.d (.v (.int .i64 n2)))] = (
 bif (decide ((IntKind.wrap .i64 (n2 - (l1.length : Int))) < 0)) then (
 some ⟨(.d (.v (.int .i64 (-1)))), []⟩) else (
 aft (l69x0 T k k [(.fz 2 l1), (.v (.int .i64 (IntKind.wrap .i64 (n2 - (l1.length : Int))))), (.v (.int .i64 0))]) fun e12 ys13 =>
 bif e12.same .ret then (
 aV ys13 0 fun x14 =>
 aI .i64 x14 fun n15 =>
 some ⟨(.d (.v (.int .i64 n15))), []⟩) else (
 bif e12.same (.exit 0) then (
 aV ys13 0 fun x16 =>
 aI .i64 x16 fun n17 =>
 some ⟨(.d (.v (.int .i64 n17))), []⟩) else (
 none)))) := by kernel_rfl
/- loop.example/g00119/laws.szJob -/

def a156 : AFun := ⟨[.rd, .rd], false, [.t 4], (
  .seq (.reg false [⟨some 2, .box (.t 0), none⟩,
    ⟨some 4, .mv (.c (.v (.int .i64 0))), none⟩]) (
  .seq (.reg false [⟨some 5, .mv (.t 1), none⟩,
    ⟨some 6, .fad 1 (.t 2), none⟩,
    ⟨some 7, .load false [.s] (.t 6), none⟩,
    ⟨some 8, .len true (.t 7), none⟩,
    ⟨some 9, .bin .sub (.t 5) (.t 8), none⟩,
    ⟨some 1, .mv (.t 9), none⟩]) (
  .seq (.seq (.reg false [⟨some 10, .mv (.t 1), none⟩,
    ⟨some 11, .bin .lss (.t 10) (.c (.v (.int .i64 0))), none⟩]) (
  .cond (.t 11) (.seq (.reg false [⟨some 4, .mv (.c (.v (.int .i64 (-1)))), none⟩]) (
    .ret)) (.skip))) (
  .seq (.reg false [⟨some 12, .fad 2 (.t 2), none⟩,
    ⟨some 13, .load true [(.i .i64), (.sl 3), (.sl 1), (.sl 2)] (.t 12), none⟩,
    ⟨some 14, .mv (.t 1), none⟩,
    ⟨some 15, .call (.f 67) [.rd, .rd] false [.c (.i .i64)] [(.t 13), (.t 14)], none⟩,
    ⟨some 1, .mv (.t 15), none⟩]) (
  .seq (.seq (.reg false [⟨some 16, .mv (.t 1), none⟩,
    ⟨some 17, .bin .lss (.t 16) (.c (.v (.int .i64 0))), none⟩]) (
  .cond (.t 17) (.seq (.reg false [⟨some 4, .mv (.c (.v (.int .i64 (-1)))), none⟩]) (
    .ret)) (.skip))) (
  .seq (.reg false [⟨some 18, .fad 6 (.t 2), none⟩,
    ⟨some 19, .load true [(.i .i64), .s, (.i .i64), (.sl 1), (.sl 5)] (.t 18), none⟩,
    ⟨some 20, .mv (.t 1), none⟩,
    ⟨some 21, .call (.f 68) [.rd, .rd] false [.c (.i .i64)] [(.t 19), (.t 20)], none⟩,
    ⟨some 1, .mv (.t 21), none⟩]) (
  .seq (.seq (.reg false [⟨some 22, .mv (.t 1), none⟩,
    ⟨some 23, .bin .lss (.t 22) (.c (.v (.int .i64 0))), none⟩]) (
  .cond (.t 23) (.seq (.reg false [⟨some 4, .mv (.c (.v (.int .i64 (-1)))), none⟩]) (
    .ret)) (.skip))) (
  .seq (.reg false [⟨some 24, .fad 11 (.t 2), none⟩,
    ⟨some 25, .load false [(.sl 2)] (.t 24), none⟩,
    ⟨some 26, .mv (.t 1), none⟩,
    ⟨some 27, .call (.f 69) [.rd, .rd] false [.c (.i .i64)] [(.t 25), (.t 26)], none⟩,
    ⟨some 1, .mv (.t 27), none⟩]) (
  .seq (.seq (.reg false [⟨some 28, .mv (.t 1), none⟩,
    ⟨some 29, .bin .lss (.t 28) (.c (.v (.int .i64 0))), none⟩]) (
  .cond (.t 29) (.seq (.reg false [⟨some 4, .mv (.c (.v (.int .i64 (-1)))), none⟩]) (
    .ret)) (.skip))) (
  .seq (.reg false [⟨some 30, .mv (.t 1), none⟩,
    ⟨some 4, .mv (.t 30), none⟩]) (
  .ret)))))))))))⟩

theorem a156q (T : Table) (k : Nat) (n1 : Int) (s2 : ByteArray) (n3 : Int) (l4 : Rows) (l5 : Rows) (l6 : Rows) (n7 : Int) (s8 : ByteArray) (n9 : Int) (l10 : Rows) (l11 : Rows) (l12 : Rows) (b13 : Bool) (n14 : Int) : evalF T k a156 [(.g [(.v (.int .i64 n1)), (.v (.string s2)), (.v (.int .i64 n3)), (.s 3 l4), (.s 1 l5), (.s 2 l6), (.v (.int .i64 n7)), (.v (.string s8)), (.v (.int .i64 n9)), (.s 1 l10), (.s 5 l11), (.s 2 l12), (.v (.bool b13))]), (.d (.v (.int .i64 n14)))] = (
 bif (decide ((IntKind.wrap .i64 (n14 - (s2.size : Int))) < 0)) then (
 some ⟨(.d (.v (.int .i64 (-1)))), []⟩) else (
 callT T 67 [(.g [(.v (.int .i64 n3)), (.s 3 l4), (.s 1 l5), (.s 2 l6)]), (.d (.v (.int .i64 (IntKind.wrap .i64 (n14 - (s2.size : Int))))))] fun o15 =>
 oD o15.res fun d16 =>
 dI .i64 d16 fun n17 =>
 bif (decide (n17 < 0)) then (
 some ⟨(.d (.v (.int .i64 (-1)))), []⟩) else (
 callT T 68 [(.g [(.v (.int .i64 n7)), (.v (.string s8)), (.v (.int .i64 n9)), (.s 1 l10), (.s 5 l11)]), (.d (.v (.int .i64 n17)))] fun o18 =>
 oD o18.res fun d19 =>
 dI .i64 d19 fun n20 =>
 bif (decide (n20 < 0)) then (
 some ⟨(.d (.v (.int .i64 (-1)))), []⟩) else (
 callT T 69 [(.d (.s 2 l12)), (.d (.v (.int .i64 n20)))] fun o21 =>
 oD o21.res fun d22 =>
 dI .i64 d22 fun n23 =>
 bif (decide (n23 < 0)) then (
 some ⟨(.d (.v (.int .i64 (-1)))), []⟩) else (
 some ⟨(.d (.v (.int .i64 n23))), []⟩))))) := by kernel_rfl
/- loop.example/g00119/laws.szJobS -/
def b47x0 : ACode := (
  .seq (.seq (.reg false [⟨some 12, .mv (.t 5), none⟩,
    ⟨some 13, .mv (.t 0), none⟩,
    ⟨some 14, .len false (.t 13), none⟩,
    ⟨some 15, .bin .lss (.t 12) (.t 14), none⟩]) (
  .cond (.t 15) (.skip) (.exit 0))) (
  .seq (.block 1 (.seq (.reg false [⟨some 18, .mv (.t 0), none⟩,
      ⟨some 19, .mv (.t 5), none⟩,
      ⟨some 20, .iad 13 (.t 18) (.t 19), none⟩,
      ⟨some 21, .load true [(.i .i64), .s, (.i .i64), (.sl 3), (.sl 1), (.sl 2), (.i .i64), .s, (.i .i64), (.sl 1), (.sl 5), (.sl 2), .b] (.t 20), none⟩,
      ⟨some 22, .mv (.t 1), none⟩,
      ⟨some 23, .call (.f 156) [.rd, .rd] false [.c (.i .i64)] [(.t 21), (.t 22)], none⟩,
      ⟨some 1, .mv (.t 23), none⟩]) (
    .seq (.reg false [⟨some 24, .mv (.t 1), none⟩,
      ⟨some 25, .bin .lss (.t 24) (.c (.v (.int .i64 0))), none⟩]) (
    .cond (.t 25) (.seq (.reg false [⟨some 4, .mv (.c (.v (.int .i64 (-1)))), none⟩]) (
      .ret)) (.skip))))) (
  .reg false [⟨some 16, .mv (.t 5), none⟩,
    ⟨some 17, .bin .add (.t 16) (.c (.v (.int .i64 1))), none⟩,
    ⟨some 5, .mv (.t 17), none⟩])))
def e47x0 : Exits := [(.ret, [(4, .c (.i .i64))]), ((.exit 0), [(1, .c (.i .i64))])]
noncomputable def l47x0 (T : Table) (k : Nat) := loopN (evalC ⟨T, []⟩ k b47x0 (Ex × List AV)) [0, 1, 5] e47x0
def a47 : AFun := ⟨[.rd, .rd], false, [.t 4], (
  .seq (.reg false [⟨some 4, .mv (.c (.v (.int .i64 0))), none⟩]) (
  .seq (.reg false [⟨some 6, .mv (.t 1), none⟩,
    ⟨some 7, .mv (.t 0), none⟩,
    ⟨some 8, .len false (.t 7), none⟩,
    ⟨some 9, .bin .sub (.t 6) (.t 8), none⟩,
    ⟨some 1, .mv (.t 9), none⟩]) (
  .seq (.seq (.reg false [⟨some 10, .mv (.t 1), none⟩,
    ⟨some 11, .bin .lss (.t 10) (.c (.v (.int .i64 0))), none⟩]) (
  .cond (.t 11) (.seq (.reg false [⟨some 4, .mv (.c (.v (.int .i64 (-1)))), none⟩]) (
    .ret)) (.skip))) (
  .seq (.seq (.reg false [⟨some 5, .mv (.c (.v (.int .i64 0))), none⟩]) (
  .block 0 (.loop [0, 1, 5] e47x0 b47x0))) (
  .seq (.reg false [⟨some 26, .mv (.t 1), none⟩,
    ⟨some 4, .mv (.t 26), none⟩]) (
  .ret))))))⟩
theorem l47x0s (T : Table) (k n : Nat) (l3 : Rows) (n4 : Int) (n5 : Int) : l47x0 T k (n + 1) [(.fz 13 l3), (.v (.int .i64 n4)), (.v (.int .i64 n5))] = (
 bif (decide (n5 < (l3.length : Int))) then (
 tst (decide (0 ≤ n5)) (
 look l3 (Int.toNat n5) fun r6 =>
 cI .i64 r6 0 fun n7 =>
 cS r6 1 fun s8 =>
 cI .i64 r6 2 fun n9 =>
 cL 3 r6 3 fun l10 =>
 cL 1 r6 4 fun l11 =>
 cL 2 r6 5 fun l12 =>
 cI .i64 r6 6 fun n13 =>
 cS r6 7 fun s14 =>
 cI .i64 r6 8 fun n15 =>
 cL 1 r6 9 fun l16 =>
 cL 5 r6 10 fun l17 =>
 cL 2 r6 11 fun l18 =>
 cB r6 12 fun b19 =>
 callT T 156 [(.g [(.v (.int .i64 n7)), (.v (.string s8)), (.v (.int .i64 n9)), (.s 3 l10), (.s 1 l11), (.s 2 l12), (.v (.int .i64 n13)), (.v (.string s14)), (.v (.int .i64 n15)), (.s 1 l16), (.s 5 l17), (.s 2 l18), (.v (.bool b19))]), (.d (.v (.int .i64 n4)))] fun o20 =>
 oD o20.res fun d21 =>
 dI .i64 d21 fun n22 =>
 bif (decide (n22 < 0)) then (
 some (.ret, [(.v (.int .i64 (-1)))])) else (
 l47x0 T k n [(.fz 13 l3), (.v (.int .i64 n22)), (.v (.int .i64 (IntKind.wrap .i64 (n5 + 1))))]))) else (
 some ((.exit 0), [(.v (.int .i64 n4))]))) := by kernel_rfl
theorem a47q (T : Table) (k : Nat) (l1 : Rows) (n2 : Int) : evalF T k a47 [(.d (.s 13 l1)), (.d (.v (.int .i64 n2)))] = (
 bif (decide ((IntKind.wrap .i64 (n2 - (l1.length : Int))) < 0)) then (
 some ⟨(.d (.v (.int .i64 (-1)))), []⟩) else (
 aft (l47x0 T k k [(.fz 13 l1), (.v (.int .i64 (IntKind.wrap .i64 (n2 - (l1.length : Int))))), (.v (.int .i64 0))]) fun e23 ys24 =>
 bif e23.same .ret then (
 aV ys24 0 fun x25 =>
 aI .i64 x25 fun n26 =>
 some ⟨(.d (.v (.int .i64 n26))), []⟩) else (
 bif e23.same (.exit 0) then (
 aV ys24 0 fun x27 =>
 aI .i64 x27 fun n28 =>
 some ⟨(.d (.v (.int .i64 n28))), []⟩) else (
 none)))) := by kernel_rfl
/- loop.example/g00119/laws.szLabel -/

def a278 : AFun := ⟨[.rd, .rd], false, [.t 4], (
  .seq (.reg false [⟨some 2, .box (.t 0), none⟩,
    ⟨some 4, .mv (.c (.v (.int .i64 0))), none⟩]) (
  .seq (.reg false [⟨some 5, .mv (.t 1), none⟩,
    ⟨some 6, .fad 0 (.t 2), none⟩,
    ⟨some 7, .load false [.s] (.t 6), none⟩,
    ⟨some 8, .len true (.t 7), none⟩,
    ⟨some 9, .bin .sub (.t 5) (.t 8), none⟩,
    ⟨some 1, .mv (.t 9), none⟩]) (
  .seq (.seq (.reg false [⟨some 10, .mv (.t 1), none⟩,
    ⟨some 11, .bin .lss (.t 10) (.c (.v (.int .i64 0))), none⟩]) (
  .cond (.t 11) (.seq (.reg false [⟨some 4, .mv (.c (.v (.int .i64 (-1)))), none⟩]) (
    .ret)) (.skip))) (
  .seq (.reg false [⟨some 12, .mv (.t 1), none⟩,
    ⟨some 13, .fad 1 (.t 2), none⟩,
    ⟨some 14, .load false [.s] (.t 13), none⟩,
    ⟨some 15, .len true (.t 14), none⟩,
    ⟨some 16, .bin .sub (.t 12) (.t 15), none⟩,
    ⟨some 1, .mv (.t 16), none⟩]) (
  .seq (.seq (.reg false [⟨some 17, .mv (.t 1), none⟩,
    ⟨some 18, .bin .lss (.t 17) (.c (.v (.int .i64 0))), none⟩]) (
  .cond (.t 18) (.seq (.reg false [⟨some 4, .mv (.c (.v (.int .i64 (-1)))), none⟩]) (
    .ret)) (.skip))) (
  .seq (.reg false [⟨some 19, .mv (.t 1), none⟩,
    ⟨some 4, .mv (.t 19), none⟩]) (
  .ret)))))))⟩

theorem a278q (T : Table) (k : Nat) (s1 : ByteArray) (s2 : ByteArray) (n3 : Int) : evalF T k a278 [(.g [(.v (.string s1)), (.v (.string s2))]), (.d (.v (.int .i64 n3)))] = (
 bif (decide ((IntKind.wrap .i64 (n3 - (s1.size : Int))) < 0)) then (
 some ⟨(.d (.v (.int .i64 (-1)))), []⟩) else (
 bif (decide ((IntKind.wrap .i64 ((IntKind.wrap .i64 (n3 - (s1.size : Int))) - (s2.size : Int))) < 0)) then (
 some ⟨(.d (.v (.int .i64 (-1)))), []⟩) else (
 some ⟨(.d (.v (.int .i64 (IntKind.wrap .i64 ((IntKind.wrap .i64 (n3 - (s1.size : Int))) - (s2.size : Int)))))), []⟩))) := by kernel_rfl
/- loop.example/g00119/laws.szLabelS -/
def b177x0 : ACode := (
  .seq (.seq (.reg false [⟨some 12, .mv (.t 5), none⟩,
    ⟨some 13, .mv (.t 0), none⟩,
    ⟨some 14, .len false (.t 13), none⟩,
    ⟨some 15, .bin .lss (.t 12) (.t 14), none⟩]) (
  .cond (.t 15) (.skip) (.exit 0))) (
  .seq (.block 1 (.seq (.reg false [⟨some 18, .mv (.t 0), none⟩,
      ⟨some 19, .mv (.t 5), none⟩,
      ⟨some 20, .iad 2 (.t 18) (.t 19), none⟩,
      ⟨some 21, .load true [.s, .s] (.t 20), none⟩,
      ⟨some 22, .mv (.t 1), none⟩,
      ⟨some 23, .call (.f 278) [.rd, .rd] false [.c (.i .i64)] [(.t 21), (.t 22)], none⟩,
      ⟨some 1, .mv (.t 23), none⟩]) (
    .seq (.reg false [⟨some 24, .mv (.t 1), none⟩,
      ⟨some 25, .bin .lss (.t 24) (.c (.v (.int .i64 0))), none⟩]) (
    .cond (.t 25) (.seq (.reg false [⟨some 4, .mv (.c (.v (.int .i64 (-1)))), none⟩]) (
      .ret)) (.skip))))) (
  .reg false [⟨some 16, .mv (.t 5), none⟩,
    ⟨some 17, .bin .add (.t 16) (.c (.v (.int .i64 1))), none⟩,
    ⟨some 5, .mv (.t 17), none⟩])))
def e177x0 : Exits := [(.ret, [(4, .c (.i .i64))]), ((.exit 0), [(1, .c (.i .i64))])]
noncomputable def l177x0 (T : Table) (k : Nat) := loopN (evalC ⟨T, []⟩ k b177x0 (Ex × List AV)) [0, 1, 5] e177x0
def a177 : AFun := ⟨[.rd, .rd], false, [.t 4], (
  .seq (.reg false [⟨some 4, .mv (.c (.v (.int .i64 0))), none⟩]) (
  .seq (.reg false [⟨some 6, .mv (.t 1), none⟩,
    ⟨some 7, .mv (.t 0), none⟩,
    ⟨some 8, .len false (.t 7), none⟩,
    ⟨some 9, .bin .sub (.t 6) (.t 8), none⟩,
    ⟨some 1, .mv (.t 9), none⟩]) (
  .seq (.seq (.reg false [⟨some 10, .mv (.t 1), none⟩,
    ⟨some 11, .bin .lss (.t 10) (.c (.v (.int .i64 0))), none⟩]) (
  .cond (.t 11) (.seq (.reg false [⟨some 4, .mv (.c (.v (.int .i64 (-1)))), none⟩]) (
    .ret)) (.skip))) (
  .seq (.seq (.reg false [⟨some 5, .mv (.c (.v (.int .i64 0))), none⟩]) (
  .block 0 (.loop [0, 1, 5] e177x0 b177x0))) (
  .seq (.reg false [⟨some 26, .mv (.t 1), none⟩,
    ⟨some 4, .mv (.t 26), none⟩]) (
  .ret))))))⟩
theorem l177x0s (T : Table) (k n : Nat) (l3 : Rows) (n4 : Int) (n5 : Int) : l177x0 T k (n + 1) [(.fz 2 l3), (.v (.int .i64 n4)), (.v (.int .i64 n5))] = (
 bif (decide (n5 < (l3.length : Int))) then (
 tst (decide (0 ≤ n5)) (
 look l3 (Int.toNat n5) fun r6 =>
 cS r6 0 fun s7 =>
 cS r6 1 fun s8 =>
 callT T 278 [(.g [(.v (.string s7)), (.v (.string s8))]), (.d (.v (.int .i64 n4)))] fun o9 =>
 oD o9.res fun d10 =>
 dI .i64 d10 fun n11 =>
 bif (decide (n11 < 0)) then (
 some (.ret, [(.v (.int .i64 (-1)))])) else (
 l177x0 T k n [(.fz 2 l3), (.v (.int .i64 n11)), (.v (.int .i64 (IntKind.wrap .i64 (n5 + 1))))]))) else (
 some ((.exit 0), [(.v (.int .i64 n4))]))) := by kernel_rfl
theorem a177q (T : Table) (k : Nat) (l1 : Rows) (n2 : Int) : evalF T k a177 [(.d (.s 2 l1)), (.d (.v (.int .i64 n2)))] = (
 bif (decide ((IntKind.wrap .i64 (n2 - (l1.length : Int))) < 0)) then (
 some ⟨(.d (.v (.int .i64 (-1)))), []⟩) else (
 aft (l177x0 T k k [(.fz 2 l1), (.v (.int .i64 (IntKind.wrap .i64 (n2 - (l1.length : Int))))), (.v (.int .i64 0))]) fun e12 ys13 =>
 bif e12.same .ret then (
 aV ys13 0 fun x14 =>
 aI .i64 x14 fun n15 =>
 some ⟨(.d (.v (.int .i64 n15))), []⟩) else (
 bif e12.same (.exit 0) then (
 aV ys13 0 fun x16 =>
 aI .i64 x16 fun n17 =>
 some ⟨(.d (.v (.int .i64 n17))), []⟩) else (
 none)))) := by kernel_rfl
/- loop.example/g00119/laws.szIsland -/

def a70 : AFun := ⟨[.rd, .rd], false, [.t 4], (
  .seq (.reg false [⟨some 2, .box (.t 0), none⟩,
    ⟨some 4, .mv (.c (.v (.int .i64 0))), none⟩]) (
  .seq (.reg false [⟨some 5, .mv (.t 1), none⟩,
    ⟨some 6, .fad 0 (.t 2), none⟩,
    ⟨some 7, .load false [.s] (.t 6), none⟩,
    ⟨some 8, .len true (.t 7), none⟩,
    ⟨some 9, .bin .sub (.t 5) (.t 8), none⟩,
    ⟨some 1, .mv (.t 9), none⟩]) (
  .seq (.seq (.reg false [⟨some 10, .mv (.t 1), none⟩,
    ⟨some 11, .bin .lss (.t 10) (.c (.v (.int .i64 0))), none⟩]) (
  .cond (.t 11) (.seq (.reg false [⟨some 4, .mv (.c (.v (.int .i64 (-1)))), none⟩]) (
    .ret)) (.skip))) (
  .seq (.reg false [⟨some 12, .fad 1 (.t 2), none⟩,
    ⟨some 13, .load false [(.sl 2)] (.t 12), none⟩,
    ⟨some 14, .mv (.t 1), none⟩,
    ⟨some 15, .call (.f 177) [.rd, .rd] false [.c (.i .i64)] [(.t 13), (.t 14)], none⟩,
    ⟨some 1, .mv (.t 15), none⟩]) (
  .seq (.seq (.reg false [⟨some 16, .mv (.t 1), none⟩,
    ⟨some 17, .bin .lss (.t 16) (.c (.v (.int .i64 0))), none⟩]) (
  .cond (.t 17) (.seq (.reg false [⟨some 4, .mv (.c (.v (.int .i64 (-1)))), none⟩]) (
    .ret)) (.skip))) (
  .seq (.reg false [⟨some 18, .fad 2 (.t 2), none⟩,
    ⟨some 19, .load false [(.sl 1)] (.t 18), none⟩,
    ⟨some 20, .mv (.t 1), none⟩,
    ⟨some 21, .call (.f 50) [.rd, .rd] false [.c (.i .i64)] [(.t 19), (.t 20)], none⟩,
    ⟨some 1, .mv (.t 21), none⟩]) (
  .seq (.seq (.reg false [⟨some 22, .mv (.t 1), none⟩,
    ⟨some 23, .bin .lss (.t 22) (.c (.v (.int .i64 0))), none⟩]) (
  .cond (.t 23) (.seq (.reg false [⟨some 4, .mv (.c (.v (.int .i64 (-1)))), none⟩]) (
    .ret)) (.skip))) (
  .seq (.reg false [⟨some 24, .mv (.t 1), none⟩,
    ⟨some 4, .mv (.t 24), none⟩]) (
  .ret)))))))))⟩

theorem a70q (T : Table) (k : Nat) (s1 : ByteArray) (l2 : Rows) (l3 : Rows) (n4 : Int) (n5 : Int) : evalF T k a70 [(.g [(.v (.string s1)), (.s 2 l2), (.s 1 l3), (.v (.int .i64 n4))]), (.d (.v (.int .i64 n5)))] = (
 bif (decide ((IntKind.wrap .i64 (n5 - (s1.size : Int))) < 0)) then (
 some ⟨(.d (.v (.int .i64 (-1)))), []⟩) else (
 callT T 177 [(.d (.s 2 l2)), (.d (.v (.int .i64 (IntKind.wrap .i64 (n5 - (s1.size : Int))))))] fun o6 =>
 oD o6.res fun d7 =>
 dI .i64 d7 fun n8 =>
 bif (decide (n8 < 0)) then (
 some ⟨(.d (.v (.int .i64 (-1)))), []⟩) else (
 callT T 50 [(.d (.s 1 l3)), (.d (.v (.int .i64 n8)))] fun o9 =>
 oD o9.res fun d10 =>
 dI .i64 d10 fun n11 =>
 bif (decide (n11 < 0)) then (
 some ⟨(.d (.v (.int .i64 (-1)))), []⟩) else (
 some ⟨(.d (.v (.int .i64 n11))), []⟩)))) := by kernel_rfl
/- loop.example/g00119/laws.szPost -/

def a157 : AFun := ⟨[.rd, .rd], false, [.t 4], (
  .seq (.reg false [⟨some 2, .box (.t 0), none⟩,
    ⟨some 4, .mv (.c (.v (.int .i64 0))), none⟩]) (
  .seq (.reg false [⟨some 5, .fad 0 (.t 2), none⟩,
    ⟨some 6, .load true [.s, (.sl 2), (.sl 1), (.i .i64)] (.t 5), none⟩,
    ⟨some 7, .mv (.t 1), none⟩,
    ⟨some 8, .call (.f 70) [.rd, .rd] false [.c (.i .i64)] [(.t 6), (.t 7)], none⟩,
    ⟨some 1, .mv (.t 8), none⟩]) (
  .seq (.seq (.reg false [⟨some 9, .mv (.t 1), none⟩,
    ⟨some 10, .bin .lss (.t 9) (.c (.v (.int .i64 0))), none⟩]) (
  .cond (.t 10) (.seq (.reg false [⟨some 4, .mv (.c (.v (.int .i64 (-1)))), none⟩]) (
    .ret)) (.skip))) (
  .seq (.reg false [⟨some 11, .mv (.t 1), none⟩,
    ⟨some 4, .mv (.t 11), none⟩]) (
  .ret)))))⟩

theorem a157q (T : Table) (k : Nat) (s1 : ByteArray) (l2 : Rows) (l3 : Rows) (n4 : Int) (n5 : Int) (n6 : Int) (n7 : Int) : evalF T k a157 [(.g [(.v (.string s1)), (.s 2 l2), (.s 1 l3), (.v (.int .i64 n4)), (.v (.int .i64 n5)), (.v (.int .i64 n6))]), (.d (.v (.int .i64 n7)))] = (
 callT T 70 [(.g [(.v (.string s1)), (.s 2 l2), (.s 1 l3), (.v (.int .i64 n4))]), (.d (.v (.int .i64 n7)))] fun o8 =>
 oD o8.res fun d9 =>
 dI .i64 d9 fun n10 =>
 bif (decide (n10 < 0)) then (
 some ⟨(.d (.v (.int .i64 (-1)))), []⟩) else (
 some ⟨(.d (.v (.int .i64 n10))), []⟩)) := by kernel_rfl
/- loop.example/g00119/laws.szPostS -/
def b48x0 : ACode := (
  .seq (.seq (.reg false [⟨some 12, .mv (.t 5), none⟩,
    ⟨some 13, .mv (.t 0), none⟩,
    ⟨some 14, .len false (.t 13), none⟩,
    ⟨some 15, .bin .lss (.t 12) (.t 14), none⟩]) (
  .cond (.t 15) (.skip) (.exit 0))) (
  .seq (.block 1 (.seq (.reg false [⟨some 18, .mv (.t 0), none⟩,
      ⟨some 19, .mv (.t 5), none⟩,
      ⟨some 20, .iad 6 (.t 18) (.t 19), none⟩,
      ⟨some 21, .load true [.s, (.sl 2), (.sl 1), (.i .i64), (.i .i64), (.i .i64)] (.t 20), none⟩,
      ⟨some 22, .mv (.t 1), none⟩,
      ⟨some 23, .call (.f 157) [.rd, .rd] false [.c (.i .i64)] [(.t 21), (.t 22)], none⟩,
      ⟨some 1, .mv (.t 23), none⟩]) (
    .seq (.reg false [⟨some 24, .mv (.t 1), none⟩,
      ⟨some 25, .bin .lss (.t 24) (.c (.v (.int .i64 0))), none⟩]) (
    .cond (.t 25) (.seq (.reg false [⟨some 4, .mv (.c (.v (.int .i64 (-1)))), none⟩]) (
      .ret)) (.skip))))) (
  .reg false [⟨some 16, .mv (.t 5), none⟩,
    ⟨some 17, .bin .add (.t 16) (.c (.v (.int .i64 1))), none⟩,
    ⟨some 5, .mv (.t 17), none⟩])))
def e48x0 : Exits := [(.ret, [(4, .c (.i .i64))]), ((.exit 0), [(1, .c (.i .i64))])]
noncomputable def l48x0 (T : Table) (k : Nat) := loopN (evalC ⟨T, []⟩ k b48x0 (Ex × List AV)) [0, 1, 5] e48x0
def a48 : AFun := ⟨[.rd, .rd], false, [.t 4], (
  .seq (.reg false [⟨some 4, .mv (.c (.v (.int .i64 0))), none⟩]) (
  .seq (.reg false [⟨some 6, .mv (.t 1), none⟩,
    ⟨some 7, .mv (.t 0), none⟩,
    ⟨some 8, .len false (.t 7), none⟩,
    ⟨some 9, .bin .sub (.t 6) (.t 8), none⟩,
    ⟨some 1, .mv (.t 9), none⟩]) (
  .seq (.seq (.reg false [⟨some 10, .mv (.t 1), none⟩,
    ⟨some 11, .bin .lss (.t 10) (.c (.v (.int .i64 0))), none⟩]) (
  .cond (.t 11) (.seq (.reg false [⟨some 4, .mv (.c (.v (.int .i64 (-1)))), none⟩]) (
    .ret)) (.skip))) (
  .seq (.seq (.reg false [⟨some 5, .mv (.c (.v (.int .i64 0))), none⟩]) (
  .block 0 (.loop [0, 1, 5] e48x0 b48x0))) (
  .seq (.reg false [⟨some 26, .mv (.t 1), none⟩,
    ⟨some 4, .mv (.t 26), none⟩]) (
  .ret))))))⟩
theorem l48x0s (T : Table) (k n : Nat) (l3 : Rows) (n4 : Int) (n5 : Int) : l48x0 T k (n + 1) [(.fz 6 l3), (.v (.int .i64 n4)), (.v (.int .i64 n5))] = (
 bif (decide (n5 < (l3.length : Int))) then (
 tst (decide (0 ≤ n5)) (
 look l3 (Int.toNat n5) fun r6 =>
 cS r6 0 fun s7 =>
 cL 2 r6 1 fun l8 =>
 cL 1 r6 2 fun l9 =>
 cI .i64 r6 3 fun n10 =>
 cI .i64 r6 4 fun n11 =>
 cI .i64 r6 5 fun n12 =>
 callT T 157 [(.g [(.v (.string s7)), (.s 2 l8), (.s 1 l9), (.v (.int .i64 n10)), (.v (.int .i64 n11)), (.v (.int .i64 n12))]), (.d (.v (.int .i64 n4)))] fun o13 =>
 oD o13.res fun d14 =>
 dI .i64 d14 fun n15 =>
 bif (decide (n15 < 0)) then (
 some (.ret, [(.v (.int .i64 (-1)))])) else (
 l48x0 T k n [(.fz 6 l3), (.v (.int .i64 n15)), (.v (.int .i64 (IntKind.wrap .i64 (n5 + 1))))]))) else (
 some ((.exit 0), [(.v (.int .i64 n4))]))) := by kernel_rfl
theorem a48q (T : Table) (k : Nat) (l1 : Rows) (n2 : Int) : evalF T k a48 [(.d (.s 6 l1)), (.d (.v (.int .i64 n2)))] = (
 bif (decide ((IntKind.wrap .i64 (n2 - (l1.length : Int))) < 0)) then (
 some ⟨(.d (.v (.int .i64 (-1)))), []⟩) else (
 aft (l48x0 T k k [(.fz 6 l1), (.v (.int .i64 (IntKind.wrap .i64 (n2 - (l1.length : Int))))), (.v (.int .i64 0))]) fun e16 ys17 =>
 bif e16.same .ret then (
 aV ys17 0 fun x18 =>
 aI .i64 x18 fun n19 =>
 some ⟨(.d (.v (.int .i64 n19))), []⟩) else (
 bif e16.same (.exit 0) then (
 aV ys17 0 fun x20 =>
 aI .i64 x20 fun n21 =>
 some ⟨(.d (.v (.int .i64 n21))), []⟩) else (
 none)))) := by kernel_rfl
/- loop.example/g00119/laws.szHold -/

def a158 : AFun := ⟨[.rd, .rd], false, [.t 4], (
  .seq (.reg false [⟨some 2, .box (.t 0), none⟩,
    ⟨some 4, .mv (.c (.v (.int .i64 0))), none⟩]) (
  .seq (.reg false [⟨some 5, .mv (.t 1), none⟩,
    ⟨some 6, .fad 1 (.t 2), none⟩,
    ⟨some 7, .load false [.s] (.t 6), none⟩,
    ⟨some 8, .len true (.t 7), none⟩,
    ⟨some 9, .bin .sub (.t 5) (.t 8), none⟩,
    ⟨some 1, .mv (.t 9), none⟩]) (
  .seq (.seq (.reg false [⟨some 10, .mv (.t 1), none⟩,
    ⟨some 11, .bin .lss (.t 10) (.c (.v (.int .i64 0))), none⟩]) (
  .cond (.t 11) (.seq (.reg false [⟨some 4, .mv (.c (.v (.int .i64 (-1)))), none⟩]) (
    .ret)) (.skip))) (
  .seq (.reg false [⟨some 12, .mv (.t 1), none⟩,
    ⟨some 4, .mv (.t 12), none⟩]) (
  .ret)))))⟩

theorem a158q (T : Table) (k : Nat) (n1 : Int) (s2 : ByteArray) (n3 : Int) (n4 : Int) (n5 : Int) (n6 : Int) : evalF T k a158 [(.g [(.v (.int .i64 n1)), (.v (.string s2)), (.v (.int .i64 n3)), (.v (.int .i64 n4)), (.v (.int .i64 n5))]), (.d (.v (.int .i64 n6)))] = (
 bif (decide ((IntKind.wrap .i64 (n6 - (s2.size : Int))) < 0)) then (
 some ⟨(.d (.v (.int .i64 (-1)))), []⟩) else (
 some ⟨(.d (.v (.int .i64 (IntKind.wrap .i64 (n6 - (s2.size : Int)))))), []⟩)) := by kernel_rfl
/- loop.example/g00119/laws.szHoldS -/
def b49x0 : ACode := (
  .seq (.seq (.reg false [⟨some 12, .mv (.t 5), none⟩,
    ⟨some 13, .mv (.t 0), none⟩,
    ⟨some 14, .len false (.t 13), none⟩,
    ⟨some 15, .bin .lss (.t 12) (.t 14), none⟩]) (
  .cond (.t 15) (.skip) (.exit 0))) (
  .seq (.block 1 (.seq (.reg false [⟨some 18, .mv (.t 0), none⟩,
      ⟨some 19, .mv (.t 5), none⟩,
      ⟨some 20, .iad 5 (.t 18) (.t 19), none⟩,
      ⟨some 21, .load true [(.i .i64), .s, (.i .i64), (.i .i64), (.i .i64)] (.t 20), none⟩,
      ⟨some 22, .mv (.t 1), none⟩,
      ⟨some 23, .call (.f 158) [.rd, .rd] false [.c (.i .i64)] [(.t 21), (.t 22)], none⟩,
      ⟨some 1, .mv (.t 23), none⟩]) (
    .seq (.reg false [⟨some 24, .mv (.t 1), none⟩,
      ⟨some 25, .bin .lss (.t 24) (.c (.v (.int .i64 0))), none⟩]) (
    .cond (.t 25) (.seq (.reg false [⟨some 4, .mv (.c (.v (.int .i64 (-1)))), none⟩]) (
      .ret)) (.skip))))) (
  .reg false [⟨some 16, .mv (.t 5), none⟩,
    ⟨some 17, .bin .add (.t 16) (.c (.v (.int .i64 1))), none⟩,
    ⟨some 5, .mv (.t 17), none⟩])))
def e49x0 : Exits := [(.ret, [(4, .c (.i .i64))]), ((.exit 0), [(1, .c (.i .i64))])]
noncomputable def l49x0 (T : Table) (k : Nat) := loopN (evalC ⟨T, []⟩ k b49x0 (Ex × List AV)) [0, 1, 5] e49x0
def a49 : AFun := ⟨[.rd, .rd], false, [.t 4], (
  .seq (.reg false [⟨some 4, .mv (.c (.v (.int .i64 0))), none⟩]) (
  .seq (.reg false [⟨some 6, .mv (.t 1), none⟩,
    ⟨some 7, .mv (.t 0), none⟩,
    ⟨some 8, .len false (.t 7), none⟩,
    ⟨some 9, .bin .sub (.t 6) (.t 8), none⟩,
    ⟨some 1, .mv (.t 9), none⟩]) (
  .seq (.seq (.reg false [⟨some 10, .mv (.t 1), none⟩,
    ⟨some 11, .bin .lss (.t 10) (.c (.v (.int .i64 0))), none⟩]) (
  .cond (.t 11) (.seq (.reg false [⟨some 4, .mv (.c (.v (.int .i64 (-1)))), none⟩]) (
    .ret)) (.skip))) (
  .seq (.seq (.reg false [⟨some 5, .mv (.c (.v (.int .i64 0))), none⟩]) (
  .block 0 (.loop [0, 1, 5] e49x0 b49x0))) (
  .seq (.reg false [⟨some 26, .mv (.t 1), none⟩,
    ⟨some 4, .mv (.t 26), none⟩]) (
  .ret))))))⟩
theorem l49x0s (T : Table) (k n : Nat) (l3 : Rows) (n4 : Int) (n5 : Int) : l49x0 T k (n + 1) [(.fz 5 l3), (.v (.int .i64 n4)), (.v (.int .i64 n5))] = (
 bif (decide (n5 < (l3.length : Int))) then (
 tst (decide (0 ≤ n5)) (
 look l3 (Int.toNat n5) fun r6 =>
 cI .i64 r6 0 fun n7 =>
 cS r6 1 fun s8 =>
 cI .i64 r6 2 fun n9 =>
 cI .i64 r6 3 fun n10 =>
 cI .i64 r6 4 fun n11 =>
 callT T 158 [(.g [(.v (.int .i64 n7)), (.v (.string s8)), (.v (.int .i64 n9)), (.v (.int .i64 n10)), (.v (.int .i64 n11))]), (.d (.v (.int .i64 n4)))] fun o12 =>
 oD o12.res fun d13 =>
 dI .i64 d13 fun n14 =>
 bif (decide (n14 < 0)) then (
 some (.ret, [(.v (.int .i64 (-1)))])) else (
 l49x0 T k n [(.fz 5 l3), (.v (.int .i64 n14)), (.v (.int .i64 (IntKind.wrap .i64 (n5 + 1))))]))) else (
 some ((.exit 0), [(.v (.int .i64 n4))]))) := by kernel_rfl
theorem a49q (T : Table) (k : Nat) (l1 : Rows) (n2 : Int) : evalF T k a49 [(.d (.s 5 l1)), (.d (.v (.int .i64 n2)))] = (
 bif (decide ((IntKind.wrap .i64 (n2 - (l1.length : Int))) < 0)) then (
 some ⟨(.d (.v (.int .i64 (-1)))), []⟩) else (
 aft (l49x0 T k k [(.fz 5 l1), (.v (.int .i64 (IntKind.wrap .i64 (n2 - (l1.length : Int))))), (.v (.int .i64 0))]) fun e15 ys16 =>
 bif e15.same .ret then (
 aV ys16 0 fun x17 =>
 aI .i64 x17 fun n18 =>
 some ⟨(.d (.v (.int .i64 n18))), []⟩) else (
 bif e15.same (.exit 0) then (
 aV ys16 0 fun x19 =>
 aI .i64 x19 fun n20 =>
 some ⟨(.d (.v (.int .i64 n20))), []⟩) else (
 none)))) := by kernel_rfl
/- loop.example/g00119/laws.szHub -/

def a9 : AFun := ⟨[.rd, .rd], false, [.t 4], (
  .seq (.reg false [⟨some 2, .box (.t 0), none⟩,
    ⟨some 4, .mv (.c (.v (.int .i64 0))), none⟩]) (
  .seq (.reg false [⟨some 5, .fad 3 (.t 2), none⟩,
    ⟨some 6, .load false [(.sl 13)] (.t 5), none⟩,
    ⟨some 7, .mv (.t 1), none⟩,
    ⟨some 8, .call (.f 47) [.rd, .rd] false [.c (.i .i64)] [(.t 6), (.t 7)], none⟩,
    ⟨some 1, .mv (.t 8), none⟩]) (
  .seq (.seq (.reg false [⟨some 9, .mv (.t 1), none⟩,
    ⟨some 10, .bin .lss (.t 9) (.c (.v (.int .i64 0))), none⟩]) (
  .cond (.t 10) (.seq (.reg false [⟨some 4, .mv (.c (.v (.int .i64 (-1)))), none⟩]) (
    .ret)) (.skip))) (
  .seq (.reg false [⟨some 11, .fad 4 (.t 2), none⟩,
    ⟨some 12, .load false [(.sl 6)] (.t 11), none⟩,
    ⟨some 13, .mv (.t 1), none⟩,
    ⟨some 14, .call (.f 48) [.rd, .rd] false [.c (.i .i64)] [(.t 12), (.t 13)], none⟩,
    ⟨some 1, .mv (.t 14), none⟩]) (
  .seq (.seq (.reg false [⟨some 15, .mv (.t 1), none⟩,
    ⟨some 16, .bin .lss (.t 15) (.c (.v (.int .i64 0))), none⟩]) (
  .cond (.t 16) (.seq (.reg false [⟨some 4, .mv (.c (.v (.int .i64 (-1)))), none⟩]) (
    .ret)) (.skip))) (
  .seq (.reg false [⟨some 17, .fad 5 (.t 2), none⟩,
    ⟨some 18, .load false [(.sl 5)] (.t 17), none⟩,
    ⟨some 19, .mv (.t 1), none⟩,
    ⟨some 20, .call (.f 49) [.rd, .rd] false [.c (.i .i64)] [(.t 18), (.t 19)], none⟩,
    ⟨some 1, .mv (.t 20), none⟩]) (
  .seq (.seq (.reg false [⟨some 21, .mv (.t 1), none⟩,
    ⟨some 22, .bin .lss (.t 21) (.c (.v (.int .i64 0))), none⟩]) (
  .cond (.t 22) (.seq (.reg false [⟨some 4, .mv (.c (.v (.int .i64 (-1)))), none⟩]) (
    .ret)) (.skip))) (
  .seq (.reg false [⟨some 23, .fad 6 (.t 2), none⟩,
    ⟨some 24, .load false [(.sl 1)] (.t 23), none⟩,
    ⟨some 25, .mv (.t 1), none⟩,
    ⟨some 26, .call (.f 50) [.rd, .rd] false [.c (.i .i64)] [(.t 24), (.t 25)], none⟩,
    ⟨some 1, .mv (.t 26), none⟩]) (
  .seq (.seq (.reg false [⟨some 27, .mv (.t 1), none⟩,
    ⟨some 28, .bin .lss (.t 27) (.c (.v (.int .i64 0))), none⟩]) (
  .cond (.t 28) (.seq (.reg false [⟨some 4, .mv (.c (.v (.int .i64 (-1)))), none⟩]) (
    .ret)) (.skip))) (
  .seq (.reg false [⟨some 29, .mv (.t 1), none⟩,
    ⟨some 4, .mv (.t 29), none⟩]) (
  .ret)))))))))))⟩

theorem a9q (T : Table) (k : Nat) (n1 : Int) (n2 : Int) (n3 : Int) (l4 : Rows) (l5 : Rows) (l6 : Rows) (l7 : Rows) (n8 : Int) : evalF T k a9 [(.g [(.v (.int .i64 n1)), (.v (.int .i64 n2)), (.v (.int .i64 n3)), (.s 13 l4), (.s 6 l5), (.s 5 l6), (.s 1 l7)]), (.d (.v (.int .i64 n8)))] = (
 callT T 47 [(.d (.s 13 l4)), (.d (.v (.int .i64 n8)))] fun o9 =>
 oD o9.res fun d10 =>
 dI .i64 d10 fun n11 =>
 bif (decide (n11 < 0)) then (
 some ⟨(.d (.v (.int .i64 (-1)))), []⟩) else (
 callT T 48 [(.d (.s 6 l5)), (.d (.v (.int .i64 n11)))] fun o12 =>
 oD o12.res fun d13 =>
 dI .i64 d13 fun n14 =>
 bif (decide (n14 < 0)) then (
 some ⟨(.d (.v (.int .i64 (-1)))), []⟩) else (
 callT T 49 [(.d (.s 5 l6)), (.d (.v (.int .i64 n14)))] fun o15 =>
 oD o15.res fun d16 =>
 dI .i64 d16 fun n17 =>
 bif (decide (n17 < 0)) then (
 some ⟨(.d (.v (.int .i64 (-1)))), []⟩) else (
 callT T 50 [(.d (.s 1 l7)), (.d (.v (.int .i64 n17)))] fun o18 =>
 oD o18.res fun d19 =>
 dI .i64 d19 fun n20 =>
 bif (decide (n20 < 0)) then (
 some ⟨(.d (.v (.int .i64 (-1)))), []⟩) else (
 some ⟨(.d (.v (.int .i64 n20))), []⟩))))) := by kernel_rfl
/- loop.example/g00119/laws.szByteS -/

def a99 : AFun := ⟨[.rd, .rd], false, [.t 4], (
  .seq (.reg false [⟨some 4, .mv (.c (.v (.int .i64 0))), none⟩]) (
  .seq (.reg false [⟨some 5, .mv (.t 1), none⟩,
    ⟨some 6, .mv (.t 0), none⟩,
    ⟨some 7, .len false (.t 6), none⟩,
    ⟨some 8, .bin .sub (.t 5) (.t 7), none⟩,
    ⟨some 1, .mv (.t 8), none⟩]) (
  .seq (.seq (.reg false [⟨some 9, .mv (.t 1), none⟩,
    ⟨some 10, .bin .lss (.t 9) (.c (.v (.int .i64 0))), none⟩]) (
  .cond (.t 10) (.seq (.reg false [⟨some 4, .mv (.c (.v (.int .i64 (-1)))), none⟩]) (
    .ret)) (.skip))) (
  .seq (.reg false [⟨some 11, .mv (.t 1), none⟩,
    ⟨some 4, .mv (.t 11), none⟩]) (
  .ret)))))⟩

theorem a99q (T : Table) (k : Nat) (l1 : Rows) (n2 : Int) : evalF T k a99 [(.d (.s 1 l1)), (.d (.v (.int .i64 n2)))] = (
 bif (decide ((IntKind.wrap .i64 (n2 - (l1.length : Int))) < 0)) then (
 some ⟨(.d (.v (.int .i64 (-1)))), []⟩) else (
 some ⟨(.d (.v (.int .i64 (IntKind.wrap .i64 (n2 - (l1.length : Int)))))), []⟩)) := by kernel_rfl
/- loop.example/g00119/laws.szRunS -/

def a71 : AFun := ⟨[.rd, .rd], false, [.t 4], (
  .seq (.reg false [⟨some 4, .mv (.c (.v (.int .i64 0))), none⟩]) (
  .seq (.reg false [⟨some 5, .mv (.t 1), none⟩,
    ⟨some 6, .mv (.t 0), none⟩,
    ⟨some 7, .len false (.t 6), none⟩,
    ⟨some 8, .bin .sub (.t 5) (.t 7), none⟩,
    ⟨some 1, .mv (.t 8), none⟩]) (
  .seq (.seq (.reg false [⟨some 9, .mv (.t 1), none⟩,
    ⟨some 10, .bin .lss (.t 9) (.c (.v (.int .i64 0))), none⟩]) (
  .cond (.t 10) (.seq (.reg false [⟨some 4, .mv (.c (.v (.int .i64 (-1)))), none⟩]) (
    .ret)) (.skip))) (
  .seq (.reg false [⟨some 11, .mv (.t 1), none⟩,
    ⟨some 4, .mv (.t 11), none⟩]) (
  .ret)))))⟩

theorem a71q (T : Table) (k : Nat) (l1 : Rows) (n2 : Int) : evalF T k a71 [(.d (.s 2 l1)), (.d (.v (.int .i64 n2)))] = (
 bif (decide ((IntKind.wrap .i64 (n2 - (l1.length : Int))) < 0)) then (
 some ⟨(.d (.v (.int .i64 (-1)))), []⟩) else (
 some ⟨(.d (.v (.int .i64 (IntKind.wrap .i64 (n2 - (l1.length : Int)))))), []⟩)) := by kernel_rfl
/- loop.example/g00119/laws.szWork -/

def a357 : AFun := ⟨[.rd, .rd], false, [.t 4], (
  .seq (.reg false [⟨some 2, .box (.t 0), none⟩,
    ⟨some 4, .mv (.c (.v (.int .i64 0))), none⟩]) (
  .seq (.reg false [⟨some 5, .fad 2 (.t 2), none⟩,
    ⟨some 6, .load true [(.i .i64), .s, (.i .i64), (.sl 1), (.sl 5)] (.t 5), none⟩,
    ⟨some 7, .mv (.t 1), none⟩,
    ⟨some 8, .call (.f 68) [.rd, .rd] false [.c (.i .i64)] [(.t 6), (.t 7)], none⟩,
    ⟨some 1, .mv (.t 8), none⟩]) (
  .seq (.seq (.reg false [⟨some 9, .mv (.t 1), none⟩,
    ⟨some 10, .bin .lss (.t 9) (.c (.v (.int .i64 0))), none⟩]) (
  .cond (.t 10) (.seq (.reg false [⟨some 4, .mv (.c (.v (.int .i64 (-1)))), none⟩]) (
    .ret)) (.skip))) (
  .seq (.reg false [⟨some 11, .mv (.t 1), none⟩,
    ⟨some 4, .mv (.t 11), none⟩]) (
  .ret)))))⟩

theorem a357q (T : Table) (k : Nat) (n1 : Int) (n2 : Int) (n3 : Int) (s4 : ByteArray) (n5 : Int) (l6 : Rows) (l7 : Rows) (n8 : Int) : evalF T k a357 [(.g [(.v (.int .i64 n1)), (.v (.int .i64 n2)), (.v (.int .i64 n3)), (.v (.string s4)), (.v (.int .i64 n5)), (.s 1 l6), (.s 5 l7)]), (.d (.v (.int .i64 n8)))] = (
 callT T 68 [(.g [(.v (.int .i64 n3)), (.v (.string s4)), (.v (.int .i64 n5)), (.s 1 l6), (.s 5 l7)]), (.d (.v (.int .i64 n8)))] fun o9 =>
 oD o9.res fun d10 =>
 dI .i64 d10 fun n11 =>
 bif (decide (n11 < 0)) then (
 some ⟨(.d (.v (.int .i64 (-1)))), []⟩) else (
 some ⟨(.d (.v (.int .i64 n11))), []⟩)) := by kernel_rfl
/- loop.example/g00119/laws.szWorkS -/
def b299x0 : ACode := (
  .seq (.seq (.reg false [⟨some 12, .mv (.t 5), none⟩,
    ⟨some 13, .mv (.t 0), none⟩,
    ⟨some 14, .len false (.t 13), none⟩,
    ⟨some 15, .bin .lss (.t 12) (.t 14), none⟩]) (
  .cond (.t 15) (.skip) (.exit 0))) (
  .seq (.block 1 (.seq (.reg false [⟨some 18, .mv (.t 0), none⟩,
      ⟨some 19, .mv (.t 5), none⟩,
      ⟨some 20, .iad 7 (.t 18) (.t 19), none⟩,
      ⟨some 21, .load true [(.i .i64), (.i .i64), (.i .i64), .s, (.i .i64), (.sl 1), (.sl 5)] (.t 20), none⟩,
      ⟨some 22, .mv (.t 1), none⟩,
      ⟨some 23, .call (.f 357) [.rd, .rd] false [.c (.i .i64)] [(.t 21), (.t 22)], none⟩,
      ⟨some 1, .mv (.t 23), none⟩]) (
    .seq (.reg false [⟨some 24, .mv (.t 1), none⟩,
      ⟨some 25, .bin .lss (.t 24) (.c (.v (.int .i64 0))), none⟩]) (
    .cond (.t 25) (.seq (.reg false [⟨some 4, .mv (.c (.v (.int .i64 (-1)))), none⟩]) (
      .ret)) (.skip))))) (
  .reg false [⟨some 16, .mv (.t 5), none⟩,
    ⟨some 17, .bin .add (.t 16) (.c (.v (.int .i64 1))), none⟩,
    ⟨some 5, .mv (.t 17), none⟩])))
def e299x0 : Exits := [(.ret, [(4, .c (.i .i64))]), ((.exit 0), [(1, .c (.i .i64))])]
noncomputable def l299x0 (T : Table) (k : Nat) := loopN (evalC ⟨T, []⟩ k b299x0 (Ex × List AV)) [0, 1, 5] e299x0
def a299 : AFun := ⟨[.rd, .rd], false, [.t 4], (
  .seq (.reg false [⟨some 4, .mv (.c (.v (.int .i64 0))), none⟩]) (
  .seq (.reg false [⟨some 6, .mv (.t 1), none⟩,
    ⟨some 7, .mv (.t 0), none⟩,
    ⟨some 8, .len false (.t 7), none⟩,
    ⟨some 9, .bin .sub (.t 6) (.t 8), none⟩,
    ⟨some 1, .mv (.t 9), none⟩]) (
  .seq (.seq (.reg false [⟨some 10, .mv (.t 1), none⟩,
    ⟨some 11, .bin .lss (.t 10) (.c (.v (.int .i64 0))), none⟩]) (
  .cond (.t 11) (.seq (.reg false [⟨some 4, .mv (.c (.v (.int .i64 (-1)))), none⟩]) (
    .ret)) (.skip))) (
  .seq (.seq (.reg false [⟨some 5, .mv (.c (.v (.int .i64 0))), none⟩]) (
  .block 0 (.loop [0, 1, 5] e299x0 b299x0))) (
  .seq (.reg false [⟨some 26, .mv (.t 1), none⟩,
    ⟨some 4, .mv (.t 26), none⟩]) (
  .ret))))))⟩
theorem l299x0s (T : Table) (k n : Nat) (l3 : Rows) (n4 : Int) (n5 : Int) : l299x0 T k (n + 1) [(.fz 7 l3), (.v (.int .i64 n4)), (.v (.int .i64 n5))] = (
 bif (decide (n5 < (l3.length : Int))) then (
 tst (decide (0 ≤ n5)) (
 look l3 (Int.toNat n5) fun r6 =>
 cI .i64 r6 0 fun n7 =>
 cI .i64 r6 1 fun n8 =>
 cI .i64 r6 2 fun n9 =>
 cS r6 3 fun s10 =>
 cI .i64 r6 4 fun n11 =>
 cL 1 r6 5 fun l12 =>
 cL 5 r6 6 fun l13 =>
 callT T 357 [(.g [(.v (.int .i64 n7)), (.v (.int .i64 n8)), (.v (.int .i64 n9)), (.v (.string s10)), (.v (.int .i64 n11)), (.s 1 l12), (.s 5 l13)]), (.d (.v (.int .i64 n4)))] fun o14 =>
 oD o14.res fun d15 =>
 dI .i64 d15 fun n16 =>
 bif (decide (n16 < 0)) then (
 some (.ret, [(.v (.int .i64 (-1)))])) else (
 l299x0 T k n [(.fz 7 l3), (.v (.int .i64 n16)), (.v (.int .i64 (IntKind.wrap .i64 (n5 + 1))))]))) else (
 some ((.exit 0), [(.v (.int .i64 n4))]))) := by kernel_rfl
theorem a299q (T : Table) (k : Nat) (l1 : Rows) (n2 : Int) : evalF T k a299 [(.d (.s 7 l1)), (.d (.v (.int .i64 n2)))] = (
 bif (decide ((IntKind.wrap .i64 (n2 - (l1.length : Int))) < 0)) then (
 some ⟨(.d (.v (.int .i64 (-1)))), []⟩) else (
 aft (l299x0 T k k [(.fz 7 l1), (.v (.int .i64 (IntKind.wrap .i64 (n2 - (l1.length : Int))))), (.v (.int .i64 0))]) fun e17 ys18 =>
 bif e17.same .ret then (
 aV ys18 0 fun x19 =>
 aI .i64 x19 fun n20 =>
 some ⟨(.d (.v (.int .i64 n20))), []⟩) else (
 bif e17.same (.exit 0) then (
 aV ys18 0 fun x21 =>
 aI .i64 x21 fun n22 =>
 some ⟨(.d (.v (.int .i64 n22))), []⟩) else (
 none)))) := by kernel_rfl
/- loop.example/g00119/laws.szIsle -/

def a208 : AFun := ⟨[.rd, .rd], false, [.t 4], (
  .seq (.reg false [⟨some 2, .box (.t 0), none⟩,
    ⟨some 4, .mv (.c (.v (.int .i64 0))), none⟩]) (
  .seq (.reg false [⟨some 5, .mv (.t 1), none⟩,
    ⟨some 6, .fad 0 (.t 2), none⟩,
    ⟨some 7, .load false [.s] (.t 6), none⟩,
    ⟨some 8, .len true (.t 7), none⟩,
    ⟨some 9, .bin .sub (.t 5) (.t 8), none⟩,
    ⟨some 1, .mv (.t 9), none⟩]) (
  .seq (.seq (.reg false [⟨some 10, .mv (.t 1), none⟩,
    ⟨some 11, .bin .lss (.t 10) (.c (.v (.int .i64 0))), none⟩]) (
  .cond (.t 11) (.seq (.reg false [⟨some 4, .mv (.c (.v (.int .i64 (-1)))), none⟩]) (
    .ret)) (.skip))) (
  .seq (.reg false [⟨some 12, .fad 3 (.t 2), none⟩,
    ⟨some 13, .load false [(.sl 7)] (.t 12), none⟩,
    ⟨some 14, .mv (.t 1), none⟩,
    ⟨some 15, .call (.f 299) [.rd, .rd] false [.c (.i .i64)] [(.t 13), (.t 14)], none⟩,
    ⟨some 1, .mv (.t 15), none⟩]) (
  .seq (.seq (.reg false [⟨some 16, .mv (.t 1), none⟩,
    ⟨some 17, .bin .lss (.t 16) (.c (.v (.int .i64 0))), none⟩]) (
  .cond (.t 17) (.seq (.reg false [⟨some 4, .mv (.c (.v (.int .i64 (-1)))), none⟩]) (
    .ret)) (.skip))) (
  .seq (.reg false [⟨some 18, .fad 4 (.t 2), none⟩,
    ⟨some 19, .load false [(.sl 2)] (.t 18), none⟩,
    ⟨some 20, .mv (.t 1), none⟩,
    ⟨some 21, .call (.f 71) [.rd, .rd] false [.c (.i .i64)] [(.t 19), (.t 20)], none⟩,
    ⟨some 1, .mv (.t 21), none⟩]) (
  .seq (.seq (.reg false [⟨some 22, .mv (.t 1), none⟩,
    ⟨some 23, .bin .lss (.t 22) (.c (.v (.int .i64 0))), none⟩]) (
  .cond (.t 23) (.seq (.reg false [⟨some 4, .mv (.c (.v (.int .i64 (-1)))), none⟩]) (
    .ret)) (.skip))) (
  .seq (.reg false [⟨some 24, .mv (.t 1), none⟩,
    ⟨some 4, .mv (.t 24), none⟩]) (
  .ret)))))))))⟩

theorem a208q (T : Table) (k : Nat) (s1 : ByteArray) (n2 : Int) (n3 : Int) (l4 : Rows) (l5 : Rows) (n6 : Int) : evalF T k a208 [(.g [(.v (.string s1)), (.v (.int .i64 n2)), (.v (.int .i64 n3)), (.s 7 l4), (.s 2 l5)]), (.d (.v (.int .i64 n6)))] = (
 bif (decide ((IntKind.wrap .i64 (n6 - (s1.size : Int))) < 0)) then (
 some ⟨(.d (.v (.int .i64 (-1)))), []⟩) else (
 callT T 299 [(.d (.s 7 l4)), (.d (.v (.int .i64 (IntKind.wrap .i64 (n6 - (s1.size : Int))))))] fun o7 =>
 oD o7.res fun d8 =>
 dI .i64 d8 fun n9 =>
 bif (decide (n9 < 0)) then (
 some ⟨(.d (.v (.int .i64 (-1)))), []⟩) else (
 callT T 71 [(.d (.s 2 l5)), (.d (.v (.int .i64 n9)))] fun o10 =>
 oD o10.res fun d11 =>
 dI .i64 d11 fun n12 =>
 bif (decide (n12 < 0)) then (
 some ⟨(.d (.v (.int .i64 (-1)))), []⟩) else (
 some ⟨(.d (.v (.int .i64 n12))), []⟩)))) := by kernel_rfl
/- loop.example/g00119/laws.szIsleS -/
def b100x0 : ACode := (
  .seq (.seq (.reg false [⟨some 12, .mv (.t 5), none⟩,
    ⟨some 13, .mv (.t 0), none⟩,
    ⟨some 14, .len false (.t 13), none⟩,
    ⟨some 15, .bin .lss (.t 12) (.t 14), none⟩]) (
  .cond (.t 15) (.skip) (.exit 0))) (
  .seq (.block 1 (.seq (.reg false [⟨some 18, .mv (.t 0), none⟩,
      ⟨some 19, .mv (.t 5), none⟩,
      ⟨some 20, .iad 5 (.t 18) (.t 19), none⟩,
      ⟨some 21, .load true [.s, (.i .i64), (.i .i64), (.sl 7), (.sl 2)] (.t 20), none⟩,
      ⟨some 22, .mv (.t 1), none⟩,
      ⟨some 23, .call (.f 208) [.rd, .rd] false [.c (.i .i64)] [(.t 21), (.t 22)], none⟩,
      ⟨some 1, .mv (.t 23), none⟩]) (
    .seq (.reg false [⟨some 24, .mv (.t 1), none⟩,
      ⟨some 25, .bin .lss (.t 24) (.c (.v (.int .i64 0))), none⟩]) (
    .cond (.t 25) (.seq (.reg false [⟨some 4, .mv (.c (.v (.int .i64 (-1)))), none⟩]) (
      .ret)) (.skip))))) (
  .reg false [⟨some 16, .mv (.t 5), none⟩,
    ⟨some 17, .bin .add (.t 16) (.c (.v (.int .i64 1))), none⟩,
    ⟨some 5, .mv (.t 17), none⟩])))
def e100x0 : Exits := [(.ret, [(4, .c (.i .i64))]), ((.exit 0), [(1, .c (.i .i64))])]
noncomputable def l100x0 (T : Table) (k : Nat) := loopN (evalC ⟨T, []⟩ k b100x0 (Ex × List AV)) [0, 1, 5] e100x0
def a100 : AFun := ⟨[.rd, .rd], false, [.t 4], (
  .seq (.reg false [⟨some 4, .mv (.c (.v (.int .i64 0))), none⟩]) (
  .seq (.reg false [⟨some 6, .mv (.t 1), none⟩,
    ⟨some 7, .mv (.t 0), none⟩,
    ⟨some 8, .len false (.t 7), none⟩,
    ⟨some 9, .bin .sub (.t 6) (.t 8), none⟩,
    ⟨some 1, .mv (.t 9), none⟩]) (
  .seq (.seq (.reg false [⟨some 10, .mv (.t 1), none⟩,
    ⟨some 11, .bin .lss (.t 10) (.c (.v (.int .i64 0))), none⟩]) (
  .cond (.t 11) (.seq (.reg false [⟨some 4, .mv (.c (.v (.int .i64 (-1)))), none⟩]) (
    .ret)) (.skip))) (
  .seq (.seq (.reg false [⟨some 5, .mv (.c (.v (.int .i64 0))), none⟩]) (
  .block 0 (.loop [0, 1, 5] e100x0 b100x0))) (
  .seq (.reg false [⟨some 26, .mv (.t 1), none⟩,
    ⟨some 4, .mv (.t 26), none⟩]) (
  .ret))))))⟩
theorem l100x0s (T : Table) (k n : Nat) (l3 : Rows) (n4 : Int) (n5 : Int) : l100x0 T k (n + 1) [(.fz 5 l3), (.v (.int .i64 n4)), (.v (.int .i64 n5))] = (
 bif (decide (n5 < (l3.length : Int))) then (
 tst (decide (0 ≤ n5)) (
 look l3 (Int.toNat n5) fun r6 =>
 cS r6 0 fun s7 =>
 cI .i64 r6 1 fun n8 =>
 cI .i64 r6 2 fun n9 =>
 cL 7 r6 3 fun l10 =>
 cL 2 r6 4 fun l11 =>
 callT T 208 [(.g [(.v (.string s7)), (.v (.int .i64 n8)), (.v (.int .i64 n9)), (.s 7 l10), (.s 2 l11)]), (.d (.v (.int .i64 n4)))] fun o12 =>
 oD o12.res fun d13 =>
 dI .i64 d13 fun n14 =>
 bif (decide (n14 < 0)) then (
 some (.ret, [(.v (.int .i64 (-1)))])) else (
 l100x0 T k n [(.fz 5 l3), (.v (.int .i64 n14)), (.v (.int .i64 (IntKind.wrap .i64 (n5 + 1))))]))) else (
 some ((.exit 0), [(.v (.int .i64 n4))]))) := by kernel_rfl
theorem a100q (T : Table) (k : Nat) (l1 : Rows) (n2 : Int) : evalF T k a100 [(.d (.s 5 l1)), (.d (.v (.int .i64 n2)))] = (
 bif (decide ((IntKind.wrap .i64 (n2 - (l1.length : Int))) < 0)) then (
 some ⟨(.d (.v (.int .i64 (-1)))), []⟩) else (
 aft (l100x0 T k k [(.fz 5 l1), (.v (.int .i64 (IntKind.wrap .i64 (n2 - (l1.length : Int))))), (.v (.int .i64 0))]) fun e15 ys16 =>
 bif e15.same .ret then (
 aV ys16 0 fun x17 =>
 aI .i64 x17 fun n18 =>
 some ⟨(.d (.v (.int .i64 n18))), []⟩) else (
 bif e15.same (.exit 0) then (
 aV ys16 0 fun x19 =>
 aI .i64 x19 fun n20 =>
 some ⟨(.d (.v (.int .i64 n20))), []⟩) else (
 none)))) := by kernel_rfl
/- loop.example/g00119/laws.szMsg -/

def a209 : AFun := ⟨[.rd, .rd], false, [.t 4], (
  .seq (.reg false [⟨some 2, .box (.t 0), none⟩,
    ⟨some 4, .mv (.c (.v (.int .i64 0))), none⟩]) (
  .seq (.reg false [⟨some 5, .mv (.t 1), none⟩,
    ⟨some 6, .fad 1 (.t 2), none⟩,
    ⟨some 7, .load false [.s] (.t 6), none⟩,
    ⟨some 8, .len true (.t 7), none⟩,
    ⟨some 9, .bin .sub (.t 5) (.t 8), none⟩,
    ⟨some 1, .mv (.t 9), none⟩]) (
  .seq (.seq (.reg false [⟨some 10, .mv (.t 1), none⟩,
    ⟨some 11, .bin .lss (.t 10) (.c (.v (.int .i64 0))), none⟩]) (
  .cond (.t 11) (.seq (.reg false [⟨some 4, .mv (.c (.v (.int .i64 (-1)))), none⟩]) (
    .ret)) (.skip))) (
  .seq (.reg false [⟨some 12, .fad 3 (.t 2), none⟩,
    ⟨some 13, .load false [(.sl 7)] (.t 12), none⟩,
    ⟨some 14, .mv (.t 1), none⟩,
    ⟨some 15, .call (.f 299) [.rd, .rd] false [.c (.i .i64)] [(.t 13), (.t 14)], none⟩,
    ⟨some 1, .mv (.t 15), none⟩]) (
  .seq (.seq (.reg false [⟨some 16, .mv (.t 1), none⟩,
    ⟨some 17, .bin .lss (.t 16) (.c (.v (.int .i64 0))), none⟩]) (
  .cond (.t 17) (.seq (.reg false [⟨some 4, .mv (.c (.v (.int .i64 (-1)))), none⟩]) (
    .ret)) (.skip))) (
  .seq (.reg false [⟨some 18, .fad 4 (.t 2), none⟩,
    ⟨some 19, .load false [(.sl 2)] (.t 18), none⟩,
    ⟨some 20, .mv (.t 1), none⟩,
    ⟨some 21, .call (.f 71) [.rd, .rd] false [.c (.i .i64)] [(.t 19), (.t 20)], none⟩,
    ⟨some 1, .mv (.t 21), none⟩]) (
  .seq (.seq (.reg false [⟨some 22, .mv (.t 1), none⟩,
    ⟨some 23, .bin .lss (.t 22) (.c (.v (.int .i64 0))), none⟩]) (
  .cond (.t 23) (.seq (.reg false [⟨some 4, .mv (.c (.v (.int .i64 (-1)))), none⟩]) (
    .ret)) (.skip))) (
  .seq (.reg false [⟨some 24, .mv (.t 1), none⟩,
    ⟨some 4, .mv (.t 24), none⟩]) (
  .ret)))))))))⟩

theorem a209q (T : Table) (k : Nat) (n1 : Int) (s2 : ByteArray) (n3 : Int) (l4 : Rows) (l5 : Rows) (n6 : Int) : evalF T k a209 [(.g [(.v (.int .i64 n1)), (.v (.string s2)), (.v (.int .i64 n3)), (.s 7 l4), (.s 2 l5)]), (.d (.v (.int .i64 n6)))] = (
 bif (decide ((IntKind.wrap .i64 (n6 - (s2.size : Int))) < 0)) then (
 some ⟨(.d (.v (.int .i64 (-1)))), []⟩) else (
 callT T 299 [(.d (.s 7 l4)), (.d (.v (.int .i64 (IntKind.wrap .i64 (n6 - (s2.size : Int))))))] fun o7 =>
 oD o7.res fun d8 =>
 dI .i64 d8 fun n9 =>
 bif (decide (n9 < 0)) then (
 some ⟨(.d (.v (.int .i64 (-1)))), []⟩) else (
 callT T 71 [(.d (.s 2 l5)), (.d (.v (.int .i64 n9)))] fun o10 =>
 oD o10.res fun d11 =>
 dI .i64 d11 fun n12 =>
 bif (decide (n12 < 0)) then (
 some ⟨(.d (.v (.int .i64 (-1)))), []⟩) else (
 some ⟨(.d (.v (.int .i64 n12))), []⟩)))) := by kernel_rfl
/- loop.example/g00119/laws.szMsgS -/
def b101x0 : ACode := (
  .seq (.seq (.reg false [⟨some 12, .mv (.t 5), none⟩,
    ⟨some 13, .mv (.t 0), none⟩,
    ⟨some 14, .len false (.t 13), none⟩,
    ⟨some 15, .bin .lss (.t 12) (.t 14), none⟩]) (
  .cond (.t 15) (.skip) (.exit 0))) (
  .seq (.block 1 (.seq (.reg false [⟨some 18, .mv (.t 0), none⟩,
      ⟨some 19, .mv (.t 5), none⟩,
      ⟨some 20, .iad 5 (.t 18) (.t 19), none⟩,
      ⟨some 21, .load true [(.i .i64), .s, (.i .i64), (.sl 7), (.sl 2)] (.t 20), none⟩,
      ⟨some 22, .mv (.t 1), none⟩,
      ⟨some 23, .call (.f 209) [.rd, .rd] false [.c (.i .i64)] [(.t 21), (.t 22)], none⟩,
      ⟨some 1, .mv (.t 23), none⟩]) (
    .seq (.reg false [⟨some 24, .mv (.t 1), none⟩,
      ⟨some 25, .bin .lss (.t 24) (.c (.v (.int .i64 0))), none⟩]) (
    .cond (.t 25) (.seq (.reg false [⟨some 4, .mv (.c (.v (.int .i64 (-1)))), none⟩]) (
      .ret)) (.skip))))) (
  .reg false [⟨some 16, .mv (.t 5), none⟩,
    ⟨some 17, .bin .add (.t 16) (.c (.v (.int .i64 1))), none⟩,
    ⟨some 5, .mv (.t 17), none⟩])))
def e101x0 : Exits := [(.ret, [(4, .c (.i .i64))]), ((.exit 0), [(1, .c (.i .i64))])]
noncomputable def l101x0 (T : Table) (k : Nat) := loopN (evalC ⟨T, []⟩ k b101x0 (Ex × List AV)) [0, 1, 5] e101x0
def a101 : AFun := ⟨[.rd, .rd], false, [.t 4], (
  .seq (.reg false [⟨some 4, .mv (.c (.v (.int .i64 0))), none⟩]) (
  .seq (.reg false [⟨some 6, .mv (.t 1), none⟩,
    ⟨some 7, .mv (.t 0), none⟩,
    ⟨some 8, .len false (.t 7), none⟩,
    ⟨some 9, .bin .sub (.t 6) (.t 8), none⟩,
    ⟨some 1, .mv (.t 9), none⟩]) (
  .seq (.seq (.reg false [⟨some 10, .mv (.t 1), none⟩,
    ⟨some 11, .bin .lss (.t 10) (.c (.v (.int .i64 0))), none⟩]) (
  .cond (.t 11) (.seq (.reg false [⟨some 4, .mv (.c (.v (.int .i64 (-1)))), none⟩]) (
    .ret)) (.skip))) (
  .seq (.seq (.reg false [⟨some 5, .mv (.c (.v (.int .i64 0))), none⟩]) (
  .block 0 (.loop [0, 1, 5] e101x0 b101x0))) (
  .seq (.reg false [⟨some 26, .mv (.t 1), none⟩,
    ⟨some 4, .mv (.t 26), none⟩]) (
  .ret))))))⟩
theorem l101x0s (T : Table) (k n : Nat) (l3 : Rows) (n4 : Int) (n5 : Int) : l101x0 T k (n + 1) [(.fz 5 l3), (.v (.int .i64 n4)), (.v (.int .i64 n5))] = (
 bif (decide (n5 < (l3.length : Int))) then (
 tst (decide (0 ≤ n5)) (
 look l3 (Int.toNat n5) fun r6 =>
 cI .i64 r6 0 fun n7 =>
 cS r6 1 fun s8 =>
 cI .i64 r6 2 fun n9 =>
 cL 7 r6 3 fun l10 =>
 cL 2 r6 4 fun l11 =>
 callT T 209 [(.g [(.v (.int .i64 n7)), (.v (.string s8)), (.v (.int .i64 n9)), (.s 7 l10), (.s 2 l11)]), (.d (.v (.int .i64 n4)))] fun o12 =>
 oD o12.res fun d13 =>
 dI .i64 d13 fun n14 =>
 bif (decide (n14 < 0)) then (
 some (.ret, [(.v (.int .i64 (-1)))])) else (
 l101x0 T k n [(.fz 5 l3), (.v (.int .i64 n14)), (.v (.int .i64 (IntKind.wrap .i64 (n5 + 1))))]))) else (
 some ((.exit 0), [(.v (.int .i64 n4))]))) := by kernel_rfl
theorem a101q (T : Table) (k : Nat) (l1 : Rows) (n2 : Int) : evalF T k a101 [(.d (.s 5 l1)), (.d (.v (.int .i64 n2)))] = (
 bif (decide ((IntKind.wrap .i64 (n2 - (l1.length : Int))) < 0)) then (
 some ⟨(.d (.v (.int .i64 (-1)))), []⟩) else (
 aft (l101x0 T k k [(.fz 5 l1), (.v (.int .i64 (IntKind.wrap .i64 (n2 - (l1.length : Int))))), (.v (.int .i64 0))]) fun e15 ys16 =>
 bif e15.same .ret then (
 aV ys16 0 fun x17 =>
 aI .i64 x17 fun n18 =>
 some ⟨(.d (.v (.int .i64 n18))), []⟩) else (
 bif e15.same (.exit 0) then (
 aV ys16 0 fun x19 =>
 aI .i64 x19 fun n20 =>
 some ⟨(.d (.v (.int .i64 n20))), []⟩) else (
 none)))) := by kernel_rfl
/- loop.example/g00119/laws.szFed -/

def a23 : AFun := ⟨[.rd, .rd], false, [.t 4], (
  .seq (.reg false [⟨some 2, .box (.t 0), none⟩,
    ⟨some 4, .mv (.c (.v (.int .i64 0))), none⟩]) (
  .seq (.reg false [⟨some 5, .fad 0 (.t 2), none⟩,
    ⟨some 6, .load true [(.i .i64), (.i .i64), (.i .i64), (.sl 13), (.sl 6), (.sl 5), (.sl 1)] (.t 5), none⟩,
    ⟨some 7, .mv (.t 1), none⟩,
    ⟨some 8, .call (.f 9) [.rd, .rd] false [.c (.i .i64)] [(.t 6), (.t 7)], none⟩,
    ⟨some 1, .mv (.t 8), none⟩]) (
  .seq (.seq (.reg false [⟨some 9, .mv (.t 1), none⟩,
    ⟨some 10, .bin .lss (.t 9) (.c (.v (.int .i64 0))), none⟩]) (
  .cond (.t 10) (.seq (.reg false [⟨some 4, .mv (.c (.v (.int .i64 (-1)))), none⟩]) (
    .ret)) (.skip))) (
  .seq (.reg false [⟨some 11, .fad 8 (.t 2), none⟩,
    ⟨some 12, .load false [(.sl 1)] (.t 11), none⟩,
    ⟨some 13, .mv (.t 1), none⟩,
    ⟨some 14, .call (.f 99) [.rd, .rd] false [.c (.i .i64)] [(.t 12), (.t 13)], none⟩,
    ⟨some 1, .mv (.t 14), none⟩]) (
  .seq (.seq (.reg false [⟨some 15, .mv (.t 1), none⟩,
    ⟨some 16, .bin .lss (.t 15) (.c (.v (.int .i64 0))), none⟩]) (
  .cond (.t 16) (.seq (.reg false [⟨some 4, .mv (.c (.v (.int .i64 (-1)))), none⟩]) (
    .ret)) (.skip))) (
  .seq (.reg false [⟨some 17, .fad 9 (.t 2), none⟩,
    ⟨some 18, .load false [(.sl 5)] (.t 17), none⟩,
    ⟨some 19, .mv (.t 1), none⟩,
    ⟨some 20, .call (.f 100) [.rd, .rd] false [.c (.i .i64)] [(.t 18), (.t 19)], none⟩,
    ⟨some 1, .mv (.t 20), none⟩]) (
  .seq (.seq (.reg false [⟨some 21, .mv (.t 1), none⟩,
    ⟨some 22, .bin .lss (.t 21) (.c (.v (.int .i64 0))), none⟩]) (
  .cond (.t 22) (.seq (.reg false [⟨some 4, .mv (.c (.v (.int .i64 (-1)))), none⟩]) (
    .ret)) (.skip))) (
  .seq (.reg false [⟨some 23, .fad 10 (.t 2), none⟩,
    ⟨some 24, .load false [(.sl 5)] (.t 23), none⟩,
    ⟨some 25, .mv (.t 1), none⟩,
    ⟨some 26, .call (.f 101) [.rd, .rd] false [.c (.i .i64)] [(.t 24), (.t 25)], none⟩,
    ⟨some 1, .mv (.t 26), none⟩]) (
  .seq (.seq (.reg false [⟨some 27, .mv (.t 1), none⟩,
    ⟨some 28, .bin .lss (.t 27) (.c (.v (.int .i64 0))), none⟩]) (
  .cond (.t 28) (.seq (.reg false [⟨some 4, .mv (.c (.v (.int .i64 (-1)))), none⟩]) (
    .ret)) (.skip))) (
  .seq (.reg false [⟨some 29, .fad 11 (.t 2), none⟩,
    ⟨some 30, .load false [(.sl 1)] (.t 29), none⟩,
    ⟨some 31, .mv (.t 1), none⟩,
    ⟨some 32, .call (.f 50) [.rd, .rd] false [.c (.i .i64)] [(.t 30), (.t 31)], none⟩,
    ⟨some 1, .mv (.t 32), none⟩]) (
  .seq (.seq (.reg false [⟨some 33, .mv (.t 1), none⟩,
    ⟨some 34, .bin .lss (.t 33) (.c (.v (.int .i64 0))), none⟩]) (
  .cond (.t 34) (.seq (.reg false [⟨some 4, .mv (.c (.v (.int .i64 (-1)))), none⟩]) (
    .ret)) (.skip))) (
  .seq (.reg false [⟨some 35, .mv (.t 1), none⟩,
    ⟨some 4, .mv (.t 35), none⟩]) (
  .ret)))))))))))))⟩

theorem a23q (T : Table) (k : Nat) (n1 : Int) (n2 : Int) (n3 : Int) (l4 : Rows) (l5 : Rows) (l6 : Rows) (l7 : Rows) (b8 : Bool) (l9 : Rows) (l10 : Rows) (l11 : Rows) (l12 : Rows) (n13 : Int) : evalF T k a23 [(.g [(.v (.int .i64 n1)), (.v (.int .i64 n2)), (.v (.int .i64 n3)), (.s 13 l4), (.s 6 l5), (.s 5 l6), (.s 1 l7), (.v (.bool b8)), (.s 1 l9), (.s 5 l10), (.s 5 l11), (.s 1 l12)]), (.d (.v (.int .i64 n13)))] = (
 callT T 9 [(.g [(.v (.int .i64 n1)), (.v (.int .i64 n2)), (.v (.int .i64 n3)), (.s 13 l4), (.s 6 l5), (.s 5 l6), (.s 1 l7)]), (.d (.v (.int .i64 n13)))] fun o14 =>
 oD o14.res fun d15 =>
 dI .i64 d15 fun n16 =>
 bif (decide (n16 < 0)) then (
 some ⟨(.d (.v (.int .i64 (-1)))), []⟩) else (
 callT T 99 [(.d (.s 1 l9)), (.d (.v (.int .i64 n16)))] fun o17 =>
 oD o17.res fun d18 =>
 dI .i64 d18 fun n19 =>
 bif (decide (n19 < 0)) then (
 some ⟨(.d (.v (.int .i64 (-1)))), []⟩) else (
 callT T 100 [(.d (.s 5 l10)), (.d (.v (.int .i64 n19)))] fun o20 =>
 oD o20.res fun d21 =>
 dI .i64 d21 fun n22 =>
 bif (decide (n22 < 0)) then (
 some ⟨(.d (.v (.int .i64 (-1)))), []⟩) else (
 callT T 101 [(.d (.s 5 l11)), (.d (.v (.int .i64 n22)))] fun o23 =>
 oD o23.res fun d24 =>
 dI .i64 d24 fun n25 =>
 bif (decide (n25 < 0)) then (
 some ⟨(.d (.v (.int .i64 (-1)))), []⟩) else (
 callT T 50 [(.d (.s 1 l12)), (.d (.v (.int .i64 n25)))] fun o26 =>
 oD o26.res fun d27 =>
 dI .i64 d27 fun n28 =>
 bif (decide (n28 < 0)) then (
 some ⟨(.d (.v (.int .i64 (-1)))), []⟩) else (
 some ⟨(.d (.v (.int .i64 n28))), []⟩)))))) := by kernel_rfl
/- loop.example/g00119/spec.l16Isle -/
def b102x0 : ACode := (
  .seq (.seq (.reg false [⟨some 6, .mv (.t 5), none⟩,
    ⟨some 7, .mv (.t 0), none⟩,
    ⟨some 8, .more (.nck (.t 7)), none⟩,
    ⟨some 9, .fad 9 (.t 8), none⟩,
    ⟨some 10, .load false [(.sl 5)] (.t 9), none⟩,
    ⟨some 11, .len false (.t 10), none⟩,
    ⟨some 12, .bin .lss (.t 6) (.t 11), none⟩]) (
  .cond (.t 12) (.skip) (.exit 0))) (
  .seq (.block 1 (.seq (.reg false [⟨some 15, .mv (.t 0), none⟩,
      ⟨some 16, .more (.nck (.t 15)), none⟩,
      ⟨some 17, .fad 9 (.t 16), none⟩,
      ⟨some 18, .load false [(.sl 5)] (.t 17), none⟩,
      ⟨some 19, .mv (.t 5), none⟩,
      ⟨some 20, .iad 5 (.t 18) (.t 19), none⟩,
      ⟨some 21, .fad 0 (.t 20), none⟩,
      ⟨some 22, .load false [.s] (.t 21), none⟩,
      ⟨some 23, .mv (.t 1), none⟩,
      ⟨some 24, .bin .eql (.t 22) (.t 23), none⟩]) (
    .cond (.t 24) (.seq (.reg false [⟨some 25, .mv (.t 5), none⟩,
        ⟨some 4, .mv (.t 25), none⟩]) (
      .ret)) (.skip)))) (
  .reg false [⟨some 13, .mv (.t 5), none⟩,
    ⟨some 14, .bin .add (.t 13) (.c (.v (.int .i64 1))), none⟩,
    ⟨some 5, .mv (.t 14), none⟩])))
def e102x0 : Exits := [(.ret, [(4, .c (.i .i64))]), ((.exit 0), [])]
noncomputable def l102x0 (T : Table) (k : Nat) := loopN (evalC ⟨T, []⟩ k b102x0 (Ex × List AV)) [0, 1, 5] e102x0
def a102 : AFun := ⟨[.rd, .rd], false, [.t 4], (
  .seq (.reg false [⟨some 4, .mv (.c (.v (.int .i64 0))), none⟩]) (
  .seq (.seq (.reg false [⟨some 5, .mv (.c (.v (.int .i64 0))), none⟩]) (
  .block 0 (.loop [0, 1, 5] e102x0 b102x0))) (
  .seq (.reg false [⟨some 4, .mv (.c (.v (.int .i64 (-1)))), none⟩]) (
  .ret))))⟩
theorem l102x0s (T : Table) (k n : Nat) (r14 : Row) (s15 : ByteArray) (n16 : Int) : l102x0 T k (n + 1) [(.fa r14 0), (.v (.string s15)), (.v (.int .i64 n16))] = (
 cL 5 r14 9 fun l17 =>
 bif (decide (n16 < (l17.length : Int))) then (
 cL 5 r14 9 fun l18 =>
 tst (decide (0 ≤ n16)) (
 look l18 (Int.toNat n16) fun r19 =>
 cS r19 0 fun s20 =>
 bif (bytesEq s20 s15) then (
 some (.ret, [(.v (.int .i64 n16))])) else (
 l102x0 T k n [(.fa r14 0), (.v (.string s15)), (.v (.int .i64 (IntKind.wrap .i64 (n16 + 1))))]))) else (
 some ((.exit 0), []))) := by kernel_rfl
theorem a102q (T : Table) (k : Nat) (n1 : Int) (n2 : Int) (n3 : Int) (l4 : Rows) (l5 : Rows) (l6 : Rows) (l7 : Rows) (b8 : Bool) (l9 : Rows) (l10 : Rows) (l11 : Rows) (l12 : Rows) (s13 : ByteArray) : evalF T k a102 [(.p [(.v (.int .i64 n1)), (.v (.int .i64 n2)), (.v (.int .i64 n3)), (.s 13 l4), (.s 6 l5), (.s 5 l6), (.s 1 l7), (.v (.bool b8)), (.s 1 l9), (.s 5 l10), (.s 5 l11), (.s 1 l12)]), (.d (.v (.string s13)))] = (
 aft (l102x0 T k k [(.fa [(.v (.int .i64 n1)), (.v (.int .i64 n2)), (.v (.int .i64 n3)), (.s 13 l4), (.s 6 l5), (.s 5 l6), (.s 1 l7), (.v (.bool b8)), (.s 1 l9), (.s 5 l10), (.s 5 l11), (.s 1 l12)] 0), (.v (.string s13)), (.v (.int .i64 0))]) fun e21 ys22 =>
 bif e21.same .ret then (
 aV ys22 0 fun x23 =>
 aI .i64 x23 fun n24 =>
 some ⟨(.d (.v (.int .i64 n24))), []⟩) else (
 bif e21.same (.exit 0) then (
 some ⟨(.d (.v (.int .i64 (-1)))), []⟩) else (
 none))) := by kernel_rfl
/- loop.example/g00119/spec.l4Copy -/
def b226x0 : ACode := (
  .seq (.seq (.reg false [⟨some 16, .mv (.t 4), none⟩,
    ⟨some 17, .fad 4 (.t 1), none⟩,
    ⟨some 18, .load false [(.sl 5)] (.t 17), none⟩,
    ⟨some 19, .len false (.t 18), none⟩,
    ⟨some 20, .bin .lss (.t 16) (.t 19), none⟩]) (
  .cond (.t 20) (.skip) (.exit 0))) (
  .seq (.block 1 (.dreg [(3, 4, [(.sl 5)])] [(0, ⟨some 23, .fad 4 (.t 3), none⟩),
      (0, ⟨some 24, .load false [(.sl 5)] (.t 23), none⟩),
      (0, ⟨some 25, .fad 4 (.t 1), none⟩),
      (0, ⟨some 26, .load false [(.sl 5)] (.t 25), none⟩),
      (0, ⟨some 27, .mv (.t 4), none⟩),
      (0, ⟨some 28, .iad 5 (.t 26) (.t 27), none⟩),
      (0, ⟨some 29, .load true [(.i .i64), .s, (.i .i64), (.sl 1), (.sl 5)] (.t 28), none⟩),
      (1, ⟨some 30, .call (.f 226) [.rd] false [.g [(.i .i64), .s, (.i .i64), (.sl 1), (.sl 5)]] [(.t 29)], none⟩),
      (1, ⟨some 31, .lit 5 ([[(.v (.int .i64 0)), (.v (.string ByteArray.empty)), (.v (.int .i64 0)), (.s 1 []), (.s 5 [])]] : Rows) [(0, (.t 30))], none⟩)] [⟨some 32, .app 5 80 (.t 24) (.t 31), none⟩,
      ⟨some 33, .fad 4 (.t 3), none⟩,
      ⟨none, .store 1 (.t 33) (.t 32), none⟩])) (
  .reg false [⟨some 21, .mv (.t 4), none⟩,
    ⟨some 22, .bin .add (.t 21) (.c (.v (.int .i64 1))), none⟩,
    ⟨some 4, .mv (.t 22), none⟩])))
def e226x0 : Exits := [((.exit 0), [(2, .b [.c (.i .i64), .c .s, .c (.i .i64), .o 1, .o 5]), (3, .b [.c (.i .i64), .c .s, .c (.i .i64), .o 1, .o 5])])]
noncomputable def l226x0 (T : Table) (k : Nat) := loopN (evalC ⟨T, []⟩ k b226x0 (Ex × List AV)) [1, 2, 3, 4] e226x0
def a226 : AFun := ⟨[.rd], false, [.c 2 true [(.i .i64), .s, (.i .i64), (.sl 1), (.sl 5)]], (
  .seq (.reg false [⟨some 1, .box (.t 0), none⟩,
    ⟨some 2, .alloc [(.v (.int .i64 0)), (.v (.string ByteArray.empty)), (.v (.int .i64 0)), (.s 1 []), (.s 5 [])], none⟩]) (
  .seq (.dreg [] [(0, ⟨some 5, .fad 0 (.t 1), none⟩),
    (0, ⟨some 6, .load false [(.i .i64)] (.t 5), none⟩),
    (0, ⟨some 7, .fad 1 (.t 1), none⟩),
    (0, ⟨some 8, .load false [.s] (.t 7), none⟩),
    (0, ⟨some 9, .fad 2 (.t 1), none⟩),
    (0, ⟨some 10, .load false [(.i .i64)] (.t 9), none⟩),
    (0, ⟨some 11, .lit 1 ([] : Rows) [], none⟩),
    (0, ⟨some 12, .fad 3 (.t 1), none⟩),
    (0, ⟨some 13, .load false [(.sl 1)] (.t 12), none⟩),
    (1, ⟨some 14, .app 1 16 (.t 11) (.t 13), none⟩),
    (0, ⟨some 15, .build [(.v (.int .i64 0)), (.v (.string ByteArray.empty)), (.v (.int .i64 0)), (.s 1 []), (.s 5 [])] [(0, 1, (.t 6)), (1, 1, (.t 8)), (2, 1, (.t 10)), (3, 1, (.t 14))], none⟩),
    (2, ⟨some 3, .alloc [(.v (.int .i64 0)), (.v (.string ByteArray.empty)), (.v (.int .i64 0)), (.s 1 []), (.s 5 [])], none⟩)] [⟨none, .store 5 (.t 3) (.t 15), none⟩]) (
  .seq (.seq (.reg false [⟨some 4, .mv (.c (.v (.int .i64 0))), none⟩]) (
  .block 0 (.loop [1, 2, 3, 4] e226x0 b226x0))) (
  .seq (.reg false [⟨some 34, .load true [(.i .i64), .s, (.i .i64), (.sl 1), (.sl 5)] (.t 3), none⟩,
    ⟨none, .store 5 (.t 2) (.t 34), none⟩]) (
  .ret)))))⟩
theorem l226x0s (T : Table) (k n : Nat) (n6 : Int) (s7 : ByteArray) (n8 : Int) (l9 : Rows) (l10 : Rows) (n11 : Int) (s12 : ByteArray) (n13 : Int) (l14 : Rows) (l15 : Rows) (n16 : Int) (s17 : ByteArray) (n18 : Int) (l19 : Rows) (l20 : Rows) (n21 : Int) : l226x0 T k (n + 1) [(.b [(.v (.int .i64 n6)), (.v (.string s7)), (.v (.int .i64 n8)), (.fz 1 l9), (.fz 5 l10)]), (.b [(.v (.int .i64 n11)), (.v (.string s12)), (.v (.int .i64 n13)), (.o 1 l14), (.o 5 l15)]), (.b [(.v (.int .i64 n16)), (.v (.string s17)), (.v (.int .i64 n18)), (.o 1 l19), (.o 5 l20)]), (.v (.int .i64 n21))] = (
 bif (decide (n21 < (l10.length : Int))) then (
 tst (decide (0 ≤ n21)) (
 look l10 (Int.toNat n21) fun r22 =>
 cI .i64 r22 0 fun n23 =>
 cS r22 1 fun s24 =>
 cI .i64 r22 2 fun n25 =>
 cL 1 r22 3 fun l26 =>
 cL 5 r22 4 fun l27 =>
 callT T 226 [(.g [(.v (.int .i64 n23)), (.v (.string s24)), (.v (.int .i64 n25)), (.s 1 l26), (.s 5 l27)])] fun o28 =>
 oG o28.res fun r29 =>
 tst (Nat.beq r29.length 5) (
 cI .i64 r29 0 fun n30 =>
 cS r29 1 fun s31 =>
 cI .i64 r29 2 fun n32 =>
 cL 1 r29 3 fun l33 =>
 cL 5 r29 4 fun l34 =>
 tst (decide ((l20.length + ([[(.v (.int .i64 n30)), (.v (.string s31)), (.v (.int .i64 n32)), hole, hole]] : Rows).length) * 80 ≤ maxBytes)) (
 l226x0 T k n [(.b [(.v (.int .i64 n6)), (.v (.string s7)), (.v (.int .i64 n8)), (.fz 1 l9), (.fz 5 l10)]), (.b [(.v (.int .i64 n11)), (.v (.string s12)), (.v (.int .i64 n13)), (.o 1 l14), (.o 5 l15)]), (.b [(.v (.int .i64 n16)), (.v (.string s17)), (.v (.int .i64 n18)), (.o 1 l19), (.o 5 (setD (setD (l20 ++ ([[(.v (.int .i64 n30)), (.v (.string s31)), (.v (.int .i64 n32)), hole, hole]] : Rows)) (0 + l20.length) 4 (.s 5 l34)) (0 + l20.length) 3 (.s 1 l33)))]), (.v (.int .i64 (IntKind.wrap .i64 (n21 + 1))))])))) else (
 some ((.exit 0), [(.b [(.v (.int .i64 n11)), (.v (.string s12)), (.v (.int .i64 n13)), (.o 1 l14), (.o 5 l15)]), (.b [(.v (.int .i64 n16)), (.v (.string s17)), (.v (.int .i64 n18)), (.o 1 l19), (.o 5 l20)])]))) := by kernel_rfl
theorem a226q (T : Table) (k : Nat) (n1 : Int) (s2 : ByteArray) (n3 : Int) (l4 : Rows) (l5 : Rows) : evalF T k a226 [(.g [(.v (.int .i64 n1)), (.v (.string s2)), (.v (.int .i64 n3)), (.s 1 l4), (.s 5 l5)])] = (
 tst (flatRows l4) (
 tst (decide ((([] : Rows).length + l4.length) * 16 ≤ maxBytes)) (
 aft (l226x0 T k k [(.b [(.v (.int .i64 n1)), (.v (.string s2)), (.v (.int .i64 n3)), (.fz 1 l4), (.fz 5 l5)]), (.b [(.v (.int .i64 0)), (.v (.string ByteArray.empty)), (.v (.int .i64 0)), (.o 1 []), (.o 5 [])]), (.b [(.v (.int .i64 n1)), (.v (.string s2)), (.v (.int .i64 n3)), (.o 1 (([] : Rows) ++ l4)), (.o 5 [])]), (.v (.int .i64 0))]) fun e35 ys36 =>
 bif e35.same (.exit 0) then (
 aV ys36 0 fun x37 =>
 aX x37 fun xs38 =>
 aV xs38 0 fun x39 =>
 aI .i64 x39 fun n40 =>
 aV xs38 1 fun x41 =>
 aS x41 fun s42 =>
 aV xs38 2 fun x43 =>
 aI .i64 x43 fun n44 =>
 aV xs38 3 fun x45 =>
 aO 1 x45 fun l46 =>
 aV xs38 4 fun x47 =>
 aO 5 x47 fun l48 =>
 aV ys36 1 fun x49 =>
 aX x49 fun xs50 =>
 aV xs50 0 fun x51 =>
 aI .i64 x51 fun n52 =>
 aV xs50 1 fun x53 =>
 aS x53 fun s54 =>
 aV xs50 2 fun x55 =>
 aI .i64 x55 fun n56 =>
 aV xs50 3 fun x57 =>
 aO 1 x57 fun l58 =>
 aV xs50 4 fun x59 =>
 aO 5 x59 fun l60 =>
 some ⟨(.g [(.v (.int .i64 n52)), (.v (.string s54)), (.v (.int .i64 n56)), (.s 1 l58), (.s 5 l60)]), []⟩) else (
 none)))) := by kernel_rfl
/- loop.example/g00119/spec.l12Works -/
def b210x0 : ACode := (
  .seq (.seq (.reg false [⟨some 6, .mv (.t 4), none⟩,
    ⟨some 7, .mv (.t 0), none⟩,
    ⟨some 8, .len false (.t 7), none⟩,
    ⟨some 9, .bin .lss (.t 6) (.t 8), none⟩]) (
  .cond (.t 9) (.skip) (.exit 0))) (
  .seq (.block 1 (.dreg [] [(0, ⟨some 12, .mv (.t 3), none⟩),
      (0, ⟨some 13, .mv (.t 0), none⟩),
      (0, ⟨some 14, .mv (.t 4), none⟩),
      (0, ⟨some 15, .iad 7 (.t 13) (.t 14), none⟩),
      (0, ⟨some 16, .fad 0 (.t 15), none⟩),
      (0, ⟨some 17, .load false [(.i .i64)] (.t 16), none⟩),
      (0, ⟨some 18, .mv (.t 0), none⟩),
      (0, ⟨some 19, .mv (.t 4), none⟩),
      (0, ⟨some 20, .iad 7 (.t 18) (.t 19), none⟩),
      (0, ⟨some 21, .fad 1 (.t 20), none⟩),
      (0, ⟨some 22, .load false [(.i .i64)] (.t 21), none⟩),
      (0, ⟨some 23, .mv (.t 0), none⟩),
      (0, ⟨some 24, .mv (.t 4), none⟩),
      (0, ⟨some 25, .iad 7 (.t 23) (.t 24), none⟩),
      (0, ⟨some 26, .fad 2 (.t 25), none⟩),
      (0, ⟨some 27, .load true [(.i .i64), .s, (.i .i64), (.sl 1), (.sl 5)] (.t 26), none⟩),
      (1, ⟨some 28, .call (.f 226) [.rd] false [.g [(.i .i64), .s, (.i .i64), (.sl 1), (.sl 5)]] [(.t 27)], none⟩),
      (0, ⟨some 29, .build [(.v (.int .i64 0)), (.v (.int .i64 0)), (.v (.int .i64 0)), (.v (.string ByteArray.empty)), (.v (.int .i64 0)), (.s 1 []), (.s 5 [])] [(0, 1, (.t 17)), (1, 1, (.t 22)), (2, 5, (.t 28))], none⟩),
      (1, ⟨some 30, .lit 7 ([[(.v (.int .i64 0)), (.v (.int .i64 0)), (.v (.int .i64 0)), (.v (.string ByteArray.empty)), (.v (.int .i64 0)), (.s 1 []), (.s 5 [])]] : Rows) [(0, (.t 29))], none⟩)] [⟨some 31, .app 7 96 (.t 12) (.t 30), none⟩,
      ⟨some 3, .mv (.t 31), none⟩])) (
  .reg false [⟨some 10, .mv (.t 4), none⟩,
    ⟨some 11, .bin .add (.t 10) (.c (.v (.int .i64 1))), none⟩,
    ⟨some 4, .mv (.t 11), none⟩])))
def e210x0 : Exits := [((.exit 0), [(3, .o 7)])]
noncomputable def l210x0 (T : Table) (k : Nat) := loopN (evalC ⟨T, []⟩ k b210x0 (Ex × List AV)) [0, 3, 4] e210x0
def a210 : AFun := ⟨[.rd], false, [.t 2], (
  .seq (.reg false [⟨some 2, .mv (.c (.o 7 [])), none⟩]) (
  .seq (.reg false [⟨some 5, .lit 7 ([] : Rows) [], none⟩,
    ⟨some 3, .mv (.t 5), none⟩]) (
  .seq (.seq (.reg false [⟨some 4, .mv (.c (.v (.int .i64 0))), none⟩]) (
  .block 0 (.loop [0, 3, 4] e210x0 b210x0))) (
  .seq (.reg false [⟨some 32, .mv (.t 3), none⟩,
    ⟨some 2, .mv (.t 32), none⟩]) (
  .ret)))))⟩
theorem l210x0s (T : Table) (k n : Nat) (l2 : Rows) (l3 : Rows) (n4 : Int) : l210x0 T k (n + 1) [(.fz 7 l2), (.o 7 l3), (.v (.int .i64 n4))] = (
 bif (decide (n4 < (l2.length : Int))) then (
 tst (decide (0 ≤ n4)) (
 look l2 (Int.toNat n4) fun r5 =>
 cI .i64 r5 0 fun n6 =>
 tst (decide (0 ≤ n4)) (
 look l2 (Int.toNat n4) fun r7 =>
 cI .i64 r7 1 fun n8 =>
 tst (decide (0 ≤ n4)) (
 look l2 (Int.toNat n4) fun r9 =>
 cI .i64 r9 2 fun n10 =>
 cS r9 3 fun s11 =>
 cI .i64 r9 4 fun n12 =>
 cL 1 r9 5 fun l13 =>
 cL 5 r9 6 fun l14 =>
 callT T 226 [(.g [(.v (.int .i64 n10)), (.v (.string s11)), (.v (.int .i64 n12)), (.s 1 l13), (.s 5 l14)])] fun o15 =>
 oG o15.res fun r16 =>
 tst (Nat.beq r16.length 5) (
 cI .i64 r16 0 fun n17 =>
 cS r16 1 fun s18 =>
 cI .i64 r16 2 fun n19 =>
 cL 1 r16 3 fun l20 =>
 cL 5 r16 4 fun l21 =>
 tst (decide ((l3.length + ([[(.v (.int .i64 n6)), (.v (.int .i64 n8)), (.v (.int .i64 n17)), (.v (.string s18)), (.v (.int .i64 n19)), hole, hole]] : Rows).length) * 96 ≤ maxBytes)) (
 l210x0 T k n [(.fz 7 l2), (.o 7 (setD (setD (l3 ++ ([[(.v (.int .i64 n6)), (.v (.int .i64 n8)), (.v (.int .i64 n17)), (.v (.string s18)), (.v (.int .i64 n19)), hole, hole]] : Rows)) (0 + l3.length) 6 (.s 5 l21)) (0 + l3.length) 5 (.s 1 l20))), (.v (.int .i64 (IntKind.wrap .i64 (n4 + 1))))])))))) else (
 some ((.exit 0), [(.o 7 l3)]))) := by kernel_rfl
theorem a210q (T : Table) (k : Nat) (l1 : Rows) : evalF T k a210 [(.d (.s 7 l1))] = (
 aft (l210x0 T k k [(.fz 7 l1), (.o 7 []), (.v (.int .i64 0))]) fun e22 ys23 =>
 bif e22.same (.exit 0) then (
 aV ys23 0 fun x24 =>
 aO 7 x24 fun l25 =>
 some ⟨(.d (.s 7 l25)), []⟩) else (
 none)) := by kernel_rfl
/- loop.example/g00119/spec.l13Copy -/

def a103 : AFun := ⟨[.rd], false, [.c 2 true [.s, (.i .i64), (.i .i64), (.sl 7), (.sl 2)]], (
  .seq (.reg false [⟨some 1, .box (.t 0), none⟩,
    ⟨some 2, .alloc [(.v (.string ByteArray.empty)), (.v (.int .i64 0)), (.v (.int .i64 0)), (.s 7 []), (.s 2 [])], none⟩]) (
  .seq (.dreg [] [(0, ⟨some 3, .fad 0 (.t 1), none⟩),
    (0, ⟨some 4, .load false [.s] (.t 3), none⟩),
    (0, ⟨some 5, .fad 1 (.t 1), none⟩),
    (0, ⟨some 6, .load false [(.i .i64)] (.t 5), none⟩),
    (0, ⟨some 7, .fad 2 (.t 1), none⟩),
    (0, ⟨some 8, .load false [(.i .i64)] (.t 7), none⟩),
    (0, ⟨some 9, .fad 3 (.t 1), none⟩),
    (0, ⟨some 10, .load false [(.sl 7)] (.t 9), none⟩),
    (1, ⟨some 11, .call (.f 210) [.rd] false [.c (.sl 7)] [(.t 10)], none⟩),
    (0, ⟨some 12, .lit 2 ([] : Rows) [], none⟩),
    (0, ⟨some 13, .fad 4 (.t 1), none⟩),
    (0, ⟨some 14, .load false [(.sl 2)] (.t 13), none⟩),
    (1, ⟨some 15, .app 2 16 (.t 12) (.t 14), none⟩)] [⟨some 16, .build [(.v (.string ByteArray.empty)), (.v (.int .i64 0)), (.v (.int .i64 0)), (.s 7 []), (.s 2 [])] [(0, 1, (.t 4)), (1, 1, (.t 6)), (2, 1, (.t 8)), (3, 1, (.t 11)), (4, 1, (.t 15))], none⟩,
    ⟨none, .store 5 (.t 2) (.t 16), none⟩]) (
  .ret)))⟩

theorem a103q (T : Table) (k : Nat) (s1 : ByteArray) (n2 : Int) (n3 : Int) (l4 : Rows) (l5 : Rows) : evalF T k a103 [(.g [(.v (.string s1)), (.v (.int .i64 n2)), (.v (.int .i64 n3)), (.s 7 l4), (.s 2 l5)])] = (
 callT T 210 [(.d (.s 7 l4))] fun o6 =>
 oD o6.res fun d7 =>
 dL 7 d7 fun l8 =>
 tst (flatRows l5) (
 tst (decide ((([] : Rows).length + l5.length) * 16 ≤ maxBytes)) (
 some ⟨(.g [(.v (.string s1)), (.v (.int .i64 n2)), (.v (.int .i64 n3)), (.s 7 l8), (.s 2 (([] : Rows) ++ l5))]), []⟩))) := by kernel_rfl
/- loop.example/g00119/spec.IsleOf -/

def a24 : AFun := ⟨[.rd, .rd], false, [.c 4 true [.s, (.i .i64), (.i .i64), (.sl 7), (.sl 2)], .t 5], (
  .seq (.reg false [⟨some 2, .box (.t 0), none⟩,
    ⟨some 4, .alloc [(.v (.string ByteArray.empty)), (.v (.int .i64 0)), (.v (.int .i64 0)), (.s 7 []), (.s 2 [])], none⟩,
    ⟨some 5, .mv (.c (.v (.bool false))), none⟩]) (
  .seq (.reg false [⟨some 7, .mv (.t 1), none⟩,
    ⟨some 8, .call (.f 102) [.rd, .rd] false [.c (.i .i64)] [(.t 2), (.t 7)], none⟩,
    ⟨some 6, .mv (.t 8), none⟩]) (
  .seq (.seq (.reg false [⟨some 9, .mv (.t 6), none⟩,
    ⟨some 10, .bin .lss (.t 9) (.c (.v (.int .i64 0))), none⟩]) (
  .cond (.t 10) (.seq (.reg false [⟨some 11, .build [(.v (.string ByteArray.empty)), (.v (.int .i64 0)), (.v (.int .i64 0)), (.s 7 []), (.s 2 [])] [], none⟩,
      ⟨none, .store 5 (.t 4) (.t 11), none⟩,
      ⟨some 5, .mv (.c (.v (.bool false))), none⟩]) (
    .ret)) (.skip))) (
  .seq (.reg false [⟨some 12, .fad 9 (.t 2), none⟩,
    ⟨some 13, .load false [(.sl 5)] (.t 12), none⟩,
    ⟨some 14, .mv (.t 6), none⟩,
    ⟨some 15, .iad 5 (.t 13) (.t 14), none⟩,
    ⟨some 16, .load true [.s, (.i .i64), (.i .i64), (.sl 7), (.sl 2)] (.t 15), none⟩,
    ⟨some 17, .call (.f 103) [.rd] false [.g [.s, (.i .i64), (.i .i64), (.sl 7), (.sl 2)]] [(.t 16)], none⟩,
    ⟨none, .store 5 (.t 4) (.t 17), none⟩,
    ⟨some 5, .mv (.c (.v (.bool true))), none⟩]) (
  .ret)))))⟩

theorem a24q (T : Table) (k : Nat) (n1 : Int) (n2 : Int) (n3 : Int) (l4 : Rows) (l5 : Rows) (l6 : Rows) (l7 : Rows) (b8 : Bool) (l9 : Rows) (l10 : Rows) (l11 : Rows) (l12 : Rows) (s13 : ByteArray) : evalF T k a24 [(.g [(.v (.int .i64 n1)), (.v (.int .i64 n2)), (.v (.int .i64 n3)), (.s 13 l4), (.s 6 l5), (.s 5 l6), (.s 1 l7), (.v (.bool b8)), (.s 1 l9), (.s 5 l10), (.s 5 l11), (.s 1 l12)]), (.d (.v (.string s13)))] = (
 callT T 102 [(.p [(.v (.int .i64 n1)), (.v (.int .i64 n2)), (.v (.int .i64 n3)), (.s 13 l4), (.s 6 l5), (.s 5 l6), (.s 1 l7), (.v (.bool b8)), (.s 1 l9), (.s 5 l10), (.s 5 l11), (.s 1 l12)]), (.d (.v (.string s13)))] fun o14 =>
 oD o14.res fun d15 =>
 dI .i64 d15 fun n16 =>
 bif (decide (n16 < 0)) then (
 some ⟨(.t [(.g [(.v (.string ByteArray.empty)), (.v (.int .i64 0)), (.v (.int .i64 0)), (.s 7 []), (.s 2 [])]), (.d (.v (.bool false)))]), []⟩) else (
 tst (decide (0 ≤ n16)) (
 look l10 (Int.toNat n16) fun r17 =>
 cS r17 0 fun s18 =>
 cI .i64 r17 1 fun n19 =>
 cI .i64 r17 2 fun n20 =>
 cL 7 r17 3 fun l21 =>
 cL 2 r17 4 fun l22 =>
 callT T 103 [(.g [(.v (.string s18)), (.v (.int .i64 n19)), (.v (.int .i64 n20)), (.s 7 l21), (.s 2 l22)])] fun o23 =>
 oG o23.res fun r24 =>
 tst (Nat.beq r24.length 5) (
 cS r24 0 fun s25 =>
 cI .i64 r24 1 fun n26 =>
 cI .i64 r24 2 fun n27 =>
 cL 7 r24 3 fun l28 =>
 cL 2 r24 4 fun l29 =>
 some ⟨(.t [(.g [(.v (.string s25)), (.v (.int .i64 n26)), (.v (.int .i64 n27)), (.s 7 l28), (.s 2 l29)]), (.d (.v (.bool true)))]), []⟩)))) := by kernel_rfl
/- loop.example/g00119/laws.toStringS -/
def b56x0 : ACode := (
  .seq (.seq (.reg false [⟨some 8, .mv (.t 4), none⟩,
    ⟨some 9, .mv (.t 0), none⟩,
    ⟨some 10, .len false (.t 9), none⟩,
    ⟨some 11, .bin .lss (.t 8) (.t 10), none⟩]) (
  .cond (.t 11) (.skip) (.exit 0))) (
  .seq (.block 1 (.reg false [⟨some 14, .mv (.t 3), none⟩,
      ⟨some 15, .mv (.t 4), none⟩,
      ⟨some 16, .mv (.t 0), none⟩,
      ⟨some 17, .mv (.t 4), none⟩,
      ⟨some 18, .iad 1 (.t 16) (.t 17), none⟩,
      ⟨some 19, .load false [.s] (.t 18), none⟩,
      ⟨some 20, .iad 1 (.t 14) (.t 15), none⟩,
      ⟨none, .store 1 (.t 20) (.t 19), none⟩])) (
  .reg false [⟨some 12, .mv (.t 4), none⟩,
    ⟨some 13, .bin .add (.t 12) (.c (.v (.int .i64 1))), none⟩,
    ⟨some 4, .mv (.t 13), none⟩])))
def e56x0 : Exits := [((.exit 0), [(3, .o 1)])]
noncomputable def l56x0 (T : Table) (k : Nat) := loopN (evalC ⟨T, []⟩ k b56x0 (Ex × List AV)) [0, 3, 4] e56x0
def a56 : AFun := ⟨[.rd], false, [.t 2], (
  .seq (.reg false [⟨some 2, .mv (.c (.o 1 [])), none⟩]) (
  .seq (.reg false [⟨some 5, .mv (.t 0), none⟩,
    ⟨some 6, .len false (.t 5), none⟩,
    ⟨some 7, .mk [(.v (.string ByteArray.empty))] 16 (.t 6) (.t 6), none⟩,
    ⟨some 3, .mv (.t 7), none⟩]) (
  .seq (.seq (.reg false [⟨some 4, .mv (.c (.v (.int .i64 0))), none⟩]) (
  .block 0 (.loop [0, 3, 4] e56x0 b56x0))) (
  .seq (.reg false [⟨some 21, .mv (.t 3), none⟩,
    ⟨some 2, .mv (.t 21), none⟩]) (
  .ret)))))⟩
theorem l56x0s (T : Table) (k n : Nat) (l2 : Rows) (l3 : Rows) (n4 : Int) : l56x0 T k (n + 1) [(.fz 1 l2), (.o 1 l3), (.v (.int .i64 n4))] = (
 bif (decide (n4 < (l2.length : Int))) then (
 tst (decide (0 ≤ n4)) (
 look l2 (Int.toNat n4) fun r5 =>
 cS r5 0 fun s6 =>
 tst (decide (0 ≤ n4) && decide (Int.toNat n4 < l3.length)) (
 l56x0 T k n [(.fz 1 l2), (.o 1 (setD l3 (Int.toNat n4) 0 (.v (.string s6)))), (.v (.int .i64 (IntKind.wrap .i64 (n4 + 1))))]))) else (
 some ((.exit 0), [(.o 1 l3)]))) := by kernel_rfl
theorem a56q (T : Table) (k : Nat) (l1 : Rows) : evalF T k a56 [(.d (.s 1 l1))] = (
 tst (cutOk (l1.length : Int) (l1.length : Int) maxLen && decide (Int.toNat (l1.length : Int) * 16 ≤ maxBytes)) (
 aft (l56x0 T k k [(.fz 1 l1), (.o 1 (List.replicate (Int.toNat (l1.length : Int)) [(.v (.string ByteArray.empty))])), (.v (.int .i64 0))]) fun e7 ys8 =>
 bif e7.same (.exit 0) then (
 aV ys8 0 fun x9 =>
 aO 1 x9 fun l10 =>
 some ⟨(.d (.s 1 l10)), []⟩) else (
 none))) := by kernel_rfl
/- loop.example/g00119/laws.toTerm -/

def a284 : AFun := ⟨[.rd], false, [.c 2 true [(.i .i64), .s, (.sl 1)]], (
  .seq (.reg false [⟨some 1, .box (.t 0), none⟩,
    ⟨some 2, .alloc [(.v (.int .i64 0)), (.v (.string ByteArray.empty)), (.s 1 [])], none⟩]) (
  .seq (.reg false [⟨some 3, .alloc [(.v (.int .i64 0)), (.v (.string ByteArray.empty)), (.s 1 [])], none⟩]) (
  .seq (.reg false [⟨some 4, .fad 0 (.t 1), none⟩,
    ⟨some 5, .load false [(.i .i64)] (.t 4), none⟩,
    ⟨some 6, .fad 0 (.t 3), none⟩,
    ⟨none, .store 1 (.t 6) (.t 5), none⟩]) (
  .seq (.reg false [⟨some 7, .fad 1 (.t 1), none⟩,
    ⟨some 8, .load false [.s] (.t 7), none⟩,
    ⟨some 9, .fad 1 (.t 3), none⟩,
    ⟨none, .store 1 (.t 9) (.t 8), none⟩]) (
  .seq (.reg false [⟨some 10, .fad 2 (.t 1), none⟩,
    ⟨some 11, .load false [(.sl 1)] (.t 10), none⟩,
    ⟨some 12, .call (.f 56) [.rd] false [.c (.sl 1)] [(.t 11)], none⟩,
    ⟨some 13, .fad 2 (.t 3), none⟩,
    ⟨none, .store 1 (.t 13) (.t 12), none⟩]) (
  .seq (.reg false [⟨some 14, .load true [(.i .i64), .s, (.sl 1)] (.t 3), none⟩,
    ⟨none, .store 3 (.t 2) (.t 14), none⟩]) (
  .ret)))))))⟩

theorem a284q (T : Table) (k : Nat) (n1 : Int) (s2 : ByteArray) (l3 : Rows) : evalF T k a284 [(.g [(.v (.int .i64 n1)), (.v (.string s2)), (.s 1 l3)])] = (
 callT T 56 [(.d (.s 1 l3))] fun o4 =>
 oD o4.res fun d5 =>
 dL 1 d5 fun l6 =>
 some ⟨(.g [(.v (.int .i64 n1)), (.v (.string s2)), (.s 1 l6)]), []⟩) := by kernel_rfl
/- loop.example/g00119/laws.toTermS -/
def b186x0 : ACode := (
  .seq (.seq (.reg false [⟨some 8, .mv (.t 4), none⟩,
    ⟨some 9, .mv (.t 0), none⟩,
    ⟨some 10, .len false (.t 9), none⟩,
    ⟨some 11, .bin .lss (.t 8) (.t 10), none⟩]) (
  .cond (.t 11) (.skip) (.exit 0))) (
  .seq (.block 1 (.reg false [⟨some 14, .mv (.t 3), none⟩,
      ⟨some 15, .mv (.t 4), none⟩,
      ⟨some 16, .mv (.t 0), none⟩,
      ⟨some 17, .mv (.t 4), none⟩,
      ⟨some 18, .iad 3 (.t 16) (.t 17), none⟩,
      ⟨some 19, .load true [(.i .i64), .s, (.sl 1)] (.t 18), none⟩,
      ⟨some 20, .call (.f 284) [.rd] false [.g [(.i .i64), .s, (.sl 1)]] [(.t 19)], none⟩,
      ⟨some 21, .iad 3 (.t 14) (.t 15), none⟩,
      ⟨none, .store 3 (.t 21) (.t 20), none⟩])) (
  .reg false [⟨some 12, .mv (.t 4), none⟩,
    ⟨some 13, .bin .add (.t 12) (.c (.v (.int .i64 1))), none⟩,
    ⟨some 4, .mv (.t 13), none⟩])))
def e186x0 : Exits := [((.exit 0), [(3, .o 3)])]
noncomputable def l186x0 (T : Table) (k : Nat) := loopN (evalC ⟨T, []⟩ k b186x0 (Ex × List AV)) [0, 3, 4] e186x0
def a186 : AFun := ⟨[.rd], false, [.t 2], (
  .seq (.reg false [⟨some 2, .mv (.c (.o 3 [])), none⟩]) (
  .seq (.reg false [⟨some 5, .mv (.t 0), none⟩,
    ⟨some 6, .len false (.t 5), none⟩,
    ⟨some 7, .mk [(.v (.int .i64 0)), (.v (.string ByteArray.empty)), (.s 1 [])] 48 (.t 6) (.t 6), none⟩,
    ⟨some 3, .mv (.t 7), none⟩]) (
  .seq (.seq (.reg false [⟨some 4, .mv (.c (.v (.int .i64 0))), none⟩]) (
  .block 0 (.loop [0, 3, 4] e186x0 b186x0))) (
  .seq (.reg false [⟨some 22, .mv (.t 3), none⟩,
    ⟨some 2, .mv (.t 22), none⟩]) (
  .ret)))))⟩
theorem l186x0s (T : Table) (k n : Nat) (l2 : Rows) (l3 : Rows) (n4 : Int) : l186x0 T k (n + 1) [(.fz 3 l2), (.o 3 l3), (.v (.int .i64 n4))] = (
 bif (decide (n4 < (l2.length : Int))) then (
 tst (decide (0 ≤ n4)) (
 look l2 (Int.toNat n4) fun r5 =>
 cI .i64 r5 0 fun n6 =>
 cS r5 1 fun s7 =>
 cL 1 r5 2 fun l8 =>
 callT T 284 [(.g [(.v (.int .i64 n6)), (.v (.string s7)), (.s 1 l8)])] fun o9 =>
 oG o9.res fun r10 =>
 tst (Nat.beq r10.length 3) (
 cI .i64 r10 0 fun n11 =>
 cS r10 1 fun s12 =>
 cL 1 r10 2 fun l13 =>
 tst (decide (0 ≤ n4) && decide (Int.toNat n4 < l3.length)) (
 l186x0 T k n [(.fz 3 l2), (.o 3 (setD (setD (setD (setD l3 (Int.toNat n4) 0 (.v (.int .i64 n11))) (Int.toNat n4) 1 (.v (.string s12))) (Int.toNat n4) 2 hole) (Int.toNat n4) 2 (.s 1 l13))), (.v (.int .i64 (IntKind.wrap .i64 (n4 + 1))))])))) else (
 some ((.exit 0), [(.o 3 l3)]))) := by kernel_rfl
theorem a186q (T : Table) (k : Nat) (l1 : Rows) : evalF T k a186 [(.d (.s 3 l1))] = (
 tst (cutOk (l1.length : Int) (l1.length : Int) maxLen && decide (Int.toNat (l1.length : Int) * 48 ≤ maxBytes)) (
 aft (l186x0 T k k [(.fz 3 l1), (.o 3 (List.replicate (Int.toNat (l1.length : Int)) [(.v (.int .i64 0)), (.v (.string ByteArray.empty)), (.s 1 [])])), (.v (.int .i64 0))]) fun e14 ys15 =>
 bif e14.same (.exit 0) then (
 aV ys15 0 fun x16 =>
 aO 3 x16 fun l17 =>
 some ⟨(.d (.s 3 l17)), []⟩) else (
 none))) := by kernel_rfl
/- loop.example/g00119/laws.toWeigh -/

def a285 : AFun := ⟨[.rd], false, [.c 2 true [.s, (.i .i64)]], (
  .seq (.reg false [⟨some 1, .box (.t 0), none⟩,
    ⟨some 2, .alloc [(.v (.string ByteArray.empty)), (.v (.int .i64 0))], none⟩]) (
  .seq (.reg false [⟨some 3, .alloc [(.v (.string ByteArray.empty)), (.v (.int .i64 0))], none⟩]) (
  .seq (.reg false [⟨some 4, .fad 0 (.t 1), none⟩,
    ⟨some 5, .load false [.s] (.t 4), none⟩,
    ⟨some 6, .fad 0 (.t 3), none⟩,
    ⟨none, .store 1 (.t 6) (.t 5), none⟩]) (
  .seq (.reg false [⟨some 7, .fad 1 (.t 1), none⟩,
    ⟨some 8, .load false [(.i .i64)] (.t 7), none⟩,
    ⟨some 9, .fad 1 (.t 3), none⟩,
    ⟨none, .store 1 (.t 9) (.t 8), none⟩]) (
  .seq (.reg false [⟨some 10, .load true [.s, (.i .i64)] (.t 3), none⟩,
    ⟨none, .store 2 (.t 2) (.t 10), none⟩]) (
  .ret))))))⟩

theorem a285q (T : Table) (k : Nat) (s1 : ByteArray) (n2 : Int) : evalF T k a285 [(.g [(.v (.string s1)), (.v (.int .i64 n2))])] = (
 some ⟨(.g [(.v (.string s1)), (.v (.int .i64 n2))]), []⟩) := by kernel_rfl
/- loop.example/g00119/laws.toWeighS -/
def b187x0 : ACode := (
  .seq (.seq (.reg false [⟨some 8, .mv (.t 4), none⟩,
    ⟨some 9, .mv (.t 0), none⟩,
    ⟨some 10, .len false (.t 9), none⟩,
    ⟨some 11, .bin .lss (.t 8) (.t 10), none⟩]) (
  .cond (.t 11) (.skip) (.exit 0))) (
  .seq (.block 1 (.reg false [⟨some 14, .mv (.t 3), none⟩,
      ⟨some 15, .mv (.t 4), none⟩,
      ⟨some 16, .mv (.t 0), none⟩,
      ⟨some 17, .mv (.t 4), none⟩,
      ⟨some 18, .iad 2 (.t 16) (.t 17), none⟩,
      ⟨some 19, .load true [.s, (.i .i64)] (.t 18), none⟩,
      ⟨some 20, .call (.f 285) [.rd] false [.g [.s, (.i .i64)]] [(.t 19)], none⟩,
      ⟨some 21, .iad 2 (.t 14) (.t 15), none⟩,
      ⟨none, .store 2 (.t 21) (.t 20), none⟩])) (
  .reg false [⟨some 12, .mv (.t 4), none⟩,
    ⟨some 13, .bin .add (.t 12) (.c (.v (.int .i64 1))), none⟩,
    ⟨some 4, .mv (.t 13), none⟩])))
def e187x0 : Exits := [((.exit 0), [(3, .o 2)])]
noncomputable def l187x0 (T : Table) (k : Nat) := loopN (evalC ⟨T, []⟩ k b187x0 (Ex × List AV)) [0, 3, 4] e187x0
def a187 : AFun := ⟨[.rd], false, [.t 2], (
  .seq (.reg false [⟨some 2, .mv (.c (.o 2 [])), none⟩]) (
  .seq (.reg false [⟨some 5, .mv (.t 0), none⟩,
    ⟨some 6, .len false (.t 5), none⟩,
    ⟨some 7, .mk [(.v (.string ByteArray.empty)), (.v (.int .i64 0))] 24 (.t 6) (.t 6), none⟩,
    ⟨some 3, .mv (.t 7), none⟩]) (
  .seq (.seq (.reg false [⟨some 4, .mv (.c (.v (.int .i64 0))), none⟩]) (
  .block 0 (.loop [0, 3, 4] e187x0 b187x0))) (
  .seq (.reg false [⟨some 22, .mv (.t 3), none⟩,
    ⟨some 2, .mv (.t 22), none⟩]) (
  .ret)))))⟩
theorem l187x0s (T : Table) (k n : Nat) (l2 : Rows) (l3 : Rows) (n4 : Int) : l187x0 T k (n + 1) [(.fz 2 l2), (.o 2 l3), (.v (.int .i64 n4))] = (
 bif (decide (n4 < (l2.length : Int))) then (
 tst (decide (0 ≤ n4)) (
 look l2 (Int.toNat n4) fun r5 =>
 cS r5 0 fun s6 =>
 cI .i64 r5 1 fun n7 =>
 callT T 285 [(.g [(.v (.string s6)), (.v (.int .i64 n7))])] fun o8 =>
 oG o8.res fun r9 =>
 tst (Nat.beq r9.length 2) (
 cS r9 0 fun s10 =>
 cI .i64 r9 1 fun n11 =>
 tst (decide (0 ≤ n4) && decide (Int.toNat n4 < l3.length)) (
 l187x0 T k n [(.fz 2 l2), (.o 2 (setD (setD l3 (Int.toNat n4) 0 (.v (.string s10))) (Int.toNat n4) 1 (.v (.int .i64 n11)))), (.v (.int .i64 (IntKind.wrap .i64 (n4 + 1))))])))) else (
 some ((.exit 0), [(.o 2 l3)]))) := by kernel_rfl
theorem a187q (T : Table) (k : Nat) (l1 : Rows) : evalF T k a187 [(.d (.s 2 l1))] = (
 tst (cutOk (l1.length : Int) (l1.length : Int) maxLen && decide (Int.toNat (l1.length : Int) * 24 ≤ maxBytes)) (
 aft (l187x0 T k k [(.fz 2 l1), (.o 2 (List.replicate (Int.toNat (l1.length : Int)) [(.v (.string ByteArray.empty)), (.v (.int .i64 0))])), (.v (.int .i64 0))]) fun e12 ys13 =>
 bif e12.same (.exit 0) then (
 aV ys13 0 fun x14 =>
 aO 2 x14 fun l15 =>
 some ⟨(.d (.s 2 l15)), []⟩) else (
 none))) := by kernel_rfl
/- loop.example/g00119/laws.toWant -/

def a80 : AFun := ⟨[.rd], false, [.c 2 true [(.i .i64), (.sl 3), (.sl 1), (.sl 2)]], (
  .seq (.reg false [⟨some 1, .box (.t 0), none⟩,
    ⟨some 2, .alloc [(.v (.int .i64 0)), (.s 3 []), (.s 1 []), (.s 2 [])], none⟩]) (
  .seq (.reg false [⟨some 3, .alloc [(.v (.int .i64 0)), (.s 3 []), (.s 1 []), (.s 2 [])], none⟩]) (
  .seq (.reg false [⟨some 4, .fad 0 (.t 1), none⟩,
    ⟨some 5, .load false [(.i .i64)] (.t 4), none⟩,
    ⟨some 6, .fad 0 (.t 3), none⟩,
    ⟨none, .store 1 (.t 6) (.t 5), none⟩]) (
  .seq (.reg false [⟨some 7, .fad 1 (.t 1), none⟩,
    ⟨some 8, .load false [(.sl 3)] (.t 7), none⟩,
    ⟨some 9, .call (.f 186) [.rd] false [.c (.sl 3)] [(.t 8)], none⟩,
    ⟨some 10, .fad 1 (.t 3), none⟩,
    ⟨none, .store 1 (.t 10) (.t 9), none⟩]) (
  .seq (.reg false [⟨some 11, .fad 2 (.t 1), none⟩,
    ⟨some 12, .load false [(.sl 1)] (.t 11), none⟩,
    ⟨some 13, .call (.f 56) [.rd] false [.c (.sl 1)] [(.t 12)], none⟩,
    ⟨some 14, .fad 2 (.t 3), none⟩,
    ⟨none, .store 1 (.t 14) (.t 13), none⟩]) (
  .seq (.reg false [⟨some 15, .fad 3 (.t 1), none⟩,
    ⟨some 16, .load false [(.sl 2)] (.t 15), none⟩,
    ⟨some 17, .call (.f 187) [.rd] false [.c (.sl 2)] [(.t 16)], none⟩,
    ⟨some 18, .fad 3 (.t 3), none⟩,
    ⟨none, .store 1 (.t 18) (.t 17), none⟩]) (
  .seq (.reg false [⟨some 19, .load true [(.i .i64), (.sl 3), (.sl 1), (.sl 2)] (.t 3), none⟩,
    ⟨none, .store 4 (.t 2) (.t 19), none⟩]) (
  .ret))))))))⟩

theorem a80q (T : Table) (k : Nat) (n1 : Int) (l2 : Rows) (l3 : Rows) (l4 : Rows) : evalF T k a80 [(.g [(.v (.int .i64 n1)), (.s 3 l2), (.s 1 l3), (.s 2 l4)])] = (
 callT T 186 [(.d (.s 3 l2))] fun o5 =>
 oD o5.res fun d6 =>
 dL 3 d6 fun l7 =>
 callT T 56 [(.d (.s 1 l3))] fun o8 =>
 oD o8.res fun d9 =>
 dL 1 d9 fun l10 =>
 callT T 187 [(.d (.s 2 l4))] fun o11 =>
 oD o11.res fun d12 =>
 dL 2 d12 fun l13 =>
 some ⟨(.g [(.v (.int .i64 n1)), (.s 3 l7), (.s 1 l10), (.s 2 l13)]), []⟩) := by kernel_rfl
/- loop.example/g00119/laws.toValueS -/
def b188x0 : ACode := (
  .seq (.seq (.reg false [⟨some 8, .mv (.t 4), none⟩,
    ⟨some 9, .mv (.t 0), none⟩,
    ⟨some 10, .len false (.t 9), none⟩,
    ⟨some 11, .bin .lss (.t 8) (.t 10), none⟩]) (
  .cond (.t 11) (.skip) (.exit 0))) (
  .seq (.block 1 (.reg false [⟨some 14, .mv (.t 3), none⟩,
      ⟨some 15, .mv (.t 4), none⟩,
      ⟨some 16, .mv (.t 0), none⟩,
      ⟨some 17, .mv (.t 4), none⟩,
      ⟨some 18, .iad 5 (.t 16) (.t 17), none⟩,
      ⟨some 19, .load true [(.i .i64), .s, (.i .i64), (.sl 1), (.sl 5)] (.t 18), none⟩,
      ⟨some 20, .call (.f 81) [.rd] false [.g [(.i .i64), .s, (.i .i64), (.sl 1), (.sl 5)]] [(.t 19)], none⟩,
      ⟨some 21, .iad 5 (.t 14) (.t 15), none⟩,
      ⟨none, .store 5 (.t 21) (.t 20), none⟩])) (
  .reg false [⟨some 12, .mv (.t 4), none⟩,
    ⟨some 13, .bin .add (.t 12) (.c (.v (.int .i64 1))), none⟩,
    ⟨some 4, .mv (.t 13), none⟩])))
def e188x0 : Exits := [((.exit 0), [(3, .o 5)])]
noncomputable def l188x0 (T : Table) (k : Nat) := loopN (evalC ⟨T, []⟩ k b188x0 (Ex × List AV)) [0, 3, 4] e188x0
def a188 : AFun := ⟨[.rd], false, [.t 2], (
  .seq (.reg false [⟨some 2, .mv (.c (.o 5 [])), none⟩]) (
  .seq (.reg false [⟨some 5, .mv (.t 0), none⟩,
    ⟨some 6, .len false (.t 5), none⟩,
    ⟨some 7, .mk [(.v (.int .i64 0)), (.v (.string ByteArray.empty)), (.v (.int .i64 0)), (.s 1 []), (.s 5 [])] 80 (.t 6) (.t 6), none⟩,
    ⟨some 3, .mv (.t 7), none⟩]) (
  .seq (.seq (.reg false [⟨some 4, .mv (.c (.v (.int .i64 0))), none⟩]) (
  .block 0 (.loop [0, 3, 4] e188x0 b188x0))) (
  .seq (.reg false [⟨some 22, .mv (.t 3), none⟩,
    ⟨some 2, .mv (.t 22), none⟩]) (
  .ret)))))⟩
theorem l188x0s (T : Table) (k n : Nat) (l2 : Rows) (l3 : Rows) (n4 : Int) : l188x0 T k (n + 1) [(.fz 5 l2), (.o 5 l3), (.v (.int .i64 n4))] = (
 bif (decide (n4 < (l2.length : Int))) then (
 tst (decide (0 ≤ n4)) (
 look l2 (Int.toNat n4) fun r5 =>
 cI .i64 r5 0 fun n6 =>
 cS r5 1 fun s7 =>
 cI .i64 r5 2 fun n8 =>
 cL 1 r5 3 fun l9 =>
 cL 5 r5 4 fun l10 =>
 callT T 81 [(.g [(.v (.int .i64 n6)), (.v (.string s7)), (.v (.int .i64 n8)), (.s 1 l9), (.s 5 l10)])] fun o11 =>
 oG o11.res fun r12 =>
 tst (Nat.beq r12.length 5) (
 cI .i64 r12 0 fun n13 =>
 cS r12 1 fun s14 =>
 cI .i64 r12 2 fun n15 =>
 cL 1 r12 3 fun l16 =>
 cL 5 r12 4 fun l17 =>
 tst (decide (0 ≤ n4) && decide (Int.toNat n4 < l3.length)) (
 l188x0 T k n [(.fz 5 l2), (.o 5 (setD (setD (setD (setD (setD (setD (setD l3 (Int.toNat n4) 0 (.v (.int .i64 n13))) (Int.toNat n4) 1 (.v (.string s14))) (Int.toNat n4) 2 (.v (.int .i64 n15))) (Int.toNat n4) 3 hole) (Int.toNat n4) 4 hole) (Int.toNat n4) 4 (.s 5 l17)) (Int.toNat n4) 3 (.s 1 l16))), (.v (.int .i64 (IntKind.wrap .i64 (n4 + 1))))])))) else (
 some ((.exit 0), [(.o 5 l3)]))) := by kernel_rfl
theorem a188q (T : Table) (k : Nat) (l1 : Rows) : evalF T k a188 [(.d (.s 5 l1))] = (
 tst (cutOk (l1.length : Int) (l1.length : Int) maxLen && decide (Int.toNat (l1.length : Int) * 80 ≤ maxBytes)) (
 aft (l188x0 T k k [(.fz 5 l1), (.o 5 (List.replicate (Int.toNat (l1.length : Int)) [(.v (.int .i64 0)), (.v (.string ByteArray.empty)), (.v (.int .i64 0)), (.s 1 []), (.s 5 [])])), (.v (.int .i64 0))]) fun e18 ys19 =>
 bif e18.same (.exit 0) then (
 aV ys19 0 fun x20 =>
 aO 5 x20 fun l21 =>
 some ⟨(.d (.s 5 l21)), []⟩) else (
 none))) := by kernel_rfl
/- loop.example/g00119/laws.toValue -/

def a81 : AFun := ⟨[.rd], false, [.c 2 true [(.i .i64), .s, (.i .i64), (.sl 1), (.sl 5)]], (
  .seq (.reg false [⟨some 1, .box (.t 0), none⟩,
    ⟨some 2, .alloc [(.v (.int .i64 0)), (.v (.string ByteArray.empty)), (.v (.int .i64 0)), (.s 1 []), (.s 5 [])], none⟩]) (
  .seq (.reg false [⟨some 3, .alloc [(.v (.int .i64 0)), (.v (.string ByteArray.empty)), (.v (.int .i64 0)), (.s 1 []), (.s 5 [])], none⟩]) (
  .seq (.reg false [⟨some 4, .fad 0 (.t 1), none⟩,
    ⟨some 5, .load false [(.i .i64)] (.t 4), none⟩,
    ⟨some 6, .fad 0 (.t 3), none⟩,
    ⟨none, .store 1 (.t 6) (.t 5), none⟩]) (
  .seq (.reg false [⟨some 7, .fad 1 (.t 1), none⟩,
    ⟨some 8, .load false [.s] (.t 7), none⟩,
    ⟨some 9, .fad 1 (.t 3), none⟩,
    ⟨none, .store 1 (.t 9) (.t 8), none⟩]) (
  .seq (.reg false [⟨some 10, .fad 2 (.t 1), none⟩,
    ⟨some 11, .load false [(.i .i64)] (.t 10), none⟩,
    ⟨some 12, .fad 2 (.t 3), none⟩,
    ⟨none, .store 1 (.t 12) (.t 11), none⟩]) (
  .seq (.reg false [⟨some 13, .fad 3 (.t 1), none⟩,
    ⟨some 14, .load false [(.sl 1)] (.t 13), none⟩,
    ⟨some 15, .call (.f 56) [.rd] false [.c (.sl 1)] [(.t 14)], none⟩,
    ⟨some 16, .fad 3 (.t 3), none⟩,
    ⟨none, .store 1 (.t 16) (.t 15), none⟩]) (
  .seq (.reg false [⟨some 17, .fad 4 (.t 1), none⟩,
    ⟨some 18, .load false [(.sl 5)] (.t 17), none⟩,
    ⟨some 19, .call (.f 188) [.rd] false [.c (.sl 5)] [(.t 18)], none⟩,
    ⟨some 20, .fad 4 (.t 3), none⟩,
    ⟨none, .store 1 (.t 20) (.t 19), none⟩]) (
  .seq (.reg false [⟨some 21, .load true [(.i .i64), .s, (.i .i64), (.sl 1), (.sl 5)] (.t 3), none⟩,
    ⟨none, .store 5 (.t 2) (.t 21), none⟩]) (
  .ret)))))))))⟩

theorem a81q (T : Table) (k : Nat) (n1 : Int) (s2 : ByteArray) (n3 : Int) (l4 : Rows) (l5 : Rows) : evalF T k a81 [(.g [(.v (.int .i64 n1)), (.v (.string s2)), (.v (.int .i64 n3)), (.s 1 l4), (.s 5 l5)])] = (
 callT T 56 [(.d (.s 1 l4))] fun o6 =>
 oD o6.res fun d7 =>
 dL 1 d7 fun l8 =>
 callT T 188 [(.d (.s 5 l5))] fun o9 =>
 oD o9.res fun d10 =>
 dL 5 d10 fun l11 =>
 some ⟨(.g [(.v (.int .i64 n1)), (.v (.string s2)), (.v (.int .i64 n3)), (.s 1 l8), (.s 5 l11)]), []⟩) := by kernel_rfl
/- loop.example/g00119/laws.toOp -/

def a348 : AFun := ⟨[.rd], false, [.c 2 true [(.i .i64), (.sl 1), (.i .i64), .s, (.i .i64), (.sl 1), (.sl 5)]], (
  .seq (.reg false [⟨some 1, .box (.t 0), none⟩,
    ⟨some 2, .alloc [(.v (.int .i64 0)), (.s 1 []), (.v (.int .i64 0)), (.v (.string ByteArray.empty)), (.v (.int .i64 0)), (.s 1 []), (.s 5 [])], none⟩]) (
  .seq (.reg false [⟨some 3, .alloc [(.v (.int .i64 0)), (.s 1 []), (.v (.int .i64 0)), (.v (.string ByteArray.empty)), (.v (.int .i64 0)), (.s 1 []), (.s 5 [])], none⟩]) (
  .seq (.reg false [⟨some 4, .fad 0 (.t 1), none⟩,
    ⟨some 5, .load false [(.i .i64)] (.t 4), none⟩,
    ⟨some 6, .fad 0 (.t 3), none⟩,
    ⟨none, .store 1 (.t 6) (.t 5), none⟩]) (
  .seq (.reg false [⟨some 7, .fad 1 (.t 1), none⟩,
    ⟨some 8, .load false [(.sl 1)] (.t 7), none⟩,
    ⟨some 9, .call (.f 56) [.rd] false [.c (.sl 1)] [(.t 8)], none⟩,
    ⟨some 10, .fad 1 (.t 3), none⟩,
    ⟨none, .store 1 (.t 10) (.t 9), none⟩]) (
  .seq (.reg false [⟨some 11, .fad 2 (.t 1), none⟩,
    ⟨some 12, .load true [(.i .i64), .s, (.i .i64), (.sl 1), (.sl 5)] (.t 11), none⟩,
    ⟨some 13, .call (.f 81) [.rd] false [.g [(.i .i64), .s, (.i .i64), (.sl 1), (.sl 5)]] [(.t 12)], none⟩,
    ⟨some 14, .fad 2 (.t 3), none⟩,
    ⟨none, .store 5 (.t 14) (.t 13), none⟩]) (
  .seq (.reg false [⟨some 15, .load true [(.i .i64), (.sl 1), (.i .i64), .s, (.i .i64), (.sl 1), (.sl 5)] (.t 3), none⟩,
    ⟨none, .store 7 (.t 2) (.t 15), none⟩]) (
  .ret)))))))⟩

theorem a348q (T : Table) (k : Nat) (n1 : Int) (l2 : Rows) (n3 : Int) (s4 : ByteArray) (n5 : Int) (l6 : Rows) (l7 : Rows) : evalF T k a348 [(.g [(.v (.int .i64 n1)), (.s 1 l2), (.v (.int .i64 n3)), (.v (.string s4)), (.v (.int .i64 n5)), (.s 1 l6), (.s 5 l7)])] = (
 callT T 56 [(.d (.s 1 l2))] fun o8 =>
 oD o8.res fun d9 =>
 dL 1 d9 fun l10 =>
 callT T 81 [(.g [(.v (.int .i64 n3)), (.v (.string s4)), (.v (.int .i64 n5)), (.s 1 l6), (.s 5 l7)])] fun o11 =>
 oG o11.res fun r12 =>
 tst (Nat.beq r12.length 5) (
 cI .i64 r12 0 fun n13 =>
 cS r12 1 fun s14 =>
 cI .i64 r12 2 fun n15 =>
 cL 1 r12 3 fun l16 =>
 cL 5 r12 4 fun l17 =>
 some ⟨(.g [(.v (.int .i64 n1)), (.s 1 l10), (.v (.int .i64 n13)), (.v (.string s14)), (.v (.int .i64 n15)), (.s 1 l16), (.s 5 l17)]), []⟩)) := by kernel_rfl
/- loop.example/g00119/laws.toOpS -/
def b286x0 : ACode := (
  .seq (.seq (.reg false [⟨some 8, .mv (.t 4), none⟩,
    ⟨some 9, .mv (.t 0), none⟩,
    ⟨some 10, .len false (.t 9), none⟩,
    ⟨some 11, .bin .lss (.t 8) (.t 10), none⟩]) (
  .cond (.t 11) (.skip) (.exit 0))) (
  .seq (.block 1 (.reg false [⟨some 14, .mv (.t 3), none⟩,
      ⟨some 15, .mv (.t 4), none⟩,
      ⟨some 16, .mv (.t 0), none⟩,
      ⟨some 17, .mv (.t 4), none⟩,
      ⟨some 18, .iad 7 (.t 16) (.t 17), none⟩,
      ⟨some 19, .load true [(.i .i64), (.sl 1), (.i .i64), .s, (.i .i64), (.sl 1), (.sl 5)] (.t 18), none⟩,
      ⟨some 20, .call (.f 348) [.rd] false [.g [(.i .i64), (.sl 1), (.i .i64), .s, (.i .i64), (.sl 1), (.sl 5)]] [(.t 19)], none⟩,
      ⟨some 21, .iad 7 (.t 14) (.t 15), none⟩,
      ⟨none, .store 7 (.t 21) (.t 20), none⟩])) (
  .reg false [⟨some 12, .mv (.t 4), none⟩,
    ⟨some 13, .bin .add (.t 12) (.c (.v (.int .i64 1))), none⟩,
    ⟨some 4, .mv (.t 13), none⟩])))
def e286x0 : Exits := [((.exit 0), [(3, .o 7)])]
noncomputable def l286x0 (T : Table) (k : Nat) := loopN (evalC ⟨T, []⟩ k b286x0 (Ex × List AV)) [0, 3, 4] e286x0
def a286 : AFun := ⟨[.rd], false, [.t 2], (
  .seq (.reg false [⟨some 2, .mv (.c (.o 7 [])), none⟩]) (
  .seq (.reg false [⟨some 5, .mv (.t 0), none⟩,
    ⟨some 6, .len false (.t 5), none⟩,
    ⟨some 7, .mk [(.v (.int .i64 0)), (.s 1 []), (.v (.int .i64 0)), (.v (.string ByteArray.empty)), (.v (.int .i64 0)), (.s 1 []), (.s 5 [])] 112 (.t 6) (.t 6), none⟩,
    ⟨some 3, .mv (.t 7), none⟩]) (
  .seq (.seq (.reg false [⟨some 4, .mv (.c (.v (.int .i64 0))), none⟩]) (
  .block 0 (.loop [0, 3, 4] e286x0 b286x0))) (
  .seq (.reg false [⟨some 22, .mv (.t 3), none⟩,
    ⟨some 2, .mv (.t 22), none⟩]) (
  .ret)))))⟩
theorem l286x0s (T : Table) (k n : Nat) (l2 : Rows) (l3 : Rows) (n4 : Int) : l286x0 T k (n + 1) [(.fz 7 l2), (.o 7 l3), (.v (.int .i64 n4))] = (
 bif (decide (n4 < (l2.length : Int))) then (
 tst (decide (0 ≤ n4)) (
 look l2 (Int.toNat n4) fun r5 =>
 cI .i64 r5 0 fun n6 =>
 cL 1 r5 1 fun l7 =>
 cI .i64 r5 2 fun n8 =>
 cS r5 3 fun s9 =>
 cI .i64 r5 4 fun n10 =>
 cL 1 r5 5 fun l11 =>
 cL 5 r5 6 fun l12 =>
 callT T 348 [(.g [(.v (.int .i64 n6)), (.s 1 l7), (.v (.int .i64 n8)), (.v (.string s9)), (.v (.int .i64 n10)), (.s 1 l11), (.s 5 l12)])] fun o13 =>
 oG o13.res fun r14 =>
 tst (Nat.beq r14.length 7) (
 cI .i64 r14 0 fun n15 =>
 cL 1 r14 1 fun l16 =>
 cI .i64 r14 2 fun n17 =>
 cS r14 3 fun s18 =>
 cI .i64 r14 4 fun n19 =>
 cL 1 r14 5 fun l20 =>
 cL 5 r14 6 fun l21 =>
 tst (decide (0 ≤ n4) && decide (Int.toNat n4 < l3.length)) (
 l286x0 T k n [(.fz 7 l2), (.o 7 (setD (setD (setD (setD (setD (setD (setD (setD (setD (setD l3 (Int.toNat n4) 0 (.v (.int .i64 n15))) (Int.toNat n4) 1 hole) (Int.toNat n4) 2 (.v (.int .i64 n17))) (Int.toNat n4) 3 (.v (.string s18))) (Int.toNat n4) 4 (.v (.int .i64 n19))) (Int.toNat n4) 5 hole) (Int.toNat n4) 6 hole) (Int.toNat n4) 6 (.s 5 l21)) (Int.toNat n4) 5 (.s 1 l20)) (Int.toNat n4) 1 (.s 1 l16))), (.v (.int .i64 (IntKind.wrap .i64 (n4 + 1))))])))) else (
 some ((.exit 0), [(.o 7 l3)]))) := by kernel_rfl
theorem a286q (T : Table) (k : Nat) (l1 : Rows) : evalF T k a286 [(.d (.s 7 l1))] = (
 tst (cutOk (l1.length : Int) (l1.length : Int) maxLen && decide (Int.toNat (l1.length : Int) * 112 ≤ maxBytes)) (
 aft (l286x0 T k k [(.fz 7 l1), (.o 7 (List.replicate (Int.toNat (l1.length : Int)) [(.v (.int .i64 0)), (.s 1 []), (.v (.int .i64 0)), (.v (.string ByteArray.empty)), (.v (.int .i64 0)), (.s 1 []), (.s 5 [])])), (.v (.int .i64 0))]) fun e22 ys23 =>
 bif e22.same (.exit 0) then (
 aV ys23 0 fun x24 =>
 aO 7 x24 fun l25 =>
 some ⟨(.d (.s 7 l25)), []⟩) else (
 none))) := by kernel_rfl
/- loop.example/g00119/laws.toOver -/

def a189 : AFun := ⟨[.rd], false, [.c 2 true [.s, (.sl 7)]], (
  .seq (.reg false [⟨some 1, .box (.t 0), none⟩,
    ⟨some 2, .alloc [(.v (.string ByteArray.empty)), (.s 7 [])], none⟩]) (
  .seq (.reg false [⟨some 3, .alloc [(.v (.string ByteArray.empty)), (.s 7 [])], none⟩]) (
  .seq (.reg false [⟨some 4, .fad 0 (.t 1), none⟩,
    ⟨some 5, .load false [.s] (.t 4), none⟩,
    ⟨some 6, .fad 0 (.t 3), none⟩,
    ⟨none, .store 1 (.t 6) (.t 5), none⟩]) (
  .seq (.reg false [⟨some 7, .fad 1 (.t 1), none⟩,
    ⟨some 8, .load false [(.sl 7)] (.t 7), none⟩,
    ⟨some 9, .call (.f 286) [.rd] false [.c (.sl 7)] [(.t 8)], none⟩,
    ⟨some 10, .fad 1 (.t 3), none⟩,
    ⟨none, .store 1 (.t 10) (.t 9), none⟩]) (
  .seq (.reg false [⟨some 11, .load true [.s, (.sl 7)] (.t 3), none⟩,
    ⟨none, .store 2 (.t 2) (.t 11), none⟩]) (
  .ret))))))⟩

theorem a189q (T : Table) (k : Nat) (s1 : ByteArray) (l2 : Rows) : evalF T k a189 [(.g [(.v (.string s1)), (.s 7 l2)])] = (
 callT T 286 [(.d (.s 7 l2))] fun o3 =>
 oD o3.res fun d4 =>
 dL 7 d4 fun l5 =>
 some ⟨(.g [(.v (.string s1)), (.s 7 l5)]), []⟩) := by kernel_rfl
/- loop.example/g00119/laws.toOverS -/
def b82x0 : ACode := (
  .seq (.seq (.reg false [⟨some 8, .mv (.t 4), none⟩,
    ⟨some 9, .mv (.t 0), none⟩,
    ⟨some 10, .len false (.t 9), none⟩,
    ⟨some 11, .bin .lss (.t 8) (.t 10), none⟩]) (
  .cond (.t 11) (.skip) (.exit 0))) (
  .seq (.block 1 (.reg false [⟨some 14, .mv (.t 3), none⟩,
      ⟨some 15, .mv (.t 4), none⟩,
      ⟨some 16, .mv (.t 0), none⟩,
      ⟨some 17, .mv (.t 4), none⟩,
      ⟨some 18, .iad 2 (.t 16) (.t 17), none⟩,
      ⟨some 19, .load true [.s, (.sl 7)] (.t 18), none⟩,
      ⟨some 20, .call (.f 189) [.rd] false [.g [.s, (.sl 7)]] [(.t 19)], none⟩,
      ⟨some 21, .iad 2 (.t 14) (.t 15), none⟩,
      ⟨none, .store 2 (.t 21) (.t 20), none⟩])) (
  .reg false [⟨some 12, .mv (.t 4), none⟩,
    ⟨some 13, .bin .add (.t 12) (.c (.v (.int .i64 1))), none⟩,
    ⟨some 4, .mv (.t 13), none⟩])))
def e82x0 : Exits := [((.exit 0), [(3, .o 2)])]
noncomputable def l82x0 (T : Table) (k : Nat) := loopN (evalC ⟨T, []⟩ k b82x0 (Ex × List AV)) [0, 3, 4] e82x0
def a82 : AFun := ⟨[.rd], false, [.t 2], (
  .seq (.reg false [⟨some 2, .mv (.c (.o 2 [])), none⟩]) (
  .seq (.reg false [⟨some 5, .mv (.t 0), none⟩,
    ⟨some 6, .len false (.t 5), none⟩,
    ⟨some 7, .mk [(.v (.string ByteArray.empty)), (.s 7 [])] 40 (.t 6) (.t 6), none⟩,
    ⟨some 3, .mv (.t 7), none⟩]) (
  .seq (.seq (.reg false [⟨some 4, .mv (.c (.v (.int .i64 0))), none⟩]) (
  .block 0 (.loop [0, 3, 4] e82x0 b82x0))) (
  .seq (.reg false [⟨some 22, .mv (.t 3), none⟩,
    ⟨some 2, .mv (.t 22), none⟩]) (
  .ret)))))⟩
theorem l82x0s (T : Table) (k n : Nat) (l2 : Rows) (l3 : Rows) (n4 : Int) : l82x0 T k (n + 1) [(.fz 2 l2), (.o 2 l3), (.v (.int .i64 n4))] = (
 bif (decide (n4 < (l2.length : Int))) then (
 tst (decide (0 ≤ n4)) (
 look l2 (Int.toNat n4) fun r5 =>
 cS r5 0 fun s6 =>
 cL 7 r5 1 fun l7 =>
 callT T 189 [(.g [(.v (.string s6)), (.s 7 l7)])] fun o8 =>
 oG o8.res fun r9 =>
 tst (Nat.beq r9.length 2) (
 cS r9 0 fun s10 =>
 cL 7 r9 1 fun l11 =>
 tst (decide (0 ≤ n4) && decide (Int.toNat n4 < l3.length)) (
 l82x0 T k n [(.fz 2 l2), (.o 2 (setD (setD (setD l3 (Int.toNat n4) 0 (.v (.string s10))) (Int.toNat n4) 1 hole) (Int.toNat n4) 1 (.s 7 l11))), (.v (.int .i64 (IntKind.wrap .i64 (n4 + 1))))])))) else (
 some ((.exit 0), [(.o 2 l3)]))) := by kernel_rfl
theorem a82q (T : Table) (k : Nat) (l1 : Rows) : evalF T k a82 [(.d (.s 2 l1))] = (
 tst (cutOk (l1.length : Int) (l1.length : Int) maxLen && decide (Int.toNat (l1.length : Int) * 40 ≤ maxBytes)) (
 aft (l82x0 T k k [(.fz 2 l1), (.o 2 (List.replicate (Int.toNat (l1.length : Int)) [(.v (.string ByteArray.empty)), (.s 7 [])])), (.v (.int .i64 0))]) fun e12 ys13 =>
 bif e12.same (.exit 0) then (
 aV ys13 0 fun x14 =>
 aO 2 x14 fun l15 =>
 some ⟨(.d (.s 2 l15)), []⟩) else (
 none))) := by kernel_rfl
/- loop.example/g00119/laws.toJob -/

def a159 : AFun := ⟨[.rd], false, [.c 2 true [(.i .i64), .s, (.i .i64), (.sl 3), (.sl 1), (.sl 2), (.i .i64), .s, (.i .i64), (.sl 1), (.sl 5), (.sl 2), .b]], (
  .seq (.reg false [⟨some 1, .box (.t 0), none⟩,
    ⟨some 2, .alloc [(.v (.int .i64 0)), (.v (.string ByteArray.empty)), (.v (.int .i64 0)), (.s 3 []), (.s 1 []), (.s 2 []), (.v (.int .i64 0)), (.v (.string ByteArray.empty)), (.v (.int .i64 0)), (.s 1 []), (.s 5 []), (.s 2 []), (.v (.bool false))], none⟩]) (
  .seq (.reg false [⟨some 3, .alloc [(.v (.int .i64 0)), (.v (.string ByteArray.empty)), (.v (.int .i64 0)), (.s 3 []), (.s 1 []), (.s 2 []), (.v (.int .i64 0)), (.v (.string ByteArray.empty)), (.v (.int .i64 0)), (.s 1 []), (.s 5 []), (.s 2 []), (.v (.bool false))], none⟩]) (
  .seq (.reg false [⟨some 4, .fad 0 (.t 1), none⟩,
    ⟨some 5, .load false [(.i .i64)] (.t 4), none⟩,
    ⟨some 6, .fad 0 (.t 3), none⟩,
    ⟨none, .store 1 (.t 6) (.t 5), none⟩]) (
  .seq (.reg false [⟨some 7, .fad 1 (.t 1), none⟩,
    ⟨some 8, .load false [.s] (.t 7), none⟩,
    ⟨some 9, .fad 1 (.t 3), none⟩,
    ⟨none, .store 1 (.t 9) (.t 8), none⟩]) (
  .seq (.reg false [⟨some 10, .fad 2 (.t 1), none⟩,
    ⟨some 11, .load true [(.i .i64), (.sl 3), (.sl 1), (.sl 2)] (.t 10), none⟩,
    ⟨some 12, .call (.f 80) [.rd] false [.g [(.i .i64), (.sl 3), (.sl 1), (.sl 2)]] [(.t 11)], none⟩,
    ⟨some 13, .fad 2 (.t 3), none⟩,
    ⟨none, .store 4 (.t 13) (.t 12), none⟩]) (
  .seq (.reg false [⟨some 14, .fad 6 (.t 1), none⟩,
    ⟨some 15, .load true [(.i .i64), .s, (.i .i64), (.sl 1), (.sl 5)] (.t 14), none⟩,
    ⟨some 16, .call (.f 81) [.rd] false [.g [(.i .i64), .s, (.i .i64), (.sl 1), (.sl 5)]] [(.t 15)], none⟩,
    ⟨some 17, .fad 6 (.t 3), none⟩,
    ⟨none, .store 5 (.t 17) (.t 16), none⟩]) (
  .seq (.reg false [⟨some 18, .fad 11 (.t 1), none⟩,
    ⟨some 19, .load false [(.sl 2)] (.t 18), none⟩,
    ⟨some 20, .call (.f 82) [.rd] false [.c (.sl 2)] [(.t 19)], none⟩,
    ⟨some 21, .fad 11 (.t 3), none⟩,
    ⟨none, .store 1 (.t 21) (.t 20), none⟩]) (
  .seq (.reg false [⟨some 22, .fad 12 (.t 1), none⟩,
    ⟨some 23, .load false [.b] (.t 22), none⟩,
    ⟨some 24, .fad 12 (.t 3), none⟩,
    ⟨none, .store 1 (.t 24) (.t 23), none⟩]) (
  .seq (.reg false [⟨some 25, .load true [(.i .i64), .s, (.i .i64), (.sl 3), (.sl 1), (.sl 2), (.i .i64), .s, (.i .i64), (.sl 1), (.sl 5), (.sl 2), .b] (.t 3), none⟩,
    ⟨none, .store 13 (.t 2) (.t 25), none⟩]) (
  .ret))))))))))⟩

theorem a159q (T : Table) (k : Nat) (n1 : Int) (s2 : ByteArray) (n3 : Int) (l4 : Rows) (l5 : Rows) (l6 : Rows) (n7 : Int) (s8 : ByteArray) (n9 : Int) (l10 : Rows) (l11 : Rows) (l12 : Rows) (b13 : Bool) : evalF T k a159 [(.g [(.v (.int .i64 n1)), (.v (.string s2)), (.v (.int .i64 n3)), (.s 3 l4), (.s 1 l5), (.s 2 l6), (.v (.int .i64 n7)), (.v (.string s8)), (.v (.int .i64 n9)), (.s 1 l10), (.s 5 l11), (.s 2 l12), (.v (.bool b13))])] = (
 callT T 80 [(.g [(.v (.int .i64 n3)), (.s 3 l4), (.s 1 l5), (.s 2 l6)])] fun o14 =>
 oG o14.res fun r15 =>
 tst (Nat.beq r15.length 4) (
 cI .i64 r15 0 fun n16 =>
 cL 3 r15 1 fun l17 =>
 cL 1 r15 2 fun l18 =>
 cL 2 r15 3 fun l19 =>
 callT T 81 [(.g [(.v (.int .i64 n7)), (.v (.string s8)), (.v (.int .i64 n9)), (.s 1 l10), (.s 5 l11)])] fun o20 =>
 oG o20.res fun r21 =>
 tst (Nat.beq r21.length 5) (
 cI .i64 r21 0 fun n22 =>
 cS r21 1 fun s23 =>
 cI .i64 r21 2 fun n24 =>
 cL 1 r21 3 fun l25 =>
 cL 5 r21 4 fun l26 =>
 callT T 82 [(.d (.s 2 l12))] fun o27 =>
 oD o27.res fun d28 =>
 dL 2 d28 fun l29 =>
 some ⟨(.g [(.v (.int .i64 n1)), (.v (.string s2)), (.v (.int .i64 n16)), (.s 3 l17), (.s 1 l18), (.s 2 l19), (.v (.int .i64 n22)), (.v (.string s23)), (.v (.int .i64 n24)), (.s 1 l25), (.s 5 l26), (.s 2 l29), (.v (.bool b13))]), []⟩))) := by kernel_rfl
/- loop.example/g00119/laws.toJobS -/
def b53x0 : ACode := (
  .seq (.seq (.reg false [⟨some 8, .mv (.t 4), none⟩,
    ⟨some 9, .mv (.t 0), none⟩,
    ⟨some 10, .len false (.t 9), none⟩,
    ⟨some 11, .bin .lss (.t 8) (.t 10), none⟩]) (
  .cond (.t 11) (.skip) (.exit 0))) (
  .seq (.block 1 (.reg false [⟨some 14, .mv (.t 3), none⟩,
      ⟨some 15, .mv (.t 4), none⟩,
      ⟨some 16, .mv (.t 0), none⟩,
      ⟨some 17, .mv (.t 4), none⟩,
      ⟨some 18, .iad 13 (.t 16) (.t 17), none⟩,
      ⟨some 19, .load true [(.i .i64), .s, (.i .i64), (.sl 3), (.sl 1), (.sl 2), (.i .i64), .s, (.i .i64), (.sl 1), (.sl 5), (.sl 2), .b] (.t 18), none⟩,
      ⟨some 20, .call (.f 159) [.rd] false [.g [(.i .i64), .s, (.i .i64), (.sl 3), (.sl 1), (.sl 2), (.i .i64), .s, (.i .i64), (.sl 1), (.sl 5), (.sl 2), .b]] [(.t 19)], none⟩,
      ⟨some 21, .iad 13 (.t 14) (.t 15), none⟩,
      ⟨none, .store 13 (.t 21) (.t 20), none⟩])) (
  .reg false [⟨some 12, .mv (.t 4), none⟩,
    ⟨some 13, .bin .add (.t 12) (.c (.v (.int .i64 1))), none⟩,
    ⟨some 4, .mv (.t 13), none⟩])))
def e53x0 : Exits := [((.exit 0), [(3, .o 13)])]
noncomputable def l53x0 (T : Table) (k : Nat) := loopN (evalC ⟨T, []⟩ k b53x0 (Ex × List AV)) [0, 3, 4] e53x0
def a53 : AFun := ⟨[.rd], false, [.t 2], (
  .seq (.reg false [⟨some 2, .mv (.c (.o 13 [])), none⟩]) (
  .seq (.reg false [⟨some 5, .mv (.t 0), none⟩,
    ⟨some 6, .len false (.t 5), none⟩,
    ⟨some 7, .mk [(.v (.int .i64 0)), (.v (.string ByteArray.empty)), (.v (.int .i64 0)), (.s 3 []), (.s 1 []), (.s 2 []), (.v (.int .i64 0)), (.v (.string ByteArray.empty)), (.v (.int .i64 0)), (.s 1 []), (.s 5 []), (.s 2 []), (.v (.bool false))] 216 (.t 6) (.t 6), none⟩,
    ⟨some 3, .mv (.t 7), none⟩]) (
  .seq (.seq (.reg false [⟨some 4, .mv (.c (.v (.int .i64 0))), none⟩]) (
  .block 0 (.loop [0, 3, 4] e53x0 b53x0))) (
  .seq (.reg false [⟨some 22, .mv (.t 3), none⟩,
    ⟨some 2, .mv (.t 22), none⟩]) (
  .ret)))))⟩
theorem l53x0s (T : Table) (k n : Nat) (l2 : Rows) (l3 : Rows) (n4 : Int) : l53x0 T k (n + 1) [(.fz 13 l2), (.o 13 l3), (.v (.int .i64 n4))] = (
 bif (decide (n4 < (l2.length : Int))) then (
 tst (decide (0 ≤ n4)) (
 look l2 (Int.toNat n4) fun r5 =>
 cI .i64 r5 0 fun n6 =>
 cS r5 1 fun s7 =>
 cI .i64 r5 2 fun n8 =>
 cL 3 r5 3 fun l9 =>
 cL 1 r5 4 fun l10 =>
 cL 2 r5 5 fun l11 =>
 cI .i64 r5 6 fun n12 =>
 cS r5 7 fun s13 =>
 cI .i64 r5 8 fun n14 =>
 cL 1 r5 9 fun l15 =>
 cL 5 r5 10 fun l16 =>
 cL 2 r5 11 fun l17 =>
 cB r5 12 fun b18 =>
 callT T 159 [(.g [(.v (.int .i64 n6)), (.v (.string s7)), (.v (.int .i64 n8)), (.s 3 l9), (.s 1 l10), (.s 2 l11), (.v (.int .i64 n12)), (.v (.string s13)), (.v (.int .i64 n14)), (.s 1 l15), (.s 5 l16), (.s 2 l17), (.v (.bool b18))])] fun o19 =>
 oG o19.res fun r20 =>
 tst (Nat.beq r20.length 13) (
 cI .i64 r20 0 fun n21 =>
 cS r20 1 fun s22 =>
 cI .i64 r20 2 fun n23 =>
 cL 3 r20 3 fun l24 =>
 cL 1 r20 4 fun l25 =>
 cL 2 r20 5 fun l26 =>
 cI .i64 r20 6 fun n27 =>
 cS r20 7 fun s28 =>
 cI .i64 r20 8 fun n29 =>
 cL 1 r20 9 fun l30 =>
 cL 5 r20 10 fun l31 =>
 cL 2 r20 11 fun l32 =>
 cB r20 12 fun b33 =>
 tst (decide (0 ≤ n4) && decide (Int.toNat n4 < l3.length)) (
 l53x0 T k n [(.fz 13 l2), (.o 13 (setD (setD (setD (setD (setD (setD (setD (setD (setD (setD (setD (setD (setD (setD (setD (setD (setD (setD (setD l3 (Int.toNat n4) 0 (.v (.int .i64 n21))) (Int.toNat n4) 1 (.v (.string s22))) (Int.toNat n4) 2 (.v (.int .i64 n23))) (Int.toNat n4) 3 hole) (Int.toNat n4) 4 hole) (Int.toNat n4) 5 hole) (Int.toNat n4) 6 (.v (.int .i64 n27))) (Int.toNat n4) 7 (.v (.string s28))) (Int.toNat n4) 8 (.v (.int .i64 n29))) (Int.toNat n4) 9 hole) (Int.toNat n4) 10 hole) (Int.toNat n4) 11 hole) (Int.toNat n4) 12 (.v (.bool b33))) (Int.toNat n4) 11 (.s 2 l32)) (Int.toNat n4) 10 (.s 5 l31)) (Int.toNat n4) 9 (.s 1 l30)) (Int.toNat n4) 5 (.s 2 l26)) (Int.toNat n4) 4 (.s 1 l25)) (Int.toNat n4) 3 (.s 3 l24))), (.v (.int .i64 (IntKind.wrap .i64 (n4 + 1))))])))) else (
 some ((.exit 0), [(.o 13 l3)]))) := by kernel_rfl
theorem a53q (T : Table) (k : Nat) (l1 : Rows) : evalF T k a53 [(.d (.s 13 l1))] = (
 tst (cutOk (l1.length : Int) (l1.length : Int) maxLen && decide (Int.toNat (l1.length : Int) * 216 ≤ maxBytes)) (
 aft (l53x0 T k k [(.fz 13 l1), (.o 13 (List.replicate (Int.toNat (l1.length : Int)) [(.v (.int .i64 0)), (.v (.string ByteArray.empty)), (.v (.int .i64 0)), (.s 3 []), (.s 1 []), (.s 2 []), (.v (.int .i64 0)), (.v (.string ByteArray.empty)), (.v (.int .i64 0)), (.s 1 []), (.s 5 []), (.s 2 []), (.v (.bool false))])), (.v (.int .i64 0))]) fun e34 ys35 =>
 bif e34.same (.exit 0) then (
 aV ys35 0 fun x36 =>
 aO 13 x36 fun l37 =>
 some ⟨(.d (.s 13 l37)), []⟩) else (
 none))) := by kernel_rfl
/- loop.example/g00119/laws.toLabel -/

def a287 : AFun := ⟨[.rd], false, [.c 2 true [.s, .s]], (
  .seq (.reg false [⟨some 1, .box (.t 0), none⟩,
    ⟨some 2, .alloc [(.v (.string ByteArray.empty)), (.v (.string ByteArray.empty))], none⟩]) (
  .seq (.reg false [⟨some 3, .alloc [(.v (.string ByteArray.empty)), (.v (.string ByteArray.empty))], none⟩]) (
  .seq (.reg false [⟨some 4, .fad 0 (.t 1), none⟩,
    ⟨some 5, .load false [.s] (.t 4), none⟩,
    ⟨some 6, .fad 0 (.t 3), none⟩,
    ⟨none, .store 1 (.t 6) (.t 5), none⟩]) (
  .seq (.reg false [⟨some 7, .fad 1 (.t 1), none⟩,
    ⟨some 8, .load false [.s] (.t 7), none⟩,
    ⟨some 9, .fad 1 (.t 3), none⟩,
    ⟨none, .store 1 (.t 9) (.t 8), none⟩]) (
  .seq (.reg false [⟨some 10, .load true [.s, .s] (.t 3), none⟩,
    ⟨none, .store 2 (.t 2) (.t 10), none⟩]) (
  .ret))))))⟩

theorem a287q (T : Table) (k : Nat) (s1 : ByteArray) (s2 : ByteArray) : evalF T k a287 [(.g [(.v (.string s1)), (.v (.string s2))])] = (
 some ⟨(.g [(.v (.string s1)), (.v (.string s2))]), []⟩) := by kernel_rfl
/- loop.example/g00119/laws.toLabelS -/
def b190x0 : ACode := (
  .seq (.seq (.reg false [⟨some 8, .mv (.t 4), none⟩,
    ⟨some 9, .mv (.t 0), none⟩,
    ⟨some 10, .len false (.t 9), none⟩,
    ⟨some 11, .bin .lss (.t 8) (.t 10), none⟩]) (
  .cond (.t 11) (.skip) (.exit 0))) (
  .seq (.block 1 (.reg false [⟨some 14, .mv (.t 3), none⟩,
      ⟨some 15, .mv (.t 4), none⟩,
      ⟨some 16, .mv (.t 0), none⟩,
      ⟨some 17, .mv (.t 4), none⟩,
      ⟨some 18, .iad 2 (.t 16) (.t 17), none⟩,
      ⟨some 19, .load true [.s, .s] (.t 18), none⟩,
      ⟨some 20, .call (.f 287) [.rd] false [.g [.s, .s]] [(.t 19)], none⟩,
      ⟨some 21, .iad 2 (.t 14) (.t 15), none⟩,
      ⟨none, .store 2 (.t 21) (.t 20), none⟩])) (
  .reg false [⟨some 12, .mv (.t 4), none⟩,
    ⟨some 13, .bin .add (.t 12) (.c (.v (.int .i64 1))), none⟩,
    ⟨some 4, .mv (.t 13), none⟩])))
def e190x0 : Exits := [((.exit 0), [(3, .o 2)])]
noncomputable def l190x0 (T : Table) (k : Nat) := loopN (evalC ⟨T, []⟩ k b190x0 (Ex × List AV)) [0, 3, 4] e190x0
def a190 : AFun := ⟨[.rd], false, [.t 2], (
  .seq (.reg false [⟨some 2, .mv (.c (.o 2 [])), none⟩]) (
  .seq (.reg false [⟨some 5, .mv (.t 0), none⟩,
    ⟨some 6, .len false (.t 5), none⟩,
    ⟨some 7, .mk [(.v (.string ByteArray.empty)), (.v (.string ByteArray.empty))] 32 (.t 6) (.t 6), none⟩,
    ⟨some 3, .mv (.t 7), none⟩]) (
  .seq (.seq (.reg false [⟨some 4, .mv (.c (.v (.int .i64 0))), none⟩]) (
  .block 0 (.loop [0, 3, 4] e190x0 b190x0))) (
  .seq (.reg false [⟨some 22, .mv (.t 3), none⟩,
    ⟨some 2, .mv (.t 22), none⟩]) (
  .ret)))))⟩
theorem l190x0s (T : Table) (k n : Nat) (l2 : Rows) (l3 : Rows) (n4 : Int) : l190x0 T k (n + 1) [(.fz 2 l2), (.o 2 l3), (.v (.int .i64 n4))] = (
 bif (decide (n4 < (l2.length : Int))) then (
 tst (decide (0 ≤ n4)) (
 look l2 (Int.toNat n4) fun r5 =>
 cS r5 0 fun s6 =>
 cS r5 1 fun s7 =>
 callT T 287 [(.g [(.v (.string s6)), (.v (.string s7))])] fun o8 =>
 oG o8.res fun r9 =>
 tst (Nat.beq r9.length 2) (
 cS r9 0 fun s10 =>
 cS r9 1 fun s11 =>
 tst (decide (0 ≤ n4) && decide (Int.toNat n4 < l3.length)) (
 l190x0 T k n [(.fz 2 l2), (.o 2 (setD (setD l3 (Int.toNat n4) 0 (.v (.string s10))) (Int.toNat n4) 1 (.v (.string s11)))), (.v (.int .i64 (IntKind.wrap .i64 (n4 + 1))))])))) else (
 some ((.exit 0), [(.o 2 l3)]))) := by kernel_rfl
theorem a190q (T : Table) (k : Nat) (l1 : Rows) : evalF T k a190 [(.d (.s 2 l1))] = (
 tst (cutOk (l1.length : Int) (l1.length : Int) maxLen && decide (Int.toNat (l1.length : Int) * 32 ≤ maxBytes)) (
 aft (l190x0 T k k [(.fz 2 l1), (.o 2 (List.replicate (Int.toNat (l1.length : Int)) [(.v (.string ByteArray.empty)), (.v (.string ByteArray.empty))])), (.v (.int .i64 0))]) fun e12 ys13 =>
 bif e12.same (.exit 0) then (
 aV ys13 0 fun x14 =>
 aO 2 x14 fun l15 =>
 some ⟨(.d (.s 2 l15)), []⟩) else (
 none))) := by kernel_rfl
/- loop.example/g00119/laws.toIsland -/

def a83 : AFun := ⟨[.rd], false, [.c 2 true [.s, (.sl 2), (.sl 1), (.i .i64)]], (
  .seq (.reg false [⟨some 1, .box (.t 0), none⟩,
    ⟨some 2, .alloc [(.v (.string ByteArray.empty)), (.s 2 []), (.s 1 []), (.v (.int .i64 0))], none⟩]) (
  .seq (.reg false [⟨some 3, .alloc [(.v (.string ByteArray.empty)), (.s 2 []), (.s 1 []), (.v (.int .i64 0))], none⟩]) (
  .seq (.reg false [⟨some 4, .fad 0 (.t 1), none⟩,
    ⟨some 5, .load false [.s] (.t 4), none⟩,
    ⟨some 6, .fad 0 (.t 3), none⟩,
    ⟨none, .store 1 (.t 6) (.t 5), none⟩]) (
  .seq (.reg false [⟨some 7, .fad 1 (.t 1), none⟩,
    ⟨some 8, .load false [(.sl 2)] (.t 7), none⟩,
    ⟨some 9, .call (.f 190) [.rd] false [.c (.sl 2)] [(.t 8)], none⟩,
    ⟨some 10, .fad 1 (.t 3), none⟩,
    ⟨none, .store 1 (.t 10) (.t 9), none⟩]) (
  .seq (.reg false [⟨some 11, .fad 2 (.t 1), none⟩,
    ⟨some 12, .load false [(.sl 1)] (.t 11), none⟩,
    ⟨some 13, .call (.f 56) [.rd] false [.c (.sl 1)] [(.t 12)], none⟩,
    ⟨some 14, .fad 2 (.t 3), none⟩,
    ⟨none, .store 1 (.t 14) (.t 13), none⟩]) (
  .seq (.reg false [⟨some 15, .fad 3 (.t 1), none⟩,
    ⟨some 16, .load false [(.i .i64)] (.t 15), none⟩,
    ⟨some 17, .fad 3 (.t 3), none⟩,
    ⟨none, .store 1 (.t 17) (.t 16), none⟩]) (
  .seq (.reg false [⟨some 18, .load true [.s, (.sl 2), (.sl 1), (.i .i64)] (.t 3), none⟩,
    ⟨none, .store 4 (.t 2) (.t 18), none⟩]) (
  .ret))))))))⟩

theorem a83q (T : Table) (k : Nat) (s1 : ByteArray) (l2 : Rows) (l3 : Rows) (n4 : Int) : evalF T k a83 [(.g [(.v (.string s1)), (.s 2 l2), (.s 1 l3), (.v (.int .i64 n4))])] = (
 callT T 190 [(.d (.s 2 l2))] fun o5 =>
 oD o5.res fun d6 =>
 dL 2 d6 fun l7 =>
 callT T 56 [(.d (.s 1 l3))] fun o8 =>
 oD o8.res fun d9 =>
 dL 1 d9 fun l10 =>
 some ⟨(.g [(.v (.string s1)), (.s 2 l7), (.s 1 l10), (.v (.int .i64 n4))]), []⟩) := by kernel_rfl
/- loop.example/g00119/laws.toPost -/

def a160 : AFun := ⟨[.rd], false, [.c 2 true [.s, (.sl 2), (.sl 1), (.i .i64), (.i .i64), (.i .i64)]], (
  .seq (.reg false [⟨some 1, .box (.t 0), none⟩,
    ⟨some 2, .alloc [(.v (.string ByteArray.empty)), (.s 2 []), (.s 1 []), (.v (.int .i64 0)), (.v (.int .i64 0)), (.v (.int .i64 0))], none⟩]) (
  .seq (.reg false [⟨some 3, .alloc [(.v (.string ByteArray.empty)), (.s 2 []), (.s 1 []), (.v (.int .i64 0)), (.v (.int .i64 0)), (.v (.int .i64 0))], none⟩]) (
  .seq (.reg false [⟨some 4, .fad 0 (.t 1), none⟩,
    ⟨some 5, .load true [.s, (.sl 2), (.sl 1), (.i .i64)] (.t 4), none⟩,
    ⟨some 6, .call (.f 83) [.rd] false [.g [.s, (.sl 2), (.sl 1), (.i .i64)]] [(.t 5)], none⟩,
    ⟨some 7, .fad 0 (.t 3), none⟩,
    ⟨none, .store 4 (.t 7) (.t 6), none⟩]) (
  .seq (.reg false [⟨some 8, .fad 4 (.t 1), none⟩,
    ⟨some 9, .load false [(.i .i64)] (.t 8), none⟩,
    ⟨some 10, .fad 4 (.t 3), none⟩,
    ⟨none, .store 1 (.t 10) (.t 9), none⟩]) (
  .seq (.reg false [⟨some 11, .fad 5 (.t 1), none⟩,
    ⟨some 12, .load false [(.i .i64)] (.t 11), none⟩,
    ⟨some 13, .fad 5 (.t 3), none⟩,
    ⟨none, .store 1 (.t 13) (.t 12), none⟩]) (
  .seq (.reg false [⟨some 14, .load true [.s, (.sl 2), (.sl 1), (.i .i64), (.i .i64), (.i .i64)] (.t 3), none⟩,
    ⟨none, .store 6 (.t 2) (.t 14), none⟩]) (
  .ret)))))))⟩

theorem a160q (T : Table) (k : Nat) (s1 : ByteArray) (l2 : Rows) (l3 : Rows) (n4 : Int) (n5 : Int) (n6 : Int) : evalF T k a160 [(.g [(.v (.string s1)), (.s 2 l2), (.s 1 l3), (.v (.int .i64 n4)), (.v (.int .i64 n5)), (.v (.int .i64 n6))])] = (
 callT T 83 [(.g [(.v (.string s1)), (.s 2 l2), (.s 1 l3), (.v (.int .i64 n4))])] fun o7 =>
 oG o7.res fun r8 =>
 tst (Nat.beq r8.length 4) (
 cS r8 0 fun s9 =>
 cL 2 r8 1 fun l10 =>
 cL 1 r8 2 fun l11 =>
 cI .i64 r8 3 fun n12 =>
 some ⟨(.g [(.v (.string s9)), (.s 2 l10), (.s 1 l11), (.v (.int .i64 n12)), (.v (.int .i64 n5)), (.v (.int .i64 n6))]), []⟩)) := by kernel_rfl
/- loop.example/g00119/laws.toPostS -/
def b54x0 : ACode := (
  .seq (.seq (.reg false [⟨some 8, .mv (.t 4), none⟩,
    ⟨some 9, .mv (.t 0), none⟩,
    ⟨some 10, .len false (.t 9), none⟩,
    ⟨some 11, .bin .lss (.t 8) (.t 10), none⟩]) (
  .cond (.t 11) (.skip) (.exit 0))) (
  .seq (.block 1 (.reg false [⟨some 14, .mv (.t 3), none⟩,
      ⟨some 15, .mv (.t 4), none⟩,
      ⟨some 16, .mv (.t 0), none⟩,
      ⟨some 17, .mv (.t 4), none⟩,
      ⟨some 18, .iad 6 (.t 16) (.t 17), none⟩,
      ⟨some 19, .load true [.s, (.sl 2), (.sl 1), (.i .i64), (.i .i64), (.i .i64)] (.t 18), none⟩,
      ⟨some 20, .call (.f 160) [.rd] false [.g [.s, (.sl 2), (.sl 1), (.i .i64), (.i .i64), (.i .i64)]] [(.t 19)], none⟩,
      ⟨some 21, .iad 6 (.t 14) (.t 15), none⟩,
      ⟨none, .store 6 (.t 21) (.t 20), none⟩])) (
  .reg false [⟨some 12, .mv (.t 4), none⟩,
    ⟨some 13, .bin .add (.t 12) (.c (.v (.int .i64 1))), none⟩,
    ⟨some 4, .mv (.t 13), none⟩])))
def e54x0 : Exits := [((.exit 0), [(3, .o 6)])]
noncomputable def l54x0 (T : Table) (k : Nat) := loopN (evalC ⟨T, []⟩ k b54x0 (Ex × List AV)) [0, 3, 4] e54x0
def a54 : AFun := ⟨[.rd], false, [.t 2], (
  .seq (.reg false [⟨some 2, .mv (.c (.o 6 [])), none⟩]) (
  .seq (.reg false [⟨some 5, .mv (.t 0), none⟩,
    ⟨some 6, .len false (.t 5), none⟩,
    ⟨some 7, .mk [(.v (.string ByteArray.empty)), (.s 2 []), (.s 1 []), (.v (.int .i64 0)), (.v (.int .i64 0)), (.v (.int .i64 0))] 88 (.t 6) (.t 6), none⟩,
    ⟨some 3, .mv (.t 7), none⟩]) (
  .seq (.seq (.reg false [⟨some 4, .mv (.c (.v (.int .i64 0))), none⟩]) (
  .block 0 (.loop [0, 3, 4] e54x0 b54x0))) (
  .seq (.reg false [⟨some 22, .mv (.t 3), none⟩,
    ⟨some 2, .mv (.t 22), none⟩]) (
  .ret)))))⟩
theorem l54x0s (T : Table) (k n : Nat) (l2 : Rows) (l3 : Rows) (n4 : Int) : l54x0 T k (n + 1) [(.fz 6 l2), (.o 6 l3), (.v (.int .i64 n4))] = (
 bif (decide (n4 < (l2.length : Int))) then (
 tst (decide (0 ≤ n4)) (
 look l2 (Int.toNat n4) fun r5 =>
 cS r5 0 fun s6 =>
 cL 2 r5 1 fun l7 =>
 cL 1 r5 2 fun l8 =>
 cI .i64 r5 3 fun n9 =>
 cI .i64 r5 4 fun n10 =>
 cI .i64 r5 5 fun n11 =>
 callT T 160 [(.g [(.v (.string s6)), (.s 2 l7), (.s 1 l8), (.v (.int .i64 n9)), (.v (.int .i64 n10)), (.v (.int .i64 n11))])] fun o12 =>
 oG o12.res fun r13 =>
 tst (Nat.beq r13.length 6) (
 cS r13 0 fun s14 =>
 cL 2 r13 1 fun l15 =>
 cL 1 r13 2 fun l16 =>
 cI .i64 r13 3 fun n17 =>
 cI .i64 r13 4 fun n18 =>
 cI .i64 r13 5 fun n19 =>
 tst (decide (0 ≤ n4) && decide (Int.toNat n4 < l3.length)) (
 l54x0 T k n [(.fz 6 l2), (.o 6 (setD (setD (setD (setD (setD (setD (setD (setD l3 (Int.toNat n4) 0 (.v (.string s14))) (Int.toNat n4) 1 hole) (Int.toNat n4) 2 hole) (Int.toNat n4) 3 (.v (.int .i64 n17))) (Int.toNat n4) 4 (.v (.int .i64 n18))) (Int.toNat n4) 5 (.v (.int .i64 n19))) (Int.toNat n4) 2 (.s 1 l16)) (Int.toNat n4) 1 (.s 2 l15))), (.v (.int .i64 (IntKind.wrap .i64 (n4 + 1))))])))) else (
 some ((.exit 0), [(.o 6 l3)]))) := by kernel_rfl
theorem a54q (T : Table) (k : Nat) (l1 : Rows) : evalF T k a54 [(.d (.s 6 l1))] = (
 tst (cutOk (l1.length : Int) (l1.length : Int) maxLen && decide (Int.toNat (l1.length : Int) * 88 ≤ maxBytes)) (
 aft (l54x0 T k k [(.fz 6 l1), (.o 6 (List.replicate (Int.toNat (l1.length : Int)) [(.v (.string ByteArray.empty)), (.s 2 []), (.s 1 []), (.v (.int .i64 0)), (.v (.int .i64 0)), (.v (.int .i64 0))])), (.v (.int .i64 0))]) fun e20 ys21 =>
 bif e20.same (.exit 0) then (
 aV ys21 0 fun x22 =>
 aO 6 x22 fun l23 =>
 some ⟨(.d (.s 6 l23)), []⟩) else (
 none))) := by kernel_rfl
/- loop.example/g00119/laws.toHold -/

def a161 : AFun := ⟨[.rd], false, [.c 2 true [(.i .i64), .s, (.i .i64), (.i .i64), (.i .i64)]], (
  .seq (.reg false [⟨some 1, .box (.t 0), none⟩,
    ⟨some 2, .alloc [(.v (.int .i64 0)), (.v (.string ByteArray.empty)), (.v (.int .i64 0)), (.v (.int .i64 0)), (.v (.int .i64 0))], none⟩]) (
  .seq (.reg false [⟨some 3, .alloc [(.v (.int .i64 0)), (.v (.string ByteArray.empty)), (.v (.int .i64 0)), (.v (.int .i64 0)), (.v (.int .i64 0))], none⟩]) (
  .seq (.reg false [⟨some 4, .fad 0 (.t 1), none⟩,
    ⟨some 5, .load false [(.i .i64)] (.t 4), none⟩,
    ⟨some 6, .fad 0 (.t 3), none⟩,
    ⟨none, .store 1 (.t 6) (.t 5), none⟩]) (
  .seq (.reg false [⟨some 7, .fad 1 (.t 1), none⟩,
    ⟨some 8, .load false [.s] (.t 7), none⟩,
    ⟨some 9, .fad 1 (.t 3), none⟩,
    ⟨none, .store 1 (.t 9) (.t 8), none⟩]) (
  .seq (.reg false [⟨some 10, .fad 2 (.t 1), none⟩,
    ⟨some 11, .load false [(.i .i64)] (.t 10), none⟩,
    ⟨some 12, .fad 2 (.t 3), none⟩,
    ⟨none, .store 1 (.t 12) (.t 11), none⟩]) (
  .seq (.reg false [⟨some 13, .fad 3 (.t 1), none⟩,
    ⟨some 14, .load false [(.i .i64)] (.t 13), none⟩,
    ⟨some 15, .fad 3 (.t 3), none⟩,
    ⟨none, .store 1 (.t 15) (.t 14), none⟩]) (
  .seq (.reg false [⟨some 16, .fad 4 (.t 1), none⟩,
    ⟨some 17, .load false [(.i .i64)] (.t 16), none⟩,
    ⟨some 18, .fad 4 (.t 3), none⟩,
    ⟨none, .store 1 (.t 18) (.t 17), none⟩]) (
  .seq (.reg false [⟨some 19, .load true [(.i .i64), .s, (.i .i64), (.i .i64), (.i .i64)] (.t 3), none⟩,
    ⟨none, .store 5 (.t 2) (.t 19), none⟩]) (
  .ret)))))))))⟩

theorem a161q (T : Table) (k : Nat) (n1 : Int) (s2 : ByteArray) (n3 : Int) (n4 : Int) (n5 : Int) : evalF T k a161 [(.g [(.v (.int .i64 n1)), (.v (.string s2)), (.v (.int .i64 n3)), (.v (.int .i64 n4)), (.v (.int .i64 n5))])] = (
 some ⟨(.g [(.v (.int .i64 n1)), (.v (.string s2)), (.v (.int .i64 n3)), (.v (.int .i64 n4)), (.v (.int .i64 n5))]), []⟩) := by kernel_rfl
/- loop.example/g00119/laws.toHoldS -/
def b55x0 : ACode := (
  .seq (.seq (.reg false [⟨some 8, .mv (.t 4), none⟩,
    ⟨some 9, .mv (.t 0), none⟩,
    ⟨some 10, .len false (.t 9), none⟩,
    ⟨some 11, .bin .lss (.t 8) (.t 10), none⟩]) (
  .cond (.t 11) (.skip) (.exit 0))) (
  .seq (.block 1 (.reg false [⟨some 14, .mv (.t 3), none⟩,
      ⟨some 15, .mv (.t 4), none⟩,
      ⟨some 16, .mv (.t 0), none⟩,
      ⟨some 17, .mv (.t 4), none⟩,
      ⟨some 18, .iad 5 (.t 16) (.t 17), none⟩,
      ⟨some 19, .load true [(.i .i64), .s, (.i .i64), (.i .i64), (.i .i64)] (.t 18), none⟩,
      ⟨some 20, .call (.f 161) [.rd] false [.g [(.i .i64), .s, (.i .i64), (.i .i64), (.i .i64)]] [(.t 19)], none⟩,
      ⟨some 21, .iad 5 (.t 14) (.t 15), none⟩,
      ⟨none, .store 5 (.t 21) (.t 20), none⟩])) (
  .reg false [⟨some 12, .mv (.t 4), none⟩,
    ⟨some 13, .bin .add (.t 12) (.c (.v (.int .i64 1))), none⟩,
    ⟨some 4, .mv (.t 13), none⟩])))
def e55x0 : Exits := [((.exit 0), [(3, .o 5)])]
noncomputable def l55x0 (T : Table) (k : Nat) := loopN (evalC ⟨T, []⟩ k b55x0 (Ex × List AV)) [0, 3, 4] e55x0
def a55 : AFun := ⟨[.rd], false, [.t 2], (
  .seq (.reg false [⟨some 2, .mv (.c (.o 5 [])), none⟩]) (
  .seq (.reg false [⟨some 5, .mv (.t 0), none⟩,
    ⟨some 6, .len false (.t 5), none⟩,
    ⟨some 7, .mk [(.v (.int .i64 0)), (.v (.string ByteArray.empty)), (.v (.int .i64 0)), (.v (.int .i64 0)), (.v (.int .i64 0))] 48 (.t 6) (.t 6), none⟩,
    ⟨some 3, .mv (.t 7), none⟩]) (
  .seq (.seq (.reg false [⟨some 4, .mv (.c (.v (.int .i64 0))), none⟩]) (
  .block 0 (.loop [0, 3, 4] e55x0 b55x0))) (
  .seq (.reg false [⟨some 22, .mv (.t 3), none⟩,
    ⟨some 2, .mv (.t 22), none⟩]) (
  .ret)))))⟩
theorem l55x0s (T : Table) (k n : Nat) (l2 : Rows) (l3 : Rows) (n4 : Int) : l55x0 T k (n + 1) [(.fz 5 l2), (.o 5 l3), (.v (.int .i64 n4))] = (
 bif (decide (n4 < (l2.length : Int))) then (
 tst (decide (0 ≤ n4)) (
 look l2 (Int.toNat n4) fun r5 =>
 cI .i64 r5 0 fun n6 =>
 cS r5 1 fun s7 =>
 cI .i64 r5 2 fun n8 =>
 cI .i64 r5 3 fun n9 =>
 cI .i64 r5 4 fun n10 =>
 callT T 161 [(.g [(.v (.int .i64 n6)), (.v (.string s7)), (.v (.int .i64 n8)), (.v (.int .i64 n9)), (.v (.int .i64 n10))])] fun o11 =>
 oG o11.res fun r12 =>
 tst (Nat.beq r12.length 5) (
 cI .i64 r12 0 fun n13 =>
 cS r12 1 fun s14 =>
 cI .i64 r12 2 fun n15 =>
 cI .i64 r12 3 fun n16 =>
 cI .i64 r12 4 fun n17 =>
 tst (decide (0 ≤ n4) && decide (Int.toNat n4 < l3.length)) (
 l55x0 T k n [(.fz 5 l2), (.o 5 (setD (setD (setD (setD (setD l3 (Int.toNat n4) 0 (.v (.int .i64 n13))) (Int.toNat n4) 1 (.v (.string s14))) (Int.toNat n4) 2 (.v (.int .i64 n15))) (Int.toNat n4) 3 (.v (.int .i64 n16))) (Int.toNat n4) 4 (.v (.int .i64 n17)))), (.v (.int .i64 (IntKind.wrap .i64 (n4 + 1))))])))) else (
 some ((.exit 0), [(.o 5 l3)]))) := by kernel_rfl
theorem a55q (T : Table) (k : Nat) (l1 : Rows) : evalF T k a55 [(.d (.s 5 l1))] = (
 tst (cutOk (l1.length : Int) (l1.length : Int) maxLen && decide (Int.toNat (l1.length : Int) * 48 ≤ maxBytes)) (
 aft (l55x0 T k k [(.fz 5 l1), (.o 5 (List.replicate (Int.toNat (l1.length : Int)) [(.v (.int .i64 0)), (.v (.string ByteArray.empty)), (.v (.int .i64 0)), (.v (.int .i64 0)), (.v (.int .i64 0))])), (.v (.int .i64 0))]) fun e18 ys19 =>
 bif e18.same (.exit 0) then (
 aV ys19 0 fun x20 =>
 aO 5 x20 fun l21 =>
 some ⟨(.d (.s 5 l21)), []⟩) else (
 none))) := by kernel_rfl
/- loop.example/g00119/laws.toHub -/

def a11 : AFun := ⟨[.rd], false, [.c 2 true [(.i .i64), (.i .i64), (.i .i64), (.sl 13), (.sl 6), (.sl 5), (.sl 1)]], (
  .seq (.reg false [⟨some 1, .box (.t 0), none⟩,
    ⟨some 2, .alloc [(.v (.int .i64 0)), (.v (.int .i64 0)), (.v (.int .i64 0)), (.s 13 []), (.s 6 []), (.s 5 []), (.s 1 [])], none⟩]) (
  .seq (.reg false [⟨some 3, .alloc [(.v (.int .i64 0)), (.v (.int .i64 0)), (.v (.int .i64 0)), (.s 13 []), (.s 6 []), (.s 5 []), (.s 1 [])], none⟩]) (
  .seq (.reg false [⟨some 4, .fad 0 (.t 1), none⟩,
    ⟨some 5, .load false [(.i .i64)] (.t 4), none⟩,
    ⟨some 6, .fad 0 (.t 3), none⟩,
    ⟨none, .store 1 (.t 6) (.t 5), none⟩]) (
  .seq (.reg false [⟨some 7, .fad 1 (.t 1), none⟩,
    ⟨some 8, .load false [(.i .i64)] (.t 7), none⟩,
    ⟨some 9, .fad 1 (.t 3), none⟩,
    ⟨none, .store 1 (.t 9) (.t 8), none⟩]) (
  .seq (.reg false [⟨some 10, .fad 2 (.t 1), none⟩,
    ⟨some 11, .load false [(.i .i64)] (.t 10), none⟩,
    ⟨some 12, .fad 2 (.t 3), none⟩,
    ⟨none, .store 1 (.t 12) (.t 11), none⟩]) (
  .seq (.reg false [⟨some 13, .fad 3 (.t 1), none⟩,
    ⟨some 14, .load false [(.sl 13)] (.t 13), none⟩,
    ⟨some 15, .call (.f 53) [.rd] false [.c (.sl 13)] [(.t 14)], none⟩,
    ⟨some 16, .fad 3 (.t 3), none⟩,
    ⟨none, .store 1 (.t 16) (.t 15), none⟩]) (
  .seq (.reg false [⟨some 17, .fad 4 (.t 1), none⟩,
    ⟨some 18, .load false [(.sl 6)] (.t 17), none⟩,
    ⟨some 19, .call (.f 54) [.rd] false [.c (.sl 6)] [(.t 18)], none⟩,
    ⟨some 20, .fad 4 (.t 3), none⟩,
    ⟨none, .store 1 (.t 20) (.t 19), none⟩]) (
  .seq (.reg false [⟨some 21, .fad 5 (.t 1), none⟩,
    ⟨some 22, .load false [(.sl 5)] (.t 21), none⟩,
    ⟨some 23, .call (.f 55) [.rd] false [.c (.sl 5)] [(.t 22)], none⟩,
    ⟨some 24, .fad 5 (.t 3), none⟩,
    ⟨none, .store 1 (.t 24) (.t 23), none⟩]) (
  .seq (.reg false [⟨some 25, .fad 6 (.t 1), none⟩,
    ⟨some 26, .load false [(.sl 1)] (.t 25), none⟩,
    ⟨some 27, .call (.f 56) [.rd] false [.c (.sl 1)] [(.t 26)], none⟩,
    ⟨some 28, .fad 6 (.t 3), none⟩,
    ⟨none, .store 1 (.t 28) (.t 27), none⟩]) (
  .seq (.reg false [⟨some 29, .load true [(.i .i64), (.i .i64), (.i .i64), (.sl 13), (.sl 6), (.sl 5), (.sl 1)] (.t 3), none⟩,
    ⟨none, .store 7 (.t 2) (.t 29), none⟩]) (
  .ret)))))))))))⟩

theorem a11q (T : Table) (k : Nat) (n1 : Int) (n2 : Int) (n3 : Int) (l4 : Rows) (l5 : Rows) (l6 : Rows) (l7 : Rows) : evalF T k a11 [(.g [(.v (.int .i64 n1)), (.v (.int .i64 n2)), (.v (.int .i64 n3)), (.s 13 l4), (.s 6 l5), (.s 5 l6), (.s 1 l7)])] = (
 callT T 53 [(.d (.s 13 l4))] fun o8 =>
 oD o8.res fun d9 =>
 dL 13 d9 fun l10 =>
 callT T 54 [(.d (.s 6 l5))] fun o11 =>
 oD o11.res fun d12 =>
 dL 6 d12 fun l13 =>
 callT T 55 [(.d (.s 5 l6))] fun o14 =>
 oD o14.res fun d15 =>
 dL 5 d15 fun l16 =>
 callT T 56 [(.d (.s 1 l7))] fun o17 =>
 oD o17.res fun d18 =>
 dL 1 d18 fun l19 =>
 some ⟨(.g [(.v (.int .i64 n1)), (.v (.int .i64 n2)), (.v (.int .i64 n3)), (.s 13 l10), (.s 6 l13), (.s 5 l16), (.s 1 l19)]), []⟩) := by kernel_rfl
/- loop.example/g00119/laws.toByteS -/
def b104x0 : ACode := (
  .seq (.seq (.reg false [⟨some 8, .mv (.t 4), none⟩,
    ⟨some 9, .mv (.t 0), none⟩,
    ⟨some 10, .len false (.t 9), none⟩,
    ⟨some 11, .bin .lss (.t 8) (.t 10), none⟩]) (
  .cond (.t 11) (.skip) (.exit 0))) (
  .seq (.block 1 (.reg false [⟨some 14, .mv (.t 3), none⟩,
      ⟨some 15, .mv (.t 4), none⟩,
      ⟨some 16, .mv (.t 0), none⟩,
      ⟨some 17, .mv (.t 4), none⟩,
      ⟨some 18, .iad 1 (.t 16) (.t 17), none⟩,
      ⟨some 19, .load false [(.i .u8)] (.t 18), none⟩,
      ⟨some 20, .iad 1 (.t 14) (.t 15), none⟩,
      ⟨none, .store 1 (.t 20) (.t 19), none⟩])) (
  .reg false [⟨some 12, .mv (.t 4), none⟩,
    ⟨some 13, .bin .add (.t 12) (.c (.v (.int .i64 1))), none⟩,
    ⟨some 4, .mv (.t 13), none⟩])))
def e104x0 : Exits := [((.exit 0), [(3, .o 1)])]
noncomputable def l104x0 (T : Table) (k : Nat) := loopN (evalC ⟨T, []⟩ k b104x0 (Ex × List AV)) [0, 3, 4] e104x0
def a104 : AFun := ⟨[.rd], false, [.t 2], (
  .seq (.reg false [⟨some 2, .mv (.c (.o 1 [])), none⟩]) (
  .seq (.reg false [⟨some 5, .mv (.t 0), none⟩,
    ⟨some 6, .len false (.t 5), none⟩,
    ⟨some 7, .mk [(.v (.int .u8 0))] 1 (.t 6) (.t 6), none⟩,
    ⟨some 3, .mv (.t 7), none⟩]) (
  .seq (.seq (.reg false [⟨some 4, .mv (.c (.v (.int .i64 0))), none⟩]) (
  .block 0 (.loop [0, 3, 4] e104x0 b104x0))) (
  .seq (.reg false [⟨some 21, .mv (.t 3), none⟩,
    ⟨some 2, .mv (.t 21), none⟩]) (
  .ret)))))⟩
theorem l104x0s (T : Table) (k n : Nat) (l2 : Rows) (l3 : Rows) (n4 : Int) : l104x0 T k (n + 1) [(.fz 1 l2), (.o 1 l3), (.v (.int .i64 n4))] = (
 bif (decide (n4 < (l2.length : Int))) then (
 tst (decide (0 ≤ n4)) (
 look l2 (Int.toNat n4) fun r5 =>
 cI .u8 r5 0 fun n6 =>
 tst (decide (0 ≤ n4) && decide (Int.toNat n4 < l3.length)) (
 l104x0 T k n [(.fz 1 l2), (.o 1 (setD l3 (Int.toNat n4) 0 (.v (.int .u8 n6)))), (.v (.int .i64 (IntKind.wrap .i64 (n4 + 1))))]))) else (
 some ((.exit 0), [(.o 1 l3)]))) := by kernel_rfl
theorem a104q (T : Table) (k : Nat) (l1 : Rows) : evalF T k a104 [(.d (.s 1 l1))] = (
 tst (cutOk (l1.length : Int) (l1.length : Int) maxLen && decide (Int.toNat (l1.length : Int) * 1 ≤ maxBytes)) (
 aft (l104x0 T k k [(.fz 1 l1), (.o 1 (List.replicate (Int.toNat (l1.length : Int)) [(.v (.int .u8 0))])), (.v (.int .i64 0))]) fun e7 ys8 =>
 bif e7.same (.exit 0) then (
 aV ys8 0 fun x9 =>
 aO 1 x9 fun l10 =>
 some ⟨(.d (.s 1 l10)), []⟩) else (
 none))) := by kernel_rfl
/- loop.example/g00119/laws.toRun -/

def a191 : AFun := ⟨[.rd], false, [.c 2 true [(.i .i64), (.i .i64)]], (
  .seq (.reg false [⟨some 1, .box (.t 0), none⟩,
    ⟨some 2, .alloc [(.v (.int .i64 0)), (.v (.int .i64 0))], none⟩]) (
  .seq (.reg false [⟨some 3, .alloc [(.v (.int .i64 0)), (.v (.int .i64 0))], none⟩]) (
  .seq (.reg false [⟨some 4, .fad 0 (.t 1), none⟩,
    ⟨some 5, .load false [(.i .i64)] (.t 4), none⟩,
    ⟨some 6, .fad 0 (.t 3), none⟩,
    ⟨none, .store 1 (.t 6) (.t 5), none⟩]) (
  .seq (.reg false [⟨some 7, .fad 1 (.t 1), none⟩,
    ⟨some 8, .load false [(.i .i64)] (.t 7), none⟩,
    ⟨some 9, .fad 1 (.t 3), none⟩,
    ⟨none, .store 1 (.t 9) (.t 8), none⟩]) (
  .seq (.reg false [⟨some 10, .load true [(.i .i64), (.i .i64)] (.t 3), none⟩,
    ⟨none, .store 2 (.t 2) (.t 10), none⟩]) (
  .ret))))))⟩

theorem a191q (T : Table) (k : Nat) (n1 : Int) (n2 : Int) : evalF T k a191 [(.g [(.v (.int .i64 n1)), (.v (.int .i64 n2))])] = (
 some ⟨(.g [(.v (.int .i64 n1)), (.v (.int .i64 n2))]), []⟩) := by kernel_rfl
/- loop.example/g00119/laws.toRunS -/
def b84x0 : ACode := (
  .seq (.seq (.reg false [⟨some 8, .mv (.t 4), none⟩,
    ⟨some 9, .mv (.t 0), none⟩,
    ⟨some 10, .len false (.t 9), none⟩,
    ⟨some 11, .bin .lss (.t 8) (.t 10), none⟩]) (
  .cond (.t 11) (.skip) (.exit 0))) (
  .seq (.block 1 (.reg false [⟨some 14, .mv (.t 3), none⟩,
      ⟨some 15, .mv (.t 4), none⟩,
      ⟨some 16, .mv (.t 0), none⟩,
      ⟨some 17, .mv (.t 4), none⟩,
      ⟨some 18, .iad 2 (.t 16) (.t 17), none⟩,
      ⟨some 19, .load true [(.i .i64), (.i .i64)] (.t 18), none⟩,
      ⟨some 20, .call (.f 191) [.rd] false [.g [(.i .i64), (.i .i64)]] [(.t 19)], none⟩,
      ⟨some 21, .iad 2 (.t 14) (.t 15), none⟩,
      ⟨none, .store 2 (.t 21) (.t 20), none⟩])) (
  .reg false [⟨some 12, .mv (.t 4), none⟩,
    ⟨some 13, .bin .add (.t 12) (.c (.v (.int .i64 1))), none⟩,
    ⟨some 4, .mv (.t 13), none⟩])))
def e84x0 : Exits := [((.exit 0), [(3, .o 2)])]
noncomputable def l84x0 (T : Table) (k : Nat) := loopN (evalC ⟨T, []⟩ k b84x0 (Ex × List AV)) [0, 3, 4] e84x0
def a84 : AFun := ⟨[.rd], false, [.t 2], (
  .seq (.reg false [⟨some 2, .mv (.c (.o 2 [])), none⟩]) (
  .seq (.reg false [⟨some 5, .mv (.t 0), none⟩,
    ⟨some 6, .len false (.t 5), none⟩,
    ⟨some 7, .mk [(.v (.int .i64 0)), (.v (.int .i64 0))] 16 (.t 6) (.t 6), none⟩,
    ⟨some 3, .mv (.t 7), none⟩]) (
  .seq (.seq (.reg false [⟨some 4, .mv (.c (.v (.int .i64 0))), none⟩]) (
  .block 0 (.loop [0, 3, 4] e84x0 b84x0))) (
  .seq (.reg false [⟨some 22, .mv (.t 3), none⟩,
    ⟨some 2, .mv (.t 22), none⟩]) (
  .ret)))))⟩
theorem l84x0s (T : Table) (k n : Nat) (l2 : Rows) (l3 : Rows) (n4 : Int) : l84x0 T k (n + 1) [(.fz 2 l2), (.o 2 l3), (.v (.int .i64 n4))] = (
 bif (decide (n4 < (l2.length : Int))) then (
 tst (decide (0 ≤ n4)) (
 look l2 (Int.toNat n4) fun r5 =>
 cI .i64 r5 0 fun n6 =>
 cI .i64 r5 1 fun n7 =>
 callT T 191 [(.g [(.v (.int .i64 n6)), (.v (.int .i64 n7))])] fun o8 =>
 oG o8.res fun r9 =>
 tst (Nat.beq r9.length 2) (
 cI .i64 r9 0 fun n10 =>
 cI .i64 r9 1 fun n11 =>
 tst (decide (0 ≤ n4) && decide (Int.toNat n4 < l3.length)) (
 l84x0 T k n [(.fz 2 l2), (.o 2 (setD (setD l3 (Int.toNat n4) 0 (.v (.int .i64 n10))) (Int.toNat n4) 1 (.v (.int .i64 n11)))), (.v (.int .i64 (IntKind.wrap .i64 (n4 + 1))))])))) else (
 some ((.exit 0), [(.o 2 l3)]))) := by kernel_rfl
theorem a84q (T : Table) (k : Nat) (l1 : Rows) : evalF T k a84 [(.d (.s 2 l1))] = (
 tst (cutOk (l1.length : Int) (l1.length : Int) maxLen && decide (Int.toNat (l1.length : Int) * 16 ≤ maxBytes)) (
 aft (l84x0 T k k [(.fz 2 l1), (.o 2 (List.replicate (Int.toNat (l1.length : Int)) [(.v (.int .i64 0)), (.v (.int .i64 0))])), (.v (.int .i64 0))]) fun e12 ys13 =>
 bif e12.same (.exit 0) then (
 aV ys13 0 fun x14 =>
 aO 2 x14 fun l15 =>
 some ⟨(.d (.s 2 l15)), []⟩) else (
 none))) := by kernel_rfl
/- loop.example/g00119/laws.toWork -/

def a358 : AFun := ⟨[.rd], false, [.c 2 true [(.i .i64), (.i .i64), (.i .i64), .s, (.i .i64), (.sl 1), (.sl 5)]], (
  .seq (.reg false [⟨some 1, .box (.t 0), none⟩,
    ⟨some 2, .alloc [(.v (.int .i64 0)), (.v (.int .i64 0)), (.v (.int .i64 0)), (.v (.string ByteArray.empty)), (.v (.int .i64 0)), (.s 1 []), (.s 5 [])], none⟩]) (
  .seq (.reg false [⟨some 3, .alloc [(.v (.int .i64 0)), (.v (.int .i64 0)), (.v (.int .i64 0)), (.v (.string ByteArray.empty)), (.v (.int .i64 0)), (.s 1 []), (.s 5 [])], none⟩]) (
  .seq (.reg false [⟨some 4, .fad 0 (.t 1), none⟩,
    ⟨some 5, .load false [(.i .i64)] (.t 4), none⟩,
    ⟨some 6, .fad 0 (.t 3), none⟩,
    ⟨none, .store 1 (.t 6) (.t 5), none⟩]) (
  .seq (.reg false [⟨some 7, .fad 1 (.t 1), none⟩,
    ⟨some 8, .load false [(.i .i64)] (.t 7), none⟩,
    ⟨some 9, .fad 1 (.t 3), none⟩,
    ⟨none, .store 1 (.t 9) (.t 8), none⟩]) (
  .seq (.reg false [⟨some 10, .fad 2 (.t 1), none⟩,
    ⟨some 11, .load true [(.i .i64), .s, (.i .i64), (.sl 1), (.sl 5)] (.t 10), none⟩,
    ⟨some 12, .call (.f 81) [.rd] false [.g [(.i .i64), .s, (.i .i64), (.sl 1), (.sl 5)]] [(.t 11)], none⟩,
    ⟨some 13, .fad 2 (.t 3), none⟩,
    ⟨none, .store 5 (.t 13) (.t 12), none⟩]) (
  .seq (.reg false [⟨some 14, .load true [(.i .i64), (.i .i64), (.i .i64), .s, (.i .i64), (.sl 1), (.sl 5)] (.t 3), none⟩,
    ⟨none, .store 7 (.t 2) (.t 14), none⟩]) (
  .ret)))))))⟩

theorem a358q (T : Table) (k : Nat) (n1 : Int) (n2 : Int) (n3 : Int) (s4 : ByteArray) (n5 : Int) (l6 : Rows) (l7 : Rows) : evalF T k a358 [(.g [(.v (.int .i64 n1)), (.v (.int .i64 n2)), (.v (.int .i64 n3)), (.v (.string s4)), (.v (.int .i64 n5)), (.s 1 l6), (.s 5 l7)])] = (
 callT T 81 [(.g [(.v (.int .i64 n3)), (.v (.string s4)), (.v (.int .i64 n5)), (.s 1 l6), (.s 5 l7)])] fun o8 =>
 oG o8.res fun r9 =>
 tst (Nat.beq r9.length 5) (
 cI .i64 r9 0 fun n10 =>
 cS r9 1 fun s11 =>
 cI .i64 r9 2 fun n12 =>
 cL 1 r9 3 fun l13 =>
 cL 5 r9 4 fun l14 =>
 some ⟨(.g [(.v (.int .i64 n1)), (.v (.int .i64 n2)), (.v (.int .i64 n10)), (.v (.string s11)), (.v (.int .i64 n12)), (.s 1 l13), (.s 5 l14)]), []⟩)) := by kernel_rfl
/- loop.example/g00119/laws.toWorkS -/
def b300x0 : ACode := (
  .seq (.seq (.reg false [⟨some 8, .mv (.t 4), none⟩,
    ⟨some 9, .mv (.t 0), none⟩,
    ⟨some 10, .len false (.t 9), none⟩,
    ⟨some 11, .bin .lss (.t 8) (.t 10), none⟩]) (
  .cond (.t 11) (.skip) (.exit 0))) (
  .seq (.block 1 (.reg false [⟨some 14, .mv (.t 3), none⟩,
      ⟨some 15, .mv (.t 4), none⟩,
      ⟨some 16, .mv (.t 0), none⟩,
      ⟨some 17, .mv (.t 4), none⟩,
      ⟨some 18, .iad 7 (.t 16) (.t 17), none⟩,
      ⟨some 19, .load true [(.i .i64), (.i .i64), (.i .i64), .s, (.i .i64), (.sl 1), (.sl 5)] (.t 18), none⟩,
      ⟨some 20, .call (.f 358) [.rd] false [.g [(.i .i64), (.i .i64), (.i .i64), .s, (.i .i64), (.sl 1), (.sl 5)]] [(.t 19)], none⟩,
      ⟨some 21, .iad 7 (.t 14) (.t 15), none⟩,
      ⟨none, .store 7 (.t 21) (.t 20), none⟩])) (
  .reg false [⟨some 12, .mv (.t 4), none⟩,
    ⟨some 13, .bin .add (.t 12) (.c (.v (.int .i64 1))), none⟩,
    ⟨some 4, .mv (.t 13), none⟩])))
def e300x0 : Exits := [((.exit 0), [(3, .o 7)])]
noncomputable def l300x0 (T : Table) (k : Nat) := loopN (evalC ⟨T, []⟩ k b300x0 (Ex × List AV)) [0, 3, 4] e300x0
def a300 : AFun := ⟨[.rd], false, [.t 2], (
  .seq (.reg false [⟨some 2, .mv (.c (.o 7 [])), none⟩]) (
  .seq (.reg false [⟨some 5, .mv (.t 0), none⟩,
    ⟨some 6, .len false (.t 5), none⟩,
    ⟨some 7, .mk [(.v (.int .i64 0)), (.v (.int .i64 0)), (.v (.int .i64 0)), (.v (.string ByteArray.empty)), (.v (.int .i64 0)), (.s 1 []), (.s 5 [])] 96 (.t 6) (.t 6), none⟩,
    ⟨some 3, .mv (.t 7), none⟩]) (
  .seq (.seq (.reg false [⟨some 4, .mv (.c (.v (.int .i64 0))), none⟩]) (
  .block 0 (.loop [0, 3, 4] e300x0 b300x0))) (
  .seq (.reg false [⟨some 22, .mv (.t 3), none⟩,
    ⟨some 2, .mv (.t 22), none⟩]) (
  .ret)))))⟩
theorem l300x0s (T : Table) (k n : Nat) (l2 : Rows) (l3 : Rows) (n4 : Int) : l300x0 T k (n + 1) [(.fz 7 l2), (.o 7 l3), (.v (.int .i64 n4))] = (
 bif (decide (n4 < (l2.length : Int))) then (
 tst (decide (0 ≤ n4)) (
 look l2 (Int.toNat n4) fun r5 =>
 cI .i64 r5 0 fun n6 =>
 cI .i64 r5 1 fun n7 =>
 cI .i64 r5 2 fun n8 =>
 cS r5 3 fun s9 =>
 cI .i64 r5 4 fun n10 =>
 cL 1 r5 5 fun l11 =>
 cL 5 r5 6 fun l12 =>
 callT T 358 [(.g [(.v (.int .i64 n6)), (.v (.int .i64 n7)), (.v (.int .i64 n8)), (.v (.string s9)), (.v (.int .i64 n10)), (.s 1 l11), (.s 5 l12)])] fun o13 =>
 oG o13.res fun r14 =>
 tst (Nat.beq r14.length 7) (
 cI .i64 r14 0 fun n15 =>
 cI .i64 r14 1 fun n16 =>
 cI .i64 r14 2 fun n17 =>
 cS r14 3 fun s18 =>
 cI .i64 r14 4 fun n19 =>
 cL 1 r14 5 fun l20 =>
 cL 5 r14 6 fun l21 =>
 tst (decide (0 ≤ n4) && decide (Int.toNat n4 < l3.length)) (
 l300x0 T k n [(.fz 7 l2), (.o 7 (setD (setD (setD (setD (setD (setD (setD (setD (setD l3 (Int.toNat n4) 0 (.v (.int .i64 n15))) (Int.toNat n4) 1 (.v (.int .i64 n16))) (Int.toNat n4) 2 (.v (.int .i64 n17))) (Int.toNat n4) 3 (.v (.string s18))) (Int.toNat n4) 4 (.v (.int .i64 n19))) (Int.toNat n4) 5 hole) (Int.toNat n4) 6 hole) (Int.toNat n4) 6 (.s 5 l21)) (Int.toNat n4) 5 (.s 1 l20))), (.v (.int .i64 (IntKind.wrap .i64 (n4 + 1))))])))) else (
 some ((.exit 0), [(.o 7 l3)]))) := by kernel_rfl
theorem a300q (T : Table) (k : Nat) (l1 : Rows) : evalF T k a300 [(.d (.s 7 l1))] = (
 tst (cutOk (l1.length : Int) (l1.length : Int) maxLen && decide (Int.toNat (l1.length : Int) * 96 ≤ maxBytes)) (
 aft (l300x0 T k k [(.fz 7 l1), (.o 7 (List.replicate (Int.toNat (l1.length : Int)) [(.v (.int .i64 0)), (.v (.int .i64 0)), (.v (.int .i64 0)), (.v (.string ByteArray.empty)), (.v (.int .i64 0)), (.s 1 []), (.s 5 [])])), (.v (.int .i64 0))]) fun e22 ys23 =>
 bif e22.same (.exit 0) then (
 aV ys23 0 fun x24 =>
 aO 7 x24 fun l25 =>
 some ⟨(.d (.s 7 l25)), []⟩) else (
 none))) := by kernel_rfl

-- a301 "loop.example/g00119/spec.l1Byte": store at fa
/- loop.example/g00119/laws.toIsle -/

def a211 : AFun := ⟨[.rd], false, [.c 2 true [.s, (.i .i64), (.i .i64), (.sl 7), (.sl 2)]], (
  .seq (.reg false [⟨some 1, .box (.t 0), none⟩,
    ⟨some 2, .alloc [(.v (.string ByteArray.empty)), (.v (.int .i64 0)), (.v (.int .i64 0)), (.s 7 []), (.s 2 [])], none⟩]) (
  .seq (.reg false [⟨some 3, .alloc [(.v (.string ByteArray.empty)), (.v (.int .i64 0)), (.v (.int .i64 0)), (.s 7 []), (.s 2 [])], none⟩]) (
  .seq (.reg false [⟨some 4, .fad 0 (.t 1), none⟩,
    ⟨some 5, .load false [.s] (.t 4), none⟩,
    ⟨some 6, .fad 0 (.t 3), none⟩,
    ⟨none, .store 1 (.t 6) (.t 5), none⟩]) (
  .seq (.reg false [⟨some 7, .fad 1 (.t 1), none⟩,
    ⟨some 8, .load false [(.i .i64)] (.t 7), none⟩,
    ⟨some 9, .fad 1 (.t 3), none⟩,
    ⟨none, .store 1 (.t 9) (.t 8), none⟩]) (
  .seq (.reg false [⟨some 10, .fad 2 (.t 1), none⟩,
    ⟨some 11, .load false [(.i .i64)] (.t 10), none⟩,
    ⟨some 12, .fad 2 (.t 3), none⟩,
    ⟨none, .store 1 (.t 12) (.t 11), none⟩]) (
  .seq (.reg false [⟨some 13, .fad 3 (.t 1), none⟩,
    ⟨some 14, .load false [(.sl 7)] (.t 13), none⟩,
    ⟨some 15, .call (.f 300) [.rd] false [.c (.sl 7)] [(.t 14)], none⟩,
    ⟨some 16, .fad 3 (.t 3), none⟩,
    ⟨none, .store 1 (.t 16) (.t 15), none⟩]) (
  .seq (.reg false [⟨some 17, .fad 4 (.t 1), none⟩,
    ⟨some 18, .load false [(.sl 2)] (.t 17), none⟩,
    ⟨some 19, .call (.f 84) [.rd] false [.c (.sl 2)] [(.t 18)], none⟩,
    ⟨some 20, .fad 4 (.t 3), none⟩,
    ⟨none, .store 1 (.t 20) (.t 19), none⟩]) (
  .seq (.reg false [⟨some 21, .load true [.s, (.i .i64), (.i .i64), (.sl 7), (.sl 2)] (.t 3), none⟩,
    ⟨none, .store 5 (.t 2) (.t 21), none⟩]) (
  .ret)))))))))⟩

theorem a211q (T : Table) (k : Nat) (s1 : ByteArray) (n2 : Int) (n3 : Int) (l4 : Rows) (l5 : Rows) : evalF T k a211 [(.g [(.v (.string s1)), (.v (.int .i64 n2)), (.v (.int .i64 n3)), (.s 7 l4), (.s 2 l5)])] = (
 callT T 300 [(.d (.s 7 l4))] fun o6 =>
 oD o6.res fun d7 =>
 dL 7 d7 fun l8 =>
 callT T 84 [(.d (.s 2 l5))] fun o9 =>
 oD o9.res fun d10 =>
 dL 2 d10 fun l11 =>
 some ⟨(.g [(.v (.string s1)), (.v (.int .i64 n2)), (.v (.int .i64 n3)), (.s 7 l8), (.s 2 l11)]), []⟩) := by kernel_rfl
/- loop.example/g00119/laws.toIsleS -/
def b105x0 : ACode := (
  .seq (.seq (.reg false [⟨some 8, .mv (.t 4), none⟩,
    ⟨some 9, .mv (.t 0), none⟩,
    ⟨some 10, .len false (.t 9), none⟩,
    ⟨some 11, .bin .lss (.t 8) (.t 10), none⟩]) (
  .cond (.t 11) (.skip) (.exit 0))) (
  .seq (.block 1 (.reg false [⟨some 14, .mv (.t 3), none⟩,
      ⟨some 15, .mv (.t 4), none⟩,
      ⟨some 16, .mv (.t 0), none⟩,
      ⟨some 17, .mv (.t 4), none⟩,
      ⟨some 18, .iad 5 (.t 16) (.t 17), none⟩,
      ⟨some 19, .load true [.s, (.i .i64), (.i .i64), (.sl 7), (.sl 2)] (.t 18), none⟩,
      ⟨some 20, .call (.f 211) [.rd] false [.g [.s, (.i .i64), (.i .i64), (.sl 7), (.sl 2)]] [(.t 19)], none⟩,
      ⟨some 21, .iad 5 (.t 14) (.t 15), none⟩,
      ⟨none, .store 5 (.t 21) (.t 20), none⟩])) (
  .reg false [⟨some 12, .mv (.t 4), none⟩,
    ⟨some 13, .bin .add (.t 12) (.c (.v (.int .i64 1))), none⟩,
    ⟨some 4, .mv (.t 13), none⟩])))
def e105x0 : Exits := [((.exit 0), [(3, .o 5)])]
noncomputable def l105x0 (T : Table) (k : Nat) := loopN (evalC ⟨T, []⟩ k b105x0 (Ex × List AV)) [0, 3, 4] e105x0
def a105 : AFun := ⟨[.rd], false, [.t 2], (
  .seq (.reg false [⟨some 2, .mv (.c (.o 5 [])), none⟩]) (
  .seq (.reg false [⟨some 5, .mv (.t 0), none⟩,
    ⟨some 6, .len false (.t 5), none⟩,
    ⟨some 7, .mk [(.v (.string ByteArray.empty)), (.v (.int .i64 0)), (.v (.int .i64 0)), (.s 7 []), (.s 2 [])] 80 (.t 6) (.t 6), none⟩,
    ⟨some 3, .mv (.t 7), none⟩]) (
  .seq (.seq (.reg false [⟨some 4, .mv (.c (.v (.int .i64 0))), none⟩]) (
  .block 0 (.loop [0, 3, 4] e105x0 b105x0))) (
  .seq (.reg false [⟨some 22, .mv (.t 3), none⟩,
    ⟨some 2, .mv (.t 22), none⟩]) (
  .ret)))))⟩
theorem l105x0s (T : Table) (k n : Nat) (l2 : Rows) (l3 : Rows) (n4 : Int) : l105x0 T k (n + 1) [(.fz 5 l2), (.o 5 l3), (.v (.int .i64 n4))] = (
 bif (decide (n4 < (l2.length : Int))) then (
 tst (decide (0 ≤ n4)) (
 look l2 (Int.toNat n4) fun r5 =>
 cS r5 0 fun s6 =>
 cI .i64 r5 1 fun n7 =>
 cI .i64 r5 2 fun n8 =>
 cL 7 r5 3 fun l9 =>
 cL 2 r5 4 fun l10 =>
 callT T 211 [(.g [(.v (.string s6)), (.v (.int .i64 n7)), (.v (.int .i64 n8)), (.s 7 l9), (.s 2 l10)])] fun o11 =>
 oG o11.res fun r12 =>
 tst (Nat.beq r12.length 5) (
 cS r12 0 fun s13 =>
 cI .i64 r12 1 fun n14 =>
 cI .i64 r12 2 fun n15 =>
 cL 7 r12 3 fun l16 =>
 cL 2 r12 4 fun l17 =>
 tst (decide (0 ≤ n4) && decide (Int.toNat n4 < l3.length)) (
 l105x0 T k n [(.fz 5 l2), (.o 5 (setD (setD (setD (setD (setD (setD (setD l3 (Int.toNat n4) 0 (.v (.string s13))) (Int.toNat n4) 1 (.v (.int .i64 n14))) (Int.toNat n4) 2 (.v (.int .i64 n15))) (Int.toNat n4) 3 hole) (Int.toNat n4) 4 hole) (Int.toNat n4) 4 (.s 2 l17)) (Int.toNat n4) 3 (.s 7 l16))), (.v (.int .i64 (IntKind.wrap .i64 (n4 + 1))))])))) else (
 some ((.exit 0), [(.o 5 l3)]))) := by kernel_rfl
theorem a105q (T : Table) (k : Nat) (l1 : Rows) : evalF T k a105 [(.d (.s 5 l1))] = (
 tst (cutOk (l1.length : Int) (l1.length : Int) maxLen && decide (Int.toNat (l1.length : Int) * 80 ≤ maxBytes)) (
 aft (l105x0 T k k [(.fz 5 l1), (.o 5 (List.replicate (Int.toNat (l1.length : Int)) [(.v (.string ByteArray.empty)), (.v (.int .i64 0)), (.v (.int .i64 0)), (.s 7 []), (.s 2 [])])), (.v (.int .i64 0))]) fun e18 ys19 =>
 bif e18.same (.exit 0) then (
 aV ys19 0 fun x20 =>
 aO 5 x20 fun l21 =>
 some ⟨(.d (.s 5 l21)), []⟩) else (
 none))) := by kernel_rfl
/- loop.example/g00119/laws.toMsg -/

def a212 : AFun := ⟨[.rd], false, [.c 2 true [(.i .i64), .s, (.i .i64), (.sl 7), (.sl 2)]], (
  .seq (.reg false [⟨some 1, .box (.t 0), none⟩,
    ⟨some 2, .alloc [(.v (.int .i64 0)), (.v (.string ByteArray.empty)), (.v (.int .i64 0)), (.s 7 []), (.s 2 [])], none⟩]) (
  .seq (.reg false [⟨some 3, .alloc [(.v (.int .i64 0)), (.v (.string ByteArray.empty)), (.v (.int .i64 0)), (.s 7 []), (.s 2 [])], none⟩]) (
  .seq (.reg false [⟨some 4, .fad 0 (.t 1), none⟩,
    ⟨some 5, .load false [(.i .i64)] (.t 4), none⟩,
    ⟨some 6, .fad 0 (.t 3), none⟩,
    ⟨none, .store 1 (.t 6) (.t 5), none⟩]) (
  .seq (.reg false [⟨some 7, .fad 1 (.t 1), none⟩,
    ⟨some 8, .load false [.s] (.t 7), none⟩,
    ⟨some 9, .fad 1 (.t 3), none⟩,
    ⟨none, .store 1 (.t 9) (.t 8), none⟩]) (
  .seq (.reg false [⟨some 10, .fad 2 (.t 1), none⟩,
    ⟨some 11, .load false [(.i .i64)] (.t 10), none⟩,
    ⟨some 12, .fad 2 (.t 3), none⟩,
    ⟨none, .store 1 (.t 12) (.t 11), none⟩]) (
  .seq (.reg false [⟨some 13, .fad 3 (.t 1), none⟩,
    ⟨some 14, .load false [(.sl 7)] (.t 13), none⟩,
    ⟨some 15, .call (.f 300) [.rd] false [.c (.sl 7)] [(.t 14)], none⟩,
    ⟨some 16, .fad 3 (.t 3), none⟩,
    ⟨none, .store 1 (.t 16) (.t 15), none⟩]) (
  .seq (.reg false [⟨some 17, .fad 4 (.t 1), none⟩,
    ⟨some 18, .load false [(.sl 2)] (.t 17), none⟩,
    ⟨some 19, .call (.f 84) [.rd] false [.c (.sl 2)] [(.t 18)], none⟩,
    ⟨some 20, .fad 4 (.t 3), none⟩,
    ⟨none, .store 1 (.t 20) (.t 19), none⟩]) (
  .seq (.reg false [⟨some 21, .load true [(.i .i64), .s, (.i .i64), (.sl 7), (.sl 2)] (.t 3), none⟩,
    ⟨none, .store 5 (.t 2) (.t 21), none⟩]) (
  .ret)))))))))⟩

theorem a212q (T : Table) (k : Nat) (n1 : Int) (s2 : ByteArray) (n3 : Int) (l4 : Rows) (l5 : Rows) : evalF T k a212 [(.g [(.v (.int .i64 n1)), (.v (.string s2)), (.v (.int .i64 n3)), (.s 7 l4), (.s 2 l5)])] = (
 callT T 300 [(.d (.s 7 l4))] fun o6 =>
 oD o6.res fun d7 =>
 dL 7 d7 fun l8 =>
 callT T 84 [(.d (.s 2 l5))] fun o9 =>
 oD o9.res fun d10 =>
 dL 2 d10 fun l11 =>
 some ⟨(.g [(.v (.int .i64 n1)), (.v (.string s2)), (.v (.int .i64 n3)), (.s 7 l8), (.s 2 l11)]), []⟩) := by kernel_rfl
/- loop.example/g00119/laws.toMsgS -/
def b106x0 : ACode := (
  .seq (.seq (.reg false [⟨some 8, .mv (.t 4), none⟩,
    ⟨some 9, .mv (.t 0), none⟩,
    ⟨some 10, .len false (.t 9), none⟩,
    ⟨some 11, .bin .lss (.t 8) (.t 10), none⟩]) (
  .cond (.t 11) (.skip) (.exit 0))) (
  .seq (.block 1 (.reg false [⟨some 14, .mv (.t 3), none⟩,
      ⟨some 15, .mv (.t 4), none⟩,
      ⟨some 16, .mv (.t 0), none⟩,
      ⟨some 17, .mv (.t 4), none⟩,
      ⟨some 18, .iad 5 (.t 16) (.t 17), none⟩,
      ⟨some 19, .load true [(.i .i64), .s, (.i .i64), (.sl 7), (.sl 2)] (.t 18), none⟩,
      ⟨some 20, .call (.f 212) [.rd] false [.g [(.i .i64), .s, (.i .i64), (.sl 7), (.sl 2)]] [(.t 19)], none⟩,
      ⟨some 21, .iad 5 (.t 14) (.t 15), none⟩,
      ⟨none, .store 5 (.t 21) (.t 20), none⟩])) (
  .reg false [⟨some 12, .mv (.t 4), none⟩,
    ⟨some 13, .bin .add (.t 12) (.c (.v (.int .i64 1))), none⟩,
    ⟨some 4, .mv (.t 13), none⟩])))
def e106x0 : Exits := [((.exit 0), [(3, .o 5)])]
noncomputable def l106x0 (T : Table) (k : Nat) := loopN (evalC ⟨T, []⟩ k b106x0 (Ex × List AV)) [0, 3, 4] e106x0
def a106 : AFun := ⟨[.rd], false, [.t 2], (
  .seq (.reg false [⟨some 2, .mv (.c (.o 5 [])), none⟩]) (
  .seq (.reg false [⟨some 5, .mv (.t 0), none⟩,
    ⟨some 6, .len false (.t 5), none⟩,
    ⟨some 7, .mk [(.v (.int .i64 0)), (.v (.string ByteArray.empty)), (.v (.int .i64 0)), (.s 7 []), (.s 2 [])] 80 (.t 6) (.t 6), none⟩,
    ⟨some 3, .mv (.t 7), none⟩]) (
  .seq (.seq (.reg false [⟨some 4, .mv (.c (.v (.int .i64 0))), none⟩]) (
  .block 0 (.loop [0, 3, 4] e106x0 b106x0))) (
  .seq (.reg false [⟨some 22, .mv (.t 3), none⟩,
    ⟨some 2, .mv (.t 22), none⟩]) (
  .ret)))))⟩
theorem l106x0s (T : Table) (k n : Nat) (l2 : Rows) (l3 : Rows) (n4 : Int) : l106x0 T k (n + 1) [(.fz 5 l2), (.o 5 l3), (.v (.int .i64 n4))] = (
 bif (decide (n4 < (l2.length : Int))) then (
 tst (decide (0 ≤ n4)) (
 look l2 (Int.toNat n4) fun r5 =>
 cI .i64 r5 0 fun n6 =>
 cS r5 1 fun s7 =>
 cI .i64 r5 2 fun n8 =>
 cL 7 r5 3 fun l9 =>
 cL 2 r5 4 fun l10 =>
 callT T 212 [(.g [(.v (.int .i64 n6)), (.v (.string s7)), (.v (.int .i64 n8)), (.s 7 l9), (.s 2 l10)])] fun o11 =>
 oG o11.res fun r12 =>
 tst (Nat.beq r12.length 5) (
 cI .i64 r12 0 fun n13 =>
 cS r12 1 fun s14 =>
 cI .i64 r12 2 fun n15 =>
 cL 7 r12 3 fun l16 =>
 cL 2 r12 4 fun l17 =>
 tst (decide (0 ≤ n4) && decide (Int.toNat n4 < l3.length)) (
 l106x0 T k n [(.fz 5 l2), (.o 5 (setD (setD (setD (setD (setD (setD (setD l3 (Int.toNat n4) 0 (.v (.int .i64 n13))) (Int.toNat n4) 1 (.v (.string s14))) (Int.toNat n4) 2 (.v (.int .i64 n15))) (Int.toNat n4) 3 hole) (Int.toNat n4) 4 hole) (Int.toNat n4) 4 (.s 2 l17)) (Int.toNat n4) 3 (.s 7 l16))), (.v (.int .i64 (IntKind.wrap .i64 (n4 + 1))))])))) else (
 some ((.exit 0), [(.o 5 l3)]))) := by kernel_rfl
theorem a106q (T : Table) (k : Nat) (l1 : Rows) : evalF T k a106 [(.d (.s 5 l1))] = (
 tst (cutOk (l1.length : Int) (l1.length : Int) maxLen && decide (Int.toNat (l1.length : Int) * 80 ≤ maxBytes)) (
 aft (l106x0 T k k [(.fz 5 l1), (.o 5 (List.replicate (Int.toNat (l1.length : Int)) [(.v (.int .i64 0)), (.v (.string ByteArray.empty)), (.v (.int .i64 0)), (.s 7 []), (.s 2 [])])), (.v (.int .i64 0))]) fun e18 ys19 =>
 bif e18.same (.exit 0) then (
 aV ys19 0 fun x20 =>
 aO 5 x20 fun l21 =>
 some ⟨(.d (.s 5 l21)), []⟩) else (
 none))) := by kernel_rfl
/- loop.example/g00119/laws.toFed -/

def a25 : AFun := ⟨[.rd], false, [.c 2 true [(.i .i64), (.i .i64), (.i .i64), (.sl 13), (.sl 6), (.sl 5), (.sl 1), .b, (.sl 1), (.sl 5), (.sl 5), (.sl 1)]], (
  .seq (.reg false [⟨some 1, .box (.t 0), none⟩,
    ⟨some 2, .alloc [(.v (.int .i64 0)), (.v (.int .i64 0)), (.v (.int .i64 0)), (.s 13 []), (.s 6 []), (.s 5 []), (.s 1 []), (.v (.bool false)), (.s 1 []), (.s 5 []), (.s 5 []), (.s 1 [])], none⟩]) (
  .seq (.reg false [⟨some 3, .alloc [(.v (.int .i64 0)), (.v (.int .i64 0)), (.v (.int .i64 0)), (.s 13 []), (.s 6 []), (.s 5 []), (.s 1 []), (.v (.bool false)), (.s 1 []), (.s 5 []), (.s 5 []), (.s 1 [])], none⟩]) (
  .seq (.reg false [⟨some 4, .fad 0 (.t 1), none⟩,
    ⟨some 5, .load true [(.i .i64), (.i .i64), (.i .i64), (.sl 13), (.sl 6), (.sl 5), (.sl 1)] (.t 4), none⟩,
    ⟨some 6, .call (.f 11) [.rd] false [.g [(.i .i64), (.i .i64), (.i .i64), (.sl 13), (.sl 6), (.sl 5), (.sl 1)]] [(.t 5)], none⟩,
    ⟨some 7, .fad 0 (.t 3), none⟩,
    ⟨none, .store 7 (.t 7) (.t 6), none⟩]) (
  .seq (.reg false [⟨some 8, .fad 7 (.t 1), none⟩,
    ⟨some 9, .load false [.b] (.t 8), none⟩,
    ⟨some 10, .fad 7 (.t 3), none⟩,
    ⟨none, .store 1 (.t 10) (.t 9), none⟩]) (
  .seq (.reg false [⟨some 11, .fad 8 (.t 1), none⟩,
    ⟨some 12, .load false [(.sl 1)] (.t 11), none⟩,
    ⟨some 13, .call (.f 104) [.rd] false [.c (.sl 1)] [(.t 12)], none⟩,
    ⟨some 14, .fad 8 (.t 3), none⟩,
    ⟨none, .store 1 (.t 14) (.t 13), none⟩]) (
  .seq (.reg false [⟨some 15, .fad 9 (.t 1), none⟩,
    ⟨some 16, .load false [(.sl 5)] (.t 15), none⟩,
    ⟨some 17, .call (.f 105) [.rd] false [.c (.sl 5)] [(.t 16)], none⟩,
    ⟨some 18, .fad 9 (.t 3), none⟩,
    ⟨none, .store 1 (.t 18) (.t 17), none⟩]) (
  .seq (.reg false [⟨some 19, .fad 10 (.t 1), none⟩,
    ⟨some 20, .load false [(.sl 5)] (.t 19), none⟩,
    ⟨some 21, .call (.f 106) [.rd] false [.c (.sl 5)] [(.t 20)], none⟩,
    ⟨some 22, .fad 10 (.t 3), none⟩,
    ⟨none, .store 1 (.t 22) (.t 21), none⟩]) (
  .seq (.reg false [⟨some 23, .fad 11 (.t 1), none⟩,
    ⟨some 24, .load false [(.sl 1)] (.t 23), none⟩,
    ⟨some 25, .call (.f 56) [.rd] false [.c (.sl 1)] [(.t 24)], none⟩,
    ⟨some 26, .fad 11 (.t 3), none⟩,
    ⟨none, .store 1 (.t 26) (.t 25), none⟩]) (
  .seq (.reg false [⟨some 27, .load true [(.i .i64), (.i .i64), (.i .i64), (.sl 13), (.sl 6), (.sl 5), (.sl 1), .b, (.sl 1), (.sl 5), (.sl 5), (.sl 1)] (.t 3), none⟩,
    ⟨none, .store 12 (.t 2) (.t 27), none⟩]) (
  .ret))))))))))⟩

theorem a25q (T : Table) (k : Nat) (n1 : Int) (n2 : Int) (n3 : Int) (l4 : Rows) (l5 : Rows) (l6 : Rows) (l7 : Rows) (b8 : Bool) (l9 : Rows) (l10 : Rows) (l11 : Rows) (l12 : Rows) : evalF T k a25 [(.g [(.v (.int .i64 n1)), (.v (.int .i64 n2)), (.v (.int .i64 n3)), (.s 13 l4), (.s 6 l5), (.s 5 l6), (.s 1 l7), (.v (.bool b8)), (.s 1 l9), (.s 5 l10), (.s 5 l11), (.s 1 l12)])] = (
 callT T 11 [(.g [(.v (.int .i64 n1)), (.v (.int .i64 n2)), (.v (.int .i64 n3)), (.s 13 l4), (.s 6 l5), (.s 5 l6), (.s 1 l7)])] fun o13 =>
 oG o13.res fun r14 =>
 tst (Nat.beq r14.length 7) (
 cI .i64 r14 0 fun n15 =>
 cI .i64 r14 1 fun n16 =>
 cI .i64 r14 2 fun n17 =>
 cL 13 r14 3 fun l18 =>
 cL 6 r14 4 fun l19 =>
 cL 5 r14 5 fun l20 =>
 cL 1 r14 6 fun l21 =>
 callT T 104 [(.d (.s 1 l9))] fun o22 =>
 oD o22.res fun d23 =>
 dL 1 d23 fun l24 =>
 callT T 105 [(.d (.s 5 l10))] fun o25 =>
 oD o25.res fun d26 =>
 dL 5 d26 fun l27 =>
 callT T 106 [(.d (.s 5 l11))] fun o28 =>
 oD o28.res fun d29 =>
 dL 5 d29 fun l30 =>
 callT T 56 [(.d (.s 1 l12))] fun o31 =>
 oD o31.res fun d32 =>
 dL 1 d32 fun l33 =>
 some ⟨(.g [(.v (.int .i64 n15)), (.v (.int .i64 n16)), (.v (.int .i64 n17)), (.s 13 l18), (.s 6 l19), (.s 5 l20), (.s 1 l21), (.v (.bool b8)), (.s 1 l24), (.s 5 l27), (.s 5 l30), (.s 1 l33)]), []⟩)) := by kernel_rfl
/- slices.Clone[[]string,string] -/

def a243 : AFun := ⟨[.rd], false, [.t 2], (
  .seq (.reg false [⟨some 2, .mv (.c (.o 1 [])), none⟩]) (
  .seq (.seq (.reg false [⟨some 3, .mv (.t 0), none⟩,
    ⟨some 4, .more (.nilq 1 (.t 3)), none⟩]) (
  .cond (.t 4) (.seq (.reg false [⟨some 2, .mv (.c (.o 1 [])), none⟩]) (
    .ret)) (.skip))) (
  .seq (.reg false [⟨some 5, .lit 1 ([] : Rows) [], none⟩,
    ⟨some 6, .mv (.t 0), none⟩,
    ⟨some 7, .app 1 16 (.t 5) (.t 6), none⟩,
    ⟨some 2, .mv (.t 7), none⟩]) (
  .ret))))⟩

theorem a243q (T : Table) (k : Nat) (l1 : Rows) : evalF T k a243 [(.d (.s 1 l1))] = (
 bif List.isEmpty l1 then (
 agree (
 some ⟨(.d (.s 1 [])), []⟩) (
 tst (flatRows l1) (
 tst (decide ((([] : Rows).length + l1.length) * 16 ≤ maxBytes)) (
 some ⟨(.d (.s 1 (([] : Rows) ++ l1))), []⟩)))) else (
 tst (flatRows l1) (
 tst (decide ((([] : Rows).length + l1.length) * 16 ≤ maxBytes)) (
 some ⟨(.d (.s 1 (([] : Rows) ++ l1))), []⟩)))) := by kernel_rfl
/- loop.example/g00119/impl.copyValue -/
def b245x0 : ACode := (
  .seq (.reg false [⟨some 15, .bin .lss (.t 14) (.t 13), none⟩]) (
  .seq (.cond (.t 15) (.skip) (.exit 0)) (
  .seq (.block 1 (.seq (.reg false [⟨some 16, .iad 5 (.t 12) (.t 14), none⟩,
      ⟨some 17, .load true [(.i .i64), .s, (.i .i64), (.sl 1), (.sl 5)] (.t 16), none⟩,
      ⟨some 5, .alloc [(.v (.int .i64 0)), (.v (.string ByteArray.empty)), (.v (.int .i64 0)), (.s 1 []), (.s 5 [])], none⟩,
      ⟨none, .store 5 (.t 5) (.t 17), none⟩]) (
    .reg false [⟨some 18, .mv (.t 3), none⟩,
      ⟨some 19, .load true [(.i .i64), .s, (.i .i64), (.sl 1), (.sl 5)] (.t 5), none⟩,
      ⟨some 20, .call (.f 245) [.rd] false [.g [(.i .i64), .s, (.i .i64), (.sl 1), (.sl 5)]] [(.t 19)], none⟩,
      ⟨some 21, .lit 5 ([[(.v (.int .i64 0)), (.v (.string ByteArray.empty)), (.v (.int .i64 0)), (.s 1 []), (.s 5 [])]] : Rows) [(0, (.t 20))], none⟩,
      ⟨some 22, .app 5 80 (.t 18) (.t 21), none⟩,
      ⟨some 3, .mv (.t 22), none⟩]))) (
  .reg false [⟨some 23, .bin .add (.t 14) (.c (.v (.int .i64 1))), none⟩,
    ⟨some 14, .mv (.t 23), none⟩]))))
def e245x0 : Exits := [((.exit 0), [(1, .b [.c (.i .i64), .c .s, .c (.i .i64), .o 1, .c (.sl 5)]), (2, .b [.c (.i .i64), .c .s, .c (.i .i64), .o 1, .o 5]), (3, .o 5)])]
noncomputable def l245x0 (T : Table) (k : Nat) := loopN (evalC ⟨T, []⟩ k b245x0 (Ex × List AV)) [1, 2, 3, 12, 13, 14] e245x0
def a245 : AFun := ⟨[.rd], false, [.c 2 true [(.i .i64), .s, (.i .i64), (.sl 1), (.sl 5)]], (
  .seq (.reg false [⟨some 1, .box (.t 0), none⟩,
    ⟨some 2, .alloc [(.v (.int .i64 0)), (.v (.string ByteArray.empty)), (.v (.int .i64 0)), (.s 1 []), (.s 5 [])], none⟩]) (
  .seq (.reg false [⟨some 6, .fad 3 (.t 1), none⟩,
    ⟨some 7, .load false [(.sl 1)] (.t 6), none⟩,
    ⟨some 8, .call (.f 243) [.rd] false [.c (.sl 1)] [(.t 7)], none⟩,
    ⟨some 9, .fad 3 (.t 1), none⟩,
    ⟨none, .store 1 (.t 9) (.t 8), none⟩]) (
  .seq (.reg false [⟨some 10, .lit 5 ([] : Rows) [], none⟩,
    ⟨some 3, .mv (.t 10), none⟩]) (
  .seq (.seq (.reg false [⟨some 11, .fad 4 (.t 1), none⟩,
    ⟨some 12, .load false [(.sl 5)] (.t 11), none⟩,
    ⟨some 13, .len false (.t 12), none⟩,
    ⟨some 14, .mv (.c (.v (.int .i64 0))), none⟩]) (
  .block 0 (.loop [1, 2, 3, 12, 13, 14] e245x0 b245x0))) (
  .seq (.reg false [⟨some 24, .mv (.t 3), none⟩,
    ⟨some 25, .fad 4 (.t 1), none⟩,
    ⟨none, .store 1 (.t 25) (.t 24), none⟩]) (
  .seq (.reg false [⟨some 26, .load true [(.i .i64), .s, (.i .i64), (.sl 1), (.sl 5)] (.t 1), none⟩,
    ⟨none, .store 5 (.t 2) (.t 26), none⟩]) (
  .ret)))))))⟩
theorem l245x0s (T : Table) (k n : Nat) (n9 : Int) (s10 : ByteArray) (n11 : Int) (l12 : Rows) (l13 : Rows) (n14 : Int) (s15 : ByteArray) (n16 : Int) (l17 : Rows) (l18 : Rows) (l19 : Rows) (l20 : Rows) (n21 : Int) (n22 : Int) : l245x0 T k (n + 1) [(.b [(.v (.int .i64 n9)), (.v (.string s10)), (.v (.int .i64 n11)), (.o 1 l12), (.fz 5 l13)]), (.b [(.v (.int .i64 n14)), (.v (.string s15)), (.v (.int .i64 n16)), (.o 1 l17), (.o 5 l18)]), (.o 5 l19), (.fz 5 l20), (.v (.int .i64 n21)), (.v (.int .i64 n22))] = (
 bif (decide (n22 < n21)) then (
 tst (decide (0 ≤ n22)) (
 look l20 (Int.toNat n22) fun r23 =>
 cI .i64 r23 0 fun n24 =>
 cS r23 1 fun s25 =>
 cI .i64 r23 2 fun n26 =>
 cL 1 r23 3 fun l27 =>
 cL 5 r23 4 fun l28 =>
 callT T 245 [(.g [(.v (.int .i64 n24)), (.v (.string s25)), (.v (.int .i64 n26)), (.s 1 l27), (.s 5 l28)])] fun o29 =>
 oG o29.res fun r30 =>
 tst (Nat.beq r30.length 5) (
 cI .i64 r30 0 fun n31 =>
 cS r30 1 fun s32 =>
 cI .i64 r30 2 fun n33 =>
 cL 1 r30 3 fun l34 =>
 cL 5 r30 4 fun l35 =>
 tst (decide ((l19.length + ([[(.v (.int .i64 n31)), (.v (.string s32)), (.v (.int .i64 n33)), hole, hole]] : Rows).length) * 80 ≤ maxBytes)) (
 l245x0 T k n [(.b [(.v (.int .i64 n9)), (.v (.string s10)), (.v (.int .i64 n11)), (.o 1 l12), (.fz 5 l13)]), (.b [(.v (.int .i64 n14)), (.v (.string s15)), (.v (.int .i64 n16)), (.o 1 l17), (.o 5 l18)]), (.o 5 (setD (setD (l19 ++ ([[(.v (.int .i64 n31)), (.v (.string s32)), (.v (.int .i64 n33)), hole, hole]] : Rows)) (0 + l19.length) 4 (.s 5 l35)) (0 + l19.length) 3 (.s 1 l34))), (.fz 5 l20), (.v (.int .i64 n21)), (.v (.int .i64 (IntKind.wrap .i64 (n22 + 1))))])))) else (
 some ((.exit 0), [(.b [(.v (.int .i64 n9)), (.v (.string s10)), (.v (.int .i64 n11)), (.o 1 l12), (.fz 5 l13)]), (.b [(.v (.int .i64 n14)), (.v (.string s15)), (.v (.int .i64 n16)), (.o 1 l17), (.o 5 l18)]), (.o 5 l19)]))) := by kernel_rfl
theorem a245q (T : Table) (k : Nat) (n1 : Int) (s2 : ByteArray) (n3 : Int) (l4 : Rows) (l5 : Rows) : evalF T k a245 [(.g [(.v (.int .i64 n1)), (.v (.string s2)), (.v (.int .i64 n3)), (.s 1 l4), (.s 5 l5)])] = (
 callT T 243 [(.d (.s 1 l4))] fun o6 =>
 oD o6.res fun d7 =>
 dL 1 d7 fun l8 =>
 aft (l245x0 T k k [(.b [(.v (.int .i64 n1)), (.v (.string s2)), (.v (.int .i64 n3)), (.o 1 l8), (.fz 5 l5)]), (.b [(.v (.int .i64 0)), (.v (.string ByteArray.empty)), (.v (.int .i64 0)), (.o 1 []), (.o 5 [])]), (.o 5 []), (.fz 5 l5), (.v (.int .i64 (l5.length : Int))), (.v (.int .i64 0))]) fun e36 ys37 =>
 bif e36.same (.exit 0) then (
 aV ys37 0 fun x38 =>
 aX x38 fun xs39 =>
 aV xs39 0 fun x40 =>
 aI .i64 x40 fun n41 =>
 aV xs39 1 fun x42 =>
 aS x42 fun s43 =>
 aV xs39 2 fun x44 =>
 aI .i64 x44 fun n45 =>
 aV xs39 3 fun x46 =>
 aO 1 x46 fun l47 =>
 aV xs39 4 fun x48 =>
 aL 5 x48 fun l49 =>
 aV ys37 1 fun x50 =>
 aX x50 fun xs51 =>
 aV xs51 0 fun x52 =>
 aI .i64 x52 fun n53 =>
 aV xs51 1 fun x54 =>
 aS x54 fun s55 =>
 aV xs51 2 fun x56 =>
 aI .i64 x56 fun n57 =>
 aV xs51 3 fun x58 =>
 aO 1 x58 fun l59 =>
 aV xs51 4 fun x60 =>
 aO 5 x60 fun l61 =>
 aV ys37 2 fun x62 =>
 aO 5 x62 fun l63 =>
 some ⟨(.g [(.v (.int .i64 n41)), (.v (.string s43)), (.v (.int .i64 n45)), (.s 1 l47), (.s 5 l63)]), []⟩) else (
 none)) := by kernel_rfl
/- loop.example/g00119/impl.copyWorks -/
def b213x0 : ACode := (
  .seq (.reg false [⟨some 10, .bin .lss (.t 9) (.t 8), none⟩]) (
  .seq (.cond (.t 10) (.skip) (.exit 0)) (
  .seq (.block 1 (.seq (.reg false [⟨some 11, .iad 7 (.t 7) (.t 9), none⟩,
      ⟨some 12, .load true [(.i .i64), (.i .i64), (.i .i64), .s, (.i .i64), (.sl 1), (.sl 5)] (.t 11), none⟩,
      ⟨some 5, .alloc [(.v (.int .i64 0)), (.v (.int .i64 0)), (.v (.int .i64 0)), (.v (.string ByteArray.empty)), (.v (.int .i64 0)), (.s 1 []), (.s 5 [])], none⟩,
      ⟨none, .store 7 (.t 5) (.t 12), none⟩]) (
    .dreg [] [(0, ⟨some 13, .mv (.t 3), none⟩),
      (0, ⟨some 14, .fad 0 (.t 5), none⟩),
      (0, ⟨some 15, .load false [(.i .i64)] (.t 14), none⟩),
      (0, ⟨some 16, .fad 1 (.t 5), none⟩),
      (0, ⟨some 17, .load false [(.i .i64)] (.t 16), none⟩),
      (0, ⟨some 18, .fad 2 (.t 5), none⟩),
      (0, ⟨some 19, .load true [(.i .i64), .s, (.i .i64), (.sl 1), (.sl 5)] (.t 18), none⟩),
      (1, ⟨some 20, .call (.f 245) [.rd] false [.g [(.i .i64), .s, (.i .i64), (.sl 1), (.sl 5)]] [(.t 19)], none⟩),
      (0, ⟨some 21, .build [(.v (.int .i64 0)), (.v (.int .i64 0)), (.v (.int .i64 0)), (.v (.string ByteArray.empty)), (.v (.int .i64 0)), (.s 1 []), (.s 5 [])] [(0, 1, (.t 15)), (1, 1, (.t 17)), (2, 5, (.t 20))], none⟩),
      (1, ⟨some 22, .lit 7 ([[(.v (.int .i64 0)), (.v (.int .i64 0)), (.v (.int .i64 0)), (.v (.string ByteArray.empty)), (.v (.int .i64 0)), (.s 1 []), (.s 5 [])]] : Rows) [(0, (.t 21))], none⟩)] [⟨some 23, .app 7 96 (.t 13) (.t 22), none⟩,
      ⟨some 3, .mv (.t 23), none⟩]))) (
  .reg false [⟨some 24, .bin .add (.t 9) (.c (.v (.int .i64 1))), none⟩,
    ⟨some 9, .mv (.t 24), none⟩]))))
def e213x0 : Exits := [((.exit 0), [(3, .o 7)])]
noncomputable def l213x0 (T : Table) (k : Nat) := loopN (evalC ⟨T, []⟩ k b213x0 (Ex × List AV)) [3, 7, 8, 9] e213x0
def a213 : AFun := ⟨[.rd], false, [.t 2], (
  .seq (.reg false [⟨some 2, .mv (.c (.o 7 [])), none⟩]) (
  .seq (.reg false [⟨some 6, .lit 7 ([] : Rows) [], none⟩,
    ⟨some 3, .mv (.t 6), none⟩]) (
  .seq (.seq (.reg false [⟨some 7, .mv (.t 0), none⟩,
    ⟨some 8, .len false (.t 7), none⟩,
    ⟨some 9, .mv (.c (.v (.int .i64 0))), none⟩]) (
  .block 0 (.loop [3, 7, 8, 9] e213x0 b213x0))) (
  .seq (.reg false [⟨some 25, .mv (.t 3), none⟩,
    ⟨some 2, .mv (.t 25), none⟩]) (
  .ret)))))⟩
theorem l213x0s (T : Table) (k n : Nat) (l2 : Rows) (l3 : Rows) (n4 : Int) (n5 : Int) : l213x0 T k (n + 1) [(.o 7 l2), (.fz 7 l3), (.v (.int .i64 n4)), (.v (.int .i64 n5))] = (
 bif (decide (n5 < n4)) then (
 tst (decide (0 ≤ n5)) (
 look l3 (Int.toNat n5) fun r6 =>
 cI .i64 r6 0 fun n7 =>
 cI .i64 r6 1 fun n8 =>
 cI .i64 r6 2 fun n9 =>
 cS r6 3 fun s10 =>
 cI .i64 r6 4 fun n11 =>
 cL 1 r6 5 fun l12 =>
 cL 5 r6 6 fun l13 =>
 callT T 245 [(.g [(.v (.int .i64 n9)), (.v (.string s10)), (.v (.int .i64 n11)), (.s 1 l12), (.s 5 l13)])] fun o14 =>
 oG o14.res fun r15 =>
 tst (Nat.beq r15.length 5) (
 cI .i64 r15 0 fun n16 =>
 cS r15 1 fun s17 =>
 cI .i64 r15 2 fun n18 =>
 cL 1 r15 3 fun l19 =>
 cL 5 r15 4 fun l20 =>
 tst (decide ((l2.length + ([[(.v (.int .i64 n7)), (.v (.int .i64 n8)), (.v (.int .i64 n16)), (.v (.string s17)), (.v (.int .i64 n18)), hole, hole]] : Rows).length) * 96 ≤ maxBytes)) (
 l213x0 T k n [(.o 7 (setD (setD (l2 ++ ([[(.v (.int .i64 n7)), (.v (.int .i64 n8)), (.v (.int .i64 n16)), (.v (.string s17)), (.v (.int .i64 n18)), hole, hole]] : Rows)) (0 + l2.length) 6 (.s 5 l20)) (0 + l2.length) 5 (.s 1 l19))), (.fz 7 l3), (.v (.int .i64 n4)), (.v (.int .i64 (IntKind.wrap .i64 (n5 + 1))))])))) else (
 some ((.exit 0), [(.o 7 l2)]))) := by kernel_rfl
theorem a213q (T : Table) (k : Nat) (l1 : Rows) : evalF T k a213 [(.d (.s 7 l1))] = (
 aft (l213x0 T k k [(.o 7 []), (.fz 7 l1), (.v (.int .i64 (l1.length : Int))), (.v (.int .i64 0))]) fun e21 ys22 =>
 bif e21.same (.exit 0) then (
 aV ys22 0 fun x23 =>
 aO 7 x23 fun l24 =>
 some ⟨(.d (.s 7 l24)), []⟩) else (
 none)) := by kernel_rfl
/- slices.Clone[[]loop.example/g00119/impl.Run,loop.example/g00119/impl.Run] -/

def a214 : AFun := ⟨[.rd], false, [.t 2], (
  .seq (.reg false [⟨some 2, .mv (.c (.o 2 [])), none⟩]) (
  .seq (.seq (.reg false [⟨some 3, .mv (.t 0), none⟩,
    ⟨some 4, .more (.nilq 2 (.t 3)), none⟩]) (
  .cond (.t 4) (.seq (.reg false [⟨some 2, .mv (.c (.o 2 [])), none⟩]) (
    .ret)) (.skip))) (
  .seq (.reg false [⟨some 5, .lit 2 ([] : Rows) [], none⟩,
    ⟨some 6, .mv (.t 0), none⟩,
    ⟨some 7, .app 2 16 (.t 5) (.t 6), none⟩,
    ⟨some 2, .mv (.t 7), none⟩]) (
  .ret))))⟩

theorem a214q (T : Table) (k : Nat) (l1 : Rows) : evalF T k a214 [(.d (.s 2 l1))] = (
 bif List.isEmpty l1 then (
 agree (
 some ⟨(.d (.s 2 [])), []⟩) (
 tst (flatRows l1) (
 tst (decide ((([] : Rows).length + l1.length) * 16 ≤ maxBytes)) (
 some ⟨(.d (.s 2 (([] : Rows) ++ l1))), []⟩)))) else (
 tst (flatRows l1) (
 tst (decide ((([] : Rows).length + l1.length) * 16 ≤ maxBytes)) (
 some ⟨(.d (.s 2 (([] : Rows) ++ l1))), []⟩)))) := by kernel_rfl
/- loop.example/g00119/impl.copyIsle -/

def a107 : AFun := ⟨[.rd], false, [.c 2 true [.s, (.i .i64), (.i .i64), (.sl 7), (.sl 2)]], (
  .seq (.reg false [⟨some 1, .box (.t 0), none⟩,
    ⟨some 2, .alloc [(.v (.string ByteArray.empty)), (.v (.int .i64 0)), (.v (.int .i64 0)), (.s 7 []), (.s 2 [])], none⟩]) (
  .seq (.reg false [⟨some 3, .fad 3 (.t 1), none⟩,
    ⟨some 4, .load false [(.sl 7)] (.t 3), none⟩,
    ⟨some 5, .call (.f 213) [.rd] false [.c (.sl 7)] [(.t 4)], none⟩,
    ⟨some 6, .fad 3 (.t 1), none⟩,
    ⟨none, .store 1 (.t 6) (.t 5), none⟩]) (
  .seq (.reg false [⟨some 7, .fad 4 (.t 1), none⟩,
    ⟨some 8, .load false [(.sl 2)] (.t 7), none⟩,
    ⟨some 9, .call (.f 214) [.rd] false [.c (.sl 2)] [(.t 8)], none⟩,
    ⟨some 10, .fad 4 (.t 1), none⟩,
    ⟨none, .store 1 (.t 10) (.t 9), none⟩]) (
  .seq (.reg false [⟨some 11, .load true [.s, (.i .i64), (.i .i64), (.sl 7), (.sl 2)] (.t 1), none⟩,
    ⟨none, .store 5 (.t 2) (.t 11), none⟩]) (
  .ret)))))⟩

theorem a107q (T : Table) (k : Nat) (s1 : ByteArray) (n2 : Int) (n3 : Int) (l4 : Rows) (l5 : Rows) : evalF T k a107 [(.g [(.v (.string s1)), (.v (.int .i64 n2)), (.v (.int .i64 n3)), (.s 7 l4), (.s 2 l5)])] = (
 callT T 213 [(.d (.s 7 l4))] fun o6 =>
 oD o6.res fun d7 =>
 dL 7 d7 fun l8 =>
 callT T 214 [(.d (.s 2 l5))] fun o9 =>
 oD o9.res fun d10 =>
 dL 2 d10 fun l11 =>
 some ⟨(.g [(.v (.string s1)), (.v (.int .i64 n2)), (.v (.int .i64 n3)), (.s 7 l8), (.s 2 l11)]), []⟩) := by kernel_rfl
/- loop.example/g00119/impl.IsleOf -/
def b26x0 : ACode := (
  .seq (.reg false [⟨some 12, .bin .lss (.t 11) (.t 10), none⟩]) (
  .seq (.cond (.t 12) (.skip) (.exit 0)) (
  .seq (.block 1 (.seq (.reg false [⟨some 13, .iad 5 (.t 9) (.t 11), none⟩,
      ⟨some 14, .load true [.s, (.i .i64), (.i .i64), (.sl 7), (.sl 2)] (.t 13), none⟩,
      ⟨some 7, .alloc [(.v (.string ByteArray.empty)), (.v (.int .i64 0)), (.v (.int .i64 0)), (.s 7 []), (.s 2 [])], none⟩,
      ⟨none, .store 5 (.t 7) (.t 14), none⟩]) (
    .seq (.reg false [⟨some 15, .fad 0 (.t 7), none⟩,
      ⟨some 16, .load false [.s] (.t 15), none⟩,
      ⟨some 17, .mv (.t 1), none⟩,
      ⟨some 18, .bin .eql (.t 16) (.t 17), none⟩]) (
    .cond (.t 18) (.seq (.reg false [⟨some 19, .load true [.s, (.i .i64), (.i .i64), (.sl 7), (.sl 2)] (.t 7), none⟩,
        ⟨some 20, .call (.f 107) [.rd] false [.g [.s, (.i .i64), (.i .i64), (.sl 7), (.sl 2)]] [(.t 19)], none⟩,
        ⟨none, .store 5 (.t 4) (.t 20), none⟩,
        ⟨some 5, .mv (.c (.v (.bool true))), none⟩]) (
      .ret)) (.skip))))) (
  .reg false [⟨some 21, .bin .add (.t 11) (.c (.v (.int .i64 1))), none⟩,
    ⟨some 11, .mv (.t 21), none⟩]))))
def e26x0 : Exits := [(.ret, [(4, .b [.c .s, .c (.i .i64), .c (.i .i64), .o 7, .o 2]), (5, .c .b)]), ((.exit 0), [(4, .b [.c .s, .c (.i .i64), .c (.i .i64), .o 7, .o 2])])]
noncomputable def l26x0 (T : Table) (k : Nat) := loopN (evalC ⟨T, []⟩ k b26x0 (Ex × List AV)) [1, 4, 9, 10, 11] e26x0
def a26 : AFun := ⟨[.rd, .rd], false, [.c 4 true [.s, (.i .i64), (.i .i64), (.sl 7), (.sl 2)], .t 5], (
  .seq (.reg false [⟨some 2, .box (.t 0), none⟩,
    ⟨some 4, .alloc [(.v (.string ByteArray.empty)), (.v (.int .i64 0)), (.v (.int .i64 0)), (.s 7 []), (.s 2 [])], none⟩,
    ⟨some 5, .mv (.c (.v (.bool false))), none⟩]) (
  .seq (.seq (.reg false [⟨some 8, .fad 9 (.t 2), none⟩,
    ⟨some 9, .load false [(.sl 5)] (.t 8), none⟩,
    ⟨some 10, .len false (.t 9), none⟩,
    ⟨some 11, .mv (.c (.v (.int .i64 0))), none⟩]) (
  .block 0 (.loop [1, 4, 9, 10, 11] e26x0 b26x0))) (
  .seq (.reg false [⟨some 22, .build [(.v (.string ByteArray.empty)), (.v (.int .i64 0)), (.v (.int .i64 0)), (.s 7 []), (.s 2 [])] [], none⟩,
    ⟨none, .store 5 (.t 4) (.t 22), none⟩,
    ⟨some 5, .mv (.c (.v (.bool false))), none⟩]) (
  .ret))))⟩
theorem l26x0s (T : Table) (k n : Nat) (s14 : ByteArray) (s15 : ByteArray) (n16 : Int) (n17 : Int) (l18 : Rows) (l19 : Rows) (l20 : Rows) (n21 : Int) (n22 : Int) : l26x0 T k (n + 1) [(.v (.string s14)), (.b [(.v (.string s15)), (.v (.int .i64 n16)), (.v (.int .i64 n17)), (.o 7 l18), (.o 2 l19)]), (.fz 5 l20), (.v (.int .i64 n21)), (.v (.int .i64 n22))] = (
 bif (decide (n22 < n21)) then (
 tst (decide (0 ≤ n22)) (
 look l20 (Int.toNat n22) fun r23 =>
 cS r23 0 fun s24 =>
 cI .i64 r23 1 fun n25 =>
 cI .i64 r23 2 fun n26 =>
 cL 7 r23 3 fun l27 =>
 cL 2 r23 4 fun l28 =>
 bif (bytesEq s24 s14) then (
 callT T 107 [(.g [(.v (.string s24)), (.v (.int .i64 n25)), (.v (.int .i64 n26)), (.s 7 l27), (.s 2 l28)])] fun o29 =>
 oG o29.res fun r30 =>
 tst (Nat.beq r30.length 5) (
 cS r30 0 fun s31 =>
 cI .i64 r30 1 fun n32 =>
 cI .i64 r30 2 fun n33 =>
 cL 7 r30 3 fun l34 =>
 cL 2 r30 4 fun l35 =>
 some (.ret, [(.b [(.v (.string s31)), (.v (.int .i64 n32)), (.v (.int .i64 n33)), (.o 7 l34), (.o 2 l35)]), (.v (.bool true))]))) else (
 l26x0 T k n [(.v (.string s14)), (.b [(.v (.string s15)), (.v (.int .i64 n16)), (.v (.int .i64 n17)), (.o 7 l18), (.o 2 l19)]), (.fz 5 l20), (.v (.int .i64 n21)), (.v (.int .i64 (IntKind.wrap .i64 (n22 + 1))))]))) else (
 some ((.exit 0), [(.b [(.v (.string s15)), (.v (.int .i64 n16)), (.v (.int .i64 n17)), (.o 7 l18), (.o 2 l19)])]))) := by kernel_rfl
theorem a26q (T : Table) (k : Nat) (n1 : Int) (n2 : Int) (n3 : Int) (l4 : Rows) (l5 : Rows) (l6 : Rows) (l7 : Rows) (b8 : Bool) (l9 : Rows) (l10 : Rows) (l11 : Rows) (l12 : Rows) (s13 : ByteArray) : evalF T k a26 [(.g [(.v (.int .i64 n1)), (.v (.int .i64 n2)), (.v (.int .i64 n3)), (.s 13 l4), (.s 6 l5), (.s 5 l6), (.s 1 l7), (.v (.bool b8)), (.s 1 l9), (.s 5 l10), (.s 5 l11), (.s 1 l12)]), (.d (.v (.string s13)))] = (
 aft (l26x0 T k k [(.v (.string s13)), (.b [(.v (.string ByteArray.empty)), (.v (.int .i64 0)), (.v (.int .i64 0)), (.o 7 []), (.o 2 [])]), (.fz 5 l10), (.v (.int .i64 (l10.length : Int))), (.v (.int .i64 0))]) fun e36 ys37 =>
 bif e36.same .ret then (
 aV ys37 0 fun x38 =>
 aX x38 fun xs39 =>
 aV xs39 0 fun x40 =>
 aS x40 fun s41 =>
 aV xs39 1 fun x42 =>
 aI .i64 x42 fun n43 =>
 aV xs39 2 fun x44 =>
 aI .i64 x44 fun n45 =>
 aV xs39 3 fun x46 =>
 aO 7 x46 fun l47 =>
 aV xs39 4 fun x48 =>
 aO 2 x48 fun l49 =>
 aV ys37 1 fun x50 =>
 aB x50 fun b51 =>
 some ⟨(.t [(.g [(.v (.string s41)), (.v (.int .i64 n43)), (.v (.int .i64 n45)), (.s 7 l47), (.s 2 l49)]), (.d (.v (.bool b51)))]), []⟩) else (
 bif e36.same (.exit 0) then (
 aV ys37 0 fun x52 =>
 aX x52 fun xs53 =>
 aV xs53 0 fun x54 =>
 aS x54 fun s55 =>
 aV xs53 1 fun x56 =>
 aI .i64 x56 fun n57 =>
 aV xs53 2 fun x58 =>
 aI .i64 x58 fun n59 =>
 aV xs53 3 fun x60 =>
 aO 7 x60 fun l61 =>
 aV xs53 4 fun x62 =>
 aO 2 x62 fun l63 =>
 some ⟨(.t [(.g [(.v (.string ByteArray.empty)), (.v (.int .i64 0)), (.v (.int .i64 0)), (.s 7 []), (.s 2 [])]), (.d (.v (.bool false)))]), []⟩) else (
 none))) := by kernel_rfl
/- loop.example/g00119/laws.eqRun -/

def a207 : AFun := ⟨[.rd, .rd], false, [.t 4], (
  .seq (.reg false [⟨some 2, .box (.t 0), none⟩,
    ⟨some 3, .box (.t 1), none⟩,
    ⟨some 4, .mv (.c (.v (.bool false))), none⟩]) (
  .seq (.seq (.reg false [⟨some 5, .fad 0 (.t 2), none⟩,
    ⟨some 6, .load false [(.i .i64)] (.t 5), none⟩,
    ⟨some 7, .fad 0 (.t 3), none⟩,
    ⟨some 8, .load false [(.i .i64)] (.t 7), none⟩,
    ⟨some 9, .bin .neq (.t 6) (.t 8), none⟩]) (
  .cond (.t 9) (.seq (.reg false [⟨some 4, .mv (.c (.v (.bool false))), none⟩]) (
    .ret)) (.skip))) (
  .seq (.seq (.reg false [⟨some 10, .fad 1 (.t 2), none⟩,
    ⟨some 11, .load false [(.i .i64)] (.t 10), none⟩,
    ⟨some 12, .fad 1 (.t 3), none⟩,
    ⟨some 13, .load false [(.i .i64)] (.t 12), none⟩,
    ⟨some 14, .bin .neq (.t 11) (.t 13), none⟩]) (
  .cond (.t 14) (.seq (.reg false [⟨some 4, .mv (.c (.v (.bool false))), none⟩]) (
    .ret)) (.skip))) (
  .seq (.reg false [⟨some 4, .mv (.c (.v (.bool true))), none⟩]) (
  .ret)))))⟩

theorem a207q (T : Table) (k : Nat) (n1 : Int) (n2 : Int) (n3 : Int) (n4 : Int) : evalF T k a207 [(.g [(.v (.int .i64 n1)), (.v (.int .i64 n2))]), (.g [(.v (.int .i64 n3)), (.v (.int .i64 n4))])] = (
 bif (n1 != n3) then (
 some ⟨(.d (.v (.bool false))), []⟩) else (
 bif (n2 != n4) then (
 some ⟨(.d (.v (.bool false))), []⟩) else (
 some ⟨(.d (.v (.bool true))), []⟩))) := by kernel_rfl
/- loop.example/g00119/laws.eqRunS -/
def b98x0 : ACode := (
  .seq (.seq (.reg false [⟨some 11, .mv (.t 5), none⟩,
    ⟨some 12, .mv (.t 0), none⟩,
    ⟨some 13, .len false (.t 12), none⟩,
    ⟨some 14, .bin .lss (.t 11) (.t 13), none⟩]) (
  .cond (.t 14) (.skip) (.exit 0))) (
  .seq (.block 1 (.seq (.dreg [] [(0, ⟨some 17, .mv (.t 0), none⟩),
      (0, ⟨some 18, .mv (.t 5), none⟩),
      (0, ⟨some 19, .iad 2 (.t 17) (.t 18), none⟩),
      (0, ⟨some 20, .load true [(.i .i64), (.i .i64)] (.t 19), none⟩),
      (0, ⟨some 21, .mv (.t 1), none⟩),
      (0, ⟨some 22, .mv (.t 5), none⟩),
      (0, ⟨some 23, .iad 2 (.t 21) (.t 22), none⟩),
      (0, ⟨some 24, .load true [(.i .i64), (.i .i64)] (.t 23), none⟩)] [⟨some 25, .call (.f 207) [.rd, .rd] false [.c .b] [(.t 20), (.t 24)], none⟩,
      ⟨some 26, .un .not (.t 25), none⟩]) (
    .cond (.t 26) (.seq (.reg false [⟨some 4, .mv (.c (.v (.bool false))), none⟩]) (
      .ret)) (.skip)))) (
  .reg false [⟨some 15, .mv (.t 5), none⟩,
    ⟨some 16, .bin .add (.t 15) (.c (.v (.int .i64 1))), none⟩,
    ⟨some 5, .mv (.t 16), none⟩])))
def e98x0 : Exits := [(.ret, [(4, .c .b)]), ((.exit 0), [])]
noncomputable def l98x0 (T : Table) (k : Nat) := loopN (evalC ⟨T, []⟩ k b98x0 (Ex × List AV)) [0, 1, 5] e98x0
def a98 : AFun := ⟨[.rd, .rd], false, [.t 4], (
  .seq (.reg false [⟨some 4, .mv (.c (.v (.bool false))), none⟩]) (
  .seq (.seq (.reg false [⟨some 6, .mv (.t 0), none⟩,
    ⟨some 7, .len false (.t 6), none⟩,
    ⟨some 8, .mv (.t 1), none⟩,
    ⟨some 9, .len false (.t 8), none⟩,
    ⟨some 10, .bin .neq (.t 7) (.t 9), none⟩]) (
  .cond (.t 10) (.seq (.reg false [⟨some 4, .mv (.c (.v (.bool false))), none⟩]) (
    .ret)) (.skip))) (
  .seq (.seq (.reg false [⟨some 5, .mv (.c (.v (.int .i64 0))), none⟩]) (
  .block 0 (.loop [0, 1, 5] e98x0 b98x0))) (
  .seq (.reg false [⟨some 4, .mv (.c (.v (.bool true))), none⟩]) (
  .ret)))))⟩
theorem l98x0s (T : Table) (k n : Nat) (l3 : Rows) (l4 : Rows) (n5 : Int) : l98x0 T k (n + 1) [(.fz 2 l3), (.fz 2 l4), (.v (.int .i64 n5))] = (
 bif (decide (n5 < (l3.length : Int))) then (
 tst (decide (0 ≤ n5)) (
 look l3 (Int.toNat n5) fun r6 =>
 cI .i64 r6 0 fun n7 =>
 cI .i64 r6 1 fun n8 =>
 tst (decide (0 ≤ n5)) (
 look l4 (Int.toNat n5) fun r9 =>
 cI .i64 r9 0 fun n10 =>
 cI .i64 r9 1 fun n11 =>
 callT T 207 [(.g [(.v (.int .i64 n7)), (.v (.int .i64 n8))]), (.g [(.v (.int .i64 n10)), (.v (.int .i64 n11))])] fun o12 =>
 oD o12.res fun d13 =>
 dB d13 fun b14 =>
 bif (!b14) then (
 some (.ret, [(.v (.bool false))])) else (
 l98x0 T k n [(.fz 2 l3), (.fz 2 l4), (.v (.int .i64 (IntKind.wrap .i64 (n5 + 1))))])))) else (
 some ((.exit 0), []))) := by kernel_rfl
theorem a98q (T : Table) (k : Nat) (l1 : Rows) (l2 : Rows) : evalF T k a98 [(.d (.s 2 l1)), (.d (.s 2 l2))] = (
 bif ((l1.length : Int) != (l2.length : Int)) then (
 some ⟨(.d (.v (.bool false))), []⟩) else (
 aft (l98x0 T k k [(.fz 2 l1), (.fz 2 l2), (.v (.int .i64 0))]) fun e15 ys16 =>
 bif e15.same .ret then (
 aV ys16 0 fun x17 =>
 aB x17 fun b18 =>
 some ⟨(.d (.v (.bool b18))), []⟩) else (
 bif e15.same (.exit 0) then (
 some ⟨(.d (.v (.bool true))), []⟩) else (
 none)))) := by kernel_rfl
/- loop.example/g00119/laws.eqStringS -/
def b62x0 : ACode := (
  .seq (.seq (.reg false [⟨some 11, .mv (.t 5), none⟩,
    ⟨some 12, .mv (.t 0), none⟩,
    ⟨some 13, .len false (.t 12), none⟩,
    ⟨some 14, .bin .lss (.t 11) (.t 13), none⟩]) (
  .cond (.t 14) (.skip) (.exit 0))) (
  .seq (.block 1 (.seq (.dreg [] [(0, ⟨some 17, .mv (.t 0), none⟩),
      (0, ⟨some 18, .mv (.t 5), none⟩),
      (0, ⟨some 19, .iad 1 (.t 17) (.t 18), none⟩),
      (0, ⟨some 20, .load false [.s] (.t 19), none⟩),
      (0, ⟨some 21, .mv (.t 1), none⟩),
      (0, ⟨some 22, .mv (.t 5), none⟩),
      (0, ⟨some 23, .iad 1 (.t 21) (.t 22), none⟩),
      (0, ⟨some 24, .load false [.s] (.t 23), none⟩)] [⟨some 25, .bin .neq (.t 20) (.t 24), none⟩]) (
    .cond (.t 25) (.seq (.reg false [⟨some 4, .mv (.c (.v (.bool false))), none⟩]) (
      .ret)) (.skip)))) (
  .reg false [⟨some 15, .mv (.t 5), none⟩,
    ⟨some 16, .bin .add (.t 15) (.c (.v (.int .i64 1))), none⟩,
    ⟨some 5, .mv (.t 16), none⟩])))
def e62x0 : Exits := [(.ret, [(4, .c .b)]), ((.exit 0), [])]
noncomputable def l62x0 (T : Table) (k : Nat) := loopN (evalC ⟨T, []⟩ k b62x0 (Ex × List AV)) [0, 1, 5] e62x0
def a62 : AFun := ⟨[.rd, .rd], false, [.t 4], (
  .seq (.reg false [⟨some 4, .mv (.c (.v (.bool false))), none⟩]) (
  .seq (.seq (.reg false [⟨some 6, .mv (.t 0), none⟩,
    ⟨some 7, .len false (.t 6), none⟩,
    ⟨some 8, .mv (.t 1), none⟩,
    ⟨some 9, .len false (.t 8), none⟩,
    ⟨some 10, .bin .neq (.t 7) (.t 9), none⟩]) (
  .cond (.t 10) (.seq (.reg false [⟨some 4, .mv (.c (.v (.bool false))), none⟩]) (
    .ret)) (.skip))) (
  .seq (.seq (.reg false [⟨some 5, .mv (.c (.v (.int .i64 0))), none⟩]) (
  .block 0 (.loop [0, 1, 5] e62x0 b62x0))) (
  .seq (.reg false [⟨some 4, .mv (.c (.v (.bool true))), none⟩]) (
  .ret)))))⟩
theorem l62x0s (T : Table) (k n : Nat) (l3 : Rows) (l4 : Rows) (n5 : Int) : l62x0 T k (n + 1) [(.fz 1 l3), (.fz 1 l4), (.v (.int .i64 n5))] = (
 bif (decide (n5 < (l3.length : Int))) then (
 tst (decide (0 ≤ n5)) (
 look l3 (Int.toNat n5) fun r6 =>
 cS r6 0 fun s7 =>
 tst (decide (0 ≤ n5)) (
 look l4 (Int.toNat n5) fun r8 =>
 cS r8 0 fun s9 =>
 bif (!(bytesEq s7 s9)) then (
 some (.ret, [(.v (.bool false))])) else (
 l62x0 T k n [(.fz 1 l3), (.fz 1 l4), (.v (.int .i64 (IntKind.wrap .i64 (n5 + 1))))])))) else (
 some ((.exit 0), []))) := by kernel_rfl
theorem a62q (T : Table) (k : Nat) (l1 : Rows) (l2 : Rows) : evalF T k a62 [(.d (.s 1 l1)), (.d (.s 1 l2))] = (
 bif ((l1.length : Int) != (l2.length : Int)) then (
 some ⟨(.d (.v (.bool false))), []⟩) else (
 aft (l62x0 T k k [(.fz 1 l1), (.fz 1 l2), (.v (.int .i64 0))]) fun e10 ys11 =>
 bif e10.same .ret then (
 aV ys11 0 fun x12 =>
 aB x12 fun b13 =>
 some ⟨(.d (.v (.bool b13))), []⟩) else (
 bif e10.same (.exit 0) then (
 some ⟨(.d (.v (.bool true))), []⟩) else (
 none)))) := by kernel_rfl
/- loop.example/g00119/laws.eqValueS -/
def b204x0 : ACode := (
  .seq (.seq (.reg false [⟨some 11, .mv (.t 5), none⟩,
    ⟨some 12, .mv (.t 0), none⟩,
    ⟨some 13, .len false (.t 12), none⟩,
    ⟨some 14, .bin .lss (.t 11) (.t 13), none⟩]) (
  .cond (.t 14) (.skip) (.exit 0))) (
  .seq (.block 1 (.seq (.dreg [] [(0, ⟨some 17, .mv (.t 0), none⟩),
      (0, ⟨some 18, .mv (.t 5), none⟩),
      (0, ⟨some 19, .iad 5 (.t 17) (.t 18), none⟩),
      (0, ⟨some 20, .load true [(.i .i64), .s, (.i .i64), (.sl 1), (.sl 5)] (.t 19), none⟩),
      (0, ⟨some 21, .mv (.t 1), none⟩),
      (0, ⟨some 22, .mv (.t 5), none⟩),
      (0, ⟨some 23, .iad 5 (.t 21) (.t 22), none⟩),
      (0, ⟨some 24, .load true [(.i .i64), .s, (.i .i64), (.sl 1), (.sl 5)] (.t 23), none⟩)] [⟨some 25, .call (.f 95) [.rd, .rd] false [.c .b] [(.t 20), (.t 24)], none⟩,
      ⟨some 26, .un .not (.t 25), none⟩]) (
    .cond (.t 26) (.seq (.reg false [⟨some 4, .mv (.c (.v (.bool false))), none⟩]) (
      .ret)) (.skip)))) (
  .reg false [⟨some 15, .mv (.t 5), none⟩,
    ⟨some 16, .bin .add (.t 15) (.c (.v (.int .i64 1))), none⟩,
    ⟨some 5, .mv (.t 16), none⟩])))
def e204x0 : Exits := [(.ret, [(4, .c .b)]), ((.exit 0), [])]
noncomputable def l204x0 (T : Table) (k : Nat) := loopN (evalC ⟨T, []⟩ k b204x0 (Ex × List AV)) [0, 1, 5] e204x0
def a204 : AFun := ⟨[.rd, .rd], false, [.t 4], (
  .seq (.reg false [⟨some 4, .mv (.c (.v (.bool false))), none⟩]) (
  .seq (.seq (.reg false [⟨some 6, .mv (.t 0), none⟩,
    ⟨some 7, .len false (.t 6), none⟩,
    ⟨some 8, .mv (.t 1), none⟩,
    ⟨some 9, .len false (.t 8), none⟩,
    ⟨some 10, .bin .neq (.t 7) (.t 9), none⟩]) (
  .cond (.t 10) (.seq (.reg false [⟨some 4, .mv (.c (.v (.bool false))), none⟩]) (
    .ret)) (.skip))) (
  .seq (.seq (.reg false [⟨some 5, .mv (.c (.v (.int .i64 0))), none⟩]) (
  .block 0 (.loop [0, 1, 5] e204x0 b204x0))) (
  .seq (.reg false [⟨some 4, .mv (.c (.v (.bool true))), none⟩]) (
  .ret)))))⟩
theorem l204x0s (T : Table) (k n : Nat) (l3 : Rows) (l4 : Rows) (n5 : Int) : l204x0 T k (n + 1) [(.fz 5 l3), (.fz 5 l4), (.v (.int .i64 n5))] = (
 bif (decide (n5 < (l3.length : Int))) then (
 tst (decide (0 ≤ n5)) (
 look l3 (Int.toNat n5) fun r6 =>
 cI .i64 r6 0 fun n7 =>
 cS r6 1 fun s8 =>
 cI .i64 r6 2 fun n9 =>
 cL 1 r6 3 fun l10 =>
 cL 5 r6 4 fun l11 =>
 tst (decide (0 ≤ n5)) (
 look l4 (Int.toNat n5) fun r12 =>
 cI .i64 r12 0 fun n13 =>
 cS r12 1 fun s14 =>
 cI .i64 r12 2 fun n15 =>
 cL 1 r12 3 fun l16 =>
 cL 5 r12 4 fun l17 =>
 callT T 95 [(.g [(.v (.int .i64 n7)), (.v (.string s8)), (.v (.int .i64 n9)), (.s 1 l10), (.s 5 l11)]), (.g [(.v (.int .i64 n13)), (.v (.string s14)), (.v (.int .i64 n15)), (.s 1 l16), (.s 5 l17)])] fun o18 =>
 oD o18.res fun d19 =>
 dB d19 fun b20 =>
 bif (!b20) then (
 some (.ret, [(.v (.bool false))])) else (
 l204x0 T k n [(.fz 5 l3), (.fz 5 l4), (.v (.int .i64 (IntKind.wrap .i64 (n5 + 1))))])))) else (
 some ((.exit 0), []))) := by kernel_rfl
theorem a204q (T : Table) (k : Nat) (l1 : Rows) (l2 : Rows) : evalF T k a204 [(.d (.s 5 l1)), (.d (.s 5 l2))] = (
 bif ((l1.length : Int) != (l2.length : Int)) then (
 some ⟨(.d (.v (.bool false))), []⟩) else (
 aft (l204x0 T k k [(.fz 5 l1), (.fz 5 l2), (.v (.int .i64 0))]) fun e21 ys22 =>
 bif e21.same .ret then (
 aV ys22 0 fun x23 =>
 aB x23 fun b24 =>
 some ⟨(.d (.v (.bool b24))), []⟩) else (
 bif e21.same (.exit 0) then (
 some ⟨(.d (.v (.bool true))), []⟩) else (
 none)))) := by kernel_rfl
/- loop.example/g00119/laws.eqValue -/

def a95 : AFun := ⟨[.rd, .rd], false, [.t 4], (
  .seq (.reg false [⟨some 2, .box (.t 0), none⟩,
    ⟨some 3, .box (.t 1), none⟩,
    ⟨some 4, .mv (.c (.v (.bool false))), none⟩]) (
  .seq (.seq (.reg false [⟨some 5, .fad 0 (.t 2), none⟩,
    ⟨some 6, .load false [(.i .i64)] (.t 5), none⟩,
    ⟨some 7, .fad 0 (.t 3), none⟩,
    ⟨some 8, .load false [(.i .i64)] (.t 7), none⟩,
    ⟨some 9, .bin .neq (.t 6) (.t 8), none⟩]) (
  .cond (.t 9) (.seq (.reg false [⟨some 4, .mv (.c (.v (.bool false))), none⟩]) (
    .ret)) (.skip))) (
  .seq (.seq (.reg false [⟨some 10, .fad 1 (.t 2), none⟩,
    ⟨some 11, .load false [.s] (.t 10), none⟩,
    ⟨some 12, .fad 1 (.t 3), none⟩,
    ⟨some 13, .load false [.s] (.t 12), none⟩,
    ⟨some 14, .bin .neq (.t 11) (.t 13), none⟩]) (
  .cond (.t 14) (.seq (.reg false [⟨some 4, .mv (.c (.v (.bool false))), none⟩]) (
    .ret)) (.skip))) (
  .seq (.seq (.reg false [⟨some 15, .fad 2 (.t 2), none⟩,
    ⟨some 16, .load false [(.i .i64)] (.t 15), none⟩,
    ⟨some 17, .fad 2 (.t 3), none⟩,
    ⟨some 18, .load false [(.i .i64)] (.t 17), none⟩,
    ⟨some 19, .bin .neq (.t 16) (.t 18), none⟩]) (
  .cond (.t 19) (.seq (.reg false [⟨some 4, .mv (.c (.v (.bool false))), none⟩]) (
    .ret)) (.skip))) (
  .seq (.seq (.reg false [⟨some 20, .fad 3 (.t 2), none⟩,
    ⟨some 21, .load false [(.sl 1)] (.t 20), none⟩,
    ⟨some 22, .fad 3 (.t 3), none⟩,
    ⟨some 23, .load false [(.sl 1)] (.t 22), none⟩,
    ⟨some 24, .call (.f 62) [.rd, .rd] false [.c .b] [(.t 21), (.t 23)], none⟩,
    ⟨some 25, .un .not (.t 24), none⟩]) (
  .cond (.t 25) (.seq (.reg false [⟨some 4, .mv (.c (.v (.bool false))), none⟩]) (
    .ret)) (.skip))) (
  .seq (.seq (.reg false [⟨some 26, .fad 4 (.t 2), none⟩,
    ⟨some 27, .load false [(.sl 5)] (.t 26), none⟩,
    ⟨some 28, .fad 4 (.t 3), none⟩,
    ⟨some 29, .load false [(.sl 5)] (.t 28), none⟩,
    ⟨some 30, .call (.f 204) [.rd, .rd] false [.c .b] [(.t 27), (.t 29)], none⟩,
    ⟨some 31, .un .not (.t 30), none⟩]) (
  .cond (.t 31) (.seq (.reg false [⟨some 4, .mv (.c (.v (.bool false))), none⟩]) (
    .ret)) (.skip))) (
  .seq (.reg false [⟨some 4, .mv (.c (.v (.bool true))), none⟩]) (
  .ret))))))))⟩

theorem a95q (T : Table) (k : Nat) (n1 : Int) (s2 : ByteArray) (n3 : Int) (l4 : Rows) (l5 : Rows) (n6 : Int) (s7 : ByteArray) (n8 : Int) (l9 : Rows) (l10 : Rows) : evalF T k a95 [(.g [(.v (.int .i64 n1)), (.v (.string s2)), (.v (.int .i64 n3)), (.s 1 l4), (.s 5 l5)]), (.g [(.v (.int .i64 n6)), (.v (.string s7)), (.v (.int .i64 n8)), (.s 1 l9), (.s 5 l10)])] = (
 bif (n1 != n6) then (
 some ⟨(.d (.v (.bool false))), []⟩) else (
 bif (!(bytesEq s2 s7)) then (
 some ⟨(.d (.v (.bool false))), []⟩) else (
 bif (n3 != n8) then (
 some ⟨(.d (.v (.bool false))), []⟩) else (
 callT T 62 [(.d (.s 1 l4)), (.d (.s 1 l9))] fun o11 =>
 oD o11.res fun d12 =>
 dB d12 fun b13 =>
 bif (!b13) then (
 some ⟨(.d (.v (.bool false))), []⟩) else (
 callT T 204 [(.d (.s 5 l5)), (.d (.s 5 l10))] fun o14 =>
 oD o14.res fun d15 =>
 dB d15 fun b16 =>
 bif (!b16) then (
 some ⟨(.d (.v (.bool false))), []⟩) else (
 some ⟨(.d (.v (.bool true))), []⟩)))))) := by kernel_rfl
/- loop.example/g00119/laws.eqWork -/

def a215 : AFun := ⟨[.rd, .rd], false, [.t 4], (
  .seq (.reg false [⟨some 2, .box (.t 0), none⟩,
    ⟨some 3, .box (.t 1), none⟩,
    ⟨some 4, .mv (.c (.v (.bool false))), none⟩]) (
  .seq (.seq (.reg false [⟨some 5, .fad 0 (.t 2), none⟩,
    ⟨some 6, .load false [(.i .i64)] (.t 5), none⟩,
    ⟨some 7, .fad 0 (.t 3), none⟩,
    ⟨some 8, .load false [(.i .i64)] (.t 7), none⟩,
    ⟨some 9, .bin .neq (.t 6) (.t 8), none⟩]) (
  .cond (.t 9) (.seq (.reg false [⟨some 4, .mv (.c (.v (.bool false))), none⟩]) (
    .ret)) (.skip))) (
  .seq (.seq (.reg false [⟨some 10, .fad 1 (.t 2), none⟩,
    ⟨some 11, .load false [(.i .i64)] (.t 10), none⟩,
    ⟨some 12, .fad 1 (.t 3), none⟩,
    ⟨some 13, .load false [(.i .i64)] (.t 12), none⟩,
    ⟨some 14, .bin .neq (.t 11) (.t 13), none⟩]) (
  .cond (.t 14) (.seq (.reg false [⟨some 4, .mv (.c (.v (.bool false))), none⟩]) (
    .ret)) (.skip))) (
  .seq (.seq (.reg false [⟨some 15, .fad 2 (.t 2), none⟩,
    ⟨some 16, .load true [(.i .i64), .s, (.i .i64), (.sl 1), (.sl 5)] (.t 15), none⟩,
    ⟨some 17, .fad 2 (.t 3), none⟩,
    ⟨some 18, .load true [(.i .i64), .s, (.i .i64), (.sl 1), (.sl 5)] (.t 17), none⟩,
    ⟨some 19, .call (.f 95) [.rd, .rd] false [.c .b] [(.t 16), (.t 18)], none⟩,
    ⟨some 20, .un .not (.t 19), none⟩]) (
  .cond (.t 20) (.seq (.reg false [⟨some 4, .mv (.c (.v (.bool false))), none⟩]) (
    .ret)) (.skip))) (
  .seq (.reg false [⟨some 4, .mv (.c (.v (.bool true))), none⟩]) (
  .ret))))))⟩

theorem a215q (T : Table) (k : Nat) (n1 : Int) (n2 : Int) (n3 : Int) (s4 : ByteArray) (n5 : Int) (l6 : Rows) (l7 : Rows) (n8 : Int) (n9 : Int) (n10 : Int) (s11 : ByteArray) (n12 : Int) (l13 : Rows) (l14 : Rows) : evalF T k a215 [(.g [(.v (.int .i64 n1)), (.v (.int .i64 n2)), (.v (.int .i64 n3)), (.v (.string s4)), (.v (.int .i64 n5)), (.s 1 l6), (.s 5 l7)]), (.g [(.v (.int .i64 n8)), (.v (.int .i64 n9)), (.v (.int .i64 n10)), (.v (.string s11)), (.v (.int .i64 n12)), (.s 1 l13), (.s 5 l14)])] = (
 bif (n1 != n8) then (
 some ⟨(.d (.v (.bool false))), []⟩) else (
 bif (n2 != n9) then (
 some ⟨(.d (.v (.bool false))), []⟩) else (
 callT T 95 [(.g [(.v (.int .i64 n3)), (.v (.string s4)), (.v (.int .i64 n5)), (.s 1 l6), (.s 5 l7)]), (.g [(.v (.int .i64 n10)), (.v (.string s11)), (.v (.int .i64 n12)), (.s 1 l13), (.s 5 l14)])] fun o15 =>
 oD o15.res fun d16 =>
 dB d16 fun b17 =>
 bif (!b17) then (
 some ⟨(.d (.v (.bool false))), []⟩) else (
 some ⟨(.d (.v (.bool true))), []⟩)))) := by kernel_rfl
/- loop.example/g00119/laws.eqWorkS -/
def b108x0 : ACode := (
  .seq (.seq (.reg false [⟨some 11, .mv (.t 5), none⟩,
    ⟨some 12, .mv (.t 0), none⟩,
    ⟨some 13, .len false (.t 12), none⟩,
    ⟨some 14, .bin .lss (.t 11) (.t 13), none⟩]) (
  .cond (.t 14) (.skip) (.exit 0))) (
  .seq (.block 1 (.seq (.dreg [] [(0, ⟨some 17, .mv (.t 0), none⟩),
      (0, ⟨some 18, .mv (.t 5), none⟩),
      (0, ⟨some 19, .iad 7 (.t 17) (.t 18), none⟩),
      (0, ⟨some 20, .load true [(.i .i64), (.i .i64), (.i .i64), .s, (.i .i64), (.sl 1), (.sl 5)] (.t 19), none⟩),
      (0, ⟨some 21, .mv (.t 1), none⟩),
      (0, ⟨some 22, .mv (.t 5), none⟩),
      (0, ⟨some 23, .iad 7 (.t 21) (.t 22), none⟩),
      (0, ⟨some 24, .load true [(.i .i64), (.i .i64), (.i .i64), .s, (.i .i64), (.sl 1), (.sl 5)] (.t 23), none⟩)] [⟨some 25, .call (.f 215) [.rd, .rd] false [.c .b] [(.t 20), (.t 24)], none⟩,
      ⟨some 26, .un .not (.t 25), none⟩]) (
    .cond (.t 26) (.seq (.reg false [⟨some 4, .mv (.c (.v (.bool false))), none⟩]) (
      .ret)) (.skip)))) (
  .reg false [⟨some 15, .mv (.t 5), none⟩,
    ⟨some 16, .bin .add (.t 15) (.c (.v (.int .i64 1))), none⟩,
    ⟨some 5, .mv (.t 16), none⟩])))
def e108x0 : Exits := [(.ret, [(4, .c .b)]), ((.exit 0), [])]
noncomputable def l108x0 (T : Table) (k : Nat) := loopN (evalC ⟨T, []⟩ k b108x0 (Ex × List AV)) [0, 1, 5] e108x0
def a108 : AFun := ⟨[.rd, .rd], false, [.t 4], (
  .seq (.reg false [⟨some 4, .mv (.c (.v (.bool false))), none⟩]) (
  .seq (.seq (.reg false [⟨some 6, .mv (.t 0), none⟩,
    ⟨some 7, .len false (.t 6), none⟩,
    ⟨some 8, .mv (.t 1), none⟩,
    ⟨some 9, .len false (.t 8), none⟩,
    ⟨some 10, .bin .neq (.t 7) (.t 9), none⟩]) (
  .cond (.t 10) (.seq (.reg false [⟨some 4, .mv (.c (.v (.bool false))), none⟩]) (
    .ret)) (.skip))) (
  .seq (.seq (.reg false [⟨some 5, .mv (.c (.v (.int .i64 0))), none⟩]) (
  .block 0 (.loop [0, 1, 5] e108x0 b108x0))) (
  .seq (.reg false [⟨some 4, .mv (.c (.v (.bool true))), none⟩]) (
  .ret)))))⟩
theorem l108x0s (T : Table) (k n : Nat) (l3 : Rows) (l4 : Rows) (n5 : Int) : l108x0 T k (n + 1) [(.fz 7 l3), (.fz 7 l4), (.v (.int .i64 n5))] = (
 bif (decide (n5 < (l3.length : Int))) then (
 tst (decide (0 ≤ n5)) (
 look l3 (Int.toNat n5) fun r6 =>
 cI .i64 r6 0 fun n7 =>
 cI .i64 r6 1 fun n8 =>
 cI .i64 r6 2 fun n9 =>
 cS r6 3 fun s10 =>
 cI .i64 r6 4 fun n11 =>
 cL 1 r6 5 fun l12 =>
 cL 5 r6 6 fun l13 =>
 tst (decide (0 ≤ n5)) (
 look l4 (Int.toNat n5) fun r14 =>
 cI .i64 r14 0 fun n15 =>
 cI .i64 r14 1 fun n16 =>
 cI .i64 r14 2 fun n17 =>
 cS r14 3 fun s18 =>
 cI .i64 r14 4 fun n19 =>
 cL 1 r14 5 fun l20 =>
 cL 5 r14 6 fun l21 =>
 callT T 215 [(.g [(.v (.int .i64 n7)), (.v (.int .i64 n8)), (.v (.int .i64 n9)), (.v (.string s10)), (.v (.int .i64 n11)), (.s 1 l12), (.s 5 l13)]), (.g [(.v (.int .i64 n15)), (.v (.int .i64 n16)), (.v (.int .i64 n17)), (.v (.string s18)), (.v (.int .i64 n19)), (.s 1 l20), (.s 5 l21)])] fun o22 =>
 oD o22.res fun d23 =>
 dB d23 fun b24 =>
 bif (!b24) then (
 some (.ret, [(.v (.bool false))])) else (
 l108x0 T k n [(.fz 7 l3), (.fz 7 l4), (.v (.int .i64 (IntKind.wrap .i64 (n5 + 1))))])))) else (
 some ((.exit 0), []))) := by kernel_rfl
theorem a108q (T : Table) (k : Nat) (l1 : Rows) (l2 : Rows) : evalF T k a108 [(.d (.s 7 l1)), (.d (.s 7 l2))] = (
 bif ((l1.length : Int) != (l2.length : Int)) then (
 some ⟨(.d (.v (.bool false))), []⟩) else (
 aft (l108x0 T k k [(.fz 7 l1), (.fz 7 l2), (.v (.int .i64 0))]) fun e25 ys26 =>
 bif e25.same .ret then (
 aV ys26 0 fun x27 =>
 aB x27 fun b28 =>
 some ⟨(.d (.v (.bool b28))), []⟩) else (
 bif e25.same (.exit 0) then (
 some ⟨(.d (.v (.bool true))), []⟩) else (
 none)))) := by kernel_rfl
/- loop.example/g00119/laws.eqIsle -/

def a27 : AFun := ⟨[.rd, .rd], false, [.t 4], (
  .seq (.reg false [⟨some 2, .box (.t 0), none⟩,
    ⟨some 3, .box (.t 1), none⟩,
    ⟨some 4, .mv (.c (.v (.bool false))), none⟩]) (
  .seq (.seq (.reg false [⟨some 5, .fad 0 (.t 2), none⟩,
    ⟨some 6, .load false [.s] (.t 5), none⟩,
    ⟨some 7, .fad 0 (.t 3), none⟩,
    ⟨some 8, .load false [.s] (.t 7), none⟩,
    ⟨some 9, .bin .neq (.t 6) (.t 8), none⟩]) (
  .cond (.t 9) (.seq (.reg false [⟨some 4, .mv (.c (.v (.bool false))), none⟩]) (
    .ret)) (.skip))) (
  .seq (.seq (.reg false [⟨some 10, .fad 1 (.t 2), none⟩,
    ⟨some 11, .load false [(.i .i64)] (.t 10), none⟩,
    ⟨some 12, .fad 1 (.t 3), none⟩,
    ⟨some 13, .load false [(.i .i64)] (.t 12), none⟩,
    ⟨some 14, .bin .neq (.t 11) (.t 13), none⟩]) (
  .cond (.t 14) (.seq (.reg false [⟨some 4, .mv (.c (.v (.bool false))), none⟩]) (
    .ret)) (.skip))) (
  .seq (.seq (.reg false [⟨some 15, .fad 2 (.t 2), none⟩,
    ⟨some 16, .load false [(.i .i64)] (.t 15), none⟩,
    ⟨some 17, .fad 2 (.t 3), none⟩,
    ⟨some 18, .load false [(.i .i64)] (.t 17), none⟩,
    ⟨some 19, .bin .neq (.t 16) (.t 18), none⟩]) (
  .cond (.t 19) (.seq (.reg false [⟨some 4, .mv (.c (.v (.bool false))), none⟩]) (
    .ret)) (.skip))) (
  .seq (.seq (.reg false [⟨some 20, .fad 3 (.t 2), none⟩,
    ⟨some 21, .load false [(.sl 7)] (.t 20), none⟩,
    ⟨some 22, .fad 3 (.t 3), none⟩,
    ⟨some 23, .load false [(.sl 7)] (.t 22), none⟩,
    ⟨some 24, .call (.f 108) [.rd, .rd] false [.c .b] [(.t 21), (.t 23)], none⟩,
    ⟨some 25, .un .not (.t 24), none⟩]) (
  .cond (.t 25) (.seq (.reg false [⟨some 4, .mv (.c (.v (.bool false))), none⟩]) (
    .ret)) (.skip))) (
  .seq (.seq (.reg false [⟨some 26, .fad 4 (.t 2), none⟩,
    ⟨some 27, .load false [(.sl 2)] (.t 26), none⟩,
    ⟨some 28, .fad 4 (.t 3), none⟩,
    ⟨some 29, .load false [(.sl 2)] (.t 28), none⟩,
    ⟨some 30, .call (.f 98) [.rd, .rd] false [.c .b] [(.t 27), (.t 29)], none⟩,
    ⟨some 31, .un .not (.t 30), none⟩]) (
  .cond (.t 31) (.seq (.reg false [⟨some 4, .mv (.c (.v (.bool false))), none⟩]) (
    .ret)) (.skip))) (
  .seq (.reg false [⟨some 4, .mv (.c (.v (.bool true))), none⟩]) (
  .ret))))))))⟩

theorem a27q (T : Table) (k : Nat) (s1 : ByteArray) (n2 : Int) (n3 : Int) (l4 : Rows) (l5 : Rows) (s6 : ByteArray) (n7 : Int) (n8 : Int) (l9 : Rows) (l10 : Rows) : evalF T k a27 [(.g [(.v (.string s1)), (.v (.int .i64 n2)), (.v (.int .i64 n3)), (.s 7 l4), (.s 2 l5)]), (.g [(.v (.string s6)), (.v (.int .i64 n7)), (.v (.int .i64 n8)), (.s 7 l9), (.s 2 l10)])] = (
 bif (!(bytesEq s1 s6)) then (
 some ⟨(.d (.v (.bool false))), []⟩) else (
 bif (n2 != n7) then (
 some ⟨(.d (.v (.bool false))), []⟩) else (
 bif (n3 != n8) then (
 some ⟨(.d (.v (.bool false))), []⟩) else (
 callT T 108 [(.d (.s 7 l4)), (.d (.s 7 l9))] fun o11 =>
 oD o11.res fun d12 =>
 dB d12 fun b13 =>
 bif (!b13) then (
 some ⟨(.d (.v (.bool false))), []⟩) else (
 callT T 98 [(.d (.s 2 l5)), (.d (.s 2 l10))] fun o14 =>
 oD o14.res fun d15 =>
 dB d15 fun b16 =>
 bif (!b16) then (
 some ⟨(.d (.v (.bool false))), []⟩) else (
 some ⟨(.d (.v (.bool true))), []⟩)))))) := by kernel_rfl
/- loop.example/g00119/laws.eqTerm -/

def a295 : AFun := ⟨[.rd, .rd], false, [.t 4], (
  .seq (.reg false [⟨some 2, .box (.t 0), none⟩,
    ⟨some 3, .box (.t 1), none⟩,
    ⟨some 4, .mv (.c (.v (.bool false))), none⟩]) (
  .seq (.seq (.reg false [⟨some 5, .fad 0 (.t 2), none⟩,
    ⟨some 6, .load false [(.i .i64)] (.t 5), none⟩,
    ⟨some 7, .fad 0 (.t 3), none⟩,
    ⟨some 8, .load false [(.i .i64)] (.t 7), none⟩,
    ⟨some 9, .bin .neq (.t 6) (.t 8), none⟩]) (
  .cond (.t 9) (.seq (.reg false [⟨some 4, .mv (.c (.v (.bool false))), none⟩]) (
    .ret)) (.skip))) (
  .seq (.seq (.reg false [⟨some 10, .fad 1 (.t 2), none⟩,
    ⟨some 11, .load false [.s] (.t 10), none⟩,
    ⟨some 12, .fad 1 (.t 3), none⟩,
    ⟨some 13, .load false [.s] (.t 12), none⟩,
    ⟨some 14, .bin .neq (.t 11) (.t 13), none⟩]) (
  .cond (.t 14) (.seq (.reg false [⟨some 4, .mv (.c (.v (.bool false))), none⟩]) (
    .ret)) (.skip))) (
  .seq (.seq (.reg false [⟨some 15, .fad 2 (.t 2), none⟩,
    ⟨some 16, .load false [(.sl 1)] (.t 15), none⟩,
    ⟨some 17, .fad 2 (.t 3), none⟩,
    ⟨some 18, .load false [(.sl 1)] (.t 17), none⟩,
    ⟨some 19, .call (.f 62) [.rd, .rd] false [.c .b] [(.t 16), (.t 18)], none⟩,
    ⟨some 20, .un .not (.t 19), none⟩]) (
  .cond (.t 20) (.seq (.reg false [⟨some 4, .mv (.c (.v (.bool false))), none⟩]) (
    .ret)) (.skip))) (
  .seq (.reg false [⟨some 4, .mv (.c (.v (.bool true))), none⟩]) (
  .ret))))))⟩

theorem a295q (T : Table) (k : Nat) (n1 : Int) (s2 : ByteArray) (l3 : Rows) (n4 : Int) (s5 : ByteArray) (l6 : Rows) : evalF T k a295 [(.g [(.v (.int .i64 n1)), (.v (.string s2)), (.s 1 l3)]), (.g [(.v (.int .i64 n4)), (.v (.string s5)), (.s 1 l6)])] = (
 bif (n1 != n4) then (
 some ⟨(.d (.v (.bool false))), []⟩) else (
 bif (!(bytesEq s2 s5)) then (
 some ⟨(.d (.v (.bool false))), []⟩) else (
 callT T 62 [(.d (.s 1 l3)), (.d (.s 1 l6))] fun o7 =>
 oD o7.res fun d8 =>
 dB d8 fun b9 =>
 bif (!b9) then (
 some ⟨(.d (.v (.bool false))), []⟩) else (
 some ⟨(.d (.v (.bool true))), []⟩)))) := by kernel_rfl
/- loop.example/g00119/laws.eqTermS -/
def b202x0 : ACode := (
  .seq (.seq (.reg false [⟨some 11, .mv (.t 5), none⟩,
    ⟨some 12, .mv (.t 0), none⟩,
    ⟨some 13, .len false (.t 12), none⟩,
    ⟨some 14, .bin .lss (.t 11) (.t 13), none⟩]) (
  .cond (.t 14) (.skip) (.exit 0))) (
  .seq (.block 1 (.seq (.dreg [] [(0, ⟨some 17, .mv (.t 0), none⟩),
      (0, ⟨some 18, .mv (.t 5), none⟩),
      (0, ⟨some 19, .iad 3 (.t 17) (.t 18), none⟩),
      (0, ⟨some 20, .load true [(.i .i64), .s, (.sl 1)] (.t 19), none⟩),
      (0, ⟨some 21, .mv (.t 1), none⟩),
      (0, ⟨some 22, .mv (.t 5), none⟩),
      (0, ⟨some 23, .iad 3 (.t 21) (.t 22), none⟩),
      (0, ⟨some 24, .load true [(.i .i64), .s, (.sl 1)] (.t 23), none⟩)] [⟨some 25, .call (.f 295) [.rd, .rd] false [.c .b] [(.t 20), (.t 24)], none⟩,
      ⟨some 26, .un .not (.t 25), none⟩]) (
    .cond (.t 26) (.seq (.reg false [⟨some 4, .mv (.c (.v (.bool false))), none⟩]) (
      .ret)) (.skip)))) (
  .reg false [⟨some 15, .mv (.t 5), none⟩,
    ⟨some 16, .bin .add (.t 15) (.c (.v (.int .i64 1))), none⟩,
    ⟨some 5, .mv (.t 16), none⟩])))
def e202x0 : Exits := [(.ret, [(4, .c .b)]), ((.exit 0), [])]
noncomputable def l202x0 (T : Table) (k : Nat) := loopN (evalC ⟨T, []⟩ k b202x0 (Ex × List AV)) [0, 1, 5] e202x0
def a202 : AFun := ⟨[.rd, .rd], false, [.t 4], (
  .seq (.reg false [⟨some 4, .mv (.c (.v (.bool false))), none⟩]) (
  .seq (.seq (.reg false [⟨some 6, .mv (.t 0), none⟩,
    ⟨some 7, .len false (.t 6), none⟩,
    ⟨some 8, .mv (.t 1), none⟩,
    ⟨some 9, .len false (.t 8), none⟩,
    ⟨some 10, .bin .neq (.t 7) (.t 9), none⟩]) (
  .cond (.t 10) (.seq (.reg false [⟨some 4, .mv (.c (.v (.bool false))), none⟩]) (
    .ret)) (.skip))) (
  .seq (.seq (.reg false [⟨some 5, .mv (.c (.v (.int .i64 0))), none⟩]) (
  .block 0 (.loop [0, 1, 5] e202x0 b202x0))) (
  .seq (.reg false [⟨some 4, .mv (.c (.v (.bool true))), none⟩]) (
  .ret)))))⟩
theorem l202x0s (T : Table) (k n : Nat) (l3 : Rows) (l4 : Rows) (n5 : Int) : l202x0 T k (n + 1) [(.fz 3 l3), (.fz 3 l4), (.v (.int .i64 n5))] = (
 bif (decide (n5 < (l3.length : Int))) then (
 tst (decide (0 ≤ n5)) (
 look l3 (Int.toNat n5) fun r6 =>
 cI .i64 r6 0 fun n7 =>
 cS r6 1 fun s8 =>
 cL 1 r6 2 fun l9 =>
 tst (decide (0 ≤ n5)) (
 look l4 (Int.toNat n5) fun r10 =>
 cI .i64 r10 0 fun n11 =>
 cS r10 1 fun s12 =>
 cL 1 r10 2 fun l13 =>
 callT T 295 [(.g [(.v (.int .i64 n7)), (.v (.string s8)), (.s 1 l9)]), (.g [(.v (.int .i64 n11)), (.v (.string s12)), (.s 1 l13)])] fun o14 =>
 oD o14.res fun d15 =>
 dB d15 fun b16 =>
 bif (!b16) then (
 some (.ret, [(.v (.bool false))])) else (
 l202x0 T k n [(.fz 3 l3), (.fz 3 l4), (.v (.int .i64 (IntKind.wrap .i64 (n5 + 1))))])))) else (
 some ((.exit 0), []))) := by kernel_rfl
theorem a202q (T : Table) (k : Nat) (l1 : Rows) (l2 : Rows) : evalF T k a202 [(.d (.s 3 l1)), (.d (.s 3 l2))] = (
 bif ((l1.length : Int) != (l2.length : Int)) then (
 some ⟨(.d (.v (.bool false))), []⟩) else (
 aft (l202x0 T k k [(.fz 3 l1), (.fz 3 l2), (.v (.int .i64 0))]) fun e17 ys18 =>
 bif e17.same .ret then (
 aV ys18 0 fun x19 =>
 aB x19 fun b20 =>
 some ⟨(.d (.v (.bool b20))), []⟩) else (
 bif e17.same (.exit 0) then (
 some ⟨(.d (.v (.bool true))), []⟩) else (
 none)))) := by kernel_rfl
/- loop.example/g00119/laws.eqWeigh -/

def a296 : AFun := ⟨[.rd, .rd], false, [.t 4], (
  .seq (.reg false [⟨some 2, .box (.t 0), none⟩,
    ⟨some 3, .box (.t 1), none⟩,
    ⟨some 4, .mv (.c (.v (.bool false))), none⟩]) (
  .seq (.seq (.reg false [⟨some 5, .fad 0 (.t 2), none⟩,
    ⟨some 6, .load false [.s] (.t 5), none⟩,
    ⟨some 7, .fad 0 (.t 3), none⟩,
    ⟨some 8, .load false [.s] (.t 7), none⟩,
    ⟨some 9, .bin .neq (.t 6) (.t 8), none⟩]) (
  .cond (.t 9) (.seq (.reg false [⟨some 4, .mv (.c (.v (.bool false))), none⟩]) (
    .ret)) (.skip))) (
  .seq (.seq (.reg false [⟨some 10, .fad 1 (.t 2), none⟩,
    ⟨some 11, .load false [(.i .i64)] (.t 10), none⟩,
    ⟨some 12, .fad 1 (.t 3), none⟩,
    ⟨some 13, .load false [(.i .i64)] (.t 12), none⟩,
    ⟨some 14, .bin .neq (.t 11) (.t 13), none⟩]) (
  .cond (.t 14) (.seq (.reg false [⟨some 4, .mv (.c (.v (.bool false))), none⟩]) (
    .ret)) (.skip))) (
  .seq (.reg false [⟨some 4, .mv (.c (.v (.bool true))), none⟩]) (
  .ret)))))⟩

theorem a296q (T : Table) (k : Nat) (s1 : ByteArray) (n2 : Int) (s3 : ByteArray) (n4 : Int) : evalF T k a296 [(.g [(.v (.string s1)), (.v (.int .i64 n2))]), (.g [(.v (.string s3)), (.v (.int .i64 n4))])] = (
 bif (!(bytesEq s1 s3)) then (
 some ⟨(.d (.v (.bool false))), []⟩) else (
 bif (n2 != n4) then (
 some ⟨(.d (.v (.bool false))), []⟩) else (
 some ⟨(.d (.v (.bool true))), []⟩))) := by kernel_rfl
/- loop.example/g00119/laws.eqWeighS -/
def b203x0 : ACode := (
  .seq (.seq (.reg false [⟨some 11, .mv (.t 5), none⟩,
    ⟨some 12, .mv (.t 0), none⟩,
    ⟨some 13, .len false (.t 12), none⟩,
    ⟨some 14, .bin .lss (.t 11) (.t 13), none⟩]) (
  .cond (.t 14) (.skip) (.exit 0))) (
  .seq (.block 1 (.seq (.dreg [] [(0, ⟨some 17, .mv (.t 0), none⟩),
      (0, ⟨some 18, .mv (.t 5), none⟩),
      (0, ⟨some 19, .iad 2 (.t 17) (.t 18), none⟩),
      (0, ⟨some 20, .load true [.s, (.i .i64)] (.t 19), none⟩),
      (0, ⟨some 21, .mv (.t 1), none⟩),
      (0, ⟨some 22, .mv (.t 5), none⟩),
      (0, ⟨some 23, .iad 2 (.t 21) (.t 22), none⟩),
      (0, ⟨some 24, .load true [.s, (.i .i64)] (.t 23), none⟩)] [⟨some 25, .call (.f 296) [.rd, .rd] false [.c .b] [(.t 20), (.t 24)], none⟩,
      ⟨some 26, .un .not (.t 25), none⟩]) (
    .cond (.t 26) (.seq (.reg false [⟨some 4, .mv (.c (.v (.bool false))), none⟩]) (
      .ret)) (.skip)))) (
  .reg false [⟨some 15, .mv (.t 5), none⟩,
    ⟨some 16, .bin .add (.t 15) (.c (.v (.int .i64 1))), none⟩,
    ⟨some 5, .mv (.t 16), none⟩])))
def e203x0 : Exits := [(.ret, [(4, .c .b)]), ((.exit 0), [])]
noncomputable def l203x0 (T : Table) (k : Nat) := loopN (evalC ⟨T, []⟩ k b203x0 (Ex × List AV)) [0, 1, 5] e203x0
def a203 : AFun := ⟨[.rd, .rd], false, [.t 4], (
  .seq (.reg false [⟨some 4, .mv (.c (.v (.bool false))), none⟩]) (
  .seq (.seq (.reg false [⟨some 6, .mv (.t 0), none⟩,
    ⟨some 7, .len false (.t 6), none⟩,
    ⟨some 8, .mv (.t 1), none⟩,
    ⟨some 9, .len false (.t 8), none⟩,
    ⟨some 10, .bin .neq (.t 7) (.t 9), none⟩]) (
  .cond (.t 10) (.seq (.reg false [⟨some 4, .mv (.c (.v (.bool false))), none⟩]) (
    .ret)) (.skip))) (
  .seq (.seq (.reg false [⟨some 5, .mv (.c (.v (.int .i64 0))), none⟩]) (
  .block 0 (.loop [0, 1, 5] e203x0 b203x0))) (
  .seq (.reg false [⟨some 4, .mv (.c (.v (.bool true))), none⟩]) (
  .ret)))))⟩
theorem l203x0s (T : Table) (k n : Nat) (l3 : Rows) (l4 : Rows) (n5 : Int) : l203x0 T k (n + 1) [(.fz 2 l3), (.fz 2 l4), (.v (.int .i64 n5))] = (
 bif (decide (n5 < (l3.length : Int))) then (
 tst (decide (0 ≤ n5)) (
 look l3 (Int.toNat n5) fun r6 =>
 cS r6 0 fun s7 =>
 cI .i64 r6 1 fun n8 =>
 tst (decide (0 ≤ n5)) (
 look l4 (Int.toNat n5) fun r9 =>
 cS r9 0 fun s10 =>
 cI .i64 r9 1 fun n11 =>
 callT T 296 [(.g [(.v (.string s7)), (.v (.int .i64 n8))]), (.g [(.v (.string s10)), (.v (.int .i64 n11))])] fun o12 =>
 oD o12.res fun d13 =>
 dB d13 fun b14 =>
 bif (!b14) then (
 some (.ret, [(.v (.bool false))])) else (
 l203x0 T k n [(.fz 2 l3), (.fz 2 l4), (.v (.int .i64 (IntKind.wrap .i64 (n5 + 1))))])))) else (
 some ((.exit 0), []))) := by kernel_rfl
theorem a203q (T : Table) (k : Nat) (l1 : Rows) (l2 : Rows) : evalF T k a203 [(.d (.s 2 l1)), (.d (.s 2 l2))] = (
 bif ((l1.length : Int) != (l2.length : Int)) then (
 some ⟨(.d (.v (.bool false))), []⟩) else (
 aft (l203x0 T k k [(.fz 2 l1), (.fz 2 l2), (.v (.int .i64 0))]) fun e15 ys16 =>
 bif e15.same .ret then (
 aV ys16 0 fun x17 =>
 aB x17 fun b18 =>
 some ⟨(.d (.v (.bool b18))), []⟩) else (
 bif e15.same (.exit 0) then (
 some ⟨(.d (.v (.bool true))), []⟩) else (
 none)))) := by kernel_rfl
/- loop.example/g00119/laws.eqWant -/

def a94 : AFun := ⟨[.rd, .rd], false, [.t 4], (
  .seq (.reg false [⟨some 2, .box (.t 0), none⟩,
    ⟨some 3, .box (.t 1), none⟩,
    ⟨some 4, .mv (.c (.v (.bool false))), none⟩]) (
  .seq (.seq (.reg false [⟨some 5, .fad 0 (.t 2), none⟩,
    ⟨some 6, .load false [(.i .i64)] (.t 5), none⟩,
    ⟨some 7, .fad 0 (.t 3), none⟩,
    ⟨some 8, .load false [(.i .i64)] (.t 7), none⟩,
    ⟨some 9, .bin .neq (.t 6) (.t 8), none⟩]) (
  .cond (.t 9) (.seq (.reg false [⟨some 4, .mv (.c (.v (.bool false))), none⟩]) (
    .ret)) (.skip))) (
  .seq (.seq (.reg false [⟨some 10, .fad 1 (.t 2), none⟩,
    ⟨some 11, .load false [(.sl 3)] (.t 10), none⟩,
    ⟨some 12, .fad 1 (.t 3), none⟩,
    ⟨some 13, .load false [(.sl 3)] (.t 12), none⟩,
    ⟨some 14, .call (.f 202) [.rd, .rd] false [.c .b] [(.t 11), (.t 13)], none⟩,
    ⟨some 15, .un .not (.t 14), none⟩]) (
  .cond (.t 15) (.seq (.reg false [⟨some 4, .mv (.c (.v (.bool false))), none⟩]) (
    .ret)) (.skip))) (
  .seq (.seq (.reg false [⟨some 16, .fad 2 (.t 2), none⟩,
    ⟨some 17, .load false [(.sl 1)] (.t 16), none⟩,
    ⟨some 18, .fad 2 (.t 3), none⟩,
    ⟨some 19, .load false [(.sl 1)] (.t 18), none⟩,
    ⟨some 20, .call (.f 62) [.rd, .rd] false [.c .b] [(.t 17), (.t 19)], none⟩,
    ⟨some 21, .un .not (.t 20), none⟩]) (
  .cond (.t 21) (.seq (.reg false [⟨some 4, .mv (.c (.v (.bool false))), none⟩]) (
    .ret)) (.skip))) (
  .seq (.seq (.reg false [⟨some 22, .fad 3 (.t 2), none⟩,
    ⟨some 23, .load false [(.sl 2)] (.t 22), none⟩,
    ⟨some 24, .fad 3 (.t 3), none⟩,
    ⟨some 25, .load false [(.sl 2)] (.t 24), none⟩,
    ⟨some 26, .call (.f 203) [.rd, .rd] false [.c .b] [(.t 23), (.t 25)], none⟩,
    ⟨some 27, .un .not (.t 26), none⟩]) (
  .cond (.t 27) (.seq (.reg false [⟨some 4, .mv (.c (.v (.bool false))), none⟩]) (
    .ret)) (.skip))) (
  .seq (.reg false [⟨some 4, .mv (.c (.v (.bool true))), none⟩]) (
  .ret)))))))⟩

theorem a94q (T : Table) (k : Nat) (n1 : Int) (l2 : Rows) (l3 : Rows) (l4 : Rows) (n5 : Int) (l6 : Rows) (l7 : Rows) (l8 : Rows) : evalF T k a94 [(.g [(.v (.int .i64 n1)), (.s 3 l2), (.s 1 l3), (.s 2 l4)]), (.g [(.v (.int .i64 n5)), (.s 3 l6), (.s 1 l7), (.s 2 l8)])] = (
 bif (n1 != n5) then (
 some ⟨(.d (.v (.bool false))), []⟩) else (
 callT T 202 [(.d (.s 3 l2)), (.d (.s 3 l6))] fun o9 =>
 oD o9.res fun d10 =>
 dB d10 fun b11 =>
 bif (!b11) then (
 some ⟨(.d (.v (.bool false))), []⟩) else (
 callT T 62 [(.d (.s 1 l3)), (.d (.s 1 l7))] fun o12 =>
 oD o12.res fun d13 =>
 dB d13 fun b14 =>
 bif (!b14) then (
 some ⟨(.d (.v (.bool false))), []⟩) else (
 callT T 203 [(.d (.s 2 l4)), (.d (.s 2 l8))] fun o15 =>
 oD o15.res fun d16 =>
 dB d16 fun b17 =>
 bif (!b17) then (
 some ⟨(.d (.v (.bool false))), []⟩) else (
 some ⟨(.d (.v (.bool true))), []⟩))))) := by kernel_rfl
/- loop.example/g00119/laws.eqOp -/

def a356 : AFun := ⟨[.rd, .rd], false, [.t 4], (
  .seq (.reg false [⟨some 2, .box (.t 0), none⟩,
    ⟨some 3, .box (.t 1), none⟩,
    ⟨some 4, .mv (.c (.v (.bool false))), none⟩]) (
  .seq (.seq (.reg false [⟨some 5, .fad 0 (.t 2), none⟩,
    ⟨some 6, .load false [(.i .i64)] (.t 5), none⟩,
    ⟨some 7, .fad 0 (.t 3), none⟩,
    ⟨some 8, .load false [(.i .i64)] (.t 7), none⟩,
    ⟨some 9, .bin .neq (.t 6) (.t 8), none⟩]) (
  .cond (.t 9) (.seq (.reg false [⟨some 4, .mv (.c (.v (.bool false))), none⟩]) (
    .ret)) (.skip))) (
  .seq (.seq (.reg false [⟨some 10, .fad 1 (.t 2), none⟩,
    ⟨some 11, .load false [(.sl 1)] (.t 10), none⟩,
    ⟨some 12, .fad 1 (.t 3), none⟩,
    ⟨some 13, .load false [(.sl 1)] (.t 12), none⟩,
    ⟨some 14, .call (.f 62) [.rd, .rd] false [.c .b] [(.t 11), (.t 13)], none⟩,
    ⟨some 15, .un .not (.t 14), none⟩]) (
  .cond (.t 15) (.seq (.reg false [⟨some 4, .mv (.c (.v (.bool false))), none⟩]) (
    .ret)) (.skip))) (
  .seq (.seq (.reg false [⟨some 16, .fad 2 (.t 2), none⟩,
    ⟨some 17, .load true [(.i .i64), .s, (.i .i64), (.sl 1), (.sl 5)] (.t 16), none⟩,
    ⟨some 18, .fad 2 (.t 3), none⟩,
    ⟨some 19, .load true [(.i .i64), .s, (.i .i64), (.sl 1), (.sl 5)] (.t 18), none⟩,
    ⟨some 20, .call (.f 95) [.rd, .rd] false [.c .b] [(.t 17), (.t 19)], none⟩,
    ⟨some 21, .un .not (.t 20), none⟩]) (
  .cond (.t 21) (.seq (.reg false [⟨some 4, .mv (.c (.v (.bool false))), none⟩]) (
    .ret)) (.skip))) (
  .seq (.reg false [⟨some 4, .mv (.c (.v (.bool true))), none⟩]) (
  .ret))))))⟩

theorem a356q (T : Table) (k : Nat) (n1 : Int) (l2 : Rows) (n3 : Int) (s4 : ByteArray) (n5 : Int) (l6 : Rows) (l7 : Rows) (n8 : Int) (l9 : Rows) (n10 : Int) (s11 : ByteArray) (n12 : Int) (l13 : Rows) (l14 : Rows) : evalF T k a356 [(.g [(.v (.int .i64 n1)), (.s 1 l2), (.v (.int .i64 n3)), (.v (.string s4)), (.v (.int .i64 n5)), (.s 1 l6), (.s 5 l7)]), (.g [(.v (.int .i64 n8)), (.s 1 l9), (.v (.int .i64 n10)), (.v (.string s11)), (.v (.int .i64 n12)), (.s 1 l13), (.s 5 l14)])] = (
 bif (n1 != n8) then (
 some ⟨(.d (.v (.bool false))), []⟩) else (
 callT T 62 [(.d (.s 1 l2)), (.d (.s 1 l9))] fun o15 =>
 oD o15.res fun d16 =>
 dB d16 fun b17 =>
 bif (!b17) then (
 some ⟨(.d (.v (.bool false))), []⟩) else (
 callT T 95 [(.g [(.v (.int .i64 n3)), (.v (.string s4)), (.v (.int .i64 n5)), (.s 1 l6), (.s 5 l7)]), (.g [(.v (.int .i64 n10)), (.v (.string s11)), (.v (.int .i64 n12)), (.s 1 l13), (.s 5 l14)])] fun o18 =>
 oD o18.res fun d19 =>
 dB d19 fun b20 =>
 bif (!b20) then (
 some ⟨(.d (.v (.bool false))), []⟩) else (
 some ⟨(.d (.v (.bool true))), []⟩)))) := by kernel_rfl
/- loop.example/g00119/laws.eqOpS -/
def b297x0 : ACode := (
  .seq (.seq (.reg false [⟨some 11, .mv (.t 5), none⟩,
    ⟨some 12, .mv (.t 0), none⟩,
    ⟨some 13, .len false (.t 12), none⟩,
    ⟨some 14, .bin .lss (.t 11) (.t 13), none⟩]) (
  .cond (.t 14) (.skip) (.exit 0))) (
  .seq (.block 1 (.seq (.dreg [] [(0, ⟨some 17, .mv (.t 0), none⟩),
      (0, ⟨some 18, .mv (.t 5), none⟩),
      (0, ⟨some 19, .iad 7 (.t 17) (.t 18), none⟩),
      (0, ⟨some 20, .load true [(.i .i64), (.sl 1), (.i .i64), .s, (.i .i64), (.sl 1), (.sl 5)] (.t 19), none⟩),
      (0, ⟨some 21, .mv (.t 1), none⟩),
      (0, ⟨some 22, .mv (.t 5), none⟩),
      (0, ⟨some 23, .iad 7 (.t 21) (.t 22), none⟩),
      (0, ⟨some 24, .load true [(.i .i64), (.sl 1), (.i .i64), .s, (.i .i64), (.sl 1), (.sl 5)] (.t 23), none⟩)] [⟨some 25, .call (.f 356) [.rd, .rd] false [.c .b] [(.t 20), (.t 24)], none⟩,
      ⟨some 26, .un .not (.t 25), none⟩]) (
    .cond (.t 26) (.seq (.reg false [⟨some 4, .mv (.c (.v (.bool false))), none⟩]) (
      .ret)) (.skip)))) (
  .reg false [⟨some 15, .mv (.t 5), none⟩,
    ⟨some 16, .bin .add (.t 15) (.c (.v (.int .i64 1))), none⟩,
    ⟨some 5, .mv (.t 16), none⟩])))
def e297x0 : Exits := [(.ret, [(4, .c .b)]), ((.exit 0), [])]
noncomputable def l297x0 (T : Table) (k : Nat) := loopN (evalC ⟨T, []⟩ k b297x0 (Ex × List AV)) [0, 1, 5] e297x0
def a297 : AFun := ⟨[.rd, .rd], false, [.t 4], (
  .seq (.reg false [⟨some 4, .mv (.c (.v (.bool false))), none⟩]) (
  .seq (.seq (.reg false [⟨some 6, .mv (.t 0), none⟩,
    ⟨some 7, .len false (.t 6), none⟩,
    ⟨some 8, .mv (.t 1), none⟩,
    ⟨some 9, .len false (.t 8), none⟩,
    ⟨some 10, .bin .neq (.t 7) (.t 9), none⟩]) (
  .cond (.t 10) (.seq (.reg false [⟨some 4, .mv (.c (.v (.bool false))), none⟩]) (
    .ret)) (.skip))) (
  .seq (.seq (.reg false [⟨some 5, .mv (.c (.v (.int .i64 0))), none⟩]) (
  .block 0 (.loop [0, 1, 5] e297x0 b297x0))) (
  .seq (.reg false [⟨some 4, .mv (.c (.v (.bool true))), none⟩]) (
  .ret)))))⟩
theorem l297x0s (T : Table) (k n : Nat) (l3 : Rows) (l4 : Rows) (n5 : Int) : l297x0 T k (n + 1) [(.fz 7 l3), (.fz 7 l4), (.v (.int .i64 n5))] = (
 bif (decide (n5 < (l3.length : Int))) then (
 tst (decide (0 ≤ n5)) (
 look l3 (Int.toNat n5) fun r6 =>
 cI .i64 r6 0 fun n7 =>
 cL 1 r6 1 fun l8 =>
 cI .i64 r6 2 fun n9 =>
 cS r6 3 fun s10 =>
 cI .i64 r6 4 fun n11 =>
 cL 1 r6 5 fun l12 =>
 cL 5 r6 6 fun l13 =>
 tst (decide (0 ≤ n5)) (
 look l4 (Int.toNat n5) fun r14 =>
 cI .i64 r14 0 fun n15 =>
 cL 1 r14 1 fun l16 =>
 cI .i64 r14 2 fun n17 =>
 cS r14 3 fun s18 =>
 cI .i64 r14 4 fun n19 =>
 cL 1 r14 5 fun l20 =>
 cL 5 r14 6 fun l21 =>
 callT T 356 [(.g [(.v (.int .i64 n7)), (.s 1 l8), (.v (.int .i64 n9)), (.v (.string s10)), (.v (.int .i64 n11)), (.s 1 l12), (.s 5 l13)]), (.g [(.v (.int .i64 n15)), (.s 1 l16), (.v (.int .i64 n17)), (.v (.string s18)), (.v (.int .i64 n19)), (.s 1 l20), (.s 5 l21)])] fun o22 =>
 oD o22.res fun d23 =>
 dB d23 fun b24 =>
 bif (!b24) then (
 some (.ret, [(.v (.bool false))])) else (
 l297x0 T k n [(.fz 7 l3), (.fz 7 l4), (.v (.int .i64 (IntKind.wrap .i64 (n5 + 1))))])))) else (
 some ((.exit 0), []))) := by kernel_rfl
theorem a297q (T : Table) (k : Nat) (l1 : Rows) (l2 : Rows) : evalF T k a297 [(.d (.s 7 l1)), (.d (.s 7 l2))] = (
 bif ((l1.length : Int) != (l2.length : Int)) then (
 some ⟨(.d (.v (.bool false))), []⟩) else (
 aft (l297x0 T k k [(.fz 7 l1), (.fz 7 l2), (.v (.int .i64 0))]) fun e25 ys26 =>
 bif e25.same .ret then (
 aV ys26 0 fun x27 =>
 aB x27 fun b28 =>
 some ⟨(.d (.v (.bool b28))), []⟩) else (
 bif e25.same (.exit 0) then (
 some ⟨(.d (.v (.bool true))), []⟩) else (
 none)))) := by kernel_rfl
/- loop.example/g00119/laws.eqOver -/

def a205 : AFun := ⟨[.rd, .rd], false, [.t 4], (
  .seq (.reg false [⟨some 2, .box (.t 0), none⟩,
    ⟨some 3, .box (.t 1), none⟩,
    ⟨some 4, .mv (.c (.v (.bool false))), none⟩]) (
  .seq (.seq (.reg false [⟨some 5, .fad 0 (.t 2), none⟩,
    ⟨some 6, .load false [.s] (.t 5), none⟩,
    ⟨some 7, .fad 0 (.t 3), none⟩,
    ⟨some 8, .load false [.s] (.t 7), none⟩,
    ⟨some 9, .bin .neq (.t 6) (.t 8), none⟩]) (
  .cond (.t 9) (.seq (.reg false [⟨some 4, .mv (.c (.v (.bool false))), none⟩]) (
    .ret)) (.skip))) (
  .seq (.seq (.reg false [⟨some 10, .fad 1 (.t 2), none⟩,
    ⟨some 11, .load false [(.sl 7)] (.t 10), none⟩,
    ⟨some 12, .fad 1 (.t 3), none⟩,
    ⟨some 13, .load false [(.sl 7)] (.t 12), none⟩,
    ⟨some 14, .call (.f 297) [.rd, .rd] false [.c .b] [(.t 11), (.t 13)], none⟩,
    ⟨some 15, .un .not (.t 14), none⟩]) (
  .cond (.t 15) (.seq (.reg false [⟨some 4, .mv (.c (.v (.bool false))), none⟩]) (
    .ret)) (.skip))) (
  .seq (.reg false [⟨some 4, .mv (.c (.v (.bool true))), none⟩]) (
  .ret)))))⟩

theorem a205q (T : Table) (k : Nat) (s1 : ByteArray) (l2 : Rows) (s3 : ByteArray) (l4 : Rows) : evalF T k a205 [(.g [(.v (.string s1)), (.s 7 l2)]), (.g [(.v (.string s3)), (.s 7 l4)])] = (
 bif (!(bytesEq s1 s3)) then (
 some ⟨(.d (.v (.bool false))), []⟩) else (
 callT T 297 [(.d (.s 7 l2)), (.d (.s 7 l4))] fun o5 =>
 oD o5.res fun d6 =>
 dB d6 fun b7 =>
 bif (!b7) then (
 some ⟨(.d (.v (.bool false))), []⟩) else (
 some ⟨(.d (.v (.bool true))), []⟩))) := by kernel_rfl
/- loop.example/g00119/laws.eqOverS -/
def b96x0 : ACode := (
  .seq (.seq (.reg false [⟨some 11, .mv (.t 5), none⟩,
    ⟨some 12, .mv (.t 0), none⟩,
    ⟨some 13, .len false (.t 12), none⟩,
    ⟨some 14, .bin .lss (.t 11) (.t 13), none⟩]) (
  .cond (.t 14) (.skip) (.exit 0))) (
  .seq (.block 1 (.seq (.dreg [] [(0, ⟨some 17, .mv (.t 0), none⟩),
      (0, ⟨some 18, .mv (.t 5), none⟩),
      (0, ⟨some 19, .iad 2 (.t 17) (.t 18), none⟩),
      (0, ⟨some 20, .load true [.s, (.sl 7)] (.t 19), none⟩),
      (0, ⟨some 21, .mv (.t 1), none⟩),
      (0, ⟨some 22, .mv (.t 5), none⟩),
      (0, ⟨some 23, .iad 2 (.t 21) (.t 22), none⟩),
      (0, ⟨some 24, .load true [.s, (.sl 7)] (.t 23), none⟩)] [⟨some 25, .call (.f 205) [.rd, .rd] false [.c .b] [(.t 20), (.t 24)], none⟩,
      ⟨some 26, .un .not (.t 25), none⟩]) (
    .cond (.t 26) (.seq (.reg false [⟨some 4, .mv (.c (.v (.bool false))), none⟩]) (
      .ret)) (.skip)))) (
  .reg false [⟨some 15, .mv (.t 5), none⟩,
    ⟨some 16, .bin .add (.t 15) (.c (.v (.int .i64 1))), none⟩,
    ⟨some 5, .mv (.t 16), none⟩])))
def e96x0 : Exits := [(.ret, [(4, .c .b)]), ((.exit 0), [])]
noncomputable def l96x0 (T : Table) (k : Nat) := loopN (evalC ⟨T, []⟩ k b96x0 (Ex × List AV)) [0, 1, 5] e96x0
def a96 : AFun := ⟨[.rd, .rd], false, [.t 4], (
  .seq (.reg false [⟨some 4, .mv (.c (.v (.bool false))), none⟩]) (
  .seq (.seq (.reg false [⟨some 6, .mv (.t 0), none⟩,
    ⟨some 7, .len false (.t 6), none⟩,
    ⟨some 8, .mv (.t 1), none⟩,
    ⟨some 9, .len false (.t 8), none⟩,
    ⟨some 10, .bin .neq (.t 7) (.t 9), none⟩]) (
  .cond (.t 10) (.seq (.reg false [⟨some 4, .mv (.c (.v (.bool false))), none⟩]) (
    .ret)) (.skip))) (
  .seq (.seq (.reg false [⟨some 5, .mv (.c (.v (.int .i64 0))), none⟩]) (
  .block 0 (.loop [0, 1, 5] e96x0 b96x0))) (
  .seq (.reg false [⟨some 4, .mv (.c (.v (.bool true))), none⟩]) (
  .ret)))))⟩
theorem l96x0s (T : Table) (k n : Nat) (l3 : Rows) (l4 : Rows) (n5 : Int) : l96x0 T k (n + 1) [(.fz 2 l3), (.fz 2 l4), (.v (.int .i64 n5))] = (
 bif (decide (n5 < (l3.length : Int))) then (
 tst (decide (0 ≤ n5)) (
 look l3 (Int.toNat n5) fun r6 =>
 cS r6 0 fun s7 =>
 cL 7 r6 1 fun l8 =>
 tst (decide (0 ≤ n5)) (
 look l4 (Int.toNat n5) fun r9 =>
 cS r9 0 fun s10 =>
 cL 7 r9 1 fun l11 =>
 callT T 205 [(.g [(.v (.string s7)), (.s 7 l8)]), (.g [(.v (.string s10)), (.s 7 l11)])] fun o12 =>
 oD o12.res fun d13 =>
 dB d13 fun b14 =>
 bif (!b14) then (
 some (.ret, [(.v (.bool false))])) else (
 l96x0 T k n [(.fz 2 l3), (.fz 2 l4), (.v (.int .i64 (IntKind.wrap .i64 (n5 + 1))))])))) else (
 some ((.exit 0), []))) := by kernel_rfl
theorem a96q (T : Table) (k : Nat) (l1 : Rows) (l2 : Rows) : evalF T k a96 [(.d (.s 2 l1)), (.d (.s 2 l2))] = (
 bif ((l1.length : Int) != (l2.length : Int)) then (
 some ⟨(.d (.v (.bool false))), []⟩) else (
 aft (l96x0 T k k [(.fz 2 l1), (.fz 2 l2), (.v (.int .i64 0))]) fun e15 ys16 =>
 bif e15.same .ret then (
 aV ys16 0 fun x17 =>
 aB x17 fun b18 =>
 some ⟨(.d (.v (.bool b18))), []⟩) else (
 bif e15.same (.exit 0) then (
 some ⟨(.d (.v (.bool true))), []⟩) else (
 none)))) := by kernel_rfl
/- loop.example/g00119/laws.eqJob -/

def a164 : AFun := ⟨[.rd, .rd], false, [.t 4], (
  .seq (.reg false [⟨some 2, .box (.t 0), none⟩,
    ⟨some 3, .box (.t 1), none⟩,
    ⟨some 4, .mv (.c (.v (.bool false))), none⟩]) (
  .seq (.seq (.reg false [⟨some 5, .fad 0 (.t 2), none⟩,
    ⟨some 6, .load false [(.i .i64)] (.t 5), none⟩,
    ⟨some 7, .fad 0 (.t 3), none⟩,
    ⟨some 8, .load false [(.i .i64)] (.t 7), none⟩,
    ⟨some 9, .bin .neq (.t 6) (.t 8), none⟩]) (
  .cond (.t 9) (.seq (.reg false [⟨some 4, .mv (.c (.v (.bool false))), none⟩]) (
    .ret)) (.skip))) (
  .seq (.seq (.reg false [⟨some 10, .fad 1 (.t 2), none⟩,
    ⟨some 11, .load false [.s] (.t 10), none⟩,
    ⟨some 12, .fad 1 (.t 3), none⟩,
    ⟨some 13, .load false [.s] (.t 12), none⟩,
    ⟨some 14, .bin .neq (.t 11) (.t 13), none⟩]) (
  .cond (.t 14) (.seq (.reg false [⟨some 4, .mv (.c (.v (.bool false))), none⟩]) (
    .ret)) (.skip))) (
  .seq (.seq (.reg false [⟨some 15, .fad 2 (.t 2), none⟩,
    ⟨some 16, .load true [(.i .i64), (.sl 3), (.sl 1), (.sl 2)] (.t 15), none⟩,
    ⟨some 17, .fad 2 (.t 3), none⟩,
    ⟨some 18, .load true [(.i .i64), (.sl 3), (.sl 1), (.sl 2)] (.t 17), none⟩,
    ⟨some 19, .call (.f 94) [.rd, .rd] false [.c .b] [(.t 16), (.t 18)], none⟩,
    ⟨some 20, .un .not (.t 19), none⟩]) (
  .cond (.t 20) (.seq (.reg false [⟨some 4, .mv (.c (.v (.bool false))), none⟩]) (
    .ret)) (.skip))) (
  .seq (.seq (.reg false [⟨some 21, .fad 6 (.t 2), none⟩,
    ⟨some 22, .load true [(.i .i64), .s, (.i .i64), (.sl 1), (.sl 5)] (.t 21), none⟩,
    ⟨some 23, .fad 6 (.t 3), none⟩,
    ⟨some 24, .load true [(.i .i64), .s, (.i .i64), (.sl 1), (.sl 5)] (.t 23), none⟩,
    ⟨some 25, .call (.f 95) [.rd, .rd] false [.c .b] [(.t 22), (.t 24)], none⟩,
    ⟨some 26, .un .not (.t 25), none⟩]) (
  .cond (.t 26) (.seq (.reg false [⟨some 4, .mv (.c (.v (.bool false))), none⟩]) (
    .ret)) (.skip))) (
  .seq (.seq (.reg false [⟨some 27, .fad 11 (.t 2), none⟩,
    ⟨some 28, .load false [(.sl 2)] (.t 27), none⟩,
    ⟨some 29, .fad 11 (.t 3), none⟩,
    ⟨some 30, .load false [(.sl 2)] (.t 29), none⟩,
    ⟨some 31, .call (.f 96) [.rd, .rd] false [.c .b] [(.t 28), (.t 30)], none⟩,
    ⟨some 32, .un .not (.t 31), none⟩]) (
  .cond (.t 32) (.seq (.reg false [⟨some 4, .mv (.c (.v (.bool false))), none⟩]) (
    .ret)) (.skip))) (
  .seq (.seq (.reg false [⟨some 33, .fad 12 (.t 2), none⟩,
    ⟨some 34, .load false [.b] (.t 33), none⟩,
    ⟨some 35, .fad 12 (.t 3), none⟩,
    ⟨some 36, .load false [.b] (.t 35), none⟩,
    ⟨some 37, .beq true (.t 34) (.t 36), none⟩]) (
  .cond (.t 37) (.seq (.reg false [⟨some 4, .mv (.c (.v (.bool false))), none⟩]) (
    .ret)) (.skip))) (
  .seq (.reg false [⟨some 4, .mv (.c (.v (.bool true))), none⟩]) (
  .ret)))))))))⟩

theorem a164q (T : Table) (k : Nat) (n1 : Int) (s2 : ByteArray) (n3 : Int) (l4 : Rows) (l5 : Rows) (l6 : Rows) (n7 : Int) (s8 : ByteArray) (n9 : Int) (l10 : Rows) (l11 : Rows) (l12 : Rows) (b13 : Bool) (n14 : Int) (s15 : ByteArray) (n16 : Int) (l17 : Rows) (l18 : Rows) (l19 : Rows) (n20 : Int) (s21 : ByteArray) (n22 : Int) (l23 : Rows) (l24 : Rows) (l25 : Rows) (b26 : Bool) : evalF T k a164 [(.g [(.v (.int .i64 n1)), (.v (.string s2)), (.v (.int .i64 n3)), (.s 3 l4), (.s 1 l5), (.s 2 l6), (.v (.int .i64 n7)), (.v (.string s8)), (.v (.int .i64 n9)), (.s 1 l10), (.s 5 l11), (.s 2 l12), (.v (.bool b13))]), (.g [(.v (.int .i64 n14)), (.v (.string s15)), (.v (.int .i64 n16)), (.s 3 l17), (.s 1 l18), (.s 2 l19), (.v (.int .i64 n20)), (.v (.string s21)), (.v (.int .i64 n22)), (.s 1 l23), (.s 5 l24), (.s 2 l25), (.v (.bool b26))])] = (
 bif (n1 != n14) then (
 some ⟨(.d (.v (.bool false))), []⟩) else (
 bif (!(bytesEq s2 s15)) then (
 some ⟨(.d (.v (.bool false))), []⟩) else (
 callT T 94 [(.g [(.v (.int .i64 n3)), (.s 3 l4), (.s 1 l5), (.s 2 l6)]), (.g [(.v (.int .i64 n16)), (.s 3 l17), (.s 1 l18), (.s 2 l19)])] fun o27 =>
 oD o27.res fun d28 =>
 dB d28 fun b29 =>
 bif (!b29) then (
 some ⟨(.d (.v (.bool false))), []⟩) else (
 callT T 95 [(.g [(.v (.int .i64 n7)), (.v (.string s8)), (.v (.int .i64 n9)), (.s 1 l10), (.s 5 l11)]), (.g [(.v (.int .i64 n20)), (.v (.string s21)), (.v (.int .i64 n22)), (.s 1 l23), (.s 5 l24)])] fun o30 =>
 oD o30.res fun d31 =>
 dB d31 fun b32 =>
 bif (!b32) then (
 some ⟨(.d (.v (.bool false))), []⟩) else (
 callT T 96 [(.d (.s 2 l12)), (.d (.s 2 l25))] fun o33 =>
 oD o33.res fun d34 =>
 dB d34 fun b35 =>
 bif (!b35) then (
 some ⟨(.d (.v (.bool false))), []⟩) else (
 bif (b13 != b26) then (
 some ⟨(.d (.v (.bool false))), []⟩) else (
 some ⟨(.d (.v (.bool true))), []⟩))))))) := by kernel_rfl
/- loop.example/g00119/laws.eqJobS -/
def b59x0 : ACode := (
  .seq (.seq (.reg false [⟨some 11, .mv (.t 5), none⟩,
    ⟨some 12, .mv (.t 0), none⟩,
    ⟨some 13, .len false (.t 12), none⟩,
    ⟨some 14, .bin .lss (.t 11) (.t 13), none⟩]) (
  .cond (.t 14) (.skip) (.exit 0))) (
  .seq (.block 1 (.seq (.dreg [] [(0, ⟨some 17, .mv (.t 0), none⟩),
      (0, ⟨some 18, .mv (.t 5), none⟩),
      (0, ⟨some 19, .iad 13 (.t 17) (.t 18), none⟩),
      (0, ⟨some 20, .load true [(.i .i64), .s, (.i .i64), (.sl 3), (.sl 1), (.sl 2), (.i .i64), .s, (.i .i64), (.sl 1), (.sl 5), (.sl 2), .b] (.t 19), none⟩),
      (0, ⟨some 21, .mv (.t 1), none⟩),
      (0, ⟨some 22, .mv (.t 5), none⟩),
      (0, ⟨some 23, .iad 13 (.t 21) (.t 22), none⟩),
      (0, ⟨some 24, .load true [(.i .i64), .s, (.i .i64), (.sl 3), (.sl 1), (.sl 2), (.i .i64), .s, (.i .i64), (.sl 1), (.sl 5), (.sl 2), .b] (.t 23), none⟩)] [⟨some 25, .call (.f 164) [.rd, .rd] false [.c .b] [(.t 20), (.t 24)], none⟩,
      ⟨some 26, .un .not (.t 25), none⟩]) (
    .cond (.t 26) (.seq (.reg false [⟨some 4, .mv (.c (.v (.bool false))), none⟩]) (
      .ret)) (.skip)))) (
  .reg false [⟨some 15, .mv (.t 5), none⟩,
    ⟨some 16, .bin .add (.t 15) (.c (.v (.int .i64 1))), none⟩,
    ⟨some 5, .mv (.t 16), none⟩])))
def e59x0 : Exits := [(.ret, [(4, .c .b)]), ((.exit 0), [])]
noncomputable def l59x0 (T : Table) (k : Nat) := loopN (evalC ⟨T, []⟩ k b59x0 (Ex × List AV)) [0, 1, 5] e59x0
def a59 : AFun := ⟨[.rd, .rd], false, [.t 4], (
  .seq (.reg false [⟨some 4, .mv (.c (.v (.bool false))), none⟩]) (
  .seq (.seq (.reg false [⟨some 6, .mv (.t 0), none⟩,
    ⟨some 7, .len false (.t 6), none⟩,
    ⟨some 8, .mv (.t 1), none⟩,
    ⟨some 9, .len false (.t 8), none⟩,
    ⟨some 10, .bin .neq (.t 7) (.t 9), none⟩]) (
  .cond (.t 10) (.seq (.reg false [⟨some 4, .mv (.c (.v (.bool false))), none⟩]) (
    .ret)) (.skip))) (
  .seq (.seq (.reg false [⟨some 5, .mv (.c (.v (.int .i64 0))), none⟩]) (
  .block 0 (.loop [0, 1, 5] e59x0 b59x0))) (
  .seq (.reg false [⟨some 4, .mv (.c (.v (.bool true))), none⟩]) (
  .ret)))))⟩
theorem l59x0s (T : Table) (k n : Nat) (l3 : Rows) (l4 : Rows) (n5 : Int) : l59x0 T k (n + 1) [(.fz 13 l3), (.fz 13 l4), (.v (.int .i64 n5))] = (
 bif (decide (n5 < (l3.length : Int))) then (
 tst (decide (0 ≤ n5)) (
 look l3 (Int.toNat n5) fun r6 =>
 cI .i64 r6 0 fun n7 =>
 cS r6 1 fun s8 =>
 cI .i64 r6 2 fun n9 =>
 cL 3 r6 3 fun l10 =>
 cL 1 r6 4 fun l11 =>
 cL 2 r6 5 fun l12 =>
 cI .i64 r6 6 fun n13 =>
 cS r6 7 fun s14 =>
 cI .i64 r6 8 fun n15 =>
 cL 1 r6 9 fun l16 =>
 cL 5 r6 10 fun l17 =>
 cL 2 r6 11 fun l18 =>
 cB r6 12 fun b19 =>
 tst (decide (0 ≤ n5)) (
 look l4 (Int.toNat n5) fun r20 =>
 cI .i64 r20 0 fun n21 =>
 cS r20 1 fun s22 =>
 cI .i64 r20 2 fun n23 =>
 cL 3 r20 3 fun l24 =>
 cL 1 r20 4 fun l25 =>
 cL 2 r20 5 fun l26 =>
 cI .i64 r20 6 fun n27 =>
 cS r20 7 fun s28 =>
 cI .i64 r20 8 fun n29 =>
 cL 1 r20 9 fun l30 =>
 cL 5 r20 10 fun l31 =>
 cL 2 r20 11 fun l32 =>
 cB r20 12 fun b33 =>
 callT T 164 [(.g [(.v (.int .i64 n7)), (.v (.string s8)), (.v (.int .i64 n9)), (.s 3 l10), (.s 1 l11), (.s 2 l12), (.v (.int .i64 n13)), (.v (.string s14)), (.v (.int .i64 n15)), (.s 1 l16), (.s 5 l17), (.s 2 l18), (.v (.bool b19))]), (.g [(.v (.int .i64 n21)), (.v (.string s22)), (.v (.int .i64 n23)), (.s 3 l24), (.s 1 l25), (.s 2 l26), (.v (.int .i64 n27)), (.v (.string s28)), (.v (.int .i64 n29)), (.s 1 l30), (.s 5 l31), (.s 2 l32), (.v (.bool b33))])] fun o34 =>
 oD o34.res fun d35 =>
 dB d35 fun b36 =>
 bif (!b36) then (
 some (.ret, [(.v (.bool false))])) else (
 l59x0 T k n [(.fz 13 l3), (.fz 13 l4), (.v (.int .i64 (IntKind.wrap .i64 (n5 + 1))))])))) else (
 some ((.exit 0), []))) := by kernel_rfl
theorem a59q (T : Table) (k : Nat) (l1 : Rows) (l2 : Rows) : evalF T k a59 [(.d (.s 13 l1)), (.d (.s 13 l2))] = (
 bif ((l1.length : Int) != (l2.length : Int)) then (
 some ⟨(.d (.v (.bool false))), []⟩) else (
 aft (l59x0 T k k [(.fz 13 l1), (.fz 13 l2), (.v (.int .i64 0))]) fun e37 ys38 =>
 bif e37.same .ret then (
 aV ys38 0 fun x39 =>
 aB x39 fun b40 =>
 some ⟨(.d (.v (.bool b40))), []⟩) else (
 bif e37.same (.exit 0) then (
 some ⟨(.d (.v (.bool true))), []⟩) else (
 none)))) := by kernel_rfl
/- loop.example/g00119/laws.eqLabel -/

def a298 : AFun := ⟨[.rd, .rd], false, [.t 4], (
  .seq (.reg false [⟨some 2, .box (.t 0), none⟩,
    ⟨some 3, .box (.t 1), none⟩,
    ⟨some 4, .mv (.c (.v (.bool false))), none⟩]) (
  .seq (.seq (.reg false [⟨some 5, .fad 0 (.t 2), none⟩,
    ⟨some 6, .load false [.s] (.t 5), none⟩,
    ⟨some 7, .fad 0 (.t 3), none⟩,
    ⟨some 8, .load false [.s] (.t 7), none⟩,
    ⟨some 9, .bin .neq (.t 6) (.t 8), none⟩]) (
  .cond (.t 9) (.seq (.reg false [⟨some 4, .mv (.c (.v (.bool false))), none⟩]) (
    .ret)) (.skip))) (
  .seq (.seq (.reg false [⟨some 10, .fad 1 (.t 2), none⟩,
    ⟨some 11, .load false [.s] (.t 10), none⟩,
    ⟨some 12, .fad 1 (.t 3), none⟩,
    ⟨some 13, .load false [.s] (.t 12), none⟩,
    ⟨some 14, .bin .neq (.t 11) (.t 13), none⟩]) (
  .cond (.t 14) (.seq (.reg false [⟨some 4, .mv (.c (.v (.bool false))), none⟩]) (
    .ret)) (.skip))) (
  .seq (.reg false [⟨some 4, .mv (.c (.v (.bool true))), none⟩]) (
  .ret)))))⟩

theorem a298q (T : Table) (k : Nat) (s1 : ByteArray) (s2 : ByteArray) (s3 : ByteArray) (s4 : ByteArray) : evalF T k a298 [(.g [(.v (.string s1)), (.v (.string s2))]), (.g [(.v (.string s3)), (.v (.string s4))])] = (
 bif (!(bytesEq s1 s3)) then (
 some ⟨(.d (.v (.bool false))), []⟩) else (
 bif (!(bytesEq s2 s4)) then (
 some ⟨(.d (.v (.bool false))), []⟩) else (
 some ⟨(.d (.v (.bool true))), []⟩))) := by kernel_rfl
/- loop.example/g00119/laws.eqLabelS -/
def b206x0 : ACode := (
  .seq (.seq (.reg false [⟨some 11, .mv (.t 5), none⟩,
    ⟨some 12, .mv (.t 0), none⟩,
    ⟨some 13, .len false (.t 12), none⟩,
    ⟨some 14, .bin .lss (.t 11) (.t 13), none⟩]) (
  .cond (.t 14) (.skip) (.exit 0))) (
  .seq (.block 1 (.seq (.dreg [] [(0, ⟨some 17, .mv (.t 0), none⟩),
      (0, ⟨some 18, .mv (.t 5), none⟩),
      (0, ⟨some 19, .iad 2 (.t 17) (.t 18), none⟩),
      (0, ⟨some 20, .load true [.s, .s] (.t 19), none⟩),
      (0, ⟨some 21, .mv (.t 1), none⟩),
      (0, ⟨some 22, .mv (.t 5), none⟩),
      (0, ⟨some 23, .iad 2 (.t 21) (.t 22), none⟩),
      (0, ⟨some 24, .load true [.s, .s] (.t 23), none⟩)] [⟨some 25, .call (.f 298) [.rd, .rd] false [.c .b] [(.t 20), (.t 24)], none⟩,
      ⟨some 26, .un .not (.t 25), none⟩]) (
    .cond (.t 26) (.seq (.reg false [⟨some 4, .mv (.c (.v (.bool false))), none⟩]) (
      .ret)) (.skip)))) (
  .reg false [⟨some 15, .mv (.t 5), none⟩,
    ⟨some 16, .bin .add (.t 15) (.c (.v (.int .i64 1))), none⟩,
    ⟨some 5, .mv (.t 16), none⟩])))
def e206x0 : Exits := [(.ret, [(4, .c .b)]), ((.exit 0), [])]
noncomputable def l206x0 (T : Table) (k : Nat) := loopN (evalC ⟨T, []⟩ k b206x0 (Ex × List AV)) [0, 1, 5] e206x0
def a206 : AFun := ⟨[.rd, .rd], false, [.t 4], (
  .seq (.reg false [⟨some 4, .mv (.c (.v (.bool false))), none⟩]) (
  .seq (.seq (.reg false [⟨some 6, .mv (.t 0), none⟩,
    ⟨some 7, .len false (.t 6), none⟩,
    ⟨some 8, .mv (.t 1), none⟩,
    ⟨some 9, .len false (.t 8), none⟩,
    ⟨some 10, .bin .neq (.t 7) (.t 9), none⟩]) (
  .cond (.t 10) (.seq (.reg false [⟨some 4, .mv (.c (.v (.bool false))), none⟩]) (
    .ret)) (.skip))) (
  .seq (.seq (.reg false [⟨some 5, .mv (.c (.v (.int .i64 0))), none⟩]) (
  .block 0 (.loop [0, 1, 5] e206x0 b206x0))) (
  .seq (.reg false [⟨some 4, .mv (.c (.v (.bool true))), none⟩]) (
  .ret)))))⟩
theorem l206x0s (T : Table) (k n : Nat) (l3 : Rows) (l4 : Rows) (n5 : Int) : l206x0 T k (n + 1) [(.fz 2 l3), (.fz 2 l4), (.v (.int .i64 n5))] = (
 bif (decide (n5 < (l3.length : Int))) then (
 tst (decide (0 ≤ n5)) (
 look l3 (Int.toNat n5) fun r6 =>
 cS r6 0 fun s7 =>
 cS r6 1 fun s8 =>
 tst (decide (0 ≤ n5)) (
 look l4 (Int.toNat n5) fun r9 =>
 cS r9 0 fun s10 =>
 cS r9 1 fun s11 =>
 callT T 298 [(.g [(.v (.string s7)), (.v (.string s8))]), (.g [(.v (.string s10)), (.v (.string s11))])] fun o12 =>
 oD o12.res fun d13 =>
 dB d13 fun b14 =>
 bif (!b14) then (
 some (.ret, [(.v (.bool false))])) else (
 l206x0 T k n [(.fz 2 l3), (.fz 2 l4), (.v (.int .i64 (IntKind.wrap .i64 (n5 + 1))))])))) else (
 some ((.exit 0), []))) := by kernel_rfl
theorem a206q (T : Table) (k : Nat) (l1 : Rows) (l2 : Rows) : evalF T k a206 [(.d (.s 2 l1)), (.d (.s 2 l2))] = (
 bif ((l1.length : Int) != (l2.length : Int)) then (
 some ⟨(.d (.v (.bool false))), []⟩) else (
 aft (l206x0 T k k [(.fz 2 l1), (.fz 2 l2), (.v (.int .i64 0))]) fun e15 ys16 =>
 bif e15.same .ret then (
 aV ys16 0 fun x17 =>
 aB x17 fun b18 =>
 some ⟨(.d (.v (.bool b18))), []⟩) else (
 bif e15.same (.exit 0) then (
 some ⟨(.d (.v (.bool true))), []⟩) else (
 none)))) := by kernel_rfl
/- loop.example/g00119/laws.eqIsland -/

def a97 : AFun := ⟨[.rd, .rd], false, [.t 4], (
  .seq (.reg false [⟨some 2, .box (.t 0), none⟩,
    ⟨some 3, .box (.t 1), none⟩,
    ⟨some 4, .mv (.c (.v (.bool false))), none⟩]) (
  .seq (.seq (.reg false [⟨some 5, .fad 0 (.t 2), none⟩,
    ⟨some 6, .load false [.s] (.t 5), none⟩,
    ⟨some 7, .fad 0 (.t 3), none⟩,
    ⟨some 8, .load false [.s] (.t 7), none⟩,
    ⟨some 9, .bin .neq (.t 6) (.t 8), none⟩]) (
  .cond (.t 9) (.seq (.reg false [⟨some 4, .mv (.c (.v (.bool false))), none⟩]) (
    .ret)) (.skip))) (
  .seq (.seq (.reg false [⟨some 10, .fad 1 (.t 2), none⟩,
    ⟨some 11, .load false [(.sl 2)] (.t 10), none⟩,
    ⟨some 12, .fad 1 (.t 3), none⟩,
    ⟨some 13, .load false [(.sl 2)] (.t 12), none⟩,
    ⟨some 14, .call (.f 206) [.rd, .rd] false [.c .b] [(.t 11), (.t 13)], none⟩,
    ⟨some 15, .un .not (.t 14), none⟩]) (
  .cond (.t 15) (.seq (.reg false [⟨some 4, .mv (.c (.v (.bool false))), none⟩]) (
    .ret)) (.skip))) (
  .seq (.seq (.reg false [⟨some 16, .fad 2 (.t 2), none⟩,
    ⟨some 17, .load false [(.sl 1)] (.t 16), none⟩,
    ⟨some 18, .fad 2 (.t 3), none⟩,
    ⟨some 19, .load false [(.sl 1)] (.t 18), none⟩,
    ⟨some 20, .call (.f 62) [.rd, .rd] false [.c .b] [(.t 17), (.t 19)], none⟩,
    ⟨some 21, .un .not (.t 20), none⟩]) (
  .cond (.t 21) (.seq (.reg false [⟨some 4, .mv (.c (.v (.bool false))), none⟩]) (
    .ret)) (.skip))) (
  .seq (.seq (.reg false [⟨some 22, .fad 3 (.t 2), none⟩,
    ⟨some 23, .load false [(.i .i64)] (.t 22), none⟩,
    ⟨some 24, .fad 3 (.t 3), none⟩,
    ⟨some 25, .load false [(.i .i64)] (.t 24), none⟩,
    ⟨some 26, .bin .neq (.t 23) (.t 25), none⟩]) (
  .cond (.t 26) (.seq (.reg false [⟨some 4, .mv (.c (.v (.bool false))), none⟩]) (
    .ret)) (.skip))) (
  .seq (.reg false [⟨some 4, .mv (.c (.v (.bool true))), none⟩]) (
  .ret)))))))⟩

theorem a97q (T : Table) (k : Nat) (s1 : ByteArray) (l2 : Rows) (l3 : Rows) (n4 : Int) (s5 : ByteArray) (l6 : Rows) (l7 : Rows) (n8 : Int) : evalF T k a97 [(.g [(.v (.string s1)), (.s 2 l2), (.s 1 l3), (.v (.int .i64 n4))]), (.g [(.v (.string s5)), (.s 2 l6), (.s 1 l7), (.v (.int .i64 n8))])] = (
 bif (!(bytesEq s1 s5)) then (
 some ⟨(.d (.v (.bool false))), []⟩) else (
 callT T 206 [(.d (.s 2 l2)), (.d (.s 2 l6))] fun o9 =>
 oD o9.res fun d10 =>
 dB d10 fun b11 =>
 bif (!b11) then (
 some ⟨(.d (.v (.bool false))), []⟩) else (
 callT T 62 [(.d (.s 1 l3)), (.d (.s 1 l7))] fun o12 =>
 oD o12.res fun d13 =>
 dB d13 fun b14 =>
 bif (!b14) then (
 some ⟨(.d (.v (.bool false))), []⟩) else (
 bif (n4 != n8) then (
 some ⟨(.d (.v (.bool false))), []⟩) else (
 some ⟨(.d (.v (.bool true))), []⟩))))) := by kernel_rfl
/- loop.example/g00119/laws.eqPost -/

def a165 : AFun := ⟨[.rd, .rd], false, [.t 4], (
  .seq (.reg false [⟨some 2, .box (.t 0), none⟩,
    ⟨some 3, .box (.t 1), none⟩,
    ⟨some 4, .mv (.c (.v (.bool false))), none⟩]) (
  .seq (.seq (.reg false [⟨some 5, .fad 0 (.t 2), none⟩,
    ⟨some 6, .load true [.s, (.sl 2), (.sl 1), (.i .i64)] (.t 5), none⟩,
    ⟨some 7, .fad 0 (.t 3), none⟩,
    ⟨some 8, .load true [.s, (.sl 2), (.sl 1), (.i .i64)] (.t 7), none⟩,
    ⟨some 9, .call (.f 97) [.rd, .rd] false [.c .b] [(.t 6), (.t 8)], none⟩,
    ⟨some 10, .un .not (.t 9), none⟩]) (
  .cond (.t 10) (.seq (.reg false [⟨some 4, .mv (.c (.v (.bool false))), none⟩]) (
    .ret)) (.skip))) (
  .seq (.seq (.reg false [⟨some 11, .fad 4 (.t 2), none⟩,
    ⟨some 12, .load false [(.i .i64)] (.t 11), none⟩,
    ⟨some 13, .fad 4 (.t 3), none⟩,
    ⟨some 14, .load false [(.i .i64)] (.t 13), none⟩,
    ⟨some 15, .bin .neq (.t 12) (.t 14), none⟩]) (
  .cond (.t 15) (.seq (.reg false [⟨some 4, .mv (.c (.v (.bool false))), none⟩]) (
    .ret)) (.skip))) (
  .seq (.seq (.reg false [⟨some 16, .fad 5 (.t 2), none⟩,
    ⟨some 17, .load false [(.i .i64)] (.t 16), none⟩,
    ⟨some 18, .fad 5 (.t 3), none⟩,
    ⟨some 19, .load false [(.i .i64)] (.t 18), none⟩,
    ⟨some 20, .bin .neq (.t 17) (.t 19), none⟩]) (
  .cond (.t 20) (.seq (.reg false [⟨some 4, .mv (.c (.v (.bool false))), none⟩]) (
    .ret)) (.skip))) (
  .seq (.reg false [⟨some 4, .mv (.c (.v (.bool true))), none⟩]) (
  .ret))))))⟩

theorem a165q (T : Table) (k : Nat) (s1 : ByteArray) (l2 : Rows) (l3 : Rows) (n4 : Int) (n5 : Int) (n6 : Int) (s7 : ByteArray) (l8 : Rows) (l9 : Rows) (n10 : Int) (n11 : Int) (n12 : Int) : evalF T k a165 [(.g [(.v (.string s1)), (.s 2 l2), (.s 1 l3), (.v (.int .i64 n4)), (.v (.int .i64 n5)), (.v (.int .i64 n6))]), (.g [(.v (.string s7)), (.s 2 l8), (.s 1 l9), (.v (.int .i64 n10)), (.v (.int .i64 n11)), (.v (.int .i64 n12))])] = (
 callT T 97 [(.g [(.v (.string s1)), (.s 2 l2), (.s 1 l3), (.v (.int .i64 n4))]), (.g [(.v (.string s7)), (.s 2 l8), (.s 1 l9), (.v (.int .i64 n10))])] fun o13 =>
 oD o13.res fun d14 =>
 dB d14 fun b15 =>
 bif (!b15) then (
 some ⟨(.d (.v (.bool false))), []⟩) else (
 bif (n5 != n11) then (
 some ⟨(.d (.v (.bool false))), []⟩) else (
 bif (n6 != n12) then (
 some ⟨(.d (.v (.bool false))), []⟩) else (
 some ⟨(.d (.v (.bool true))), []⟩)))) := by kernel_rfl

end Go.Am.Is
