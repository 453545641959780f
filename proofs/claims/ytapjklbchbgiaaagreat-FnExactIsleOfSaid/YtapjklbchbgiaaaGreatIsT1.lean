/- What the functions come to, printed: equations by the kernel. Nothing is assumed. -/
import Derived.Test.YtapjklbchbgiaaaGreatIsT0
namespace Go.Am.Is
set_option linter.unusedVariables false
set_option linter.unusedSimpArgs false
set_option maxRecDepth 8000
/- loop.example/g00119/laws.eqPostS -/
def b60x0 : ACode := (
  .seq (.seq (.reg false [⟨some 11, .mv (.t 5), none⟩,
    ⟨some 12, .mv (.t 0), none⟩,
    ⟨some 13, .len false (.t 12), none⟩,
    ⟨some 14, .bin .lss (.t 11) (.t 13), none⟩]) (
  .cond (.t 14) (.skip) (.exit 0))) (
  .seq (.block 1 (.seq (.dreg [] [(0, ⟨some 17, .mv (.t 0), none⟩),
      (0, ⟨some 18, .mv (.t 5), none⟩),
      (0, ⟨some 19, .iad 6 (.t 17) (.t 18), none⟩),
      (0, ⟨some 20, .load true [.s, (.sl 2), (.sl 1), (.i .i64), (.i .i64), (.i .i64)] (.t 19), none⟩),
      (0, ⟨some 21, .mv (.t 1), none⟩),
      (0, ⟨some 22, .mv (.t 5), none⟩),
      (0, ⟨some 23, .iad 6 (.t 21) (.t 22), none⟩),
      (0, ⟨some 24, .load true [.s, (.sl 2), (.sl 1), (.i .i64), (.i .i64), (.i .i64)] (.t 23), none⟩)] [⟨some 25, .call (.f 165) [.rd, .rd] false [.c .b] [(.t 20), (.t 24)], none⟩,
      ⟨some 26, .un .not (.t 25), none⟩]) (
    .cond (.t 26) (.seq (.reg false [⟨some 4, .mv (.c (.v (.bool false))), none⟩]) (
      .ret)) (.skip)))) (
  .reg false [⟨some 15, .mv (.t 5), none⟩,
    ⟨some 16, .bin .add (.t 15) (.c (.v (.int .i64 1))), none⟩,
    ⟨some 5, .mv (.t 16), none⟩])))
def e60x0 : Exits := [(.ret, [(4, .c .b)]), ((.exit 0), [])]
noncomputable def l60x0 (T : Table) (k : Nat) := loopN (evalC ⟨T, []⟩ k b60x0 (Ex × List AV)) [0, 1, 5] e60x0
def a60 : AFun := ⟨[.rd, .rd], false, [.t 4], (
  .seq (.reg false [⟨some 4, .mv (.c (.v (.bool false))), none⟩]) (
  .seq (.seq (.reg false [⟨some 6, .mv (.t 0), none⟩,
    ⟨some 7, .len false (.t 6), none⟩,
    ⟨some 8, .mv (.t 1), none⟩,
    ⟨some 9, .len false (.t 8), none⟩,
    ⟨some 10, .bin .neq (.t 7) (.t 9), none⟩]) (
  .cond (.t 10) (.seq (.reg false [⟨some 4, .mv (.c (.v (.bool false))), none⟩]) (
    .ret)) (.skip))) (
  .seq (.seq (.reg false [⟨some 5, .mv (.c (.v (.int .i64 0))), none⟩]) (
  .block 0 (.loop [0, 1, 5] e60x0 b60x0))) (
  .seq (.reg false [⟨some 4, .mv (.c (.v (.bool true))), none⟩]) (
  .ret)))))⟩
theorem l60x0s (T : Table) (k n : Nat) (l3 : Rows) (l4 : Rows) (n5 : Int) : l60x0 T k (n + 1) [(.fz 6 l3), (.fz 6 l4), (.v (.int .i64 n5))] = (
 bif (decide (n5 < (l3.length : Int))) then (
 tst (decide (0 ≤ n5)) (
 look l3 (Int.toNat n5) fun r6 =>
 cS r6 0 fun s7 =>
 cL 2 r6 1 fun l8 =>
 cL 1 r6 2 fun l9 =>
 cI .i64 r6 3 fun n10 =>
 cI .i64 r6 4 fun n11 =>
 cI .i64 r6 5 fun n12 =>
 tst (decide (0 ≤ n5)) (
 look l4 (Int.toNat n5) fun r13 =>
 cS r13 0 fun s14 =>
 cL 2 r13 1 fun l15 =>
 cL 1 r13 2 fun l16 =>
 cI .i64 r13 3 fun n17 =>
 cI .i64 r13 4 fun n18 =>
 cI .i64 r13 5 fun n19 =>
 callT T 165 [(.g [(.v (.string s7)), (.s 2 l8), (.s 1 l9), (.v (.int .i64 n10)), (.v (.int .i64 n11)), (.v (.int .i64 n12))]), (.g [(.v (.string s14)), (.s 2 l15), (.s 1 l16), (.v (.int .i64 n17)), (.v (.int .i64 n18)), (.v (.int .i64 n19))])] fun o20 =>
 oD o20.res fun d21 =>
 dB d21 fun b22 =>
 bif (!b22) then (
 some (.ret, [(.v (.bool false))])) else (
 l60x0 T k n [(.fz 6 l3), (.fz 6 l4), (.v (.int .i64 (IntKind.wrap .i64 (n5 + 1))))])))) else (
 some ((.exit 0), []))) := by kernel_rfl
theorem a60q (T : Table) (k : Nat) (l1 : Rows) (l2 : Rows) : evalF T k a60 [(.d (.s 6 l1)), (.d (.s 6 l2))] = (
 bif ((l1.length : Int) != (l2.length : Int)) then (
 some ⟨(.d (.v (.bool false))), []⟩) else (
 aft (l60x0 T k k [(.fz 6 l1), (.fz 6 l2), (.v (.int .i64 0))]) fun e23 ys24 =>
 bif e23.same .ret then (
 aV ys24 0 fun x25 =>
 aB x25 fun b26 =>
 some ⟨(.d (.v (.bool b26))), []⟩) else (
 bif e23.same (.exit 0) then (
 some ⟨(.d (.v (.bool true))), []⟩) else (
 none)))) := by kernel_rfl
/- loop.example/g00119/laws.eqHold -/

def a166 : AFun := ⟨[.rd, .rd], false, [.t 4], (
  .seq (.reg false [⟨some 2, .box (.t 0), none⟩,
    ⟨some 3, .box (.t 1), none⟩,
    ⟨some 4, .mv (.c (.v (.bool false))), none⟩]) (
  .seq (.seq (.reg false [⟨some 5, .fad 0 (.t 2), none⟩,
    ⟨some 6, .load false [(.i .i64)] (.t 5), none⟩,
    ⟨some 7, .fad 0 (.t 3), none⟩,
    ⟨some 8, .load false [(.i .i64)] (.t 7), none⟩,
    ⟨some 9, .bin .neq (.t 6) (.t 8), none⟩]) (
  .cond (.t 9) (.seq (.reg false [⟨some 4, .mv (.c (.v (.bool false))), none⟩]) (
    .ret)) (.skip))) (
  .seq (.seq (.reg false [⟨some 10, .fad 1 (.t 2), none⟩,
    ⟨some 11, .load false [.s] (.t 10), none⟩,
    ⟨some 12, .fad 1 (.t 3), none⟩,
    ⟨some 13, .load false [.s] (.t 12), none⟩,
    ⟨some 14, .bin .neq (.t 11) (.t 13), none⟩]) (
  .cond (.t 14) (.seq (.reg false [⟨some 4, .mv (.c (.v (.bool false))), none⟩]) (
    .ret)) (.skip))) (
  .seq (.seq (.reg false [⟨some 15, .fad 2 (.t 2), none⟩,
    ⟨some 16, .load false [(.i .i64)] (.t 15), none⟩,
    ⟨some 17, .fad 2 (.t 3), none⟩,
    ⟨some 18, .load false [(.i .i64)] (.t 17), none⟩,
    ⟨some 19, .bin .neq (.t 16) (.t 18), none⟩]) (
  .cond (.t 19) (.seq (.reg false [⟨some 4, .mv (.c (.v (.bool false))), none⟩]) (
    .ret)) (.skip))) (
  .seq (.seq (.reg false [⟨some 20, .fad 3 (.t 2), none⟩,
    ⟨some 21, .load false [(.i .i64)] (.t 20), none⟩,
    ⟨some 22, .fad 3 (.t 3), none⟩,
    ⟨some 23, .load false [(.i .i64)] (.t 22), none⟩,
    ⟨some 24, .bin .neq (.t 21) (.t 23), none⟩]) (
  .cond (.t 24) (.seq (.reg false [⟨some 4, .mv (.c (.v (.bool false))), none⟩]) (
    .ret)) (.skip))) (
  .seq (.seq (.reg false [⟨some 25, .fad 4 (.t 2), none⟩,
    ⟨some 26, .load false [(.i .i64)] (.t 25), none⟩,
    ⟨some 27, .fad 4 (.t 3), none⟩,
    ⟨some 28, .load false [(.i .i64)] (.t 27), none⟩,
    ⟨some 29, .bin .neq (.t 26) (.t 28), none⟩]) (
  .cond (.t 29) (.seq (.reg false [⟨some 4, .mv (.c (.v (.bool false))), none⟩]) (
    .ret)) (.skip))) (
  .seq (.reg false [⟨some 4, .mv (.c (.v (.bool true))), none⟩]) (
  .ret))))))))⟩

theorem a166q (T : Table) (k : Nat) (n1 : Int) (s2 : ByteArray) (n3 : Int) (n4 : Int) (n5 : Int) (n6 : Int) (s7 : ByteArray) (n8 : Int) (n9 : Int) (n10 : Int) : evalF T k a166 [(.g [(.v (.int .i64 n1)), (.v (.string s2)), (.v (.int .i64 n3)), (.v (.int .i64 n4)), (.v (.int .i64 n5))]), (.g [(.v (.int .i64 n6)), (.v (.string s7)), (.v (.int .i64 n8)), (.v (.int .i64 n9)), (.v (.int .i64 n10))])] = (
 bif (n1 != n6) then (
 some ⟨(.d (.v (.bool false))), []⟩) else (
 bif (!(bytesEq s2 s7)) then (
 some ⟨(.d (.v (.bool false))), []⟩) else (
 bif (n3 != n8) then (
 some ⟨(.d (.v (.bool false))), []⟩) else (
 bif (n4 != n9) then (
 some ⟨(.d (.v (.bool false))), []⟩) else (
 bif (n5 != n10) then (
 some ⟨(.d (.v (.bool false))), []⟩) else (
 some ⟨(.d (.v (.bool true))), []⟩)))))) := by kernel_rfl
/- loop.example/g00119/laws.eqHoldS -/
def b61x0 : ACode := (
  .seq (.seq (.reg false [⟨some 11, .mv (.t 5), none⟩,
    ⟨some 12, .mv (.t 0), none⟩,
    ⟨some 13, .len false (.t 12), none⟩,
    ⟨some 14, .bin .lss (.t 11) (.t 13), none⟩]) (
  .cond (.t 14) (.skip) (.exit 0))) (
  .seq (.block 1 (.seq (.dreg [] [(0, ⟨some 17, .mv (.t 0), none⟩),
      (0, ⟨some 18, .mv (.t 5), none⟩),
      (0, ⟨some 19, .iad 5 (.t 17) (.t 18), none⟩),
      (0, ⟨some 20, .load true [(.i .i64), .s, (.i .i64), (.i .i64), (.i .i64)] (.t 19), none⟩),
      (0, ⟨some 21, .mv (.t 1), none⟩),
      (0, ⟨some 22, .mv (.t 5), none⟩),
      (0, ⟨some 23, .iad 5 (.t 21) (.t 22), none⟩),
      (0, ⟨some 24, .load true [(.i .i64), .s, (.i .i64), (.i .i64), (.i .i64)] (.t 23), none⟩)] [⟨some 25, .call (.f 166) [.rd, .rd] false [.c .b] [(.t 20), (.t 24)], none⟩,
      ⟨some 26, .un .not (.t 25), none⟩]) (
    .cond (.t 26) (.seq (.reg false [⟨some 4, .mv (.c (.v (.bool false))), none⟩]) (
      .ret)) (.skip)))) (
  .reg false [⟨some 15, .mv (.t 5), none⟩,
    ⟨some 16, .bin .add (.t 15) (.c (.v (.int .i64 1))), none⟩,
    ⟨some 5, .mv (.t 16), none⟩])))
def e61x0 : Exits := [(.ret, [(4, .c .b)]), ((.exit 0), [])]
noncomputable def l61x0 (T : Table) (k : Nat) := loopN (evalC ⟨T, []⟩ k b61x0 (Ex × List AV)) [0, 1, 5] e61x0
def a61 : AFun := ⟨[.rd, .rd], false, [.t 4], (
  .seq (.reg false [⟨some 4, .mv (.c (.v (.bool false))), none⟩]) (
  .seq (.seq (.reg false [⟨some 6, .mv (.t 0), none⟩,
    ⟨some 7, .len false (.t 6), none⟩,
    ⟨some 8, .mv (.t 1), none⟩,
    ⟨some 9, .len false (.t 8), none⟩,
    ⟨some 10, .bin .neq (.t 7) (.t 9), none⟩]) (
  .cond (.t 10) (.seq (.reg false [⟨some 4, .mv (.c (.v (.bool false))), none⟩]) (
    .ret)) (.skip))) (
  .seq (.seq (.reg false [⟨some 5, .mv (.c (.v (.int .i64 0))), none⟩]) (
  .block 0 (.loop [0, 1, 5] e61x0 b61x0))) (
  .seq (.reg false [⟨some 4, .mv (.c (.v (.bool true))), none⟩]) (
  .ret)))))⟩
theorem l61x0s (T : Table) (k n : Nat) (l3 : Rows) (l4 : Rows) (n5 : Int) : l61x0 T k (n + 1) [(.fz 5 l3), (.fz 5 l4), (.v (.int .i64 n5))] = (
 bif (decide (n5 < (l3.length : Int))) then (
 tst (decide (0 ≤ n5)) (
 look l3 (Int.toNat n5) fun r6 =>
 cI .i64 r6 0 fun n7 =>
 cS r6 1 fun s8 =>
 cI .i64 r6 2 fun n9 =>
 cI .i64 r6 3 fun n10 =>
 cI .i64 r6 4 fun n11 =>
 tst (decide (0 ≤ n5)) (
 look l4 (Int.toNat n5) fun r12 =>
 cI .i64 r12 0 fun n13 =>
 cS r12 1 fun s14 =>
 cI .i64 r12 2 fun n15 =>
 cI .i64 r12 3 fun n16 =>
 cI .i64 r12 4 fun n17 =>
 callT T 166 [(.g [(.v (.int .i64 n7)), (.v (.string s8)), (.v (.int .i64 n9)), (.v (.int .i64 n10)), (.v (.int .i64 n11))]), (.g [(.v (.int .i64 n13)), (.v (.string s14)), (.v (.int .i64 n15)), (.v (.int .i64 n16)), (.v (.int .i64 n17))])] fun o18 =>
 oD o18.res fun d19 =>
 dB d19 fun b20 =>
 bif (!b20) then (
 some (.ret, [(.v (.bool false))])) else (
 l61x0 T k n [(.fz 5 l3), (.fz 5 l4), (.v (.int .i64 (IntKind.wrap .i64 (n5 + 1))))])))) else (
 some ((.exit 0), []))) := by kernel_rfl
theorem a61q (T : Table) (k : Nat) (l1 : Rows) (l2 : Rows) : evalF T k a61 [(.d (.s 5 l1)), (.d (.s 5 l2))] = (
 bif ((l1.length : Int) != (l2.length : Int)) then (
 some ⟨(.d (.v (.bool false))), []⟩) else (
 aft (l61x0 T k k [(.fz 5 l1), (.fz 5 l2), (.v (.int .i64 0))]) fun e21 ys22 =>
 bif e21.same .ret then (
 aV ys22 0 fun x23 =>
 aB x23 fun b24 =>
 some ⟨(.d (.v (.bool b24))), []⟩) else (
 bif e21.same (.exit 0) then (
 some ⟨(.d (.v (.bool true))), []⟩) else (
 none)))) := by kernel_rfl
/- loop.example/g00119/laws.eqHub -/

def a14 : AFun := ⟨[.rd, .rd], false, [.t 4], (
  .seq (.reg false [⟨some 2, .box (.t 0), none⟩,
    ⟨some 3, .box (.t 1), none⟩,
    ⟨some 4, .mv (.c (.v (.bool false))), none⟩]) (
  .seq (.seq (.reg false [⟨some 5, .fad 0 (.t 2), none⟩,
    ⟨some 6, .load false [(.i .i64)] (.t 5), none⟩,
    ⟨some 7, .fad 0 (.t 3), none⟩,
    ⟨some 8, .load false [(.i .i64)] (.t 7), none⟩,
    ⟨some 9, .bin .neq (.t 6) (.t 8), none⟩]) (
  .cond (.t 9) (.seq (.reg false [⟨some 4, .mv (.c (.v (.bool false))), none⟩]) (
    .ret)) (.skip))) (
  .seq (.seq (.reg false [⟨some 10, .fad 1 (.t 2), none⟩,
    ⟨some 11, .load false [(.i .i64)] (.t 10), none⟩,
    ⟨some 12, .fad 1 (.t 3), none⟩,
    ⟨some 13, .load false [(.i .i64)] (.t 12), none⟩,
    ⟨some 14, .bin .neq (.t 11) (.t 13), none⟩]) (
  .cond (.t 14) (.seq (.reg false [⟨some 4, .mv (.c (.v (.bool false))), none⟩]) (
    .ret)) (.skip))) (
  .seq (.seq (.reg false [⟨some 15, .fad 2 (.t 2), none⟩,
    ⟨some 16, .load false [(.i .i64)] (.t 15), none⟩,
    ⟨some 17, .fad 2 (.t 3), none⟩,
    ⟨some 18, .load false [(.i .i64)] (.t 17), none⟩,
    ⟨some 19, .bin .neq (.t 16) (.t 18), none⟩]) (
  .cond (.t 19) (.seq (.reg false [⟨some 4, .mv (.c (.v (.bool false))), none⟩]) (
    .ret)) (.skip))) (
  .seq (.seq (.reg false [⟨some 20, .fad 3 (.t 2), none⟩,
    ⟨some 21, .load false [(.sl 13)] (.t 20), none⟩,
    ⟨some 22, .fad 3 (.t 3), none⟩,
    ⟨some 23, .load false [(.sl 13)] (.t 22), none⟩,
    ⟨some 24, .call (.f 59) [.rd, .rd] false [.c .b] [(.t 21), (.t 23)], none⟩,
    ⟨some 25, .un .not (.t 24), none⟩]) (
  .cond (.t 25) (.seq (.reg false [⟨some 4, .mv (.c (.v (.bool false))), none⟩]) (
    .ret)) (.skip))) (
  .seq (.seq (.reg false [⟨some 26, .fad 4 (.t 2), none⟩,
    ⟨some 27, .load false [(.sl 6)] (.t 26), none⟩,
    ⟨some 28, .fad 4 (.t 3), none⟩,
    ⟨some 29, .load false [(.sl 6)] (.t 28), none⟩,
    ⟨some 30, .call (.f 60) [.rd, .rd] false [.c .b] [(.t 27), (.t 29)], none⟩,
    ⟨some 31, .un .not (.t 30), none⟩]) (
  .cond (.t 31) (.seq (.reg false [⟨some 4, .mv (.c (.v (.bool false))), none⟩]) (
    .ret)) (.skip))) (
  .seq (.seq (.reg false [⟨some 32, .fad 5 (.t 2), none⟩,
    ⟨some 33, .load false [(.sl 5)] (.t 32), none⟩,
    ⟨some 34, .fad 5 (.t 3), none⟩,
    ⟨some 35, .load false [(.sl 5)] (.t 34), none⟩,
    ⟨some 36, .call (.f 61) [.rd, .rd] false [.c .b] [(.t 33), (.t 35)], none⟩,
    ⟨some 37, .un .not (.t 36), none⟩]) (
  .cond (.t 37) (.seq (.reg false [⟨some 4, .mv (.c (.v (.bool false))), none⟩]) (
    .ret)) (.skip))) (
  .seq (.seq (.reg false [⟨some 38, .fad 6 (.t 2), none⟩,
    ⟨some 39, .load false [(.sl 1)] (.t 38), none⟩,
    ⟨some 40, .fad 6 (.t 3), none⟩,
    ⟨some 41, .load false [(.sl 1)] (.t 40), none⟩,
    ⟨some 42, .call (.f 62) [.rd, .rd] false [.c .b] [(.t 39), (.t 41)], none⟩,
    ⟨some 43, .un .not (.t 42), none⟩]) (
  .cond (.t 43) (.seq (.reg false [⟨some 4, .mv (.c (.v (.bool false))), none⟩]) (
    .ret)) (.skip))) (
  .seq (.reg false [⟨some 4, .mv (.c (.v (.bool true))), none⟩]) (
  .ret))))))))))⟩

theorem a14q (T : Table) (k : Nat) (n1 : Int) (n2 : Int) (n3 : Int) (l4 : Rows) (l5 : Rows) (l6 : Rows) (l7 : Rows) (n8 : Int) (n9 : Int) (n10 : Int) (l11 : Rows) (l12 : Rows) (l13 : Rows) (l14 : Rows) : evalF T k a14 [(.g [(.v (.int .i64 n1)), (.v (.int .i64 n2)), (.v (.int .i64 n3)), (.s 13 l4), (.s 6 l5), (.s 5 l6), (.s 1 l7)]), (.g [(.v (.int .i64 n8)), (.v (.int .i64 n9)), (.v (.int .i64 n10)), (.s 13 l11), (.s 6 l12), (.s 5 l13), (.s 1 l14)])] = (
 bif (n1 != n8) then (
 some ⟨(.d (.v (.bool false))), []⟩) else (
 bif (n2 != n9) then (
 some ⟨(.d (.v (.bool false))), []⟩) else (
 bif (n3 != n10) then (
 some ⟨(.d (.v (.bool false))), []⟩) else (
 callT T 59 [(.d (.s 13 l4)), (.d (.s 13 l11))] fun o15 =>
 oD o15.res fun d16 =>
 dB d16 fun b17 =>
 bif (!b17) then (
 some ⟨(.d (.v (.bool false))), []⟩) else (
 callT T 60 [(.d (.s 6 l5)), (.d (.s 6 l12))] fun o18 =>
 oD o18.res fun d19 =>
 dB d19 fun b20 =>
 bif (!b20) then (
 some ⟨(.d (.v (.bool false))), []⟩) else (
 callT T 61 [(.d (.s 5 l6)), (.d (.s 5 l13))] fun o21 =>
 oD o21.res fun d22 =>
 dB d22 fun b23 =>
 bif (!b23) then (
 some ⟨(.d (.v (.bool false))), []⟩) else (
 callT T 62 [(.d (.s 1 l7)), (.d (.s 1 l14))] fun o24 =>
 oD o24.res fun d25 =>
 dB d25 fun b26 =>
 bif (!b26) then (
 some ⟨(.d (.v (.bool false))), []⟩) else (
 some ⟨(.d (.v (.bool true))), []⟩)))))))) := by kernel_rfl
/- loop.example/g00119/laws.eqByteS -/
def b109x0 : ACode := (
  .seq (.seq (.reg false [⟨some 11, .mv (.t 5), none⟩,
    ⟨some 12, .mv (.t 0), none⟩,
    ⟨some 13, .len false (.t 12), none⟩,
    ⟨some 14, .bin .lss (.t 11) (.t 13), none⟩]) (
  .cond (.t 14) (.skip) (.exit 0))) (
  .seq (.block 1 (.seq (.dreg [] [(0, ⟨some 17, .mv (.t 0), none⟩),
      (0, ⟨some 18, .mv (.t 5), none⟩),
      (0, ⟨some 19, .iad 1 (.t 17) (.t 18), none⟩),
      (0, ⟨some 20, .load false [(.i .u8)] (.t 19), none⟩),
      (0, ⟨some 21, .mv (.t 1), none⟩),
      (0, ⟨some 22, .mv (.t 5), none⟩),
      (0, ⟨some 23, .iad 1 (.t 21) (.t 22), none⟩),
      (0, ⟨some 24, .load false [(.i .u8)] (.t 23), none⟩)] [⟨some 25, .bin .neq (.t 20) (.t 24), none⟩]) (
    .cond (.t 25) (.seq (.reg false [⟨some 4, .mv (.c (.v (.bool false))), none⟩]) (
      .ret)) (.skip)))) (
  .reg false [⟨some 15, .mv (.t 5), none⟩,
    ⟨some 16, .bin .add (.t 15) (.c (.v (.int .i64 1))), none⟩,
    ⟨some 5, .mv (.t 16), none⟩])))
def e109x0 : Exits := [(.ret, [(4, .c .b)]), ((.exit 0), [])]
noncomputable def l109x0 (T : Table) (k : Nat) := loopN (evalC ⟨T, []⟩ k b109x0 (Ex × List AV)) [0, 1, 5] e109x0
def a109 : AFun := ⟨[.rd, .rd], false, [.t 4], (
  .seq (.reg false [⟨some 4, .mv (.c (.v (.bool false))), none⟩]) (
  .seq (.seq (.reg false [⟨some 6, .mv (.t 0), none⟩,
    ⟨some 7, .len false (.t 6), none⟩,
    ⟨some 8, .mv (.t 1), none⟩,
    ⟨some 9, .len false (.t 8), none⟩,
    ⟨some 10, .bin .neq (.t 7) (.t 9), none⟩]) (
  .cond (.t 10) (.seq (.reg false [⟨some 4, .mv (.c (.v (.bool false))), none⟩]) (
    .ret)) (.skip))) (
  .seq (.seq (.reg false [⟨some 5, .mv (.c (.v (.int .i64 0))), none⟩]) (
  .block 0 (.loop [0, 1, 5] e109x0 b109x0))) (
  .seq (.reg false [⟨some 4, .mv (.c (.v (.bool true))), none⟩]) (
  .ret)))))⟩
theorem l109x0s (T : Table) (k n : Nat) (l3 : Rows) (l4 : Rows) (n5 : Int) : l109x0 T k (n + 1) [(.fz 1 l3), (.fz 1 l4), (.v (.int .i64 n5))] = (
 bif (decide (n5 < (l3.length : Int))) then (
 tst (decide (0 ≤ n5)) (
 look l3 (Int.toNat n5) fun r6 =>
 cI .u8 r6 0 fun n7 =>
 tst (decide (0 ≤ n5)) (
 look l4 (Int.toNat n5) fun r8 =>
 cI .u8 r8 0 fun n9 =>
 bif (n7 != n9) then (
 some (.ret, [(.v (.bool false))])) else (
 l109x0 T k n [(.fz 1 l3), (.fz 1 l4), (.v (.int .i64 (IntKind.wrap .i64 (n5 + 1))))])))) else (
 some ((.exit 0), []))) := by kernel_rfl
theorem a109q (T : Table) (k : Nat) (l1 : Rows) (l2 : Rows) : evalF T k a109 [(.d (.s 1 l1)), (.d (.s 1 l2))] = (
 bif ((l1.length : Int) != (l2.length : Int)) then (
 some ⟨(.d (.v (.bool false))), []⟩) else (
 aft (l109x0 T k k [(.fz 1 l1), (.fz 1 l2), (.v (.int .i64 0))]) fun e10 ys11 =>
 bif e10.same .ret then (
 aV ys11 0 fun x12 =>
 aB x12 fun b13 =>
 some ⟨(.d (.v (.bool b13))), []⟩) else (
 bif e10.same (.exit 0) then (
 some ⟨(.d (.v (.bool true))), []⟩) else (
 none)))) := by kernel_rfl
/- loop.example/g00119/laws.eqIsleS -/
def b110x0 : ACode := (
  .seq (.seq (.reg false [⟨some 11, .mv (.t 5), none⟩,
    ⟨some 12, .mv (.t 0), none⟩,
    ⟨some 13, .len false (.t 12), none⟩,
    ⟨some 14, .bin .lss (.t 11) (.t 13), none⟩]) (
  .cond (.t 14) (.skip) (.exit 0))) (
  .seq (.block 1 (.seq (.dreg [] [(0, ⟨some 17, .mv (.t 0), none⟩),
      (0, ⟨some 18, .mv (.t 5), none⟩),
      (0, ⟨some 19, .iad 5 (.t 17) (.t 18), none⟩),
      (0, ⟨some 20, .load true [.s, (.i .i64), (.i .i64), (.sl 7), (.sl 2)] (.t 19), none⟩),
      (0, ⟨some 21, .mv (.t 1), none⟩),
      (0, ⟨some 22, .mv (.t 5), none⟩),
      (0, ⟨some 23, .iad 5 (.t 21) (.t 22), none⟩),
      (0, ⟨some 24, .load true [.s, (.i .i64), (.i .i64), (.sl 7), (.sl 2)] (.t 23), none⟩)] [⟨some 25, .call (.f 27) [.rd, .rd] false [.c .b] [(.t 20), (.t 24)], none⟩,
      ⟨some 26, .un .not (.t 25), none⟩]) (
    .cond (.t 26) (.seq (.reg false [⟨some 4, .mv (.c (.v (.bool false))), none⟩]) (
      .ret)) (.skip)))) (
  .reg false [⟨some 15, .mv (.t 5), none⟩,
    ⟨some 16, .bin .add (.t 15) (.c (.v (.int .i64 1))), none⟩,
    ⟨some 5, .mv (.t 16), none⟩])))
def e110x0 : Exits := [(.ret, [(4, .c .b)]), ((.exit 0), [])]
noncomputable def l110x0 (T : Table) (k : Nat) := loopN (evalC ⟨T, []⟩ k b110x0 (Ex × List AV)) [0, 1, 5] e110x0
def a110 : AFun := ⟨[.rd, .rd], false, [.t 4], (
  .seq (.reg false [⟨some 4, .mv (.c (.v (.bool false))), none⟩]) (
  .seq (.seq (.reg false [⟨some 6, .mv (.t 0), none⟩,
    ⟨some 7, .len false (.t 6), none⟩,
    ⟨some 8, .mv (.t 1), none⟩,
    ⟨some 9, .len false (.t 8), none⟩,
    ⟨some 10, .bin .neq (.t 7) (.t 9), none⟩]) (
  .cond (.t 10) (.seq (.reg false [⟨some 4, .mv (.c (.v (.bool false))), none⟩]) (
    .ret)) (.skip))) (
  .seq (.seq (.reg false [⟨some 5, .mv (.c (.v (.int .i64 0))), none⟩]) (
  .block 0 (.loop [0, 1, 5] e110x0 b110x0))) (
  .seq (.reg false [⟨some 4, .mv (.c (.v (.bool true))), none⟩]) (
  .ret)))))⟩
theorem l110x0s (T : Table) (k n : Nat) (l3 : Rows) (l4 : Rows) (n5 : Int) : l110x0 T k (n + 1) [(.fz 5 l3), (.fz 5 l4), (.v (.int .i64 n5))] = (
 bif (decide (n5 < (l3.length : Int))) then (
 tst (decide (0 ≤ n5)) (
 look l3 (Int.toNat n5) fun r6 =>
 cS r6 0 fun s7 =>
 cI .i64 r6 1 fun n8 =>
 cI .i64 r6 2 fun n9 =>
 cL 7 r6 3 fun l10 =>
 cL 2 r6 4 fun l11 =>
 tst (decide (0 ≤ n5)) (
 look l4 (Int.toNat n5) fun r12 =>
 cS r12 0 fun s13 =>
 cI .i64 r12 1 fun n14 =>
 cI .i64 r12 2 fun n15 =>
 cL 7 r12 3 fun l16 =>
 cL 2 r12 4 fun l17 =>
 callT T 27 [(.g [(.v (.string s7)), (.v (.int .i64 n8)), (.v (.int .i64 n9)), (.s 7 l10), (.s 2 l11)]), (.g [(.v (.string s13)), (.v (.int .i64 n14)), (.v (.int .i64 n15)), (.s 7 l16), (.s 2 l17)])] fun o18 =>
 oD o18.res fun d19 =>
 dB d19 fun b20 =>
 bif (!b20) then (
 some (.ret, [(.v (.bool false))])) else (
 l110x0 T k n [(.fz 5 l3), (.fz 5 l4), (.v (.int .i64 (IntKind.wrap .i64 (n5 + 1))))])))) else (
 some ((.exit 0), []))) := by kernel_rfl
theorem a110q (T : Table) (k : Nat) (l1 : Rows) (l2 : Rows) : evalF T k a110 [(.d (.s 5 l1)), (.d (.s 5 l2))] = (
 bif ((l1.length : Int) != (l2.length : Int)) then (
 some ⟨(.d (.v (.bool false))), []⟩) else (
 aft (l110x0 T k k [(.fz 5 l1), (.fz 5 l2), (.v (.int .i64 0))]) fun e21 ys22 =>
 bif e21.same .ret then (
 aV ys22 0 fun x23 =>
 aB x23 fun b24 =>
 some ⟨(.d (.v (.bool b24))), []⟩) else (
 bif e21.same (.exit 0) then (
 some ⟨(.d (.v (.bool true))), []⟩) else (
 none)))) := by kernel_rfl
/- loop.example/g00119/laws.eqMsg -/

def a216 : AFun := ⟨[.rd, .rd], false, [.t 4], (
  .seq (.reg false [⟨some 2, .box (.t 0), none⟩,
    ⟨some 3, .box (.t 1), none⟩,
    ⟨some 4, .mv (.c (.v (.bool false))), none⟩]) (
  .seq (.seq (.reg false [⟨some 5, .fad 0 (.t 2), none⟩,
    ⟨some 6, .load false [(.i .i64)] (.t 5), none⟩,
    ⟨some 7, .fad 0 (.t 3), none⟩,
    ⟨some 8, .load false [(.i .i64)] (.t 7), none⟩,
    ⟨some 9, .bin .neq (.t 6) (.t 8), none⟩]) (
  .cond (.t 9) (.seq (.reg false [⟨some 4, .mv (.c (.v (.bool false))), none⟩]) (
    .ret)) (.skip))) (
  .seq (.seq (.reg false [⟨some 10, .fad 1 (.t 2), none⟩,
    ⟨some 11, .load false [.s] (.t 10), none⟩,
    ⟨some 12, .fad 1 (.t 3), none⟩,
    ⟨some 13, .load false [.s] (.t 12), none⟩,
    ⟨some 14, .bin .neq (.t 11) (.t 13), none⟩]) (
  .cond (.t 14) (.seq (.reg false [⟨some 4, .mv (.c (.v (.bool false))), none⟩]) (
    .ret)) (.skip))) (
  .seq (.seq (.reg false [⟨some 15, .fad 2 (.t 2), none⟩,
    ⟨some 16, .load false [(.i .i64)] (.t 15), none⟩,
    ⟨some 17, .fad 2 (.t 3), none⟩,
    ⟨some 18, .load false [(.i .i64)] (.t 17), none⟩,
    ⟨some 19, .bin .neq (.t 16) (.t 18), none⟩]) (
  .cond (.t 19) (.seq (.reg false [⟨some 4, .mv (.c (.v (.bool false))), none⟩]) (
    .ret)) (.skip))) (
  .seq (.seq (.reg false [⟨some 20, .fad 3 (.t 2), none⟩,
    ⟨some 21, .load false [(.sl 7)] (.t 20), none⟩,
    ⟨some 22, .fad 3 (.t 3), none⟩,
    ⟨some 23, .load false [(.sl 7)] (.t 22), none⟩,
    ⟨some 24, .call (.f 108) [.rd, .rd] false [.c .b] [(.t 21), (.t 23)], none⟩,
    ⟨some 25, .un .not (.t 24), none⟩]) (
  .cond (.t 25) (.seq (.reg false [⟨some 4, .mv (.c (.v (.bool false))), none⟩]) (
    .ret)) (.skip))) (
  .seq (.seq (.reg false [⟨some 26, .fad 4 (.t 2), none⟩,
    ⟨some 27, .load false [(.sl 2)] (.t 26), none⟩,
    ⟨some 28, .fad 4 (.t 3), none⟩,
    ⟨some 29, .load false [(.sl 2)] (.t 28), none⟩,
    ⟨some 30, .call (.f 98) [.rd, .rd] false [.c .b] [(.t 27), (.t 29)], none⟩,
    ⟨some 31, .un .not (.t 30), none⟩]) (
  .cond (.t 31) (.seq (.reg false [⟨some 4, .mv (.c (.v (.bool false))), none⟩]) (
    .ret)) (.skip))) (
  .seq (.reg false [⟨some 4, .mv (.c (.v (.bool true))), none⟩]) (
  .ret))))))))⟩

theorem a216q (T : Table) (k : Nat) (n1 : Int) (s2 : ByteArray) (n3 : Int) (l4 : Rows) (l5 : Rows) (n6 : Int) (s7 : ByteArray) (n8 : Int) (l9 : Rows) (l10 : Rows) : evalF T k a216 [(.g [(.v (.int .i64 n1)), (.v (.string s2)), (.v (.int .i64 n3)), (.s 7 l4), (.s 2 l5)]), (.g [(.v (.int .i64 n6)), (.v (.string s7)), (.v (.int .i64 n8)), (.s 7 l9), (.s 2 l10)])] = (
 bif (n1 != n6) then (
 some ⟨(.d (.v (.bool false))), []⟩) else (
 bif (!(bytesEq s2 s7)) then (
 some ⟨(.d (.v (.bool false))), []⟩) else (
 bif (n3 != n8) then (
 some ⟨(.d (.v (.bool false))), []⟩) else (
 callT T 108 [(.d (.s 7 l4)), (.d (.s 7 l9))] fun o11 =>
 oD o11.res fun d12 =>
 dB d12 fun b13 =>
 bif (!b13) then (
 some ⟨(.d (.v (.bool false))), []⟩) else (
 callT T 98 [(.d (.s 2 l5)), (.d (.s 2 l10))] fun o14 =>
 oD o14.res fun d15 =>
 dB d15 fun b16 =>
 bif (!b16) then (
 some ⟨(.d (.v (.bool false))), []⟩) else (
 some ⟨(.d (.v (.bool true))), []⟩)))))) := by kernel_rfl
/- loop.example/g00119/laws.eqMsgS -/
def b111x0 : ACode := (
  .seq (.seq (.reg false [⟨some 11, .mv (.t 5), none⟩,
    ⟨some 12, .mv (.t 0), none⟩,
    ⟨some 13, .len false (.t 12), none⟩,
    ⟨some 14, .bin .lss (.t 11) (.t 13), none⟩]) (
  .cond (.t 14) (.skip) (.exit 0))) (
  .seq (.block 1 (.seq (.dreg [] [(0, ⟨some 17, .mv (.t 0), none⟩),
      (0, ⟨some 18, .mv (.t 5), none⟩),
      (0, ⟨some 19, .iad 5 (.t 17) (.t 18), none⟩),
      (0, ⟨some 20, .load true [(.i .i64), .s, (.i .i64), (.sl 7), (.sl 2)] (.t 19), none⟩),
      (0, ⟨some 21, .mv (.t 1), none⟩),
      (0, ⟨some 22, .mv (.t 5), none⟩),
      (0, ⟨some 23, .iad 5 (.t 21) (.t 22), none⟩),
      (0, ⟨some 24, .load true [(.i .i64), .s, (.i .i64), (.sl 7), (.sl 2)] (.t 23), none⟩)] [⟨some 25, .call (.f 216) [.rd, .rd] false [.c .b] [(.t 20), (.t 24)], none⟩,
      ⟨some 26, .un .not (.t 25), none⟩]) (
    .cond (.t 26) (.seq (.reg false [⟨some 4, .mv (.c (.v (.bool false))), none⟩]) (
      .ret)) (.skip)))) (
  .reg false [⟨some 15, .mv (.t 5), none⟩,
    ⟨some 16, .bin .add (.t 15) (.c (.v (.int .i64 1))), none⟩,
    ⟨some 5, .mv (.t 16), none⟩])))
def e111x0 : Exits := [(.ret, [(4, .c .b)]), ((.exit 0), [])]
noncomputable def l111x0 (T : Table) (k : Nat) := loopN (evalC ⟨T, []⟩ k b111x0 (Ex × List AV)) [0, 1, 5] e111x0
def a111 : AFun := ⟨[.rd, .rd], false, [.t 4], (
  .seq (.reg false [⟨some 4, .mv (.c (.v (.bool false))), none⟩]) (
  .seq (.seq (.reg false [⟨some 6, .mv (.t 0), none⟩,
    ⟨some 7, .len false (.t 6), none⟩,
    ⟨some 8, .mv (.t 1), none⟩,
    ⟨some 9, .len false (.t 8), none⟩,
    ⟨some 10, .bin .neq (.t 7) (.t 9), none⟩]) (
  .cond (.t 10) (.seq (.reg false [⟨some 4, .mv (.c (.v (.bool false))), none⟩]) (
    .ret)) (.skip))) (
  .seq (.seq (.reg false [⟨some 5, .mv (.c (.v (.int .i64 0))), none⟩]) (
  .block 0 (.loop [0, 1, 5] e111x0 b111x0))) (
  .seq (.reg false [⟨some 4, .mv (.c (.v (.bool true))), none⟩]) (
  .ret)))))⟩
theorem l111x0s (T : Table) (k n : Nat) (l3 : Rows) (l4 : Rows) (n5 : Int) : l111x0 T k (n + 1) [(.fz 5 l3), (.fz 5 l4), (.v (.int .i64 n5))] = (
 bif (decide (n5 < (l3.length : Int))) then (
 tst (decide (0 ≤ n5)) (
 look l3 (Int.toNat n5) fun r6 =>
 cI .i64 r6 0 fun n7 =>
 cS r6 1 fun s8 =>
 cI .i64 r6 2 fun n9 =>
 cL 7 r6 3 fun l10 =>
 cL 2 r6 4 fun l11 =>
 tst (decide (0 ≤ n5)) (
 look l4 (Int.toNat n5) fun r12 =>
 cI .i64 r12 0 fun n13 =>
 cS r12 1 fun s14 =>
 cI .i64 r12 2 fun n15 =>
 cL 7 r12 3 fun l16 =>
 cL 2 r12 4 fun l17 =>
 callT T 216 [(.g [(.v (.int .i64 n7)), (.v (.string s8)), (.v (.int .i64 n9)), (.s 7 l10), (.s 2 l11)]), (.g [(.v (.int .i64 n13)), (.v (.string s14)), (.v (.int .i64 n15)), (.s 7 l16), (.s 2 l17)])] fun o18 =>
 oD o18.res fun d19 =>
 dB d19 fun b20 =>
 bif (!b20) then (
 some (.ret, [(.v (.bool false))])) else (
 l111x0 T k n [(.fz 5 l3), (.fz 5 l4), (.v (.int .i64 (IntKind.wrap .i64 (n5 + 1))))])))) else (
 some ((.exit 0), []))) := by kernel_rfl
theorem a111q (T : Table) (k : Nat) (l1 : Rows) (l2 : Rows) : evalF T k a111 [(.d (.s 5 l1)), (.d (.s 5 l2))] = (
 bif ((l1.length : Int) != (l2.length : Int)) then (
 some ⟨(.d (.v (.bool false))), []⟩) else (
 aft (l111x0 T k k [(.fz 5 l1), (.fz 5 l2), (.v (.int .i64 0))]) fun e21 ys22 =>
 bif e21.same .ret then (
 aV ys22 0 fun x23 =>
 aB x23 fun b24 =>
 some ⟨(.d (.v (.bool b24))), []⟩) else (
 bif e21.same (.exit 0) then (
 some ⟨(.d (.v (.bool true))), []⟩) else (
 none)))) := by kernel_rfl
/- loop.example/g00119/laws.eqFed -/

def a28 : AFun := ⟨[.rd, .rd], false, [.t 4], (
  .seq (.reg false [⟨some 2, .box (.t 0), none⟩,
    ⟨some 3, .box (.t 1), none⟩,
    ⟨some 4, .mv (.c (.v (.bool false))), none⟩]) (
  .seq (.seq (.reg false [⟨some 5, .fad 0 (.t 2), none⟩,
    ⟨some 6, .load true [(.i .i64), (.i .i64), (.i .i64), (.sl 13), (.sl 6), (.sl 5), (.sl 1)] (.t 5), none⟩,
    ⟨some 7, .fad 0 (.t 3), none⟩,
    ⟨some 8, .load true [(.i .i64), (.i .i64), (.i .i64), (.sl 13), (.sl 6), (.sl 5), (.sl 1)] (.t 7), none⟩,
    ⟨some 9, .call (.f 14) [.rd, .rd] false [.c .b] [(.t 6), (.t 8)], none⟩,
    ⟨some 10, .un .not (.t 9), none⟩]) (
  .cond (.t 10) (.seq (.reg false [⟨some 4, .mv (.c (.v (.bool false))), none⟩]) (
    .ret)) (.skip))) (
  .seq (.seq (.reg false [⟨some 11, .fad 7 (.t 2), none⟩,
    ⟨some 12, .load false [.b] (.t 11), none⟩,
    ⟨some 13, .fad 7 (.t 3), none⟩,
    ⟨some 14, .load false [.b] (.t 13), none⟩,
    ⟨some 15, .beq true (.t 12) (.t 14), none⟩]) (
  .cond (.t 15) (.seq (.reg false [⟨some 4, .mv (.c (.v (.bool false))), none⟩]) (
    .ret)) (.skip))) (
  .seq (.seq (.reg false [⟨some 16, .fad 8 (.t 2), none⟩,
    ⟨some 17, .load false [(.sl 1)] (.t 16), none⟩,
    ⟨some 18, .fad 8 (.t 3), none⟩,
    ⟨some 19, .load false [(.sl 1)] (.t 18), none⟩,
    ⟨some 20, .call (.f 109) [.rd, .rd] false [.c .b] [(.t 17), (.t 19)], none⟩,
    ⟨some 21, .un .not (.t 20), none⟩]) (
  .cond (.t 21) (.seq (.reg false [⟨some 4, .mv (.c (.v (.bool false))), none⟩]) (
    .ret)) (.skip))) (
  .seq (.seq (.reg false [⟨some 22, .fad 9 (.t 2), none⟩,
    ⟨some 23, .load false [(.sl 5)] (.t 22), none⟩,
    ⟨some 24, .fad 9 (.t 3), none⟩,
    ⟨some 25, .load false [(.sl 5)] (.t 24), none⟩,
    ⟨some 26, .call (.f 110) [.rd, .rd] false [.c .b] [(.t 23), (.t 25)], none⟩,
    ⟨some 27, .un .not (.t 26), none⟩]) (
  .cond (.t 27) (.seq (.reg false [⟨some 4, .mv (.c (.v (.bool false))), none⟩]) (
    .ret)) (.skip))) (
  .seq (.seq (.reg false [⟨some 28, .fad 10 (.t 2), none⟩,
    ⟨some 29, .load false [(.sl 5)] (.t 28), none⟩,
    ⟨some 30, .fad 10 (.t 3), none⟩,
    ⟨some 31, .load false [(.sl 5)] (.t 30), none⟩,
    ⟨some 32, .call (.f 111) [.rd, .rd] false [.c .b] [(.t 29), (.t 31)], none⟩,
    ⟨some 33, .un .not (.t 32), none⟩]) (
  .cond (.t 33) (.seq (.reg false [⟨some 4, .mv (.c (.v (.bool false))), none⟩]) (
    .ret)) (.skip))) (
  .seq (.seq (.reg false [⟨some 34, .fad 11 (.t 2), none⟩,
    ⟨some 35, .load false [(.sl 1)] (.t 34), none⟩,
    ⟨some 36, .fad 11 (.t 3), none⟩,
    ⟨some 37, .load false [(.sl 1)] (.t 36), none⟩,
    ⟨some 38, .call (.f 62) [.rd, .rd] false [.c .b] [(.t 35), (.t 37)], none⟩,
    ⟨some 39, .un .not (.t 38), none⟩]) (
  .cond (.t 39) (.seq (.reg false [⟨some 4, .mv (.c (.v (.bool false))), none⟩]) (
    .ret)) (.skip))) (
  .seq (.reg false [⟨some 4, .mv (.c (.v (.bool true))), none⟩]) (
  .ret)))))))))⟩

theorem a28q (T : Table) (k : Nat) (n1 : Int) (n2 : Int) (n3 : Int) (l4 : Rows) (l5 : Rows) (l6 : Rows) (l7 : Rows) (b8 : Bool) (l9 : Rows) (l10 : Rows) (l11 : Rows) (l12 : Rows) (n13 : Int) (n14 : Int) (n15 : Int) (l16 : Rows) (l17 : Rows) (l18 : Rows) (l19 : Rows) (b20 : Bool) (l21 : Rows) (l22 : Rows) (l23 : Rows) (l24 : Rows) : evalF T k a28 [(.g [(.v (.int .i64 n1)), (.v (.int .i64 n2)), (.v (.int .i64 n3)), (.s 13 l4), (.s 6 l5), (.s 5 l6), (.s 1 l7), (.v (.bool b8)), (.s 1 l9), (.s 5 l10), (.s 5 l11), (.s 1 l12)]), (.g [(.v (.int .i64 n13)), (.v (.int .i64 n14)), (.v (.int .i64 n15)), (.s 13 l16), (.s 6 l17), (.s 5 l18), (.s 1 l19), (.v (.bool b20)), (.s 1 l21), (.s 5 l22), (.s 5 l23), (.s 1 l24)])] = (
 callT T 14 [(.g [(.v (.int .i64 n1)), (.v (.int .i64 n2)), (.v (.int .i64 n3)), (.s 13 l4), (.s 6 l5), (.s 5 l6), (.s 1 l7)]), (.g [(.v (.int .i64 n13)), (.v (.int .i64 n14)), (.v (.int .i64 n15)), (.s 13 l16), (.s 6 l17), (.s 5 l18), (.s 1 l19)])] fun o25 =>
 oD o25.res fun d26 =>
 dB d26 fun b27 =>
 bif (!b27) then (
 some ⟨(.d (.v (.bool false))), []⟩) else (
 bif (b8 != b20) then (
 some ⟨(.d (.v (.bool false))), []⟩) else (
 callT T 109 [(.d (.s 1 l9)), (.d (.s 1 l21))] fun o28 =>
 oD o28.res fun d29 =>
 dB d29 fun b30 =>
 bif (!b30) then (
 some ⟨(.d (.v (.bool false))), []⟩) else (
 callT T 110 [(.d (.s 5 l10)), (.d (.s 5 l22))] fun o31 =>
 oD o31.res fun d32 =>
 dB d32 fun b33 =>
 bif (!b33) then (
 some ⟨(.d (.v (.bool false))), []⟩) else (
 callT T 111 [(.d (.s 5 l11)), (.d (.s 5 l23))] fun o34 =>
 oD o34.res fun d35 =>
 dB d35 fun b36 =>
 bif (!b36) then (
 some ⟨(.d (.v (.bool false))), []⟩) else (
 callT T 62 [(.d (.s 1 l12)), (.d (.s 1 l24))] fun o37 =>
 oD o37.res fun d38 =>
 dB d38 fun b39 =>
 bif (!b39) then (
 some ⟨(.d (.v (.bool false))), []⟩) else (
 some ⟨(.d (.v (.bool true))), []⟩))))))) := by kernel_rfl
/- loop.example/g00119/laws.markText -/
def b167x0 : ACode := (
  .seq (.seq (.reg false [⟨some 6, .mv (.t 0), none⟩,
    ⟨some 7, .bin .gtr (.t 6) (.c (.v (.int .i64 0))), none⟩]) (
  .cond (.t 7) (.skip) (.exit 0))) (
  .block 1 (.seq (.reg false [⟨some 8, .mv (.t 0), none⟩,
      ⟨some 9, .bin .rem (.t 8) (.c (.v (.int .i64 10))), none⟩,
      ⟨some 10, .bin .add (.c (.v (.int .i64 48))) (.t 9), none⟩,
      ⟨some 11, .conv (.int .u8) (.t 10), none⟩,
      ⟨some 12, .lit 1 ([[(.v (.int .u8 0))]] : Rows) [(0, (.t 11))], none⟩,
      ⟨some 13, .conv .bytesStr (.t 12), none⟩,
      ⟨some 14, .mv (.t 3), none⟩,
      ⟨some 15, .bin .add (.t 13) (.t 14), none⟩,
      ⟨some 3, .mv (.t 15), none⟩]) (
    .reg false [⟨some 16, .mv (.t 0), none⟩,
      ⟨some 17, .bin .quo (.t 16) (.c (.v (.int .i64 10))), none⟩,
      ⟨some 0, .mv (.t 17), none⟩]))))
def e167x0 : Exits := [((.exit 0), [(3, .c .s)])]
noncomputable def l167x0 (T : Table) (k : Nat) := loopN (evalC ⟨T, []⟩ k b167x0 (Ex × List AV)) [0, 3] e167x0
def a167 : AFun := ⟨[.rd], false, [.t 2], (
  .seq (.reg false [⟨some 2, .mv (.c (.v (.string ({ data := #[] } : ByteArray)))), none⟩]) (
  .seq (.seq (.reg false [⟨some 4, .mv (.t 0), none⟩,
    ⟨some 5, .bin .leq (.t 4) (.c (.v (.int .i64 0))), none⟩]) (
  .cond (.t 5) (.seq (.reg false [⟨some 2, .mv (.c (.v (.string ({ data := #[109, 48] } : ByteArray)))), none⟩]) (
    .ret)) (.skip))) (
  .seq (.reg false [⟨some 3, .mv (.c (.v (.string ({ data := #[] } : ByteArray)))), none⟩]) (
  .seq (.block 0 (.loop [0, 3] e167x0 b167x0)) (
  .seq (.reg false [⟨some 18, .mv (.t 3), none⟩,
    ⟨some 19, .bin .add (.c (.v (.string ({ data := #[109] } : ByteArray)))) (.t 18), none⟩,
    ⟨some 2, .mv (.t 19), none⟩]) (
  .ret))))))⟩
theorem l167x0s (T : Table) (k n : Nat) (n2 : Int) (s3 : ByteArray) : l167x0 T k (n + 1) [(.v (.int .i64 n2)), (.v (.string s3))] = (
 bif (decide (n2 > 0)) then (
 tst (decide (10 ≠ 0)) (
 tst (allBytes ([[(.v (.int .u8 (IntKind.wrap .u8 (IntKind.wrap .i64 (48 + (Int.tmod n2 10))))))]] : Rows)) (
 tst (decide ((bytesOfRows ([[(.v (.int .u8 (IntKind.wrap .u8 (IntKind.wrap .i64 (48 + (Int.tmod n2 10))))))]] : Rows)).size + s3.size ≤ maxLen)) (
 tst (decide (10 ≠ 0)) (
 l167x0 T k n [(.v (.int .i64 (IntKind.wrap .i64 (Int.tdiv n2 10)))), (.v (.string ((bytesOfRows ([[(.v (.int .u8 (IntKind.wrap .u8 (IntKind.wrap .i64 (48 + (Int.tmod n2 10))))))]] : Rows)) ++ s3)))]))))) else (
 some ((.exit 0), [(.v (.string s3))]))) := by kernel_rfl
theorem a167q (T : Table) (k : Nat) (n1 : Int) : evalF T k a167 [(.d (.v (.int .i64 n1)))] = (
 bif (decide (n1 ≤ 0)) then (
 some ⟨(.d (.v (.string ({ data := #[109, 48] } : ByteArray)))), []⟩) else (
 aft (l167x0 T k k [(.v (.int .i64 n1)), (.v (.string ({ data := #[] } : ByteArray)))]) fun e4 ys5 =>
 bif e4.same (.exit 0) then (
 aV ys5 0 fun x6 =>
 aS x6 fun s7 =>
 tst (decide (({ data := #[109] } : ByteArray).size + s7.size ≤ maxLen)) (
 some ⟨(.d (.v (.string (({ data := #[109] } : ByteArray) ++ s7)))), []⟩)) else (
 none))) := by kernel_rfl
/- loop.example/g00119/laws.markStringS -/
def b66x0 : ACode := (
  .seq (.seq (.reg false [⟨some 6, .mv (.t 5), none⟩,
    ⟨some 7, .mv (.t 0), none⟩,
    ⟨some 8, .len false (.t 7), none⟩,
    ⟨some 9, .bin .lss (.t 6) (.t 8), none⟩]) (
  .cond (.t 9) (.skip) (.exit 0))) (
  .seq (.block 1 (.seq (.reg false [⟨some 12, .mv (.t 0), none⟩,
      ⟨some 13, .mv (.t 5), none⟩,
      ⟨some 14, .mv (.t 1), none⟩,
      ⟨some 15, .call (.f 167) [.rd] false [.c .s] [(.t 14)], none⟩,
      ⟨some 16, .iad 1 (.t 12) (.t 13), none⟩,
      ⟨none, .store 1 (.t 16) (.t 15), none⟩]) (
    .reg false [⟨some 17, .mv (.t 1), none⟩,
      ⟨some 18, .bin .add (.t 17) (.c (.v (.int .i64 1))), none⟩,
      ⟨some 1, .mv (.t 18), none⟩]))) (
  .reg false [⟨some 10, .mv (.t 5), none⟩,
    ⟨some 11, .bin .add (.t 10) (.c (.v (.int .i64 1))), none⟩,
    ⟨some 5, .mv (.t 11), none⟩])))
def e66x0 : Exits := [((.exit 0), [(0, .o 1), (1, .c (.i .i64))])]
noncomputable def l66x0 (T : Table) (k : Nat) := loopN (evalC ⟨T, [0]⟩ k b66x0 (Ex × List AV)) [0, 1, 5] e66x0
def a66 : AFun := ⟨[.lent, .rd], false, [.t 4], (
  .seq (.reg false [⟨some 4, .mv (.c (.v (.int .i64 0))), none⟩]) (
  .seq (.seq (.reg false [⟨some 5, .mv (.c (.v (.int .i64 0))), none⟩]) (
  .block 0 (.loop [0, 1, 5] e66x0 b66x0))) (
  .seq (.reg false [⟨some 19, .mv (.t 1), none⟩,
    ⟨some 4, .mv (.t 19), none⟩]) (
  .ret))))⟩
theorem l66x0s (T : Table) (k n : Nat) (l3 : Rows) (n4 : Int) (n5 : Int) : l66x0 T k (n + 1) [(.o 1 l3), (.v (.int .i64 n4)), (.v (.int .i64 n5))] = (
 bif (decide (n5 < (l3.length : Int))) then (
 callT T 167 [(.d (.v (.int .i64 n4)))] fun o6 =>
 oD o6.res fun d7 =>
 dS d7 fun s8 =>
 tst (decide (0 ≤ n5) && decide (Int.toNat n5 < l3.length)) (
 l66x0 T k n [(.o 1 (setD l3 (Int.toNat n5) 0 (.v (.string s8)))), (.v (.int .i64 (IntKind.wrap .i64 (n4 + 1)))), (.v (.int .i64 (IntKind.wrap .i64 (n5 + 1))))])) else (
 some ((.exit 0), [(.o 1 l3), (.v (.int .i64 n4))]))) := by kernel_rfl
theorem a66q (T : Table) (k : Nat) (l1 : Rows) (n2 : Int) : evalF T k a66 [(.d (.s 1 l1)), (.d (.v (.int .i64 n2)))] = (
 aft (l66x0 T k k [(.o 1 l1), (.v (.int .i64 n2)), (.v (.int .i64 0))]) fun e9 ys10 =>
 bif e9.same (.exit 0) then (
 aV ys10 0 fun x11 =>
 aO 1 x11 fun l12 =>
 aV ys10 1 fun x13 =>
 aI .i64 x13 fun n14 =>
 some ⟨(.d (.v (.int .i64 n14))), [(.d (.s 1 l12))]⟩) else (
 none)) := by kernel_rfl
/- loop.example/g00119/laws.markTermS -/
def b168x0 : ACode := (
  .seq (.seq (.reg false [⟨some 6, .mv (.t 5), none⟩,
    ⟨some 7, .mv (.t 0), none⟩,
    ⟨some 8, .len false (.t 7), none⟩,
    ⟨some 9, .bin .lss (.t 6) (.t 8), none⟩]) (
  .cond (.t 9) (.skip) (.exit 0))) (
  .seq (.block 1 (.seq (.reg false [⟨some 12, .mv (.t 0), none⟩,
      ⟨some 13, .mv (.t 5), none⟩,
      ⟨some 14, .mv (.t 1), none⟩,
      ⟨some 15, .iad 3 (.t 12) (.t 13), none⟩,
      ⟨some 16, .fad 0 (.t 15), none⟩,
      ⟨none, .store 1 (.t 16) (.t 14), none⟩]) (
    .seq (.reg false [⟨some 17, .mv (.t 1), none⟩,
      ⟨some 18, .bin .add (.t 17) (.c (.v (.int .i64 1))), none⟩,
      ⟨some 1, .mv (.t 18), none⟩]) (
    .seq (.reg false [⟨some 19, .mv (.t 0), none⟩,
      ⟨some 20, .mv (.t 5), none⟩,
      ⟨some 21, .mv (.t 1), none⟩,
      ⟨some 22, .call (.f 167) [.rd] false [.c .s] [(.t 21)], none⟩,
      ⟨some 23, .iad 3 (.t 19) (.t 20), none⟩,
      ⟨some 24, .fad 1 (.t 23), none⟩,
      ⟨none, .store 1 (.t 24) (.t 22), none⟩]) (
    .seq (.reg false [⟨some 25, .mv (.t 1), none⟩,
      ⟨some 26, .bin .add (.t 25) (.c (.v (.int .i64 1))), none⟩,
      ⟨some 1, .mv (.t 26), none⟩]) (
    .reg false [⟨some 27, .mv (.t 0), none⟩,
      ⟨some 28, .mv (.t 5), none⟩,
      ⟨some 29, .iad 3 (.t 27) (.t 28), none⟩,
      ⟨some 30, .fad 2 (.t 29), none⟩,
      ⟨some 31, .load false [(.sl 1)] (.t 30), none⟩,
      ⟨some 32, .mv (.t 1), none⟩,
      ⟨some 33, .call (.f 66) [.lent, .rd] false [.c (.i .i64)] [(.t 31), (.t 32)], none⟩,
      ⟨some 1, .mv (.t 33), none⟩])))))) (
  .reg false [⟨some 10, .mv (.t 5), none⟩,
    ⟨some 11, .bin .add (.t 10) (.c (.v (.int .i64 1))), none⟩,
    ⟨some 5, .mv (.t 11), none⟩])))
def e168x0 : Exits := [((.exit 0), [(0, .o 3), (1, .c (.i .i64))])]
noncomputable def l168x0 (T : Table) (k : Nat) := loopN (evalC ⟨T, [0]⟩ k b168x0 (Ex × List AV)) [0, 1, 5] e168x0
def a168 : AFun := ⟨[.lent, .rd], false, [.t 4], (
  .seq (.reg false [⟨some 4, .mv (.c (.v (.int .i64 0))), none⟩]) (
  .seq (.seq (.reg false [⟨some 5, .mv (.c (.v (.int .i64 0))), none⟩]) (
  .block 0 (.loop [0, 1, 5] e168x0 b168x0))) (
  .seq (.reg false [⟨some 34, .mv (.t 1), none⟩,
    ⟨some 4, .mv (.t 34), none⟩]) (
  .ret))))⟩
theorem l168x0s (T : Table) (k n : Nat) (l3 : Rows) (n4 : Int) (n5 : Int) : l168x0 T k (n + 1) [(.o 3 l3), (.v (.int .i64 n4)), (.v (.int .i64 n5))] = (
 bif (decide (n5 < (l3.length : Int))) then (
 tst (decide (0 ≤ n5) && decide (Int.toNat n5 < l3.length)) (
 callT T 167 [(.d (.v (.int .i64 (IntKind.wrap .i64 (n4 + 1)))))] fun o6 =>
 oD o6.res fun d7 =>
 dS d7 fun s8 =>
 tst (decide (0 ≤ n5) && decide (Int.toNat n5 < (setD l3 (Int.toNat n5) 0 (.v (.int .i64 n4))).length)) (
 tst (decide (0 ≤ n5) && decide (Int.toNat n5 < (setD (setD l3 (Int.toNat n5) 0 (.v (.int .i64 n4))) (Int.toNat n5) 1 (.v (.string s8))).length)) (
 look (setD (setD l3 (Int.toNat n5) 0 (.v (.int .i64 n4))) (Int.toNat n5) 1 (.v (.string s8))) (Int.toNat n5) fun r9 =>
 cL 1 r9 2 fun l10 =>
 callT T 66 [(.d (.s 1 l10)), (.d (.v (.int .i64 (IntKind.wrap .i64 ((IntKind.wrap .i64 (n4 + 1)) + 1)))))] fun o11 =>
 nth o11.back 0 fun i12 =>
 oD i12 fun d13 =>
 dL 1 d13 fun l14 =>
 oD o11.res fun d15 =>
 dI .i64 d15 fun n16 =>
 l168x0 T k n [(.o 3 (setD (setD (setD l3 (Int.toNat n5) 0 (.v (.int .i64 n4))) (Int.toNat n5) 1 (.v (.string s8))) (Int.toNat n5) 2 (.s 1 l14))), (.v (.int .i64 n16)), (.v (.int .i64 (IntKind.wrap .i64 (n5 + 1))))])))) else (
 some ((.exit 0), [(.o 3 l3), (.v (.int .i64 n4))]))) := by kernel_rfl
theorem a168q (T : Table) (k : Nat) (l1 : Rows) (n2 : Int) : evalF T k a168 [(.d (.s 3 l1)), (.d (.v (.int .i64 n2)))] = (
 aft (l168x0 T k k [(.o 3 l1), (.v (.int .i64 n2)), (.v (.int .i64 0))]) fun e17 ys18 =>
 bif e17.same (.exit 0) then (
 aV ys18 0 fun x19 =>
 aO 3 x19 fun l20 =>
 aV ys18 1 fun x21 =>
 aI .i64 x21 fun n22 =>
 some ⟨(.d (.v (.int .i64 n22))), [(.d (.s 3 l20))]⟩) else (
 none)) := by kernel_rfl
/- loop.example/g00119/laws.markWeighS -/
def b169x0 : ACode := (
  .seq (.seq (.reg false [⟨some 6, .mv (.t 5), none⟩,
    ⟨some 7, .mv (.t 0), none⟩,
    ⟨some 8, .len false (.t 7), none⟩,
    ⟨some 9, .bin .lss (.t 6) (.t 8), none⟩]) (
  .cond (.t 9) (.skip) (.exit 0))) (
  .seq (.block 1 (.seq (.reg false [⟨some 12, .mv (.t 0), none⟩,
      ⟨some 13, .mv (.t 5), none⟩,
      ⟨some 14, .mv (.t 1), none⟩,
      ⟨some 15, .call (.f 167) [.rd] false [.c .s] [(.t 14)], none⟩,
      ⟨some 16, .iad 2 (.t 12) (.t 13), none⟩,
      ⟨some 17, .fad 0 (.t 16), none⟩,
      ⟨none, .store 1 (.t 17) (.t 15), none⟩]) (
    .seq (.reg false [⟨some 18, .mv (.t 1), none⟩,
      ⟨some 19, .bin .add (.t 18) (.c (.v (.int .i64 1))), none⟩,
      ⟨some 1, .mv (.t 19), none⟩]) (
    .seq (.reg false [⟨some 20, .mv (.t 0), none⟩,
      ⟨some 21, .mv (.t 5), none⟩,
      ⟨some 22, .mv (.t 1), none⟩,
      ⟨some 23, .iad 2 (.t 20) (.t 21), none⟩,
      ⟨some 24, .fad 1 (.t 23), none⟩,
      ⟨none, .store 1 (.t 24) (.t 22), none⟩]) (
    .reg false [⟨some 25, .mv (.t 1), none⟩,
      ⟨some 26, .bin .add (.t 25) (.c (.v (.int .i64 1))), none⟩,
      ⟨some 1, .mv (.t 26), none⟩]))))) (
  .reg false [⟨some 10, .mv (.t 5), none⟩,
    ⟨some 11, .bin .add (.t 10) (.c (.v (.int .i64 1))), none⟩,
    ⟨some 5, .mv (.t 11), none⟩])))
def e169x0 : Exits := [((.exit 0), [(0, .o 2), (1, .c (.i .i64))])]
noncomputable def l169x0 (T : Table) (k : Nat) := loopN (evalC ⟨T, [0]⟩ k b169x0 (Ex × List AV)) [0, 1, 5] e169x0
def a169 : AFun := ⟨[.lent, .rd], false, [.t 4], (
  .seq (.reg false [⟨some 4, .mv (.c (.v (.int .i64 0))), none⟩]) (
  .seq (.seq (.reg false [⟨some 5, .mv (.c (.v (.int .i64 0))), none⟩]) (
  .block 0 (.loop [0, 1, 5] e169x0 b169x0))) (
  .seq (.reg false [⟨some 27, .mv (.t 1), none⟩,
    ⟨some 4, .mv (.t 27), none⟩]) (
  .ret))))⟩
theorem l169x0s (T : Table) (k n : Nat) (l3 : Rows) (n4 : Int) (n5 : Int) : l169x0 T k (n + 1) [(.o 2 l3), (.v (.int .i64 n4)), (.v (.int .i64 n5))] = (
 bif (decide (n5 < (l3.length : Int))) then (
 callT T 167 [(.d (.v (.int .i64 n4)))] fun o6 =>
 oD o6.res fun d7 =>
 dS d7 fun s8 =>
 tst (decide (0 ≤ n5) && decide (Int.toNat n5 < l3.length)) (
 tst (decide (0 ≤ n5) && decide (Int.toNat n5 < (setD l3 (Int.toNat n5) 0 (.v (.string s8))).length)) (
 l169x0 T k n [(.o 2 (setD (setD l3 (Int.toNat n5) 0 (.v (.string s8))) (Int.toNat n5) 1 (.v (.int .i64 (IntKind.wrap .i64 (n4 + 1)))))), (.v (.int .i64 (IntKind.wrap .i64 ((IntKind.wrap .i64 (n4 + 1)) + 1)))), (.v (.int .i64 (IntKind.wrap .i64 (n5 + 1))))]))) else (
 some ((.exit 0), [(.o 2 l3), (.v (.int .i64 n4))]))) := by kernel_rfl
theorem a169q (T : Table) (k : Nat) (l1 : Rows) (n2 : Int) : evalF T k a169 [(.d (.s 2 l1)), (.d (.v (.int .i64 n2)))] = (
 aft (l169x0 T k k [(.o 2 l1), (.v (.int .i64 n2)), (.v (.int .i64 0))]) fun e9 ys10 =>
 bif e9.same (.exit 0) then (
 aV ys10 0 fun x11 =>
 aO 2 x11 fun l12 =>
 aV ys10 1 fun x13 =>
 aI .i64 x13 fun n14 =>
 some ⟨(.d (.v (.int .i64 n14))), [(.d (.s 2 l12))]⟩) else (
 none)) := by kernel_rfl
/- loop.example/g00119/laws.markValueS -/
def b170x0 : ACode := (
  .seq (.seq (.reg false [⟨some 6, .mv (.t 5), none⟩,
    ⟨some 7, .mv (.t 0), none⟩,
    ⟨some 8, .len false (.t 7), none⟩,
    ⟨some 9, .bin .lss (.t 6) (.t 8), none⟩]) (
  .cond (.t 9) (.skip) (.exit 0))) (
  .seq (.block 1 (.seq (.reg false [⟨some 12, .mv (.t 0), none⟩,
      ⟨some 13, .mv (.t 5), none⟩,
      ⟨some 14, .mv (.t 1), none⟩,
      ⟨some 15, .iad 5 (.t 12) (.t 13), none⟩,
      ⟨some 16, .fad 0 (.t 15), none⟩,
      ⟨none, .store 1 (.t 16) (.t 14), none⟩]) (
    .seq (.reg false [⟨some 17, .mv (.t 1), none⟩,
      ⟨some 18, .bin .add (.t 17) (.c (.v (.int .i64 1))), none⟩,
      ⟨some 1, .mv (.t 18), none⟩]) (
    .seq (.reg false [⟨some 19, .mv (.t 0), none⟩,
      ⟨some 20, .mv (.t 5), none⟩,
      ⟨some 21, .mv (.t 1), none⟩,
      ⟨some 22, .call (.f 167) [.rd] false [.c .s] [(.t 21)], none⟩,
      ⟨some 23, .iad 5 (.t 19) (.t 20), none⟩,
      ⟨some 24, .fad 1 (.t 23), none⟩,
      ⟨none, .store 1 (.t 24) (.t 22), none⟩]) (
    .seq (.reg false [⟨some 25, .mv (.t 1), none⟩,
      ⟨some 26, .bin .add (.t 25) (.c (.v (.int .i64 1))), none⟩,
      ⟨some 1, .mv (.t 26), none⟩]) (
    .seq (.reg false [⟨some 27, .mv (.t 0), none⟩,
      ⟨some 28, .mv (.t 5), none⟩,
      ⟨some 29, .mv (.t 1), none⟩,
      ⟨some 30, .iad 5 (.t 27) (.t 28), none⟩,
      ⟨some 31, .fad 2 (.t 30), none⟩,
      ⟨none, .store 1 (.t 31) (.t 29), none⟩]) (
    .seq (.reg false [⟨some 32, .mv (.t 1), none⟩,
      ⟨some 33, .bin .add (.t 32) (.c (.v (.int .i64 1))), none⟩,
      ⟨some 1, .mv (.t 33), none⟩]) (
    .seq (.reg false [⟨some 34, .mv (.t 0), none⟩,
      ⟨some 35, .mv (.t 5), none⟩,
      ⟨some 36, .iad 5 (.t 34) (.t 35), none⟩,
      ⟨some 37, .fad 3 (.t 36), none⟩,
      ⟨some 38, .load false [(.sl 1)] (.t 37), none⟩,
      ⟨some 39, .mv (.t 1), none⟩,
      ⟨some 40, .call (.f 66) [.lent, .rd] false [.c (.i .i64)] [(.t 38), (.t 39)], none⟩,
      ⟨some 1, .mv (.t 40), none⟩]) (
    .reg false [⟨some 41, .mv (.t 0), none⟩,
      ⟨some 42, .mv (.t 5), none⟩,
      ⟨some 43, .iad 5 (.t 41) (.t 42), none⟩,
      ⟨some 44, .fad 4 (.t 43), none⟩,
      ⟨some 45, .load false [(.sl 5)] (.t 44), none⟩,
      ⟨some 46, .mv (.t 1), none⟩,
      ⟨some 47, .call (.f 170) [.lent, .rd] false [.c (.i .i64)] [(.t 45), (.t 46)], none⟩,
      ⟨some 1, .mv (.t 47), none⟩]))))))))) (
  .reg false [⟨some 10, .mv (.t 5), none⟩,
    ⟨some 11, .bin .add (.t 10) (.c (.v (.int .i64 1))), none⟩,
    ⟨some 5, .mv (.t 11), none⟩])))
def e170x0 : Exits := [((.exit 0), [(0, .o 5), (1, .c (.i .i64))])]
noncomputable def l170x0 (T : Table) (k : Nat) := loopN (evalC ⟨T, [0]⟩ k b170x0 (Ex × List AV)) [0, 1, 5] e170x0
def a170 : AFun := ⟨[.lent, .rd], false, [.t 4], (
  .seq (.reg false [⟨some 4, .mv (.c (.v (.int .i64 0))), none⟩]) (
  .seq (.seq (.reg false [⟨some 5, .mv (.c (.v (.int .i64 0))), none⟩]) (
  .block 0 (.loop [0, 1, 5] e170x0 b170x0))) (
  .seq (.reg false [⟨some 48, .mv (.t 1), none⟩,
    ⟨some 4, .mv (.t 48), none⟩]) (
  .ret))))⟩
theorem l170x0s (T : Table) (k n : Nat) (l3 : Rows) (n4 : Int) (n5 : Int) : l170x0 T k (n + 1) [(.o 5 l3), (.v (.int .i64 n4)), (.v (.int .i64 n5))] = (
 bif (decide (n5 < (l3.length : Int))) then (
 tst (decide (0 ≤ n5) && decide (Int.toNat n5 < l3.length)) (
 callT T 167 [(.d (.v (.int .i64 (IntKind.wrap .i64 (n4 + 1)))))] fun o6 =>
 oD o6.res fun d7 =>
 dS d7 fun s8 =>
 tst (decide (0 ≤ n5) && decide (Int.toNat n5 < (setD l3 (Int.toNat n5) 0 (.v (.int .i64 n4))).length)) (
 tst (decide (0 ≤ n5) && decide (Int.toNat n5 < (setD (setD l3 (Int.toNat n5) 0 (.v (.int .i64 n4))) (Int.toNat n5) 1 (.v (.string s8))).length)) (
 tst (decide (0 ≤ n5) && decide (Int.toNat n5 < (setD (setD (setD l3 (Int.toNat n5) 0 (.v (.int .i64 n4))) (Int.toNat n5) 1 (.v (.string s8))) (Int.toNat n5) 2 (.v (.int .i64 (IntKind.wrap .i64 ((IntKind.wrap .i64 (n4 + 1)) + 1))))).length)) (
 look (setD (setD (setD l3 (Int.toNat n5) 0 (.v (.int .i64 n4))) (Int.toNat n5) 1 (.v (.string s8))) (Int.toNat n5) 2 (.v (.int .i64 (IntKind.wrap .i64 ((IntKind.wrap .i64 (n4 + 1)) + 1))))) (Int.toNat n5) fun r9 =>
 cL 1 r9 3 fun l10 =>
 callT T 66 [(.d (.s 1 l10)), (.d (.v (.int .i64 (IntKind.wrap .i64 ((IntKind.wrap .i64 ((IntKind.wrap .i64 (n4 + 1)) + 1)) + 1)))))] fun o11 =>
 nth o11.back 0 fun i12 =>
 oD i12 fun d13 =>
 dL 1 d13 fun l14 =>
 oD o11.res fun d15 =>
 dI .i64 d15 fun n16 =>
 tst (decide (0 ≤ n5) && decide (Int.toNat n5 < (setD (setD (setD l3 (Int.toNat n5) 0 (.v (.int .i64 n4))) (Int.toNat n5) 1 (.v (.string s8))) (Int.toNat n5) 2 (.v (.int .i64 (IntKind.wrap .i64 ((IntKind.wrap .i64 (n4 + 1)) + 1))))).length)) (
 look (setD (setD (setD l3 (Int.toNat n5) 0 (.v (.int .i64 n4))) (Int.toNat n5) 1 (.v (.string s8))) (Int.toNat n5) 2 (.v (.int .i64 (IntKind.wrap .i64 ((IntKind.wrap .i64 (n4 + 1)) + 1))))) (Int.toNat n5) fun r17 =>
 cL 5 r17 4 fun l18 =>
 callT T 170 [(.d (.s 5 l18)), (.d (.v (.int .i64 n16)))] fun o19 =>
 nth o19.back 0 fun i20 =>
 oD i20 fun d21 =>
 dL 5 d21 fun l22 =>
 oD o19.res fun d23 =>
 dI .i64 d23 fun n24 =>
 l170x0 T k n [(.o 5 (setD (setD (setD (setD (setD l3 (Int.toNat n5) 0 (.v (.int .i64 n4))) (Int.toNat n5) 1 (.v (.string s8))) (Int.toNat n5) 2 (.v (.int .i64 (IntKind.wrap .i64 ((IntKind.wrap .i64 (n4 + 1)) + 1))))) (Int.toNat n5) 4 (.s 5 l22)) (Int.toNat n5) 3 (.s 1 l14))), (.v (.int .i64 n24)), (.v (.int .i64 (IntKind.wrap .i64 (n5 + 1))))])))))) else (
 some ((.exit 0), [(.o 5 l3), (.v (.int .i64 n4))]))) := by kernel_rfl
theorem a170q (T : Table) (k : Nat) (l1 : Rows) (n2 : Int) : evalF T k a170 [(.d (.s 5 l1)), (.d (.v (.int .i64 n2)))] = (
 aft (l170x0 T k k [(.o 5 l1), (.v (.int .i64 n2)), (.v (.int .i64 0))]) fun e25 ys26 =>
 bif e25.same (.exit 0) then (
 aV ys26 0 fun x27 =>
 aO 5 x27 fun l28 =>
 aV ys26 1 fun x29 =>
 aI .i64 x29 fun n30 =>
 some ⟨(.d (.v (.int .i64 n30))), [(.d (.s 5 l28))]⟩) else (
 none)) := by kernel_rfl
/- loop.example/g00119/laws.markOpS -/
def b274x0 : ACode := (
  .seq (.seq (.reg false [⟨some 6, .mv (.t 5), none⟩,
    ⟨some 7, .mv (.t 0), none⟩,
    ⟨some 8, .len false (.t 7), none⟩,
    ⟨some 9, .bin .lss (.t 6) (.t 8), none⟩]) (
  .cond (.t 9) (.skip) (.exit 0))) (
  .seq (.block 1 (.seq (.reg false [⟨some 12, .mv (.t 0), none⟩,
      ⟨some 13, .mv (.t 5), none⟩,
      ⟨some 14, .mv (.t 1), none⟩,
      ⟨some 15, .iad 7 (.t 12) (.t 13), none⟩,
      ⟨some 16, .fad 0 (.t 15), none⟩,
      ⟨none, .store 1 (.t 16) (.t 14), none⟩]) (
    .seq (.reg false [⟨some 17, .mv (.t 1), none⟩,
      ⟨some 18, .bin .add (.t 17) (.c (.v (.int .i64 1))), none⟩,
      ⟨some 1, .mv (.t 18), none⟩]) (
    .seq (.reg false [⟨some 19, .mv (.t 0), none⟩,
      ⟨some 20, .mv (.t 5), none⟩,
      ⟨some 21, .iad 7 (.t 19) (.t 20), none⟩,
      ⟨some 22, .fad 1 (.t 21), none⟩,
      ⟨some 23, .load false [(.sl 1)] (.t 22), none⟩,
      ⟨some 24, .mv (.t 1), none⟩,
      ⟨some 25, .call (.f 66) [.lent, .rd] false [.c (.i .i64)] [(.t 23), (.t 24)], none⟩,
      ⟨some 1, .mv (.t 25), none⟩]) (
    .seq (.reg false [⟨some 26, .mv (.t 0), none⟩,
      ⟨some 27, .mv (.t 5), none⟩,
      ⟨some 28, .mv (.t 1), none⟩,
      ⟨some 29, .iad 7 (.t 26) (.t 27), none⟩,
      ⟨some 30, .fad 2 (.t 29), none⟩,
      ⟨some 31, .fad 0 (.t 30), none⟩,
      ⟨none, .store 1 (.t 31) (.t 28), none⟩]) (
    .seq (.reg false [⟨some 32, .mv (.t 1), none⟩,
      ⟨some 33, .bin .add (.t 32) (.c (.v (.int .i64 1))), none⟩,
      ⟨some 1, .mv (.t 33), none⟩]) (
    .seq (.reg false [⟨some 34, .mv (.t 0), none⟩,
      ⟨some 35, .mv (.t 5), none⟩,
      ⟨some 36, .mv (.t 1), none⟩,
      ⟨some 37, .call (.f 167) [.rd] false [.c .s] [(.t 36)], none⟩,
      ⟨some 38, .iad 7 (.t 34) (.t 35), none⟩,
      ⟨some 39, .fad 2 (.t 38), none⟩,
      ⟨some 40, .fad 1 (.t 39), none⟩,
      ⟨none, .store 1 (.t 40) (.t 37), none⟩]) (
    .seq (.reg false [⟨some 41, .mv (.t 1), none⟩,
      ⟨some 42, .bin .add (.t 41) (.c (.v (.int .i64 1))), none⟩,
      ⟨some 1, .mv (.t 42), none⟩]) (
    .seq (.reg false [⟨some 43, .mv (.t 0), none⟩,
      ⟨some 44, .mv (.t 5), none⟩,
      ⟨some 45, .mv (.t 1), none⟩,
      ⟨some 46, .iad 7 (.t 43) (.t 44), none⟩,
      ⟨some 47, .fad 2 (.t 46), none⟩,
      ⟨some 48, .fad 2 (.t 47), none⟩,
      ⟨none, .store 1 (.t 48) (.t 45), none⟩]) (
    .seq (.reg false [⟨some 49, .mv (.t 1), none⟩,
      ⟨some 50, .bin .add (.t 49) (.c (.v (.int .i64 1))), none⟩,
      ⟨some 1, .mv (.t 50), none⟩]) (
    .seq (.reg false [⟨some 51, .mv (.t 0), none⟩,
      ⟨some 52, .mv (.t 5), none⟩,
      ⟨some 53, .iad 7 (.t 51) (.t 52), none⟩,
      ⟨some 54, .fad 2 (.t 53), none⟩,
      ⟨some 55, .fad 3 (.t 54), none⟩,
      ⟨some 56, .load false [(.sl 1)] (.t 55), none⟩,
      ⟨some 57, .mv (.t 1), none⟩,
      ⟨some 58, .call (.f 66) [.lent, .rd] false [.c (.i .i64)] [(.t 56), (.t 57)], none⟩,
      ⟨some 1, .mv (.t 58), none⟩]) (
    .reg false [⟨some 59, .mv (.t 0), none⟩,
      ⟨some 60, .mv (.t 5), none⟩,
      ⟨some 61, .iad 7 (.t 59) (.t 60), none⟩,
      ⟨some 62, .fad 2 (.t 61), none⟩,
      ⟨some 63, .fad 4 (.t 62), none⟩,
      ⟨some 64, .load false [(.sl 5)] (.t 63), none⟩,
      ⟨some 65, .mv (.t 1), none⟩,
      ⟨some 66, .call (.f 170) [.lent, .rd] false [.c (.i .i64)] [(.t 64), (.t 65)], none⟩,
      ⟨some 1, .mv (.t 66), none⟩])))))))))))) (
  .reg false [⟨some 10, .mv (.t 5), none⟩,
    ⟨some 11, .bin .add (.t 10) (.c (.v (.int .i64 1))), none⟩,
    ⟨some 5, .mv (.t 11), none⟩])))
def e274x0 : Exits := [((.exit 0), [(0, .o 7), (1, .c (.i .i64))])]
noncomputable def l274x0 (T : Table) (k : Nat) := loopN (evalC ⟨T, [0]⟩ k b274x0 (Ex × List AV)) [0, 1, 5] e274x0
def a274 : AFun := ⟨[.lent, .rd], false, [.t 4], (
  .seq (.reg false [⟨some 4, .mv (.c (.v (.int .i64 0))), none⟩]) (
  .seq (.seq (.reg false [⟨some 5, .mv (.c (.v (.int .i64 0))), none⟩]) (
  .block 0 (.loop [0, 1, 5] e274x0 b274x0))) (
  .seq (.reg false [⟨some 67, .mv (.t 1), none⟩,
    ⟨some 4, .mv (.t 67), none⟩]) (
  .ret))))⟩
theorem l274x0s (T : Table) (k n : Nat) (l3 : Rows) (n4 : Int) (n5 : Int) : l274x0 T k (n + 1) [(.o 7 l3), (.v (.int .i64 n4)), (.v (.int .i64 n5))] = (
 bif (decide (n5 < (l3.length : Int))) then (
 tst (decide (0 ≤ n5) && decide (Int.toNat n5 < l3.length)) (
 tst (decide (0 ≤ n5) && decide (Int.toNat n5 < (setD l3 (Int.toNat n5) 0 (.v (.int .i64 n4))).length)) (
 look (setD l3 (Int.toNat n5) 0 (.v (.int .i64 n4))) (Int.toNat n5) fun r6 =>
 cL 1 r6 1 fun l7 =>
 callT T 66 [(.d (.s 1 l7)), (.d (.v (.int .i64 (IntKind.wrap .i64 (n4 + 1)))))] fun o8 =>
 nth o8.back 0 fun i9 =>
 oD i9 fun d10 =>
 dL 1 d10 fun l11 =>
 oD o8.res fun d12 =>
 dI .i64 d12 fun n13 =>
 tst (decide (0 ≤ n5) && decide (Int.toNat n5 < (setD l3 (Int.toNat n5) 0 (.v (.int .i64 n4))).length)) (
 callT T 167 [(.d (.v (.int .i64 (IntKind.wrap .i64 (n13 + 1)))))] fun o14 =>
 oD o14.res fun d15 =>
 dS d15 fun s16 =>
 tst (decide (0 ≤ n5) && decide (Int.toNat n5 < (setD (setD l3 (Int.toNat n5) 0 (.v (.int .i64 n4))) (Int.toNat n5) 2 (.v (.int .i64 n13))).length)) (
 tst (decide (0 ≤ n5) && decide (Int.toNat n5 < (setD (setD (setD l3 (Int.toNat n5) 0 (.v (.int .i64 n4))) (Int.toNat n5) 2 (.v (.int .i64 n13))) (Int.toNat n5) 3 (.v (.string s16))).length)) (
 tst (decide (0 ≤ n5) && decide (Int.toNat n5 < (setD (setD (setD (setD l3 (Int.toNat n5) 0 (.v (.int .i64 n4))) (Int.toNat n5) 2 (.v (.int .i64 n13))) (Int.toNat n5) 3 (.v (.string s16))) (Int.toNat n5) 4 (.v (.int .i64 (IntKind.wrap .i64 ((IntKind.wrap .i64 (n13 + 1)) + 1))))).length)) (
 look (setD (setD (setD (setD l3 (Int.toNat n5) 0 (.v (.int .i64 n4))) (Int.toNat n5) 2 (.v (.int .i64 n13))) (Int.toNat n5) 3 (.v (.string s16))) (Int.toNat n5) 4 (.v (.int .i64 (IntKind.wrap .i64 ((IntKind.wrap .i64 (n13 + 1)) + 1))))) (Int.toNat n5) fun r17 =>
 cL 1 r17 5 fun l18 =>
 callT T 66 [(.d (.s 1 l18)), (.d (.v (.int .i64 (IntKind.wrap .i64 ((IntKind.wrap .i64 ((IntKind.wrap .i64 (n13 + 1)) + 1)) + 1)))))] fun o19 =>
 nth o19.back 0 fun i20 =>
 oD i20 fun d21 =>
 dL 1 d21 fun l22 =>
 oD o19.res fun d23 =>
 dI .i64 d23 fun n24 =>
 tst (decide (0 ≤ n5) && decide (Int.toNat n5 < (setD (setD (setD (setD l3 (Int.toNat n5) 0 (.v (.int .i64 n4))) (Int.toNat n5) 2 (.v (.int .i64 n13))) (Int.toNat n5) 3 (.v (.string s16))) (Int.toNat n5) 4 (.v (.int .i64 (IntKind.wrap .i64 ((IntKind.wrap .i64 (n13 + 1)) + 1))))).length)) (
 look (setD (setD (setD (setD l3 (Int.toNat n5) 0 (.v (.int .i64 n4))) (Int.toNat n5) 2 (.v (.int .i64 n13))) (Int.toNat n5) 3 (.v (.string s16))) (Int.toNat n5) 4 (.v (.int .i64 (IntKind.wrap .i64 ((IntKind.wrap .i64 (n13 + 1)) + 1))))) (Int.toNat n5) fun r25 =>
 cL 5 r25 6 fun l26 =>
 callT T 170 [(.d (.s 5 l26)), (.d (.v (.int .i64 n24)))] fun o27 =>
 nth o27.back 0 fun i28 =>
 oD i28 fun d29 =>
 dL 5 d29 fun l30 =>
 oD o27.res fun d31 =>
 dI .i64 d31 fun n32 =>
 l274x0 T k n [(.o 7 (setD (setD (setD (setD (setD (setD (setD l3 (Int.toNat n5) 0 (.v (.int .i64 n4))) (Int.toNat n5) 2 (.v (.int .i64 n13))) (Int.toNat n5) 3 (.v (.string s16))) (Int.toNat n5) 4 (.v (.int .i64 (IntKind.wrap .i64 ((IntKind.wrap .i64 (n13 + 1)) + 1))))) (Int.toNat n5) 6 (.s 5 l30)) (Int.toNat n5) 5 (.s 1 l22)) (Int.toNat n5) 1 (.s 1 l11))), (.v (.int .i64 n32)), (.v (.int .i64 (IntKind.wrap .i64 (n5 + 1))))])))))))) else (
 some ((.exit 0), [(.o 7 l3), (.v (.int .i64 n4))]))) := by kernel_rfl
theorem a274q (T : Table) (k : Nat) (l1 : Rows) (n2 : Int) : evalF T k a274 [(.d (.s 7 l1)), (.d (.v (.int .i64 n2)))] = (
 aft (l274x0 T k k [(.o 7 l1), (.v (.int .i64 n2)), (.v (.int .i64 0))]) fun e33 ys34 =>
 bif e33.same (.exit 0) then (
 aV ys34 0 fun x35 =>
 aO 7 x35 fun l36 =>
 aV ys34 1 fun x37 =>
 aI .i64 x37 fun n38 =>
 some ⟨(.d (.v (.int .i64 n38))), [(.d (.s 7 l36))]⟩) else (
 none)) := by kernel_rfl
/- loop.example/g00119/laws.markOverS -/
def b171x0 : ACode := (
  .seq (.seq (.reg false [⟨some 6, .mv (.t 5), none⟩,
    ⟨some 7, .mv (.t 0), none⟩,
    ⟨some 8, .len false (.t 7), none⟩,
    ⟨some 9, .bin .lss (.t 6) (.t 8), none⟩]) (
  .cond (.t 9) (.skip) (.exit 0))) (
  .seq (.block 1 (.seq (.reg false [⟨some 12, .mv (.t 0), none⟩,
      ⟨some 13, .mv (.t 5), none⟩,
      ⟨some 14, .mv (.t 1), none⟩,
      ⟨some 15, .call (.f 167) [.rd] false [.c .s] [(.t 14)], none⟩,
      ⟨some 16, .iad 2 (.t 12) (.t 13), none⟩,
      ⟨some 17, .fad 0 (.t 16), none⟩,
      ⟨none, .store 1 (.t 17) (.t 15), none⟩]) (
    .seq (.reg false [⟨some 18, .mv (.t 1), none⟩,
      ⟨some 19, .bin .add (.t 18) (.c (.v (.int .i64 1))), none⟩,
      ⟨some 1, .mv (.t 19), none⟩]) (
    .reg false [⟨some 20, .mv (.t 0), none⟩,
      ⟨some 21, .mv (.t 5), none⟩,
      ⟨some 22, .iad 2 (.t 20) (.t 21), none⟩,
      ⟨some 23, .fad 1 (.t 22), none⟩,
      ⟨some 24, .load false [(.sl 7)] (.t 23), none⟩,
      ⟨some 25, .mv (.t 1), none⟩,
      ⟨some 26, .call (.f 274) [.lent, .rd] false [.c (.i .i64)] [(.t 24), (.t 25)], none⟩,
      ⟨some 1, .mv (.t 26), none⟩])))) (
  .reg false [⟨some 10, .mv (.t 5), none⟩,
    ⟨some 11, .bin .add (.t 10) (.c (.v (.int .i64 1))), none⟩,
    ⟨some 5, .mv (.t 11), none⟩])))
def e171x0 : Exits := [((.exit 0), [(0, .o 2), (1, .c (.i .i64))])]
noncomputable def l171x0 (T : Table) (k : Nat) := loopN (evalC ⟨T, [0]⟩ k b171x0 (Ex × List AV)) [0, 1, 5] e171x0
def a171 : AFun := ⟨[.lent, .rd], false, [.t 4], (
  .seq (.reg false [⟨some 4, .mv (.c (.v (.int .i64 0))), none⟩]) (
  .seq (.seq (.reg false [⟨some 5, .mv (.c (.v (.int .i64 0))), none⟩]) (
  .block 0 (.loop [0, 1, 5] e171x0 b171x0))) (
  .seq (.reg false [⟨some 27, .mv (.t 1), none⟩,
    ⟨some 4, .mv (.t 27), none⟩]) (
  .ret))))⟩
theorem l171x0s (T : Table) (k n : Nat) (l3 : Rows) (n4 : Int) (n5 : Int) : l171x0 T k (n + 1) [(.o 2 l3), (.v (.int .i64 n4)), (.v (.int .i64 n5))] = (
 bif (decide (n5 < (l3.length : Int))) then (
 callT T 167 [(.d (.v (.int .i64 n4)))] fun o6 =>
 oD o6.res fun d7 =>
 dS d7 fun s8 =>
 tst (decide (0 ≤ n5) && decide (Int.toNat n5 < l3.length)) (
 tst (decide (0 ≤ n5) && decide (Int.toNat n5 < (setD l3 (Int.toNat n5) 0 (.v (.string s8))).length)) (
 look (setD l3 (Int.toNat n5) 0 (.v (.string s8))) (Int.toNat n5) fun r9 =>
 cL 7 r9 1 fun l10 =>
 callT T 274 [(.d (.s 7 l10)), (.d (.v (.int .i64 (IntKind.wrap .i64 (n4 + 1)))))] fun o11 =>
 nth o11.back 0 fun i12 =>
 oD i12 fun d13 =>
 dL 7 d13 fun l14 =>
 oD o11.res fun d15 =>
 dI .i64 d15 fun n16 =>
 l171x0 T k n [(.o 2 (setD (setD l3 (Int.toNat n5) 0 (.v (.string s8))) (Int.toNat n5) 1 (.s 7 l14))), (.v (.int .i64 n16)), (.v (.int .i64 (IntKind.wrap .i64 (n5 + 1))))]))) else (
 some ((.exit 0), [(.o 2 l3), (.v (.int .i64 n4))]))) := by kernel_rfl
theorem a171q (T : Table) (k : Nat) (l1 : Rows) (n2 : Int) : evalF T k a171 [(.d (.s 2 l1)), (.d (.v (.int .i64 n2)))] = (
 aft (l171x0 T k k [(.o 2 l1), (.v (.int .i64 n2)), (.v (.int .i64 0))]) fun e17 ys18 =>
 bif e17.same (.exit 0) then (
 aV ys18 0 fun x19 =>
 aO 2 x19 fun l20 =>
 aV ys18 1 fun x21 =>
 aI .i64 x21 fun n22 =>
 some ⟨(.d (.v (.int .i64 n22))), [(.d (.s 2 l20))]⟩) else (
 none)) := by kernel_rfl
/- loop.example/g00119/laws.markJobS -/
def b63x0 : ACode := (
  .seq (.seq (.reg false [⟨some 6, .mv (.t 5), none⟩,
    ⟨some 7, .mv (.t 0), none⟩,
    ⟨some 8, .len false (.t 7), none⟩,
    ⟨some 9, .bin .lss (.t 6) (.t 8), none⟩]) (
  .cond (.t 9) (.skip) (.exit 0))) (
  .seq (.block 1 (.seq (.reg false [⟨some 12, .mv (.t 0), none⟩,
      ⟨some 13, .mv (.t 5), none⟩,
      ⟨some 14, .mv (.t 1), none⟩,
      ⟨some 15, .iad 13 (.t 12) (.t 13), none⟩,
      ⟨some 16, .fad 0 (.t 15), none⟩,
      ⟨none, .store 1 (.t 16) (.t 14), none⟩]) (
    .seq (.reg false [⟨some 17, .mv (.t 1), none⟩,
      ⟨some 18, .bin .add (.t 17) (.c (.v (.int .i64 1))), none⟩,
      ⟨some 1, .mv (.t 18), none⟩]) (
    .seq (.reg false [⟨some 19, .mv (.t 0), none⟩,
      ⟨some 20, .mv (.t 5), none⟩,
      ⟨some 21, .mv (.t 1), none⟩,
      ⟨some 22, .call (.f 167) [.rd] false [.c .s] [(.t 21)], none⟩,
      ⟨some 23, .iad 13 (.t 19) (.t 20), none⟩,
      ⟨some 24, .fad 1 (.t 23), none⟩,
      ⟨none, .store 1 (.t 24) (.t 22), none⟩]) (
    .seq (.reg false [⟨some 25, .mv (.t 1), none⟩,
      ⟨some 26, .bin .add (.t 25) (.c (.v (.int .i64 1))), none⟩,
      ⟨some 1, .mv (.t 26), none⟩]) (
    .seq (.reg false [⟨some 27, .mv (.t 0), none⟩,
      ⟨some 28, .mv (.t 5), none⟩,
      ⟨some 29, .mv (.t 1), none⟩,
      ⟨some 30, .iad 13 (.t 27) (.t 28), none⟩,
      ⟨some 31, .fad 2 (.t 30), none⟩,
      ⟨some 32, .fad 0 (.t 31), none⟩,
      ⟨none, .store 1 (.t 32) (.t 29), none⟩]) (
    .seq (.reg false [⟨some 33, .mv (.t 1), none⟩,
      ⟨some 34, .bin .add (.t 33) (.c (.v (.int .i64 1))), none⟩,
      ⟨some 1, .mv (.t 34), none⟩]) (
    .seq (.reg false [⟨some 35, .mv (.t 0), none⟩,
      ⟨some 36, .mv (.t 5), none⟩,
      ⟨some 37, .iad 13 (.t 35) (.t 36), none⟩,
      ⟨some 38, .fad 2 (.t 37), none⟩,
      ⟨some 39, .fad 1 (.t 38), none⟩,
      ⟨some 40, .load false [(.sl 3)] (.t 39), none⟩,
      ⟨some 41, .mv (.t 1), none⟩,
      ⟨some 42, .call (.f 168) [.lent, .rd] false [.c (.i .i64)] [(.t 40), (.t 41)], none⟩,
      ⟨some 1, .mv (.t 42), none⟩]) (
    .seq (.reg false [⟨some 43, .mv (.t 0), none⟩,
      ⟨some 44, .mv (.t 5), none⟩,
      ⟨some 45, .iad 13 (.t 43) (.t 44), none⟩,
      ⟨some 46, .fad 2 (.t 45), none⟩,
      ⟨some 47, .fad 2 (.t 46), none⟩,
      ⟨some 48, .load false [(.sl 1)] (.t 47), none⟩,
      ⟨some 49, .mv (.t 1), none⟩,
      ⟨some 50, .call (.f 66) [.lent, .rd] false [.c (.i .i64)] [(.t 48), (.t 49)], none⟩,
      ⟨some 1, .mv (.t 50), none⟩]) (
    .seq (.reg false [⟨some 51, .mv (.t 0), none⟩,
      ⟨some 52, .mv (.t 5), none⟩,
      ⟨some 53, .iad 13 (.t 51) (.t 52), none⟩,
      ⟨some 54, .fad 2 (.t 53), none⟩,
      ⟨some 55, .fad 3 (.t 54), none⟩,
      ⟨some 56, .load false [(.sl 2)] (.t 55), none⟩,
      ⟨some 57, .mv (.t 1), none⟩,
      ⟨some 58, .call (.f 169) [.lent, .rd] false [.c (.i .i64)] [(.t 56), (.t 57)], none⟩,
      ⟨some 1, .mv (.t 58), none⟩]) (
    .seq (.reg false [⟨some 59, .mv (.t 0), none⟩,
      ⟨some 60, .mv (.t 5), none⟩,
      ⟨some 61, .mv (.t 1), none⟩,
      ⟨some 62, .iad 13 (.t 59) (.t 60), none⟩,
      ⟨some 63, .fad 6 (.t 62), none⟩,
      ⟨some 64, .fad 0 (.t 63), none⟩,
      ⟨none, .store 1 (.t 64) (.t 61), none⟩]) (
    .seq (.reg false [⟨some 65, .mv (.t 1), none⟩,
      ⟨some 66, .bin .add (.t 65) (.c (.v (.int .i64 1))), none⟩,
      ⟨some 1, .mv (.t 66), none⟩]) (
    .seq (.reg false [⟨some 67, .mv (.t 0), none⟩,
      ⟨some 68, .mv (.t 5), none⟩,
      ⟨some 69, .mv (.t 1), none⟩,
      ⟨some 70, .call (.f 167) [.rd] false [.c .s] [(.t 69)], none⟩,
      ⟨some 71, .iad 13 (.t 67) (.t 68), none⟩,
      ⟨some 72, .fad 6 (.t 71), none⟩,
      ⟨some 73, .fad 1 (.t 72), none⟩,
      ⟨none, .store 1 (.t 73) (.t 70), none⟩]) (
    .seq (.reg false [⟨some 74, .mv (.t 1), none⟩,
      ⟨some 75, .bin .add (.t 74) (.c (.v (.int .i64 1))), none⟩,
      ⟨some 1, .mv (.t 75), none⟩]) (
    .seq (.reg false [⟨some 76, .mv (.t 0), none⟩,
      ⟨some 77, .mv (.t 5), none⟩,
      ⟨some 78, .mv (.t 1), none⟩,
      ⟨some 79, .iad 13 (.t 76) (.t 77), none⟩,
      ⟨some 80, .fad 6 (.t 79), none⟩,
      ⟨some 81, .fad 2 (.t 80), none⟩,
      ⟨none, .store 1 (.t 81) (.t 78), none⟩]) (
    .seq (.reg false [⟨some 82, .mv (.t 1), none⟩,
      ⟨some 83, .bin .add (.t 82) (.c (.v (.int .i64 1))), none⟩,
      ⟨some 1, .mv (.t 83), none⟩]) (
    .seq (.reg false [⟨some 84, .mv (.t 0), none⟩,
      ⟨some 85, .mv (.t 5), none⟩,
      ⟨some 86, .iad 13 (.t 84) (.t 85), none⟩,
      ⟨some 87, .fad 6 (.t 86), none⟩,
      ⟨some 88, .fad 3 (.t 87), none⟩,
      ⟨some 89, .load false [(.sl 1)] (.t 88), none⟩,
      ⟨some 90, .mv (.t 1), none⟩,
      ⟨some 91, .call (.f 66) [.lent, .rd] false [.c (.i .i64)] [(.t 89), (.t 90)], none⟩,
      ⟨some 1, .mv (.t 91), none⟩]) (
    .seq (.reg false [⟨some 92, .mv (.t 0), none⟩,
      ⟨some 93, .mv (.t 5), none⟩,
      ⟨some 94, .iad 13 (.t 92) (.t 93), none⟩,
      ⟨some 95, .fad 6 (.t 94), none⟩,
      ⟨some 96, .fad 4 (.t 95), none⟩,
      ⟨some 97, .load false [(.sl 5)] (.t 96), none⟩,
      ⟨some 98, .mv (.t 1), none⟩,
      ⟨some 99, .call (.f 170) [.lent, .rd] false [.c (.i .i64)] [(.t 97), (.t 98)], none⟩,
      ⟨some 1, .mv (.t 99), none⟩]) (
    .seq (.reg false [⟨some 100, .mv (.t 0), none⟩,
      ⟨some 101, .mv (.t 5), none⟩,
      ⟨some 102, .iad 13 (.t 100) (.t 101), none⟩,
      ⟨some 103, .fad 11 (.t 102), none⟩,
      ⟨some 104, .load false [(.sl 2)] (.t 103), none⟩,
      ⟨some 105, .mv (.t 1), none⟩,
      ⟨some 106, .call (.f 171) [.lent, .rd] false [.c (.i .i64)] [(.t 104), (.t 105)], none⟩,
      ⟨some 1, .mv (.t 106), none⟩]) (
    .seq (.reg false [⟨some 107, .mv (.t 0), none⟩,
      ⟨some 108, .mv (.t 5), none⟩,
      ⟨some 109, .mv (.t 1), none⟩,
      ⟨some 110, .bin .rem (.t 109) (.c (.v (.int .i64 3))), none⟩,
      ⟨some 111, .bin .eql (.t 110) (.c (.v (.int .i64 0))), none⟩,
      ⟨some 112, .iad 13 (.t 107) (.t 108), none⟩,
      ⟨some 113, .fad 12 (.t 112), none⟩,
      ⟨none, .store 1 (.t 113) (.t 111), none⟩]) (
    .reg false [⟨some 114, .mv (.t 1), none⟩,
      ⟨some 115, .bin .add (.t 114) (.c (.v (.int .i64 1))), none⟩,
      ⟨some 1, .mv (.t 115), none⟩]))))))))))))))))))))) (
  .reg false [⟨some 10, .mv (.t 5), none⟩,
    ⟨some 11, .bin .add (.t 10) (.c (.v (.int .i64 1))), none⟩,
    ⟨some 5, .mv (.t 11), none⟩])))
def e63x0 : Exits := [((.exit 0), [(0, .o 13), (1, .c (.i .i64))])]
noncomputable def l63x0 (T : Table) (k : Nat) := loopN (evalC ⟨T, [0]⟩ k b63x0 (Ex × List AV)) [0, 1, 5] e63x0
def a63 : AFun := ⟨[.lent, .rd], false, [.t 4], (
  .seq (.reg false [⟨some 4, .mv (.c (.v (.int .i64 0))), none⟩]) (
  .seq (.seq (.reg false [⟨some 5, .mv (.c (.v (.int .i64 0))), none⟩]) (
  .block 0 (.loop [0, 1, 5] e63x0 b63x0))) (
  .seq (.reg false [⟨some 116, .mv (.t 1), none⟩,
    ⟨some 4, .mv (.t 116), none⟩]) (
  .ret))))⟩
theorem l63x0s (T : Table) (k n : Nat) (l3 : Rows) (n4 : Int) (n5 : Int) : l63x0 T k (n + 1) [(.o 13 l3), (.v (.int .i64 n4)), (.v (.int .i64 n5))] = (
 bif (decide (n5 < (l3.length : Int))) then (
 tst (decide (0 ≤ n5) && decide (Int.toNat n5 < l3.length)) (
 callT T 167 [(.d (.v (.int .i64 (IntKind.wrap .i64 (n4 + 1)))))] fun o6 =>
 oD o6.res fun d7 =>
 dS d7 fun s8 =>
 tst (decide (0 ≤ n5) && decide (Int.toNat n5 < (setD l3 (Int.toNat n5) 0 (.v (.int .i64 n4))).length)) (
 tst (decide (0 ≤ n5) && decide (Int.toNat n5 < (setD (setD l3 (Int.toNat n5) 0 (.v (.int .i64 n4))) (Int.toNat n5) 1 (.v (.string s8))).length)) (
 tst (decide (0 ≤ n5) && decide (Int.toNat n5 < (setD (setD (setD l3 (Int.toNat n5) 0 (.v (.int .i64 n4))) (Int.toNat n5) 1 (.v (.string s8))) (Int.toNat n5) 2 (.v (.int .i64 (IntKind.wrap .i64 ((IntKind.wrap .i64 (n4 + 1)) + 1))))).length)) (
 look (setD (setD (setD l3 (Int.toNat n5) 0 (.v (.int .i64 n4))) (Int.toNat n5) 1 (.v (.string s8))) (Int.toNat n5) 2 (.v (.int .i64 (IntKind.wrap .i64 ((IntKind.wrap .i64 (n4 + 1)) + 1))))) (Int.toNat n5) fun r9 =>
 cL 3 r9 3 fun l10 =>
 callT T 168 [(.d (.s 3 l10)), (.d (.v (.int .i64 (IntKind.wrap .i64 ((IntKind.wrap .i64 ((IntKind.wrap .i64 (n4 + 1)) + 1)) + 1)))))] fun o11 =>
 nth o11.back 0 fun i12 =>
 oD i12 fun d13 =>
 dL 3 d13 fun l14 =>
 oD o11.res fun d15 =>
 dI .i64 d15 fun n16 =>
 tst (decide (0 ≤ n5) && decide (Int.toNat n5 < (setD (setD (setD l3 (Int.toNat n5) 0 (.v (.int .i64 n4))) (Int.toNat n5) 1 (.v (.string s8))) (Int.toNat n5) 2 (.v (.int .i64 (IntKind.wrap .i64 ((IntKind.wrap .i64 (n4 + 1)) + 1))))).length)) (
 look (setD (setD (setD l3 (Int.toNat n5) 0 (.v (.int .i64 n4))) (Int.toNat n5) 1 (.v (.string s8))) (Int.toNat n5) 2 (.v (.int .i64 (IntKind.wrap .i64 ((IntKind.wrap .i64 (n4 + 1)) + 1))))) (Int.toNat n5) fun r17 =>
 cL 1 r17 4 fun l18 =>
 callT T 66 [(.d (.s 1 l18)), (.d (.v (.int .i64 n16)))] fun o19 =>
 nth o19.back 0 fun i20 =>
 oD i20 fun d21 =>
 dL 1 d21 fun l22 =>
 oD o19.res fun d23 =>
 dI .i64 d23 fun n24 =>
 tst (decide (0 ≤ n5) && decide (Int.toNat n5 < (setD (setD (setD l3 (Int.toNat n5) 0 (.v (.int .i64 n4))) (Int.toNat n5) 1 (.v (.string s8))) (Int.toNat n5) 2 (.v (.int .i64 (IntKind.wrap .i64 ((IntKind.wrap .i64 (n4 + 1)) + 1))))).length)) (
 look (setD (setD (setD l3 (Int.toNat n5) 0 (.v (.int .i64 n4))) (Int.toNat n5) 1 (.v (.string s8))) (Int.toNat n5) 2 (.v (.int .i64 (IntKind.wrap .i64 ((IntKind.wrap .i64 (n4 + 1)) + 1))))) (Int.toNat n5) fun r25 =>
 cL 2 r25 5 fun l26 =>
 callT T 169 [(.d (.s 2 l26)), (.d (.v (.int .i64 n24)))] fun o27 =>
 nth o27.back 0 fun i28 =>
 oD i28 fun d29 =>
 dL 2 d29 fun l30 =>
 oD o27.res fun d31 =>
 dI .i64 d31 fun n32 =>
 tst (decide (0 ≤ n5) && decide (Int.toNat n5 < (setD (setD (setD l3 (Int.toNat n5) 0 (.v (.int .i64 n4))) (Int.toNat n5) 1 (.v (.string s8))) (Int.toNat n5) 2 (.v (.int .i64 (IntKind.wrap .i64 ((IntKind.wrap .i64 (n4 + 1)) + 1))))).length)) (
 callT T 167 [(.d (.v (.int .i64 (IntKind.wrap .i64 (n32 + 1)))))] fun o33 =>
 oD o33.res fun d34 =>
 dS d34 fun s35 =>
 tst (decide (0 ≤ n5) && decide (Int.toNat n5 < (setD (setD (setD (setD l3 (Int.toNat n5) 0 (.v (.int .i64 n4))) (Int.toNat n5) 1 (.v (.string s8))) (Int.toNat n5) 2 (.v (.int .i64 (IntKind.wrap .i64 ((IntKind.wrap .i64 (n4 + 1)) + 1))))) (Int.toNat n5) 6 (.v (.int .i64 n32))).length)) (
 tst (decide (0 ≤ n5) && decide (Int.toNat n5 < (setD (setD (setD (setD (setD l3 (Int.toNat n5) 0 (.v (.int .i64 n4))) (Int.toNat n5) 1 (.v (.string s8))) (Int.toNat n5) 2 (.v (.int .i64 (IntKind.wrap .i64 ((IntKind.wrap .i64 (n4 + 1)) + 1))))) (Int.toNat n5) 6 (.v (.int .i64 n32))) (Int.toNat n5) 7 (.v (.string s35))).length)) (
 tst (decide (0 ≤ n5) && decide (Int.toNat n5 < (setD (setD (setD (setD (setD (setD l3 (Int.toNat n5) 0 (.v (.int .i64 n4))) (Int.toNat n5) 1 (.v (.string s8))) (Int.toNat n5) 2 (.v (.int .i64 (IntKind.wrap .i64 ((IntKind.wrap .i64 (n4 + 1)) + 1))))) (Int.toNat n5) 6 (.v (.int .i64 n32))) (Int.toNat n5) 7 (.v (.string s35))) (Int.toNat n5) 8 (.v (.int .i64 (IntKind.wrap .i64 ((IntKind.wrap .i64 (n32 + 1)) + 1))))).length)) (
 look (setD (setD (setD (setD (setD (setD l3 (Int.toNat n5) 0 (.v (.int .i64 n4))) (Int.toNat n5) 1 (.v (.string s8))) (Int.toNat n5) 2 (.v (.int .i64 (IntKind.wrap .i64 ((IntKind.wrap .i64 (n4 + 1)) + 1))))) (Int.toNat n5) 6 (.v (.int .i64 n32))) (Int.toNat n5) 7 (.v (.string s35))) (Int.toNat n5) 8 (.v (.int .i64 (IntKind.wrap .i64 ((IntKind.wrap .i64 (n32 + 1)) + 1))))) (Int.toNat n5) fun r36 =>
 cL 1 r36 9 fun l37 =>
 callT T 66 [(.d (.s 1 l37)), (.d (.v (.int .i64 (IntKind.wrap .i64 ((IntKind.wrap .i64 ((IntKind.wrap .i64 (n32 + 1)) + 1)) + 1)))))] fun o38 =>
 nth o38.back 0 fun i39 =>
 oD i39 fun d40 =>
 dL 1 d40 fun l41 =>
 oD o38.res fun d42 =>
 dI .i64 d42 fun n43 =>
 tst (decide (0 ≤ n5) && decide (Int.toNat n5 < (setD (setD (setD (setD (setD (setD l3 (Int.toNat n5) 0 (.v (.int .i64 n4))) (Int.toNat n5) 1 (.v (.string s8))) (Int.toNat n5) 2 (.v (.int .i64 (IntKind.wrap .i64 ((IntKind.wrap .i64 (n4 + 1)) + 1))))) (Int.toNat n5) 6 (.v (.int .i64 n32))) (Int.toNat n5) 7 (.v (.string s35))) (Int.toNat n5) 8 (.v (.int .i64 (IntKind.wrap .i64 ((IntKind.wrap .i64 (n32 + 1)) + 1))))).length)) (
 look (setD (setD (setD (setD (setD (setD l3 (Int.toNat n5) 0 (.v (.int .i64 n4))) (Int.toNat n5) 1 (.v (.string s8))) (Int.toNat n5) 2 (.v (.int .i64 (IntKind.wrap .i64 ((IntKind.wrap .i64 (n4 + 1)) + 1))))) (Int.toNat n5) 6 (.v (.int .i64 n32))) (Int.toNat n5) 7 (.v (.string s35))) (Int.toNat n5) 8 (.v (.int .i64 (IntKind.wrap .i64 ((IntKind.wrap .i64 (n32 + 1)) + 1))))) (Int.toNat n5) fun r44 =>
 cL 5 r44 10 fun l45 =>
 callT T 170 [(.d (.s 5 l45)), (.d (.v (.int .i64 n43)))] fun o46 =>
 nth o46.back 0 fun i47 =>
 oD i47 fun d48 =>
 dL 5 d48 fun l49 =>
 oD o46.res fun d50 =>
 dI .i64 d50 fun n51 =>
 tst (decide (0 ≤ n5) && decide (Int.toNat n5 < (setD (setD (setD (setD (setD (setD l3 (Int.toNat n5) 0 (.v (.int .i64 n4))) (Int.toNat n5) 1 (.v (.string s8))) (Int.toNat n5) 2 (.v (.int .i64 (IntKind.wrap .i64 ((IntKind.wrap .i64 (n4 + 1)) + 1))))) (Int.toNat n5) 6 (.v (.int .i64 n32))) (Int.toNat n5) 7 (.v (.string s35))) (Int.toNat n5) 8 (.v (.int .i64 (IntKind.wrap .i64 ((IntKind.wrap .i64 (n32 + 1)) + 1))))).length)) (
 look (setD (setD (setD (setD (setD (setD l3 (Int.toNat n5) 0 (.v (.int .i64 n4))) (Int.toNat n5) 1 (.v (.string s8))) (Int.toNat n5) 2 (.v (.int .i64 (IntKind.wrap .i64 ((IntKind.wrap .i64 (n4 + 1)) + 1))))) (Int.toNat n5) 6 (.v (.int .i64 n32))) (Int.toNat n5) 7 (.v (.string s35))) (Int.toNat n5) 8 (.v (.int .i64 (IntKind.wrap .i64 ((IntKind.wrap .i64 (n32 + 1)) + 1))))) (Int.toNat n5) fun r52 =>
 cL 2 r52 11 fun l53 =>
 callT T 171 [(.d (.s 2 l53)), (.d (.v (.int .i64 n51)))] fun o54 =>
 nth o54.back 0 fun i55 =>
 oD i55 fun d56 =>
 dL 2 d56 fun l57 =>
 oD o54.res fun d58 =>
 dI .i64 d58 fun n59 =>
 tst (decide (3 ≠ 0)) (
 tst (decide (0 ≤ n5) && decide (Int.toNat n5 < (setD (setD (setD (setD (setD (setD l3 (Int.toNat n5) 0 (.v (.int .i64 n4))) (Int.toNat n5) 1 (.v (.string s8))) (Int.toNat n5) 2 (.v (.int .i64 (IntKind.wrap .i64 ((IntKind.wrap .i64 (n4 + 1)) + 1))))) (Int.toNat n5) 6 (.v (.int .i64 n32))) (Int.toNat n5) 7 (.v (.string s35))) (Int.toNat n5) 8 (.v (.int .i64 (IntKind.wrap .i64 ((IntKind.wrap .i64 (n32 + 1)) + 1))))).length)) (
 l63x0 T k n [(.o 13 (setD (setD (setD (setD (setD (setD (setD (setD (setD (setD (setD (setD (setD l3 (Int.toNat n5) 0 (.v (.int .i64 n4))) (Int.toNat n5) 1 (.v (.string s8))) (Int.toNat n5) 2 (.v (.int .i64 (IntKind.wrap .i64 ((IntKind.wrap .i64 (n4 + 1)) + 1))))) (Int.toNat n5) 6 (.v (.int .i64 n32))) (Int.toNat n5) 7 (.v (.string s35))) (Int.toNat n5) 8 (.v (.int .i64 (IntKind.wrap .i64 ((IntKind.wrap .i64 (n32 + 1)) + 1))))) (Int.toNat n5) 12 (.v (.bool ((Int.tmod n59 3) == 0)))) (Int.toNat n5) 11 (.s 2 l57)) (Int.toNat n5) 10 (.s 5 l49)) (Int.toNat n5) 9 (.s 1 l41)) (Int.toNat n5) 5 (.s 2 l30)) (Int.toNat n5) 4 (.s 1 l22)) (Int.toNat n5) 3 (.s 3 l14))), (.v (.int .i64 (IntKind.wrap .i64 (n59 + 1)))), (.v (.int .i64 (IntKind.wrap .i64 (n5 + 1))))]))))))))))))))) else (
 some ((.exit 0), [(.o 13 l3), (.v (.int .i64 n4))]))) := by kernel_rfl
theorem a63q (T : Table) (k : Nat) (l1 : Rows) (n2 : Int) : evalF T k a63 [(.d (.s 13 l1)), (.d (.v (.int .i64 n2)))] = (
 aft (l63x0 T k k [(.o 13 l1), (.v (.int .i64 n2)), (.v (.int .i64 0))]) fun e60 ys61 =>
 bif e60.same (.exit 0) then (
 aV ys61 0 fun x62 =>
 aO 13 x62 fun l63 =>
 aV ys61 1 fun x64 =>
 aI .i64 x64 fun n65 =>
 some ⟨(.d (.v (.int .i64 n65))), [(.d (.s 13 l63))]⟩) else (
 none)) := by kernel_rfl
/- loop.example/g00119/laws.markLabelS -/
def b172x0 : ACode := (
  .seq (.seq (.reg false [⟨some 6, .mv (.t 5), none⟩,
    ⟨some 7, .mv (.t 0), none⟩,
    ⟨some 8, .len false (.t 7), none⟩,
    ⟨some 9, .bin .lss (.t 6) (.t 8), none⟩]) (
  .cond (.t 9) (.skip) (.exit 0))) (
  .seq (.block 1 (.seq (.reg false [⟨some 12, .mv (.t 0), none⟩,
      ⟨some 13, .mv (.t 5), none⟩,
      ⟨some 14, .mv (.t 1), none⟩,
      ⟨some 15, .call (.f 167) [.rd] false [.c .s] [(.t 14)], none⟩,
      ⟨some 16, .iad 2 (.t 12) (.t 13), none⟩,
      ⟨some 17, .fad 0 (.t 16), none⟩,
      ⟨none, .store 1 (.t 17) (.t 15), none⟩]) (
    .seq (.reg false [⟨some 18, .mv (.t 1), none⟩,
      ⟨some 19, .bin .add (.t 18) (.c (.v (.int .i64 1))), none⟩,
      ⟨some 1, .mv (.t 19), none⟩]) (
    .seq (.reg false [⟨some 20, .mv (.t 0), none⟩,
      ⟨some 21, .mv (.t 5), none⟩,
      ⟨some 22, .mv (.t 1), none⟩,
      ⟨some 23, .call (.f 167) [.rd] false [.c .s] [(.t 22)], none⟩,
      ⟨some 24, .iad 2 (.t 20) (.t 21), none⟩,
      ⟨some 25, .fad 1 (.t 24), none⟩,
      ⟨none, .store 1 (.t 25) (.t 23), none⟩]) (
    .reg false [⟨some 26, .mv (.t 1), none⟩,
      ⟨some 27, .bin .add (.t 26) (.c (.v (.int .i64 1))), none⟩,
      ⟨some 1, .mv (.t 27), none⟩]))))) (
  .reg false [⟨some 10, .mv (.t 5), none⟩,
    ⟨some 11, .bin .add (.t 10) (.c (.v (.int .i64 1))), none⟩,
    ⟨some 5, .mv (.t 11), none⟩])))
def e172x0 : Exits := [((.exit 0), [(0, .o 2), (1, .c (.i .i64))])]
noncomputable def l172x0 (T : Table) (k : Nat) := loopN (evalC ⟨T, [0]⟩ k b172x0 (Ex × List AV)) [0, 1, 5] e172x0
def a172 : AFun := ⟨[.lent, .rd], false, [.t 4], (
  .seq (.reg false [⟨some 4, .mv (.c (.v (.int .i64 0))), none⟩]) (
  .seq (.seq (.reg false [⟨some 5, .mv (.c (.v (.int .i64 0))), none⟩]) (
  .block 0 (.loop [0, 1, 5] e172x0 b172x0))) (
  .seq (.reg false [⟨some 28, .mv (.t 1), none⟩,
    ⟨some 4, .mv (.t 28), none⟩]) (
  .ret))))⟩
theorem l172x0s (T : Table) (k n : Nat) (l3 : Rows) (n4 : Int) (n5 : Int) : l172x0 T k (n + 1) [(.o 2 l3), (.v (.int .i64 n4)), (.v (.int .i64 n5))] = (
 bif (decide (n5 < (l3.length : Int))) then (
 callT T 167 [(.d (.v (.int .i64 n4)))] fun o6 =>
 oD o6.res fun d7 =>
 dS d7 fun s8 =>
 tst (decide (0 ≤ n5) && decide (Int.toNat n5 < l3.length)) (
 callT T 167 [(.d (.v (.int .i64 (IntKind.wrap .i64 (n4 + 1)))))] fun o9 =>
 oD o9.res fun d10 =>
 dS d10 fun s11 =>
 tst (decide (0 ≤ n5) && decide (Int.toNat n5 < (setD l3 (Int.toNat n5) 0 (.v (.string s8))).length)) (
 l172x0 T k n [(.o 2 (setD (setD l3 (Int.toNat n5) 0 (.v (.string s8))) (Int.toNat n5) 1 (.v (.string s11)))), (.v (.int .i64 (IntKind.wrap .i64 ((IntKind.wrap .i64 (n4 + 1)) + 1)))), (.v (.int .i64 (IntKind.wrap .i64 (n5 + 1))))]))) else (
 some ((.exit 0), [(.o 2 l3), (.v (.int .i64 n4))]))) := by kernel_rfl
theorem a172q (T : Table) (k : Nat) (l1 : Rows) (n2 : Int) : evalF T k a172 [(.d (.s 2 l1)), (.d (.v (.int .i64 n2)))] = (
 aft (l172x0 T k k [(.o 2 l1), (.v (.int .i64 n2)), (.v (.int .i64 0))]) fun e12 ys13 =>
 bif e12.same (.exit 0) then (
 aV ys13 0 fun x14 =>
 aO 2 x14 fun l15 =>
 aV ys13 1 fun x16 =>
 aI .i64 x16 fun n17 =>
 some ⟨(.d (.v (.int .i64 n17))), [(.d (.s 2 l15))]⟩) else (
 none)) := by kernel_rfl
/- loop.example/g00119/laws.markPostS -/
def b64x0 : ACode := (
  .seq (.seq (.reg false [⟨some 6, .mv (.t 5), none⟩,
    ⟨some 7, .mv (.t 0), none⟩,
    ⟨some 8, .len false (.t 7), none⟩,
    ⟨some 9, .bin .lss (.t 6) (.t 8), none⟩]) (
  .cond (.t 9) (.skip) (.exit 0))) (
  .seq (.block 1 (.seq (.reg false [⟨some 12, .mv (.t 0), none⟩,
      ⟨some 13, .mv (.t 5), none⟩,
      ⟨some 14, .mv (.t 1), none⟩,
      ⟨some 15, .call (.f 167) [.rd] false [.c .s] [(.t 14)], none⟩,
      ⟨some 16, .iad 6 (.t 12) (.t 13), none⟩,
      ⟨some 17, .fad 0 (.t 16), none⟩,
      ⟨some 18, .fad 0 (.t 17), none⟩,
      ⟨none, .store 1 (.t 18) (.t 15), none⟩]) (
    .seq (.reg false [⟨some 19, .mv (.t 1), none⟩,
      ⟨some 20, .bin .add (.t 19) (.c (.v (.int .i64 1))), none⟩,
      ⟨some 1, .mv (.t 20), none⟩]) (
    .seq (.reg false [⟨some 21, .mv (.t 0), none⟩,
      ⟨some 22, .mv (.t 5), none⟩,
      ⟨some 23, .iad 6 (.t 21) (.t 22), none⟩,
      ⟨some 24, .fad 0 (.t 23), none⟩,
      ⟨some 25, .fad 1 (.t 24), none⟩,
      ⟨some 26, .load false [(.sl 2)] (.t 25), none⟩,
      ⟨some 27, .mv (.t 1), none⟩,
      ⟨some 28, .call (.f 172) [.lent, .rd] false [.c (.i .i64)] [(.t 26), (.t 27)], none⟩,
      ⟨some 1, .mv (.t 28), none⟩]) (
    .seq (.reg false [⟨some 29, .mv (.t 0), none⟩,
      ⟨some 30, .mv (.t 5), none⟩,
      ⟨some 31, .iad 6 (.t 29) (.t 30), none⟩,
      ⟨some 32, .fad 0 (.t 31), none⟩,
      ⟨some 33, .fad 2 (.t 32), none⟩,
      ⟨some 34, .load false [(.sl 1)] (.t 33), none⟩,
      ⟨some 35, .mv (.t 1), none⟩,
      ⟨some 36, .call (.f 66) [.lent, .rd] false [.c (.i .i64)] [(.t 34), (.t 35)], none⟩,
      ⟨some 1, .mv (.t 36), none⟩]) (
    .seq (.reg false [⟨some 37, .mv (.t 0), none⟩,
      ⟨some 38, .mv (.t 5), none⟩,
      ⟨some 39, .mv (.t 1), none⟩,
      ⟨some 40, .iad 6 (.t 37) (.t 38), none⟩,
      ⟨some 41, .fad 0 (.t 40), none⟩,
      ⟨some 42, .fad 3 (.t 41), none⟩,
      ⟨none, .store 1 (.t 42) (.t 39), none⟩]) (
    .seq (.reg false [⟨some 43, .mv (.t 1), none⟩,
      ⟨some 44, .bin .add (.t 43) (.c (.v (.int .i64 1))), none⟩,
      ⟨some 1, .mv (.t 44), none⟩]) (
    .seq (.reg false [⟨some 45, .mv (.t 0), none⟩,
      ⟨some 46, .mv (.t 5), none⟩,
      ⟨some 47, .mv (.t 1), none⟩,
      ⟨some 48, .iad 6 (.t 45) (.t 46), none⟩,
      ⟨some 49, .fad 4 (.t 48), none⟩,
      ⟨none, .store 1 (.t 49) (.t 47), none⟩]) (
    .seq (.reg false [⟨some 50, .mv (.t 1), none⟩,
      ⟨some 51, .bin .add (.t 50) (.c (.v (.int .i64 1))), none⟩,
      ⟨some 1, .mv (.t 51), none⟩]) (
    .seq (.reg false [⟨some 52, .mv (.t 0), none⟩,
      ⟨some 53, .mv (.t 5), none⟩,
      ⟨some 54, .mv (.t 1), none⟩,
      ⟨some 55, .iad 6 (.t 52) (.t 53), none⟩,
      ⟨some 56, .fad 5 (.t 55), none⟩,
      ⟨none, .store 1 (.t 56) (.t 54), none⟩]) (
    .reg false [⟨some 57, .mv (.t 1), none⟩,
      ⟨some 58, .bin .add (.t 57) (.c (.v (.int .i64 1))), none⟩,
      ⟨some 1, .mv (.t 58), none⟩]))))))))))) (
  .reg false [⟨some 10, .mv (.t 5), none⟩,
    ⟨some 11, .bin .add (.t 10) (.c (.v (.int .i64 1))), none⟩,
    ⟨some 5, .mv (.t 11), none⟩])))
def e64x0 : Exits := [((.exit 0), [(0, .o 6), (1, .c (.i .i64))])]
noncomputable def l64x0 (T : Table) (k : Nat) := loopN (evalC ⟨T, [0]⟩ k b64x0 (Ex × List AV)) [0, 1, 5] e64x0
def a64 : AFun := ⟨[.lent, .rd], false, [.t 4], (
  .seq (.reg false [⟨some 4, .mv (.c (.v (.int .i64 0))), none⟩]) (
  .seq (.seq (.reg false [⟨some 5, .mv (.c (.v (.int .i64 0))), none⟩]) (
  .block 0 (.loop [0, 1, 5] e64x0 b64x0))) (
  .seq (.reg false [⟨some 59, .mv (.t 1), none⟩,
    ⟨some 4, .mv (.t 59), none⟩]) (
  .ret))))⟩
theorem l64x0s (T : Table) (k n : Nat) (l3 : Rows) (n4 : Int) (n5 : Int) : l64x0 T k (n + 1) [(.o 6 l3), (.v (.int .i64 n4)), (.v (.int .i64 n5))] = (
 bif (decide (n5 < (l3.length : Int))) then (
 callT T 167 [(.d (.v (.int .i64 n4)))] fun o6 =>
 oD o6.res fun d7 =>
 dS d7 fun s8 =>
 tst (decide (0 ≤ n5) && decide (Int.toNat n5 < l3.length)) (
 tst (decide (0 ≤ n5) && decide (Int.toNat n5 < (setD l3 (Int.toNat n5) 0 (.v (.string s8))).length)) (
 look (setD l3 (Int.toNat n5) 0 (.v (.string s8))) (Int.toNat n5) fun r9 =>
 cL 2 r9 1 fun l10 =>
 callT T 172 [(.d (.s 2 l10)), (.d (.v (.int .i64 (IntKind.wrap .i64 (n4 + 1)))))] fun o11 =>
 nth o11.back 0 fun i12 =>
 oD i12 fun d13 =>
 dL 2 d13 fun l14 =>
 oD o11.res fun d15 =>
 dI .i64 d15 fun n16 =>
 tst (decide (0 ≤ n5) && decide (Int.toNat n5 < (setD l3 (Int.toNat n5) 0 (.v (.string s8))).length)) (
 look (setD l3 (Int.toNat n5) 0 (.v (.string s8))) (Int.toNat n5) fun r17 =>
 cL 1 r17 2 fun l18 =>
 callT T 66 [(.d (.s 1 l18)), (.d (.v (.int .i64 n16)))] fun o19 =>
 nth o19.back 0 fun i20 =>
 oD i20 fun d21 =>
 dL 1 d21 fun l22 =>
 oD o19.res fun d23 =>
 dI .i64 d23 fun n24 =>
 tst (decide (0 ≤ n5) && decide (Int.toNat n5 < (setD l3 (Int.toNat n5) 0 (.v (.string s8))).length)) (
 tst (decide (0 ≤ n5) && decide (Int.toNat n5 < (setD (setD l3 (Int.toNat n5) 0 (.v (.string s8))) (Int.toNat n5) 3 (.v (.int .i64 n24))).length)) (
 tst (decide (0 ≤ n5) && decide (Int.toNat n5 < (setD (setD (setD l3 (Int.toNat n5) 0 (.v (.string s8))) (Int.toNat n5) 3 (.v (.int .i64 n24))) (Int.toNat n5) 4 (.v (.int .i64 (IntKind.wrap .i64 (n24 + 1))))).length)) (
 l64x0 T k n [(.o 6 (setD (setD (setD (setD (setD (setD l3 (Int.toNat n5) 0 (.v (.string s8))) (Int.toNat n5) 3 (.v (.int .i64 n24))) (Int.toNat n5) 4 (.v (.int .i64 (IntKind.wrap .i64 (n24 + 1))))) (Int.toNat n5) 5 (.v (.int .i64 (IntKind.wrap .i64 ((IntKind.wrap .i64 (n24 + 1)) + 1))))) (Int.toNat n5) 2 (.s 1 l22)) (Int.toNat n5) 1 (.s 2 l14))), (.v (.int .i64 (IntKind.wrap .i64 ((IntKind.wrap .i64 ((IntKind.wrap .i64 (n24 + 1)) + 1)) + 1)))), (.v (.int .i64 (IntKind.wrap .i64 (n5 + 1))))]))))))) else (
 some ((.exit 0), [(.o 6 l3), (.v (.int .i64 n4))]))) := by kernel_rfl
theorem a64q (T : Table) (k : Nat) (l1 : Rows) (n2 : Int) : evalF T k a64 [(.d (.s 6 l1)), (.d (.v (.int .i64 n2)))] = (
 aft (l64x0 T k k [(.o 6 l1), (.v (.int .i64 n2)), (.v (.int .i64 0))]) fun e25 ys26 =>
 bif e25.same (.exit 0) then (
 aV ys26 0 fun x27 =>
 aO 6 x27 fun l28 =>
 aV ys26 1 fun x29 =>
 aI .i64 x29 fun n30 =>
 some ⟨(.d (.v (.int .i64 n30))), [(.d (.s 6 l28))]⟩) else (
 none)) := by kernel_rfl
/- loop.example/g00119/laws.markHoldS -/
def b65x0 : ACode := (
  .seq (.seq (.reg false [⟨some 6, .mv (.t 5), none⟩,
    ⟨some 7, .mv (.t 0), none⟩,
    ⟨some 8, .len false (.t 7), none⟩,
    ⟨some 9, .bin .lss (.t 6) (.t 8), none⟩]) (
  .cond (.t 9) (.skip) (.exit 0))) (
  .seq (.block 1 (.seq (.reg false [⟨some 12, .mv (.t 0), none⟩,
      ⟨some 13, .mv (.t 5), none⟩,
      ⟨some 14, .mv (.t 1), none⟩,
      ⟨some 15, .iad 5 (.t 12) (.t 13), none⟩,
      ⟨some 16, .fad 0 (.t 15), none⟩,
      ⟨none, .store 1 (.t 16) (.t 14), none⟩]) (
    .seq (.reg false [⟨some 17, .mv (.t 1), none⟩,
      ⟨some 18, .bin .add (.t 17) (.c (.v (.int .i64 1))), none⟩,
      ⟨some 1, .mv (.t 18), none⟩]) (
    .seq (.reg false [⟨some 19, .mv (.t 0), none⟩,
      ⟨some 20, .mv (.t 5), none⟩,
      ⟨some 21, .mv (.t 1), none⟩,
      ⟨some 22, .call (.f 167) [.rd] false [.c .s] [(.t 21)], none⟩,
      ⟨some 23, .iad 5 (.t 19) (.t 20), none⟩,
      ⟨some 24, .fad 1 (.t 23), none⟩,
      ⟨none, .store 1 (.t 24) (.t 22), none⟩]) (
    .seq (.reg false [⟨some 25, .mv (.t 1), none⟩,
      ⟨some 26, .bin .add (.t 25) (.c (.v (.int .i64 1))), none⟩,
      ⟨some 1, .mv (.t 26), none⟩]) (
    .seq (.reg false [⟨some 27, .mv (.t 0), none⟩,
      ⟨some 28, .mv (.t 5), none⟩,
      ⟨some 29, .mv (.t 1), none⟩,
      ⟨some 30, .iad 5 (.t 27) (.t 28), none⟩,
      ⟨some 31, .fad 2 (.t 30), none⟩,
      ⟨none, .store 1 (.t 31) (.t 29), none⟩]) (
    .seq (.reg false [⟨some 32, .mv (.t 1), none⟩,
      ⟨some 33, .bin .add (.t 32) (.c (.v (.int .i64 1))), none⟩,
      ⟨some 1, .mv (.t 33), none⟩]) (
    .seq (.reg false [⟨some 34, .mv (.t 0), none⟩,
      ⟨some 35, .mv (.t 5), none⟩,
      ⟨some 36, .mv (.t 1), none⟩,
      ⟨some 37, .iad 5 (.t 34) (.t 35), none⟩,
      ⟨some 38, .fad 3 (.t 37), none⟩,
      ⟨none, .store 1 (.t 38) (.t 36), none⟩]) (
    .seq (.reg false [⟨some 39, .mv (.t 1), none⟩,
      ⟨some 40, .bin .add (.t 39) (.c (.v (.int .i64 1))), none⟩,
      ⟨some 1, .mv (.t 40), none⟩]) (
    .seq (.reg false [⟨some 41, .mv (.t 0), none⟩,
      ⟨some 42, .mv (.t 5), none⟩,
      ⟨some 43, .mv (.t 1), none⟩,
      ⟨some 44, .iad 5 (.t 41) (.t 42), none⟩,
      ⟨some 45, .fad 4 (.t 44), none⟩,
      ⟨none, .store 1 (.t 45) (.t 43), none⟩]) (
    .reg false [⟨some 46, .mv (.t 1), none⟩,
      ⟨some 47, .bin .add (.t 46) (.c (.v (.int .i64 1))), none⟩,
      ⟨some 1, .mv (.t 47), none⟩]))))))))))) (
  .reg false [⟨some 10, .mv (.t 5), none⟩,
    ⟨some 11, .bin .add (.t 10) (.c (.v (.int .i64 1))), none⟩,
    ⟨some 5, .mv (.t 11), none⟩])))
def e65x0 : Exits := [((.exit 0), [(0, .o 5), (1, .c (.i .i64))])]
noncomputable def l65x0 (T : Table) (k : Nat) := loopN (evalC ⟨T, [0]⟩ k b65x0 (Ex × List AV)) [0, 1, 5] e65x0
def a65 : AFun := ⟨[.lent, .rd], false, [.t 4], (
  .seq (.reg false [⟨some 4, .mv (.c (.v (.int .i64 0))), none⟩]) (
  .seq (.seq (.reg false [⟨some 5, .mv (.c (.v (.int .i64 0))), none⟩]) (
  .block 0 (.loop [0, 1, 5] e65x0 b65x0))) (
  .seq (.reg false [⟨some 48, .mv (.t 1), none⟩,
    ⟨some 4, .mv (.t 48), none⟩]) (
  .ret))))⟩
theorem l65x0s (T : Table) (k n : Nat) (l3 : Rows) (n4 : Int) (n5 : Int) : l65x0 T k (n + 1) [(.o 5 l3), (.v (.int .i64 n4)), (.v (.int .i64 n5))] = (
 bif (decide (n5 < (l3.length : Int))) then (
 tst (decide (0 ≤ n5) && decide (Int.toNat n5 < l3.length)) (
 callT T 167 [(.d (.v (.int .i64 (IntKind.wrap .i64 (n4 + 1)))))] fun o6 =>
 oD o6.res fun d7 =>
 dS d7 fun s8 =>
 tst (decide (0 ≤ n5) && decide (Int.toNat n5 < (setD l3 (Int.toNat n5) 0 (.v (.int .i64 n4))).length)) (
 tst (decide (0 ≤ n5) && decide (Int.toNat n5 < (setD (setD l3 (Int.toNat n5) 0 (.v (.int .i64 n4))) (Int.toNat n5) 1 (.v (.string s8))).length)) (
 tst (decide (0 ≤ n5) && decide (Int.toNat n5 < (setD (setD (setD l3 (Int.toNat n5) 0 (.v (.int .i64 n4))) (Int.toNat n5) 1 (.v (.string s8))) (Int.toNat n5) 2 (.v (.int .i64 (IntKind.wrap .i64 ((IntKind.wrap .i64 (n4 + 1)) + 1))))).length)) (
 tst (decide (0 ≤ n5) && decide (Int.toNat n5 < (setD (setD (setD (setD l3 (Int.toNat n5) 0 (.v (.int .i64 n4))) (Int.toNat n5) 1 (.v (.string s8))) (Int.toNat n5) 2 (.v (.int .i64 (IntKind.wrap .i64 ((IntKind.wrap .i64 (n4 + 1)) + 1))))) (Int.toNat n5) 3 (.v (.int .i64 (IntKind.wrap .i64 ((IntKind.wrap .i64 ((IntKind.wrap .i64 (n4 + 1)) + 1)) + 1))))).length)) (
 l65x0 T k n [(.o 5 (setD (setD (setD (setD (setD l3 (Int.toNat n5) 0 (.v (.int .i64 n4))) (Int.toNat n5) 1 (.v (.string s8))) (Int.toNat n5) 2 (.v (.int .i64 (IntKind.wrap .i64 ((IntKind.wrap .i64 (n4 + 1)) + 1))))) (Int.toNat n5) 3 (.v (.int .i64 (IntKind.wrap .i64 ((IntKind.wrap .i64 ((IntKind.wrap .i64 (n4 + 1)) + 1)) + 1))))) (Int.toNat n5) 4 (.v (.int .i64 (IntKind.wrap .i64 ((IntKind.wrap .i64 ((IntKind.wrap .i64 ((IntKind.wrap .i64 (n4 + 1)) + 1)) + 1)) + 1)))))), (.v (.int .i64 (IntKind.wrap .i64 ((IntKind.wrap .i64 ((IntKind.wrap .i64 ((IntKind.wrap .i64 ((IntKind.wrap .i64 (n4 + 1)) + 1)) + 1)) + 1)) + 1)))), (.v (.int .i64 (IntKind.wrap .i64 (n5 + 1))))])))))) else (
 some ((.exit 0), [(.o 5 l3), (.v (.int .i64 n4))]))) := by kernel_rfl
theorem a65q (T : Table) (k : Nat) (l1 : Rows) (n2 : Int) : evalF T k a65 [(.d (.s 5 l1)), (.d (.v (.int .i64 n2)))] = (
 aft (l65x0 T k k [(.o 5 l1), (.v (.int .i64 n2)), (.v (.int .i64 0))]) fun e9 ys10 =>
 bif e9.same (.exit 0) then (
 aV ys10 0 fun x11 =>
 aO 5 x11 fun l12 =>
 aV ys10 1 fun x13 =>
 aI .i64 x13 fun n14 =>
 some ⟨(.d (.v (.int .i64 n14))), [(.d (.s 5 l12))]⟩) else (
 none)) := by kernel_rfl
/- loop.example/g00119/laws.markHub -/

def a15 : AFun := ⟨[.lent, .rd], false, [.t 4], (
  .seq (.reg false [⟨some 2, .box (.t 0), none⟩,
    ⟨some 4, .mv (.c (.v (.int .i64 0))), none⟩]) (
  .seq (.reg false [⟨some 5, .fad 3 (.t 2), none⟩,
    ⟨some 6, .load false [(.sl 13)] (.t 5), none⟩,
    ⟨some 7, .mv (.t 1), none⟩,
    ⟨some 8, .call (.f 63) [.lent, .rd] false [.c (.i .i64)] [(.t 6), (.t 7)], none⟩,
    ⟨some 1, .mv (.t 8), none⟩]) (
  .seq (.reg false [⟨some 9, .fad 4 (.t 2), none⟩,
    ⟨some 10, .load false [(.sl 6)] (.t 9), none⟩,
    ⟨some 11, .mv (.t 1), none⟩,
    ⟨some 12, .call (.f 64) [.lent, .rd] false [.c (.i .i64)] [(.t 10), (.t 11)], none⟩,
    ⟨some 1, .mv (.t 12), none⟩]) (
  .seq (.reg false [⟨some 13, .fad 5 (.t 2), none⟩,
    ⟨some 14, .load false [(.sl 5)] (.t 13), none⟩,
    ⟨some 15, .mv (.t 1), none⟩,
    ⟨some 16, .call (.f 65) [.lent, .rd] false [.c (.i .i64)] [(.t 14), (.t 15)], none⟩,
    ⟨some 1, .mv (.t 16), none⟩]) (
  .seq (.reg false [⟨some 17, .fad 6 (.t 2), none⟩,
    ⟨some 18, .load false [(.sl 1)] (.t 17), none⟩,
    ⟨some 19, .mv (.t 1), none⟩,
    ⟨some 20, .call (.f 66) [.lent, .rd] false [.c (.i .i64)] [(.t 18), (.t 19)], none⟩,
    ⟨some 1, .mv (.t 20), none⟩]) (
  .seq (.reg false [⟨some 21, .mv (.t 1), none⟩,
    ⟨some 4, .mv (.t 21), none⟩]) (
  .ret)))))))⟩

theorem a15q (T : Table) (k : Nat) (n1 : Int) (n2 : Int) (n3 : Int) (l4 : Rows) (l5 : Rows) (l6 : Rows) (l7 : Rows) (n8 : Int) : evalF T k a15 [(.g [(.v (.int .i64 n1)), (.v (.int .i64 n2)), (.v (.int .i64 n3)), (.s 13 l4), (.s 6 l5), (.s 5 l6), (.s 1 l7)]), (.d (.v (.int .i64 n8)))] = (
 callT T 63 [(.d (.s 13 l4)), (.d (.v (.int .i64 n8)))] fun o9 =>
 nth o9.back 0 fun i10 =>
 oD i10 fun d11 =>
 dL 13 d11 fun l12 =>
 oD o9.res fun d13 =>
 dI .i64 d13 fun n14 =>
 callT T 64 [(.d (.s 6 l5)), (.d (.v (.int .i64 n14)))] fun o15 =>
 nth o15.back 0 fun i16 =>
 oD i16 fun d17 =>
 dL 6 d17 fun l18 =>
 oD o15.res fun d19 =>
 dI .i64 d19 fun n20 =>
 callT T 65 [(.d (.s 5 l6)), (.d (.v (.int .i64 n20)))] fun o21 =>
 nth o21.back 0 fun i22 =>
 oD i22 fun d23 =>
 dL 5 d23 fun l24 =>
 oD o21.res fun d25 =>
 dI .i64 d25 fun n26 =>
 callT T 66 [(.d (.s 1 l7)), (.d (.v (.int .i64 n26)))] fun o27 =>
 nth o27.back 0 fun i28 =>
 oD i28 fun d29 =>
 dL 1 d29 fun l30 =>
 oD o27.res fun d31 =>
 dI .i64 d31 fun n32 =>
 some ⟨(.d (.v (.int .i64 n32))), [(.g [(.v (.int .i64 n1)), (.v (.int .i64 n2)), (.v (.int .i64 n3)), (.s 13 l12), (.s 6 l18), (.s 5 l24), (.s 1 l30)])]⟩) := by kernel_rfl
/- loop.example/g00119/laws.markByteS -/
def b112x0 : ACode := (
  .seq (.seq (.reg false [⟨some 6, .mv (.t 5), none⟩,
    ⟨some 7, .mv (.t 0), none⟩,
    ⟨some 8, .len false (.t 7), none⟩,
    ⟨some 9, .bin .lss (.t 6) (.t 8), none⟩]) (
  .cond (.t 9) (.skip) (.exit 0))) (
  .seq (.block 1 (.seq (.reg false [⟨some 12, .mv (.t 0), none⟩,
      ⟨some 13, .mv (.t 5), none⟩,
      ⟨some 14, .mv (.t 1), none⟩,
      ⟨some 15, .conv (.int .u8) (.t 14), none⟩,
      ⟨some 16, .iad 1 (.t 12) (.t 13), none⟩,
      ⟨none, .store 1 (.t 16) (.t 15), none⟩]) (
    .reg false [⟨some 17, .mv (.t 1), none⟩,
      ⟨some 18, .bin .add (.t 17) (.c (.v (.int .i64 1))), none⟩,
      ⟨some 1, .mv (.t 18), none⟩]))) (
  .reg false [⟨some 10, .mv (.t 5), none⟩,
    ⟨some 11, .bin .add (.t 10) (.c (.v (.int .i64 1))), none⟩,
    ⟨some 5, .mv (.t 11), none⟩])))
def e112x0 : Exits := [((.exit 0), [(0, .o 1), (1, .c (.i .i64))])]
noncomputable def l112x0 (T : Table) (k : Nat) := loopN (evalC ⟨T, [0]⟩ k b112x0 (Ex × List AV)) [0, 1, 5] e112x0
def a112 : AFun := ⟨[.lent, .rd], false, [.t 4], (
  .seq (.reg false [⟨some 4, .mv (.c (.v (.int .i64 0))), none⟩]) (
  .seq (.seq (.reg false [⟨some 5, .mv (.c (.v (.int .i64 0))), none⟩]) (
  .block 0 (.loop [0, 1, 5] e112x0 b112x0))) (
  .seq (.reg false [⟨some 19, .mv (.t 1), none⟩,
    ⟨some 4, .mv (.t 19), none⟩]) (
  .ret))))⟩
theorem l112x0s (T : Table) (k n : Nat) (l3 : Rows) (n4 : Int) (n5 : Int) : l112x0 T k (n + 1) [(.o 1 l3), (.v (.int .i64 n4)), (.v (.int .i64 n5))] = (
 bif (decide (n5 < (l3.length : Int))) then (
 tst (decide (0 ≤ n5) && decide (Int.toNat n5 < l3.length)) (
 l112x0 T k n [(.o 1 (setD l3 (Int.toNat n5) 0 (.v (.int .u8 (IntKind.wrap .u8 n4))))), (.v (.int .i64 (IntKind.wrap .i64 (n4 + 1)))), (.v (.int .i64 (IntKind.wrap .i64 (n5 + 1))))])) else (
 some ((.exit 0), [(.o 1 l3), (.v (.int .i64 n4))]))) := by kernel_rfl
theorem a112q (T : Table) (k : Nat) (l1 : Rows) (n2 : Int) : evalF T k a112 [(.d (.s 1 l1)), (.d (.v (.int .i64 n2)))] = (
 aft (l112x0 T k k [(.o 1 l1), (.v (.int .i64 n2)), (.v (.int .i64 0))]) fun e6 ys7 =>
 bif e6.same (.exit 0) then (
 aV ys7 0 fun x8 =>
 aO 1 x8 fun l9 =>
 aV ys7 1 fun x10 =>
 aI .i64 x10 fun n11 =>
 some ⟨(.d (.v (.int .i64 n11))), [(.d (.s 1 l9))]⟩) else (
 none)) := by kernel_rfl
/- loop.example/g00119/laws.markWorkS -/
def b115x0 : ACode := (
  .seq (.seq (.reg false [⟨some 6, .mv (.t 5), none⟩,
    ⟨some 7, .mv (.t 0), none⟩,
    ⟨some 8, .len false (.t 7), none⟩,
    ⟨some 9, .bin .lss (.t 6) (.t 8), none⟩]) (
  .cond (.t 9) (.skip) (.exit 0))) (
  .seq (.block 1 (.seq (.reg false [⟨some 12, .mv (.t 0), none⟩,
      ⟨some 13, .mv (.t 5), none⟩,
      ⟨some 14, .mv (.t 1), none⟩,
      ⟨some 15, .iad 7 (.t 12) (.t 13), none⟩,
      ⟨some 16, .fad 0 (.t 15), none⟩,
      ⟨none, .store 1 (.t 16) (.t 14), none⟩]) (
    .seq (.reg false [⟨some 17, .mv (.t 1), none⟩,
      ⟨some 18, .bin .add (.t 17) (.c (.v (.int .i64 1))), none⟩,
      ⟨some 1, .mv (.t 18), none⟩]) (
    .seq (.reg false [⟨some 19, .mv (.t 0), none⟩,
      ⟨some 20, .mv (.t 5), none⟩,
      ⟨some 21, .mv (.t 1), none⟩,
      ⟨some 22, .iad 7 (.t 19) (.t 20), none⟩,
      ⟨some 23, .fad 1 (.t 22), none⟩,
      ⟨none, .store 1 (.t 23) (.t 21), none⟩]) (
    .seq (.reg false [⟨some 24, .mv (.t 1), none⟩,
      ⟨some 25, .bin .add (.t 24) (.c (.v (.int .i64 1))), none⟩,
      ⟨some 1, .mv (.t 25), none⟩]) (
    .seq (.reg false [⟨some 26, .mv (.t 0), none⟩,
      ⟨some 27, .mv (.t 5), none⟩,
      ⟨some 28, .mv (.t 1), none⟩,
      ⟨some 29, .iad 7 (.t 26) (.t 27), none⟩,
      ⟨some 30, .fad 2 (.t 29), none⟩,
      ⟨some 31, .fad 0 (.t 30), none⟩,
      ⟨none, .store 1 (.t 31) (.t 28), none⟩]) (
    .seq (.reg false [⟨some 32, .mv (.t 1), none⟩,
      ⟨some 33, .bin .add (.t 32) (.c (.v (.int .i64 1))), none⟩,
      ⟨some 1, .mv (.t 33), none⟩]) (
    .seq (.reg false [⟨some 34, .mv (.t 0), none⟩,
      ⟨some 35, .mv (.t 5), none⟩,
      ⟨some 36, .mv (.t 1), none⟩,
      ⟨some 37, .call (.f 167) [.rd] false [.c .s] [(.t 36)], none⟩,
      ⟨some 38, .iad 7 (.t 34) (.t 35), none⟩,
      ⟨some 39, .fad 2 (.t 38), none⟩,
      ⟨some 40, .fad 1 (.t 39), none⟩,
      ⟨none, .store 1 (.t 40) (.t 37), none⟩]) (
    .seq (.reg false [⟨some 41, .mv (.t 1), none⟩,
      ⟨some 42, .bin .add (.t 41) (.c (.v (.int .i64 1))), none⟩,
      ⟨some 1, .mv (.t 42), none⟩]) (
    .seq (.reg false [⟨some 43, .mv (.t 0), none⟩,
      ⟨some 44, .mv (.t 5), none⟩,
      ⟨some 45, .mv (.t 1), none⟩,
      ⟨some 46, .iad 7 (.t 43) (.t 44), none⟩,
      ⟨some 47, .fad 2 (.t 46), none⟩,
      ⟨some 48, .fad 2 (.t 47), none⟩,
      ⟨none, .store 1 (.t 48) (.t 45), none⟩]) (
    .seq (.reg false [⟨some 49, .mv (.t 1), none⟩,
      ⟨some 50, .bin .add (.t 49) (.c (.v (.int .i64 1))), none⟩,
      ⟨some 1, .mv (.t 50), none⟩]) (
    .seq (.reg false [⟨some 51, .mv (.t 0), none⟩,
      ⟨some 52, .mv (.t 5), none⟩,
      ⟨some 53, .iad 7 (.t 51) (.t 52), none⟩,
      ⟨some 54, .fad 2 (.t 53), none⟩,
      ⟨some 55, .fad 3 (.t 54), none⟩,
      ⟨some 56, .load false [(.sl 1)] (.t 55), none⟩,
      ⟨some 57, .mv (.t 1), none⟩,
      ⟨some 58, .call (.f 66) [.lent, .rd] false [.c (.i .i64)] [(.t 56), (.t 57)], none⟩,
      ⟨some 1, .mv (.t 58), none⟩]) (
    .reg false [⟨some 59, .mv (.t 0), none⟩,
      ⟨some 60, .mv (.t 5), none⟩,
      ⟨some 61, .iad 7 (.t 59) (.t 60), none⟩,
      ⟨some 62, .fad 2 (.t 61), none⟩,
      ⟨some 63, .fad 4 (.t 62), none⟩,
      ⟨some 64, .load false [(.sl 5)] (.t 63), none⟩,
      ⟨some 65, .mv (.t 1), none⟩,
      ⟨some 66, .call (.f 170) [.lent, .rd] false [.c (.i .i64)] [(.t 64), (.t 65)], none⟩,
      ⟨some 1, .mv (.t 66), none⟩]))))))))))))) (
  .reg false [⟨some 10, .mv (.t 5), none⟩,
    ⟨some 11, .bin .add (.t 10) (.c (.v (.int .i64 1))), none⟩,
    ⟨some 5, .mv (.t 11), none⟩])))
def e115x0 : Exits := [((.exit 0), [(0, .o 7), (1, .c (.i .i64))])]
noncomputable def l115x0 (T : Table) (k : Nat) := loopN (evalC ⟨T, [0]⟩ k b115x0 (Ex × List AV)) [0, 1, 5] e115x0
def a115 : AFun := ⟨[.lent, .rd], false, [.t 4], (
  .seq (.reg false [⟨some 4, .mv (.c (.v (.int .i64 0))), none⟩]) (
  .seq (.seq (.reg false [⟨some 5, .mv (.c (.v (.int .i64 0))), none⟩]) (
  .block 0 (.loop [0, 1, 5] e115x0 b115x0))) (
  .seq (.reg false [⟨some 67, .mv (.t 1), none⟩,
    ⟨some 4, .mv (.t 67), none⟩]) (
  .ret))))⟩
theorem l115x0s (T : Table) (k n : Nat) (l3 : Rows) (n4 : Int) (n5 : Int) : l115x0 T k (n + 1) [(.o 7 l3), (.v (.int .i64 n4)), (.v (.int .i64 n5))] = (
 bif (decide (n5 < (l3.length : Int))) then (
 tst (decide (0 ≤ n5) && decide (Int.toNat n5 < l3.length)) (
 tst (decide (0 ≤ n5) && decide (Int.toNat n5 < (setD l3 (Int.toNat n5) 0 (.v (.int .i64 n4))).length)) (
 tst (decide (0 ≤ n5) && decide (Int.toNat n5 < (setD (setD l3 (Int.toNat n5) 0 (.v (.int .i64 n4))) (Int.toNat n5) 1 (.v (.int .i64 (IntKind.wrap .i64 (n4 + 1))))).length)) (
 callT T 167 [(.d (.v (.int .i64 (IntKind.wrap .i64 ((IntKind.wrap .i64 ((IntKind.wrap .i64 (n4 + 1)) + 1)) + 1)))))] fun o6 =>
 oD o6.res fun d7 =>
 dS d7 fun s8 =>
 tst (decide (0 ≤ n5) && decide (Int.toNat n5 < (setD (setD (setD l3 (Int.toNat n5) 0 (.v (.int .i64 n4))) (Int.toNat n5) 1 (.v (.int .i64 (IntKind.wrap .i64 (n4 + 1))))) (Int.toNat n5) 2 (.v (.int .i64 (IntKind.wrap .i64 ((IntKind.wrap .i64 (n4 + 1)) + 1))))).length)) (
 tst (decide (0 ≤ n5) && decide (Int.toNat n5 < (setD (setD (setD (setD l3 (Int.toNat n5) 0 (.v (.int .i64 n4))) (Int.toNat n5) 1 (.v (.int .i64 (IntKind.wrap .i64 (n4 + 1))))) (Int.toNat n5) 2 (.v (.int .i64 (IntKind.wrap .i64 ((IntKind.wrap .i64 (n4 + 1)) + 1))))) (Int.toNat n5) 3 (.v (.string s8))).length)) (
 tst (decide (0 ≤ n5) && decide (Int.toNat n5 < (setD (setD (setD (setD (setD l3 (Int.toNat n5) 0 (.v (.int .i64 n4))) (Int.toNat n5) 1 (.v (.int .i64 (IntKind.wrap .i64 (n4 + 1))))) (Int.toNat n5) 2 (.v (.int .i64 (IntKind.wrap .i64 ((IntKind.wrap .i64 (n4 + 1)) + 1))))) (Int.toNat n5) 3 (.v (.string s8))) (Int.toNat n5) 4 (.v (.int .i64 (IntKind.wrap .i64 ((IntKind.wrap .i64 ((IntKind.wrap .i64 ((IntKind.wrap .i64 (n4 + 1)) + 1)) + 1)) + 1))))).length)) (
 look (setD (setD (setD (setD (setD l3 (Int.toNat n5) 0 (.v (.int .i64 n4))) (Int.toNat n5) 1 (.v (.int .i64 (IntKind.wrap .i64 (n4 + 1))))) (Int.toNat n5) 2 (.v (.int .i64 (IntKind.wrap .i64 ((IntKind.wrap .i64 (n4 + 1)) + 1))))) (Int.toNat n5) 3 (.v (.string s8))) (Int.toNat n5) 4 (.v (.int .i64 (IntKind.wrap .i64 ((IntKind.wrap .i64 ((IntKind.wrap .i64 ((IntKind.wrap .i64 (n4 + 1)) + 1)) + 1)) + 1))))) (Int.toNat n5) fun r9 =>
 cL 1 r9 5 fun l10 =>
 callT T 66 [(.d (.s 1 l10)), (.d (.v (.int .i64 (IntKind.wrap .i64 ((IntKind.wrap .i64 ((IntKind.wrap .i64 ((IntKind.wrap .i64 ((IntKind.wrap .i64 (n4 + 1)) + 1)) + 1)) + 1)) + 1)))))] fun o11 =>
 nth o11.back 0 fun i12 =>
 oD i12 fun d13 =>
 dL 1 d13 fun l14 =>
 oD o11.res fun d15 =>
 dI .i64 d15 fun n16 =>
 tst (decide (0 ≤ n5) && decide (Int.toNat n5 < (setD (setD (setD (setD (setD l3 (Int.toNat n5) 0 (.v (.int .i64 n4))) (Int.toNat n5) 1 (.v (.int .i64 (IntKind.wrap .i64 (n4 + 1))))) (Int.toNat n5) 2 (.v (.int .i64 (IntKind.wrap .i64 ((IntKind.wrap .i64 (n4 + 1)) + 1))))) (Int.toNat n5) 3 (.v (.string s8))) (Int.toNat n5) 4 (.v (.int .i64 (IntKind.wrap .i64 ((IntKind.wrap .i64 ((IntKind.wrap .i64 ((IntKind.wrap .i64 (n4 + 1)) + 1)) + 1)) + 1))))).length)) (
 look (setD (setD (setD (setD (setD l3 (Int.toNat n5) 0 (.v (.int .i64 n4))) (Int.toNat n5) 1 (.v (.int .i64 (IntKind.wrap .i64 (n4 + 1))))) (Int.toNat n5) 2 (.v (.int .i64 (IntKind.wrap .i64 ((IntKind.wrap .i64 (n4 + 1)) + 1))))) (Int.toNat n5) 3 (.v (.string s8))) (Int.toNat n5) 4 (.v (.int .i64 (IntKind.wrap .i64 ((IntKind.wrap .i64 ((IntKind.wrap .i64 ((IntKind.wrap .i64 (n4 + 1)) + 1)) + 1)) + 1))))) (Int.toNat n5) fun r17 =>
 cL 5 r17 6 fun l18 =>
 callT T 170 [(.d (.s 5 l18)), (.d (.v (.int .i64 n16)))] fun o19 =>
 nth o19.back 0 fun i20 =>
 oD i20 fun d21 =>
 dL 5 d21 fun l22 =>
 oD o19.res fun d23 =>
 dI .i64 d23 fun n24 =>
 l115x0 T k n [(.o 7 (setD (setD (setD (setD (setD (setD (setD l3 (Int.toNat n5) 0 (.v (.int .i64 n4))) (Int.toNat n5) 1 (.v (.int .i64 (IntKind.wrap .i64 (n4 + 1))))) (Int.toNat n5) 2 (.v (.int .i64 (IntKind.wrap .i64 ((IntKind.wrap .i64 (n4 + 1)) + 1))))) (Int.toNat n5) 3 (.v (.string s8))) (Int.toNat n5) 4 (.v (.int .i64 (IntKind.wrap .i64 ((IntKind.wrap .i64 ((IntKind.wrap .i64 ((IntKind.wrap .i64 (n4 + 1)) + 1)) + 1)) + 1))))) (Int.toNat n5) 6 (.s 5 l22)) (Int.toNat n5) 5 (.s 1 l14))), (.v (.int .i64 n24)), (.v (.int .i64 (IntKind.wrap .i64 (n5 + 1))))])))))))) else (
 some ((.exit 0), [(.o 7 l3), (.v (.int .i64 n4))]))) := by kernel_rfl
theorem a115q (T : Table) (k : Nat) (l1 : Rows) (n2 : Int) : evalF T k a115 [(.d (.s 7 l1)), (.d (.v (.int .i64 n2)))] = (
 aft (l115x0 T k k [(.o 7 l1), (.v (.int .i64 n2)), (.v (.int .i64 0))]) fun e25 ys26 =>
 bif e25.same (.exit 0) then (
 aV ys26 0 fun x27 =>
 aO 7 x27 fun l28 =>
 aV ys26 1 fun x29 =>
 aI .i64 x29 fun n30 =>
 some ⟨(.d (.v (.int .i64 n30))), [(.d (.s 7 l28))]⟩) else (
 none)) := by kernel_rfl
/- loop.example/g00119/laws.markRunS -/
def b116x0 : ACode := (
  .seq (.seq (.reg false [⟨some 6, .mv (.t 5), none⟩,
    ⟨some 7, .mv (.t 0), none⟩,
    ⟨some 8, .len false (.t 7), none⟩,
    ⟨some 9, .bin .lss (.t 6) (.t 8), none⟩]) (
  .cond (.t 9) (.skip) (.exit 0))) (
  .seq (.block 1 (.seq (.reg false [⟨some 12, .mv (.t 0), none⟩,
      ⟨some 13, .mv (.t 5), none⟩,
      ⟨some 14, .mv (.t 1), none⟩,
      ⟨some 15, .iad 2 (.t 12) (.t 13), none⟩,
      ⟨some 16, .fad 0 (.t 15), none⟩,
      ⟨none, .store 1 (.t 16) (.t 14), none⟩]) (
    .seq (.reg false [⟨some 17, .mv (.t 1), none⟩,
      ⟨some 18, .bin .add (.t 17) (.c (.v (.int .i64 1))), none⟩,
      ⟨some 1, .mv (.t 18), none⟩]) (
    .seq (.reg false [⟨some 19, .mv (.t 0), none⟩,
      ⟨some 20, .mv (.t 5), none⟩,
      ⟨some 21, .mv (.t 1), none⟩,
      ⟨some 22, .iad 2 (.t 19) (.t 20), none⟩,
      ⟨some 23, .fad 1 (.t 22), none⟩,
      ⟨none, .store 1 (.t 23) (.t 21), none⟩]) (
    .reg false [⟨some 24, .mv (.t 1), none⟩,
      ⟨some 25, .bin .add (.t 24) (.c (.v (.int .i64 1))), none⟩,
      ⟨some 1, .mv (.t 25), none⟩]))))) (
  .reg false [⟨some 10, .mv (.t 5), none⟩,
    ⟨some 11, .bin .add (.t 10) (.c (.v (.int .i64 1))), none⟩,
    ⟨some 5, .mv (.t 11), none⟩])))
def e116x0 : Exits := [((.exit 0), [(0, .o 2), (1, .c (.i .i64))])]
noncomputable def l116x0 (T : Table) (k : Nat) := loopN (evalC ⟨T, [0]⟩ k b116x0 (Ex × List AV)) [0, 1, 5] e116x0
def a116 : AFun := ⟨[.lent, .rd], false, [.t 4], (
  .seq (.reg false [⟨some 4, .mv (.c (.v (.int .i64 0))), none⟩]) (
  .seq (.seq (.reg false [⟨some 5, .mv (.c (.v (.int .i64 0))), none⟩]) (
  .block 0 (.loop [0, 1, 5] e116x0 b116x0))) (
  .seq (.reg false [⟨some 26, .mv (.t 1), none⟩,
    ⟨some 4, .mv (.t 26), none⟩]) (
  .ret))))⟩
theorem l116x0s (T : Table) (k n : Nat) (l3 : Rows) (n4 : Int) (n5 : Int) : l116x0 T k (n + 1) [(.o 2 l3), (.v (.int .i64 n4)), (.v (.int .i64 n5))] = (
 bif (decide (n5 < (l3.length : Int))) then (
 tst (decide (0 ≤ n5) && decide (Int.toNat n5 < l3.length)) (
 tst (decide (0 ≤ n5) && decide (Int.toNat n5 < (setD l3 (Int.toNat n5) 0 (.v (.int .i64 n4))).length)) (
 l116x0 T k n [(.o 2 (setD (setD l3 (Int.toNat n5) 0 (.v (.int .i64 n4))) (Int.toNat n5) 1 (.v (.int .i64 (IntKind.wrap .i64 (n4 + 1)))))), (.v (.int .i64 (IntKind.wrap .i64 ((IntKind.wrap .i64 (n4 + 1)) + 1)))), (.v (.int .i64 (IntKind.wrap .i64 (n5 + 1))))]))) else (
 some ((.exit 0), [(.o 2 l3), (.v (.int .i64 n4))]))) := by kernel_rfl
theorem a116q (T : Table) (k : Nat) (l1 : Rows) (n2 : Int) : evalF T k a116 [(.d (.s 2 l1)), (.d (.v (.int .i64 n2)))] = (
 aft (l116x0 T k k [(.o 2 l1), (.v (.int .i64 n2)), (.v (.int .i64 0))]) fun e6 ys7 =>
 bif e6.same (.exit 0) then (
 aV ys7 0 fun x8 =>
 aO 2 x8 fun l9 =>
 aV ys7 1 fun x10 =>
 aI .i64 x10 fun n11 =>
 some ⟨(.d (.v (.int .i64 n11))), [(.d (.s 2 l9))]⟩) else (
 none)) := by kernel_rfl
/- loop.example/g00119/laws.markIsleS -/
def b113x0 : ACode := (
  .seq (.seq (.reg false [⟨some 6, .mv (.t 5), none⟩,
    ⟨some 7, .mv (.t 0), none⟩,
    ⟨some 8, .len false (.t 7), none⟩,
    ⟨some 9, .bin .lss (.t 6) (.t 8), none⟩]) (
  .cond (.t 9) (.skip) (.exit 0))) (
  .seq (.block 1 (.seq (.reg false [⟨some 12, .mv (.t 0), none⟩,
      ⟨some 13, .mv (.t 5), none⟩,
      ⟨some 14, .mv (.t 1), none⟩,
      ⟨some 15, .call (.f 167) [.rd] false [.c .s] [(.t 14)], none⟩,
      ⟨some 16, .iad 5 (.t 12) (.t 13), none⟩,
      ⟨some 17, .fad 0 (.t 16), none⟩,
      ⟨none, .store 1 (.t 17) (.t 15), none⟩]) (
    .seq (.reg false [⟨some 18, .mv (.t 1), none⟩,
      ⟨some 19, .bin .add (.t 18) (.c (.v (.int .i64 1))), none⟩,
      ⟨some 1, .mv (.t 19), none⟩]) (
    .seq (.reg false [⟨some 20, .mv (.t 0), none⟩,
      ⟨some 21, .mv (.t 5), none⟩,
      ⟨some 22, .mv (.t 1), none⟩,
      ⟨some 23, .iad 5 (.t 20) (.t 21), none⟩,
      ⟨some 24, .fad 1 (.t 23), none⟩,
      ⟨none, .store 1 (.t 24) (.t 22), none⟩]) (
    .seq (.reg false [⟨some 25, .mv (.t 1), none⟩,
      ⟨some 26, .bin .add (.t 25) (.c (.v (.int .i64 1))), none⟩,
      ⟨some 1, .mv (.t 26), none⟩]) (
    .seq (.reg false [⟨some 27, .mv (.t 0), none⟩,
      ⟨some 28, .mv (.t 5), none⟩,
      ⟨some 29, .mv (.t 1), none⟩,
      ⟨some 30, .iad 5 (.t 27) (.t 28), none⟩,
      ⟨some 31, .fad 2 (.t 30), none⟩,
      ⟨none, .store 1 (.t 31) (.t 29), none⟩]) (
    .seq (.reg false [⟨some 32, .mv (.t 1), none⟩,
      ⟨some 33, .bin .add (.t 32) (.c (.v (.int .i64 1))), none⟩,
      ⟨some 1, .mv (.t 33), none⟩]) (
    .seq (.reg false [⟨some 34, .mv (.t 0), none⟩,
      ⟨some 35, .mv (.t 5), none⟩,
      ⟨some 36, .iad 5 (.t 34) (.t 35), none⟩,
      ⟨some 37, .fad 3 (.t 36), none⟩,
      ⟨some 38, .load false [(.sl 7)] (.t 37), none⟩,
      ⟨some 39, .mv (.t 1), none⟩,
      ⟨some 40, .call (.f 115) [.lent, .rd] false [.c (.i .i64)] [(.t 38), (.t 39)], none⟩,
      ⟨some 1, .mv (.t 40), none⟩]) (
    .reg false [⟨some 41, .mv (.t 0), none⟩,
      ⟨some 42, .mv (.t 5), none⟩,
      ⟨some 43, .iad 5 (.t 41) (.t 42), none⟩,
      ⟨some 44, .fad 4 (.t 43), none⟩,
      ⟨some 45, .load false [(.sl 2)] (.t 44), none⟩,
      ⟨some 46, .mv (.t 1), none⟩,
      ⟨some 47, .call (.f 116) [.lent, .rd] false [.c (.i .i64)] [(.t 45), (.t 46)], none⟩,
      ⟨some 1, .mv (.t 47), none⟩]))))))))) (
  .reg false [⟨some 10, .mv (.t 5), none⟩,
    ⟨some 11, .bin .add (.t 10) (.c (.v (.int .i64 1))), none⟩,
    ⟨some 5, .mv (.t 11), none⟩])))
def e113x0 : Exits := [((.exit 0), [(0, .o 5), (1, .c (.i .i64))])]
noncomputable def l113x0 (T : Table) (k : Nat) := loopN (evalC ⟨T, [0]⟩ k b113x0 (Ex × List AV)) [0, 1, 5] e113x0
def a113 : AFun := ⟨[.lent, .rd], false, [.t 4], (
  .seq (.reg false [⟨some 4, .mv (.c (.v (.int .i64 0))), none⟩]) (
  .seq (.seq (.reg false [⟨some 5, .mv (.c (.v (.int .i64 0))), none⟩]) (
  .block 0 (.loop [0, 1, 5] e113x0 b113x0))) (
  .seq (.reg false [⟨some 48, .mv (.t 1), none⟩,
    ⟨some 4, .mv (.t 48), none⟩]) (
  .ret))))⟩
theorem l113x0s (T : Table) (k n : Nat) (l3 : Rows) (n4 : Int) (n5 : Int) : l113x0 T k (n + 1) [(.o 5 l3), (.v (.int .i64 n4)), (.v (.int .i64 n5))] = (
 bif (decide (n5 < (l3.length : Int))) then (
 callT T 167 [(.d (.v (.int .i64 n4)))] fun o6 =>
 oD o6.res fun d7 =>
 dS d7 fun s8 =>
 tst (decide (0 ≤ n5) && decide (Int.toNat n5 < l3.length)) (
 tst (decide (0 ≤ n5) && decide (Int.toNat n5 < (setD l3 (Int.toNat n5) 0 (.v (.string s8))).length)) (
 tst (decide (0 ≤ n5) && decide (Int.toNat n5 < (setD (setD l3 (Int.toNat n5) 0 (.v (.string s8))) (Int.toNat n5) 1 (.v (.int .i64 (IntKind.wrap .i64 (n4 + 1))))).length)) (
 tst (decide (0 ≤ n5) && decide (Int.toNat n5 < (setD (setD (setD l3 (Int.toNat n5) 0 (.v (.string s8))) (Int.toNat n5) 1 (.v (.int .i64 (IntKind.wrap .i64 (n4 + 1))))) (Int.toNat n5) 2 (.v (.int .i64 (IntKind.wrap .i64 ((IntKind.wrap .i64 (n4 + 1)) + 1))))).length)) (
 look (setD (setD (setD l3 (Int.toNat n5) 0 (.v (.string s8))) (Int.toNat n5) 1 (.v (.int .i64 (IntKind.wrap .i64 (n4 + 1))))) (Int.toNat n5) 2 (.v (.int .i64 (IntKind.wrap .i64 ((IntKind.wrap .i64 (n4 + 1)) + 1))))) (Int.toNat n5) fun r9 =>
 cL 7 r9 3 fun l10 =>
 callT T 115 [(.d (.s 7 l10)), (.d (.v (.int .i64 (IntKind.wrap .i64 ((IntKind.wrap .i64 ((IntKind.wrap .i64 (n4 + 1)) + 1)) + 1)))))] fun o11 =>
 nth o11.back 0 fun i12 =>
 oD i12 fun d13 =>
 dL 7 d13 fun l14 =>
 oD o11.res fun d15 =>
 dI .i64 d15 fun n16 =>
 tst (decide (0 ≤ n5) && decide (Int.toNat n5 < (setD (setD (setD l3 (Int.toNat n5) 0 (.v (.string s8))) (Int.toNat n5) 1 (.v (.int .i64 (IntKind.wrap .i64 (n4 + 1))))) (Int.toNat n5) 2 (.v (.int .i64 (IntKind.wrap .i64 ((IntKind.wrap .i64 (n4 + 1)) + 1))))).length)) (
 look (setD (setD (setD l3 (Int.toNat n5) 0 (.v (.string s8))) (Int.toNat n5) 1 (.v (.int .i64 (IntKind.wrap .i64 (n4 + 1))))) (Int.toNat n5) 2 (.v (.int .i64 (IntKind.wrap .i64 ((IntKind.wrap .i64 (n4 + 1)) + 1))))) (Int.toNat n5) fun r17 =>
 cL 2 r17 4 fun l18 =>
 callT T 116 [(.d (.s 2 l18)), (.d (.v (.int .i64 n16)))] fun o19 =>
 nth o19.back 0 fun i20 =>
 oD i20 fun d21 =>
 dL 2 d21 fun l22 =>
 oD o19.res fun d23 =>
 dI .i64 d23 fun n24 =>
 l113x0 T k n [(.o 5 (setD (setD (setD (setD (setD l3 (Int.toNat n5) 0 (.v (.string s8))) (Int.toNat n5) 1 (.v (.int .i64 (IntKind.wrap .i64 (n4 + 1))))) (Int.toNat n5) 2 (.v (.int .i64 (IntKind.wrap .i64 ((IntKind.wrap .i64 (n4 + 1)) + 1))))) (Int.toNat n5) 4 (.s 2 l22)) (Int.toNat n5) 3 (.s 7 l14))), (.v (.int .i64 n24)), (.v (.int .i64 (IntKind.wrap .i64 (n5 + 1))))])))))) else (
 some ((.exit 0), [(.o 5 l3), (.v (.int .i64 n4))]))) := by kernel_rfl
theorem a113q (T : Table) (k : Nat) (l1 : Rows) (n2 : Int) : evalF T k a113 [(.d (.s 5 l1)), (.d (.v (.int .i64 n2)))] = (
 aft (l113x0 T k k [(.o 5 l1), (.v (.int .i64 n2)), (.v (.int .i64 0))]) fun e25 ys26 =>
 bif e25.same (.exit 0) then (
 aV ys26 0 fun x27 =>
 aO 5 x27 fun l28 =>
 aV ys26 1 fun x29 =>
 aI .i64 x29 fun n30 =>
 some ⟨(.d (.v (.int .i64 n30))), [(.d (.s 5 l28))]⟩) else (
 none)) := by kernel_rfl
/- loop.example/g00119/laws.markMsgS -/
def b114x0 : ACode := (
  .seq (.seq (.reg false [⟨some 6, .mv (.t 5), none⟩,
    ⟨some 7, .mv (.t 0), none⟩,
    ⟨some 8, .len false (.t 7), none⟩,
    ⟨some 9, .bin .lss (.t 6) (.t 8), none⟩]) (
  .cond (.t 9) (.skip) (.exit 0))) (
  .seq (.block 1 (.seq (.reg false [⟨some 12, .mv (.t 0), none⟩,
      ⟨some 13, .mv (.t 5), none⟩,
      ⟨some 14, .mv (.t 1), none⟩,
      ⟨some 15, .iad 5 (.t 12) (.t 13), none⟩,
      ⟨some 16, .fad 0 (.t 15), none⟩,
      ⟨none, .store 1 (.t 16) (.t 14), none⟩]) (
    .seq (.reg false [⟨some 17, .mv (.t 1), none⟩,
      ⟨some 18, .bin .add (.t 17) (.c (.v (.int .i64 1))), none⟩,
      ⟨some 1, .mv (.t 18), none⟩]) (
    .seq (.reg false [⟨some 19, .mv (.t 0), none⟩,
      ⟨some 20, .mv (.t 5), none⟩,
      ⟨some 21, .mv (.t 1), none⟩,
      ⟨some 22, .call (.f 167) [.rd] false [.c .s] [(.t 21)], none⟩,
      ⟨some 23, .iad 5 (.t 19) (.t 20), none⟩,
      ⟨some 24, .fad 1 (.t 23), none⟩,
      ⟨none, .store 1 (.t 24) (.t 22), none⟩]) (
    .seq (.reg false [⟨some 25, .mv (.t 1), none⟩,
      ⟨some 26, .bin .add (.t 25) (.c (.v (.int .i64 1))), none⟩,
      ⟨some 1, .mv (.t 26), none⟩]) (
    .seq (.reg false [⟨some 27, .mv (.t 0), none⟩,
      ⟨some 28, .mv (.t 5), none⟩,
      ⟨some 29, .mv (.t 1), none⟩,
      ⟨some 30, .iad 5 (.t 27) (.t 28), none⟩,
      ⟨some 31, .fad 2 (.t 30), none⟩,
      ⟨none, .store 1 (.t 31) (.t 29), none⟩]) (
    .seq (.reg false [⟨some 32, .mv (.t 1), none⟩,
      ⟨some 33, .bin .add (.t 32) (.c (.v (.int .i64 1))), none⟩,
      ⟨some 1, .mv (.t 33), none⟩]) (
    .seq (.reg false [⟨some 34, .mv (.t 0), none⟩,
      ⟨some 35, .mv (.t 5), none⟩,
      ⟨some 36, .iad 5 (.t 34) (.t 35), none⟩,
      ⟨some 37, .fad 3 (.t 36), none⟩,
      ⟨some 38, .load false [(.sl 7)] (.t 37), none⟩,
      ⟨some 39, .mv (.t 1), none⟩,
      ⟨some 40, .call (.f 115) [.lent, .rd] false [.c (.i .i64)] [(.t 38), (.t 39)], none⟩,
      ⟨some 1, .mv (.t 40), none⟩]) (
    .reg false [⟨some 41, .mv (.t 0), none⟩,
      ⟨some 42, .mv (.t 5), none⟩,
      ⟨some 43, .iad 5 (.t 41) (.t 42), none⟩,
      ⟨some 44, .fad 4 (.t 43), none⟩,
      ⟨some 45, .load false [(.sl 2)] (.t 44), none⟩,
      ⟨some 46, .mv (.t 1), none⟩,
      ⟨some 47, .call (.f 116) [.lent, .rd] false [.c (.i .i64)] [(.t 45), (.t 46)], none⟩,
      ⟨some 1, .mv (.t 47), none⟩]))))))))) (
  .reg false [⟨some 10, .mv (.t 5), none⟩,
    ⟨some 11, .bin .add (.t 10) (.c (.v (.int .i64 1))), none⟩,
    ⟨some 5, .mv (.t 11), none⟩])))
def e114x0 : Exits := [((.exit 0), [(0, .o 5), (1, .c (.i .i64))])]
noncomputable def l114x0 (T : Table) (k : Nat) := loopN (evalC ⟨T, [0]⟩ k b114x0 (Ex × List AV)) [0, 1, 5] e114x0
def a114 : AFun := ⟨[.lent, .rd], false, [.t 4], (
  .seq (.reg false [⟨some 4, .mv (.c (.v (.int .i64 0))), none⟩]) (
  .seq (.seq (.reg false [⟨some 5, .mv (.c (.v (.int .i64 0))), none⟩]) (
  .block 0 (.loop [0, 1, 5] e114x0 b114x0))) (
  .seq (.reg false [⟨some 48, .mv (.t 1), none⟩,
    ⟨some 4, .mv (.t 48), none⟩]) (
  .ret))))⟩
theorem l114x0s (T : Table) (k n : Nat) (l3 : Rows) (n4 : Int) (n5 : Int) : l114x0 T k (n + 1) [(.o 5 l3), (.v (.int .i64 n4)), (.v (.int .i64 n5))] = (
 bif (decide (n5 < (l3.length : Int))) then (
 tst (decide (0 ≤ n5) && decide (Int.toNat n5 < l3.length)) (
 callT T 167 [(.d (.v (.int .i64 (IntKind.wrap .i64 (n4 + 1)))))] fun o6 =>
 oD o6.res fun d7 =>
 dS d7 fun s8 =>
 tst (decide (0 ≤ n5) && decide (Int.toNat n5 < (setD l3 (Int.toNat n5) 0 (.v (.int .i64 n4))).length)) (
 tst (decide (0 ≤ n5) && decide (Int.toNat n5 < (setD (setD l3 (Int.toNat n5) 0 (.v (.int .i64 n4))) (Int.toNat n5) 1 (.v (.string s8))).length)) (
 tst (decide (0 ≤ n5) && decide (Int.toNat n5 < (setD (setD (setD l3 (Int.toNat n5) 0 (.v (.int .i64 n4))) (Int.toNat n5) 1 (.v (.string s8))) (Int.toNat n5) 2 (.v (.int .i64 (IntKind.wrap .i64 ((IntKind.wrap .i64 (n4 + 1)) + 1))))).length)) (
 look (setD (setD (setD l3 (Int.toNat n5) 0 (.v (.int .i64 n4))) (Int.toNat n5) 1 (.v (.string s8))) (Int.toNat n5) 2 (.v (.int .i64 (IntKind.wrap .i64 ((IntKind.wrap .i64 (n4 + 1)) + 1))))) (Int.toNat n5) fun r9 =>
 cL 7 r9 3 fun l10 =>
 callT T 115 [(.d (.s 7 l10)), (.d (.v (.int .i64 (IntKind.wrap .i64 ((IntKind.wrap .i64 ((IntKind.wrap .i64 (n4 + 1)) + 1)) + 1)))))] fun o11 =>
 nth o11.back 0 fun i12 =>
 oD i12 fun d13 =>
 dL 7 d13 fun l14 =>
 oD o11.res fun d15 =>
 dI .i64 d15 fun n16 =>
 tst (decide (0 ≤ n5) && decide (Int.toNat n5 < (setD (setD (setD l3 (Int.toNat n5) 0 (.v (.int .i64 n4))) (Int.toNat n5) 1 (.v (.string s8))) (Int.toNat n5) 2 (.v (.int .i64 (IntKind.wrap .i64 ((IntKind.wrap .i64 (n4 + 1)) + 1))))).length)) (
 look (setD (setD (setD l3 (Int.toNat n5) 0 (.v (.int .i64 n4))) (Int.toNat n5) 1 (.v (.string s8))) (Int.toNat n5) 2 (.v (.int .i64 (IntKind.wrap .i64 ((IntKind.wrap .i64 (n4 + 1)) + 1))))) (Int.toNat n5) fun r17 =>
 cL 2 r17 4 fun l18 =>
 callT T 116 [(.d (.s 2 l18)), (.d (.v (.int .i64 n16)))] fun o19 =>
 nth o19.back 0 fun i20 =>
 oD i20 fun d21 =>
 dL 2 d21 fun l22 =>
 oD o19.res fun d23 =>
 dI .i64 d23 fun n24 =>
 l114x0 T k n [(.o 5 (setD (setD (setD (setD (setD l3 (Int.toNat n5) 0 (.v (.int .i64 n4))) (Int.toNat n5) 1 (.v (.string s8))) (Int.toNat n5) 2 (.v (.int .i64 (IntKind.wrap .i64 ((IntKind.wrap .i64 (n4 + 1)) + 1))))) (Int.toNat n5) 4 (.s 2 l22)) (Int.toNat n5) 3 (.s 7 l14))), (.v (.int .i64 n24)), (.v (.int .i64 (IntKind.wrap .i64 (n5 + 1))))])))))) else (
 some ((.exit 0), [(.o 5 l3), (.v (.int .i64 n4))]))) := by kernel_rfl
theorem a114q (T : Table) (k : Nat) (l1 : Rows) (n2 : Int) : evalF T k a114 [(.d (.s 5 l1)), (.d (.v (.int .i64 n2)))] = (
 aft (l114x0 T k k [(.o 5 l1), (.v (.int .i64 n2)), (.v (.int .i64 0))]) fun e25 ys26 =>
 bif e25.same (.exit 0) then (
 aV ys26 0 fun x27 =>
 aO 5 x27 fun l28 =>
 aV ys26 1 fun x29 =>
 aI .i64 x29 fun n30 =>
 some ⟨(.d (.v (.int .i64 n30))), [(.d (.s 5 l28))]⟩) else (
 none)) := by kernel_rfl
/- loop.example/g00119/laws.markFed -/

def a29 : AFun := ⟨[.lent, .rd], false, [.t 4], (
  .seq (.reg false [⟨some 2, .box (.t 0), none⟩,
    ⟨some 4, .mv (.c (.v (.int .i64 0))), none⟩]) (
  .seq (.reg false [⟨some 5, .fad 0 (.t 2), none⟩,
    ⟨some 6, .load true [(.i .i64), (.i .i64), (.i .i64), (.sl 13), (.sl 6), (.sl 5), (.sl 1)] (.t 5), none⟩,
    ⟨some 7, .mv (.t 1), none⟩,
    ⟨some 8, .call (.f 15) [.lent, .rd] false [.c (.i .i64)] [(.t 6), (.t 7)], none⟩,
    ⟨some 1, .mv (.t 8), none⟩]) (
  .seq (.reg false [⟨some 9, .fad 8 (.t 2), none⟩,
    ⟨some 10, .load false [(.sl 1)] (.t 9), none⟩,
    ⟨some 11, .mv (.t 1), none⟩,
    ⟨some 12, .call (.f 112) [.lent, .rd] false [.c (.i .i64)] [(.t 10), (.t 11)], none⟩,
    ⟨some 1, .mv (.t 12), none⟩]) (
  .seq (.reg false [⟨some 13, .fad 9 (.t 2), none⟩,
    ⟨some 14, .load false [(.sl 5)] (.t 13), none⟩,
    ⟨some 15, .mv (.t 1), none⟩,
    ⟨some 16, .call (.f 113) [.lent, .rd] false [.c (.i .i64)] [(.t 14), (.t 15)], none⟩,
    ⟨some 1, .mv (.t 16), none⟩]) (
  .seq (.reg false [⟨some 17, .fad 10 (.t 2), none⟩,
    ⟨some 18, .load false [(.sl 5)] (.t 17), none⟩,
    ⟨some 19, .mv (.t 1), none⟩,
    ⟨some 20, .call (.f 114) [.lent, .rd] false [.c (.i .i64)] [(.t 18), (.t 19)], none⟩,
    ⟨some 1, .mv (.t 20), none⟩]) (
  .seq (.reg false [⟨some 21, .fad 11 (.t 2), none⟩,
    ⟨some 22, .load false [(.sl 1)] (.t 21), none⟩,
    ⟨some 23, .mv (.t 1), none⟩,
    ⟨some 24, .call (.f 66) [.lent, .rd] false [.c (.i .i64)] [(.t 22), (.t 23)], none⟩,
    ⟨some 1, .mv (.t 24), none⟩]) (
  .seq (.reg false [⟨some 25, .mv (.t 1), none⟩,
    ⟨some 4, .mv (.t 25), none⟩]) (
  .ret))))))))⟩

theorem a29q (T : Table) (k : Nat) (n1 : Int) (n2 : Int) (n3 : Int) (l4 : Rows) (l5 : Rows) (l6 : Rows) (l7 : Rows) (b8 : Bool) (l9 : Rows) (l10 : Rows) (l11 : Rows) (l12 : Rows) (n13 : Int) : evalF T k a29 [(.g [(.v (.int .i64 n1)), (.v (.int .i64 n2)), (.v (.int .i64 n3)), (.s 13 l4), (.s 6 l5), (.s 5 l6), (.s 1 l7), (.v (.bool b8)), (.s 1 l9), (.s 5 l10), (.s 5 l11), (.s 1 l12)]), (.d (.v (.int .i64 n13)))] = (
 callT T 15 [(.g [(.v (.int .i64 n1)), (.v (.int .i64 n2)), (.v (.int .i64 n3)), (.s 13 l4), (.s 6 l5), (.s 5 l6), (.s 1 l7)]), (.d (.v (.int .i64 n13)))] fun o14 =>
 nth o14.back 0 fun i15 =>
 oG i15 fun r16 =>
 cL 13 r16 3 fun l17 =>
 cL 6 r16 4 fun l18 =>
 cL 5 r16 5 fun l19 =>
 cL 1 r16 6 fun l20 =>
 oD o14.res fun d21 =>
 dI .i64 d21 fun n22 =>
 callT T 112 [(.d (.s 1 l9)), (.d (.v (.int .i64 n22)))] fun o23 =>
 nth o23.back 0 fun i24 =>
 oD i24 fun d25 =>
 dL 1 d25 fun l26 =>
 oD o23.res fun d27 =>
 dI .i64 d27 fun n28 =>
 callT T 113 [(.d (.s 5 l10)), (.d (.v (.int .i64 n28)))] fun o29 =>
 nth o29.back 0 fun i30 =>
 oD i30 fun d31 =>
 dL 5 d31 fun l32 =>
 oD o29.res fun d33 =>
 dI .i64 d33 fun n34 =>
 callT T 114 [(.d (.s 5 l11)), (.d (.v (.int .i64 n34)))] fun o35 =>
 nth o35.back 0 fun i36 =>
 oD i36 fun d37 =>
 dL 5 d37 fun l38 =>
 oD o35.res fun d39 =>
 dI .i64 d39 fun n40 =>
 callT T 66 [(.d (.s 1 l12)), (.d (.v (.int .i64 n40)))] fun o41 =>
 nth o41.back 0 fun i42 =>
 oD i42 fun d43 =>
 dL 1 d43 fun l44 =>
 oD o41.res fun d45 =>
 dI .i64 d45 fun n46 =>
 some ⟨(.d (.v (.int .i64 n46))), [(.g [(.v (.int .i64 n1)), (.v (.int .i64 n2)), (.v (.int .i64 n3)), (.s 13 l17), (.s 6 l18), (.s 5 l19), (.s 1 l20), (.v (.bool b8)), (.s 1 l26), (.s 5 l32), (.s 5 l38), (.s 1 l44)])]⟩) := by kernel_rfl
/- loop.example/g00119/laws.markIsle -/

def a30 : AFun := ⟨[.lent, .rd], false, [.t 4], (
  .seq (.reg false [⟨some 2, .box (.t 0), none⟩,
    ⟨some 4, .mv (.c (.v (.int .i64 0))), none⟩]) (
  .seq (.reg false [⟨some 5, .fad 3 (.t 2), none⟩,
    ⟨some 6, .load false [(.sl 7)] (.t 5), none⟩,
    ⟨some 7, .mv (.t 1), none⟩,
    ⟨some 8, .call (.f 115) [.lent, .rd] false [.c (.i .i64)] [(.t 6), (.t 7)], none⟩,
    ⟨some 1, .mv (.t 8), none⟩]) (
  .seq (.reg false [⟨some 9, .fad 4 (.t 2), none⟩,
    ⟨some 10, .load false [(.sl 2)] (.t 9), none⟩,
    ⟨some 11, .mv (.t 1), none⟩,
    ⟨some 12, .call (.f 116) [.lent, .rd] false [.c (.i .i64)] [(.t 10), (.t 11)], none⟩,
    ⟨some 1, .mv (.t 12), none⟩]) (
  .seq (.reg false [⟨some 13, .mv (.t 1), none⟩,
    ⟨some 4, .mv (.t 13), none⟩]) (
  .ret)))))⟩

theorem a30q (T : Table) (k : Nat) (s1 : ByteArray) (n2 : Int) (n3 : Int) (l4 : Rows) (l5 : Rows) (n6 : Int) : evalF T k a30 [(.g [(.v (.string s1)), (.v (.int .i64 n2)), (.v (.int .i64 n3)), (.s 7 l4), (.s 2 l5)]), (.d (.v (.int .i64 n6)))] = (
 callT T 115 [(.d (.s 7 l4)), (.d (.v (.int .i64 n6)))] fun o7 =>
 nth o7.back 0 fun i8 =>
 oD i8 fun d9 =>
 dL 7 d9 fun l10 =>
 oD o7.res fun d11 =>
 dI .i64 d11 fun n12 =>
 callT T 116 [(.d (.s 2 l5)), (.d (.v (.int .i64 n12)))] fun o13 =>
 nth o13.back 0 fun i14 =>
 oD i14 fun d15 =>
 dL 2 d15 fun l16 =>
 oD o13.res fun d17 =>
 dI .i64 d17 fun n18 =>
 some ⟨(.d (.v (.int .i64 n18))), [(.g [(.v (.string s1)), (.v (.int .i64 n2)), (.v (.int .i64 n3)), (.s 7 l10), (.s 2 l16)])]⟩) := by kernel_rfl
/- loop.example/g00119/laws.heldStringS -/
def b217x0 : ACode := (
  .seq (.seq (.reg false [⟨some 6, .mv (.t 5), none⟩,
    ⟨some 7, .mv (.t 0), none⟩,
    ⟨some 8, .len false (.t 7), none⟩,
    ⟨some 9, .bin .lss (.t 6) (.t 8), none⟩]) (
  .cond (.t 9) (.skip) (.exit 0))) (
  .seq (.block 1 (.seq (.seq (.dreg [] [(0, ⟨some 12, .mv (.t 0), none⟩),
      (0, ⟨some 13, .mv (.t 5), none⟩),
      (0, ⟨some 14, .iad 1 (.t 12) (.t 13), none⟩),
      (0, ⟨some 15, .load false [.s] (.t 14), none⟩),
      (0, ⟨some 16, .mv (.t 1), none⟩),
      (1, ⟨some 17, .call (.f 167) [.rd] false [.c .s] [(.t 16)], none⟩)] [⟨some 18, .bin .neq (.t 15) (.t 17), none⟩]) (
    .cond (.t 18) (.seq (.reg false [⟨some 4, .mv (.c (.v (.int .i64 (-1)))), none⟩]) (
      .ret)) (.skip))) (
    .reg false [⟨some 19, .mv (.t 1), none⟩,
      ⟨some 20, .bin .add (.t 19) (.c (.v (.int .i64 1))), none⟩,
      ⟨some 1, .mv (.t 20), none⟩]))) (
  .reg false [⟨some 10, .mv (.t 5), none⟩,
    ⟨some 11, .bin .add (.t 10) (.c (.v (.int .i64 1))), none⟩,
    ⟨some 5, .mv (.t 11), none⟩])))
def e217x0 : Exits := [(.ret, [(4, .c (.i .i64))]), ((.exit 0), [(1, .c (.i .i64))])]
noncomputable def l217x0 (T : Table) (k : Nat) := loopN (evalC ⟨T, []⟩ k b217x0 (Ex × List AV)) [0, 1, 5] e217x0
def a217 : AFun := ⟨[.rd, .rd], false, [.t 4], (
  .seq (.reg false [⟨some 4, .mv (.c (.v (.int .i64 0))), none⟩]) (
  .seq (.seq (.reg false [⟨some 5, .mv (.c (.v (.int .i64 0))), none⟩]) (
  .block 0 (.loop [0, 1, 5] e217x0 b217x0))) (
  .seq (.reg false [⟨some 21, .mv (.t 1), none⟩,
    ⟨some 4, .mv (.t 21), none⟩]) (
  .ret))))⟩
theorem l217x0s (T : Table) (k n : Nat) (l3 : Rows) (n4 : Int) (n5 : Int) : l217x0 T k (n + 1) [(.fz 1 l3), (.v (.int .i64 n4)), (.v (.int .i64 n5))] = (
 bif (decide (n5 < (l3.length : Int))) then (
 tst (decide (0 ≤ n5)) (
 look l3 (Int.toNat n5) fun r6 =>
 cS r6 0 fun s7 =>
 callT T 167 [(.d (.v (.int .i64 n4)))] fun o8 =>
 oD o8.res fun d9 =>
 dS d9 fun s10 =>
 bif (!(bytesEq s7 s10)) then (
 some (.ret, [(.v (.int .i64 (-1)))])) else (
 l217x0 T k n [(.fz 1 l3), (.v (.int .i64 (IntKind.wrap .i64 (n4 + 1)))), (.v (.int .i64 (IntKind.wrap .i64 (n5 + 1))))]))) else (
 some ((.exit 0), [(.v (.int .i64 n4))]))) := by kernel_rfl
theorem a217q (T : Table) (k : Nat) (l1 : Rows) (n2 : Int) : evalF T k a217 [(.d (.s 1 l1)), (.d (.v (.int .i64 n2)))] = (
 aft (l217x0 T k k [(.fz 1 l1), (.v (.int .i64 n2)), (.v (.int .i64 0))]) fun e11 ys12 =>
 bif e11.same .ret then (
 aV ys12 0 fun x13 =>
 aI .i64 x13 fun n14 =>
 some ⟨(.d (.v (.int .i64 n14))), []⟩) else (
 bif e11.same (.exit 0) then (
 aV ys12 0 fun x15 =>
 aI .i64 x15 fun n16 =>
 some ⟨(.d (.v (.int .i64 n16))), []⟩) else (
 none))) := by kernel_rfl
/- loop.example/g00119/laws.heldValueS -/
def b218x0 : ACode := (
  .seq (.seq (.reg false [⟨some 6, .mv (.t 5), none⟩,
    ⟨some 7, .mv (.t 0), none⟩,
    ⟨some 8, .len false (.t 7), none⟩,
    ⟨some 9, .bin .lss (.t 6) (.t 8), none⟩]) (
  .cond (.t 9) (.skip) (.exit 0))) (
  .seq (.block 1 (.seq (.seq (.reg false [⟨some 12, .mv (.t 0), none⟩,
      ⟨some 13, .mv (.t 5), none⟩,
      ⟨some 14, .iad 5 (.t 12) (.t 13), none⟩,
      ⟨some 15, .fad 0 (.t 14), none⟩,
      ⟨some 16, .load false [(.i .i64)] (.t 15), none⟩,
      ⟨some 17, .mv (.t 1), none⟩,
      ⟨some 18, .bin .neq (.t 16) (.t 17), none⟩]) (
    .cond (.t 18) (.seq (.reg false [⟨some 4, .mv (.c (.v (.int .i64 (-1)))), none⟩]) (
      .ret)) (.skip))) (
    .seq (.reg false [⟨some 19, .mv (.t 1), none⟩,
      ⟨some 20, .bin .add (.t 19) (.c (.v (.int .i64 1))), none⟩,
      ⟨some 1, .mv (.t 20), none⟩]) (
    .seq (.seq (.dreg [] [(0, ⟨some 21, .mv (.t 0), none⟩),
      (0, ⟨some 22, .mv (.t 5), none⟩),
      (0, ⟨some 23, .iad 5 (.t 21) (.t 22), none⟩),
      (0, ⟨some 24, .fad 1 (.t 23), none⟩),
      (0, ⟨some 25, .load false [.s] (.t 24), none⟩),
      (0, ⟨some 26, .mv (.t 1), none⟩),
      (1, ⟨some 27, .call (.f 167) [.rd] false [.c .s] [(.t 26)], none⟩)] [⟨some 28, .bin .neq (.t 25) (.t 27), none⟩]) (
    .cond (.t 28) (.seq (.reg false [⟨some 4, .mv (.c (.v (.int .i64 (-1)))), none⟩]) (
      .ret)) (.skip))) (
    .seq (.reg false [⟨some 29, .mv (.t 1), none⟩,
      ⟨some 30, .bin .add (.t 29) (.c (.v (.int .i64 1))), none⟩,
      ⟨some 1, .mv (.t 30), none⟩]) (
    .seq (.seq (.reg false [⟨some 31, .mv (.t 0), none⟩,
      ⟨some 32, .mv (.t 5), none⟩,
      ⟨some 33, .iad 5 (.t 31) (.t 32), none⟩,
      ⟨some 34, .fad 2 (.t 33), none⟩,
      ⟨some 35, .load false [(.i .i64)] (.t 34), none⟩,
      ⟨some 36, .mv (.t 1), none⟩,
      ⟨some 37, .bin .neq (.t 35) (.t 36), none⟩]) (
    .cond (.t 37) (.seq (.reg false [⟨some 4, .mv (.c (.v (.int .i64 (-1)))), none⟩]) (
      .ret)) (.skip))) (
    .seq (.reg false [⟨some 38, .mv (.t 1), none⟩,
      ⟨some 39, .bin .add (.t 38) (.c (.v (.int .i64 1))), none⟩,
      ⟨some 1, .mv (.t 39), none⟩]) (
    .seq (.reg false [⟨some 40, .mv (.t 0), none⟩,
      ⟨some 41, .mv (.t 5), none⟩,
      ⟨some 42, .iad 5 (.t 40) (.t 41), none⟩,
      ⟨some 43, .fad 3 (.t 42), none⟩,
      ⟨some 44, .load false [(.sl 1)] (.t 43), none⟩,
      ⟨some 45, .mv (.t 1), none⟩,
      ⟨some 46, .call (.f 217) [.rd, .rd] false [.c (.i .i64)] [(.t 44), (.t 45)], none⟩,
      ⟨some 1, .mv (.t 46), none⟩]) (
    .seq (.seq (.reg false [⟨some 47, .mv (.t 1), none⟩,
      ⟨some 48, .bin .lss (.t 47) (.c (.v (.int .i64 0))), none⟩]) (
    .cond (.t 48) (.seq (.reg false [⟨some 4, .mv (.c (.v (.int .i64 (-1)))), none⟩]) (
      .ret)) (.skip))) (
    .seq (.reg false [⟨some 49, .mv (.t 0), none⟩,
      ⟨some 50, .mv (.t 5), none⟩,
      ⟨some 51, .iad 5 (.t 49) (.t 50), none⟩,
      ⟨some 52, .fad 4 (.t 51), none⟩,
      ⟨some 53, .load false [(.sl 5)] (.t 52), none⟩,
      ⟨some 54, .mv (.t 1), none⟩,
      ⟨some 55, .call (.f 218) [.rd, .rd] false [.c (.i .i64)] [(.t 53), (.t 54)], none⟩,
      ⟨some 1, .mv (.t 55), none⟩]) (
    .seq (.reg false [⟨some 56, .mv (.t 1), none⟩,
      ⟨some 57, .bin .lss (.t 56) (.c (.v (.int .i64 0))), none⟩]) (
    .cond (.t 57) (.seq (.reg false [⟨some 4, .mv (.c (.v (.int .i64 (-1)))), none⟩]) (
      .ret)) (.skip))))))))))))) (
  .reg false [⟨some 10, .mv (.t 5), none⟩,
    ⟨some 11, .bin .add (.t 10) (.c (.v (.int .i64 1))), none⟩,
    ⟨some 5, .mv (.t 11), none⟩])))
def e218x0 : Exits := [(.ret, [(4, .c (.i .i64))]), ((.exit 0), [(1, .c (.i .i64))])]
noncomputable def l218x0 (T : Table) (k : Nat) := loopN (evalC ⟨T, []⟩ k b218x0 (Ex × List AV)) [0, 1, 5] e218x0
def a218 : AFun := ⟨[.rd, .rd], false, [.t 4], (
  .seq (.reg false [⟨some 4, .mv (.c (.v (.int .i64 0))), none⟩]) (
  .seq (.seq (.reg false [⟨some 5, .mv (.c (.v (.int .i64 0))), none⟩]) (
  .block 0 (.loop [0, 1, 5] e218x0 b218x0))) (
  .seq (.reg false [⟨some 58, .mv (.t 1), none⟩,
    ⟨some 4, .mv (.t 58), none⟩]) (
  .ret))))⟩
theorem l218x0s (T : Table) (k n : Nat) (l3 : Rows) (n4 : Int) (n5 : Int) : l218x0 T k (n + 1) [(.fz 5 l3), (.v (.int .i64 n4)), (.v (.int .i64 n5))] = (
 bif (decide (n5 < (l3.length : Int))) then (
 tst (decide (0 ≤ n5)) (
 look l3 (Int.toNat n5) fun r6 =>
 cI .i64 r6 0 fun n7 =>
 bif (n7 != n4) then (
 some (.ret, [(.v (.int .i64 (-1)))])) else (
 tst (decide (0 ≤ n5)) (
 look l3 (Int.toNat n5) fun r8 =>
 cS r8 1 fun s9 =>
 callT T 167 [(.d (.v (.int .i64 (IntKind.wrap .i64 (n4 + 1)))))] fun o10 =>
 oD o10.res fun d11 =>
 dS d11 fun s12 =>
 bif (!(bytesEq s9 s12)) then (
 some (.ret, [(.v (.int .i64 (-1)))])) else (
 tst (decide (0 ≤ n5)) (
 look l3 (Int.toNat n5) fun r13 =>
 cI .i64 r13 2 fun n14 =>
 bif (n14 != (IntKind.wrap .i64 ((IntKind.wrap .i64 (n4 + 1)) + 1))) then (
 some (.ret, [(.v (.int .i64 (-1)))])) else (
 tst (decide (0 ≤ n5)) (
 look l3 (Int.toNat n5) fun r15 =>
 cL 1 r15 3 fun l16 =>
 callT T 217 [(.d (.s 1 l16)), (.d (.v (.int .i64 (IntKind.wrap .i64 ((IntKind.wrap .i64 ((IntKind.wrap .i64 (n4 + 1)) + 1)) + 1)))))] fun o17 =>
 oD o17.res fun d18 =>
 dI .i64 d18 fun n19 =>
 bif (decide (n19 < 0)) then (
 some (.ret, [(.v (.int .i64 (-1)))])) else (
 tst (decide (0 ≤ n5)) (
 look l3 (Int.toNat n5) fun r20 =>
 cL 5 r20 4 fun l21 =>
 callT T 218 [(.d (.s 5 l21)), (.d (.v (.int .i64 n19)))] fun o22 =>
 oD o22.res fun d23 =>
 dI .i64 d23 fun n24 =>
 bif (decide (n24 < 0)) then (
 some (.ret, [(.v (.int .i64 (-1)))])) else (
 l218x0 T k n [(.fz 5 l3), (.v (.int .i64 n24)), (.v (.int .i64 (IntKind.wrap .i64 (n5 + 1))))]))))))))))) else (
 some ((.exit 0), [(.v (.int .i64 n4))]))) := by kernel_rfl
theorem a218q (T : Table) (k : Nat) (l1 : Rows) (n2 : Int) : evalF T k a218 [(.d (.s 5 l1)), (.d (.v (.int .i64 n2)))] = (
 aft (l218x0 T k k [(.fz 5 l1), (.v (.int .i64 n2)), (.v (.int .i64 0))]) fun e25 ys26 =>
 bif e25.same .ret then (
 aV ys26 0 fun x27 =>
 aI .i64 x27 fun n28 =>
 some ⟨(.d (.v (.int .i64 n28))), []⟩) else (
 bif e25.same (.exit 0) then (
 aV ys26 0 fun x29 =>
 aI .i64 x29 fun n30 =>
 some ⟨(.d (.v (.int .i64 n30))), []⟩) else (
 none))) := by kernel_rfl
/- loop.example/g00119/laws.heldWorkS -/
def b117x0 : ACode := (
  .seq (.seq (.reg false [⟨some 6, .mv (.t 5), none⟩,
    ⟨some 7, .mv (.t 0), none⟩,
    ⟨some 8, .len false (.t 7), none⟩,
    ⟨some 9, .bin .lss (.t 6) (.t 8), none⟩]) (
  .cond (.t 9) (.skip) (.exit 0))) (
  .seq (.block 1 (.seq (.seq (.reg false [⟨some 12, .mv (.t 0), none⟩,
      ⟨some 13, .mv (.t 5), none⟩,
      ⟨some 14, .iad 7 (.t 12) (.t 13), none⟩,
      ⟨some 15, .fad 0 (.t 14), none⟩,
      ⟨some 16, .load false [(.i .i64)] (.t 15), none⟩,
      ⟨some 17, .mv (.t 1), none⟩,
      ⟨some 18, .bin .neq (.t 16) (.t 17), none⟩]) (
    .cond (.t 18) (.seq (.reg false [⟨some 4, .mv (.c (.v (.int .i64 (-1)))), none⟩]) (
      .ret)) (.skip))) (
    .seq (.reg false [⟨some 19, .mv (.t 1), none⟩,
      ⟨some 20, .bin .add (.t 19) (.c (.v (.int .i64 1))), none⟩,
      ⟨some 1, .mv (.t 20), none⟩]) (
    .seq (.seq (.reg false [⟨some 21, .mv (.t 0), none⟩,
      ⟨some 22, .mv (.t 5), none⟩,
      ⟨some 23, .iad 7 (.t 21) (.t 22), none⟩,
      ⟨some 24, .fad 1 (.t 23), none⟩,
      ⟨some 25, .load false [(.i .i64)] (.t 24), none⟩,
      ⟨some 26, .mv (.t 1), none⟩,
      ⟨some 27, .bin .neq (.t 25) (.t 26), none⟩]) (
    .cond (.t 27) (.seq (.reg false [⟨some 4, .mv (.c (.v (.int .i64 (-1)))), none⟩]) (
      .ret)) (.skip))) (
    .seq (.reg false [⟨some 28, .mv (.t 1), none⟩,
      ⟨some 29, .bin .add (.t 28) (.c (.v (.int .i64 1))), none⟩,
      ⟨some 1, .mv (.t 29), none⟩]) (
    .seq (.seq (.reg false [⟨some 30, .mv (.t 0), none⟩,
      ⟨some 31, .mv (.t 5), none⟩,
      ⟨some 32, .iad 7 (.t 30) (.t 31), none⟩,
      ⟨some 33, .fad 2 (.t 32), none⟩,
      ⟨some 34, .fad 0 (.t 33), none⟩,
      ⟨some 35, .load false [(.i .i64)] (.t 34), none⟩,
      ⟨some 36, .mv (.t 1), none⟩,
      ⟨some 37, .bin .neq (.t 35) (.t 36), none⟩]) (
    .cond (.t 37) (.seq (.reg false [⟨some 4, .mv (.c (.v (.int .i64 (-1)))), none⟩]) (
      .ret)) (.skip))) (
    .seq (.reg false [⟨some 38, .mv (.t 1), none⟩,
      ⟨some 39, .bin .add (.t 38) (.c (.v (.int .i64 1))), none⟩,
      ⟨some 1, .mv (.t 39), none⟩]) (
    .seq (.seq (.dreg [] [(0, ⟨some 40, .mv (.t 0), none⟩),
      (0, ⟨some 41, .mv (.t 5), none⟩),
      (0, ⟨some 42, .iad 7 (.t 40) (.t 41), none⟩),
      (0, ⟨some 43, .fad 2 (.t 42), none⟩),
      (0, ⟨some 44, .fad 1 (.t 43), none⟩),
      (0, ⟨some 45, .load false [.s] (.t 44), none⟩),
      (0, ⟨some 46, .mv (.t 1), none⟩),
      (1, ⟨some 47, .call (.f 167) [.rd] false [.c .s] [(.t 46)], none⟩)] [⟨some 48, .bin .neq (.t 45) (.t 47), none⟩]) (
    .cond (.t 48) (.seq (.reg false [⟨some 4, .mv (.c (.v (.int .i64 (-1)))), none⟩]) (
      .ret)) (.skip))) (
    .seq (.reg false [⟨some 49, .mv (.t 1), none⟩,
      ⟨some 50, .bin .add (.t 49) (.c (.v (.int .i64 1))), none⟩,
      ⟨some 1, .mv (.t 50), none⟩]) (
    .seq (.seq (.reg false [⟨some 51, .mv (.t 0), none⟩,
      ⟨some 52, .mv (.t 5), none⟩,
      ⟨some 53, .iad 7 (.t 51) (.t 52), none⟩,
      ⟨some 54, .fad 2 (.t 53), none⟩,
      ⟨some 55, .fad 2 (.t 54), none⟩,
      ⟨some 56, .load false [(.i .i64)] (.t 55), none⟩,
      ⟨some 57, .mv (.t 1), none⟩,
      ⟨some 58, .bin .neq (.t 56) (.t 57), none⟩]) (
    .cond (.t 58) (.seq (.reg false [⟨some 4, .mv (.c (.v (.int .i64 (-1)))), none⟩]) (
      .ret)) (.skip))) (
    .seq (.reg false [⟨some 59, .mv (.t 1), none⟩,
      ⟨some 60, .bin .add (.t 59) (.c (.v (.int .i64 1))), none⟩,
      ⟨some 1, .mv (.t 60), none⟩]) (
    .seq (.reg false [⟨some 61, .mv (.t 0), none⟩,
      ⟨some 62, .mv (.t 5), none⟩,
      ⟨some 63, .iad 7 (.t 61) (.t 62), none⟩,
      ⟨some 64, .fad 2 (.t 63), none⟩,
      ⟨some 65, .fad 3 (.t 64), none⟩,
      ⟨some 66, .load false [(.sl 1)] (.t 65), none⟩,
      ⟨some 67, .mv (.t 1), none⟩,
      ⟨some 68, .call (.f 217) [.rd, .rd] false [.c (.i .i64)] [(.t 66), (.t 67)], none⟩,
      ⟨some 1, .mv (.t 68), none⟩]) (
    .seq (.seq (.reg false [⟨some 69, .mv (.t 1), none⟩,
      ⟨some 70, .bin .lss (.t 69) (.c (.v (.int .i64 0))), none⟩]) (
    .cond (.t 70) (.seq (.reg false [⟨some 4, .mv (.c (.v (.int .i64 (-1)))), none⟩]) (
      .ret)) (.skip))) (
    .seq (.reg false [⟨some 71, .mv (.t 0), none⟩,
      ⟨some 72, .mv (.t 5), none⟩,
      ⟨some 73, .iad 7 (.t 71) (.t 72), none⟩,
      ⟨some 74, .fad 2 (.t 73), none⟩,
      ⟨some 75, .fad 4 (.t 74), none⟩,
      ⟨some 76, .load false [(.sl 5)] (.t 75), none⟩,
      ⟨some 77, .mv (.t 1), none⟩,
      ⟨some 78, .call (.f 218) [.rd, .rd] false [.c (.i .i64)] [(.t 76), (.t 77)], none⟩,
      ⟨some 1, .mv (.t 78), none⟩]) (
    .seq (.reg false [⟨some 79, .mv (.t 1), none⟩,
      ⟨some 80, .bin .lss (.t 79) (.c (.v (.int .i64 0))), none⟩]) (
    .cond (.t 80) (.seq (.reg false [⟨some 4, .mv (.c (.v (.int .i64 (-1)))), none⟩]) (
      .ret)) (.skip))))))))))))))))) (
  .reg false [⟨some 10, .mv (.t 5), none⟩,
    ⟨some 11, .bin .add (.t 10) (.c (.v (.int .i64 1))), none⟩,
    ⟨some 5, .mv (.t 11), none⟩])))
def e117x0 : Exits := [(.ret, [(4, .c (.i .i64))]), ((.exit 0), [(1, .c (.i .i64))])]
noncomputable def l117x0 (T : Table) (k : Nat) := loopN (evalC ⟨T, []⟩ k b117x0 (Ex × List AV)) [0, 1, 5] e117x0
def a117 : AFun := ⟨[.rd, .rd], false, [.t 4], (
  .seq (.reg false [⟨some 4, .mv (.c (.v (.int .i64 0))), none⟩]) (
  .seq (.seq (.reg false [⟨some 5, .mv (.c (.v (.int .i64 0))), none⟩]) (
  .block 0 (.loop [0, 1, 5] e117x0 b117x0))) (
  .seq (.reg false [⟨some 81, .mv (.t 1), none⟩,
    ⟨some 4, .mv (.t 81), none⟩]) (
  .ret))))⟩
theorem l117x0s (T : Table) (k n : Nat) (l3 : Rows) (n4 : Int) (n5 : Int) : l117x0 T k (n + 1) [(.fz 7 l3), (.v (.int .i64 n4)), (.v (.int .i64 n5))] = (
 bif (decide (n5 < (l3.length : Int))) then (
 tst (decide (0 ≤ n5)) (
 look l3 (Int.toNat n5) fun r6 =>
 cI .i64 r6 0 fun n7 =>
 bif (n7 != n4) then (
 some (.ret, [(.v (.int .i64 (-1)))])) else (
 tst (decide (0 ≤ n5)) (
 look l3 (Int.toNat n5) fun r8 =>
 cI .i64 r8 1 fun n9 =>
 bif (n9 != (IntKind.wrap .i64 (n4 + 1))) then (
 some (.ret, [(.v (.int .i64 (-1)))])) else (
 tst (decide (0 ≤ n5)) (
 look l3 (Int.toNat n5) fun r10 =>
 cI .i64 r10 2 fun n11 =>
 bif (n11 != (IntKind.wrap .i64 ((IntKind.wrap .i64 (n4 + 1)) + 1))) then (
 some (.ret, [(.v (.int .i64 (-1)))])) else (
 tst (decide (0 ≤ n5)) (
 look l3 (Int.toNat n5) fun r12 =>
 cS r12 3 fun s13 =>
 callT T 167 [(.d (.v (.int .i64 (IntKind.wrap .i64 ((IntKind.wrap .i64 ((IntKind.wrap .i64 (n4 + 1)) + 1)) + 1)))))] fun o14 =>
 oD o14.res fun d15 =>
 dS d15 fun s16 =>
 bif (!(bytesEq s13 s16)) then (
 some (.ret, [(.v (.int .i64 (-1)))])) else (
 tst (decide (0 ≤ n5)) (
 look l3 (Int.toNat n5) fun r17 =>
 cI .i64 r17 4 fun n18 =>
 bif (n18 != (IntKind.wrap .i64 ((IntKind.wrap .i64 ((IntKind.wrap .i64 ((IntKind.wrap .i64 (n4 + 1)) + 1)) + 1)) + 1))) then (
 some (.ret, [(.v (.int .i64 (-1)))])) else (
 tst (decide (0 ≤ n5)) (
 look l3 (Int.toNat n5) fun r19 =>
 cL 1 r19 5 fun l20 =>
 callT T 217 [(.d (.s 1 l20)), (.d (.v (.int .i64 (IntKind.wrap .i64 ((IntKind.wrap .i64 ((IntKind.wrap .i64 ((IntKind.wrap .i64 ((IntKind.wrap .i64 (n4 + 1)) + 1)) + 1)) + 1)) + 1)))))] fun o21 =>
 oD o21.res fun d22 =>
 dI .i64 d22 fun n23 =>
 bif (decide (n23 < 0)) then (
 some (.ret, [(.v (.int .i64 (-1)))])) else (
 tst (decide (0 ≤ n5)) (
 look l3 (Int.toNat n5) fun r24 =>
 cL 5 r24 6 fun l25 =>
 callT T 218 [(.d (.s 5 l25)), (.d (.v (.int .i64 n23)))] fun o26 =>
 oD o26.res fun d27 =>
 dI .i64 d27 fun n28 =>
 bif (decide (n28 < 0)) then (
 some (.ret, [(.v (.int .i64 (-1)))])) else (
 l117x0 T k n [(.fz 7 l3), (.v (.int .i64 n28)), (.v (.int .i64 (IntKind.wrap .i64 (n5 + 1))))]))))))))))))))) else (
 some ((.exit 0), [(.v (.int .i64 n4))]))) := by kernel_rfl
theorem a117q (T : Table) (k : Nat) (l1 : Rows) (n2 : Int) : evalF T k a117 [(.d (.s 7 l1)), (.d (.v (.int .i64 n2)))] = (
 aft (l117x0 T k k [(.fz 7 l1), (.v (.int .i64 n2)), (.v (.int .i64 0))]) fun e29 ys30 =>
 bif e29.same .ret then (
 aV ys30 0 fun x31 =>
 aI .i64 x31 fun n32 =>
 some ⟨(.d (.v (.int .i64 n32))), []⟩) else (
 bif e29.same (.exit 0) then (
 aV ys30 0 fun x33 =>
 aI .i64 x33 fun n34 =>
 some ⟨(.d (.v (.int .i64 n34))), []⟩) else (
 none))) := by kernel_rfl
/- loop.example/g00119/laws.heldRunS -/
def b118x0 : ACode := (
  .seq (.seq (.reg false [⟨some 6, .mv (.t 5), none⟩,
    ⟨some 7, .mv (.t 0), none⟩,
    ⟨some 8, .len false (.t 7), none⟩,
    ⟨some 9, .bin .lss (.t 6) (.t 8), none⟩]) (
  .cond (.t 9) (.skip) (.exit 0))) (
  .seq (.block 1 (.seq (.seq (.reg false [⟨some 12, .mv (.t 0), none⟩,
      ⟨some 13, .mv (.t 5), none⟩,
      ⟨some 14, .iad 2 (.t 12) (.t 13), none⟩,
      ⟨some 15, .fad 0 (.t 14), none⟩,
      ⟨some 16, .load false [(.i .i64)] (.t 15), none⟩,
      ⟨some 17, .mv (.t 1), none⟩,
      ⟨some 18, .bin .neq (.t 16) (.t 17), none⟩]) (
    .cond (.t 18) (.seq (.reg false [⟨some 4, .mv (.c (.v (.int .i64 (-1)))), none⟩]) (
      .ret)) (.skip))) (
    .seq (.reg false [⟨some 19, .mv (.t 1), none⟩,
      ⟨some 20, .bin .add (.t 19) (.c (.v (.int .i64 1))), none⟩,
      ⟨some 1, .mv (.t 20), none⟩]) (
    .seq (.seq (.reg false [⟨some 21, .mv (.t 0), none⟩,
      ⟨some 22, .mv (.t 5), none⟩,
      ⟨some 23, .iad 2 (.t 21) (.t 22), none⟩,
      ⟨some 24, .fad 1 (.t 23), none⟩,
      ⟨some 25, .load false [(.i .i64)] (.t 24), none⟩,
      ⟨some 26, .mv (.t 1), none⟩,
      ⟨some 27, .bin .neq (.t 25) (.t 26), none⟩]) (
    .cond (.t 27) (.seq (.reg false [⟨some 4, .mv (.c (.v (.int .i64 (-1)))), none⟩]) (
      .ret)) (.skip))) (
    .reg false [⟨some 28, .mv (.t 1), none⟩,
      ⟨some 29, .bin .add (.t 28) (.c (.v (.int .i64 1))), none⟩,
      ⟨some 1, .mv (.t 29), none⟩]))))) (
  .reg false [⟨some 10, .mv (.t 5), none⟩,
    ⟨some 11, .bin .add (.t 10) (.c (.v (.int .i64 1))), none⟩,
    ⟨some 5, .mv (.t 11), none⟩])))
def e118x0 : Exits := [(.ret, [(4, .c (.i .i64))]), ((.exit 0), [(1, .c (.i .i64))])]
noncomputable def l118x0 (T : Table) (k : Nat) := loopN (evalC ⟨T, []⟩ k b118x0 (Ex × List AV)) [0, 1, 5] e118x0
def a118 : AFun := ⟨[.rd, .rd], false, [.t 4], (
  .seq (.reg false [⟨some 4, .mv (.c (.v (.int .i64 0))), none⟩]) (
  .seq (.seq (.reg false [⟨some 5, .mv (.c (.v (.int .i64 0))), none⟩]) (
  .block 0 (.loop [0, 1, 5] e118x0 b118x0))) (
  .seq (.reg false [⟨some 30, .mv (.t 1), none⟩,
    ⟨some 4, .mv (.t 30), none⟩]) (
  .ret))))⟩
theorem l118x0s (T : Table) (k n : Nat) (l3 : Rows) (n4 : Int) (n5 : Int) : l118x0 T k (n + 1) [(.fz 2 l3), (.v (.int .i64 n4)), (.v (.int .i64 n5))] = (
 bif (decide (n5 < (l3.length : Int))) then (
 tst (decide (0 ≤ n5)) (
 look l3 (Int.toNat n5) fun r6 =>
 cI .i64 r6 0 fun n7 =>
 bif (n7 != n4) then (
 some (.ret, [(.v (.int .i64 (-1)))])) else (
 tst (decide (0 ≤ n5)) (
 look l3 (Int.toNat n5) fun r8 =>
 cI .i64 r8 1 fun n9 =>
 bif (n9 != (IntKind.wrap .i64 (n4 + 1))) then (
 some (.ret, [(.v (.int .i64 (-1)))])) else (
 l118x0 T k n [(.fz 2 l3), (.v (.int .i64 (IntKind.wrap .i64 ((IntKind.wrap .i64 (n4 + 1)) + 1)))), (.v (.int .i64 (IntKind.wrap .i64 (n5 + 1))))]))))) else (
 some ((.exit 0), [(.v (.int .i64 n4))]))) := by kernel_rfl
theorem a118q (T : Table) (k : Nat) (l1 : Rows) (n2 : Int) : evalF T k a118 [(.d (.s 2 l1)), (.d (.v (.int .i64 n2)))] = (
 aft (l118x0 T k k [(.fz 2 l1), (.v (.int .i64 n2)), (.v (.int .i64 0))]) fun e10 ys11 =>
 bif e10.same .ret then (
 aV ys11 0 fun x12 =>
 aI .i64 x12 fun n13 =>
 some ⟨(.d (.v (.int .i64 n13))), []⟩) else (
 bif e10.same (.exit 0) then (
 aV ys11 0 fun x14 =>
 aI .i64 x14 fun n15 =>
 some ⟨(.d (.v (.int .i64 n15))), []⟩) else (
 none))) := by kernel_rfl

-- a119 "loop.example/g00119/spec.l1New": const Value.pointer
/- loop.example/g00119/laws.heldIsle -/

def a31 : AFun := ⟨[.rd, .rd], false, [.t 4], (
  .seq (.reg false [⟨some 2, .box (.t 0), none⟩,
    ⟨some 4, .mv (.c (.v (.int .i64 0))), none⟩]) (
  .seq (.reg false [⟨some 5, .fad 3 (.t 2), none⟩,
    ⟨some 6, .load false [(.sl 7)] (.t 5), none⟩,
    ⟨some 7, .mv (.t 1), none⟩,
    ⟨some 8, .call (.f 117) [.rd, .rd] false [.c (.i .i64)] [(.t 6), (.t 7)], none⟩,
    ⟨some 1, .mv (.t 8), none⟩]) (
  .seq (.seq (.reg false [⟨some 9, .mv (.t 1), none⟩,
    ⟨some 10, .bin .lss (.t 9) (.c (.v (.int .i64 0))), none⟩]) (
  .cond (.t 10) (.seq (.reg false [⟨some 4, .mv (.c (.v (.int .i64 (-1)))), none⟩]) (
    .ret)) (.skip))) (
  .seq (.reg false [⟨some 11, .fad 4 (.t 2), none⟩,
    ⟨some 12, .load false [(.sl 2)] (.t 11), none⟩,
    ⟨some 13, .mv (.t 1), none⟩,
    ⟨some 14, .call (.f 118) [.rd, .rd] false [.c (.i .i64)] [(.t 12), (.t 13)], none⟩,
    ⟨some 1, .mv (.t 14), none⟩]) (
  .seq (.seq (.reg false [⟨some 15, .mv (.t 1), none⟩,
    ⟨some 16, .bin .lss (.t 15) (.c (.v (.int .i64 0))), none⟩]) (
  .cond (.t 16) (.seq (.reg false [⟨some 4, .mv (.c (.v (.int .i64 (-1)))), none⟩]) (
    .ret)) (.skip))) (
  .seq (.reg false [⟨some 17, .mv (.t 1), none⟩,
    ⟨some 4, .mv (.t 17), none⟩]) (
  .ret)))))))⟩

theorem a31q (T : Table) (k : Nat) (s1 : ByteArray) (n2 : Int) (n3 : Int) (l4 : Rows) (l5 : Rows) (n6 : Int) : evalF T k a31 [(.g [(.v (.string s1)), (.v (.int .i64 n2)), (.v (.int .i64 n3)), (.s 7 l4), (.s 2 l5)]), (.d (.v (.int .i64 n6)))] = (
 callT T 117 [(.d (.s 7 l4)), (.d (.v (.int .i64 n6)))] fun o7 =>
 oD o7.res fun d8 =>
 dI .i64 d8 fun n9 =>
 bif (decide (n9 < 0)) then (
 some ⟨(.d (.v (.int .i64 (-1)))), []⟩) else (
 callT T 118 [(.d (.s 2 l5)), (.d (.v (.int .i64 n9)))] fun o10 =>
 oD o10.res fun d11 =>
 dI .i64 d11 fun n12 =>
 bif (decide (n12 < 0)) then (
 some ⟨(.d (.v (.int .i64 (-1)))), []⟩) else (
 some ⟨(.d (.v (.int .i64 n12))), []⟩))) := by kernel_rfl
/- loop.example/g00119/laws.FnExactIsleOf -/

def a5 : AFun := ⟨[.rd, .rd], false, [.t 4], (
  .seq (.reg false [⟨some 2, .box (.t 0), none⟩,
    ⟨some 4, .mv (.c (.v (.bool false))), none⟩]) (
  .seq (.seq (.reg false [⟨some 16, .mv (.t 1), none⟩,
    ⟨some 17, .len true (.t 16), none⟩,
    ⟨some 18, .bin .gtr (.t 17) (.c (.v (.int .i64 1048576))), none⟩]) (
  .cond (.t 18) (.seq (.reg false [⟨some 4, .mv (.c (.v (.bool true))), none⟩]) (
    .ret)) (.skip))) (
  .seq (.reg false [⟨some 5, .mv (.c (.v (.int .i64 1048576))), none⟩]) (
  .seq (.reg false [⟨some 19, .load true [(.i .i64), (.i .i64), (.i .i64), (.sl 13), (.sl 6), (.sl 5), (.sl 1), .b, (.sl 1), (.sl 5), (.sl 5), (.sl 1)] (.t 2), none⟩,
    ⟨some 20, .mv (.t 5), none⟩,
    ⟨some 21, .call (.f 23) [.rd, .rd] false [.c (.i .i64)] [(.t 19), (.t 20)], none⟩,
    ⟨some 5, .mv (.t 21), none⟩]) (
  .seq (.seq (.reg false [⟨some 22, .mv (.t 5), none⟩,
    ⟨some 23, .bin .lss (.t 22) (.c (.v (.int .i64 0))), none⟩]) (
  .cond (.t 23) (.seq (.reg false [⟨some 4, .mv (.c (.v (.bool true))), none⟩]) (
    .ret)) (.skip))) (
  .seq (.reg false [⟨some 25, .load true [(.i .i64), (.i .i64), (.i .i64), (.sl 13), (.sl 6), (.sl 5), (.sl 1), .b, (.sl 1), (.sl 5), (.sl 5), (.sl 1)] (.t 2), none⟩,
    ⟨some 26, .call (.f 25) [.rd] false [.g [(.i .i64), (.i .i64), (.i .i64), (.sl 13), (.sl 6), (.sl 5), (.sl 1), .b, (.sl 1), (.sl 5), (.sl 5), (.sl 1)]] [(.t 25)], none⟩,
    ⟨some 27, .mv (.t 1), none⟩,
    ⟨some 28, .call (.f 24) [.rd, .rd] false [.g [.s, (.i .i64), (.i .i64), (.sl 7), (.sl 2)], .c .b] [(.t 26), (.t 27)], none⟩,
    ⟨some 24, .mv (.t 28), none⟩,
    ⟨some 29, .ext (.t 24) 0, none⟩,
    ⟨some 30, .ext (.t 24) 1, none⟩,
    ⟨some 6, .alloc [(.v (.string ByteArray.empty)), (.v (.int .i64 0)), (.v (.int .i64 0)), (.s 7 []), (.s 2 [])], none⟩,
    ⟨none, .store 5 (.t 6) (.t 29), none⟩,
    ⟨some 7, .mv (.t 30), none⟩]) (
  .seq (.reg false [⟨some 31, .load true [(.i .i64), (.i .i64), (.i .i64), (.sl 13), (.sl 6), (.sl 5), (.sl 1), .b, (.sl 1), (.sl 5), (.sl 5), (.sl 1)] (.t 2), none⟩,
    ⟨some 32, .call (.f 25) [.rd] false [.g [(.i .i64), (.i .i64), (.i .i64), (.sl 13), (.sl 6), (.sl 5), (.sl 1), .b, (.sl 1), (.sl 5), (.sl 5), (.sl 1)]] [(.t 31)], none⟩,
    ⟨some 8, .alloc [(.v (.int .i64 0)), (.v (.int .i64 0)), (.v (.int .i64 0)), (.s 13 []), (.s 6 []), (.s 5 []), (.s 1 []), (.v (.bool false)), (.s 1 []), (.s 5 []), (.s 5 []), (.s 1 [])], none⟩,
    ⟨none, .store 12 (.t 8) (.t 32), none⟩]) (
  .seq (.reg false [⟨some 34, .load true [(.i .i64), (.i .i64), (.i .i64), (.sl 13), (.sl 6), (.sl 5), (.sl 1), .b, (.sl 1), (.sl 5), (.sl 5), (.sl 1)] (.t 8), none⟩,
    ⟨some 35, .mv (.t 1), none⟩,
    ⟨some 36, .call (.f 26) [.rd, .rd] false [.g [.s, (.i .i64), (.i .i64), (.sl 7), (.sl 2)], .c .b] [(.t 34), (.t 35)], none⟩,
    ⟨some 33, .mv (.t 36), none⟩,
    ⟨some 37, .ext (.t 33) 0, none⟩,
    ⟨some 38, .ext (.t 33) 1, none⟩,
    ⟨some 9, .alloc [(.v (.string ByteArray.empty)), (.v (.int .i64 0)), (.v (.int .i64 0)), (.s 7 []), (.s 2 [])], none⟩,
    ⟨none, .store 5 (.t 9) (.t 37), none⟩,
    ⟨some 10, .mv (.t 38), none⟩]) (
  .seq (.seq (.reg false [⟨some 39, .load true [.s, (.i .i64), (.i .i64), (.sl 7), (.sl 2)] (.t 9), none⟩,
    ⟨some 40, .load true [.s, (.i .i64), (.i .i64), (.sl 7), (.sl 2)] (.t 6), none⟩,
    ⟨some 41, .call (.f 27) [.rd, .rd] false [.c .b] [(.t 39), (.t 40)], none⟩,
    ⟨some 42, .un .not (.t 41), none⟩,
    ⟨some 43, .mv (.t 42), none⟩,
    ⟨some 44, .mv (.t 10), some (43, false)⟩,
    ⟨some 45, .mv (.t 7), some (43, false)⟩,
    ⟨some 46, .beq true (.t 44) (.t 45), some (43, false)⟩,
    ⟨some 47, .pick (.t 43) (.c (.v (.bool true))) (.t 46), none⟩]) (
  .cond (.t 47) (.seq (.reg false [⟨some 4, .mv (.c (.v (.bool false))), none⟩]) (
    .ret)) (.skip))) (
  .seq (.seq (.dreg [] [(0, ⟨some 48, .load true [(.i .i64), (.i .i64), (.i .i64), (.sl 13), (.sl 6), (.sl 5), (.sl 1), .b, (.sl 1), (.sl 5), (.sl 5), (.sl 1)] (.t 8), none⟩),
    (0, ⟨some 49, .load true [(.i .i64), (.i .i64), (.i .i64), (.sl 13), (.sl 6), (.sl 5), (.sl 1), .b, (.sl 1), (.sl 5), (.sl 5), (.sl 1)] (.t 2), none⟩),
    (1, ⟨some 50, .call (.f 25) [.rd] false [.g [(.i .i64), (.i .i64), (.i .i64), (.sl 13), (.sl 6), (.sl 5), (.sl 1), .b, (.sl 1), (.sl 5), (.sl 5), (.sl 1)]] [(.t 49)], none⟩)] [⟨some 51, .call (.f 28) [.rd, .rd] false [.c .b] [(.t 48), (.t 50)], none⟩,
    ⟨some 52, .un .not (.t 51), none⟩]) (
  .cond (.t 52) (.seq (.reg false [⟨some 4, .mv (.c (.v (.bool false))), none⟩]) (
    .ret)) (.skip))) (
  .seq (.reg false [⟨some 11, .mv (.c (.v (.int .i64 1))), none⟩]) (
  .seq (.reg false [⟨some 53, .load true [(.i .i64), (.i .i64), (.i .i64), (.sl 13), (.sl 6), (.sl 5), (.sl 1), .b, (.sl 1), (.sl 5), (.sl 5), (.sl 1)] (.t 8), none⟩,
    ⟨some 54, .mv (.t 11), none⟩,
    ⟨some 55, .call (.f 29) [.lent, .rd] false [.c (.i .i64)] [(.t 53), (.t 54)], none⟩,
    ⟨some 11, .mv (.t 55), none⟩]) (
  .seq (.seq (.reg false [⟨some 56, .mv (.t 11), none⟩,
    ⟨some 57, .bin .lss (.t 56) (.c (.v (.int .i64 0))), none⟩,
    ⟨some 58, .mv (.t 57), none⟩,
    ⟨some 59, .load true [.s, (.i .i64), (.i .i64), (.sl 7), (.sl 2)] (.t 9), some (58, false)⟩,
    ⟨some 60, .load true [.s, (.i .i64), (.i .i64), (.sl 7), (.sl 2)] (.t 6), some (58, false)⟩,
    ⟨some 61, .call (.f 27) [.rd, .rd] false [.c .b] [(.t 59), (.t 60)], some (58, false)⟩,
    ⟨some 62, .un .not (.t 61), some (58, false)⟩,
    ⟨some 63, .pick (.t 58) (.c (.v (.bool true))) (.t 62), none⟩,
    ⟨some 64, .mv (.t 63), none⟩,
    ⟨some 65, .mv (.t 10), some (64, false)⟩,
    ⟨some 66, .mv (.t 7), some (64, false)⟩,
    ⟨some 67, .beq true (.t 65) (.t 66), some (64, false)⟩,
    ⟨some 68, .pick (.t 64) (.c (.v (.bool true))) (.t 67), none⟩]) (
  .cond (.t 68) (.seq (.reg false [⟨some 4, .mv (.c (.v (.bool false))), none⟩]) (
    .ret)) (.skip))) (
  .seq (.reg false [⟨some 12, .mv (.c (.v (.int .i64 1))), none⟩]) (
  .seq (.reg false [⟨some 69, .load true [.s, (.i .i64), (.i .i64), (.sl 7), (.sl 2)] (.t 9), none⟩,
    ⟨some 70, .mv (.t 12), none⟩,
    ⟨some 71, .call (.f 30) [.lent, .rd] false [.c (.i .i64)] [(.t 69), (.t 70)], none⟩,
    ⟨some 12, .mv (.t 71), none⟩]) (
  .seq (.reg false [⟨some 13, .mv (.c (.v (.int .i64 1))), none⟩]) (
  .seq (.reg false [⟨some 72, .load true [.s, (.i .i64), (.i .i64), (.sl 7), (.sl 2)] (.t 9), none⟩,
    ⟨some 73, .mv (.t 13), none⟩,
    ⟨some 74, .call (.f 31) [.rd, .rd] false [.c (.i .i64)] [(.t 72), (.t 73)], none⟩,
    ⟨some 13, .mv (.t 74), none⟩]) (
  .seq (.seq (.reg false [⟨some 75, .mv (.t 13), none⟩,
    ⟨some 76, .bin .lss (.t 75) (.c (.v (.int .i64 0))), none⟩]) (
  .cond (.t 76) (.seq (.reg false [⟨some 4, .mv (.c (.v (.bool false))), none⟩]) (
    .ret)) (.skip))) (
  .seq (.seq (.reg false [⟨some 77, .mv (.t 13), none⟩,
    ⟨some 78, .mv (.t 12), none⟩,
    ⟨some 79, .bin .neq (.t 77) (.t 78), none⟩]) (
  .cond (.t 79) (.seq (.reg false [⟨some 4, .mv (.c (.v (.bool false))), none⟩]) (
    .ret)) (.skip))) (
  .seq (.reg false [⟨some 81, .load true [(.i .i64), (.i .i64), (.i .i64), (.sl 13), (.sl 6), (.sl 5), (.sl 1), .b, (.sl 1), (.sl 5), (.sl 5), (.sl 1)] (.t 2), none⟩,
    ⟨some 82, .call (.f 25) [.rd] false [.g [(.i .i64), (.i .i64), (.i .i64), (.sl 13), (.sl 6), (.sl 5), (.sl 1), .b, (.sl 1), (.sl 5), (.sl 5), (.sl 1)]] [(.t 81)], none⟩,
    ⟨some 83, .mv (.t 1), none⟩,
    ⟨some 84, .call (.f 26) [.rd, .rd] false [.g [.s, (.i .i64), (.i .i64), (.sl 7), (.sl 2)], .c .b] [(.t 82), (.t 83)], none⟩,
    ⟨some 80, .mv (.t 84), none⟩,
    ⟨some 85, .ext (.t 80) 0, none⟩,
    ⟨some 86, .ext (.t 80) 1, none⟩,
    ⟨some 14, .alloc [(.v (.string ByteArray.empty)), (.v (.int .i64 0)), (.v (.int .i64 0)), (.s 7 []), (.s 2 [])], none⟩,
    ⟨none, .store 5 (.t 14) (.t 85), none⟩,
    ⟨some 15, .mv (.t 86), none⟩]) (
  .seq (.seq (.reg false [⟨some 87, .load true [.s, (.i .i64), (.i .i64), (.sl 7), (.sl 2)] (.t 14), none⟩,
    ⟨some 88, .load true [.s, (.i .i64), (.i .i64), (.sl 7), (.sl 2)] (.t 6), none⟩,
    ⟨some 89, .call (.f 27) [.rd, .rd] false [.c .b] [(.t 87), (.t 88)], none⟩,
    ⟨some 90, .un .not (.t 89), none⟩,
    ⟨some 91, .mv (.t 90), none⟩,
    ⟨some 92, .mv (.t 15), some (91, false)⟩,
    ⟨some 93, .mv (.t 7), some (91, false)⟩,
    ⟨some 94, .beq true (.t 92) (.t 93), some (91, false)⟩,
    ⟨some 95, .pick (.t 91) (.c (.v (.bool true))) (.t 94), none⟩]) (
  .cond (.t 95) (.seq (.reg false [⟨some 4, .mv (.c (.v (.bool false))), none⟩]) (
    .ret)) (.skip))) (
  .seq (.reg false [⟨some 13, .mv (.c (.v (.int .i64 1))), none⟩]) (
  .seq (.reg false [⟨some 96, .load true [.s, (.i .i64), (.i .i64), (.sl 7), (.sl 2)] (.t 9), none⟩,
    ⟨some 97, .mv (.t 13), none⟩,
    ⟨some 98, .call (.f 31) [.rd, .rd] false [.c (.i .i64)] [(.t 96), (.t 97)], none⟩,
    ⟨some 13, .mv (.t 98), none⟩]) (
  .seq (.seq (.reg false [⟨some 99, .mv (.t 13), none⟩,
    ⟨some 100, .bin .lss (.t 99) (.c (.v (.int .i64 0))), none⟩]) (
  .cond (.t 100) (.seq (.reg false [⟨some 4, .mv (.c (.v (.bool false))), none⟩]) (
    .ret)) (.skip))) (
  .seq (.seq (.reg false [⟨some 101, .mv (.t 13), none⟩,
    ⟨some 102, .mv (.t 12), none⟩,
    ⟨some 103, .bin .neq (.t 101) (.t 102), none⟩]) (
  .cond (.t 103) (.seq (.reg false [⟨some 4, .mv (.c (.v (.bool false))), none⟩]) (
    .ret)) (.skip))) (
  .seq (.reg false [⟨some 4, .mv (.c (.v (.bool true))), none⟩]) (
  .ret)))))))))))))))))))))))))))⟩

theorem a5q (T : Table) (k : Nat) (n1 : Int) (n2 : Int) (n3 : Int) (l4 : Rows) (l5 : Rows) (l6 : Rows) (l7 : Rows) (b8 : Bool) (l9 : Rows) (l10 : Rows) (l11 : Rows) (l12 : Rows) (s13 : ByteArray) : evalF T k a5 [(.g [(.v (.int .i64 n1)), (.v (.int .i64 n2)), (.v (.int .i64 n3)), (.s 13 l4), (.s 6 l5), (.s 5 l6), (.s 1 l7), (.v (.bool b8)), (.s 1 l9), (.s 5 l10), (.s 5 l11), (.s 1 l12)]), (.d (.v (.string s13)))] = (
 bif (decide ((s13.size : Int) > 1048576)) then (
 some ⟨(.d (.v (.bool true))), []⟩) else (
 callT T 23 [(.g [(.v (.int .i64 n1)), (.v (.int .i64 n2)), (.v (.int .i64 n3)), (.s 13 l4), (.s 6 l5), (.s 5 l6), (.s 1 l7), (.v (.bool b8)), (.s 1 l9), (.s 5 l10), (.s 5 l11), (.s 1 l12)]), (.d (.v (.int .i64 1048576)))] fun o14 =>
 oD o14.res fun d15 =>
 dI .i64 d15 fun n16 =>
 bif (decide (n16 < 0)) then (
 some ⟨(.d (.v (.bool true))), []⟩) else (
 callT T 25 [(.g [(.v (.int .i64 n1)), (.v (.int .i64 n2)), (.v (.int .i64 n3)), (.s 13 l4), (.s 6 l5), (.s 5 l6), (.s 1 l7), (.v (.bool b8)), (.s 1 l9), (.s 5 l10), (.s 5 l11), (.s 1 l12)])] fun o17 =>
 oG o17.res fun r18 =>
 tst (Nat.beq r18.length 12) (
 cI .i64 r18 0 fun n19 =>
 cI .i64 r18 1 fun n20 =>
 cI .i64 r18 2 fun n21 =>
 cL 13 r18 3 fun l22 =>
 cL 6 r18 4 fun l23 =>
 cL 5 r18 5 fun l24 =>
 cL 1 r18 6 fun l25 =>
 cB r18 7 fun b26 =>
 cL 1 r18 8 fun l27 =>
 cL 5 r18 9 fun l28 =>
 cL 5 r18 10 fun l29 =>
 cL 1 r18 11 fun l30 =>
 callT T 24 [(.g [(.v (.int .i64 n19)), (.v (.int .i64 n20)), (.v (.int .i64 n21)), (.s 13 l22), (.s 6 l23), (.s 5 l24), (.s 1 l25), (.v (.bool b26)), (.s 1 l27), (.s 5 l28), (.s 5 l29), (.s 1 l30)]), (.d (.v (.string s13)))] fun o31 =>
 oT o31.res fun is32 =>
 tst (Nat.beq is32.length 2) (
 nth is32 0 fun i33 =>
 oG i33 fun r34 =>
 tst (Nat.beq r34.length 5) (
 cS r34 0 fun s35 =>
 cI .i64 r34 1 fun n36 =>
 cI .i64 r34 2 fun n37 =>
 cL 7 r34 3 fun l38 =>
 cL 2 r34 4 fun l39 =>
 nth is32 1 fun i40 =>
 oD i40 fun d41 =>
 dB d41 fun b42 =>
 callT T 25 [(.g [(.v (.int .i64 n1)), (.v (.int .i64 n2)), (.v (.int .i64 n3)), (.s 13 l4), (.s 6 l5), (.s 5 l6), (.s 1 l7), (.v (.bool b8)), (.s 1 l9), (.s 5 l10), (.s 5 l11), (.s 1 l12)])] fun o43 =>
 oG o43.res fun r44 =>
 tst (Nat.beq r44.length 12) (
 cI .i64 r44 0 fun n45 =>
 cI .i64 r44 1 fun n46 =>
 cI .i64 r44 2 fun n47 =>
 cL 13 r44 3 fun l48 =>
 cL 6 r44 4 fun l49 =>
 cL 5 r44 5 fun l50 =>
 cL 1 r44 6 fun l51 =>
 cB r44 7 fun b52 =>
 cL 1 r44 8 fun l53 =>
 cL 5 r44 9 fun l54 =>
 cL 5 r44 10 fun l55 =>
 cL 1 r44 11 fun l56 =>
 callT T 26 [(.g [(.v (.int .i64 n45)), (.v (.int .i64 n46)), (.v (.int .i64 n47)), (.s 13 l48), (.s 6 l49), (.s 5 l50), (.s 1 l51), (.v (.bool b52)), (.s 1 l53), (.s 5 l54), (.s 5 l55), (.s 1 l56)]), (.d (.v (.string s13)))] fun o57 =>
 oT o57.res fun is58 =>
 tst (Nat.beq is58.length 2) (
 nth is58 0 fun i59 =>
 oG i59 fun r60 =>
 tst (Nat.beq r60.length 5) (
 cS r60 0 fun s61 =>
 cI .i64 r60 1 fun n62 =>
 cI .i64 r60 2 fun n63 =>
 cL 7 r60 3 fun l64 =>
 cL 2 r60 4 fun l65 =>
 nth is58 1 fun i66 =>
 oD i66 fun d67 =>
 dB d67 fun b68 =>
 callT T 27 [(.g [(.v (.string s61)), (.v (.int .i64 n62)), (.v (.int .i64 n63)), (.s 7 l64), (.s 2 l65)]), (.g [(.v (.string s35)), (.v (.int .i64 n36)), (.v (.int .i64 n37)), (.s 7 l38), (.s 2 l39)])] fun o69 =>
 oD o69.res fun d70 =>
 dB d70 fun b71 =>
 bif (!b71) == false then (
 bif (b68 != b42) then (
 some ⟨(.d (.v (.bool false))), []⟩) else (
 callT T 25 [(.g [(.v (.int .i64 n1)), (.v (.int .i64 n2)), (.v (.int .i64 n3)), (.s 13 l4), (.s 6 l5), (.s 5 l6), (.s 1 l7), (.v (.bool b8)), (.s 1 l9), (.s 5 l10), (.s 5 l11), (.s 1 l12)])] fun o72 =>
 oG o72.res fun r73 =>
 tst (Nat.beq r73.length 12) (
 cI .i64 r73 0 fun n74 =>
 cI .i64 r73 1 fun n75 =>
 cI .i64 r73 2 fun n76 =>
 cL 13 r73 3 fun l77 =>
 cL 6 r73 4 fun l78 =>
 cL 5 r73 5 fun l79 =>
 cL 1 r73 6 fun l80 =>
 cB r73 7 fun b81 =>
 cL 1 r73 8 fun l82 =>
 cL 5 r73 9 fun l83 =>
 cL 5 r73 10 fun l84 =>
 cL 1 r73 11 fun l85 =>
 callT T 28 [(.g [(.v (.int .i64 n45)), (.v (.int .i64 n46)), (.v (.int .i64 n47)), (.s 13 l48), (.s 6 l49), (.s 5 l50), (.s 1 l51), (.v (.bool b52)), (.s 1 l53), (.s 5 l54), (.s 5 l55), (.s 1 l56)]), (.g [(.v (.int .i64 n74)), (.v (.int .i64 n75)), (.v (.int .i64 n76)), (.s 13 l77), (.s 6 l78), (.s 5 l79), (.s 1 l80), (.v (.bool b81)), (.s 1 l82), (.s 5 l83), (.s 5 l84), (.s 1 l85)])] fun o86 =>
 oD o86.res fun d87 =>
 dB d87 fun b88 =>
 bif (!b88) then (
 some ⟨(.d (.v (.bool false))), []⟩) else (
 callT T 29 [(.g [(.v (.int .i64 n45)), (.v (.int .i64 n46)), (.v (.int .i64 n47)), (.s 13 l48), (.s 6 l49), (.s 5 l50), (.s 1 l51), (.v (.bool b52)), (.s 1 l53), (.s 5 l54), (.s 5 l55), (.s 1 l56)]), (.d (.v (.int .i64 1)))] fun o89 =>
 nth o89.back 0 fun i90 =>
 oG i90 fun r91 =>
 cL 13 r91 3 fun l92 =>
 cL 6 r91 4 fun l93 =>
 cL 5 r91 5 fun l94 =>
 cL 1 r91 6 fun l95 =>
 cL 1 r91 8 fun l96 =>
 cL 5 r91 9 fun l97 =>
 cL 5 r91 10 fun l98 =>
 cL 1 r91 11 fun l99 =>
 oD o89.res fun d100 =>
 dI .i64 d100 fun n101 =>
 bif (decide (n101 < 0)) == false then (
 callT T 27 [(.g [(.v (.string s61)), (.v (.int .i64 n62)), (.v (.int .i64 n63)), (.s 7 l64), (.s 2 l65)]), (.g [(.v (.string s35)), (.v (.int .i64 n36)), (.v (.int .i64 n37)), (.s 7 l38), (.s 2 l39)])] fun o102 =>
 oD o102.res fun d103 =>
 dB d103 fun b104 =>
 bif (!b104) == false then (
 bif (b68 != b42) then (
 some ⟨(.d (.v (.bool false))), []⟩) else (
 callT T 30 [(.g [(.v (.string s61)), (.v (.int .i64 n62)), (.v (.int .i64 n63)), (.s 7 l64), (.s 2 l65)]), (.d (.v (.int .i64 1)))] fun o105 =>
 nth o105.back 0 fun i106 =>
 oG i106 fun r107 =>
 cL 7 r107 3 fun l108 =>
 cL 2 r107 4 fun l109 =>
 oD o105.res fun d110 =>
 dI .i64 d110 fun n111 =>
 callT T 31 [(.g [(.v (.string s61)), (.v (.int .i64 n62)), (.v (.int .i64 n63)), (.s 7 l108), (.s 2 l109)]), (.d (.v (.int .i64 1)))] fun o112 =>
 oD o112.res fun d113 =>
 dI .i64 d113 fun n114 =>
 bif (decide (n114 < 0)) then (
 some ⟨(.d (.v (.bool false))), []⟩) else (
 bif (n114 != n111) then (
 some ⟨(.d (.v (.bool false))), []⟩) else (
 callT T 25 [(.g [(.v (.int .i64 n1)), (.v (.int .i64 n2)), (.v (.int .i64 n3)), (.s 13 l4), (.s 6 l5), (.s 5 l6), (.s 1 l7), (.v (.bool b8)), (.s 1 l9), (.s 5 l10), (.s 5 l11), (.s 1 l12)])] fun o115 =>
 oG o115.res fun r116 =>
 tst (Nat.beq r116.length 12) (
 cI .i64 r116 0 fun n117 =>
 cI .i64 r116 1 fun n118 =>
 cI .i64 r116 2 fun n119 =>
 cL 13 r116 3 fun l120 =>
 cL 6 r116 4 fun l121 =>
 cL 5 r116 5 fun l122 =>
 cL 1 r116 6 fun l123 =>
 cB r116 7 fun b124 =>
 cL 1 r116 8 fun l125 =>
 cL 5 r116 9 fun l126 =>
 cL 5 r116 10 fun l127 =>
 cL 1 r116 11 fun l128 =>
 callT T 26 [(.g [(.v (.int .i64 n117)), (.v (.int .i64 n118)), (.v (.int .i64 n119)), (.s 13 l120), (.s 6 l121), (.s 5 l122), (.s 1 l123), (.v (.bool b124)), (.s 1 l125), (.s 5 l126), (.s 5 l127), (.s 1 l128)]), (.d (.v (.string s13)))] fun o129 =>
 oT o129.res fun is130 =>
 tst (Nat.beq is130.length 2) (
 nth is130 0 fun i131 =>
 oG i131 fun r132 =>
 tst (Nat.beq r132.length 5) (
 cS r132 0 fun s133 =>
 cI .i64 r132 1 fun n134 =>
 cI .i64 r132 2 fun n135 =>
 cL 7 r132 3 fun l136 =>
 cL 2 r132 4 fun l137 =>
 nth is130 1 fun i138 =>
 oD i138 fun d139 =>
 dB d139 fun b140 =>
 callT T 27 [(.g [(.v (.string s133)), (.v (.int .i64 n134)), (.v (.int .i64 n135)), (.s 7 l136), (.s 2 l137)]), (.g [(.v (.string s35)), (.v (.int .i64 n36)), (.v (.int .i64 n37)), (.s 7 l38), (.s 2 l39)])] fun o141 =>
 oD o141.res fun d142 =>
 dB d142 fun b143 =>
 bif (!b143) == false then (
 bif (b140 != b42) then (
 some ⟨(.d (.v (.bool false))), []⟩) else (
 callT T 31 [(.g [(.v (.string s61)), (.v (.int .i64 n62)), (.v (.int .i64 n63)), (.s 7 l108), (.s 2 l109)]), (.d (.v (.int .i64 1)))] fun o144 =>
 oD o144.res fun d145 =>
 dI .i64 d145 fun n146 =>
 bif (decide (n146 < 0)) then (
 some ⟨(.d (.v (.bool false))), []⟩) else (
 bif (n146 != n111) then (
 some ⟨(.d (.v (.bool false))), []⟩) else (
 some ⟨(.d (.v (.bool true))), []⟩)))) else (
 some ⟨(.d (.v (.bool false))), []⟩)))))))) else (
 some ⟨(.d (.v (.bool false))), []⟩)) else (
 some ⟨(.d (.v (.bool false))), []⟩))))) else (
 some ⟨(.d (.v (.bool false))), []⟩)))))))))) := by kernel_rfl

-- a6 "loop.example/g00119/laws.FnCounted": IndexError('list index out of range')

end Go.Am.Is
