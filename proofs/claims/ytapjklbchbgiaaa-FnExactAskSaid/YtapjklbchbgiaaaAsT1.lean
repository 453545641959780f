/- What the functions come to, printed: equations by the kernel. Nothing is assumed. -/
import Derived.Test.YtapjklbchbgiaaaAsT0
namespace Go.Am.As
set_option linter.unusedVariables false
set_option linter.unusedSimpArgs false
set_option maxRecDepth 8000
/- loop.example/g00119/impl.Tell$1 -/

def a113 : AFun := ⟨[.rd, .rd], false, [.t 4], (
  .seq (.reg false [⟨some 2, .box (.t 0), none⟩,
    ⟨some 3, .box (.t 1), none⟩,
    ⟨some 4, .mv (.c (.v (.int .i64 0))), none⟩]) (
  .seq (.reg false [⟨some 5, .fad 0 (.t 2), none⟩,
    ⟨some 6, .load false [(.i .i64)] (.t 5), none⟩,
    ⟨some 7, .fad 0 (.t 3), none⟩,
    ⟨some 8, .load false [(.i .i64)] (.t 7), none⟩,
    ⟨some 9, .call (.f 101) [.rd, .rd] false [.c (.i .i64)] [(.t 6), (.t 8)], none⟩,
    ⟨some 4, .mv (.t 9), none⟩]) (
  .ret)))⟩

theorem a113q (T : Table) (k : Nat) (n1 : Int) (n2 : Int) (n3 : Int) (n4 : Int) : evalF T k a113 [(.g [(.v (.int .i64 n1)), (.v (.int .i64 n2))]), (.g [(.v (.int .i64 n3)), (.v (.int .i64 n4))])] = (
 callT T 101 [(.d (.v (.int .i64 n1))), (.d (.v (.int .i64 n3)))] fun o5 =>
 oD o5.res fun d6 =>
 dI .i64 d6 fun n7 =>
 some ⟨(.d (.v (.int .i64 n7))), []⟩) := by kernel_rfl
/- slices.CompactFunc[[]loop.example/g00119/impl.Run,loop.example/g00119/impl.Run] -/
def b114x1 : ACode := (
  .seq (.seq (.reg false [⟨some 32, .mv (.t 7), none⟩,
    ⟨some 33, .mv (.t 6), none⟩,
    ⟨some 34, .more (.lnw (.t 33)), none⟩,
    ⟨some 35, .bin .lss (.t 32) (.t 34), none⟩]) (
  .cond (.t 35) (.skip) (.exit 2))) (
  .seq (.block 3 (.seq (.dreg [] [(0, ⟨some 38, .mv (.t 1), none⟩),
      (0, ⟨some 39, .mv (.t 6), none⟩),
      (0, ⟨some 40, .mv (.t 7), none⟩),
      (0, ⟨some 41, .more (.iaw 2 (.t 39) (.t 40)), none⟩),
      (0, ⟨some 42, .load true [(.i .i64), (.i .i64)] (.t 41), none⟩),
      (0, ⟨some 43, .mv (.t 6), none⟩),
      (0, ⟨some 44, .mv (.t 7), none⟩),
      (0, ⟨some 45, .bin .sub (.t 44) (.c (.v (.int .i64 1))), none⟩),
      (0, ⟨some 46, .more (.iaw 2 (.t 43) (.t 45)), none⟩),
      (0, ⟨some 47, .load true [(.i .i64), (.i .i64)] (.t 46), none⟩)] [⟨some 48, .call (.t 38) [.rd, .rd] false [.c .b] [(.t 42), (.t 47)], none⟩,
      ⟨some 49, .un .not (.t 48), none⟩]) (
    .cond (.t 49) (.seq (.reg false [⟨some 50, .mv (.t 0), none⟩,
        ⟨some 51, .mv (.t 5), none⟩,
        ⟨some 52, .mv (.t 6), none⟩,
        ⟨some 53, .mv (.t 7), none⟩,
        ⟨some 54, .more (.iaw 2 (.t 52) (.t 53)), none⟩,
        ⟨some 55, .load true [(.i .i64), (.i .i64)] (.t 54), none⟩,
        ⟨some 56, .iad 2 (.t 50) (.t 51), none⟩,
        ⟨none, .store 2 (.t 56) (.t 55), none⟩]) (
      .reg false [⟨some 57, .mv (.t 5), none⟩,
        ⟨some 58, .bin .add (.t 57) (.c (.v (.int .i64 1))), none⟩,
        ⟨some 5, .mv (.t 58), none⟩])) (.skip)))) (
  .reg false [⟨some 36, .mv (.t 7), none⟩,
    ⟨some 37, .bin .add (.t 36) (.c (.v (.int .i64 1))), none⟩,
    ⟨some 7, .mv (.t 37), none⟩])))
def e114x1 : Exits := [((.exit 2), [(0, .o 2), (5, .c (.i .i64))])]
noncomputable def l114x1 (T : Table) (k : Nat) := loopN (evalC ⟨T, []⟩ k b114x1 (Ex × List AV)) [0, 1, 5, 6, 7] e114x1
def b114x0 : ACode := (
  .seq (.seq (.reg false [⟨some 12, .mv (.t 5), none⟩,
    ⟨some 13, .mv (.t 0), none⟩,
    ⟨some 14, .len false (.t 13), none⟩,
    ⟨some 15, .bin .lss (.t 12) (.t 14), none⟩]) (
  .cond (.t 15) (.skip) (.exit 0))) (
  .seq (.block 1 (.seq (.dreg [] [(0, ⟨some 18, .mv (.t 1), none⟩),
      (0, ⟨some 19, .mv (.t 0), none⟩),
      (0, ⟨some 20, .mv (.t 5), none⟩),
      (0, ⟨some 21, .iad 2 (.t 19) (.t 20), none⟩),
      (0, ⟨some 22, .load true [(.i .i64), (.i .i64)] (.t 21), none⟩),
      (0, ⟨some 23, .mv (.t 0), none⟩),
      (0, ⟨some 24, .mv (.t 5), none⟩),
      (0, ⟨some 25, .bin .sub (.t 24) (.c (.v (.int .i64 1))), none⟩),
      (0, ⟨some 26, .iad 2 (.t 23) (.t 25), none⟩),
      (0, ⟨some 27, .load true [(.i .i64), (.i .i64)] (.t 26), none⟩)] [⟨some 28, .call (.t 18) [.rd, .rd] false [.c .b] [(.t 22), (.t 27)], none⟩]) (
    .cond (.t 28) (.seq (.reg false [⟨some 29, .mv (.t 0), none⟩,
        ⟨some 30, .mv (.t 5), none⟩,
        ⟨some 31, .more (.slo 2 (.t 29) (some (.t 30)) none), none⟩,
        ⟨some 6, .mv (.t 31), none⟩]) (
      .seq (.seq (.reg false [⟨some 7, .mv (.c (.v (.int .i64 1))), none⟩]) (
      .block 2 (.loop [0, 1, 5, 6, 7] e114x1 b114x1))) (
      .seq (.reg false [⟨some 59, .mv (.t 0), none⟩,
        ⟨some 60, .mv (.t 5), none⟩,
        ⟨some 61, .more (.slo 2 (.t 59) (some (.t 60)) none), none⟩,
        ⟨none, .more (.clr [(.v (.int .i64 0)), (.v (.int .i64 0))] (.t 61)), none⟩]) (
      .seq (.reg false [⟨some 62, .mv (.t 0), none⟩,
        ⟨some 63, .mv (.t 5), none⟩,
        ⟨some 64, .more (.slo 2 (.t 62) none (some (.t 63))), none⟩,
        ⟨some 4, .mv (.t 64), none⟩]) (
      .ret))))) (.skip)))) (
  .reg false [⟨some 16, .mv (.t 5), none⟩,
    ⟨some 17, .bin .add (.t 16) (.c (.v (.int .i64 1))), none⟩,
    ⟨some 5, .mv (.t 17), none⟩])))
def e114x0 : Exits := [(.ret, [(4, .o 2)]), ((.exit 0), [(0, .o 2)])]
noncomputable def l114x0 (T : Table) (k : Nat) := loopN (evalC ⟨T, []⟩ k b114x0 (Ex × List AV)) [0, 1, 5] e114x0
def a114 : AFun := ⟨[.own, .rd], false, [.t 4], (
  .seq (.reg false [⟨some 4, .mv (.c (.o 2 [])), none⟩]) (
  .seq (.seq (.reg false [⟨some 8, .mv (.t 0), none⟩,
    ⟨some 9, .len false (.t 8), none⟩,
    ⟨some 10, .bin .lss (.t 9) (.c (.v (.int .i64 2))), none⟩]) (
  .cond (.t 10) (.seq (.reg false [⟨some 11, .mv (.t 0), none⟩,
      ⟨some 4, .mv (.t 11), none⟩]) (
    .ret)) (.skip))) (
  .seq (.seq (.reg false [⟨some 5, .mv (.c (.v (.int .i64 1))), none⟩]) (
  .block 0 (.loop [0, 1, 5] e114x0 b114x0))) (
  .seq (.reg false [⟨some 65, .mv (.t 0), none⟩,
    ⟨some 4, .mv (.t 65), none⟩]) (
  .ret)))))⟩
theorem l114x1s (T : Table) (k n : Nat) (l19 : Rows) (f20 : Nat) (cs21 : List I) (n22 : Int) (m23 : Nat) (m24 : Nat) (n25 : Int) : l114x1 T k (n + 1) [(.o 2 l19), (.ff f20 cs21), (.v (.int .i64 n22)), (.w 0 m23 m24), (.v (.int .i64 n25))] = (
 bif (decide (n25 < ((m24 - m23 : Nat) : Int))) then (
 tst (decide (0 ≤ n25) && decide (Int.toNat n25 < m24 - m23)) (
 look l19 (m23 + Int.toNat n25) fun r26 =>
 cI .i64 r26 0 fun n27 =>
 look l19 (m23 + Int.toNat n25) fun r28 =>
 cI .i64 r28 1 fun n29 =>
 tst (decide (0 ≤ (IntKind.wrap .i64 (n25 - 1))) && decide (Int.toNat (IntKind.wrap .i64 (n25 - 1)) < m24 - m23)) (
 look l19 (m23 + Int.toNat (IntKind.wrap .i64 (n25 - 1))) fun r30 =>
 cI .i64 r30 0 fun n31 =>
 look l19 (m23 + Int.toNat (IntKind.wrap .i64 (n25 - 1))) fun r32 =>
 cI .i64 r32 1 fun n33 =>
 callT T f20 ([(.g [(.v (.int .i64 n27)), (.v (.int .i64 n29))]), (.g [(.v (.int .i64 n31)), (.v (.int .i64 n33))])] ++ cs21) fun o34 =>
 oD o34.res fun d35 =>
 dB d35 fun b36 =>
 bif (!b36) then (
 tst (decide (0 ≤ n25) && decide (Int.toNat n25 < m24 - m23)) (
 look l19 (m23 + Int.toNat n25) fun r37 =>
 cI .i64 r37 0 fun n38 =>
 look l19 (m23 + Int.toNat n25) fun r39 =>
 cI .i64 r39 1 fun n40 =>
 tst (decide (0 ≤ n22) && decide (Int.toNat n22 < l19.length)) (
 l114x1 T k n [(.o 2 (setD (setD l19 (Int.toNat n22) 0 (.v (.int .i64 n38))) (Int.toNat n22) 1 (.v (.int .i64 n40)))), (.ff f20 cs21), (.v (.int .i64 (IntKind.wrap .i64 (n22 + 1)))), (.w 0 m23 m24), (.v (.int .i64 (IntKind.wrap .i64 (n25 + 1))))]))) else (
 l114x1 T k n [(.o 2 l19), (.ff f20 cs21), (.v (.int .i64 n22)), (.w 0 m23 m24), (.v (.int .i64 (IntKind.wrap .i64 (n25 + 1))))])))) else (
 some ((.exit 2), [(.o 2 l19), (.v (.int .i64 n22))]))) := by kernel_rfl
theorem l114x0s (T : Table) (k n : Nat) (l4 : Rows) (f5 : Nat) (cs6 : List I) (n7 : Int) : l114x0 T k (n + 1) [(.o 2 l4), (.ff f5 cs6), (.v (.int .i64 n7))] = (
 bif (decide (n7 < (l4.length : Int))) then (
 tst (decide (0 ≤ n7) && decide (Int.toNat n7 < l4.length)) (
 look l4 (Int.toNat n7) fun r8 =>
 cI .i64 r8 0 fun n9 =>
 look l4 (Int.toNat n7) fun r10 =>
 cI .i64 r10 1 fun n11 =>
 tst (decide (0 ≤ (IntKind.wrap .i64 (n7 - 1))) && decide (Int.toNat (IntKind.wrap .i64 (n7 - 1)) < l4.length)) (
 look l4 (Int.toNat (IntKind.wrap .i64 (n7 - 1))) fun r12 =>
 cI .i64 r12 0 fun n13 =>
 look l4 (Int.toNat (IntKind.wrap .i64 (n7 - 1))) fun r14 =>
 cI .i64 r14 1 fun n15 =>
 callT T f5 ([(.g [(.v (.int .i64 n9)), (.v (.int .i64 n11))]), (.g [(.v (.int .i64 n13)), (.v (.int .i64 n15))])] ++ cs6) fun o16 =>
 oD o16.res fun d17 =>
 dB d17 fun b18 =>
 bif b18 then (
 tst (cutOk n7 (l4.length : Int) (l4.length)) (
 aft (l114x1 T k k [(.o 2 l4), (.ff f5 cs6), (.v (.int .i64 n7)), (.w 0 (Int.toNat n7) (Int.toNat (l4.length : Int))), (.v (.int .i64 1))]) fun e41 ys42 =>
 bif e41.same (.exit 2) then (
 aV ys42 0 fun x43 =>
 aO 2 x43 fun l44 =>
 aV ys42 1 fun x45 =>
 aI .i64 x45 fun n46 =>
 tst (cutOk n46 (l44.length : Int) (l44.length)) (
 tst (decide ((Int.toNat n46) < (Int.toNat (l44.length : Int))) && Nat.beq (Int.toNat (l44.length : Int)) l44.length) (
 tst (cutOk 0 n46 ((List.take (Int.toNat n46) l44 ++ List.replicate ((Int.toNat (l44.length : Int)) - (Int.toNat n46)) ([(.v (.int .i64 0)), (.v (.int .i64 0))] : Row)).length)) (
 some (.ret, [(.o 2 ((List.take (Int.toNat n46) l44 ++ List.replicate ((Int.toNat (l44.length : Int)) - (Int.toNat n46)) ([(.v (.int .i64 0)), (.v (.int .i64 0))] : Row)).take (Int.toNat n46)))]))))) else (
 none))) else (
 l114x0 T k n [(.o 2 l4), (.ff f5 cs6), (.v (.int .i64 (IntKind.wrap .i64 (n7 + 1))))])))) else (
 some ((.exit 0), [(.o 2 l4)]))) := by kernel_rfl
theorem a114q (T : Table) (k : Nat) (l1 : Rows) (f2 : Nat) (cs3 : List I) : evalF T k a114 [(.d (.s 2 l1)), (.f f2 cs3)] = (
 bif (decide ((l1.length : Int) < 2)) then (
 some ⟨(.d (.s 2 l1)), []⟩) else (
 aft (l114x0 T k k [(.o 2 l1), (.ff f2 cs3), (.v (.int .i64 1))]) fun e47 ys48 =>
 bif e47.same .ret then (
 aV ys48 0 fun x49 =>
 aO 2 x49 fun l50 =>
 some ⟨(.d (.s 2 l50)), []⟩) else (
 bif e47.same (.exit 0) then (
 aV ys48 0 fun x51 =>
 aO 2 x51 fun l52 =>
 some ⟨(.d (.s 2 l52)), []⟩) else (
 none)))) := by kernel_rfl
/- loop.example/g00119/impl.Tell$2 -/

def a115 : AFun := ⟨[.rd, .rd], false, [.t 4], (
  .seq (.reg false [⟨some 2, .box (.t 0), none⟩,
    ⟨some 3, .box (.t 1), none⟩,
    ⟨some 4, .mv (.c (.v (.bool false))), none⟩]) (
  .seq (.reg false [⟨some 5, .fad 0 (.t 2), none⟩,
    ⟨some 6, .load false [(.i .i64)] (.t 5), none⟩,
    ⟨some 7, .fad 0 (.t 3), none⟩,
    ⟨some 8, .load false [(.i .i64)] (.t 7), none⟩,
    ⟨some 9, .bin .eql (.t 6) (.t 8), none⟩,
    ⟨some 4, .mv (.t 9), none⟩]) (
  .ret)))⟩

theorem a115q (T : Table) (k : Nat) (n1 : Int) (n2 : Int) (n3 : Int) (n4 : Int) : evalF T k a115 [(.g [(.v (.int .i64 n1)), (.v (.int .i64 n2))]), (.g [(.v (.int .i64 n3)), (.v (.int .i64 n4))])] = (
 some ⟨(.d (.v (.bool (n1 == n3)))), []⟩) := by kernel_rfl
/- loop.example/g00119/impl.Tell -/
def b67x0 : ACode := (
  .seq (.reg false [⟨some 13, .bin .lss (.t 12) (.t 11), none⟩]) (
  .seq (.cond (.t 13) (.skip) (.exit 0)) (
  .seq (.block 1 (.seq (.reg false [⟨some 14, .iad 7 (.t 10) (.t 12), none⟩,
      ⟨some 15, .load true [(.i .i64), (.i .i64), (.i .i64), .s, (.i .i64), (.sl 1), (.sl 5)] (.t 14), none⟩,
      ⟨some 5, .alloc [(.v (.int .i64 0)), (.v (.int .i64 0)), (.v (.int .i64 0)), (.v (.string ByteArray.empty)), (.v (.int .i64 0)), (.s 1 []), (.s 5 [])], none⟩,
      ⟨none, .store 7 (.t 5) (.t 15), none⟩]) (
    .reg false [⟨some 16, .mv (.t 3), none⟩,
      ⟨some 17, .fad 0 (.t 5), none⟩,
      ⟨some 18, .load false [(.i .i64)] (.t 17), none⟩,
      ⟨some 19, .build [(.v (.int .i64 0)), (.v (.int .i64 0))] [(0, 1, (.t 18))], none⟩,
      ⟨some 20, .lit 2 ([[(.v (.int .i64 0)), (.v (.int .i64 0))]] : Rows) [(0, (.t 19))], none⟩,
      ⟨some 21, .app 2 16 (.t 16) (.t 20), none⟩,
      ⟨some 3, .mv (.t 21), none⟩]))) (
  .reg false [⟨some 22, .bin .add (.t 12) (.c (.v (.int .i64 1))), none⟩,
    ⟨some 12, .mv (.t 22), none⟩]))))
def e67x0 : Exits := [((.exit 0), [(3, .o 2)])]
noncomputable def l67x0 (T : Table) (k : Nat) := loopN (evalC ⟨T, []⟩ k b67x0 (Ex × List AV)) [3, 10, 11, 12] e67x0
def a67 : AFun := ⟨[.rd], false, [.t 2], (
  .seq (.reg false [⟨some 1, .box (.t 0), none⟩,
    ⟨some 2, .mv (.c (.o 2 [])), none⟩]) (
  .seq (.reg false [⟨some 6, .fad 4 (.t 1), none⟩,
    ⟨some 7, .load false [(.sl 2)] (.t 6), none⟩,
    ⟨some 8, .call (.f 89) [.rd] false [.c (.sl 2)] [(.t 7)], none⟩,
    ⟨some 3, .mv (.t 8), none⟩]) (
  .seq (.seq (.reg false [⟨some 9, .fad 3 (.t 1), none⟩,
    ⟨some 10, .load false [(.sl 7)] (.t 9), none⟩,
    ⟨some 11, .len false (.t 10), none⟩,
    ⟨some 12, .mv (.c (.v (.int .i64 0))), none⟩]) (
  .block 0 (.loop [3, 10, 11, 12] e67x0 b67x0))) (
  .seq (.reg false [⟨some 23, .mv (.t 3), none⟩,
    ⟨some 24, .call (.f 112) [.lent, .rd] false [] [(.t 23), (.f 113)], none⟩]) (
  .seq (.reg false [⟨some 25, .mv (.t 3), none⟩,
    ⟨some 26, .call (.f 114) [.own, .rd] false [.c (.sl 2)] [(.t 25), (.f 115)], none⟩,
    ⟨some 2, .mv (.t 26), none⟩]) (
  .ret))))))⟩
theorem l67x0s (T : Table) (k n : Nat) (l9 : Rows) (l10 : Rows) (n11 : Int) (n12 : Int) : l67x0 T k (n + 1) [(.o 2 l9), (.fz 7 l10), (.v (.int .i64 n11)), (.v (.int .i64 n12))] = (
 bif (decide (n12 < n11)) then (
 tst (decide (0 ≤ n12)) (
 look l10 (Int.toNat n12) fun r13 =>
 cI .i64 r13 0 fun n14 =>
 cI .i64 r13 1 fun n15 =>
 cI .i64 r13 2 fun n16 =>
 cS r13 3 fun s17 =>
 cI .i64 r13 4 fun n18 =>
 cL 1 r13 5 fun l19 =>
 cL 5 r13 6 fun l20 =>
 tst (decide ((l9.length + ([[(.v (.int .i64 n14)), (.v (.int .i64 0))]] : Rows).length) * 16 ≤ maxBytes)) (
 l67x0 T k n [(.o 2 (l9 ++ ([[(.v (.int .i64 n14)), (.v (.int .i64 0))]] : Rows))), (.fz 7 l10), (.v (.int .i64 n11)), (.v (.int .i64 (IntKind.wrap .i64 (n12 + 1))))]))) else (
 some ((.exit 0), [(.o 2 l9)]))) := by kernel_rfl
theorem a67q (T : Table) (k : Nat) (s1 : ByteArray) (n2 : Int) (n3 : Int) (l4 : Rows) (l5 : Rows) : evalF T k a67 [(.g [(.v (.string s1)), (.v (.int .i64 n2)), (.v (.int .i64 n3)), (.s 7 l4), (.s 2 l5)])] = (
 callT T 89 [(.d (.s 2 l5))] fun o6 =>
 oD o6.res fun d7 =>
 dL 2 d7 fun l8 =>
 aft (l67x0 T k k [(.o 2 l8), (.fz 7 l4), (.v (.int .i64 (l4.length : Int))), (.v (.int .i64 0))]) fun e21 ys22 =>
 bif e21.same (.exit 0) then (
 aV ys22 0 fun x23 =>
 aO 2 x23 fun l24 =>
 callT T 112 [(.d (.s 2 l24)), (.f 113 [])] fun o25 =>
 nth o25.back 0 fun i26 =>
 oD i26 fun d27 =>
 dL 2 d27 fun l28 =>
 oT o25.res fun is29 =>
 tst (Nat.beq is29.length 0) (
 callT T 114 [(.d (.s 2 l28)), (.f 115 [])] fun o30 =>
 oD o30.res fun d31 =>
 dL 2 d31 fun l32 =>
 some ⟨(.d (.s 2 l32)), []⟩)) else (
 none)) := by kernel_rfl
/- loop.example/g00119/impl.Ask -/

def a24 : AFun := ⟨[.rd], false, [.c 2 true [(.i .i64), .s, (.i .i64), (.sl 7), (.sl 2)]], (
  .seq (.reg false [⟨some 1, .box (.t 0), none⟩,
    ⟨some 2, .alloc [(.v (.int .i64 0)), (.v (.string ByteArray.empty)), (.v (.int .i64 0)), (.s 7 []), (.s 2 [])], none⟩]) (
  .seq (.seq (.reg false [⟨some 3, .load true [.s, (.i .i64), (.i .i64), (.sl 7), (.sl 2)] (.t 1), none⟩,
    ⟨some 4, .call (.f 66) [.rd] false [.c .b] [(.t 3)], none⟩,
    ⟨some 5, .un .not (.t 4), none⟩]) (
  .cond (.t 5) (.seq (.reg false [⟨some 6, .build [(.v (.int .i64 0)), (.v (.string ByteArray.empty)), (.v (.int .i64 0)), (.s 7 []), (.s 2 [])] [], none⟩,
      ⟨none, .store 5 (.t 2) (.t 6), none⟩]) (
    .ret)) (.skip))) (
  .seq (.dreg [] [(0, ⟨some 7, .fad 0 (.t 1), none⟩),
    (0, ⟨some 8, .load false [.s] (.t 7), none⟩),
    (0, ⟨some 9, .fad 2 (.t 1), none⟩),
    (0, ⟨some 10, .load false [(.i .i64)] (.t 9), none⟩),
    (0, ⟨some 11, .load true [.s, (.i .i64), (.i .i64), (.sl 7), (.sl 2)] (.t 1), none⟩),
    (1, ⟨some 12, .call (.f 67) [.rd] false [.c (.sl 2)] [(.t 11)], none⟩)] [⟨some 13, .build [(.v (.int .i64 0)), (.v (.string ByteArray.empty)), (.v (.int .i64 0)), (.s 7 []), (.s 2 [])] [(0, 1, (.c (.v (.int .i64 1)))), (1, 1, (.t 8)), (2, 1, (.t 10)), (4, 1, (.t 12))], none⟩,
    ⟨none, .store 5 (.t 2) (.t 13), none⟩]) (
  .ret))))⟩

theorem a24q (T : Table) (k : Nat) (s1 : ByteArray) (n2 : Int) (n3 : Int) (l4 : Rows) (l5 : Rows) : evalF T k a24 [(.g [(.v (.string s1)), (.v (.int .i64 n2)), (.v (.int .i64 n3)), (.s 7 l4), (.s 2 l5)])] = (
 callT T 66 [(.g [(.v (.string s1)), (.v (.int .i64 n2)), (.v (.int .i64 n3)), (.s 7 l4), (.s 2 l5)])] fun o6 =>
 oD o6.res fun d7 =>
 dB d7 fun b8 =>
 bif (!b8) then (
 some ⟨(.g [(.v (.int .i64 0)), (.v (.string ByteArray.empty)), (.v (.int .i64 0)), (.s 7 []), (.s 2 [])]), []⟩) else (
 callT T 67 [(.g [(.v (.string s1)), (.v (.int .i64 n2)), (.v (.int .i64 n3)), (.s 7 l4), (.s 2 l5)])] fun o9 =>
 oD o9.res fun d10 =>
 dL 2 d10 fun l11 =>
 some ⟨(.g [(.v (.int .i64 1)), (.v (.string s1)), (.v (.int .i64 n3)), (.s 7 []), (.s 2 l11)]), []⟩)) := by kernel_rfl
/- loop.example/g00119/laws.heldStringS -/
def b93x0 : ACode := (
  .seq (.seq (.reg false [⟨some 6, .mv (.t 5), none⟩,
    ⟨some 7, .mv (.t 0), none⟩,
    ⟨some 8, .len false (.t 7), none⟩,
    ⟨some 9, .bin .lss (.t 6) (.t 8), none⟩]) (
  .cond (.t 9) (.skip) (.exit 0))) (
  .seq (.block 1 (.seq (.seq (.dreg [] [(0, ⟨some 12, .mv (.t 0), none⟩),
      (0, ⟨some 13, .mv (.t 5), none⟩),
      (0, ⟨some 14, .iad 1 (.t 12) (.t 13), none⟩),
      (0, ⟨some 15, .load false [.s] (.t 14), none⟩),
      (0, ⟨some 16, .mv (.t 1), none⟩),
      (1, ⟨some 17, .call (.f 75) [.rd] false [.c .s] [(.t 16)], none⟩)] [⟨some 18, .bin .neq (.t 15) (.t 17), none⟩]) (
    .cond (.t 18) (.seq (.reg false [⟨some 4, .mv (.c (.v (.int .i64 (-1)))), none⟩]) (
      .ret)) (.skip))) (
    .reg false [⟨some 19, .mv (.t 1), none⟩,
      ⟨some 20, .bin .add (.t 19) (.c (.v (.int .i64 1))), none⟩,
      ⟨some 1, .mv (.t 20), none⟩]))) (
  .reg false [⟨some 10, .mv (.t 5), none⟩,
    ⟨some 11, .bin .add (.t 10) (.c (.v (.int .i64 1))), none⟩,
    ⟨some 5, .mv (.t 11), none⟩])))
def e93x0 : Exits := [(.ret, [(4, .c (.i .i64))]), ((.exit 0), [(1, .c (.i .i64))])]
noncomputable def l93x0 (T : Table) (k : Nat) := loopN (evalC ⟨T, []⟩ k b93x0 (Ex × List AV)) [0, 1, 5] e93x0
def a93 : AFun := ⟨[.rd, .rd], false, [.t 4], (
  .seq (.reg false [⟨some 4, .mv (.c (.v (.int .i64 0))), none⟩]) (
  .seq (.seq (.reg false [⟨some 5, .mv (.c (.v (.int .i64 0))), none⟩]) (
  .block 0 (.loop [0, 1, 5] e93x0 b93x0))) (
  .seq (.reg false [⟨some 21, .mv (.t 1), none⟩,
    ⟨some 4, .mv (.t 21), none⟩]) (
  .ret))))⟩
theorem l93x0s (T : Table) (k n : Nat) (l3 : Rows) (n4 : Int) (n5 : Int) : l93x0 T k (n + 1) [(.fz 1 l3), (.v (.int .i64 n4)), (.v (.int .i64 n5))] = (
 bif (decide (n5 < (l3.length : Int))) then (
 tst (decide (0 ≤ n5)) (
 look l3 (Int.toNat n5) fun r6 =>
 cS r6 0 fun s7 =>
 callT T 75 [(.d (.v (.int .i64 n4)))] fun o8 =>
 oD o8.res fun d9 =>
 dS d9 fun s10 =>
 bif (!(bytesEq s7 s10)) then (
 some (.ret, [(.v (.int .i64 (-1)))])) else (
 l93x0 T k n [(.fz 1 l3), (.v (.int .i64 (IntKind.wrap .i64 (n4 + 1)))), (.v (.int .i64 (IntKind.wrap .i64 (n5 + 1))))]))) else (
 some ((.exit 0), [(.v (.int .i64 n4))]))) := by kernel_rfl
theorem a93q (T : Table) (k : Nat) (l1 : Rows) (n2 : Int) : evalF T k a93 [(.d (.s 1 l1)), (.d (.v (.int .i64 n2)))] = (
 aft (l93x0 T k k [(.fz 1 l1), (.v (.int .i64 n2)), (.v (.int .i64 0))]) fun e11 ys12 =>
 bif e11.same .ret then (
 aV ys12 0 fun x13 =>
 aI .i64 x13 fun n14 =>
 some ⟨(.d (.v (.int .i64 n14))), []⟩) else (
 bif e11.same (.exit 0) then (
 aV ys12 0 fun x15 =>
 aI .i64 x15 fun n16 =>
 some ⟨(.d (.v (.int .i64 n16))), []⟩) else (
 none))) := by kernel_rfl
/- loop.example/g00119/laws.heldValueS -/
def b94x0 : ACode := (
  .seq (.seq (.reg false [⟨some 6, .mv (.t 5), none⟩,
    ⟨some 7, .mv (.t 0), none⟩,
    ⟨some 8, .len false (.t 7), none⟩,
    ⟨some 9, .bin .lss (.t 6) (.t 8), none⟩]) (
  .cond (.t 9) (.skip) (.exit 0))) (
  .seq (.block 1 (.seq (.seq (.reg false [⟨some 12, .mv (.t 0), none⟩,
      ⟨some 13, .mv (.t 5), none⟩,
      ⟨some 14, .iad 5 (.t 12) (.t 13), none⟩,
      ⟨some 15, .fad 0 (.t 14), none⟩,
      ⟨some 16, .load false [(.i .i64)] (.t 15), none⟩,
      ⟨some 17, .mv (.t 1), none⟩,
      ⟨some 18, .bin .neq (.t 16) (.t 17), none⟩]) (
    .cond (.t 18) (.seq (.reg false [⟨some 4, .mv (.c (.v (.int .i64 (-1)))), none⟩]) (
      .ret)) (.skip))) (
    .seq (.reg false [⟨some 19, .mv (.t 1), none⟩,
      ⟨some 20, .bin .add (.t 19) (.c (.v (.int .i64 1))), none⟩,
      ⟨some 1, .mv (.t 20), none⟩]) (
    .seq (.seq (.dreg [] [(0, ⟨some 21, .mv (.t 0), none⟩),
      (0, ⟨some 22, .mv (.t 5), none⟩),
      (0, ⟨some 23, .iad 5 (.t 21) (.t 22), none⟩),
      (0, ⟨some 24, .fad 1 (.t 23), none⟩),
      (0, ⟨some 25, .load false [.s] (.t 24), none⟩),
      (0, ⟨some 26, .mv (.t 1), none⟩),
      (1, ⟨some 27, .call (.f 75) [.rd] false [.c .s] [(.t 26)], none⟩)] [⟨some 28, .bin .neq (.t 25) (.t 27), none⟩]) (
    .cond (.t 28) (.seq (.reg false [⟨some 4, .mv (.c (.v (.int .i64 (-1)))), none⟩]) (
      .ret)) (.skip))) (
    .seq (.reg false [⟨some 29, .mv (.t 1), none⟩,
      ⟨some 30, .bin .add (.t 29) (.c (.v (.int .i64 1))), none⟩,
      ⟨some 1, .mv (.t 30), none⟩]) (
    .seq (.seq (.reg false [⟨some 31, .mv (.t 0), none⟩,
      ⟨some 32, .mv (.t 5), none⟩,
      ⟨some 33, .iad 5 (.t 31) (.t 32), none⟩,
      ⟨some 34, .fad 2 (.t 33), none⟩,
      ⟨some 35, .load false [(.i .i64)] (.t 34), none⟩,
      ⟨some 36, .mv (.t 1), none⟩,
      ⟨some 37, .bin .neq (.t 35) (.t 36), none⟩]) (
    .cond (.t 37) (.seq (.reg false [⟨some 4, .mv (.c (.v (.int .i64 (-1)))), none⟩]) (
      .ret)) (.skip))) (
    .seq (.reg false [⟨some 38, .mv (.t 1), none⟩,
      ⟨some 39, .bin .add (.t 38) (.c (.v (.int .i64 1))), none⟩,
      ⟨some 1, .mv (.t 39), none⟩]) (
    .seq (.reg false [⟨some 40, .mv (.t 0), none⟩,
      ⟨some 41, .mv (.t 5), none⟩,
      ⟨some 42, .iad 5 (.t 40) (.t 41), none⟩,
      ⟨some 43, .fad 3 (.t 42), none⟩,
      ⟨some 44, .load false [(.sl 1)] (.t 43), none⟩,
      ⟨some 45, .mv (.t 1), none⟩,
      ⟨some 46, .call (.f 93) [.rd, .rd] false [.c (.i .i64)] [(.t 44), (.t 45)], none⟩,
      ⟨some 1, .mv (.t 46), none⟩]) (
    .seq (.seq (.reg false [⟨some 47, .mv (.t 1), none⟩,
      ⟨some 48, .bin .lss (.t 47) (.c (.v (.int .i64 0))), none⟩]) (
    .cond (.t 48) (.seq (.reg false [⟨some 4, .mv (.c (.v (.int .i64 (-1)))), none⟩]) (
      .ret)) (.skip))) (
    .seq (.reg false [⟨some 49, .mv (.t 0), none⟩,
      ⟨some 50, .mv (.t 5), none⟩,
      ⟨some 51, .iad 5 (.t 49) (.t 50), none⟩,
      ⟨some 52, .fad 4 (.t 51), none⟩,
      ⟨some 53, .load false [(.sl 5)] (.t 52), none⟩,
      ⟨some 54, .mv (.t 1), none⟩,
      ⟨some 55, .call (.f 94) [.rd, .rd] false [.c (.i .i64)] [(.t 53), (.t 54)], none⟩,
      ⟨some 1, .mv (.t 55), none⟩]) (
    .seq (.reg false [⟨some 56, .mv (.t 1), none⟩,
      ⟨some 57, .bin .lss (.t 56) (.c (.v (.int .i64 0))), none⟩]) (
    .cond (.t 57) (.seq (.reg false [⟨some 4, .mv (.c (.v (.int .i64 (-1)))), none⟩]) (
      .ret)) (.skip))))))))))))) (
  .reg false [⟨some 10, .mv (.t 5), none⟩,
    ⟨some 11, .bin .add (.t 10) (.c (.v (.int .i64 1))), none⟩,
    ⟨some 5, .mv (.t 11), none⟩])))
def e94x0 : Exits := [(.ret, [(4, .c (.i .i64))]), ((.exit 0), [(1, .c (.i .i64))])]
noncomputable def l94x0 (T : Table) (k : Nat) := loopN (evalC ⟨T, []⟩ k b94x0 (Ex × List AV)) [0, 1, 5] e94x0
def a94 : AFun := ⟨[.rd, .rd], false, [.t 4], (
  .seq (.reg false [⟨some 4, .mv (.c (.v (.int .i64 0))), none⟩]) (
  .seq (.seq (.reg false [⟨some 5, .mv (.c (.v (.int .i64 0))), none⟩]) (
  .block 0 (.loop [0, 1, 5] e94x0 b94x0))) (
  .seq (.reg false [⟨some 58, .mv (.t 1), none⟩,
    ⟨some 4, .mv (.t 58), none⟩]) (
  .ret))))⟩
theorem l94x0s (T : Table) (k n : Nat) (l3 : Rows) (n4 : Int) (n5 : Int) : l94x0 T k (n + 1) [(.fz 5 l3), (.v (.int .i64 n4)), (.v (.int .i64 n5))] = (
 bif (decide (n5 < (l3.length : Int))) then (
 tst (decide (0 ≤ n5)) (
 look l3 (Int.toNat n5) fun r6 =>
 cI .i64 r6 0 fun n7 =>
 bif (n7 != n4) then (
 some (.ret, [(.v (.int .i64 (-1)))])) else (
 tst (decide (0 ≤ n5)) (
 look l3 (Int.toNat n5) fun r8 =>
 cS r8 1 fun s9 =>
 callT T 75 [(.d (.v (.int .i64 (IntKind.wrap .i64 (n4 + 1)))))] fun o10 =>
 oD o10.res fun d11 =>
 dS d11 fun s12 =>
 bif (!(bytesEq s9 s12)) then (
 some (.ret, [(.v (.int .i64 (-1)))])) else (
 tst (decide (0 ≤ n5)) (
 look l3 (Int.toNat n5) fun r13 =>
 cI .i64 r13 2 fun n14 =>
 bif (n14 != (IntKind.wrap .i64 ((IntKind.wrap .i64 (n4 + 1)) + 1))) then (
 some (.ret, [(.v (.int .i64 (-1)))])) else (
 tst (decide (0 ≤ n5)) (
 look l3 (Int.toNat n5) fun r15 =>
 cL 1 r15 3 fun l16 =>
 callT T 93 [(.d (.s 1 l16)), (.d (.v (.int .i64 (IntKind.wrap .i64 ((IntKind.wrap .i64 ((IntKind.wrap .i64 (n4 + 1)) + 1)) + 1)))))] fun o17 =>
 oD o17.res fun d18 =>
 dI .i64 d18 fun n19 =>
 bif (decide (n19 < 0)) then (
 some (.ret, [(.v (.int .i64 (-1)))])) else (
 tst (decide (0 ≤ n5)) (
 look l3 (Int.toNat n5) fun r20 =>
 cL 5 r20 4 fun l21 =>
 callT T 94 [(.d (.s 5 l21)), (.d (.v (.int .i64 n19)))] fun o22 =>
 oD o22.res fun d23 =>
 dI .i64 d23 fun n24 =>
 bif (decide (n24 < 0)) then (
 some (.ret, [(.v (.int .i64 (-1)))])) else (
 l94x0 T k n [(.fz 5 l3), (.v (.int .i64 n24)), (.v (.int .i64 (IntKind.wrap .i64 (n5 + 1))))]))))))))))) else (
 some ((.exit 0), [(.v (.int .i64 n4))]))) := by kernel_rfl
theorem a94q (T : Table) (k : Nat) (l1 : Rows) (n2 : Int) : evalF T k a94 [(.d (.s 5 l1)), (.d (.v (.int .i64 n2)))] = (
 aft (l94x0 T k k [(.fz 5 l1), (.v (.int .i64 n2)), (.v (.int .i64 0))]) fun e25 ys26 =>
 bif e25.same .ret then (
 aV ys26 0 fun x27 =>
 aI .i64 x27 fun n28 =>
 some ⟨(.d (.v (.int .i64 n28))), []⟩) else (
 bif e25.same (.exit 0) then (
 aV ys26 0 fun x29 =>
 aI .i64 x29 fun n30 =>
 some ⟨(.d (.v (.int .i64 n30))), []⟩) else (
 none))) := by kernel_rfl
/- loop.example/g00119/laws.heldWorkS -/
def b46x0 : ACode := (
  .seq (.seq (.reg false [⟨some 6, .mv (.t 5), none⟩,
    ⟨some 7, .mv (.t 0), none⟩,
    ⟨some 8, .len false (.t 7), none⟩,
    ⟨some 9, .bin .lss (.t 6) (.t 8), none⟩]) (
  .cond (.t 9) (.skip) (.exit 0))) (
  .seq (.block 1 (.seq (.seq (.reg false [⟨some 12, .mv (.t 0), none⟩,
      ⟨some 13, .mv (.t 5), none⟩,
      ⟨some 14, .iad 7 (.t 12) (.t 13), none⟩,
      ⟨some 15, .fad 0 (.t 14), none⟩,
      ⟨some 16, .load false [(.i .i64)] (.t 15), none⟩,
      ⟨some 17, .mv (.t 1), none⟩,
      ⟨some 18, .bin .neq (.t 16) (.t 17), none⟩]) (
    .cond (.t 18) (.seq (.reg false [⟨some 4, .mv (.c (.v (.int .i64 (-1)))), none⟩]) (
      .ret)) (.skip))) (
    .seq (.reg false [⟨some 19, .mv (.t 1), none⟩,
      ⟨some 20, .bin .add (.t 19) (.c (.v (.int .i64 1))), none⟩,
      ⟨some 1, .mv (.t 20), none⟩]) (
    .seq (.seq (.reg false [⟨some 21, .mv (.t 0), none⟩,
      ⟨some 22, .mv (.t 5), none⟩,
      ⟨some 23, .iad 7 (.t 21) (.t 22), none⟩,
      ⟨some 24, .fad 1 (.t 23), none⟩,
      ⟨some 25, .load false [(.i .i64)] (.t 24), none⟩,
      ⟨some 26, .mv (.t 1), none⟩,
      ⟨some 27, .bin .neq (.t 25) (.t 26), none⟩]) (
    .cond (.t 27) (.seq (.reg false [⟨some 4, .mv (.c (.v (.int .i64 (-1)))), none⟩]) (
      .ret)) (.skip))) (
    .seq (.reg false [⟨some 28, .mv (.t 1), none⟩,
      ⟨some 29, .bin .add (.t 28) (.c (.v (.int .i64 1))), none⟩,
      ⟨some 1, .mv (.t 29), none⟩]) (
    .seq (.seq (.reg false [⟨some 30, .mv (.t 0), none⟩,
      ⟨some 31, .mv (.t 5), none⟩,
      ⟨some 32, .iad 7 (.t 30) (.t 31), none⟩,
      ⟨some 33, .fad 2 (.t 32), none⟩,
      ⟨some 34, .fad 0 (.t 33), none⟩,
      ⟨some 35, .load false [(.i .i64)] (.t 34), none⟩,
      ⟨some 36, .mv (.t 1), none⟩,
      ⟨some 37, .bin .neq (.t 35) (.t 36), none⟩]) (
    .cond (.t 37) (.seq (.reg false [⟨some 4, .mv (.c (.v (.int .i64 (-1)))), none⟩]) (
      .ret)) (.skip))) (
    .seq (.reg false [⟨some 38, .mv (.t 1), none⟩,
      ⟨some 39, .bin .add (.t 38) (.c (.v (.int .i64 1))), none⟩,
      ⟨some 1, .mv (.t 39), none⟩]) (
    .seq (.seq (.dreg [] [(0, ⟨some 40, .mv (.t 0), none⟩),
      (0, ⟨some 41, .mv (.t 5), none⟩),
      (0, ⟨some 42, .iad 7 (.t 40) (.t 41), none⟩),
      (0, ⟨some 43, .fad 2 (.t 42), none⟩),
      (0, ⟨some 44, .fad 1 (.t 43), none⟩),
      (0, ⟨some 45, .load false [.s] (.t 44), none⟩),
      (0, ⟨some 46, .mv (.t 1), none⟩),
      (1, ⟨some 47, .call (.f 75) [.rd] false [.c .s] [(.t 46)], none⟩)] [⟨some 48, .bin .neq (.t 45) (.t 47), none⟩]) (
    .cond (.t 48) (.seq (.reg false [⟨some 4, .mv (.c (.v (.int .i64 (-1)))), none⟩]) (
      .ret)) (.skip))) (
    .seq (.reg false [⟨some 49, .mv (.t 1), none⟩,
      ⟨some 50, .bin .add (.t 49) (.c (.v (.int .i64 1))), none⟩,
      ⟨some 1, .mv (.t 50), none⟩]) (
    .seq (.seq (.reg false [⟨some 51, .mv (.t 0), none⟩,
      ⟨some 52, .mv (.t 5), none⟩,
      ⟨some 53, .iad 7 (.t 51) (.t 52), none⟩,
      ⟨some 54, .fad 2 (.t 53), none⟩,
      ⟨some 55, .fad 2 (.t 54), none⟩,
      ⟨some 56, .load false [(.i .i64)] (.t 55), none⟩,
      ⟨some 57, .mv (.t 1), none⟩,
      ⟨some 58, .bin .neq (.t 56) (.t 57), none⟩]) (
    .cond (.t 58) (.seq (.reg false [⟨some 4, .mv (.c (.v (.int .i64 (-1)))), none⟩]) (
      .ret)) (.skip))) (
    .seq (.reg false [⟨some 59, .mv (.t 1), none⟩,
      ⟨some 60, .bin .add (.t 59) (.c (.v (.int .i64 1))), none⟩,
      ⟨some 1, .mv (.t 60), none⟩]) (
    .seq (.reg false [⟨some 61, .mv (.t 0), none⟩,
      ⟨some 62, .mv (.t 5), none⟩,
      ⟨some 63, .iad 7 (.t 61) (.t 62), none⟩,
      ⟨some 64, .fad 2 (.t 63), none⟩,
      ⟨some 65, .fad 3 (.t 64), none⟩,
      ⟨some 66, .load false [(.sl 1)] (.t 65), none⟩,
      ⟨some 67, .mv (.t 1), none⟩,
      ⟨some 68, .call (.f 93) [.rd, .rd] false [.c (.i .i64)] [(.t 66), (.t 67)], none⟩,
      ⟨some 1, .mv (.t 68), none⟩]) (
    .seq (.seq (.reg false [⟨some 69, .mv (.t 1), none⟩,
      ⟨some 70, .bin .lss (.t 69) (.c (.v (.int .i64 0))), none⟩]) (
    .cond (.t 70) (.seq (.reg false [⟨some 4, .mv (.c (.v (.int .i64 (-1)))), none⟩]) (
      .ret)) (.skip))) (
    .seq (.reg false [⟨some 71, .mv (.t 0), none⟩,
      ⟨some 72, .mv (.t 5), none⟩,
      ⟨some 73, .iad 7 (.t 71) (.t 72), none⟩,
      ⟨some 74, .fad 2 (.t 73), none⟩,
      ⟨some 75, .fad 4 (.t 74), none⟩,
      ⟨some 76, .load false [(.sl 5)] (.t 75), none⟩,
      ⟨some 77, .mv (.t 1), none⟩,
      ⟨some 78, .call (.f 94) [.rd, .rd] false [.c (.i .i64)] [(.t 76), (.t 77)], none⟩,
      ⟨some 1, .mv (.t 78), none⟩]) (
    .seq (.reg false [⟨some 79, .mv (.t 1), none⟩,
      ⟨some 80, .bin .lss (.t 79) (.c (.v (.int .i64 0))), none⟩]) (
    .cond (.t 80) (.seq (.reg false [⟨some 4, .mv (.c (.v (.int .i64 (-1)))), none⟩]) (
      .ret)) (.skip))))))))))))))))) (
  .reg false [⟨some 10, .mv (.t 5), none⟩,
    ⟨some 11, .bin .add (.t 10) (.c (.v (.int .i64 1))), none⟩,
    ⟨some 5, .mv (.t 11), none⟩])))
def e46x0 : Exits := [(.ret, [(4, .c (.i .i64))]), ((.exit 0), [(1, .c (.i .i64))])]
noncomputable def l46x0 (T : Table) (k : Nat) := loopN (evalC ⟨T, []⟩ k b46x0 (Ex × List AV)) [0, 1, 5] e46x0
def a46 : AFun := ⟨[.rd, .rd], false, [.t 4], (
  .seq (.reg false [⟨some 4, .mv (.c (.v (.int .i64 0))), none⟩]) (
  .seq (.seq (.reg false [⟨some 5, .mv (.c (.v (.int .i64 0))), none⟩]) (
  .block 0 (.loop [0, 1, 5] e46x0 b46x0))) (
  .seq (.reg false [⟨some 81, .mv (.t 1), none⟩,
    ⟨some 4, .mv (.t 81), none⟩]) (
  .ret))))⟩
theorem l46x0s (T : Table) (k n : Nat) (l3 : Rows) (n4 : Int) (n5 : Int) : l46x0 T k (n + 1) [(.fz 7 l3), (.v (.int .i64 n4)), (.v (.int .i64 n5))] = (
 bif (decide (n5 < (l3.length : Int))) then (
 tst (decide (0 ≤ n5)) (
 look l3 (Int.toNat n5) fun r6 =>
 cI .i64 r6 0 fun n7 =>
 bif (n7 != n4) then (
 some (.ret, [(.v (.int .i64 (-1)))])) else (
 tst (decide (0 ≤ n5)) (
 look l3 (Int.toNat n5) fun r8 =>
 cI .i64 r8 1 fun n9 =>
 bif (n9 != (IntKind.wrap .i64 (n4 + 1))) then (
 some (.ret, [(.v (.int .i64 (-1)))])) else (
 tst (decide (0 ≤ n5)) (
 look l3 (Int.toNat n5) fun r10 =>
 cI .i64 r10 2 fun n11 =>
 bif (n11 != (IntKind.wrap .i64 ((IntKind.wrap .i64 (n4 + 1)) + 1))) then (
 some (.ret, [(.v (.int .i64 (-1)))])) else (
 tst (decide (0 ≤ n5)) (
 look l3 (Int.toNat n5) fun r12 =>
 cS r12 3 fun s13 =>
 callT T 75 [(.d (.v (.int .i64 (IntKind.wrap .i64 ((IntKind.wrap .i64 ((IntKind.wrap .i64 (n4 + 1)) + 1)) + 1)))))] fun o14 =>
 oD o14.res fun d15 =>
 dS d15 fun s16 =>
 bif (!(bytesEq s13 s16)) then (
 some (.ret, [(.v (.int .i64 (-1)))])) else (
 tst (decide (0 ≤ n5)) (
 look l3 (Int.toNat n5) fun r17 =>
 cI .i64 r17 4 fun n18 =>
 bif (n18 != (IntKind.wrap .i64 ((IntKind.wrap .i64 ((IntKind.wrap .i64 ((IntKind.wrap .i64 (n4 + 1)) + 1)) + 1)) + 1))) then (
 some (.ret, [(.v (.int .i64 (-1)))])) else (
 tst (decide (0 ≤ n5)) (
 look l3 (Int.toNat n5) fun r19 =>
 cL 1 r19 5 fun l20 =>
 callT T 93 [(.d (.s 1 l20)), (.d (.v (.int .i64 (IntKind.wrap .i64 ((IntKind.wrap .i64 ((IntKind.wrap .i64 ((IntKind.wrap .i64 ((IntKind.wrap .i64 (n4 + 1)) + 1)) + 1)) + 1)) + 1)))))] fun o21 =>
 oD o21.res fun d22 =>
 dI .i64 d22 fun n23 =>
 bif (decide (n23 < 0)) then (
 some (.ret, [(.v (.int .i64 (-1)))])) else (
 tst (decide (0 ≤ n5)) (
 look l3 (Int.toNat n5) fun r24 =>
 cL 5 r24 6 fun l25 =>
 callT T 94 [(.d (.s 5 l25)), (.d (.v (.int .i64 n23)))] fun o26 =>
 oD o26.res fun d27 =>
 dI .i64 d27 fun n28 =>
 bif (decide (n28 < 0)) then (
 some (.ret, [(.v (.int .i64 (-1)))])) else (
 l46x0 T k n [(.fz 7 l3), (.v (.int .i64 n28)), (.v (.int .i64 (IntKind.wrap .i64 (n5 + 1))))]))))))))))))))) else (
 some ((.exit 0), [(.v (.int .i64 n4))]))) := by kernel_rfl
theorem a46q (T : Table) (k : Nat) (l1 : Rows) (n2 : Int) : evalF T k a46 [(.d (.s 7 l1)), (.d (.v (.int .i64 n2)))] = (
 aft (l46x0 T k k [(.fz 7 l1), (.v (.int .i64 n2)), (.v (.int .i64 0))]) fun e29 ys30 =>
 bif e29.same .ret then (
 aV ys30 0 fun x31 =>
 aI .i64 x31 fun n32 =>
 some ⟨(.d (.v (.int .i64 n32))), []⟩) else (
 bif e29.same (.exit 0) then (
 aV ys30 0 fun x33 =>
 aI .i64 x33 fun n34 =>
 some ⟨(.d (.v (.int .i64 n34))), []⟩) else (
 none))) := by kernel_rfl
/- loop.example/g00119/laws.heldRunS -/
def b47x0 : ACode := (
  .seq (.seq (.reg false [⟨some 6, .mv (.t 5), none⟩,
    ⟨some 7, .mv (.t 0), none⟩,
    ⟨some 8, .len false (.t 7), none⟩,
    ⟨some 9, .bin .lss (.t 6) (.t 8), none⟩]) (
  .cond (.t 9) (.skip) (.exit 0))) (
  .seq (.block 1 (.seq (.seq (.reg false [⟨some 12, .mv (.t 0), none⟩,
      ⟨some 13, .mv (.t 5), none⟩,
      ⟨some 14, .iad 2 (.t 12) (.t 13), none⟩,
      ⟨some 15, .fad 0 (.t 14), none⟩,
      ⟨some 16, .load false [(.i .i64)] (.t 15), none⟩,
      ⟨some 17, .mv (.t 1), none⟩,
      ⟨some 18, .bin .neq (.t 16) (.t 17), none⟩]) (
    .cond (.t 18) (.seq (.reg false [⟨some 4, .mv (.c (.v (.int .i64 (-1)))), none⟩]) (
      .ret)) (.skip))) (
    .seq (.reg false [⟨some 19, .mv (.t 1), none⟩,
      ⟨some 20, .bin .add (.t 19) (.c (.v (.int .i64 1))), none⟩,
      ⟨some 1, .mv (.t 20), none⟩]) (
    .seq (.seq (.reg false [⟨some 21, .mv (.t 0), none⟩,
      ⟨some 22, .mv (.t 5), none⟩,
      ⟨some 23, .iad 2 (.t 21) (.t 22), none⟩,
      ⟨some 24, .fad 1 (.t 23), none⟩,
      ⟨some 25, .load false [(.i .i64)] (.t 24), none⟩,
      ⟨some 26, .mv (.t 1), none⟩,
      ⟨some 27, .bin .neq (.t 25) (.t 26), none⟩]) (
    .cond (.t 27) (.seq (.reg false [⟨some 4, .mv (.c (.v (.int .i64 (-1)))), none⟩]) (
      .ret)) (.skip))) (
    .reg false [⟨some 28, .mv (.t 1), none⟩,
      ⟨some 29, .bin .add (.t 28) (.c (.v (.int .i64 1))), none⟩,
      ⟨some 1, .mv (.t 29), none⟩]))))) (
  .reg false [⟨some 10, .mv (.t 5), none⟩,
    ⟨some 11, .bin .add (.t 10) (.c (.v (.int .i64 1))), none⟩,
    ⟨some 5, .mv (.t 11), none⟩])))
def e47x0 : Exits := [(.ret, [(4, .c (.i .i64))]), ((.exit 0), [(1, .c (.i .i64))])]
noncomputable def l47x0 (T : Table) (k : Nat) := loopN (evalC ⟨T, []⟩ k b47x0 (Ex × List AV)) [0, 1, 5] e47x0
def a47 : AFun := ⟨[.rd, .rd], false, [.t 4], (
  .seq (.reg false [⟨some 4, .mv (.c (.v (.int .i64 0))), none⟩]) (
  .seq (.seq (.reg false [⟨some 5, .mv (.c (.v (.int .i64 0))), none⟩]) (
  .block 0 (.loop [0, 1, 5] e47x0 b47x0))) (
  .seq (.reg false [⟨some 30, .mv (.t 1), none⟩,
    ⟨some 4, .mv (.t 30), none⟩]) (
  .ret))))⟩
theorem l47x0s (T : Table) (k n : Nat) (l3 : Rows) (n4 : Int) (n5 : Int) : l47x0 T k (n + 1) [(.fz 2 l3), (.v (.int .i64 n4)), (.v (.int .i64 n5))] = (
 bif (decide (n5 < (l3.length : Int))) then (
 tst (decide (0 ≤ n5)) (
 look l3 (Int.toNat n5) fun r6 =>
 cI .i64 r6 0 fun n7 =>
 bif (n7 != n4) then (
 some (.ret, [(.v (.int .i64 (-1)))])) else (
 tst (decide (0 ≤ n5)) (
 look l3 (Int.toNat n5) fun r8 =>
 cI .i64 r8 1 fun n9 =>
 bif (n9 != (IntKind.wrap .i64 (n4 + 1))) then (
 some (.ret, [(.v (.int .i64 (-1)))])) else (
 l47x0 T k n [(.fz 2 l3), (.v (.int .i64 (IntKind.wrap .i64 ((IntKind.wrap .i64 (n4 + 1)) + 1)))), (.v (.int .i64 (IntKind.wrap .i64 (n5 + 1))))]))))) else (
 some ((.exit 0), [(.v (.int .i64 n4))]))) := by kernel_rfl
theorem a47q (T : Table) (k : Nat) (l1 : Rows) (n2 : Int) : evalF T k a47 [(.d (.s 2 l1)), (.d (.v (.int .i64 n2)))] = (
 aft (l47x0 T k k [(.fz 2 l1), (.v (.int .i64 n2)), (.v (.int .i64 0))]) fun e10 ys11 =>
 bif e10.same .ret then (
 aV ys11 0 fun x12 =>
 aI .i64 x12 fun n13 =>
 some ⟨(.d (.v (.int .i64 n13))), []⟩) else (
 bif e10.same (.exit 0) then (
 aV ys11 0 fun x14 =>
 aI .i64 x14 fun n15 =>
 some ⟨(.d (.v (.int .i64 n15))), []⟩) else (
 none))) := by kernel_rfl
/- loop.example/g00119/laws.heldMsg -/

def a25 : AFun := ⟨[.rd, .rd], false, [.t 4], (
  .seq (.reg false [⟨some 2, .box (.t 0), none⟩,
    ⟨some 4, .mv (.c (.v (.int .i64 0))), none⟩]) (
  .seq (.reg false [⟨some 5, .fad 3 (.t 2), none⟩,
    ⟨some 6, .load false [(.sl 7)] (.t 5), none⟩,
    ⟨some 7, .mv (.t 1), none⟩,
    ⟨some 8, .call (.f 46) [.rd, .rd] false [.c (.i .i64)] [(.t 6), (.t 7)], none⟩,
    ⟨some 1, .mv (.t 8), none⟩]) (
  .seq (.seq (.reg false [⟨some 9, .mv (.t 1), none⟩,
    ⟨some 10, .bin .lss (.t 9) (.c (.v (.int .i64 0))), none⟩]) (
  .cond (.t 10) (.seq (.reg false [⟨some 4, .mv (.c (.v (.int .i64 (-1)))), none⟩]) (
    .ret)) (.skip))) (
  .seq (.reg false [⟨some 11, .fad 4 (.t 2), none⟩,
    ⟨some 12, .load false [(.sl 2)] (.t 11), none⟩,
    ⟨some 13, .mv (.t 1), none⟩,
    ⟨some 14, .call (.f 47) [.rd, .rd] false [.c (.i .i64)] [(.t 12), (.t 13)], none⟩,
    ⟨some 1, .mv (.t 14), none⟩]) (
  .seq (.seq (.reg false [⟨some 15, .mv (.t 1), none⟩,
    ⟨some 16, .bin .lss (.t 15) (.c (.v (.int .i64 0))), none⟩]) (
  .cond (.t 16) (.seq (.reg false [⟨some 4, .mv (.c (.v (.int .i64 (-1)))), none⟩]) (
    .ret)) (.skip))) (
  .seq (.reg false [⟨some 17, .mv (.t 1), none⟩,
    ⟨some 4, .mv (.t 17), none⟩]) (
  .ret)))))))⟩

theorem a25q (T : Table) (k : Nat) (n1 : Int) (s2 : ByteArray) (n3 : Int) (l4 : Rows) (l5 : Rows) (n6 : Int) : evalF T k a25 [(.g [(.v (.int .i64 n1)), (.v (.string s2)), (.v (.int .i64 n3)), (.s 7 l4), (.s 2 l5)]), (.d (.v (.int .i64 n6)))] = (
 callT T 46 [(.d (.s 7 l4)), (.d (.v (.int .i64 n6)))] fun o7 =>
 oD o7.res fun d8 =>
 dI .i64 d8 fun n9 =>
 bif (decide (n9 < 0)) then (
 some ⟨(.d (.v (.int .i64 (-1)))), []⟩) else (
 callT T 47 [(.d (.s 2 l5)), (.d (.v (.int .i64 n9)))] fun o10 =>
 oD o10.res fun d11 =>
 dI .i64 d11 fun n12 =>
 bif (decide (n12 < 0)) then (
 some ⟨(.d (.v (.int .i64 (-1)))), []⟩) else (
 some ⟨(.d (.v (.int .i64 n12))), []⟩))) := by kernel_rfl
/- loop.example/g00119/laws.FnExactAsk -/

def a5 : AFun := ⟨[.rd], false, [.t 2], (
  .seq (.reg false [⟨some 1, .box (.t 0), none⟩,
    ⟨some 2, .mv (.c (.v (.bool false))), none⟩]) (
  .seq (.reg false [⟨some 3, .mv (.c (.v (.int .i64 1048576))), none⟩]) (
  .seq (.reg false [⟨some 11, .load true [.s, (.i .i64), (.i .i64), (.sl 7), (.sl 2)] (.t 1), none⟩,
    ⟨some 12, .mv (.t 3), none⟩,
    ⟨some 13, .call (.f 7) [.rd, .rd] false [.c (.i .i64)] [(.t 11), (.t 12)], none⟩,
    ⟨some 3, .mv (.t 13), none⟩]) (
  .seq (.seq (.reg false [⟨some 14, .mv (.t 3), none⟩,
    ⟨some 15, .bin .lss (.t 14) (.c (.v (.int .i64 0))), none⟩]) (
  .cond (.t 15) (.seq (.reg false [⟨some 2, .mv (.c (.v (.bool true))), none⟩]) (
    .ret)) (.skip))) (
  .seq (.reg false [⟨some 16, .load true [.s, (.i .i64), (.i .i64), (.sl 7), (.sl 2)] (.t 1), none⟩,
    ⟨some 17, .call (.f 10) [.rd] false [.g [.s, (.i .i64), (.i .i64), (.sl 7), (.sl 2)]] [(.t 16)], none⟩,
    ⟨some 18, .call (.f 23) [.rd] false [.g [(.i .i64), .s, (.i .i64), (.sl 7), (.sl 2)]] [(.t 17)], none⟩,
    ⟨some 4, .alloc [(.v (.int .i64 0)), (.v (.string ByteArray.empty)), (.v (.int .i64 0)), (.s 7 []), (.s 2 [])], none⟩,
    ⟨none, .store 5 (.t 4) (.t 18), none⟩]) (
  .seq (.reg false [⟨some 19, .load true [.s, (.i .i64), (.i .i64), (.sl 7), (.sl 2)] (.t 1), none⟩,
    ⟨some 20, .call (.f 10) [.rd] false [.g [.s, (.i .i64), (.i .i64), (.sl 7), (.sl 2)]] [(.t 19)], none⟩,
    ⟨some 5, .alloc [(.v (.string ByteArray.empty)), (.v (.int .i64 0)), (.v (.int .i64 0)), (.s 7 []), (.s 2 [])], none⟩,
    ⟨none, .store 5 (.t 5) (.t 20), none⟩]) (
  .seq (.reg false [⟨some 21, .load true [.s, (.i .i64), (.i .i64), (.sl 7), (.sl 2)] (.t 5), none⟩,
    ⟨some 22, .call (.f 24) [.rd] false [.g [(.i .i64), .s, (.i .i64), (.sl 7), (.sl 2)]] [(.t 21)], none⟩,
    ⟨some 6, .alloc [(.v (.int .i64 0)), (.v (.string ByteArray.empty)), (.v (.int .i64 0)), (.s 7 []), (.s 2 [])], none⟩,
    ⟨none, .store 5 (.t 6) (.t 22), none⟩]) (
  .seq (.seq (.reg false [⟨some 23, .load true [(.i .i64), .s, (.i .i64), (.sl 7), (.sl 2)] (.t 6), none⟩,
    ⟨some 24, .load true [(.i .i64), .s, (.i .i64), (.sl 7), (.sl 2)] (.t 4), none⟩,
    ⟨some 25, .call (.f 14) [.rd, .rd] false [.c .b] [(.t 23), (.t 24)], none⟩,
    ⟨some 26, .un .not (.t 25), none⟩]) (
  .cond (.t 26) (.seq (.reg false [⟨some 2, .mv (.c (.v (.bool false))), none⟩]) (
    .ret)) (.skip))) (
  .seq (.seq (.dreg [] [(0, ⟨some 27, .load true [.s, (.i .i64), (.i .i64), (.sl 7), (.sl 2)] (.t 5), none⟩),
    (0, ⟨some 28, .load true [.s, (.i .i64), (.i .i64), (.sl 7), (.sl 2)] (.t 1), none⟩),
    (1, ⟨some 29, .call (.f 10) [.rd] false [.g [.s, (.i .i64), (.i .i64), (.sl 7), (.sl 2)]] [(.t 28)], none⟩)] [⟨some 30, .call (.f 13) [.rd, .rd] false [.c .b] [(.t 27), (.t 29)], none⟩,
    ⟨some 31, .un .not (.t 30), none⟩]) (
  .cond (.t 31) (.seq (.reg false [⟨some 2, .mv (.c (.v (.bool false))), none⟩]) (
    .ret)) (.skip))) (
  .seq (.reg false [⟨some 7, .mv (.c (.v (.int .i64 1))), none⟩]) (
  .seq (.reg false [⟨some 32, .load true [.s, (.i .i64), (.i .i64), (.sl 7), (.sl 2)] (.t 5), none⟩,
    ⟨some 33, .mv (.t 7), none⟩,
    ⟨some 34, .call (.f 15) [.lent, .rd] false [.c (.i .i64)] [(.t 32), (.t 33)], none⟩,
    ⟨some 7, .mv (.t 34), none⟩]) (
  .seq (.seq (.reg false [⟨some 35, .mv (.t 7), none⟩,
    ⟨some 36, .bin .lss (.t 35) (.c (.v (.int .i64 0))), none⟩,
    ⟨some 37, .mv (.t 36), none⟩,
    ⟨some 38, .load true [(.i .i64), .s, (.i .i64), (.sl 7), (.sl 2)] (.t 6), some (37, false)⟩,
    ⟨some 39, .load true [(.i .i64), .s, (.i .i64), (.sl 7), (.sl 2)] (.t 4), some (37, false)⟩,
    ⟨some 40, .call (.f 14) [.rd, .rd] false [.c .b] [(.t 38), (.t 39)], some (37, false)⟩,
    ⟨some 41, .un .not (.t 40), some (37, false)⟩,
    ⟨some 42, .pick (.t 37) (.c (.v (.bool true))) (.t 41), none⟩]) (
  .cond (.t 42) (.seq (.reg false [⟨some 2, .mv (.c (.v (.bool false))), none⟩]) (
    .ret)) (.skip))) (
  .seq (.reg false [⟨some 8, .mv (.c (.v (.int .i64 1))), none⟩]) (
  .seq (.reg false [⟨some 43, .load true [(.i .i64), .s, (.i .i64), (.sl 7), (.sl 2)] (.t 6), none⟩,
    ⟨some 44, .mv (.t 8), none⟩,
    ⟨some 45, .call (.f 16) [.lent, .rd] false [.c (.i .i64)] [(.t 43), (.t 44)], none⟩,
    ⟨some 8, .mv (.t 45), none⟩]) (
  .seq (.reg false [⟨some 9, .mv (.c (.v (.int .i64 1))), none⟩]) (
  .seq (.reg false [⟨some 46, .load true [(.i .i64), .s, (.i .i64), (.sl 7), (.sl 2)] (.t 6), none⟩,
    ⟨some 47, .mv (.t 9), none⟩,
    ⟨some 48, .call (.f 25) [.rd, .rd] false [.c (.i .i64)] [(.t 46), (.t 47)], none⟩,
    ⟨some 9, .mv (.t 48), none⟩]) (
  .seq (.seq (.reg false [⟨some 49, .mv (.t 9), none⟩,
    ⟨some 50, .bin .lss (.t 49) (.c (.v (.int .i64 0))), none⟩]) (
  .cond (.t 50) (.seq (.reg false [⟨some 2, .mv (.c (.v (.bool false))), none⟩]) (
    .ret)) (.skip))) (
  .seq (.seq (.reg false [⟨some 51, .mv (.t 9), none⟩,
    ⟨some 52, .mv (.t 8), none⟩,
    ⟨some 53, .bin .neq (.t 51) (.t 52), none⟩]) (
  .cond (.t 53) (.seq (.reg false [⟨some 2, .mv (.c (.v (.bool false))), none⟩]) (
    .ret)) (.skip))) (
  .seq (.reg false [⟨some 54, .load true [.s, (.i .i64), (.i .i64), (.sl 7), (.sl 2)] (.t 1), none⟩,
    ⟨some 55, .call (.f 10) [.rd] false [.g [.s, (.i .i64), (.i .i64), (.sl 7), (.sl 2)]] [(.t 54)], none⟩,
    ⟨some 56, .call (.f 24) [.rd] false [.g [(.i .i64), .s, (.i .i64), (.sl 7), (.sl 2)]] [(.t 55)], none⟩,
    ⟨some 10, .alloc [(.v (.int .i64 0)), (.v (.string ByteArray.empty)), (.v (.int .i64 0)), (.s 7 []), (.s 2 [])], none⟩,
    ⟨none, .store 5 (.t 10) (.t 56), none⟩]) (
  .seq (.seq (.reg false [⟨some 57, .load true [(.i .i64), .s, (.i .i64), (.sl 7), (.sl 2)] (.t 10), none⟩,
    ⟨some 58, .load true [(.i .i64), .s, (.i .i64), (.sl 7), (.sl 2)] (.t 4), none⟩,
    ⟨some 59, .call (.f 14) [.rd, .rd] false [.c .b] [(.t 57), (.t 58)], none⟩,
    ⟨some 60, .un .not (.t 59), none⟩]) (
  .cond (.t 60) (.seq (.reg false [⟨some 2, .mv (.c (.v (.bool false))), none⟩]) (
    .ret)) (.skip))) (
  .seq (.reg false [⟨some 9, .mv (.c (.v (.int .i64 1))), none⟩]) (
  .seq (.reg false [⟨some 61, .load true [(.i .i64), .s, (.i .i64), (.sl 7), (.sl 2)] (.t 6), none⟩,
    ⟨some 62, .mv (.t 9), none⟩,
    ⟨some 63, .call (.f 25) [.rd, .rd] false [.c (.i .i64)] [(.t 61), (.t 62)], none⟩,
    ⟨some 9, .mv (.t 63), none⟩]) (
  .seq (.seq (.reg false [⟨some 64, .mv (.t 9), none⟩,
    ⟨some 65, .bin .lss (.t 64) (.c (.v (.int .i64 0))), none⟩]) (
  .cond (.t 65) (.seq (.reg false [⟨some 2, .mv (.c (.v (.bool false))), none⟩]) (
    .ret)) (.skip))) (
  .seq (.seq (.reg false [⟨some 66, .mv (.t 9), none⟩,
    ⟨some 67, .mv (.t 8), none⟩,
    ⟨some 68, .bin .neq (.t 66) (.t 67), none⟩]) (
  .cond (.t 68) (.seq (.reg false [⟨some 2, .mv (.c (.v (.bool false))), none⟩]) (
    .ret)) (.skip))) (
  .seq (.reg false [⟨some 2, .mv (.c (.v (.bool true))), none⟩]) (
  .ret))))))))))))))))))))))))))⟩

theorem a5q (T : Table) (k : Nat) (s1 : ByteArray) (n2 : Int) (n3 : Int) (l4 : Rows) (l5 : Rows) : evalF T k a5 [(.g [(.v (.string s1)), (.v (.int .i64 n2)), (.v (.int .i64 n3)), (.s 7 l4), (.s 2 l5)])] = (
 callT T 7 [(.g [(.v (.string s1)), (.v (.int .i64 n2)), (.v (.int .i64 n3)), (.s 7 l4), (.s 2 l5)]), (.d (.v (.int .i64 1048576)))] fun o6 =>
 oD o6.res fun d7 =>
 dI .i64 d7 fun n8 =>
 bif (decide (n8 < 0)) then (
 some ⟨(.d (.v (.bool true))), []⟩) else (
 callT T 10 [(.g [(.v (.string s1)), (.v (.int .i64 n2)), (.v (.int .i64 n3)), (.s 7 l4), (.s 2 l5)])] fun o9 =>
 oG o9.res fun r10 =>
 tst (Nat.beq r10.length 5) (
 cS r10 0 fun s11 =>
 cI .i64 r10 1 fun n12 =>
 cI .i64 r10 2 fun n13 =>
 cL 7 r10 3 fun l14 =>
 cL 2 r10 4 fun l15 =>
 callT T 23 [(.g [(.v (.string s11)), (.v (.int .i64 n12)), (.v (.int .i64 n13)), (.s 7 l14), (.s 2 l15)])] fun o16 =>
 oG o16.res fun r17 =>
 tst (Nat.beq r17.length 5) (
 cI .i64 r17 0 fun n18 =>
 cS r17 1 fun s19 =>
 cI .i64 r17 2 fun n20 =>
 cL 7 r17 3 fun l21 =>
 cL 2 r17 4 fun l22 =>
 callT T 10 [(.g [(.v (.string s1)), (.v (.int .i64 n2)), (.v (.int .i64 n3)), (.s 7 l4), (.s 2 l5)])] fun o23 =>
 oG o23.res fun r24 =>
 tst (Nat.beq r24.length 5) (
 cS r24 0 fun s25 =>
 cI .i64 r24 1 fun n26 =>
 cI .i64 r24 2 fun n27 =>
 cL 7 r24 3 fun l28 =>
 cL 2 r24 4 fun l29 =>
 callT T 24 [(.g [(.v (.string s25)), (.v (.int .i64 n26)), (.v (.int .i64 n27)), (.s 7 l28), (.s 2 l29)])] fun o30 =>
 oG o30.res fun r31 =>
 tst (Nat.beq r31.length 5) (
 cI .i64 r31 0 fun n32 =>
 cS r31 1 fun s33 =>
 cI .i64 r31 2 fun n34 =>
 cL 7 r31 3 fun l35 =>
 cL 2 r31 4 fun l36 =>
 callT T 14 [(.g [(.v (.int .i64 n32)), (.v (.string s33)), (.v (.int .i64 n34)), (.s 7 l35), (.s 2 l36)]), (.g [(.v (.int .i64 n18)), (.v (.string s19)), (.v (.int .i64 n20)), (.s 7 l21), (.s 2 l22)])] fun o37 =>
 oD o37.res fun d38 =>
 dB d38 fun b39 =>
 bif (!b39) then (
 some ⟨(.d (.v (.bool false))), []⟩) else (
 callT T 10 [(.g [(.v (.string s1)), (.v (.int .i64 n2)), (.v (.int .i64 n3)), (.s 7 l4), (.s 2 l5)])] fun o40 =>
 oG o40.res fun r41 =>
 tst (Nat.beq r41.length 5) (
 cS r41 0 fun s42 =>
 cI .i64 r41 1 fun n43 =>
 cI .i64 r41 2 fun n44 =>
 cL 7 r41 3 fun l45 =>
 cL 2 r41 4 fun l46 =>
 callT T 13 [(.g [(.v (.string s25)), (.v (.int .i64 n26)), (.v (.int .i64 n27)), (.s 7 l28), (.s 2 l29)]), (.g [(.v (.string s42)), (.v (.int .i64 n43)), (.v (.int .i64 n44)), (.s 7 l45), (.s 2 l46)])] fun o47 =>
 oD o47.res fun d48 =>
 dB d48 fun b49 =>
 bif (!b49) then (
 some ⟨(.d (.v (.bool false))), []⟩) else (
 callT T 15 [(.g [(.v (.string s25)), (.v (.int .i64 n26)), (.v (.int .i64 n27)), (.s 7 l28), (.s 2 l29)]), (.d (.v (.int .i64 1)))] fun o50 =>
 nth o50.back 0 fun i51 =>
 oG i51 fun r52 =>
 cL 7 r52 3 fun l53 =>
 cL 2 r52 4 fun l54 =>
 oD o50.res fun d55 =>
 dI .i64 d55 fun n56 =>
 bif (decide (n56 < 0)) == false then (
 callT T 14 [(.g [(.v (.int .i64 n32)), (.v (.string s33)), (.v (.int .i64 n34)), (.s 7 l35), (.s 2 l36)]), (.g [(.v (.int .i64 n18)), (.v (.string s19)), (.v (.int .i64 n20)), (.s 7 l21), (.s 2 l22)])] fun o57 =>
 oD o57.res fun d58 =>
 dB d58 fun b59 =>
 bif (!b59) then (
 some ⟨(.d (.v (.bool false))), []⟩) else (
 callT T 16 [(.g [(.v (.int .i64 n32)), (.v (.string s33)), (.v (.int .i64 n34)), (.s 7 l35), (.s 2 l36)]), (.d (.v (.int .i64 1)))] fun o60 =>
 nth o60.back 0 fun i61 =>
 oG i61 fun r62 =>
 cL 7 r62 3 fun l63 =>
 cL 2 r62 4 fun l64 =>
 oD o60.res fun d65 =>
 dI .i64 d65 fun n66 =>
 callT T 25 [(.g [(.v (.int .i64 n32)), (.v (.string s33)), (.v (.int .i64 n34)), (.s 7 l63), (.s 2 l64)]), (.d (.v (.int .i64 1)))] fun o67 =>
 oD o67.res fun d68 =>
 dI .i64 d68 fun n69 =>
 bif (decide (n69 < 0)) then (
 some ⟨(.d (.v (.bool false))), []⟩) else (
 bif (n69 != n66) then (
 some ⟨(.d (.v (.bool false))), []⟩) else (
 callT T 10 [(.g [(.v (.string s1)), (.v (.int .i64 n2)), (.v (.int .i64 n3)), (.s 7 l4), (.s 2 l5)])] fun o70 =>
 oG o70.res fun r71 =>
 tst (Nat.beq r71.length 5) (
 cS r71 0 fun s72 =>
 cI .i64 r71 1 fun n73 =>
 cI .i64 r71 2 fun n74 =>
 cL 7 r71 3 fun l75 =>
 cL 2 r71 4 fun l76 =>
 callT T 24 [(.g [(.v (.string s72)), (.v (.int .i64 n73)), (.v (.int .i64 n74)), (.s 7 l75), (.s 2 l76)])] fun o77 =>
 oG o77.res fun r78 =>
 tst (Nat.beq r78.length 5) (
 cI .i64 r78 0 fun n79 =>
 cS r78 1 fun s80 =>
 cI .i64 r78 2 fun n81 =>
 cL 7 r78 3 fun l82 =>
 cL 2 r78 4 fun l83 =>
 callT T 14 [(.g [(.v (.int .i64 n79)), (.v (.string s80)), (.v (.int .i64 n81)), (.s 7 l82), (.s 2 l83)]), (.g [(.v (.int .i64 n18)), (.v (.string s19)), (.v (.int .i64 n20)), (.s 7 l21), (.s 2 l22)])] fun o84 =>
 oD o84.res fun d85 =>
 dB d85 fun b86 =>
 bif (!b86) then (
 some ⟨(.d (.v (.bool false))), []⟩) else (
 callT T 25 [(.g [(.v (.int .i64 n32)), (.v (.string s33)), (.v (.int .i64 n34)), (.s 7 l63), (.s 2 l64)]), (.d (.v (.int .i64 1)))] fun o87 =>
 oD o87.res fun d88 =>
 dI .i64 d88 fun n89 =>
 bif (decide (n89 < 0)) then (
 some ⟨(.d (.v (.bool false))), []⟩) else (
 bif (n89 != n66) then (
 some ⟨(.d (.v (.bool false))), []⟩) else (
 some ⟨(.d (.v (.bool true))), []⟩))))))))) else (
 some ⟨(.d (.v (.bool false))), []⟩)))))))))) := by kernel_rfl

end Go.Am.As
