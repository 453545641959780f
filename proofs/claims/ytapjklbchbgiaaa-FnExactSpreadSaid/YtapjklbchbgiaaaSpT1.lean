/- What the functions come to, printed: equations by the kernel. Nothing is assumed. -/
import Derived.Test.YtapjklbchbgiaaaSpT0
namespace Go.Am.Sp
set_option linter.unusedVariables false
set_option linter.unusedSimpArgs false
set_option maxRecDepth 8000
/- loop.example/g00119/laws.markText -/
def b75x0 : ACode := (
  .seq (.seq (.reg false [⟨some 6, .mv (.t 0), none⟩,
    ⟨some 7, .bin .gtr (.t 6) (.c (.v (.int .i64 0))), none⟩]) (
  .cond (.t 7) (.skip) (.exit 0))) (
  .block 1 (.seq (.reg false [⟨some 8, .mv (.t 0), none⟩,
      ⟨some 9, .bin .rem (.t 8) (.c (.v (.int .i64 10))), none⟩,
      ⟨some 10, .bin .add (.c (.v (.int .i64 48))) (.t 9), none⟩,
      ⟨some 11, .conv (.int .u8) (.t 10), none⟩,
      ⟨some 12, .lit 1 ([[(.v (.int .u8 0))]] : Rows) [(0, (.t 11))], none⟩,
      ⟨some 13, .conv .bytesStr (.t 12), none⟩,
      ⟨some 14, .mv (.t 3), none⟩,
      ⟨some 15, .bin .add (.t 13) (.t 14), none⟩,
      ⟨some 3, .mv (.t 15), none⟩]) (
    .reg false [⟨some 16, .mv (.t 0), none⟩,
      ⟨some 17, .bin .quo (.t 16) (.c (.v (.int .i64 10))), none⟩,
      ⟨some 0, .mv (.t 17), none⟩]))))
def e75x0 : Exits := [((.exit 0), [(3, .c .s)])]
noncomputable def l75x0 (T : Table) (k : Nat) := loopN (evalC ⟨T, []⟩ k b75x0 (Ex × List AV)) [0, 3] e75x0
def a75 : AFun := ⟨[.rd], false, [.t 2], (
  .seq (.reg false [⟨some 2, .mv (.c (.v (.string ({ data := #[] } : ByteArray)))), none⟩]) (
  .seq (.seq (.reg false [⟨some 4, .mv (.t 0), none⟩,
    ⟨some 5, .bin .leq (.t 4) (.c (.v (.int .i64 0))), none⟩]) (
  .cond (.t 5) (.seq (.reg false [⟨some 2, .mv (.c (.v (.string ({ data := #[109, 48] } : ByteArray)))), none⟩]) (
    .ret)) (.skip))) (
  .seq (.reg false [⟨some 3, .mv (.c (.v (.string ({ data := #[] } : ByteArray)))), none⟩]) (
  .seq (.block 0 (.loop [0, 3] e75x0 b75x0)) (
  .seq (.reg false [⟨some 18, .mv (.t 3), none⟩,
    ⟨some 19, .bin .add (.c (.v (.string ({ data := #[109] } : ByteArray)))) (.t 18), none⟩,
    ⟨some 2, .mv (.t 19), none⟩]) (
  .ret))))))⟩
theorem l75x0s (T : Table) (k n : Nat) (n2 : Int) (s3 : ByteArray) : l75x0 T k (n + 1) [(.v (.int .i64 n2)), (.v (.string s3))] = (
 bif (decide (n2 > 0)) then (
 tst (decide (10 ≠ 0)) (
 tst (allBytes ([[(.v (.int .u8 (IntKind.wrap .u8 (IntKind.wrap .i64 (48 + (Int.tmod n2 10))))))]] : Rows)) (
 tst (decide ((bytesOfRows ([[(.v (.int .u8 (IntKind.wrap .u8 (IntKind.wrap .i64 (48 + (Int.tmod n2 10))))))]] : Rows)).size + s3.size ≤ maxLen)) (
 tst (decide (10 ≠ 0)) (
 l75x0 T k n [(.v (.int .i64 (IntKind.wrap .i64 (Int.tdiv n2 10)))), (.v (.string ((bytesOfRows ([[(.v (.int .u8 (IntKind.wrap .u8 (IntKind.wrap .i64 (48 + (Int.tmod n2 10))))))]] : Rows)) ++ s3)))]))))) else (
 some ((.exit 0), [(.v (.string s3))]))) := by kernel_rfl
theorem a75q (T : Table) (k : Nat) (n1 : Int) : evalF T k a75 [(.d (.v (.int .i64 n1)))] = (
 bif (decide (n1 ≤ 0)) then (
 some ⟨(.d (.v (.string ({ data := #[109, 48] } : ByteArray)))), []⟩) else (
 aft (l75x0 T k k [(.v (.int .i64 n1)), (.v (.string ({ data := #[] } : ByteArray)))]) fun e4 ys5 =>
 bif e4.same (.exit 0) then (
 aV ys5 0 fun x6 =>
 aS x6 fun s7 =>
 tst (decide (({ data := #[109] } : ByteArray).size + s7.size ≤ maxLen)) (
 some ⟨(.d (.v (.string (({ data := #[109] } : ByteArray) ++ s7)))), []⟩)) else (
 none))) := by kernel_rfl
/- loop.example/g00119/laws.markStringS -/
def b74x0 : ACode := (
  .seq (.seq (.reg false [⟨some 6, .mv (.t 5), none⟩,
    ⟨some 7, .mv (.t 0), none⟩,
    ⟨some 8, .len false (.t 7), none⟩,
    ⟨some 9, .bin .lss (.t 6) (.t 8), none⟩]) (
  .cond (.t 9) (.skip) (.exit 0))) (
  .seq (.block 1 (.seq (.reg false [⟨some 12, .mv (.t 0), none⟩,
      ⟨some 13, .mv (.t 5), none⟩,
      ⟨some 14, .mv (.t 1), none⟩,
      ⟨some 15, .call (.f 75) [.rd] false [.c .s] [(.t 14)], none⟩,
      ⟨some 16, .iad 1 (.t 12) (.t 13), none⟩,
      ⟨none, .store 1 (.t 16) (.t 15), none⟩]) (
    .reg false [⟨some 17, .mv (.t 1), none⟩,
      ⟨some 18, .bin .add (.t 17) (.c (.v (.int .i64 1))), none⟩,
      ⟨some 1, .mv (.t 18), none⟩]))) (
  .reg false [⟨some 10, .mv (.t 5), none⟩,
    ⟨some 11, .bin .add (.t 10) (.c (.v (.int .i64 1))), none⟩,
    ⟨some 5, .mv (.t 11), none⟩])))
def e74x0 : Exits := [((.exit 0), [(0, .o 1), (1, .c (.i .i64))])]
noncomputable def l74x0 (T : Table) (k : Nat) := loopN (evalC ⟨T, [0]⟩ k b74x0 (Ex × List AV)) [0, 1, 5] e74x0
def a74 : AFun := ⟨[.lent, .rd], false, [.t 4], (
  .seq (.reg false [⟨some 4, .mv (.c (.v (.int .i64 0))), none⟩]) (
  .seq (.seq (.reg false [⟨some 5, .mv (.c (.v (.int .i64 0))), none⟩]) (
  .block 0 (.loop [0, 1, 5] e74x0 b74x0))) (
  .seq (.reg false [⟨some 19, .mv (.t 1), none⟩,
    ⟨some 4, .mv (.t 19), none⟩]) (
  .ret))))⟩
theorem l74x0s (T : Table) (k n : Nat) (l3 : Rows) (n4 : Int) (n5 : Int) : l74x0 T k (n + 1) [(.o 1 l3), (.v (.int .i64 n4)), (.v (.int .i64 n5))] = (
 bif (decide (n5 < (l3.length : Int))) then (
 callT T 75 [(.d (.v (.int .i64 n4)))] fun o6 =>
 oD o6.res fun d7 =>
 dS d7 fun s8 =>
 tst (decide (0 ≤ n5) && decide (Int.toNat n5 < l3.length)) (
 l74x0 T k n [(.o 1 (setD l3 (Int.toNat n5) 0 (.v (.string s8)))), (.v (.int .i64 (IntKind.wrap .i64 (n4 + 1)))), (.v (.int .i64 (IntKind.wrap .i64 (n5 + 1))))])) else (
 some ((.exit 0), [(.o 1 l3), (.v (.int .i64 n4))]))) := by kernel_rfl
theorem a74q (T : Table) (k : Nat) (l1 : Rows) (n2 : Int) : evalF T k a74 [(.d (.s 1 l1)), (.d (.v (.int .i64 n2)))] = (
 aft (l74x0 T k k [(.o 1 l1), (.v (.int .i64 n2)), (.v (.int .i64 0))]) fun e9 ys10 =>
 bif e9.same (.exit 0) then (
 aV ys10 0 fun x11 =>
 aO 1 x11 fun l12 =>
 aV ys10 1 fun x13 =>
 aI .i64 x13 fun n14 =>
 some ⟨(.d (.v (.int .i64 n14))), [(.d (.s 1 l12))]⟩) else (
 none)) := by kernel_rfl
/- loop.example/g00119/laws.markValueS -/
def b92x0 : ACode := (
  .seq (.seq (.reg false [⟨some 6, .mv (.t 5), none⟩,
    ⟨some 7, .mv (.t 0), none⟩,
    ⟨some 8, .len false (.t 7), none⟩,
    ⟨some 9, .bin .lss (.t 6) (.t 8), none⟩]) (
  .cond (.t 9) (.skip) (.exit 0))) (
  .seq (.block 1 (.seq (.reg false [⟨some 12, .mv (.t 0), none⟩,
      ⟨some 13, .mv (.t 5), none⟩,
      ⟨some 14, .mv (.t 1), none⟩,
      ⟨some 15, .iad 5 (.t 12) (.t 13), none⟩,
      ⟨some 16, .fad 0 (.t 15), none⟩,
      ⟨none, .store 1 (.t 16) (.t 14), none⟩]) (
    .seq (.reg false [⟨some 17, .mv (.t 1), none⟩,
      ⟨some 18, .bin .add (.t 17) (.c (.v (.int .i64 1))), none⟩,
      ⟨some 1, .mv (.t 18), none⟩]) (
    .seq (.reg false [⟨some 19, .mv (.t 0), none⟩,
      ⟨some 20, .mv (.t 5), none⟩,
      ⟨some 21, .mv (.t 1), none⟩,
      ⟨some 22, .call (.f 75) [.rd] false [.c .s] [(.t 21)], none⟩,
      ⟨some 23, .iad 5 (.t 19) (.t 20), none⟩,
      ⟨some 24, .fad 1 (.t 23), none⟩,
      ⟨none, .store 1 (.t 24) (.t 22), none⟩]) (
    .seq (.reg false [⟨some 25, .mv (.t 1), none⟩,
      ⟨some 26, .bin .add (.t 25) (.c (.v (.int .i64 1))), none⟩,
      ⟨some 1, .mv (.t 26), none⟩]) (
    .seq (.reg false [⟨some 27, .mv (.t 0), none⟩,
      ⟨some 28, .mv (.t 5), none⟩,
      ⟨some 29, .mv (.t 1), none⟩,
      ⟨some 30, .iad 5 (.t 27) (.t 28), none⟩,
      ⟨some 31, .fad 2 (.t 30), none⟩,
      ⟨none, .store 1 (.t 31) (.t 29), none⟩]) (
    .seq (.reg false [⟨some 32, .mv (.t 1), none⟩,
      ⟨some 33, .bin .add (.t 32) (.c (.v (.int .i64 1))), none⟩,
      ⟨some 1, .mv (.t 33), none⟩]) (
    .seq (.reg false [⟨some 34, .mv (.t 0), none⟩,
      ⟨some 35, .mv (.t 5), none⟩,
      ⟨some 36, .iad 5 (.t 34) (.t 35), none⟩,
      ⟨some 37, .fad 3 (.t 36), none⟩,
      ⟨some 38, .load false [(.sl 1)] (.t 37), none⟩,
      ⟨some 39, .mv (.t 1), none⟩,
      ⟨some 40, .call (.f 74) [.lent, .rd] false [.c (.i .i64)] [(.t 38), (.t 39)], none⟩,
      ⟨some 1, .mv (.t 40), none⟩]) (
    .reg false [⟨some 41, .mv (.t 0), none⟩,
      ⟨some 42, .mv (.t 5), none⟩,
      ⟨some 43, .iad 5 (.t 41) (.t 42), none⟩,
      ⟨some 44, .fad 4 (.t 43), none⟩,
      ⟨some 45, .load false [(.sl 5)] (.t 44), none⟩,
      ⟨some 46, .mv (.t 1), none⟩,
      ⟨some 47, .call (.f 92) [.lent, .rd] false [.c (.i .i64)] [(.t 45), (.t 46)], none⟩,
      ⟨some 1, .mv (.t 47), none⟩]))))))))) (
  .reg false [⟨some 10, .mv (.t 5), none⟩,
    ⟨some 11, .bin .add (.t 10) (.c (.v (.int .i64 1))), none⟩,
    ⟨some 5, .mv (.t 11), none⟩])))
def e92x0 : Exits := [((.exit 0), [(0, .o 5), (1, .c (.i .i64))])]
noncomputable def l92x0 (T : Table) (k : Nat) := loopN (evalC ⟨T, [0]⟩ k b92x0 (Ex × List AV)) [0, 1, 5] e92x0
def a92 : AFun := ⟨[.lent, .rd], false, [.t 4], (
  .seq (.reg false [⟨some 4, .mv (.c (.v (.int .i64 0))), none⟩]) (
  .seq (.seq (.reg false [⟨some 5, .mv (.c (.v (.int .i64 0))), none⟩]) (
  .block 0 (.loop [0, 1, 5] e92x0 b92x0))) (
  .seq (.reg false [⟨some 48, .mv (.t 1), none⟩,
    ⟨some 4, .mv (.t 48), none⟩]) (
  .ret))))⟩
theorem l92x0s (T : Table) (k n : Nat) (l3 : Rows) (n4 : Int) (n5 : Int) : l92x0 T k (n + 1) [(.o 5 l3), (.v (.int .i64 n4)), (.v (.int .i64 n5))] = (
 bif (decide (n5 < (l3.length : Int))) then (
 tst (decide (0 ≤ n5) && decide (Int.toNat n5 < l3.length)) (
 callT T 75 [(.d (.v (.int .i64 (IntKind.wrap .i64 (n4 + 1)))))] fun o6 =>
 oD o6.res fun d7 =>
 dS d7 fun s8 =>
 tst (decide (0 ≤ n5) && decide (Int.toNat n5 < (setD l3 (Int.toNat n5) 0 (.v (.int .i64 n4))).length)) (
 tst (decide (0 ≤ n5) && decide (Int.toNat n5 < (setD (setD l3 (Int.toNat n5) 0 (.v (.int .i64 n4))) (Int.toNat n5) 1 (.v (.string s8))).length)) (
 tst (decide (0 ≤ n5) && decide (Int.toNat n5 < (setD (setD (setD l3 (Int.toNat n5) 0 (.v (.int .i64 n4))) (Int.toNat n5) 1 (.v (.string s8))) (Int.toNat n5) 2 (.v (.int .i64 (IntKind.wrap .i64 ((IntKind.wrap .i64 (n4 + 1)) + 1))))).length)) (
 look (setD (setD (setD l3 (Int.toNat n5) 0 (.v (.int .i64 n4))) (Int.toNat n5) 1 (.v (.string s8))) (Int.toNat n5) 2 (.v (.int .i64 (IntKind.wrap .i64 ((IntKind.wrap .i64 (n4 + 1)) + 1))))) (Int.toNat n5) fun r9 =>
 cL 1 r9 3 fun l10 =>
 callT T 74 [(.d (.s 1 l10)), (.d (.v (.int .i64 (IntKind.wrap .i64 ((IntKind.wrap .i64 ((IntKind.wrap .i64 (n4 + 1)) + 1)) + 1)))))] fun o11 =>
 nth o11.back 0 fun i12 =>
 oD i12 fun d13 =>
 dL 1 d13 fun l14 =>
 oD o11.res fun d15 =>
 dI .i64 d15 fun n16 =>
 tst (decide (0 ≤ n5) && decide (Int.toNat n5 < (setD (setD (setD l3 (Int.toNat n5) 0 (.v (.int .i64 n4))) (Int.toNat n5) 1 (.v (.string s8))) (Int.toNat n5) 2 (.v (.int .i64 (IntKind.wrap .i64 ((IntKind.wrap .i64 (n4 + 1)) + 1))))).length)) (
 look (setD (setD (setD l3 (Int.toNat n5) 0 (.v (.int .i64 n4))) (Int.toNat n5) 1 (.v (.string s8))) (Int.toNat n5) 2 (.v (.int .i64 (IntKind.wrap .i64 ((IntKind.wrap .i64 (n4 + 1)) + 1))))) (Int.toNat n5) fun r17 =>
 cL 5 r17 4 fun l18 =>
 callT T 92 [(.d (.s 5 l18)), (.d (.v (.int .i64 n16)))] fun o19 =>
 nth o19.back 0 fun i20 =>
 oD i20 fun d21 =>
 dL 5 d21 fun l22 =>
 oD o19.res fun d23 =>
 dI .i64 d23 fun n24 =>
 l92x0 T k n [(.o 5 (setD (setD (setD (setD (setD l3 (Int.toNat n5) 0 (.v (.int .i64 n4))) (Int.toNat n5) 1 (.v (.string s8))) (Int.toNat n5) 2 (.v (.int .i64 (IntKind.wrap .i64 ((IntKind.wrap .i64 (n4 + 1)) + 1))))) (Int.toNat n5) 4 (.s 5 l22)) (Int.toNat n5) 3 (.s 1 l14))), (.v (.int .i64 n24)), (.v (.int .i64 (IntKind.wrap .i64 (n5 + 1))))])))))) else (
 some ((.exit 0), [(.o 5 l3), (.v (.int .i64 n4))]))) := by kernel_rfl
theorem a92q (T : Table) (k : Nat) (l1 : Rows) (n2 : Int) : evalF T k a92 [(.d (.s 5 l1)), (.d (.v (.int .i64 n2)))] = (
 aft (l92x0 T k k [(.o 5 l1), (.v (.int .i64 n2)), (.v (.int .i64 0))]) fun e25 ys26 =>
 bif e25.same (.exit 0) then (
 aV ys26 0 fun x27 =>
 aO 5 x27 fun l28 =>
 aV ys26 1 fun x29 =>
 aI .i64 x29 fun n30 =>
 some ⟨(.d (.v (.int .i64 n30))), [(.d (.s 5 l28))]⟩) else (
 none)) := by kernel_rfl
/- loop.example/g00119/laws.markTermS -/
def b117x0 : ACode := (
  .seq (.seq (.reg false [⟨some 6, .mv (.t 5), none⟩,
    ⟨some 7, .mv (.t 0), none⟩,
    ⟨some 8, .len false (.t 7), none⟩,
    ⟨some 9, .bin .lss (.t 6) (.t 8), none⟩]) (
  .cond (.t 9) (.skip) (.exit 0))) (
  .seq (.block 1 (.seq (.reg false [⟨some 12, .mv (.t 0), none⟩,
      ⟨some 13, .mv (.t 5), none⟩,
      ⟨some 14, .mv (.t 1), none⟩,
      ⟨some 15, .iad 3 (.t 12) (.t 13), none⟩,
      ⟨some 16, .fad 0 (.t 15), none⟩,
      ⟨none, .store 1 (.t 16) (.t 14), none⟩]) (
    .seq (.reg false [⟨some 17, .mv (.t 1), none⟩,
      ⟨some 18, .bin .add (.t 17) (.c (.v (.int .i64 1))), none⟩,
      ⟨some 1, .mv (.t 18), none⟩]) (
    .seq (.reg false [⟨some 19, .mv (.t 0), none⟩,
      ⟨some 20, .mv (.t 5), none⟩,
      ⟨some 21, .mv (.t 1), none⟩,
      ⟨some 22, .call (.f 75) [.rd] false [.c .s] [(.t 21)], none⟩,
      ⟨some 23, .iad 3 (.t 19) (.t 20), none⟩,
      ⟨some 24, .fad 1 (.t 23), none⟩,
      ⟨none, .store 1 (.t 24) (.t 22), none⟩]) (
    .seq (.reg false [⟨some 25, .mv (.t 1), none⟩,
      ⟨some 26, .bin .add (.t 25) (.c (.v (.int .i64 1))), none⟩,
      ⟨some 1, .mv (.t 26), none⟩]) (
    .reg false [⟨some 27, .mv (.t 0), none⟩,
      ⟨some 28, .mv (.t 5), none⟩,
      ⟨some 29, .iad 3 (.t 27) (.t 28), none⟩,
      ⟨some 30, .fad 2 (.t 29), none⟩,
      ⟨some 31, .load false [(.sl 1)] (.t 30), none⟩,
      ⟨some 32, .mv (.t 1), none⟩,
      ⟨some 33, .call (.f 74) [.lent, .rd] false [.c (.i .i64)] [(.t 31), (.t 32)], none⟩,
      ⟨some 1, .mv (.t 33), none⟩])))))) (
  .reg false [⟨some 10, .mv (.t 5), none⟩,
    ⟨some 11, .bin .add (.t 10) (.c (.v (.int .i64 1))), none⟩,
    ⟨some 5, .mv (.t 11), none⟩])))
def e117x0 : Exits := [((.exit 0), [(0, .o 3), (1, .c (.i .i64))])]
noncomputable def l117x0 (T : Table) (k : Nat) := loopN (evalC ⟨T, [0]⟩ k b117x0 (Ex × List AV)) [0, 1, 5] e117x0
def a117 : AFun := ⟨[.lent, .rd], false, [.t 4], (
  .seq (.reg false [⟨some 4, .mv (.c (.v (.int .i64 0))), none⟩]) (
  .seq (.seq (.reg false [⟨some 5, .mv (.c (.v (.int .i64 0))), none⟩]) (
  .block 0 (.loop [0, 1, 5] e117x0 b117x0))) (
  .seq (.reg false [⟨some 34, .mv (.t 1), none⟩,
    ⟨some 4, .mv (.t 34), none⟩]) (
  .ret))))⟩
theorem l117x0s (T : Table) (k n : Nat) (l3 : Rows) (n4 : Int) (n5 : Int) : l117x0 T k (n + 1) [(.o 3 l3), (.v (.int .i64 n4)), (.v (.int .i64 n5))] = (
 bif (decide (n5 < (l3.length : Int))) then (
 tst (decide (0 ≤ n5) && decide (Int.toNat n5 < l3.length)) (
 callT T 75 [(.d (.v (.int .i64 (IntKind.wrap .i64 (n4 + 1)))))] fun o6 =>
 oD o6.res fun d7 =>
 dS d7 fun s8 =>
 tst (decide (0 ≤ n5) && decide (Int.toNat n5 < (setD l3 (Int.toNat n5) 0 (.v (.int .i64 n4))).length)) (
 tst (decide (0 ≤ n5) && decide (Int.toNat n5 < (setD (setD l3 (Int.toNat n5) 0 (.v (.int .i64 n4))) (Int.toNat n5) 1 (.v (.string s8))).length)) (
 look (setD (setD l3 (Int.toNat n5) 0 (.v (.int .i64 n4))) (Int.toNat n5) 1 (.v (.string s8))) (Int.toNat n5) fun r9 =>
 cL 1 r9 2 fun l10 =>
 callT T 74 [(.d (.s 1 l10)), (.d (.v (.int .i64 (IntKind.wrap .i64 ((IntKind.wrap .i64 (n4 + 1)) + 1)))))] fun o11 =>
 nth o11.back 0 fun i12 =>
 oD i12 fun d13 =>
 dL 1 d13 fun l14 =>
 oD o11.res fun d15 =>
 dI .i64 d15 fun n16 =>
 l117x0 T k n [(.o 3 (setD (setD (setD l3 (Int.toNat n5) 0 (.v (.int .i64 n4))) (Int.toNat n5) 1 (.v (.string s8))) (Int.toNat n5) 2 (.s 1 l14))), (.v (.int .i64 n16)), (.v (.int .i64 (IntKind.wrap .i64 (n5 + 1))))])))) else (
 some ((.exit 0), [(.o 3 l3), (.v (.int .i64 n4))]))) := by kernel_rfl
theorem a117q (T : Table) (k : Nat) (l1 : Rows) (n2 : Int) : evalF T k a117 [(.d (.s 3 l1)), (.d (.v (.int .i64 n2)))] = (
 aft (l117x0 T k k [(.o 3 l1), (.v (.int .i64 n2)), (.v (.int .i64 0))]) fun e17 ys18 =>
 bif e17.same (.exit 0) then (
 aV ys18 0 fun x19 =>
 aO 3 x19 fun l20 =>
 aV ys18 1 fun x21 =>
 aI .i64 x21 fun n22 =>
 some ⟨(.d (.v (.int .i64 n22))), [(.d (.s 3 l20))]⟩) else (
 none)) := by kernel_rfl
/- loop.example/g00119/laws.markWeighS -/
def b118x0 : ACode := (
  .seq (.seq (.reg false [⟨some 6, .mv (.t 5), none⟩,
    ⟨some 7, .mv (.t 0), none⟩,
    ⟨some 8, .len false (.t 7), none⟩,
    ⟨some 9, .bin .lss (.t 6) (.t 8), none⟩]) (
  .cond (.t 9) (.skip) (.exit 0))) (
  .seq (.block 1 (.seq (.reg false [⟨some 12, .mv (.t 0), none⟩,
      ⟨some 13, .mv (.t 5), none⟩,
      ⟨some 14, .mv (.t 1), none⟩,
      ⟨some 15, .call (.f 75) [.rd] false [.c .s] [(.t 14)], none⟩,
      ⟨some 16, .iad 2 (.t 12) (.t 13), none⟩,
      ⟨some 17, .fad 0 (.t 16), none⟩,
      ⟨none, .store 1 (.t 17) (.t 15), none⟩]) (
    .seq (.reg false [⟨some 18, .mv (.t 1), none⟩,
      ⟨some 19, .bin .add (.t 18) (.c (.v (.int .i64 1))), none⟩,
      ⟨some 1, .mv (.t 19), none⟩]) (
    .seq (.reg false [⟨some 20, .mv (.t 0), none⟩,
      ⟨some 21, .mv (.t 5), none⟩,
      ⟨some 22, .mv (.t 1), none⟩,
      ⟨some 23, .iad 2 (.t 20) (.t 21), none⟩,
      ⟨some 24, .fad 1 (.t 23), none⟩,
      ⟨none, .store 1 (.t 24) (.t 22), none⟩]) (
    .reg false [⟨some 25, .mv (.t 1), none⟩,
      ⟨some 26, .bin .add (.t 25) (.c (.v (.int .i64 1))), none⟩,
      ⟨some 1, .mv (.t 26), none⟩]))))) (
  .reg false [⟨some 10, .mv (.t 5), none⟩,
    ⟨some 11, .bin .add (.t 10) (.c (.v (.int .i64 1))), none⟩,
    ⟨some 5, .mv (.t 11), none⟩])))
def e118x0 : Exits := [((.exit 0), [(0, .o 2), (1, .c (.i .i64))])]
noncomputable def l118x0 (T : Table) (k : Nat) := loopN (evalC ⟨T, [0]⟩ k b118x0 (Ex × List AV)) [0, 1, 5] e118x0
def a118 : AFun := ⟨[.lent, .rd], false, [.t 4], (
  .seq (.reg false [⟨some 4, .mv (.c (.v (.int .i64 0))), none⟩]) (
  .seq (.seq (.reg false [⟨some 5, .mv (.c (.v (.int .i64 0))), none⟩]) (
  .block 0 (.loop [0, 1, 5] e118x0 b118x0))) (
  .seq (.reg false [⟨some 27, .mv (.t 1), none⟩,
    ⟨some 4, .mv (.t 27), none⟩]) (
  .ret))))⟩
theorem l118x0s (T : Table) (k n : Nat) (l3 : Rows) (n4 : Int) (n5 : Int) : l118x0 T k (n + 1) [(.o 2 l3), (.v (.int .i64 n4)), (.v (.int .i64 n5))] = (
 bif (decide (n5 < (l3.length : Int))) then (
 callT T 75 [(.d (.v (.int .i64 n4)))] fun o6 =>
 oD o6.res fun d7 =>
 dS d7 fun s8 =>
 tst (decide (0 ≤ n5) && decide (Int.toNat n5 < l3.length)) (
 tst (decide (0 ≤ n5) && decide (Int.toNat n5 < (setD l3 (Int.toNat n5) 0 (.v (.string s8))).length)) (
 l118x0 T k n [(.o 2 (setD (setD l3 (Int.toNat n5) 0 (.v (.string s8))) (Int.toNat n5) 1 (.v (.int .i64 (IntKind.wrap .i64 (n4 + 1)))))), (.v (.int .i64 (IntKind.wrap .i64 ((IntKind.wrap .i64 (n4 + 1)) + 1)))), (.v (.int .i64 (IntKind.wrap .i64 (n5 + 1))))]))) else (
 some ((.exit 0), [(.o 2 l3), (.v (.int .i64 n4))]))) := by kernel_rfl
theorem a118q (T : Table) (k : Nat) (l1 : Rows) (n2 : Int) : evalF T k a118 [(.d (.s 2 l1)), (.d (.v (.int .i64 n2)))] = (
 aft (l118x0 T k k [(.o 2 l1), (.v (.int .i64 n2)), (.v (.int .i64 0))]) fun e9 ys10 =>
 bif e9.same (.exit 0) then (
 aV ys10 0 fun x11 =>
 aO 2 x11 fun l12 =>
 aV ys10 1 fun x13 =>
 aI .i64 x13 fun n14 =>
 some ⟨(.d (.v (.int .i64 n14))), [(.d (.s 2 l12))]⟩) else (
 none)) := by kernel_rfl
/- loop.example/g00119/laws.markOpS -/
def b143x0 : ACode := (
  .seq (.seq (.reg false [⟨some 6, .mv (.t 5), none⟩,
    ⟨some 7, .mv (.t 0), none⟩,
    ⟨some 8, .len false (.t 7), none⟩,
    ⟨some 9, .bin .lss (.t 6) (.t 8), none⟩]) (
  .cond (.t 9) (.skip) (.exit 0))) (
  .seq (.block 1 (.seq (.reg false [⟨some 12, .mv (.t 0), none⟩,
      ⟨some 13, .mv (.t 5), none⟩,
      ⟨some 14, .mv (.t 1), none⟩,
      ⟨some 15, .iad 7 (.t 12) (.t 13), none⟩,
      ⟨some 16, .fad 0 (.t 15), none⟩,
      ⟨none, .store 1 (.t 16) (.t 14), none⟩]) (
    .seq (.reg false [⟨some 17, .mv (.t 1), none⟩,
      ⟨some 18, .bin .add (.t 17) (.c (.v (.int .i64 1))), none⟩,
      ⟨some 1, .mv (.t 18), none⟩]) (
    .seq (.reg false [⟨some 19, .mv (.t 0), none⟩,
      ⟨some 20, .mv (.t 5), none⟩,
      ⟨some 21, .iad 7 (.t 19) (.t 20), none⟩,
      ⟨some 22, .fad 1 (.t 21), none⟩,
      ⟨some 23, .load false [(.sl 1)] (.t 22), none⟩,
      ⟨some 24, .mv (.t 1), none⟩,
      ⟨some 25, .call (.f 74) [.lent, .rd] false [.c (.i .i64)] [(.t 23), (.t 24)], none⟩,
      ⟨some 1, .mv (.t 25), none⟩]) (
    .seq (.reg false [⟨some 26, .mv (.t 0), none⟩,
      ⟨some 27, .mv (.t 5), none⟩,
      ⟨some 28, .mv (.t 1), none⟩,
      ⟨some 29, .iad 7 (.t 26) (.t 27), none⟩,
      ⟨some 30, .fad 2 (.t 29), none⟩,
      ⟨some 31, .fad 0 (.t 30), none⟩,
      ⟨none, .store 1 (.t 31) (.t 28), none⟩]) (
    .seq (.reg false [⟨some 32, .mv (.t 1), none⟩,
      ⟨some 33, .bin .add (.t 32) (.c (.v (.int .i64 1))), none⟩,
      ⟨some 1, .mv (.t 33), none⟩]) (
    .seq (.reg false [⟨some 34, .mv (.t 0), none⟩,
      ⟨some 35, .mv (.t 5), none⟩,
      ⟨some 36, .mv (.t 1), none⟩,
      ⟨some 37, .call (.f 75) [.rd] false [.c .s] [(.t 36)], none⟩,
      ⟨some 38, .iad 7 (.t 34) (.t 35), none⟩,
      ⟨some 39, .fad 2 (.t 38), none⟩,
      ⟨some 40, .fad 1 (.t 39), none⟩,
      ⟨none, .store 1 (.t 40) (.t 37), none⟩]) (
    .seq (.reg false [⟨some 41, .mv (.t 1), none⟩,
      ⟨some 42, .bin .add (.t 41) (.c (.v (.int .i64 1))), none⟩,
      ⟨some 1, .mv (.t 42), none⟩]) (
    .seq (.reg false [⟨some 43, .mv (.t 0), none⟩,
      ⟨some 44, .mv (.t 5), none⟩,
      ⟨some 45, .mv (.t 1), none⟩,
      ⟨some 46, .iad 7 (.t 43) (.t 44), none⟩,
      ⟨some 47, .fad 2 (.t 46), none⟩,
      ⟨some 48, .fad 2 (.t 47), none⟩,
      ⟨none, .store 1 (.t 48) (.t 45), none⟩]) (
    .seq (.reg false [⟨some 49, .mv (.t 1), none⟩,
      ⟨some 50, .bin .add (.t 49) (.c (.v (.int .i64 1))), none⟩,
      ⟨some 1, .mv (.t 50), none⟩]) (
    .seq (.reg false [⟨some 51, .mv (.t 0), none⟩,
      ⟨some 52, .mv (.t 5), none⟩,
      ⟨some 53, .iad 7 (.t 51) (.t 52), none⟩,
      ⟨some 54, .fad 2 (.t 53), none⟩,
      ⟨some 55, .fad 3 (.t 54), none⟩,
      ⟨some 56, .load false [(.sl 1)] (.t 55), none⟩,
      ⟨some 57, .mv (.t 1), none⟩,
      ⟨some 58, .call (.f 74) [.lent, .rd] false [.c (.i .i64)] [(.t 56), (.t 57)], none⟩,
      ⟨some 1, .mv (.t 58), none⟩]) (
    .reg false [⟨some 59, .mv (.t 0), none⟩,
      ⟨some 60, .mv (.t 5), none⟩,
      ⟨some 61, .iad 7 (.t 59) (.t 60), none⟩,
      ⟨some 62, .fad 2 (.t 61), none⟩,
      ⟨some 63, .fad 4 (.t 62), none⟩,
      ⟨some 64, .load false [(.sl 5)] (.t 63), none⟩,
      ⟨some 65, .mv (.t 1), none⟩,
      ⟨some 66, .call (.f 92) [.lent, .rd] false [.c (.i .i64)] [(.t 64), (.t 65)], none⟩,
      ⟨some 1, .mv (.t 66), none⟩])))))))))))) (
  .reg false [⟨some 10, .mv (.t 5), none⟩,
    ⟨some 11, .bin .add (.t 10) (.c (.v (.int .i64 1))), none⟩,
    ⟨some 5, .mv (.t 11), none⟩])))
def e143x0 : Exits := [((.exit 0), [(0, .o 7), (1, .c (.i .i64))])]
noncomputable def l143x0 (T : Table) (k : Nat) := loopN (evalC ⟨T, [0]⟩ k b143x0 (Ex × List AV)) [0, 1, 5] e143x0
def a143 : AFun := ⟨[.lent, .rd], false, [.t 4], (
  .seq (.reg false [⟨some 4, .mv (.c (.v (.int .i64 0))), none⟩]) (
  .seq (.seq (.reg false [⟨some 5, .mv (.c (.v (.int .i64 0))), none⟩]) (
  .block 0 (.loop [0, 1, 5] e143x0 b143x0))) (
  .seq (.reg false [⟨some 67, .mv (.t 1), none⟩,
    ⟨some 4, .mv (.t 67), none⟩]) (
  .ret))))⟩
theorem l143x0s (T : Table) (k n : Nat) (l3 : Rows) (n4 : Int) (n5 : Int) : l143x0 T k (n + 1) [(.o 7 l3), (.v (.int .i64 n4)), (.v (.int .i64 n5))] = (
 bif (decide (n5 < (l3.length : Int))) then (
 tst (decide (0 ≤ n5) && decide (Int.toNat n5 < l3.length)) (
 tst (decide (0 ≤ n5) && decide (Int.toNat n5 < (setD l3 (Int.toNat n5) 0 (.v (.int .i64 n4))).length)) (
 look (setD l3 (Int.toNat n5) 0 (.v (.int .i64 n4))) (Int.toNat n5) fun r6 =>
 cL 1 r6 1 fun l7 =>
 callT T 74 [(.d (.s 1 l7)), (.d (.v (.int .i64 (IntKind.wrap .i64 (n4 + 1)))))] fun o8 =>
 nth o8.back 0 fun i9 =>
 oD i9 fun d10 =>
 dL 1 d10 fun l11 =>
 oD o8.res fun d12 =>
 dI .i64 d12 fun n13 =>
 tst (decide (0 ≤ n5) && decide (Int.toNat n5 < (setD l3 (Int.toNat n5) 0 (.v (.int .i64 n4))).length)) (
 callT T 75 [(.d (.v (.int .i64 (IntKind.wrap .i64 (n13 + 1)))))] fun o14 =>
 oD o14.res fun d15 =>
 dS d15 fun s16 =>
 tst (decide (0 ≤ n5) && decide (Int.toNat n5 < (setD (setD l3 (Int.toNat n5) 0 (.v (.int .i64 n4))) (Int.toNat n5) 2 (.v (.int .i64 n13))).length)) (
 tst (decide (0 ≤ n5) && decide (Int.toNat n5 < (setD (setD (setD l3 (Int.toNat n5) 0 (.v (.int .i64 n4))) (Int.toNat n5) 2 (.v (.int .i64 n13))) (Int.toNat n5) 3 (.v (.string s16))).length)) (
 tst (decide (0 ≤ n5) && decide (Int.toNat n5 < (setD (setD (setD (setD l3 (Int.toNat n5) 0 (.v (.int .i64 n4))) (Int.toNat n5) 2 (.v (.int .i64 n13))) (Int.toNat n5) 3 (.v (.string s16))) (Int.toNat n5) 4 (.v (.int .i64 (IntKind.wrap .i64 ((IntKind.wrap .i64 (n13 + 1)) + 1))))).length)) (
 look (setD (setD (setD (setD l3 (Int.toNat n5) 0 (.v (.int .i64 n4))) (Int.toNat n5) 2 (.v (.int .i64 n13))) (Int.toNat n5) 3 (.v (.string s16))) (Int.toNat n5) 4 (.v (.int .i64 (IntKind.wrap .i64 ((IntKind.wrap .i64 (n13 + 1)) + 1))))) (Int.toNat n5) fun r17 =>
 cL 1 r17 5 fun l18 =>
 callT T 74 [(.d (.s 1 l18)), (.d (.v (.int .i64 (IntKind.wrap .i64 ((IntKind.wrap .i64 ((IntKind.wrap .i64 (n13 + 1)) + 1)) + 1)))))] fun o19 =>
 nth o19.back 0 fun i20 =>
 oD i20 fun d21 =>
 dL 1 d21 fun l22 =>
 oD o19.res fun d23 =>
 dI .i64 d23 fun n24 =>
 tst (decide (0 ≤ n5) && decide (Int.toNat n5 < (setD (setD (setD (setD l3 (Int.toNat n5) 0 (.v (.int .i64 n4))) (Int.toNat n5) 2 (.v (.int .i64 n13))) (Int.toNat n5) 3 (.v (.string s16))) (Int.toNat n5) 4 (.v (.int .i64 (IntKind.wrap .i64 ((IntKind.wrap .i64 (n13 + 1)) + 1))))).length)) (
 look (setD (setD (setD (setD l3 (Int.toNat n5) 0 (.v (.int .i64 n4))) (Int.toNat n5) 2 (.v (.int .i64 n13))) (Int.toNat n5) 3 (.v (.string s16))) (Int.toNat n5) 4 (.v (.int .i64 (IntKind.wrap .i64 ((IntKind.wrap .i64 (n13 + 1)) + 1))))) (Int.toNat n5) fun r25 =>
 cL 5 r25 6 fun l26 =>
 callT T 92 [(.d (.s 5 l26)), (.d (.v (.int .i64 n24)))] fun o27 =>
 nth o27.back 0 fun i28 =>
 oD i28 fun d29 =>
 dL 5 d29 fun l30 =>
 oD o27.res fun d31 =>
 dI .i64 d31 fun n32 =>
 l143x0 T k n [(.o 7 (setD (setD (setD (setD (setD (setD (setD l3 (Int.toNat n5) 0 (.v (.int .i64 n4))) (Int.toNat n5) 2 (.v (.int .i64 n13))) (Int.toNat n5) 3 (.v (.string s16))) (Int.toNat n5) 4 (.v (.int .i64 (IntKind.wrap .i64 ((IntKind.wrap .i64 (n13 + 1)) + 1))))) (Int.toNat n5) 6 (.s 5 l30)) (Int.toNat n5) 5 (.s 1 l22)) (Int.toNat n5) 1 (.s 1 l11))), (.v (.int .i64 n32)), (.v (.int .i64 (IntKind.wrap .i64 (n5 + 1))))])))))))) else (
 some ((.exit 0), [(.o 7 l3), (.v (.int .i64 n4))]))) := by kernel_rfl
theorem a143q (T : Table) (k : Nat) (l1 : Rows) (n2 : Int) : evalF T k a143 [(.d (.s 7 l1)), (.d (.v (.int .i64 n2)))] = (
 aft (l143x0 T k k [(.o 7 l1), (.v (.int .i64 n2)), (.v (.int .i64 0))]) fun e33 ys34 =>
 bif e33.same (.exit 0) then (
 aV ys34 0 fun x35 =>
 aO 7 x35 fun l36 =>
 aV ys34 1 fun x37 =>
 aI .i64 x37 fun n38 =>
 some ⟨(.d (.v (.int .i64 n38))), [(.d (.s 7 l36))]⟩) else (
 none)) := by kernel_rfl
/- loop.example/g00119/laws.markOverS -/
def b119x0 : ACode := (
  .seq (.seq (.reg false [⟨some 6, .mv (.t 5), none⟩,
    ⟨some 7, .mv (.t 0), none⟩,
    ⟨some 8, .len false (.t 7), none⟩,
    ⟨some 9, .bin .lss (.t 6) (.t 8), none⟩]) (
  .cond (.t 9) (.skip) (.exit 0))) (
  .seq (.block 1 (.seq (.reg false [⟨some 12, .mv (.t 0), none⟩,
      ⟨some 13, .mv (.t 5), none⟩,
      ⟨some 14, .mv (.t 1), none⟩,
      ⟨some 15, .call (.f 75) [.rd] false [.c .s] [(.t 14)], none⟩,
      ⟨some 16, .iad 2 (.t 12) (.t 13), none⟩,
      ⟨some 17, .fad 0 (.t 16), none⟩,
      ⟨none, .store 1 (.t 17) (.t 15), none⟩]) (
    .seq (.reg false [⟨some 18, .mv (.t 1), none⟩,
      ⟨some 19, .bin .add (.t 18) (.c (.v (.int .i64 1))), none⟩,
      ⟨some 1, .mv (.t 19), none⟩]) (
    .reg false [⟨some 20, .mv (.t 0), none⟩,
      ⟨some 21, .mv (.t 5), none⟩,
      ⟨some 22, .iad 2 (.t 20) (.t 21), none⟩,
      ⟨some 23, .fad 1 (.t 22), none⟩,
      ⟨some 24, .load false [(.sl 7)] (.t 23), none⟩,
      ⟨some 25, .mv (.t 1), none⟩,
      ⟨some 26, .call (.f 143) [.lent, .rd] false [.c (.i .i64)] [(.t 24), (.t 25)], none⟩,
      ⟨some 1, .mv (.t 26), none⟩])))) (
  .reg false [⟨some 10, .mv (.t 5), none⟩,
    ⟨some 11, .bin .add (.t 10) (.c (.v (.int .i64 1))), none⟩,
    ⟨some 5, .mv (.t 11), none⟩])))
def e119x0 : Exits := [((.exit 0), [(0, .o 2), (1, .c (.i .i64))])]
noncomputable def l119x0 (T : Table) (k : Nat) := loopN (evalC ⟨T, [0]⟩ k b119x0 (Ex × List AV)) [0, 1, 5] e119x0
def a119 : AFun := ⟨[.lent, .rd], false, [.t 4], (
  .seq (.reg false [⟨some 4, .mv (.c (.v (.int .i64 0))), none⟩]) (
  .seq (.seq (.reg false [⟨some 5, .mv (.c (.v (.int .i64 0))), none⟩]) (
  .block 0 (.loop [0, 1, 5] e119x0 b119x0))) (
  .seq (.reg false [⟨some 27, .mv (.t 1), none⟩,
    ⟨some 4, .mv (.t 27), none⟩]) (
  .ret))))⟩
theorem l119x0s (T : Table) (k n : Nat) (l3 : Rows) (n4 : Int) (n5 : Int) : l119x0 T k (n + 1) [(.o 2 l3), (.v (.int .i64 n4)), (.v (.int .i64 n5))] = (
 bif (decide (n5 < (l3.length : Int))) then (
 callT T 75 [(.d (.v (.int .i64 n4)))] fun o6 =>
 oD o6.res fun d7 =>
 dS d7 fun s8 =>
 tst (decide (0 ≤ n5) && decide (Int.toNat n5 < l3.length)) (
 tst (decide (0 ≤ n5) && decide (Int.toNat n5 < (setD l3 (Int.toNat n5) 0 (.v (.string s8))).length)) (
 look (setD l3 (Int.toNat n5) 0 (.v (.string s8))) (Int.toNat n5) fun r9 =>
 cL 7 r9 1 fun l10 =>
 callT T 143 [(.d (.s 7 l10)), (.d (.v (.int .i64 (IntKind.wrap .i64 (n4 + 1)))))] fun o11 =>
 nth o11.back 0 fun i12 =>
 oD i12 fun d13 =>
 dL 7 d13 fun l14 =>
 oD o11.res fun d15 =>
 dI .i64 d15 fun n16 =>
 l119x0 T k n [(.o 2 (setD (setD l3 (Int.toNat n5) 0 (.v (.string s8))) (Int.toNat n5) 1 (.s 7 l14))), (.v (.int .i64 n16)), (.v (.int .i64 (IntKind.wrap .i64 (n5 + 1))))]))) else (
 some ((.exit 0), [(.o 2 l3), (.v (.int .i64 n4))]))) := by kernel_rfl
theorem a119q (T : Table) (k : Nat) (l1 : Rows) (n2 : Int) : evalF T k a119 [(.d (.s 2 l1)), (.d (.v (.int .i64 n2)))] = (
 aft (l119x0 T k k [(.o 2 l1), (.v (.int .i64 n2)), (.v (.int .i64 0))]) fun e17 ys18 =>
 bif e17.same (.exit 0) then (
 aV ys18 0 fun x19 =>
 aO 2 x19 fun l20 =>
 aV ys18 1 fun x21 =>
 aI .i64 x21 fun n22 =>
 some ⟨(.d (.v (.int .i64 n22))), [(.d (.s 2 l20))]⟩) else (
 none)) := by kernel_rfl
/- loop.example/g00119/laws.markJobS -/
def b71x0 : ACode := (
  .seq (.seq (.reg false [⟨some 6, .mv (.t 5), none⟩,
    ⟨some 7, .mv (.t 0), none⟩,
    ⟨some 8, .len false (.t 7), none⟩,
    ⟨some 9, .bin .lss (.t 6) (.t 8), none⟩]) (
  .cond (.t 9) (.skip) (.exit 0))) (
  .seq (.block 1 (.seq (.reg false [⟨some 12, .mv (.t 0), none⟩,
      ⟨some 13, .mv (.t 5), none⟩,
      ⟨some 14, .mv (.t 1), none⟩,
      ⟨some 15, .iad 13 (.t 12) (.t 13), none⟩,
      ⟨some 16, .fad 0 (.t 15), none⟩,
      ⟨none, .store 1 (.t 16) (.t 14), none⟩]) (
    .seq (.reg false [⟨some 17, .mv (.t 1), none⟩,
      ⟨some 18, .bin .add (.t 17) (.c (.v (.int .i64 1))), none⟩,
      ⟨some 1, .mv (.t 18), none⟩]) (
    .seq (.reg false [⟨some 19, .mv (.t 0), none⟩,
      ⟨some 20, .mv (.t 5), none⟩,
      ⟨some 21, .mv (.t 1), none⟩,
      ⟨some 22, .call (.f 75) [.rd] false [.c .s] [(.t 21)], none⟩,
      ⟨some 23, .iad 13 (.t 19) (.t 20), none⟩,
      ⟨some 24, .fad 1 (.t 23), none⟩,
      ⟨none, .store 1 (.t 24) (.t 22), none⟩]) (
    .seq (.reg false [⟨some 25, .mv (.t 1), none⟩,
      ⟨some 26, .bin .add (.t 25) (.c (.v (.int .i64 1))), none⟩,
      ⟨some 1, .mv (.t 26), none⟩]) (
    .seq (.reg false [⟨some 27, .mv (.t 0), none⟩,
      ⟨some 28, .mv (.t 5), none⟩,
      ⟨some 29, .mv (.t 1), none⟩,
      ⟨some 30, .iad 13 (.t 27) (.t 28), none⟩,
      ⟨some 31, .fad 2 (.t 30), none⟩,
      ⟨some 32, .fad 0 (.t 31), none⟩,
      ⟨none, .store 1 (.t 32) (.t 29), none⟩]) (
    .seq (.reg false [⟨some 33, .mv (.t 1), none⟩,
      ⟨some 34, .bin .add (.t 33) (.c (.v (.int .i64 1))), none⟩,
      ⟨some 1, .mv (.t 34), none⟩]) (
    .seq (.reg false [⟨some 35, .mv (.t 0), none⟩,
      ⟨some 36, .mv (.t 5), none⟩,
      ⟨some 37, .iad 13 (.t 35) (.t 36), none⟩,
      ⟨some 38, .fad 2 (.t 37), none⟩,
      ⟨some 39, .fad 1 (.t 38), none⟩,
      ⟨some 40, .load false [(.sl 3)] (.t 39), none⟩,
      ⟨some 41, .mv (.t 1), none⟩,
      ⟨some 42, .call (.f 117) [.lent, .rd] false [.c (.i .i64)] [(.t 40), (.t 41)], none⟩,
      ⟨some 1, .mv (.t 42), none⟩]) (
    .seq (.reg false [⟨some 43, .mv (.t 0), none⟩,
      ⟨some 44, .mv (.t 5), none⟩,
      ⟨some 45, .iad 13 (.t 43) (.t 44), none⟩,
      ⟨some 46, .fad 2 (.t 45), none⟩,
      ⟨some 47, .fad 2 (.t 46), none⟩,
      ⟨some 48, .load false [(.sl 1)] (.t 47), none⟩,
      ⟨some 49, .mv (.t 1), none⟩,
      ⟨some 50, .call (.f 74) [.lent, .rd] false [.c (.i .i64)] [(.t 48), (.t 49)], none⟩,
      ⟨some 1, .mv (.t 50), none⟩]) (
    .seq (.reg false [⟨some 51, .mv (.t 0), none⟩,
      ⟨some 52, .mv (.t 5), none⟩,
      ⟨some 53, .iad 13 (.t 51) (.t 52), none⟩,
      ⟨some 54, .fad 2 (.t 53), none⟩,
      ⟨some 55, .fad 3 (.t 54), none⟩,
      ⟨some 56, .load false [(.sl 2)] (.t 55), none⟩,
      ⟨some 57, .mv (.t 1), none⟩,
      ⟨some 58, .call (.f 118) [.lent, .rd] false [.c (.i .i64)] [(.t 56), (.t 57)], none⟩,
      ⟨some 1, .mv (.t 58), none⟩]) (
    .seq (.reg false [⟨some 59, .mv (.t 0), none⟩,
      ⟨some 60, .mv (.t 5), none⟩,
      ⟨some 61, .mv (.t 1), none⟩,
      ⟨some 62, .iad 13 (.t 59) (.t 60), none⟩,
      ⟨some 63, .fad 6 (.t 62), none⟩,
      ⟨some 64, .fad 0 (.t 63), none⟩,
      ⟨none, .store 1 (.t 64) (.t 61), none⟩]) (
    .seq (.reg false [⟨some 65, .mv (.t 1), none⟩,
      ⟨some 66, .bin .add (.t 65) (.c (.v (.int .i64 1))), none⟩,
      ⟨some 1, .mv (.t 66), none⟩]) (
    .seq (.reg false [⟨some 67, .mv (.t 0), none⟩,
      ⟨some 68, .mv (.t 5), none⟩,
      ⟨some 69, .mv (.t 1), none⟩,
      ⟨some 70, .call (.f 75) [.rd] false [.c .s] [(.t 69)], none⟩,
      ⟨some 71, .iad 13 (.t 67) (.t 68), none⟩,
      ⟨some 72, .fad 6 (.t 71), none⟩,
      ⟨some 73, .fad 1 (.t 72), none⟩,
      ⟨none, .store 1 (.t 73) (.t 70), none⟩]) (
    .seq (.reg false [⟨some 74, .mv (.t 1), none⟩,
      ⟨some 75, .bin .add (.t 74) (.c (.v (.int .i64 1))), none⟩,
      ⟨some 1, .mv (.t 75), none⟩]) (
    .seq (.reg false [⟨some 76, .mv (.t 0), none⟩,
      ⟨some 77, .mv (.t 5), none⟩,
      ⟨some 78, .mv (.t 1), none⟩,
      ⟨some 79, .iad 13 (.t 76) (.t 77), none⟩,
      ⟨some 80, .fad 6 (.t 79), none⟩,
      ⟨some 81, .fad 2 (.t 80), none⟩,
      ⟨none, .store 1 (.t 81) (.t 78), none⟩]) (
    .seq (.reg false [⟨some 82, .mv (.t 1), none⟩,
      ⟨some 83, .bin .add (.t 82) (.c (.v (.int .i64 1))), none⟩,
      ⟨some 1, .mv (.t 83), none⟩]) (
    .seq (.reg false [⟨some 84, .mv (.t 0), none⟩,
      ⟨some 85, .mv (.t 5), none⟩,
      ⟨some 86, .iad 13 (.t 84) (.t 85), none⟩,
      ⟨some 87, .fad 6 (.t 86), none⟩,
      ⟨some 88, .fad 3 (.t 87), none⟩,
      ⟨some 89, .load false [(.sl 1)] (.t 88), none⟩,
      ⟨some 90, .mv (.t 1), none⟩,
      ⟨some 91, .call (.f 74) [.lent, .rd] false [.c (.i .i64)] [(.t 89), (.t 90)], none⟩,
      ⟨some 1, .mv (.t 91), none⟩]) (
    .seq (.reg false [⟨some 92, .mv (.t 0), none⟩,
      ⟨some 93, .mv (.t 5), none⟩,
      ⟨some 94, .iad 13 (.t 92) (.t 93), none⟩,
      ⟨some 95, .fad 6 (.t 94), none⟩,
      ⟨some 96, .fad 4 (.t 95), none⟩,
      ⟨some 97, .load false [(.sl 5)] (.t 96), none⟩,
      ⟨some 98, .mv (.t 1), none⟩,
      ⟨some 99, .call (.f 92) [.lent, .rd] false [.c (.i .i64)] [(.t 97), (.t 98)], none⟩,
      ⟨some 1, .mv (.t 99), none⟩]) (
    .seq (.reg false [⟨some 100, .mv (.t 0), none⟩,
      ⟨some 101, .mv (.t 5), none⟩,
      ⟨some 102, .iad 13 (.t 100) (.t 101), none⟩,
      ⟨some 103, .fad 11 (.t 102), none⟩,
      ⟨some 104, .load false [(.sl 2)] (.t 103), none⟩,
      ⟨some 105, .mv (.t 1), none⟩,
      ⟨some 106, .call (.f 119) [.lent, .rd] false [.c (.i .i64)] [(.t 104), (.t 105)], none⟩,
      ⟨some 1, .mv (.t 106), none⟩]) (
    .seq (.reg false [⟨some 107, .mv (.t 0), none⟩,
      ⟨some 108, .mv (.t 5), none⟩,
      ⟨some 109, .mv (.t 1), none⟩,
      ⟨some 110, .bin .rem (.t 109) (.c (.v (.int .i64 3))), none⟩,
      ⟨some 111, .bin .eql (.t 110) (.c (.v (.int .i64 0))), none⟩,
      ⟨some 112, .iad 13 (.t 107) (.t 108), none⟩,
      ⟨some 113, .fad 12 (.t 112), none⟩,
      ⟨none, .store 1 (.t 113) (.t 111), none⟩]) (
    .reg false [⟨some 114, .mv (.t 1), none⟩,
      ⟨some 115, .bin .add (.t 114) (.c (.v (.int .i64 1))), none⟩,
      ⟨some 1, .mv (.t 115), none⟩]))))))))))))))))))))) (
  .reg false [⟨some 10, .mv (.t 5), none⟩,
    ⟨some 11, .bin .add (.t 10) (.c (.v (.int .i64 1))), none⟩,
    ⟨some 5, .mv (.t 11), none⟩])))
def e71x0 : Exits := [((.exit 0), [(0, .o 13), (1, .c (.i .i64))])]
noncomputable def l71x0 (T : Table) (k : Nat) := loopN (evalC ⟨T, [0]⟩ k b71x0 (Ex × List AV)) [0, 1, 5] e71x0
def a71 : AFun := ⟨[.lent, .rd], false, [.t 4], (
  .seq (.reg false [⟨some 4, .mv (.c (.v (.int .i64 0))), none⟩]) (
  .seq (.seq (.reg false [⟨some 5, .mv (.c (.v (.int .i64 0))), none⟩]) (
  .block 0 (.loop [0, 1, 5] e71x0 b71x0))) (
  .seq (.reg false [⟨some 116, .mv (.t 1), none⟩,
    ⟨some 4, .mv (.t 116), none⟩]) (
  .ret))))⟩
theorem l71x0s (T : Table) (k n : Nat) (l3 : Rows) (n4 : Int) (n5 : Int) : l71x0 T k (n + 1) [(.o 13 l3), (.v (.int .i64 n4)), (.v (.int .i64 n5))] = (
 bif (decide (n5 < (l3.length : Int))) then (
 tst (decide (0 ≤ n5) && decide (Int.toNat n5 < l3.length)) (
 callT T 75 [(.d (.v (.int .i64 (IntKind.wrap .i64 (n4 + 1)))))] fun o6 =>
 oD o6.res fun d7 =>
 dS d7 fun s8 =>
 tst (decide (0 ≤ n5) && decide (Int.toNat n5 < (setD l3 (Int.toNat n5) 0 (.v (.int .i64 n4))).length)) (
 tst (decide (0 ≤ n5) && decide (Int.toNat n5 < (setD (setD l3 (Int.toNat n5) 0 (.v (.int .i64 n4))) (Int.toNat n5) 1 (.v (.string s8))).length)) (
 tst (decide (0 ≤ n5) && decide (Int.toNat n5 < (setD (setD (setD l3 (Int.toNat n5) 0 (.v (.int .i64 n4))) (Int.toNat n5) 1 (.v (.string s8))) (Int.toNat n5) 2 (.v (.int .i64 (IntKind.wrap .i64 ((IntKind.wrap .i64 (n4 + 1)) + 1))))).length)) (
 look (setD (setD (setD l3 (Int.toNat n5) 0 (.v (.int .i64 n4))) (Int.toNat n5) 1 (.v (.string s8))) (Int.toNat n5) 2 (.v (.int .i64 (IntKind.wrap .i64 ((IntKind.wrap .i64 (n4 + 1)) + 1))))) (Int.toNat n5) fun r9 =>
 cL 3 r9 3 fun l10 =>
 callT T 117 [(.d (.s 3 l10)), (.d (.v (.int .i64 (IntKind.wrap .i64 ((IntKind.wrap .i64 ((IntKind.wrap .i64 (n4 + 1)) + 1)) + 1)))))] fun o11 =>
 nth o11.back 0 fun i12 =>
 oD i12 fun d13 =>
 dL 3 d13 fun l14 =>
 oD o11.res fun d15 =>
 dI .i64 d15 fun n16 =>
 tst (decide (0 ≤ n5) && decide (Int.toNat n5 < (setD (setD (setD l3 (Int.toNat n5) 0 (.v (.int .i64 n4))) (Int.toNat n5) 1 (.v (.string s8))) (Int.toNat n5) 2 (.v (.int .i64 (IntKind.wrap .i64 ((IntKind.wrap .i64 (n4 + 1)) + 1))))).length)) (
 look (setD (setD (setD l3 (Int.toNat n5) 0 (.v (.int .i64 n4))) (Int.toNat n5) 1 (.v (.string s8))) (Int.toNat n5) 2 (.v (.int .i64 (IntKind.wrap .i64 ((IntKind.wrap .i64 (n4 + 1)) + 1))))) (Int.toNat n5) fun r17 =>
 cL 1 r17 4 fun l18 =>
 callT T 74 [(.d (.s 1 l18)), (.d (.v (.int .i64 n16)))] fun o19 =>
 nth o19.back 0 fun i20 =>
 oD i20 fun d21 =>
 dL 1 d21 fun l22 =>
 oD o19.res fun d23 =>
 dI .i64 d23 fun n24 =>
 tst (decide (0 ≤ n5) && decide (Int.toNat n5 < (setD (setD (setD l3 (Int.toNat n5) 0 (.v (.int .i64 n4))) (Int.toNat n5) 1 (.v (.string s8))) (Int.toNat n5) 2 (.v (.int .i64 (IntKind.wrap .i64 ((IntKind.wrap .i64 (n4 + 1)) + 1))))).length)) (
 look (setD (setD (setD l3 (Int.toNat n5) 0 (.v (.int .i64 n4))) (Int.toNat n5) 1 (.v (.string s8))) (Int.toNat n5) 2 (.v (.int .i64 (IntKind.wrap .i64 ((IntKind.wrap .i64 (n4 + 1)) + 1))))) (Int.toNat n5) fun r25 =>
 cL 2 r25 5 fun l26 =>
 callT T 118 [(.d (.s 2 l26)), (.d (.v (.int .i64 n24)))] fun o27 =>
 nth o27.back 0 fun i28 =>
 oD i28 fun d29 =>
 dL 2 d29 fun l30 =>
 oD o27.res fun d31 =>
 dI .i64 d31 fun n32 =>
 tst (decide (0 ≤ n5) && decide (Int.toNat n5 < (setD (setD (setD l3 (Int.toNat n5) 0 (.v (.int .i64 n4))) (Int.toNat n5) 1 (.v (.string s8))) (Int.toNat n5) 2 (.v (.int .i64 (IntKind.wrap .i64 ((IntKind.wrap .i64 (n4 + 1)) + 1))))).length)) (
 callT T 75 [(.d (.v (.int .i64 (IntKind.wrap .i64 (n32 + 1)))))] fun o33 =>
 oD o33.res fun d34 =>
 dS d34 fun s35 =>
 tst (decide (0 ≤ n5) && decide (Int.toNat n5 < (setD (setD (setD (setD l3 (Int.toNat n5) 0 (.v (.int .i64 n4))) (Int.toNat n5) 1 (.v (.string s8))) (Int.toNat n5) 2 (.v (.int .i64 (IntKind.wrap .i64 ((IntKind.wrap .i64 (n4 + 1)) + 1))))) (Int.toNat n5) 6 (.v (.int .i64 n32))).length)) (
 tst (decide (0 ≤ n5) && decide (Int.toNat n5 < (setD (setD (setD (setD (setD l3 (Int.toNat n5) 0 (.v (.int .i64 n4))) (Int.toNat n5) 1 (.v (.string s8))) (Int.toNat n5) 2 (.v (.int .i64 (IntKind.wrap .i64 ((IntKind.wrap .i64 (n4 + 1)) + 1))))) (Int.toNat n5) 6 (.v (.int .i64 n32))) (Int.toNat n5) 7 (.v (.string s35))).length)) (
 tst (decide (0 ≤ n5) && decide (Int.toNat n5 < (setD (setD (setD (setD (setD (setD l3 (Int.toNat n5) 0 (.v (.int .i64 n4))) (Int.toNat n5) 1 (.v (.string s8))) (Int.toNat n5) 2 (.v (.int .i64 (IntKind.wrap .i64 ((IntKind.wrap .i64 (n4 + 1)) + 1))))) (Int.toNat n5) 6 (.v (.int .i64 n32))) (Int.toNat n5) 7 (.v (.string s35))) (Int.toNat n5) 8 (.v (.int .i64 (IntKind.wrap .i64 ((IntKind.wrap .i64 (n32 + 1)) + 1))))).length)) (
 look (setD (setD (setD (setD (setD (setD l3 (Int.toNat n5) 0 (.v (.int .i64 n4))) (Int.toNat n5) 1 (.v (.string s8))) (Int.toNat n5) 2 (.v (.int .i64 (IntKind.wrap .i64 ((IntKind.wrap .i64 (n4 + 1)) + 1))))) (Int.toNat n5) 6 (.v (.int .i64 n32))) (Int.toNat n5) 7 (.v (.string s35))) (Int.toNat n5) 8 (.v (.int .i64 (IntKind.wrap .i64 ((IntKind.wrap .i64 (n32 + 1)) + 1))))) (Int.toNat n5) fun r36 =>
 cL 1 r36 9 fun l37 =>
 callT T 74 [(.d (.s 1 l37)), (.d (.v (.int .i64 (IntKind.wrap .i64 ((IntKind.wrap .i64 ((IntKind.wrap .i64 (n32 + 1)) + 1)) + 1)))))] fun o38 =>
 nth o38.back 0 fun i39 =>
 oD i39 fun d40 =>
 dL 1 d40 fun l41 =>
 oD o38.res fun d42 =>
 dI .i64 d42 fun n43 =>
 tst (decide (0 ≤ n5) && decide (Int.toNat n5 < (setD (setD (setD (setD (setD (setD l3 (Int.toNat n5) 0 (.v (.int .i64 n4))) (Int.toNat n5) 1 (.v (.string s8))) (Int.toNat n5) 2 (.v (.int .i64 (IntKind.wrap .i64 ((IntKind.wrap .i64 (n4 + 1)) + 1))))) (Int.toNat n5) 6 (.v (.int .i64 n32))) (Int.toNat n5) 7 (.v (.string s35))) (Int.toNat n5) 8 (.v (.int .i64 (IntKind.wrap .i64 ((IntKind.wrap .i64 (n32 + 1)) + 1))))).length)) (
 look (setD (setD (setD (setD (setD (setD l3 (Int.toNat n5) 0 (.v (.int .i64 n4))) (Int.toNat n5) 1 (.v (.string s8))) (Int.toNat n5) 2 (.v (.int .i64 (IntKind.wrap .i64 ((IntKind.wrap .i64 (n4 + 1)) + 1))))) (Int.toNat n5) 6 (.v (.int .i64 n32))) (Int.toNat n5) 7 (.v (.string s35))) (Int.toNat n5) 8 (.v (.int .i64 (IntKind.wrap .i64 ((IntKind.wrap .i64 (n32 + 1)) + 1))))) (Int.toNat n5) fun r44 =>
 cL 5 r44 10 fun l45 =>
 callT T 92 [(.d (.s 5 l45)), (.d (.v (.int .i64 n43)))] fun o46 =>
 nth o46.back 0 fun i47 =>
 oD i47 fun d48 =>
 dL 5 d48 fun l49 =>
 oD o46.res fun d50 =>
 dI .i64 d50 fun n51 =>
 tst (decide (0 ≤ n5) && decide (Int.toNat n5 < (setD (setD (setD (setD (setD (setD l3 (Int.toNat n5) 0 (.v (.int .i64 n4))) (Int.toNat n5) 1 (.v (.string s8))) (Int.toNat n5) 2 (.v (.int .i64 (IntKind.wrap .i64 ((IntKind.wrap .i64 (n4 + 1)) + 1))))) (Int.toNat n5) 6 (.v (.int .i64 n32))) (Int.toNat n5) 7 (.v (.string s35))) (Int.toNat n5) 8 (.v (.int .i64 (IntKind.wrap .i64 ((IntKind.wrap .i64 (n32 + 1)) + 1))))).length)) (
 look (setD (setD (setD (setD (setD (setD l3 (Int.toNat n5) 0 (.v (.int .i64 n4))) (Int.toNat n5) 1 (.v (.string s8))) (Int.toNat n5) 2 (.v (.int .i64 (IntKind.wrap .i64 ((IntKind.wrap .i64 (n4 + 1)) + 1))))) (Int.toNat n5) 6 (.v (.int .i64 n32))) (Int.toNat n5) 7 (.v (.string s35))) (Int.toNat n5) 8 (.v (.int .i64 (IntKind.wrap .i64 ((IntKind.wrap .i64 (n32 + 1)) + 1))))) (Int.toNat n5) fun r52 =>
 cL 2 r52 11 fun l53 =>
 callT T 119 [(.d (.s 2 l53)), (.d (.v (.int .i64 n51)))] fun o54 =>
 nth o54.back 0 fun i55 =>
 oD i55 fun d56 =>
 dL 2 d56 fun l57 =>
 oD o54.res fun d58 =>
 dI .i64 d58 fun n59 =>
 tst (decide (3 ≠ 0)) (
 tst (decide (0 ≤ n5) && decide (Int.toNat n5 < (setD (setD (setD (setD (setD (setD l3 (Int.toNat n5) 0 (.v (.int .i64 n4))) (Int.toNat n5) 1 (.v (.string s8))) (Int.toNat n5) 2 (.v (.int .i64 (IntKind.wrap .i64 ((IntKind.wrap .i64 (n4 + 1)) + 1))))) (Int.toNat n5) 6 (.v (.int .i64 n32))) (Int.toNat n5) 7 (.v (.string s35))) (Int.toNat n5) 8 (.v (.int .i64 (IntKind.wrap .i64 ((IntKind.wrap .i64 (n32 + 1)) + 1))))).length)) (
 l71x0 T k n [(.o 13 (setD (setD (setD (setD (setD (setD (setD (setD (setD (setD (setD (setD (setD l3 (Int.toNat n5) 0 (.v (.int .i64 n4))) (Int.toNat n5) 1 (.v (.string s8))) (Int.toNat n5) 2 (.v (.int .i64 (IntKind.wrap .i64 ((IntKind.wrap .i64 (n4 + 1)) + 1))))) (Int.toNat n5) 6 (.v (.int .i64 n32))) (Int.toNat n5) 7 (.v (.string s35))) (Int.toNat n5) 8 (.v (.int .i64 (IntKind.wrap .i64 ((IntKind.wrap .i64 (n32 + 1)) + 1))))) (Int.toNat n5) 12 (.v (.bool ((Int.tmod n59 3) == 0)))) (Int.toNat n5) 11 (.s 2 l57)) (Int.toNat n5) 10 (.s 5 l49)) (Int.toNat n5) 9 (.s 1 l41)) (Int.toNat n5) 5 (.s 2 l30)) (Int.toNat n5) 4 (.s 1 l22)) (Int.toNat n5) 3 (.s 3 l14))), (.v (.int .i64 (IntKind.wrap .i64 (n59 + 1)))), (.v (.int .i64 (IntKind.wrap .i64 (n5 + 1))))]))))))))))))))) else (
 some ((.exit 0), [(.o 13 l3), (.v (.int .i64 n4))]))) := by kernel_rfl
theorem a71q (T : Table) (k : Nat) (l1 : Rows) (n2 : Int) : evalF T k a71 [(.d (.s 13 l1)), (.d (.v (.int .i64 n2)))] = (
 aft (l71x0 T k k [(.o 13 l1), (.v (.int .i64 n2)), (.v (.int .i64 0))]) fun e60 ys61 =>
 bif e60.same (.exit 0) then (
 aV ys61 0 fun x62 =>
 aO 13 x62 fun l63 =>
 aV ys61 1 fun x64 =>
 aI .i64 x64 fun n65 =>
 some ⟨(.d (.v (.int .i64 n65))), [(.d (.s 13 l63))]⟩) else (
 none)) := by kernel_rfl
/- loop.example/g00119/laws.markLabelS -/
def b120x0 : ACode := (
  .seq (.seq (.reg false [⟨some 6, .mv (.t 5), none⟩,
    ⟨some 7, .mv (.t 0), none⟩,
    ⟨some 8, .len false (.t 7), none⟩,
    ⟨some 9, .bin .lss (.t 6) (.t 8), none⟩]) (
  .cond (.t 9) (.skip) (.exit 0))) (
  .seq (.block 1 (.seq (.reg false [⟨some 12, .mv (.t 0), none⟩,
      ⟨some 13, .mv (.t 5), none⟩,
      ⟨some 14, .mv (.t 1), none⟩,
      ⟨some 15, .call (.f 75) [.rd] false [.c .s] [(.t 14)], none⟩,
      ⟨some 16, .iad 2 (.t 12) (.t 13), none⟩,
      ⟨some 17, .fad 0 (.t 16), none⟩,
      ⟨none, .store 1 (.t 17) (.t 15), none⟩]) (
    .seq (.reg false [⟨some 18, .mv (.t 1), none⟩,
      ⟨some 19, .bin .add (.t 18) (.c (.v (.int .i64 1))), none⟩,
      ⟨some 1, .mv (.t 19), none⟩]) (
    .seq (.reg false [⟨some 20, .mv (.t 0), none⟩,
      ⟨some 21, .mv (.t 5), none⟩,
      ⟨some 22, .mv (.t 1), none⟩,
      ⟨some 23, .call (.f 75) [.rd] false [.c .s] [(.t 22)], none⟩,
      ⟨some 24, .iad 2 (.t 20) (.t 21), none⟩,
      ⟨some 25, .fad 1 (.t 24), none⟩,
      ⟨none, .store 1 (.t 25) (.t 23), none⟩]) (
    .reg false [⟨some 26, .mv (.t 1), none⟩,
      ⟨some 27, .bin .add (.t 26) (.c (.v (.int .i64 1))), none⟩,
      ⟨some 1, .mv (.t 27), none⟩]))))) (
  .reg false [⟨some 10, .mv (.t 5), none⟩,
    ⟨some 11, .bin .add (.t 10) (.c (.v (.int .i64 1))), none⟩,
    ⟨some 5, .mv (.t 11), none⟩])))
def e120x0 : Exits := [((.exit 0), [(0, .o 2), (1, .c (.i .i64))])]
noncomputable def l120x0 (T : Table) (k : Nat) := loopN (evalC ⟨T, [0]⟩ k b120x0 (Ex × List AV)) [0, 1, 5] e120x0
def a120 : AFun := ⟨[.lent, .rd], false, [.t 4], (
  .seq (.reg false [⟨some 4, .mv (.c (.v (.int .i64 0))), none⟩]) (
  .seq (.seq (.reg false [⟨some 5, .mv (.c (.v (.int .i64 0))), none⟩]) (
  .block 0 (.loop [0, 1, 5] e120x0 b120x0))) (
  .seq (.reg false [⟨some 28, .mv (.t 1), none⟩,
    ⟨some 4, .mv (.t 28), none⟩]) (
  .ret))))⟩
theorem l120x0s (T : Table) (k n : Nat) (l3 : Rows) (n4 : Int) (n5 : Int) : l120x0 T k (n + 1) [(.o 2 l3), (.v (.int .i64 n4)), (.v (.int .i64 n5))] = (
 bif (decide (n5 < (l3.length : Int))) then (
 callT T 75 [(.d (.v (.int .i64 n4)))] fun o6 =>
 oD o6.res fun d7 =>
 dS d7 fun s8 =>
 tst (decide (0 ≤ n5) && decide (Int.toNat n5 < l3.length)) (
 callT T 75 [(.d (.v (.int .i64 (IntKind.wrap .i64 (n4 + 1)))))] fun o9 =>
 oD o9.res fun d10 =>
 dS d10 fun s11 =>
 tst (decide (0 ≤ n5) && decide (Int.toNat n5 < (setD l3 (Int.toNat n5) 0 (.v (.string s8))).length)) (
 l120x0 T k n [(.o 2 (setD (setD l3 (Int.toNat n5) 0 (.v (.string s8))) (Int.toNat n5) 1 (.v (.string s11)))), (.v (.int .i64 (IntKind.wrap .i64 ((IntKind.wrap .i64 (n4 + 1)) + 1)))), (.v (.int .i64 (IntKind.wrap .i64 (n5 + 1))))]))) else (
 some ((.exit 0), [(.o 2 l3), (.v (.int .i64 n4))]))) := by kernel_rfl
theorem a120q (T : Table) (k : Nat) (l1 : Rows) (n2 : Int) : evalF T k a120 [(.d (.s 2 l1)), (.d (.v (.int .i64 n2)))] = (
 aft (l120x0 T k k [(.o 2 l1), (.v (.int .i64 n2)), (.v (.int .i64 0))]) fun e12 ys13 =>
 bif e12.same (.exit 0) then (
 aV ys13 0 fun x14 =>
 aO 2 x14 fun l15 =>
 aV ys13 1 fun x16 =>
 aI .i64 x16 fun n17 =>
 some ⟨(.d (.v (.int .i64 n17))), [(.d (.s 2 l15))]⟩) else (
 none)) := by kernel_rfl
/- loop.example/g00119/laws.markPostS -/
def b72x0 : ACode := (
  .seq (.seq (.reg false [⟨some 6, .mv (.t 5), none⟩,
    ⟨some 7, .mv (.t 0), none⟩,
    ⟨some 8, .len false (.t 7), none⟩,
    ⟨some 9, .bin .lss (.t 6) (.t 8), none⟩]) (
  .cond (.t 9) (.skip) (.exit 0))) (
  .seq (.block 1 (.seq (.reg false [⟨some 12, .mv (.t 0), none⟩,
      ⟨some 13, .mv (.t 5), none⟩,
      ⟨some 14, .mv (.t 1), none⟩,
      ⟨some 15, .call (.f 75) [.rd] false [.c .s] [(.t 14)], none⟩,
      ⟨some 16, .iad 6 (.t 12) (.t 13), none⟩,
      ⟨some 17, .fad 0 (.t 16), none⟩,
      ⟨some 18, .fad 0 (.t 17), none⟩,
      ⟨none, .store 1 (.t 18) (.t 15), none⟩]) (
    .seq (.reg false [⟨some 19, .mv (.t 1), none⟩,
      ⟨some 20, .bin .add (.t 19) (.c (.v (.int .i64 1))), none⟩,
      ⟨some 1, .mv (.t 20), none⟩]) (
    .seq (.reg false [⟨some 21, .mv (.t 0), none⟩,
      ⟨some 22, .mv (.t 5), none⟩,
      ⟨some 23, .iad 6 (.t 21) (.t 22), none⟩,
      ⟨some 24, .fad 0 (.t 23), none⟩,
      ⟨some 25, .fad 1 (.t 24), none⟩,
      ⟨some 26, .load false [(.sl 2)] (.t 25), none⟩,
      ⟨some 27, .mv (.t 1), none⟩,
      ⟨some 28, .call (.f 120) [.lent, .rd] false [.c (.i .i64)] [(.t 26), (.t 27)], none⟩,
      ⟨some 1, .mv (.t 28), none⟩]) (
    .seq (.reg false [⟨some 29, .mv (.t 0), none⟩,
      ⟨some 30, .mv (.t 5), none⟩,
      ⟨some 31, .iad 6 (.t 29) (.t 30), none⟩,
      ⟨some 32, .fad 0 (.t 31), none⟩,
      ⟨some 33, .fad 2 (.t 32), none⟩,
      ⟨some 34, .load false [(.sl 1)] (.t 33), none⟩,
      ⟨some 35, .mv (.t 1), none⟩,
      ⟨some 36, .call (.f 74) [.lent, .rd] false [.c (.i .i64)] [(.t 34), (.t 35)], none⟩,
      ⟨some 1, .mv (.t 36), none⟩]) (
    .seq (.reg false [⟨some 37, .mv (.t 0), none⟩,
      ⟨some 38, .mv (.t 5), none⟩,
      ⟨some 39, .mv (.t 1), none⟩,
      ⟨some 40, .iad 6 (.t 37) (.t 38), none⟩,
      ⟨some 41, .fad 0 (.t 40), none⟩,
      ⟨some 42, .fad 3 (.t 41), none⟩,
      ⟨none, .store 1 (.t 42) (.t 39), none⟩]) (
    .seq (.reg false [⟨some 43, .mv (.t 1), none⟩,
      ⟨some 44, .bin .add (.t 43) (.c (.v (.int .i64 1))), none⟩,
      ⟨some 1, .mv (.t 44), none⟩]) (
    .seq (.reg false [⟨some 45, .mv (.t 0), none⟩,
      ⟨some 46, .mv (.t 5), none⟩,
      ⟨some 47, .mv (.t 1), none⟩,
      ⟨some 48, .iad 6 (.t 45) (.t 46), none⟩,
      ⟨some 49, .fad 4 (.t 48), none⟩,
      ⟨none, .store 1 (.t 49) (.t 47), none⟩]) (
    .seq (.reg false [⟨some 50, .mv (.t 1), none⟩,
      ⟨some 51, .bin .add (.t 50) (.c (.v (.int .i64 1))), none⟩,
      ⟨some 1, .mv (.t 51), none⟩]) (
    .seq (.reg false [⟨some 52, .mv (.t 0), none⟩,
      ⟨some 53, .mv (.t 5), none⟩,
      ⟨some 54, .mv (.t 1), none⟩,
      ⟨some 55, .iad 6 (.t 52) (.t 53), none⟩,
      ⟨some 56, .fad 5 (.t 55), none⟩,
      ⟨none, .store 1 (.t 56) (.t 54), none⟩]) (
    .reg false [⟨some 57, .mv (.t 1), none⟩,
      ⟨some 58, .bin .add (.t 57) (.c (.v (.int .i64 1))), none⟩,
      ⟨some 1, .mv (.t 58), none⟩]))))))))))) (
  .reg false [⟨some 10, .mv (.t 5), none⟩,
    ⟨some 11, .bin .add (.t 10) (.c (.v (.int .i64 1))), none⟩,
    ⟨some 5, .mv (.t 11), none⟩])))
def e72x0 : Exits := [((.exit 0), [(0, .o 6), (1, .c (.i .i64))])]
noncomputable def l72x0 (T : Table) (k : Nat) := loopN (evalC ⟨T, [0]⟩ k b72x0 (Ex × List AV)) [0, 1, 5] e72x0
def a72 : AFun := ⟨[.lent, .rd], false, [.t 4], (
  .seq (.reg false [⟨some 4, .mv (.c (.v (.int .i64 0))), none⟩]) (
  .seq (.seq (.reg false [⟨some 5, .mv (.c (.v (.int .i64 0))), none⟩]) (
  .block 0 (.loop [0, 1, 5] e72x0 b72x0))) (
  .seq (.reg false [⟨some 59, .mv (.t 1), none⟩,
    ⟨some 4, .mv (.t 59), none⟩]) (
  .ret))))⟩
theorem l72x0s (T : Table) (k n : Nat) (l3 : Rows) (n4 : Int) (n5 : Int) : l72x0 T k (n + 1) [(.o 6 l3), (.v (.int .i64 n4)), (.v (.int .i64 n5))] = (
 bif (decide (n5 < (l3.length : Int))) then (
 callT T 75 [(.d (.v (.int .i64 n4)))] fun o6 =>
 oD o6.res fun d7 =>
 dS d7 fun s8 =>
 tst (decide (0 ≤ n5) && decide (Int.toNat n5 < l3.length)) (
 tst (decide (0 ≤ n5) && decide (Int.toNat n5 < (setD l3 (Int.toNat n5) 0 (.v (.string s8))).length)) (
 look (setD l3 (Int.toNat n5) 0 (.v (.string s8))) (Int.toNat n5) fun r9 =>
 cL 2 r9 1 fun l10 =>
 callT T 120 [(.d (.s 2 l10)), (.d (.v (.int .i64 (IntKind.wrap .i64 (n4 + 1)))))] fun o11 =>
 nth o11.back 0 fun i12 =>
 oD i12 fun d13 =>
 dL 2 d13 fun l14 =>
 oD o11.res fun d15 =>
 dI .i64 d15 fun n16 =>
 tst (decide (0 ≤ n5) && decide (Int.toNat n5 < (setD l3 (Int.toNat n5) 0 (.v (.string s8))).length)) (
 look (setD l3 (Int.toNat n5) 0 (.v (.string s8))) (Int.toNat n5) fun r17 =>
 cL 1 r17 2 fun l18 =>
 callT T 74 [(.d (.s 1 l18)), (.d (.v (.int .i64 n16)))] fun o19 =>
 nth o19.back 0 fun i20 =>
 oD i20 fun d21 =>
 dL 1 d21 fun l22 =>
 oD o19.res fun d23 =>
 dI .i64 d23 fun n24 =>
 tst (decide (0 ≤ n5) && decide (Int.toNat n5 < (setD l3 (Int.toNat n5) 0 (.v (.string s8))).length)) (
 tst (decide (0 ≤ n5) && decide (Int.toNat n5 < (setD (setD l3 (Int.toNat n5) 0 (.v (.string s8))) (Int.toNat n5) 3 (.v (.int .i64 n24))).length)) (
 tst (decide (0 ≤ n5) && decide (Int.toNat n5 < (setD (setD (setD l3 (Int.toNat n5) 0 (.v (.string s8))) (Int.toNat n5) 3 (.v (.int .i64 n24))) (Int.toNat n5) 4 (.v (.int .i64 (IntKind.wrap .i64 (n24 + 1))))).length)) (
 l72x0 T k n [(.o 6 (setD (setD (setD (setD (setD (setD l3 (Int.toNat n5) 0 (.v (.string s8))) (Int.toNat n5) 3 (.v (.int .i64 n24))) (Int.toNat n5) 4 (.v (.int .i64 (IntKind.wrap .i64 (n24 + 1))))) (Int.toNat n5) 5 (.v (.int .i64 (IntKind.wrap .i64 ((IntKind.wrap .i64 (n24 + 1)) + 1))))) (Int.toNat n5) 2 (.s 1 l22)) (Int.toNat n5) 1 (.s 2 l14))), (.v (.int .i64 (IntKind.wrap .i64 ((IntKind.wrap .i64 ((IntKind.wrap .i64 (n24 + 1)) + 1)) + 1)))), (.v (.int .i64 (IntKind.wrap .i64 (n5 + 1))))]))))))) else (
 some ((.exit 0), [(.o 6 l3), (.v (.int .i64 n4))]))) := by kernel_rfl
theorem a72q (T : Table) (k : Nat) (l1 : Rows) (n2 : Int) : evalF T k a72 [(.d (.s 6 l1)), (.d (.v (.int .i64 n2)))] = (
 aft (l72x0 T k k [(.o 6 l1), (.v (.int .i64 n2)), (.v (.int .i64 0))]) fun e25 ys26 =>
 bif e25.same (.exit 0) then (
 aV ys26 0 fun x27 =>
 aO 6 x27 fun l28 =>
 aV ys26 1 fun x29 =>
 aI .i64 x29 fun n30 =>
 some ⟨(.d (.v (.int .i64 n30))), [(.d (.s 6 l28))]⟩) else (
 none)) := by kernel_rfl
/- loop.example/g00119/laws.markHoldS -/
def b73x0 : ACode := (
  .seq (.seq (.reg false [⟨some 6, .mv (.t 5), none⟩,
    ⟨some 7, .mv (.t 0), none⟩,
    ⟨some 8, .len false (.t 7), none⟩,
    ⟨some 9, .bin .lss (.t 6) (.t 8), none⟩]) (
  .cond (.t 9) (.skip) (.exit 0))) (
  .seq (.block 1 (.seq (.reg false [⟨some 12, .mv (.t 0), none⟩,
      ⟨some 13, .mv (.t 5), none⟩,
      ⟨some 14, .mv (.t 1), none⟩,
      ⟨some 15, .iad 5 (.t 12) (.t 13), none⟩,
      ⟨some 16, .fad 0 (.t 15), none⟩,
      ⟨none, .store 1 (.t 16) (.t 14), none⟩]) (
    .seq (.reg false [⟨some 17, .mv (.t 1), none⟩,
      ⟨some 18, .bin .add (.t 17) (.c (.v (.int .i64 1))), none⟩,
      ⟨some 1, .mv (.t 18), none⟩]) (
    .seq (.reg false [⟨some 19, .mv (.t 0), none⟩,
      ⟨some 20, .mv (.t 5), none⟩,
      ⟨some 21, .mv (.t 1), none⟩,
      ⟨some 22, .call (.f 75) [.rd] false [.c .s] [(.t 21)], none⟩,
      ⟨some 23, .iad 5 (.t 19) (.t 20), none⟩,
      ⟨some 24, .fad 1 (.t 23), none⟩,
      ⟨none, .store 1 (.t 24) (.t 22), none⟩]) (
    .seq (.reg false [⟨some 25, .mv (.t 1), none⟩,
      ⟨some 26, .bin .add (.t 25) (.c (.v (.int .i64 1))), none⟩,
      ⟨some 1, .mv (.t 26), none⟩]) (
    .seq (.reg false [⟨some 27, .mv (.t 0), none⟩,
      ⟨some 28, .mv (.t 5), none⟩,
      ⟨some 29, .mv (.t 1), none⟩,
      ⟨some 30, .iad 5 (.t 27) (.t 28), none⟩,
      ⟨some 31, .fad 2 (.t 30), none⟩,
      ⟨none, .store 1 (.t 31) (.t 29), none⟩]) (
    .seq (.reg false [⟨some 32, .mv (.t 1), none⟩,
      ⟨some 33, .bin .add (.t 32) (.c (.v (.int .i64 1))), none⟩,
      ⟨some 1, .mv (.t 33), none⟩]) (
    .seq (.reg false [⟨some 34, .mv (.t 0), none⟩,
      ⟨some 35, .mv (.t 5), none⟩,
      ⟨some 36, .mv (.t 1), none⟩,
      ⟨some 37, .iad 5 (.t 34) (.t 35), none⟩,
      ⟨some 38, .fad 3 (.t 37), none⟩,
      ⟨none, .store 1 (.t 38) (.t 36), none⟩]) (
    .seq (.reg false [⟨some 39, .mv (.t 1), none⟩,
      ⟨some 40, .bin .add (.t 39) (.c (.v (.int .i64 1))), none⟩,
      ⟨some 1, .mv (.t 40), none⟩]) (
    .seq (.reg false [⟨some 41, .mv (.t 0), none⟩,
      ⟨some 42, .mv (.t 5), none⟩,
      ⟨some 43, .mv (.t 1), none⟩,
      ⟨some 44, .iad 5 (.t 41) (.t 42), none⟩,
      ⟨some 45, .fad 4 (.t 44), none⟩,
      ⟨none, .store 1 (.t 45) (.t 43), none⟩]) (
    .reg false [⟨some 46, .mv (.t 1), none⟩,
      ⟨some 47, .bin .add (.t 46) (.c (.v (.int .i64 1))), none⟩,
      ⟨some 1, .mv (.t 47), none⟩]))))))))))) (
  .reg false [⟨some 10, .mv (.t 5), none⟩,
    ⟨some 11, .bin .add (.t 10) (.c (.v (.int .i64 1))), none⟩,
    ⟨some 5, .mv (.t 11), none⟩])))
def e73x0 : Exits := [((.exit 0), [(0, .o 5), (1, .c (.i .i64))])]
noncomputable def l73x0 (T : Table) (k : Nat) := loopN (evalC ⟨T, [0]⟩ k b73x0 (Ex × List AV)) [0, 1, 5] e73x0
def a73 : AFun := ⟨[.lent, .rd], false, [.t 4], (
  .seq (.reg false [⟨some 4, .mv (.c (.v (.int .i64 0))), none⟩]) (
  .seq (.seq (.reg false [⟨some 5, .mv (.c (.v (.int .i64 0))), none⟩]) (
  .block 0 (.loop [0, 1, 5] e73x0 b73x0))) (
  .seq (.reg false [⟨some 48, .mv (.t 1), none⟩,
    ⟨some 4, .mv (.t 48), none⟩]) (
  .ret))))⟩
theorem l73x0s (T : Table) (k n : Nat) (l3 : Rows) (n4 : Int) (n5 : Int) : l73x0 T k (n + 1) [(.o 5 l3), (.v (.int .i64 n4)), (.v (.int .i64 n5))] = (
 bif (decide (n5 < (l3.length : Int))) then (
 tst (decide (0 ≤ n5) && decide (Int.toNat n5 < l3.length)) (
 callT T 75 [(.d (.v (.int .i64 (IntKind.wrap .i64 (n4 + 1)))))] fun o6 =>
 oD o6.res fun d7 =>
 dS d7 fun s8 =>
 tst (decide (0 ≤ n5) && decide (Int.toNat n5 < (setD l3 (Int.toNat n5) 0 (.v (.int .i64 n4))).length)) (
 tst (decide (0 ≤ n5) && decide (Int.toNat n5 < (setD (setD l3 (Int.toNat n5) 0 (.v (.int .i64 n4))) (Int.toNat n5) 1 (.v (.string s8))).length)) (
 tst (decide (0 ≤ n5) && decide (Int.toNat n5 < (setD (setD (setD l3 (Int.toNat n5) 0 (.v (.int .i64 n4))) (Int.toNat n5) 1 (.v (.string s8))) (Int.toNat n5) 2 (.v (.int .i64 (IntKind.wrap .i64 ((IntKind.wrap .i64 (n4 + 1)) + 1))))).length)) (
 tst (decide (0 ≤ n5) && decide (Int.toNat n5 < (setD (setD (setD (setD l3 (Int.toNat n5) 0 (.v (.int .i64 n4))) (Int.toNat n5) 1 (.v (.string s8))) (Int.toNat n5) 2 (.v (.int .i64 (IntKind.wrap .i64 ((IntKind.wrap .i64 (n4 + 1)) + 1))))) (Int.toNat n5) 3 (.v (.int .i64 (IntKind.wrap .i64 ((IntKind.wrap .i64 ((IntKind.wrap .i64 (n4 + 1)) + 1)) + 1))))).length)) (
 l73x0 T k n [(.o 5 (setD (setD (setD (setD (setD l3 (Int.toNat n5) 0 (.v (.int .i64 n4))) (Int.toNat n5) 1 (.v (.string s8))) (Int.toNat n5) 2 (.v (.int .i64 (IntKind.wrap .i64 ((IntKind.wrap .i64 (n4 + 1)) + 1))))) (Int.toNat n5) 3 (.v (.int .i64 (IntKind.wrap .i64 ((IntKind.wrap .i64 ((IntKind.wrap .i64 (n4 + 1)) + 1)) + 1))))) (Int.toNat n5) 4 (.v (.int .i64 (IntKind.wrap .i64 ((IntKind.wrap .i64 ((IntKind.wrap .i64 ((IntKind.wrap .i64 (n4 + 1)) + 1)) + 1)) + 1)))))), (.v (.int .i64 (IntKind.wrap .i64 ((IntKind.wrap .i64 ((IntKind.wrap .i64 ((IntKind.wrap .i64 ((IntKind.wrap .i64 (n4 + 1)) + 1)) + 1)) + 1)) + 1)))), (.v (.int .i64 (IntKind.wrap .i64 (n5 + 1))))])))))) else (
 some ((.exit 0), [(.o 5 l3), (.v (.int .i64 n4))]))) := by kernel_rfl
theorem a73q (T : Table) (k : Nat) (l1 : Rows) (n2 : Int) : evalF T k a73 [(.d (.s 5 l1)), (.d (.v (.int .i64 n2)))] = (
 aft (l73x0 T k k [(.o 5 l1), (.v (.int .i64 n2)), (.v (.int .i64 0))]) fun e9 ys10 =>
 bif e9.same (.exit 0) then (
 aV ys10 0 fun x11 =>
 aO 5 x11 fun l12 =>
 aV ys10 1 fun x13 =>
 aI .i64 x13 fun n14 =>
 some ⟨(.d (.v (.int .i64 n14))), [(.d (.s 5 l12))]⟩) else (
 none)) := by kernel_rfl
/- loop.example/g00119/laws.markHub -/

def a29 : AFun := ⟨[.lent, .rd], false, [.t 4], (
  .seq (.reg false [⟨some 2, .box (.t 0), none⟩,
    ⟨some 4, .mv (.c (.v (.int .i64 0))), none⟩]) (
  .seq (.reg false [⟨some 5, .fad 3 (.t 2), none⟩,
    ⟨some 6, .load false [(.sl 13)] (.t 5), none⟩,
    ⟨some 7, .mv (.t 1), none⟩,
    ⟨some 8, .call (.f 71) [.lent, .rd] false [.c (.i .i64)] [(.t 6), (.t 7)], none⟩,
    ⟨some 1, .mv (.t 8), none⟩]) (
  .seq (.reg false [⟨some 9, .fad 4 (.t 2), none⟩,
    ⟨some 10, .load false [(.sl 6)] (.t 9), none⟩,
    ⟨some 11, .mv (.t 1), none⟩,
    ⟨some 12, .call (.f 72) [.lent, .rd] false [.c (.i .i64)] [(.t 10), (.t 11)], none⟩,
    ⟨some 1, .mv (.t 12), none⟩]) (
  .seq (.reg false [⟨some 13, .fad 5 (.t 2), none⟩,
    ⟨some 14, .load false [(.sl 5)] (.t 13), none⟩,
    ⟨some 15, .mv (.t 1), none⟩,
    ⟨some 16, .call (.f 73) [.lent, .rd] false [.c (.i .i64)] [(.t 14), (.t 15)], none⟩,
    ⟨some 1, .mv (.t 16), none⟩]) (
  .seq (.reg false [⟨some 17, .fad 6 (.t 2), none⟩,
    ⟨some 18, .load false [(.sl 1)] (.t 17), none⟩,
    ⟨some 19, .mv (.t 1), none⟩,
    ⟨some 20, .call (.f 74) [.lent, .rd] false [.c (.i .i64)] [(.t 18), (.t 19)], none⟩,
    ⟨some 1, .mv (.t 20), none⟩]) (
  .seq (.reg false [⟨some 21, .mv (.t 1), none⟩,
    ⟨some 4, .mv (.t 21), none⟩]) (
  .ret)))))))⟩

theorem a29q (T : Table) (k : Nat) (n1 : Int) (n2 : Int) (n3 : Int) (l4 : Rows) (l5 : Rows) (l6 : Rows) (l7 : Rows) (n8 : Int) : evalF T k a29 [(.g [(.v (.int .i64 n1)), (.v (.int .i64 n2)), (.v (.int .i64 n3)), (.s 13 l4), (.s 6 l5), (.s 5 l6), (.s 1 l7)]), (.d (.v (.int .i64 n8)))] = (
 callT T 71 [(.d (.s 13 l4)), (.d (.v (.int .i64 n8)))] fun o9 =>
 nth o9.back 0 fun i10 =>
 oD i10 fun d11 =>
 dL 13 d11 fun l12 =>
 oD o9.res fun d13 =>
 dI .i64 d13 fun n14 =>
 callT T 72 [(.d (.s 6 l5)), (.d (.v (.int .i64 n14)))] fun o15 =>
 nth o15.back 0 fun i16 =>
 oD i16 fun d17 =>
 dL 6 d17 fun l18 =>
 oD o15.res fun d19 =>
 dI .i64 d19 fun n20 =>
 callT T 73 [(.d (.s 5 l6)), (.d (.v (.int .i64 n20)))] fun o21 =>
 nth o21.back 0 fun i22 =>
 oD i22 fun d23 =>
 dL 5 d23 fun l24 =>
 oD o21.res fun d25 =>
 dI .i64 d25 fun n26 =>
 callT T 74 [(.d (.s 1 l7)), (.d (.v (.int .i64 n26)))] fun o27 =>
 nth o27.back 0 fun i28 =>
 oD i28 fun d29 =>
 dL 1 d29 fun l30 =>
 oD o27.res fun d31 =>
 dI .i64 d31 fun n32 =>
 some ⟨(.d (.v (.int .i64 n32))), [(.g [(.v (.int .i64 n1)), (.v (.int .i64 n2)), (.v (.int .i64 n3)), (.s 13 l12), (.s 6 l18), (.s 5 l24), (.s 1 l30)])]⟩) := by kernel_rfl
/- loop.example/g00119/laws.markPartS -/
def b30x0 : ACode := (
  .seq (.seq (.reg false [⟨some 6, .mv (.t 5), none⟩,
    ⟨some 7, .mv (.t 0), none⟩,
    ⟨some 8, .len false (.t 7), none⟩,
    ⟨some 9, .bin .lss (.t 6) (.t 8), none⟩]) (
  .cond (.t 9) (.skip) (.exit 0))) (
  .seq (.block 1 (.seq (.reg false [⟨some 12, .mv (.t 0), none⟩,
      ⟨some 13, .mv (.t 5), none⟩,
      ⟨some 14, .mv (.t 1), none⟩,
      ⟨some 15, .call (.f 75) [.rd] false [.c .s] [(.t 14)], none⟩,
      ⟨some 16, .iad 2 (.t 12) (.t 13), none⟩,
      ⟨some 17, .fad 0 (.t 16), none⟩,
      ⟨none, .store 1 (.t 17) (.t 15), none⟩]) (
    .seq (.reg false [⟨some 18, .mv (.t 1), none⟩,
      ⟨some 19, .bin .add (.t 18) (.c (.v (.int .i64 1))), none⟩,
      ⟨some 1, .mv (.t 19), none⟩]) (
    .seq (.reg false [⟨some 20, .mv (.t 0), none⟩,
      ⟨some 21, .mv (.t 5), none⟩,
      ⟨some 22, .mv (.t 1), none⟩,
      ⟨some 23, .iad 2 (.t 20) (.t 21), none⟩,
      ⟨some 24, .fad 1 (.t 23), none⟩,
      ⟨none, .store 1 (.t 24) (.t 22), none⟩]) (
    .reg false [⟨some 25, .mv (.t 1), none⟩,
      ⟨some 26, .bin .add (.t 25) (.c (.v (.int .i64 1))), none⟩,
      ⟨some 1, .mv (.t 26), none⟩]))))) (
  .reg false [⟨some 10, .mv (.t 5), none⟩,
    ⟨some 11, .bin .add (.t 10) (.c (.v (.int .i64 1))), none⟩,
    ⟨some 5, .mv (.t 11), none⟩])))
def e30x0 : Exits := [((.exit 0), [(0, .o 2), (1, .c (.i .i64))])]
noncomputable def l30x0 (T : Table) (k : Nat) := loopN (evalC ⟨T, [0]⟩ k b30x0 (Ex × List AV)) [0, 1, 5] e30x0
def a30 : AFun := ⟨[.lent, .rd], false, [.t 4], (
  .seq (.reg false [⟨some 4, .mv (.c (.v (.int .i64 0))), none⟩]) (
  .seq (.seq (.reg false [⟨some 5, .mv (.c (.v (.int .i64 0))), none⟩]) (
  .block 0 (.loop [0, 1, 5] e30x0 b30x0))) (
  .seq (.reg false [⟨some 27, .mv (.t 1), none⟩,
    ⟨some 4, .mv (.t 27), none⟩]) (
  .ret))))⟩
theorem l30x0s (T : Table) (k n : Nat) (l3 : Rows) (n4 : Int) (n5 : Int) : l30x0 T k (n + 1) [(.o 2 l3), (.v (.int .i64 n4)), (.v (.int .i64 n5))] = (
 bif (decide (n5 < (l3.length : Int))) then (
 callT T 75 [(.d (.v (.int .i64 n4)))] fun o6 =>
 oD o6.res fun d7 =>
 dS d7 fun s8 =>
 tst (decide (0 ≤ n5) && decide (Int.toNat n5 < l3.length)) (
 tst (decide (0 ≤ n5) && decide (Int.toNat n5 < (setD l3 (Int.toNat n5) 0 (.v (.string s8))).length)) (
 l30x0 T k n [(.o 2 (setD (setD l3 (Int.toNat n5) 0 (.v (.string s8))) (Int.toNat n5) 1 (.v (.int .i64 (IntKind.wrap .i64 (n4 + 1)))))), (.v (.int .i64 (IntKind.wrap .i64 ((IntKind.wrap .i64 (n4 + 1)) + 1)))), (.v (.int .i64 (IntKind.wrap .i64 (n5 + 1))))]))) else (
 some ((.exit 0), [(.o 2 l3), (.v (.int .i64 n4))]))) := by kernel_rfl
theorem a30q (T : Table) (k : Nat) (l1 : Rows) (n2 : Int) : evalF T k a30 [(.d (.s 2 l1)), (.d (.v (.int .i64 n2)))] = (
 aft (l30x0 T k k [(.o 2 l1), (.v (.int .i64 n2)), (.v (.int .i64 0))]) fun e9 ys10 =>
 bif e9.same (.exit 0) then (
 aV ys10 0 fun x11 =>
 aO 2 x11 fun l12 =>
 aV ys10 1 fun x13 =>
 aI .i64 x13 fun n14 =>
 some ⟨(.d (.v (.int .i64 n14))), [(.d (.s 2 l12))]⟩) else (
 none)) := by kernel_rfl
/- loop.example/g00119/laws.heldPartS -/
def b31x0 : ACode := (
  .seq (.seq (.reg false [⟨some 6, .mv (.t 5), none⟩,
    ⟨some 7, .mv (.t 0), none⟩,
    ⟨some 8, .len false (.t 7), none⟩,
    ⟨some 9, .bin .lss (.t 6) (.t 8), none⟩]) (
  .cond (.t 9) (.skip) (.exit 0))) (
  .seq (.block 1 (.seq (.seq (.dreg [] [(0, ⟨some 12, .mv (.t 0), none⟩),
      (0, ⟨some 13, .mv (.t 5), none⟩),
      (0, ⟨some 14, .iad 2 (.t 12) (.t 13), none⟩),
      (0, ⟨some 15, .fad 0 (.t 14), none⟩),
      (0, ⟨some 16, .load false [.s] (.t 15), none⟩),
      (0, ⟨some 17, .mv (.t 1), none⟩),
      (1, ⟨some 18, .call (.f 75) [.rd] false [.c .s] [(.t 17)], none⟩)] [⟨some 19, .bin .neq (.t 16) (.t 18), none⟩]) (
    .cond (.t 19) (.seq (.reg false [⟨some 4, .mv (.c (.v (.int .i64 (-1)))), none⟩]) (
      .ret)) (.skip))) (
    .seq (.reg false [⟨some 20, .mv (.t 1), none⟩,
      ⟨some 21, .bin .add (.t 20) (.c (.v (.int .i64 1))), none⟩,
      ⟨some 1, .mv (.t 21), none⟩]) (
    .seq (.seq (.reg false [⟨some 22, .mv (.t 0), none⟩,
      ⟨some 23, .mv (.t 5), none⟩,
      ⟨some 24, .iad 2 (.t 22) (.t 23), none⟩,
      ⟨some 25, .fad 1 (.t 24), none⟩,
      ⟨some 26, .load false [(.i .i64)] (.t 25), none⟩,
      ⟨some 27, .mv (.t 1), none⟩,
      ⟨some 28, .bin .neq (.t 26) (.t 27), none⟩]) (
    .cond (.t 28) (.seq (.reg false [⟨some 4, .mv (.c (.v (.int .i64 (-1)))), none⟩]) (
      .ret)) (.skip))) (
    .reg false [⟨some 29, .mv (.t 1), none⟩,
      ⟨some 30, .bin .add (.t 29) (.c (.v (.int .i64 1))), none⟩,
      ⟨some 1, .mv (.t 30), none⟩]))))) (
  .reg false [⟨some 10, .mv (.t 5), none⟩,
    ⟨some 11, .bin .add (.t 10) (.c (.v (.int .i64 1))), none⟩,
    ⟨some 5, .mv (.t 11), none⟩])))
def e31x0 : Exits := [(.ret, [(4, .c (.i .i64))]), ((.exit 0), [(1, .c (.i .i64))])]
noncomputable def l31x0 (T : Table) (k : Nat) := loopN (evalC ⟨T, []⟩ k b31x0 (Ex × List AV)) [0, 1, 5] e31x0
def a31 : AFun := ⟨[.rd, .rd], false, [.t 4], (
  .seq (.reg false [⟨some 4, .mv (.c (.v (.int .i64 0))), none⟩]) (
  .seq (.seq (.reg false [⟨some 5, .mv (.c (.v (.int .i64 0))), none⟩]) (
  .block 0 (.loop [0, 1, 5] e31x0 b31x0))) (
  .seq (.reg false [⟨some 31, .mv (.t 1), none⟩,
    ⟨some 4, .mv (.t 31), none⟩]) (
  .ret))))⟩
theorem l31x0s (T : Table) (k n : Nat) (l3 : Rows) (n4 : Int) (n5 : Int) : l31x0 T k (n + 1) [(.fz 2 l3), (.v (.int .i64 n4)), (.v (.int .i64 n5))] = (
 bif (decide (n5 < (l3.length : Int))) then (
 tst (decide (0 ≤ n5)) (
 look l3 (Int.toNat n5) fun r6 =>
 cS r6 0 fun s7 =>
 callT T 75 [(.d (.v (.int .i64 n4)))] fun o8 =>
 oD o8.res fun d9 =>
 dS d9 fun s10 =>
 bif (!(bytesEq s7 s10)) then (
 some (.ret, [(.v (.int .i64 (-1)))])) else (
 tst (decide (0 ≤ n5)) (
 look l3 (Int.toNat n5) fun r11 =>
 cI .i64 r11 1 fun n12 =>
 bif (n12 != (IntKind.wrap .i64 (n4 + 1))) then (
 some (.ret, [(.v (.int .i64 (-1)))])) else (
 l31x0 T k n [(.fz 2 l3), (.v (.int .i64 (IntKind.wrap .i64 ((IntKind.wrap .i64 (n4 + 1)) + 1)))), (.v (.int .i64 (IntKind.wrap .i64 (n5 + 1))))]))))) else (
 some ((.exit 0), [(.v (.int .i64 n4))]))) := by kernel_rfl
theorem a31q (T : Table) (k : Nat) (l1 : Rows) (n2 : Int) : evalF T k a31 [(.d (.s 2 l1)), (.d (.v (.int .i64 n2)))] = (
 aft (l31x0 T k k [(.fz 2 l1), (.v (.int .i64 n2)), (.v (.int .i64 0))]) fun e13 ys14 =>
 bif e13.same .ret then (
 aV ys14 0 fun x15 =>
 aI .i64 x15 fun n16 =>
 some ⟨(.d (.v (.int .i64 n16))), []⟩) else (
 bif e13.same (.exit 0) then (
 aV ys14 0 fun x17 =>
 aI .i64 x17 fun n18 =>
 some ⟨(.d (.v (.int .i64 n18))), []⟩) else (
 none))) := by kernel_rfl
/- loop.example/g00119/laws.FnExactSpread -/

def a6 : AFun := ⟨[.rd, .rd], false, [.t 4], (
  .seq (.reg false [⟨some 2, .box (.t 0), none⟩,
    ⟨some 4, .mv (.c (.v (.bool false))), none⟩]) (
  .seq (.reg false [⟨some 5, .mv (.c (.v (.int .i64 1048576))), none⟩]) (
  .seq (.reg false [⟨some 13, .load true [(.i .i64), (.i .i64), (.i .i64), (.sl 13), (.sl 6), (.sl 5), (.sl 1)] (.t 2), none⟩,
    ⟨some 14, .mv (.t 5), none⟩,
    ⟨some 15, .call (.f 18) [.rd, .rd] false [.c (.i .i64)] [(.t 13), (.t 14)], none⟩,
    ⟨some 5, .mv (.t 15), none⟩]) (
  .seq (.seq (.reg false [⟨some 16, .mv (.t 5), none⟩,
    ⟨some 17, .bin .lss (.t 16) (.c (.v (.int .i64 0))), none⟩]) (
  .cond (.t 17) (.seq (.reg false [⟨some 4, .mv (.c (.v (.bool true))), none⟩]) (
    .ret)) (.skip))) (
  .seq (.reg false [⟨some 18, .load true [(.i .i64), (.i .i64), (.i .i64), (.sl 13), (.sl 6), (.sl 5), (.sl 1)] (.t 2), none⟩,
    ⟨some 19, .call (.f 20) [.rd] false [.g [(.i .i64), (.i .i64), (.i .i64), (.sl 13), (.sl 6), (.sl 5), (.sl 1)]] [(.t 18)], none⟩,
    ⟨some 20, .mv (.t 1), none⟩,
    ⟨some 21, .call (.f 26) [.rd, .rd] false [.c (.sl 2)] [(.t 19), (.t 20)], none⟩,
    ⟨some 6, .mv (.t 21), none⟩]) (
  .seq (.reg false [⟨some 22, .load true [(.i .i64), (.i .i64), (.i .i64), (.sl 13), (.sl 6), (.sl 5), (.sl 1)] (.t 2), none⟩,
    ⟨some 23, .call (.f 20) [.rd] false [.g [(.i .i64), (.i .i64), (.i .i64), (.sl 13), (.sl 6), (.sl 5), (.sl 1)]] [(.t 22)], none⟩,
    ⟨some 7, .alloc [(.v (.int .i64 0)), (.v (.int .i64 0)), (.v (.int .i64 0)), (.s 13 []), (.s 6 []), (.s 5 []), (.s 1 [])], none⟩,
    ⟨none, .store 7 (.t 7) (.t 23), none⟩]) (
  .seq (.reg false [⟨some 24, .load true [(.i .i64), (.i .i64), (.i .i64), (.sl 13), (.sl 6), (.sl 5), (.sl 1)] (.t 7), none⟩,
    ⟨some 25, .mv (.t 1), none⟩,
    ⟨some 26, .call (.f 27) [.rd, .rd] false [.c (.sl 2)] [(.t 24), (.t 25)], none⟩,
    ⟨some 8, .mv (.t 26), none⟩]) (
  .seq (.seq (.reg false [⟨some 27, .mv (.t 8), none⟩,
    ⟨some 28, .mv (.t 6), none⟩,
    ⟨some 29, .call (.f 28) [.rd, .rd] false [.c .b] [(.t 27), (.t 28)], none⟩,
    ⟨some 30, .un .not (.t 29), none⟩]) (
  .cond (.t 30) (.seq (.reg false [⟨some 4, .mv (.c (.v (.bool false))), none⟩]) (
    .ret)) (.skip))) (
  .seq (.seq (.dreg [] [(0, ⟨some 31, .load true [(.i .i64), (.i .i64), (.i .i64), (.sl 13), (.sl 6), (.sl 5), (.sl 1)] (.t 7), none⟩),
    (0, ⟨some 32, .load true [(.i .i64), (.i .i64), (.i .i64), (.sl 13), (.sl 6), (.sl 5), (.sl 1)] (.t 2), none⟩),
    (1, ⟨some 33, .call (.f 20) [.rd] false [.g [(.i .i64), (.i .i64), (.i .i64), (.sl 13), (.sl 6), (.sl 5), (.sl 1)]] [(.t 32)], none⟩)] [⟨some 34, .call (.f 22) [.rd, .rd] false [.c .b] [(.t 31), (.t 33)], none⟩,
    ⟨some 35, .un .not (.t 34), none⟩]) (
  .cond (.t 35) (.seq (.reg false [⟨some 4, .mv (.c (.v (.bool false))), none⟩]) (
    .ret)) (.skip))) (
  .seq (.reg false [⟨some 9, .mv (.c (.v (.int .i64 1))), none⟩]) (
  .seq (.reg false [⟨some 36, .load true [(.i .i64), (.i .i64), (.i .i64), (.sl 13), (.sl 6), (.sl 5), (.sl 1)] (.t 7), none⟩,
    ⟨some 37, .mv (.t 9), none⟩,
    ⟨some 38, .call (.f 29) [.lent, .rd] false [.c (.i .i64)] [(.t 36), (.t 37)], none⟩,
    ⟨some 9, .mv (.t 38), none⟩]) (
  .seq (.seq (.reg false [⟨some 39, .mv (.t 9), none⟩,
    ⟨some 40, .bin .lss (.t 39) (.c (.v (.int .i64 0))), none⟩,
    ⟨some 41, .mv (.t 40), none⟩,
    ⟨some 42, .mv (.t 8), some (41, false)⟩,
    ⟨some 43, .mv (.t 6), some (41, false)⟩,
    ⟨some 44, .call (.f 28) [.rd, .rd] false [.c .b] [(.t 42), (.t 43)], some (41, false)⟩,
    ⟨some 45, .un .not (.t 44), some (41, false)⟩,
    ⟨some 46, .pick (.t 41) (.c (.v (.bool true))) (.t 45), none⟩]) (
  .cond (.t 46) (.seq (.reg false [⟨some 4, .mv (.c (.v (.bool false))), none⟩]) (
    .ret)) (.skip))) (
  .seq (.reg false [⟨some 10, .mv (.c (.v (.int .i64 1))), none⟩]) (
  .seq (.reg false [⟨some 47, .mv (.t 8), none⟩,
    ⟨some 48, .mv (.t 10), none⟩,
    ⟨some 49, .call (.f 30) [.lent, .rd] false [.c (.i .i64)] [(.t 47), (.t 48)], none⟩,
    ⟨some 10, .mv (.t 49), none⟩]) (
  .seq (.reg false [⟨some 11, .mv (.c (.v (.int .i64 1))), none⟩]) (
  .seq (.reg false [⟨some 50, .mv (.t 8), none⟩,
    ⟨some 51, .mv (.t 11), none⟩,
    ⟨some 52, .call (.f 31) [.rd, .rd] false [.c (.i .i64)] [(.t 50), (.t 51)], none⟩,
    ⟨some 11, .mv (.t 52), none⟩]) (
  .seq (.seq (.reg false [⟨some 53, .mv (.t 11), none⟩,
    ⟨some 54, .bin .lss (.t 53) (.c (.v (.int .i64 0))), none⟩]) (
  .cond (.t 54) (.seq (.reg false [⟨some 4, .mv (.c (.v (.bool false))), none⟩]) (
    .ret)) (.skip))) (
  .seq (.seq (.reg false [⟨some 55, .mv (.t 11), none⟩,
    ⟨some 56, .mv (.t 10), none⟩,
    ⟨some 57, .bin .neq (.t 55) (.t 56), none⟩]) (
  .cond (.t 57) (.seq (.reg false [⟨some 4, .mv (.c (.v (.bool false))), none⟩]) (
    .ret)) (.skip))) (
  .seq (.reg false [⟨some 58, .load true [(.i .i64), (.i .i64), (.i .i64), (.sl 13), (.sl 6), (.sl 5), (.sl 1)] (.t 2), none⟩,
    ⟨some 59, .call (.f 20) [.rd] false [.g [(.i .i64), (.i .i64), (.i .i64), (.sl 13), (.sl 6), (.sl 5), (.sl 1)]] [(.t 58)], none⟩,
    ⟨some 60, .mv (.t 1), none⟩,
    ⟨some 61, .call (.f 27) [.rd, .rd] false [.c (.sl 2)] [(.t 59), (.t 60)], none⟩,
    ⟨some 12, .mv (.t 61), none⟩]) (
  .seq (.seq (.reg false [⟨some 62, .mv (.t 12), none⟩,
    ⟨some 63, .mv (.t 6), none⟩,
    ⟨some 64, .call (.f 28) [.rd, .rd] false [.c .b] [(.t 62), (.t 63)], none⟩,
    ⟨some 65, .un .not (.t 64), none⟩]) (
  .cond (.t 65) (.seq (.reg false [⟨some 4, .mv (.c (.v (.bool false))), none⟩]) (
    .ret)) (.skip))) (
  .seq (.reg false [⟨some 11, .mv (.c (.v (.int .i64 1))), none⟩]) (
  .seq (.reg false [⟨some 66, .mv (.t 8), none⟩,
    ⟨some 67, .mv (.t 11), none⟩,
    ⟨some 68, .call (.f 31) [.rd, .rd] false [.c (.i .i64)] [(.t 66), (.t 67)], none⟩,
    ⟨some 11, .mv (.t 68), none⟩]) (
  .seq (.seq (.reg false [⟨some 69, .mv (.t 11), none⟩,
    ⟨some 70, .bin .lss (.t 69) (.c (.v (.int .i64 0))), none⟩]) (
  .cond (.t 70) (.seq (.reg false [⟨some 4, .mv (.c (.v (.bool false))), none⟩]) (
    .ret)) (.skip))) (
  .seq (.seq (.reg false [⟨some 71, .mv (.t 11), none⟩,
    ⟨some 72, .mv (.t 10), none⟩,
    ⟨some 73, .bin .neq (.t 71) (.t 72), none⟩]) (
  .cond (.t 73) (.seq (.reg false [⟨some 4, .mv (.c (.v (.bool false))), none⟩]) (
    .ret)) (.skip))) (
  .seq (.reg false [⟨some 4, .mv (.c (.v (.bool true))), none⟩]) (
  .ret))))))))))))))))))))))))))⟩

theorem a6q (T : Table) (k : Nat) (n1 : Int) (n2 : Int) (n3 : Int) (l4 : Rows) (l5 : Rows) (l6 : Rows) (l7 : Rows) (n8 : Int) : evalF T k a6 [(.g [(.v (.int .i64 n1)), (.v (.int .i64 n2)), (.v (.int .i64 n3)), (.s 13 l4), (.s 6 l5), (.s 5 l6), (.s 1 l7)]), (.d (.v (.int .i64 n8)))] = (
 callT T 18 [(.g [(.v (.int .i64 n1)), (.v (.int .i64 n2)), (.v (.int .i64 n3)), (.s 13 l4), (.s 6 l5), (.s 5 l6), (.s 1 l7)]), (.d (.v (.int .i64 1048576)))] fun o9 =>
 oD o9.res fun d10 =>
 dI .i64 d10 fun n11 =>
 bif (decide (n11 < 0)) then (
 some ⟨(.d (.v (.bool true))), []⟩) else (
 callT T 20 [(.g [(.v (.int .i64 n1)), (.v (.int .i64 n2)), (.v (.int .i64 n3)), (.s 13 l4), (.s 6 l5), (.s 5 l6), (.s 1 l7)])] fun o12 =>
 oG o12.res fun r13 =>
 tst (Nat.beq r13.length 7) (
 cI .i64 r13 0 fun n14 =>
 cI .i64 r13 1 fun n15 =>
 cI .i64 r13 2 fun n16 =>
 cL 13 r13 3 fun l17 =>
 cL 6 r13 4 fun l18 =>
 cL 5 r13 5 fun l19 =>
 cL 1 r13 6 fun l20 =>
 callT T 26 [(.g [(.v (.int .i64 n14)), (.v (.int .i64 n15)), (.v (.int .i64 n16)), (.s 13 l17), (.s 6 l18), (.s 5 l19), (.s 1 l20)]), (.d (.v (.int .i64 n8)))] fun o21 =>
 oD o21.res fun d22 =>
 dL 2 d22 fun l23 =>
 callT T 20 [(.g [(.v (.int .i64 n1)), (.v (.int .i64 n2)), (.v (.int .i64 n3)), (.s 13 l4), (.s 6 l5), (.s 5 l6), (.s 1 l7)])] fun o24 =>
 oG o24.res fun r25 =>
 tst (Nat.beq r25.length 7) (
 cI .i64 r25 0 fun n26 =>
 cI .i64 r25 1 fun n27 =>
 cI .i64 r25 2 fun n28 =>
 cL 13 r25 3 fun l29 =>
 cL 6 r25 4 fun l30 =>
 cL 5 r25 5 fun l31 =>
 cL 1 r25 6 fun l32 =>
 callT T 27 [(.g [(.v (.int .i64 n26)), (.v (.int .i64 n27)), (.v (.int .i64 n28)), (.s 13 l29), (.s 6 l30), (.s 5 l31), (.s 1 l32)]), (.d (.v (.int .i64 n8)))] fun o33 =>
 oD o33.res fun d34 =>
 dL 2 d34 fun l35 =>
 callT T 28 [(.d (.s 2 l35)), (.d (.s 2 l23))] fun o36 =>
 oD o36.res fun d37 =>
 dB d37 fun b38 =>
 bif (!b38) then (
 some ⟨(.d (.v (.bool false))), []⟩) else (
 callT T 20 [(.g [(.v (.int .i64 n1)), (.v (.int .i64 n2)), (.v (.int .i64 n3)), (.s 13 l4), (.s 6 l5), (.s 5 l6), (.s 1 l7)])] fun o39 =>
 oG o39.res fun r40 =>
 tst (Nat.beq r40.length 7) (
 cI .i64 r40 0 fun n41 =>
 cI .i64 r40 1 fun n42 =>
 cI .i64 r40 2 fun n43 =>
 cL 13 r40 3 fun l44 =>
 cL 6 r40 4 fun l45 =>
 cL 5 r40 5 fun l46 =>
 cL 1 r40 6 fun l47 =>
 callT T 22 [(.g [(.v (.int .i64 n26)), (.v (.int .i64 n27)), (.v (.int .i64 n28)), (.s 13 l29), (.s 6 l30), (.s 5 l31), (.s 1 l32)]), (.g [(.v (.int .i64 n41)), (.v (.int .i64 n42)), (.v (.int .i64 n43)), (.s 13 l44), (.s 6 l45), (.s 5 l46), (.s 1 l47)])] fun o48 =>
 oD o48.res fun d49 =>
 dB d49 fun b50 =>
 bif (!b50) then (
 some ⟨(.d (.v (.bool false))), []⟩) else (
 callT T 29 [(.g [(.v (.int .i64 n26)), (.v (.int .i64 n27)), (.v (.int .i64 n28)), (.s 13 l29), (.s 6 l30), (.s 5 l31), (.s 1 l32)]), (.d (.v (.int .i64 1)))] fun o51 =>
 nth o51.back 0 fun i52 =>
 oG i52 fun r53 =>
 cL 13 r53 3 fun l54 =>
 cL 6 r53 4 fun l55 =>
 cL 5 r53 5 fun l56 =>
 cL 1 r53 6 fun l57 =>
 oD o51.res fun d58 =>
 dI .i64 d58 fun n59 =>
 bif (decide (n59 < 0)) == false then (
 callT T 28 [(.d (.s 2 l35)), (.d (.s 2 l23))] fun o60 =>
 oD o60.res fun d61 =>
 dB d61 fun b62 =>
 bif (!b62) then (
 some ⟨(.d (.v (.bool false))), []⟩) else (
 callT T 30 [(.d (.s 2 l35)), (.d (.v (.int .i64 1)))] fun o63 =>
 nth o63.back 0 fun i64 =>
 oD i64 fun d65 =>
 dL 2 d65 fun l66 =>
 oD o63.res fun d67 =>
 dI .i64 d67 fun n68 =>
 callT T 31 [(.d (.s 2 l66)), (.d (.v (.int .i64 1)))] fun o69 =>
 oD o69.res fun d70 =>
 dI .i64 d70 fun n71 =>
 bif (decide (n71 < 0)) then (
 some ⟨(.d (.v (.bool false))), []⟩) else (
 bif (n71 != n68) then (
 some ⟨(.d (.v (.bool false))), []⟩) else (
 callT T 20 [(.g [(.v (.int .i64 n1)), (.v (.int .i64 n2)), (.v (.int .i64 n3)), (.s 13 l4), (.s 6 l5), (.s 5 l6), (.s 1 l7)])] fun o72 =>
 oG o72.res fun r73 =>
 tst (Nat.beq r73.length 7) (
 cI .i64 r73 0 fun n74 =>
 cI .i64 r73 1 fun n75 =>
 cI .i64 r73 2 fun n76 =>
 cL 13 r73 3 fun l77 =>
 cL 6 r73 4 fun l78 =>
 cL 5 r73 5 fun l79 =>
 cL 1 r73 6 fun l80 =>
 callT T 27 [(.g [(.v (.int .i64 n74)), (.v (.int .i64 n75)), (.v (.int .i64 n76)), (.s 13 l77), (.s 6 l78), (.s 5 l79), (.s 1 l80)]), (.d (.v (.int .i64 n8)))] fun o81 =>
 oD o81.res fun d82 =>
 dL 2 d82 fun l83 =>
 callT T 28 [(.d (.s 2 l83)), (.d (.s 2 l23))] fun o84 =>
 oD o84.res fun d85 =>
 dB d85 fun b86 =>
 bif (!b86) then (
 some ⟨(.d (.v (.bool false))), []⟩) else (
 callT T 31 [(.d (.s 2 l66)), (.d (.v (.int .i64 1)))] fun o87 =>
 oD o87.res fun d88 =>
 dI .i64 d88 fun n89 =>
 bif (decide (n89 < 0)) then (
 some ⟨(.d (.v (.bool false))), []⟩) else (
 bif (n89 != n68) then (
 some ⟨(.d (.v (.bool false))), []⟩) else (
 some ⟨(.d (.v (.bool true))), []⟩)))))))) else (
 some ⟨(.d (.v (.bool false))), []⟩)))))))) := by kernel_rfl

end Go.Am.Sp
