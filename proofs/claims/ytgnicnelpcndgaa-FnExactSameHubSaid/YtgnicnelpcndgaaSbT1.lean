/- What the functions come to, printed: equations by the kernel. Nothing is assumed. -/
import Derived.Test.YtgnicnelpcndgaaSbT0
namespace Go.Am.Sb
set_option linter.unusedVariables false
set_option linter.unusedSimpArgs false
set_option maxRecDepth 8000
/- slices.EqualFunc[[]loop.example/g00119/impl.Value,[]loop.example/g00119/impl.Value,loop.example/g00119/impl.Value,loop.example/g00119/impl.Value] -/
def b197x0 : ACode := (
  .seq (.reg false [⟨some 18, .bin .lss (.t 17) (.t 16), none⟩]) (
  .seq (.cond (.t 18) (.skip) (.exit 0)) (
  .seq (.block 1 (.seq (.reg false [⟨some 19, .mv (.t 17), none⟩,
      ⟨some 20, .iad 5 (.t 15) (.t 17), none⟩,
      ⟨some 21, .load true [(.i .i64), .s, (.i .i64), (.sl 1), (.sl 5)] (.t 20), none⟩,
      ⟨some 8, .alloc [(.v (.int .i64 0)), (.v (.string ByteArray.empty)), (.v (.int .i64 0)), (.s 1 []), (.s 5 [])], none⟩,
      ⟨some 7, .mv (.t 19), none⟩,
      ⟨none, .store 5 (.t 8) (.t 21), none⟩]) (
    .seq (.reg false [⟨some 22, .mv (.t 1), none⟩,
      ⟨some 23, .mv (.t 7), none⟩,
      ⟨some 24, .iad 5 (.t 22) (.t 23), none⟩,
      ⟨some 25, .load true [(.i .i64), .s, (.i .i64), (.sl 1), (.sl 5)] (.t 24), none⟩,
      ⟨some 9, .alloc [(.v (.int .i64 0)), (.v (.string ByteArray.empty)), (.v (.int .i64 0)), (.s 1 []), (.s 5 [])], none⟩,
      ⟨none, .store 5 (.t 9) (.t 25), none⟩]) (
    .seq (.reg false [⟨some 26, .mv (.t 2), none⟩,
      ⟨some 27, .load true [(.i .i64), .s, (.i .i64), (.sl 1), (.sl 5)] (.t 8), none⟩,
      ⟨some 28, .load true [(.i .i64), .s, (.i .i64), (.sl 1), (.sl 5)] (.t 9), none⟩,
      ⟨some 29, .call (.t 26) [.rd, .rd] false [.c .b] [(.t 27), (.t 28)], none⟩,
      ⟨some 30, .un .not (.t 29), none⟩]) (
    .cond (.t 30) (.seq (.reg false [⟨some 6, .mv (.c (.v (.bool false))), none⟩]) (
      .ret)) (.skip)))))) (
  .reg false [⟨some 31, .bin .add (.t 17) (.c (.v (.int .i64 1))), none⟩,
    ⟨some 17, .mv (.t 31), none⟩]))))
def e197x0 : Exits := [(.ret, [(6, .c .b)]), ((.exit 0), [])]
def l197x0 (T : Table) (k : Nat) := loopN (evalC ⟨T, []⟩ k b197x0 (Ex × List AV)) [1, 2, 15, 16, 17] e197x0
def a197 : AFun := ⟨[.rd, .rd, .rd], false, [.t 6], (
  .seq (.reg false [⟨some 6, .mv (.c (.v (.bool false))), none⟩]) (
  .seq (.seq (.reg false [⟨some 10, .mv (.t 0), none⟩,
    ⟨some 11, .len false (.t 10), none⟩,
    ⟨some 12, .mv (.t 1), none⟩,
    ⟨some 13, .len false (.t 12), none⟩,
    ⟨some 14, .bin .neq (.t 11) (.t 13), none⟩]) (
  .cond (.t 14) (.seq (.reg false [⟨some 6, .mv (.c (.v (.bool false))), none⟩]) (
    .ret)) (.skip))) (
  .seq (.seq (.reg false [⟨some 15, .mv (.t 0), none⟩,
    ⟨some 16, .len false (.t 15), none⟩,
    ⟨some 17, .mv (.c (.v (.int .i64 0))), none⟩]) (
  .block 0 (.loop [1, 2, 15, 16, 17] e197x0 b197x0))) (
  .seq (.reg false [⟨some 6, .mv (.c (.v (.bool true))), none⟩]) (
  .ret)))))⟩
theorem l197x0s (T : Table) (k n : Nat) (l5 : Rows) (f6 : Nat) (cs7 : List I) (l8 : Rows) (n9 : Int) (n10 : Int) : l197x0 T k (n + 1) [(.fz 5 l5), (.ff f6 cs7), (.fz 5 l8), (.v (.int .i64 n9)), (.v (.int .i64 n10))] = (
 bif (decide (n10 < n9)) then (
 tst (decide (0 ≤ n10)) (
 look l8 (Int.toNat n10) fun r11 =>
 cI .i64 r11 0 fun n12 =>
 cS r11 1 fun s13 =>
 cI .i64 r11 2 fun n14 =>
 cL 1 r11 3 fun l15 =>
 cL 5 r11 4 fun l16 =>
 tst (decide (0 ≤ n10)) (
 look l5 (Int.toNat n10) fun r17 =>
 cI .i64 r17 0 fun n18 =>
 cS r17 1 fun s19 =>
 cI .i64 r17 2 fun n20 =>
 cL 1 r17 3 fun l21 =>
 cL 5 r17 4 fun l22 =>
 callT T f6 ([(.g [(.v (.int .i64 n12)), (.v (.string s13)), (.v (.int .i64 n14)), (.s 1 l15), (.s 5 l16)]), (.g [(.v (.int .i64 n18)), (.v (.string s19)), (.v (.int .i64 n20)), (.s 1 l21), (.s 5 l22)])] ++ cs7) fun o23 =>
 oD o23.res fun d24 =>
 dB d24 fun b25 =>
 bif (!b25) then (
 some (.ret, [(.v (.bool false))])) else (
 l197x0 T k n [(.fz 5 l5), (.ff f6 cs7), (.fz 5 l8), (.v (.int .i64 n9)), (.v (.int .i64 (IntKind.wrap .i64 (n10 + 1))))])))) else (
 some ((.exit 0), []))) := by kernel_rfl
theorem a197q (T : Table) (k : Nat) (l1 : Rows) (l2 : Rows) (f3 : Nat) (cs4 : List I) : evalF T k a197 [(.d (.s 5 l1)), (.d (.s 5 l2)), (.f f3 cs4)] = (
 bif ((l1.length : Int) != (l2.length : Int)) then (
 some ⟨(.d (.v (.bool false))), []⟩) else (
 aft (l197x0 T k k [(.fz 5 l2), (.ff f3 cs4), (.fz 5 l1), (.v (.int .i64 (l1.length : Int))), (.v (.int .i64 0))]) fun e26 ys27 =>
 bif e26.same .ret then (
 aV ys27 0 fun x28 =>
 aB x28 fun b29 =>
 some ⟨(.d (.v (.bool b29))), []⟩) else (
 bif e26.same (.exit 0) then (
 some ⟨(.d (.v (.bool true))), []⟩) else (
 none)))) := by kernel_rfl
/- loop.example/g00119/impl.SameValue -/

def a161 : AFun := ⟨[.rd, .rd], false, [.t 4], (
  .seq (.reg false [⟨some 2, .box (.t 0), none⟩,
    ⟨some 3, .box (.t 1), none⟩,
    ⟨some 4, .mv (.c (.v (.bool false))), none⟩]) (
  .seq (.reg false [⟨some 5, .fad 0 (.t 2), none⟩,
    ⟨some 6, .load false [(.i .i64)] (.t 5), none⟩,
    ⟨some 7, .fad 0 (.t 3), none⟩,
    ⟨some 8, .load false [(.i .i64)] (.t 7), none⟩,
    ⟨some 9, .bin .eql (.t 6) (.t 8), none⟩,
    ⟨some 10, .mv (.t 9), none⟩,
    ⟨some 11, .fad 1 (.t 2), some (10, true)⟩,
    ⟨some 12, .load false [.s] (.t 11), some (10, true)⟩,
    ⟨some 13, .fad 1 (.t 3), some (10, true)⟩,
    ⟨some 14, .load false [.s] (.t 13), some (10, true)⟩,
    ⟨some 15, .bin .eql (.t 12) (.t 14), some (10, true)⟩,
    ⟨some 16, .pick (.t 10) (.t 15) (.c (.v (.bool false))), none⟩,
    ⟨some 17, .mv (.t 16), none⟩,
    ⟨some 18, .fad 2 (.t 2), some (17, true)⟩,
    ⟨some 19, .load false [(.i .i64)] (.t 18), some (17, true)⟩,
    ⟨some 20, .fad 2 (.t 3), some (17, true)⟩,
    ⟨some 21, .load false [(.i .i64)] (.t 20), some (17, true)⟩,
    ⟨some 22, .bin .eql (.t 19) (.t 21), some (17, true)⟩,
    ⟨some 23, .pick (.t 17) (.t 22) (.c (.v (.bool false))), none⟩,
    ⟨some 24, .mv (.t 23), none⟩,
    ⟨some 25, .fad 3 (.t 2), some (24, true)⟩,
    ⟨some 26, .load false [(.sl 1)] (.t 25), some (24, true)⟩,
    ⟨some 27, .fad 3 (.t 3), some (24, true)⟩,
    ⟨some 28, .load false [(.sl 1)] (.t 27), some (24, true)⟩,
    ⟨some 29, .call (.f 96) [.rd, .rd] false [.c .b] [(.t 26), (.t 28)], some (24, true)⟩,
    ⟨some 30, .pick (.t 24) (.t 29) (.c (.v (.bool false))), none⟩,
    ⟨some 31, .mv (.t 30), none⟩,
    ⟨some 32, .fad 4 (.t 2), some (31, true)⟩,
    ⟨some 33, .load false [(.sl 5)] (.t 32), some (31, true)⟩,
    ⟨some 34, .fad 4 (.t 3), some (31, true)⟩,
    ⟨some 35, .load false [(.sl 5)] (.t 34), some (31, true)⟩,
    ⟨some 36, .call (.f 197) [.rd, .rd, .rd] false [.c .b] [(.t 33), (.t 35), (.f 161)], some (31, true)⟩,
    ⟨some 37, .pick (.t 31) (.t 36) (.c (.v (.bool false))), none⟩,
    ⟨some 4, .mv (.t 37), none⟩]) (
  .ret)))⟩

theorem a161q (T : Table) (k : Nat) (n1 : Int) (s2 : ByteArray) (n3 : Int) (l4 : Rows) (l5 : Rows) (n6 : Int) (s7 : ByteArray) (n8 : Int) (l9 : Rows) (l10 : Rows) : evalF T k a161 [(.g [(.v (.int .i64 n1)), (.v (.string s2)), (.v (.int .i64 n3)), (.s 1 l4), (.s 5 l5)]), (.g [(.v (.int .i64 n6)), (.v (.string s7)), (.v (.int .i64 n8)), (.s 1 l9), (.s 5 l10)])] = (
 bif (n1 == n6) == true then (
 bif (bytesEq s2 s7) == true then (
 bif (n3 == n8) == true then (
 callT T 96 [(.d (.s 1 l4)), (.d (.s 1 l9))] fun o11 =>
 oD o11.res fun d12 =>
 dB d12 fun b13 =>
 bif b13 == true then (
 callT T 197 [(.d (.s 5 l5)), (.d (.s 5 l10)), (.f 161 [])] fun o14 =>
 oD o14.res fun d15 =>
 dB d15 fun b16 =>
 some ⟨(.d (.v (.bool b16))), []⟩) else (
 some ⟨(.d (.v (.bool false))), []⟩)) else (
 some ⟨(.d (.v (.bool false))), []⟩)) else (
 some ⟨(.d (.v (.bool false))), []⟩)) else (
 some ⟨(.d (.v (.bool false))), []⟩)) := by kernel_rfl
/- slices.EqualFunc[[]loop.example/g00119/impl.Over,[]loop.example/g00119/impl.Over,loop.example/g00119/impl.Over,loop.example/g00119/impl.Over] -/
def b162x0 : ACode := (
  .seq (.reg false [⟨some 18, .bin .lss (.t 17) (.t 16), none⟩]) (
  .seq (.cond (.t 18) (.skip) (.exit 0)) (
  .seq (.block 1 (.seq (.reg false [⟨some 19, .mv (.t 17), none⟩,
      ⟨some 20, .iad 2 (.t 15) (.t 17), none⟩,
      ⟨some 21, .load true [.s, (.sl 7)] (.t 20), none⟩,
      ⟨some 8, .alloc [(.v (.string ByteArray.empty)), (.s 7 [])], none⟩,
      ⟨some 7, .mv (.t 19), none⟩,
      ⟨none, .store 2 (.t 8) (.t 21), none⟩]) (
    .seq (.reg false [⟨some 22, .mv (.t 1), none⟩,
      ⟨some 23, .mv (.t 7), none⟩,
      ⟨some 24, .iad 2 (.t 22) (.t 23), none⟩,
      ⟨some 25, .load true [.s, (.sl 7)] (.t 24), none⟩,
      ⟨some 9, .alloc [(.v (.string ByteArray.empty)), (.s 7 [])], none⟩,
      ⟨none, .store 2 (.t 9) (.t 25), none⟩]) (
    .seq (.reg false [⟨some 26, .mv (.t 2), none⟩,
      ⟨some 27, .load true [.s, (.sl 7)] (.t 8), none⟩,
      ⟨some 28, .load true [.s, (.sl 7)] (.t 9), none⟩,
      ⟨some 29, .call (.t 26) [.rd, .rd] false [.c .b] [(.t 27), (.t 28)], none⟩,
      ⟨some 30, .un .not (.t 29), none⟩]) (
    .cond (.t 30) (.seq (.reg false [⟨some 6, .mv (.c (.v (.bool false))), none⟩]) (
      .ret)) (.skip)))))) (
  .reg false [⟨some 31, .bin .add (.t 17) (.c (.v (.int .i64 1))), none⟩,
    ⟨some 17, .mv (.t 31), none⟩]))))
def e162x0 : Exits := [(.ret, [(6, .c .b)]), ((.exit 0), [])]
def l162x0 (T : Table) (k : Nat) := loopN (evalC ⟨T, []⟩ k b162x0 (Ex × List AV)) [1, 2, 15, 16, 17] e162x0
def a162 : AFun := ⟨[.rd, .rd, .rd], false, [.t 6], (
  .seq (.reg false [⟨some 6, .mv (.c (.v (.bool false))), none⟩]) (
  .seq (.seq (.reg false [⟨some 10, .mv (.t 0), none⟩,
    ⟨some 11, .len false (.t 10), none⟩,
    ⟨some 12, .mv (.t 1), none⟩,
    ⟨some 13, .len false (.t 12), none⟩,
    ⟨some 14, .bin .neq (.t 11) (.t 13), none⟩]) (
  .cond (.t 14) (.seq (.reg false [⟨some 6, .mv (.c (.v (.bool false))), none⟩]) (
    .ret)) (.skip))) (
  .seq (.seq (.reg false [⟨some 15, .mv (.t 0), none⟩,
    ⟨some 16, .len false (.t 15), none⟩,
    ⟨some 17, .mv (.c (.v (.int .i64 0))), none⟩]) (
  .block 0 (.loop [1, 2, 15, 16, 17] e162x0 b162x0))) (
  .seq (.reg false [⟨some 6, .mv (.c (.v (.bool true))), none⟩]) (
  .ret)))))⟩
theorem l162x0s (T : Table) (k n : Nat) (l5 : Rows) (f6 : Nat) (cs7 : List I) (l8 : Rows) (n9 : Int) (n10 : Int) : l162x0 T k (n + 1) [(.fz 2 l5), (.ff f6 cs7), (.fz 2 l8), (.v (.int .i64 n9)), (.v (.int .i64 n10))] = (
 bif (decide (n10 < n9)) then (
 tst (decide (0 ≤ n10)) (
 look l8 (Int.toNat n10) fun r11 =>
 cS r11 0 fun s12 =>
 cL 7 r11 1 fun l13 =>
 tst (decide (0 ≤ n10)) (
 look l5 (Int.toNat n10) fun r14 =>
 cS r14 0 fun s15 =>
 cL 7 r14 1 fun l16 =>
 callT T f6 ([(.g [(.v (.string s12)), (.s 7 l13)]), (.g [(.v (.string s15)), (.s 7 l16)])] ++ cs7) fun o17 =>
 oD o17.res fun d18 =>
 dB d18 fun b19 =>
 bif (!b19) then (
 some (.ret, [(.v (.bool false))])) else (
 l162x0 T k n [(.fz 2 l5), (.ff f6 cs7), (.fz 2 l8), (.v (.int .i64 n9)), (.v (.int .i64 (IntKind.wrap .i64 (n10 + 1))))])))) else (
 some ((.exit 0), []))) := by kernel_rfl
theorem a162q (T : Table) (k : Nat) (l1 : Rows) (l2 : Rows) (f3 : Nat) (cs4 : List I) : evalF T k a162 [(.d (.s 2 l1)), (.d (.s 2 l2)), (.f f3 cs4)] = (
 bif ((l1.length : Int) != (l2.length : Int)) then (
 some ⟨(.d (.v (.bool false))), []⟩) else (
 aft (l162x0 T k k [(.fz 2 l2), (.ff f3 cs4), (.fz 2 l1), (.v (.int .i64 (l1.length : Int))), (.v (.int .i64 0))]) fun e20 ys21 =>
 bif e20.same .ret then (
 aV ys21 0 fun x22 =>
 aB x22 fun b23 =>
 some ⟨(.d (.v (.bool b23))), []⟩) else (
 bif e20.same (.exit 0) then (
 some ⟨(.d (.v (.bool true))), []⟩) else (
 none)))) := by kernel_rfl
/- slices.EqualFunc[[]loop.example/g00119/impl.Op,[]loop.example/g00119/impl.Op,loop.example/g00119/impl.Op,loop.example/g00119/impl.Op] -/
def b198x0 : ACode := (
  .seq (.reg false [⟨some 18, .bin .lss (.t 17) (.t 16), none⟩]) (
  .seq (.cond (.t 18) (.skip) (.exit 0)) (
  .seq (.block 1 (.seq (.reg false [⟨some 19, .mv (.t 17), none⟩,
      ⟨some 20, .iad 7 (.t 15) (.t 17), none⟩,
      ⟨some 21, .load true [(.i .i64), (.sl 1), (.i .i64), .s, (.i .i64), (.sl 1), (.sl 5)] (.t 20), none⟩,
      ⟨some 8, .alloc [(.v (.int .i64 0)), (.s 1 []), (.v (.int .i64 0)), (.v (.string ByteArray.empty)), (.v (.int .i64 0)), (.s 1 []), (.s 5 [])], none⟩,
      ⟨some 7, .mv (.t 19), none⟩,
      ⟨none, .store 7 (.t 8) (.t 21), none⟩]) (
    .seq (.reg false [⟨some 22, .mv (.t 1), none⟩,
      ⟨some 23, .mv (.t 7), none⟩,
      ⟨some 24, .iad 7 (.t 22) (.t 23), none⟩,
      ⟨some 25, .load true [(.i .i64), (.sl 1), (.i .i64), .s, (.i .i64), (.sl 1), (.sl 5)] (.t 24), none⟩,
      ⟨some 9, .alloc [(.v (.int .i64 0)), (.s 1 []), (.v (.int .i64 0)), (.v (.string ByteArray.empty)), (.v (.int .i64 0)), (.s 1 []), (.s 5 [])], none⟩,
      ⟨none, .store 7 (.t 9) (.t 25), none⟩]) (
    .seq (.reg false [⟨some 26, .mv (.t 2), none⟩,
      ⟨some 27, .load true [(.i .i64), (.sl 1), (.i .i64), .s, (.i .i64), (.sl 1), (.sl 5)] (.t 8), none⟩,
      ⟨some 28, .load true [(.i .i64), (.sl 1), (.i .i64), .s, (.i .i64), (.sl 1), (.sl 5)] (.t 9), none⟩,
      ⟨some 29, .call (.t 26) [.rd, .rd] false [.c .b] [(.t 27), (.t 28)], none⟩,
      ⟨some 30, .un .not (.t 29), none⟩]) (
    .cond (.t 30) (.seq (.reg false [⟨some 6, .mv (.c (.v (.bool false))), none⟩]) (
      .ret)) (.skip)))))) (
  .reg false [⟨some 31, .bin .add (.t 17) (.c (.v (.int .i64 1))), none⟩,
    ⟨some 17, .mv (.t 31), none⟩]))))
def e198x0 : Exits := [(.ret, [(6, .c .b)]), ((.exit 0), [])]
def l198x0 (T : Table) (k : Nat) := loopN (evalC ⟨T, []⟩ k b198x0 (Ex × List AV)) [1, 2, 15, 16, 17] e198x0
def a198 : AFun := ⟨[.rd, .rd, .rd], false, [.t 6], (
  .seq (.reg false [⟨some 6, .mv (.c (.v (.bool false))), none⟩]) (
  .seq (.seq (.reg false [⟨some 10, .mv (.t 0), none⟩,
    ⟨some 11, .len false (.t 10), none⟩,
    ⟨some 12, .mv (.t 1), none⟩,
    ⟨some 13, .len false (.t 12), none⟩,
    ⟨some 14, .bin .neq (.t 11) (.t 13), none⟩]) (
  .cond (.t 14) (.seq (.reg false [⟨some 6, .mv (.c (.v (.bool false))), none⟩]) (
    .ret)) (.skip))) (
  .seq (.seq (.reg false [⟨some 15, .mv (.t 0), none⟩,
    ⟨some 16, .len false (.t 15), none⟩,
    ⟨some 17, .mv (.c (.v (.int .i64 0))), none⟩]) (
  .block 0 (.loop [1, 2, 15, 16, 17] e198x0 b198x0))) (
  .seq (.reg false [⟨some 6, .mv (.c (.v (.bool true))), none⟩]) (
  .ret)))))⟩
theorem l198x0s (T : Table) (k n : Nat) (l5 : Rows) (f6 : Nat) (cs7 : List I) (l8 : Rows) (n9 : Int) (n10 : Int) : l198x0 T k (n + 1) [(.fz 7 l5), (.ff f6 cs7), (.fz 7 l8), (.v (.int .i64 n9)), (.v (.int .i64 n10))] = (
 bif (decide (n10 < n9)) then (
 tst (decide (0 ≤ n10)) (
 look l8 (Int.toNat n10) fun r11 =>
 cI .i64 r11 0 fun n12 =>
 cL 1 r11 1 fun l13 =>
 cI .i64 r11 2 fun n14 =>
 cS r11 3 fun s15 =>
 cI .i64 r11 4 fun n16 =>
 cL 1 r11 5 fun l17 =>
 cL 5 r11 6 fun l18 =>
 tst (decide (0 ≤ n10)) (
 look l5 (Int.toNat n10) fun r19 =>
 cI .i64 r19 0 fun n20 =>
 cL 1 r19 1 fun l21 =>
 cI .i64 r19 2 fun n22 =>
 cS r19 3 fun s23 =>
 cI .i64 r19 4 fun n24 =>
 cL 1 r19 5 fun l25 =>
 cL 5 r19 6 fun l26 =>
 callT T f6 ([(.g [(.v (.int .i64 n12)), (.s 1 l13), (.v (.int .i64 n14)), (.v (.string s15)), (.v (.int .i64 n16)), (.s 1 l17), (.s 5 l18)]), (.g [(.v (.int .i64 n20)), (.s 1 l21), (.v (.int .i64 n22)), (.v (.string s23)), (.v (.int .i64 n24)), (.s 1 l25), (.s 5 l26)])] ++ cs7) fun o27 =>
 oD o27.res fun d28 =>
 dB d28 fun b29 =>
 bif (!b29) then (
 some (.ret, [(.v (.bool false))])) else (
 l198x0 T k n [(.fz 7 l5), (.ff f6 cs7), (.fz 7 l8), (.v (.int .i64 n9)), (.v (.int .i64 (IntKind.wrap .i64 (n10 + 1))))])))) else (
 some ((.exit 0), []))) := by kernel_rfl
theorem a198q (T : Table) (k : Nat) (l1 : Rows) (l2 : Rows) (f3 : Nat) (cs4 : List I) : evalF T k a198 [(.d (.s 7 l1)), (.d (.s 7 l2)), (.f f3 cs4)] = (
 bif ((l1.length : Int) != (l2.length : Int)) then (
 some ⟨(.d (.v (.bool false))), []⟩) else (
 aft (l198x0 T k k [(.fz 7 l2), (.ff f3 cs4), (.fz 7 l1), (.v (.int .i64 (l1.length : Int))), (.v (.int .i64 0))]) fun e30 ys31 =>
 bif e30.same .ret then (
 aV ys31 0 fun x32 =>
 aB x32 fun b33 =>
 some ⟨(.d (.v (.bool b33))), []⟩) else (
 bif e30.same (.exit 0) then (
 some ⟨(.d (.v (.bool true))), []⟩) else (
 none)))) := by kernel_rfl
/- loop.example/g00119/impl.sameOver$1 -/

def a199 : AFun := ⟨[.rd, .rd], false, [.t 4], (
  .seq (.reg false [⟨some 2, .box (.t 0), none⟩,
    ⟨some 3, .box (.t 1), none⟩,
    ⟨some 4, .mv (.c (.v (.bool false))), none⟩]) (
  .seq (.reg false [⟨some 5, .fad 0 (.t 2), none⟩,
    ⟨some 6, .load false [(.i .i64)] (.t 5), none⟩,
    ⟨some 7, .fad 0 (.t 3), none⟩,
    ⟨some 8, .load false [(.i .i64)] (.t 7), none⟩,
    ⟨some 9, .bin .eql (.t 6) (.t 8), none⟩,
    ⟨some 10, .mv (.t 9), none⟩,
    ⟨some 11, .fad 1 (.t 2), some (10, true)⟩,
    ⟨some 12, .load false [(.sl 1)] (.t 11), some (10, true)⟩,
    ⟨some 13, .fad 1 (.t 3), some (10, true)⟩,
    ⟨some 14, .load false [(.sl 1)] (.t 13), some (10, true)⟩,
    ⟨some 15, .call (.f 96) [.rd, .rd] false [.c .b] [(.t 12), (.t 14)], some (10, true)⟩,
    ⟨some 16, .pick (.t 10) (.t 15) (.c (.v (.bool false))), none⟩,
    ⟨some 17, .mv (.t 16), none⟩,
    ⟨some 18, .fad 2 (.t 2), some (17, true)⟩,
    ⟨some 19, .load true [(.i .i64), .s, (.i .i64), (.sl 1), (.sl 5)] (.t 18), some (17, true)⟩,
    ⟨some 20, .fad 2 (.t 3), some (17, true)⟩,
    ⟨some 21, .load true [(.i .i64), .s, (.i .i64), (.sl 1), (.sl 5)] (.t 20), some (17, true)⟩,
    ⟨some 22, .call (.f 161) [.rd, .rd] false [.c .b] [(.t 19), (.t 21)], some (17, true)⟩,
    ⟨some 23, .pick (.t 17) (.t 22) (.c (.v (.bool false))), none⟩,
    ⟨some 4, .mv (.t 23), none⟩]) (
  .ret)))⟩

theorem a199q (T : Table) (k : Nat) (n1 : Int) (l2 : Rows) (n3 : Int) (s4 : ByteArray) (n5 : Int) (l6 : Rows) (l7 : Rows) (n8 : Int) (l9 : Rows) (n10 : Int) (s11 : ByteArray) (n12 : Int) (l13 : Rows) (l14 : Rows) : evalF T k a199 [(.g [(.v (.int .i64 n1)), (.s 1 l2), (.v (.int .i64 n3)), (.v (.string s4)), (.v (.int .i64 n5)), (.s 1 l6), (.s 5 l7)]), (.g [(.v (.int .i64 n8)), (.s 1 l9), (.v (.int .i64 n10)), (.v (.string s11)), (.v (.int .i64 n12)), (.s 1 l13), (.s 5 l14)])] = (
 bif (n1 == n8) == true then (
 callT T 96 [(.d (.s 1 l2)), (.d (.s 1 l9))] fun o15 =>
 oD o15.res fun d16 =>
 dB d16 fun b17 =>
 bif b17 == true then (
 callT T 161 [(.g [(.v (.int .i64 n3)), (.v (.string s4)), (.v (.int .i64 n5)), (.s 1 l6), (.s 5 l7)]), (.g [(.v (.int .i64 n10)), (.v (.string s11)), (.v (.int .i64 n12)), (.s 1 l13), (.s 5 l14)])] fun o18 =>
 oD o18.res fun d19 =>
 dB d19 fun b20 =>
 some ⟨(.d (.v (.bool b20))), []⟩) else (
 some ⟨(.d (.v (.bool false))), []⟩)) else (
 some ⟨(.d (.v (.bool false))), []⟩)) := by kernel_rfl
/- loop.example/g00119/impl.sameOver -/

def a163 : AFun := ⟨[.rd, .rd], false, [.t 4], (
  .seq (.reg false [⟨some 2, .box (.t 0), none⟩,
    ⟨some 3, .box (.t 1), none⟩,
    ⟨some 4, .mv (.c (.v (.bool false))), none⟩]) (
  .seq (.reg false [⟨some 5, .fad 0 (.t 2), none⟩,
    ⟨some 6, .load false [.s] (.t 5), none⟩,
    ⟨some 7, .fad 0 (.t 3), none⟩,
    ⟨some 8, .load false [.s] (.t 7), none⟩,
    ⟨some 9, .bin .eql (.t 6) (.t 8), none⟩,
    ⟨some 10, .mv (.t 9), none⟩,
    ⟨some 11, .fad 1 (.t 2), some (10, true)⟩,
    ⟨some 12, .load false [(.sl 7)] (.t 11), some (10, true)⟩,
    ⟨some 13, .fad 1 (.t 3), some (10, true)⟩,
    ⟨some 14, .load false [(.sl 7)] (.t 13), some (10, true)⟩,
    ⟨some 15, .call (.f 198) [.rd, .rd, .rd] false [.c .b] [(.t 12), (.t 14), (.f 199)], some (10, true)⟩,
    ⟨some 16, .pick (.t 10) (.t 15) (.c (.v (.bool false))), none⟩,
    ⟨some 4, .mv (.t 16), none⟩]) (
  .ret)))⟩

theorem a163q (T : Table) (k : Nat) (s1 : ByteArray) (l2 : Rows) (s3 : ByteArray) (l4 : Rows) : evalF T k a163 [(.g [(.v (.string s1)), (.s 7 l2)]), (.g [(.v (.string s3)), (.s 7 l4)])] = (
 bif (bytesEq s1 s3) == true then (
 callT T 198 [(.d (.s 7 l2)), (.d (.s 7 l4)), (.f 199 [])] fun o5 =>
 oD o5.res fun d6 =>
 dB d6 fun b7 =>
 some ⟨(.d (.v (.bool b7))), []⟩) else (
 some ⟨(.d (.v (.bool false))), []⟩)) := by kernel_rfl
/- loop.example/g00119/impl.sameJob -/

def a92 : AFun := ⟨[.rd, .rd], false, [.t 4], (
  .seq (.reg false [⟨some 2, .box (.t 0), none⟩,
    ⟨some 3, .box (.t 1), none⟩,
    ⟨some 4, .mv (.c (.v (.bool false))), none⟩]) (
  .seq (.reg false [⟨some 5, .fad 0 (.t 2), none⟩,
    ⟨some 6, .load false [(.i .i64)] (.t 5), none⟩,
    ⟨some 7, .fad 0 (.t 3), none⟩,
    ⟨some 8, .load false [(.i .i64)] (.t 7), none⟩,
    ⟨some 9, .bin .eql (.t 6) (.t 8), none⟩,
    ⟨some 10, .mv (.t 9), none⟩,
    ⟨some 11, .fad 1 (.t 2), some (10, true)⟩,
    ⟨some 12, .load false [.s] (.t 11), some (10, true)⟩,
    ⟨some 13, .fad 1 (.t 3), some (10, true)⟩,
    ⟨some 14, .load false [.s] (.t 13), some (10, true)⟩,
    ⟨some 15, .bin .eql (.t 12) (.t 14), some (10, true)⟩,
    ⟨some 16, .pick (.t 10) (.t 15) (.c (.v (.bool false))), none⟩,
    ⟨some 17, .mv (.t 16), none⟩,
    ⟨some 18, .fad 12 (.t 2), some (17, true)⟩,
    ⟨some 19, .load false [.b] (.t 18), some (17, true)⟩,
    ⟨some 20, .fad 12 (.t 3), some (17, true)⟩,
    ⟨some 21, .load false [.b] (.t 20), some (17, true)⟩,
    ⟨some 22, .beq false (.t 19) (.t 21), some (17, true)⟩,
    ⟨some 23, .pick (.t 17) (.t 22) (.c (.v (.bool false))), none⟩,
    ⟨some 24, .mv (.t 23), none⟩,
    ⟨some 25, .fad 2 (.t 2), some (24, true)⟩,
    ⟨some 26, .load true [(.i .i64), (.sl 3), (.sl 1), (.sl 2)] (.t 25), some (24, true)⟩,
    ⟨some 27, .fad 2 (.t 3), some (24, true)⟩,
    ⟨some 28, .load true [(.i .i64), (.sl 3), (.sl 1), (.sl 2)] (.t 27), some (24, true)⟩,
    ⟨some 29, .call (.f 160) [.rd, .rd] false [.c .b] [(.t 26), (.t 28)], some (24, true)⟩,
    ⟨some 30, .pick (.t 24) (.t 29) (.c (.v (.bool false))), none⟩,
    ⟨some 31, .mv (.t 30), none⟩,
    ⟨some 32, .fad 6 (.t 2), some (31, true)⟩,
    ⟨some 33, .load true [(.i .i64), .s, (.i .i64), (.sl 1), (.sl 5)] (.t 32), some (31, true)⟩,
    ⟨some 34, .fad 6 (.t 3), some (31, true)⟩,
    ⟨some 35, .load true [(.i .i64), .s, (.i .i64), (.sl 1), (.sl 5)] (.t 34), some (31, true)⟩,
    ⟨some 36, .call (.f 161) [.rd, .rd] false [.c .b] [(.t 33), (.t 35)], some (31, true)⟩,
    ⟨some 37, .pick (.t 31) (.t 36) (.c (.v (.bool false))), none⟩,
    ⟨some 38, .mv (.t 37), none⟩,
    ⟨some 39, .fad 11 (.t 2), some (38, true)⟩,
    ⟨some 40, .load false [(.sl 2)] (.t 39), some (38, true)⟩,
    ⟨some 41, .fad 11 (.t 3), some (38, true)⟩,
    ⟨some 42, .load false [(.sl 2)] (.t 41), some (38, true)⟩,
    ⟨some 43, .call (.f 162) [.rd, .rd, .rd] false [.c .b] [(.t 40), (.t 42), (.f 163)], some (38, true)⟩,
    ⟨some 44, .pick (.t 38) (.t 43) (.c (.v (.bool false))), none⟩,
    ⟨some 4, .mv (.t 44), none⟩]) (
  .ret)))⟩

theorem a92q (T : Table) (k : Nat) (n1 : Int) (s2 : ByteArray) (n3 : Int) (l4 : Rows) (l5 : Rows) (l6 : Rows) (n7 : Int) (s8 : ByteArray) (n9 : Int) (l10 : Rows) (l11 : Rows) (l12 : Rows) (b13 : Bool) (n14 : Int) (s15 : ByteArray) (n16 : Int) (l17 : Rows) (l18 : Rows) (l19 : Rows) (n20 : Int) (s21 : ByteArray) (n22 : Int) (l23 : Rows) (l24 : Rows) (l25 : Rows) (b26 : Bool) : evalF T k a92 [(.g [(.v (.int .i64 n1)), (.v (.string s2)), (.v (.int .i64 n3)), (.s 3 l4), (.s 1 l5), (.s 2 l6), (.v (.int .i64 n7)), (.v (.string s8)), (.v (.int .i64 n9)), (.s 1 l10), (.s 5 l11), (.s 2 l12), (.v (.bool b13))]), (.g [(.v (.int .i64 n14)), (.v (.string s15)), (.v (.int .i64 n16)), (.s 3 l17), (.s 1 l18), (.s 2 l19), (.v (.int .i64 n20)), (.v (.string s21)), (.v (.int .i64 n22)), (.s 1 l23), (.s 5 l24), (.s 2 l25), (.v (.bool b26))])] = (
 bif (n1 == n14) == true then (
 bif (bytesEq s2 s15) == true then (
 bif (b13 == b26) == true then (
 callT T 160 [(.g [(.v (.int .i64 n3)), (.s 3 l4), (.s 1 l5), (.s 2 l6)]), (.g [(.v (.int .i64 n16)), (.s 3 l17), (.s 1 l18), (.s 2 l19)])] fun o27 =>
 oD o27.res fun d28 =>
 dB d28 fun b29 =>
 bif b29 == true then (
 callT T 161 [(.g [(.v (.int .i64 n7)), (.v (.string s8)), (.v (.int .i64 n9)), (.s 1 l10), (.s 5 l11)]), (.g [(.v (.int .i64 n20)), (.v (.string s21)), (.v (.int .i64 n22)), (.s 1 l23), (.s 5 l24)])] fun o30 =>
 oD o30.res fun d31 =>
 dB d31 fun b32 =>
 bif b32 == true then (
 callT T 162 [(.d (.s 2 l12)), (.d (.s 2 l25)), (.f 163 [])] fun o33 =>
 oD o33.res fun d34 =>
 dB d34 fun b35 =>
 some ⟨(.d (.v (.bool b35))), []⟩) else (
 some ⟨(.d (.v (.bool false))), []⟩)) else (
 some ⟨(.d (.v (.bool false))), []⟩)) else (
 some ⟨(.d (.v (.bool false))), []⟩)) else (
 some ⟨(.d (.v (.bool false))), []⟩)) else (
 some ⟨(.d (.v (.bool false))), []⟩)) := by kernel_rfl
/- slices.EqualFunc[[]loop.example/g00119/impl.Post,[]loop.example/g00119/impl.Post,loop.example/g00119/impl.Post,loop.example/g00119/impl.Post] -/
def b93x0 : ACode := (
  .seq (.reg false [⟨some 18, .bin .lss (.t 17) (.t 16), none⟩]) (
  .seq (.cond (.t 18) (.skip) (.exit 0)) (
  .seq (.block 1 (.seq (.reg false [⟨some 19, .mv (.t 17), none⟩,
      ⟨some 20, .iad 6 (.t 15) (.t 17), none⟩,
      ⟨some 21, .load true [.s, (.sl 2), (.sl 1), (.i .i64), (.i .i64), (.i .i64)] (.t 20), none⟩,
      ⟨some 8, .alloc [(.v (.string ByteArray.empty)), (.s 2 []), (.s 1 []), (.v (.int .i64 0)), (.v (.int .i64 0)), (.v (.int .i64 0))], none⟩,
      ⟨some 7, .mv (.t 19), none⟩,
      ⟨none, .store 6 (.t 8) (.t 21), none⟩]) (
    .seq (.reg false [⟨some 22, .mv (.t 1), none⟩,
      ⟨some 23, .mv (.t 7), none⟩,
      ⟨some 24, .iad 6 (.t 22) (.t 23), none⟩,
      ⟨some 25, .load true [.s, (.sl 2), (.sl 1), (.i .i64), (.i .i64), (.i .i64)] (.t 24), none⟩,
      ⟨some 9, .alloc [(.v (.string ByteArray.empty)), (.s 2 []), (.s 1 []), (.v (.int .i64 0)), (.v (.int .i64 0)), (.v (.int .i64 0))], none⟩,
      ⟨none, .store 6 (.t 9) (.t 25), none⟩]) (
    .seq (.reg false [⟨some 26, .mv (.t 2), none⟩,
      ⟨some 27, .load true [.s, (.sl 2), (.sl 1), (.i .i64), (.i .i64), (.i .i64)] (.t 8), none⟩,
      ⟨some 28, .load true [.s, (.sl 2), (.sl 1), (.i .i64), (.i .i64), (.i .i64)] (.t 9), none⟩,
      ⟨some 29, .call (.t 26) [.rd, .rd] false [.c .b] [(.t 27), (.t 28)], none⟩,
      ⟨some 30, .un .not (.t 29), none⟩]) (
    .cond (.t 30) (.seq (.reg false [⟨some 6, .mv (.c (.v (.bool false))), none⟩]) (
      .ret)) (.skip)))))) (
  .reg false [⟨some 31, .bin .add (.t 17) (.c (.v (.int .i64 1))), none⟩,
    ⟨some 17, .mv (.t 31), none⟩]))))
def e93x0 : Exits := [(.ret, [(6, .c .b)]), ((.exit 0), [])]
def l93x0 (T : Table) (k : Nat) := loopN (evalC ⟨T, []⟩ k b93x0 (Ex × List AV)) [1, 2, 15, 16, 17] e93x0
def a93 : AFun := ⟨[.rd, .rd, .rd], false, [.t 6], (
  .seq (.reg false [⟨some 6, .mv (.c (.v (.bool false))), none⟩]) (
  .seq (.seq (.reg false [⟨some 10, .mv (.t 0), none⟩,
    ⟨some 11, .len false (.t 10), none⟩,
    ⟨some 12, .mv (.t 1), none⟩,
    ⟨some 13, .len false (.t 12), none⟩,
    ⟨some 14, .bin .neq (.t 11) (.t 13), none⟩]) (
  .cond (.t 14) (.seq (.reg false [⟨some 6, .mv (.c (.v (.bool false))), none⟩]) (
    .ret)) (.skip))) (
  .seq (.seq (.reg false [⟨some 15, .mv (.t 0), none⟩,
    ⟨some 16, .len false (.t 15), none⟩,
    ⟨some 17, .mv (.c (.v (.int .i64 0))), none⟩]) (
  .block 0 (.loop [1, 2, 15, 16, 17] e93x0 b93x0))) (
  .seq (.reg false [⟨some 6, .mv (.c (.v (.bool true))), none⟩]) (
  .ret)))))⟩
theorem l93x0s (T : Table) (k n : Nat) (l5 : Rows) (f6 : Nat) (cs7 : List I) (l8 : Rows) (n9 : Int) (n10 : Int) : l93x0 T k (n + 1) [(.fz 6 l5), (.ff f6 cs7), (.fz 6 l8), (.v (.int .i64 n9)), (.v (.int .i64 n10))] = (
 bif (decide (n10 < n9)) then (
 tst (decide (0 ≤ n10)) (
 look l8 (Int.toNat n10) fun r11 =>
 cS r11 0 fun s12 =>
 cL 2 r11 1 fun l13 =>
 cL 1 r11 2 fun l14 =>
 cI .i64 r11 3 fun n15 =>
 cI .i64 r11 4 fun n16 =>
 cI .i64 r11 5 fun n17 =>
 tst (decide (0 ≤ n10)) (
 look l5 (Int.toNat n10) fun r18 =>
 cS r18 0 fun s19 =>
 cL 2 r18 1 fun l20 =>
 cL 1 r18 2 fun l21 =>
 cI .i64 r18 3 fun n22 =>
 cI .i64 r18 4 fun n23 =>
 cI .i64 r18 5 fun n24 =>
 callT T f6 ([(.g [(.v (.string s12)), (.s 2 l13), (.s 1 l14), (.v (.int .i64 n15)), (.v (.int .i64 n16)), (.v (.int .i64 n17))]), (.g [(.v (.string s19)), (.s 2 l20), (.s 1 l21), (.v (.int .i64 n22)), (.v (.int .i64 n23)), (.v (.int .i64 n24))])] ++ cs7) fun o25 =>
 oD o25.res fun d26 =>
 dB d26 fun b27 =>
 bif (!b27) then (
 some (.ret, [(.v (.bool false))])) else (
 l93x0 T k n [(.fz 6 l5), (.ff f6 cs7), (.fz 6 l8), (.v (.int .i64 n9)), (.v (.int .i64 (IntKind.wrap .i64 (n10 + 1))))])))) else (
 some ((.exit 0), []))) := by kernel_rfl
theorem a93q (T : Table) (k : Nat) (l1 : Rows) (l2 : Rows) (f3 : Nat) (cs4 : List I) : evalF T k a93 [(.d (.s 6 l1)), (.d (.s 6 l2)), (.f f3 cs4)] = (
 bif ((l1.length : Int) != (l2.length : Int)) then (
 some ⟨(.d (.v (.bool false))), []⟩) else (
 aft (l93x0 T k k [(.fz 6 l2), (.ff f3 cs4), (.fz 6 l1), (.v (.int .i64 (l1.length : Int))), (.v (.int .i64 0))]) fun e28 ys29 =>
 bif e28.same .ret then (
 aV ys29 0 fun x30 =>
 aB x30 fun b31 =>
 some ⟨(.d (.v (.bool b31))), []⟩) else (
 bif e28.same (.exit 0) then (
 some ⟨(.d (.v (.bool true))), []⟩) else (
 none)))) := by kernel_rfl
/- slices.Equal[[]loop.example/g00119/impl.Label,loop.example/g00119/impl.Label] -/
def b164x0 : ACode := (
  .seq (.reg false [⟨some 14, .bin .lss (.t 13) (.t 12), none⟩]) (
  .seq (.cond (.t 14) (.skip) (.exit 0)) (
  .seq (.block 1 (.seq (.reg false [⟨some 15, .mv (.t 13), none⟩,
      ⟨some 5, .mv (.t 15), none⟩]) (
    .seq (.dreg [] [(0, ⟨some 16, .mv (.t 0), none⟩),
      (0, ⟨some 17, .mv (.t 5), none⟩),
      (0, ⟨some 18, .iad 2 (.t 16) (.t 17), none⟩),
      (0, ⟨some 19, .load true [.s, .s] (.t 18), none⟩),
      (0, ⟨some 20, .mv (.t 1), none⟩),
      (0, ⟨some 21, .mv (.t 5), none⟩),
      (0, ⟨some 22, .iad 2 (.t 20) (.t 21), none⟩),
      (0, ⟨some 23, .load true [.s, .s] (.t 22), none⟩)] [⟨some 24, .geq true [.s, .s] (.t 19) (.t 23), none⟩]) (
    .cond (.t 24) (.seq (.reg false [⟨some 4, .mv (.c (.v (.bool false))), none⟩]) (
      .ret)) (.skip))))) (
  .reg false [⟨some 25, .bin .add (.t 13) (.c (.v (.int .i64 1))), none⟩,
    ⟨some 13, .mv (.t 25), none⟩]))))
def e164x0 : Exits := [(.ret, [(4, .c .b)]), ((.exit 0), [])]
def l164x0 (T : Table) (k : Nat) := loopN (evalC ⟨T, []⟩ k b164x0 (Ex × List AV)) [0, 1, 12, 13] e164x0
def a164 : AFun := ⟨[.rd, .rd], false, [.t 4], (
  .seq (.reg false [⟨some 4, .mv (.c (.v (.bool false))), none⟩]) (
  .seq (.seq (.reg false [⟨some 6, .mv (.t 0), none⟩,
    ⟨some 7, .len false (.t 6), none⟩,
    ⟨some 8, .mv (.t 1), none⟩,
    ⟨some 9, .len false (.t 8), none⟩,
    ⟨some 10, .bin .neq (.t 7) (.t 9), none⟩]) (
  .cond (.t 10) (.seq (.reg false [⟨some 4, .mv (.c (.v (.bool false))), none⟩]) (
    .ret)) (.skip))) (
  .seq (.seq (.reg false [⟨some 11, .mv (.t 0), none⟩,
    ⟨some 12, .len false (.t 11), none⟩,
    ⟨some 13, .mv (.c (.v (.int .i64 0))), none⟩]) (
  .block 0 (.loop [0, 1, 12, 13] e164x0 b164x0))) (
  .seq (.reg false [⟨some 4, .mv (.c (.v (.bool true))), none⟩]) (
  .ret)))))⟩
theorem l164x0s (T : Table) (k n : Nat) (l3 : Rows) (l4 : Rows) (n5 : Int) (n6 : Int) : l164x0 T k (n + 1) [(.fz 2 l3), (.fz 2 l4), (.v (.int .i64 n5)), (.v (.int .i64 n6))] = (
 bif (decide (n6 < n5)) then (
 tst (decide (0 ≤ n6)) (
 look l3 (Int.toNat n6) fun r7 =>
 cS r7 0 fun s8 =>
 cS r7 1 fun s9 =>
 tst (decide (0 ≤ n6)) (
 look l4 (Int.toNat n6) fun r10 =>
 cS r10 0 fun s11 =>
 cS r10 1 fun s12 =>
 bif (!(bytesEq s8 s11 && (bytesEq s9 s12 && true))) then (
 some (.ret, [(.v (.bool false))])) else (
 l164x0 T k n [(.fz 2 l3), (.fz 2 l4), (.v (.int .i64 n5)), (.v (.int .i64 (IntKind.wrap .i64 (n6 + 1))))])))) else (
 some ((.exit 0), []))) := by kernel_rfl
theorem a164q (T : Table) (k : Nat) (l1 : Rows) (l2 : Rows) : evalF T k a164 [(.d (.s 2 l1)), (.d (.s 2 l2))] = (
 bif ((l1.length : Int) != (l2.length : Int)) then (
 some ⟨(.d (.v (.bool false))), []⟩) else (
 aft (l164x0 T k k [(.fz 2 l1), (.fz 2 l2), (.v (.int .i64 (l1.length : Int))), (.v (.int .i64 0))]) fun e13 ys14 =>
 bif e13.same .ret then (
 aV ys14 0 fun x15 =>
 aB x15 fun b16 =>
 some ⟨(.d (.v (.bool b16))), []⟩) else (
 bif e13.same (.exit 0) then (
 some ⟨(.d (.v (.bool true))), []⟩) else (
 none)))) := by kernel_rfl
/- loop.example/g00119/impl.samePost -/

def a94 : AFun := ⟨[.rd, .rd], false, [.t 4], (
  .seq (.reg false [⟨some 2, .box (.t 0), none⟩,
    ⟨some 3, .box (.t 1), none⟩,
    ⟨some 4, .mv (.c (.v (.bool false))), none⟩]) (
  .seq (.reg false [⟨some 5, .fad 4 (.t 2), none⟩,
    ⟨some 6, .load false [(.i .i64)] (.t 5), none⟩,
    ⟨some 7, .fad 4 (.t 3), none⟩,
    ⟨some 8, .load false [(.i .i64)] (.t 7), none⟩,
    ⟨some 9, .bin .eql (.t 6) (.t 8), none⟩,
    ⟨some 10, .mv (.t 9), none⟩,
    ⟨some 11, .fad 5 (.t 2), some (10, true)⟩,
    ⟨some 12, .load false [(.i .i64)] (.t 11), some (10, true)⟩,
    ⟨some 13, .fad 5 (.t 3), some (10, true)⟩,
    ⟨some 14, .load false [(.i .i64)] (.t 13), some (10, true)⟩,
    ⟨some 15, .bin .eql (.t 12) (.t 14), some (10, true)⟩,
    ⟨some 16, .pick (.t 10) (.t 15) (.c (.v (.bool false))), none⟩,
    ⟨some 17, .mv (.t 16), none⟩,
    ⟨some 18, .fad 0 (.t 2), some (17, true)⟩,
    ⟨some 19, .fad 0 (.t 18), some (17, true)⟩,
    ⟨some 20, .load false [.s] (.t 19), some (17, true)⟩,
    ⟨some 21, .fad 0 (.t 3), some (17, true)⟩,
    ⟨some 22, .fad 0 (.t 21), some (17, true)⟩,
    ⟨some 23, .load false [.s] (.t 22), some (17, true)⟩,
    ⟨some 24, .bin .eql (.t 20) (.t 23), some (17, true)⟩,
    ⟨some 25, .pick (.t 17) (.t 24) (.c (.v (.bool false))), none⟩,
    ⟨some 26, .mv (.t 25), none⟩,
    ⟨some 27, .fad 0 (.t 2), some (26, true)⟩,
    ⟨some 28, .fad 3 (.t 27), some (26, true)⟩,
    ⟨some 29, .load false [(.i .i64)] (.t 28), some (26, true)⟩,
    ⟨some 30, .fad 0 (.t 3), some (26, true)⟩,
    ⟨some 31, .fad 3 (.t 30), some (26, true)⟩,
    ⟨some 32, .load false [(.i .i64)] (.t 31), some (26, true)⟩,
    ⟨some 33, .bin .eql (.t 29) (.t 32), some (26, true)⟩,
    ⟨some 34, .pick (.t 26) (.t 33) (.c (.v (.bool false))), none⟩,
    ⟨some 35, .mv (.t 34), none⟩,
    ⟨some 36, .fad 0 (.t 2), some (35, true)⟩,
    ⟨some 37, .fad 1 (.t 36), some (35, true)⟩,
    ⟨some 38, .load false [(.sl 2)] (.t 37), some (35, true)⟩,
    ⟨some 39, .fad 0 (.t 3), some (35, true)⟩,
    ⟨some 40, .fad 1 (.t 39), some (35, true)⟩,
    ⟨some 41, .load false [(.sl 2)] (.t 40), some (35, true)⟩,
    ⟨some 42, .call (.f 164) [.rd, .rd] false [.c .b] [(.t 38), (.t 41)], some (35, true)⟩,
    ⟨some 43, .pick (.t 35) (.t 42) (.c (.v (.bool false))), none⟩,
    ⟨some 44, .mv (.t 43), none⟩,
    ⟨some 45, .fad 0 (.t 2), some (44, true)⟩,
    ⟨some 46, .fad 2 (.t 45), some (44, true)⟩,
    ⟨some 47, .load false [(.sl 1)] (.t 46), some (44, true)⟩,
    ⟨some 48, .fad 0 (.t 3), some (44, true)⟩,
    ⟨some 49, .fad 2 (.t 48), some (44, true)⟩,
    ⟨some 50, .load false [(.sl 1)] (.t 49), some (44, true)⟩,
    ⟨some 51, .call (.f 96) [.rd, .rd] false [.c .b] [(.t 47), (.t 50)], some (44, true)⟩,
    ⟨some 52, .pick (.t 44) (.t 51) (.c (.v (.bool false))), none⟩,
    ⟨some 4, .mv (.t 52), none⟩]) (
  .ret)))⟩

theorem a94q (T : Table) (k : Nat) (s1 : ByteArray) (l2 : Rows) (l3 : Rows) (n4 : Int) (n5 : Int) (n6 : Int) (s7 : ByteArray) (l8 : Rows) (l9 : Rows) (n10 : Int) (n11 : Int) (n12 : Int) : evalF T k a94 [(.g [(.v (.string s1)), (.s 2 l2), (.s 1 l3), (.v (.int .i64 n4)), (.v (.int .i64 n5)), (.v (.int .i64 n6))]), (.g [(.v (.string s7)), (.s 2 l8), (.s 1 l9), (.v (.int .i64 n10)), (.v (.int .i64 n11)), (.v (.int .i64 n12))])] = (
 bif (n5 == n11) == true then (
 bif (n6 == n12) == true then (
 bif (bytesEq s1 s7) == true then (
 bif (n4 == n10) == true then (
 callT T 164 [(.d (.s 2 l2)), (.d (.s 2 l8))] fun o13 =>
 oD o13.res fun d14 =>
 dB d14 fun b15 =>
 bif b15 == true then (
 callT T 96 [(.d (.s 1 l3)), (.d (.s 1 l9))] fun o16 =>
 oD o16.res fun d17 =>
 dB d17 fun b18 =>
 some ⟨(.d (.v (.bool b18))), []⟩) else (
 some ⟨(.d (.v (.bool false))), []⟩)) else (
 some ⟨(.d (.v (.bool false))), []⟩)) else (
 some ⟨(.d (.v (.bool false))), []⟩)) else (
 some ⟨(.d (.v (.bool false))), []⟩)) else (
 some ⟨(.d (.v (.bool false))), []⟩)) := by kernel_rfl
/- slices.Equal[[]loop.example/g00119/impl.Hold,loop.example/g00119/impl.Hold] -/
def b95x0 : ACode := (
  .seq (.reg false [⟨some 14, .bin .lss (.t 13) (.t 12), none⟩]) (
  .seq (.cond (.t 14) (.skip) (.exit 0)) (
  .seq (.block 1 (.seq (.reg false [⟨some 15, .mv (.t 13), none⟩,
      ⟨some 5, .mv (.t 15), none⟩]) (
    .seq (.dreg [] [(0, ⟨some 16, .mv (.t 0), none⟩),
      (0, ⟨some 17, .mv (.t 5), none⟩),
      (0, ⟨some 18, .iad 5 (.t 16) (.t 17), none⟩),
      (0, ⟨some 19, .load true [(.i .i64), .s, (.i .i64), (.i .i64), (.i .i64)] (.t 18), none⟩),
      (0, ⟨some 20, .mv (.t 1), none⟩),
      (0, ⟨some 21, .mv (.t 5), none⟩),
      (0, ⟨some 22, .iad 5 (.t 20) (.t 21), none⟩),
      (0, ⟨some 23, .load true [(.i .i64), .s, (.i .i64), (.i .i64), (.i .i64)] (.t 22), none⟩)] [⟨some 24, .geq true [(.i .i64), .s, (.i .i64), (.i .i64), (.i .i64)] (.t 19) (.t 23), none⟩]) (
    .cond (.t 24) (.seq (.reg false [⟨some 4, .mv (.c (.v (.bool false))), none⟩]) (
      .ret)) (.skip))))) (
  .reg false [⟨some 25, .bin .add (.t 13) (.c (.v (.int .i64 1))), none⟩,
    ⟨some 13, .mv (.t 25), none⟩]))))
def e95x0 : Exits := [(.ret, [(4, .c .b)]), ((.exit 0), [])]
def l95x0 (T : Table) (k : Nat) := loopN (evalC ⟨T, []⟩ k b95x0 (Ex × List AV)) [0, 1, 12, 13] e95x0
def a95 : AFun := ⟨[.rd, .rd], false, [.t 4], (
  .seq (.reg false [⟨some 4, .mv (.c (.v (.bool false))), none⟩]) (
  .seq (.seq (.reg false [⟨some 6, .mv (.t 0), none⟩,
    ⟨some 7, .len false (.t 6), none⟩,
    ⟨some 8, .mv (.t 1), none⟩,
    ⟨some 9, .len false (.t 8), none⟩,
    ⟨some 10, .bin .neq (.t 7) (.t 9), none⟩]) (
  .cond (.t 10) (.seq (.reg false [⟨some 4, .mv (.c (.v (.bool false))), none⟩]) (
    .ret)) (.skip))) (
  .seq (.seq (.reg false [⟨some 11, .mv (.t 0), none⟩,
    ⟨some 12, .len false (.t 11), none⟩,
    ⟨some 13, .mv (.c (.v (.int .i64 0))), none⟩]) (
  .block 0 (.loop [0, 1, 12, 13] e95x0 b95x0))) (
  .seq (.reg false [⟨some 4, .mv (.c (.v (.bool true))), none⟩]) (
  .ret)))))⟩
theorem l95x0s (T : Table) (k n : Nat) (l3 : Rows) (l4 : Rows) (n5 : Int) (n6 : Int) : l95x0 T k (n + 1) [(.fz 5 l3), (.fz 5 l4), (.v (.int .i64 n5)), (.v (.int .i64 n6))] = (
 bif (decide (n6 < n5)) then (
 tst (decide (0 ≤ n6)) (
 look l3 (Int.toNat n6) fun r7 =>
 cI .i64 r7 0 fun n8 =>
 cS r7 1 fun s9 =>
 cI .i64 r7 2 fun n10 =>
 cI .i64 r7 3 fun n11 =>
 cI .i64 r7 4 fun n12 =>
 tst (decide (0 ≤ n6)) (
 look l4 (Int.toNat n6) fun r13 =>
 cI .i64 r13 0 fun n14 =>
 cS r13 1 fun s15 =>
 cI .i64 r13 2 fun n16 =>
 cI .i64 r13 3 fun n17 =>
 cI .i64 r13 4 fun n18 =>
 bif (!(n8 == n14 && (bytesEq s9 s15 && (n10 == n16 && (n11 == n17 && (n12 == n18 && true)))))) then (
 some (.ret, [(.v (.bool false))])) else (
 l95x0 T k n [(.fz 5 l3), (.fz 5 l4), (.v (.int .i64 n5)), (.v (.int .i64 (IntKind.wrap .i64 (n6 + 1))))])))) else (
 some ((.exit 0), []))) := by kernel_rfl
theorem a95q (T : Table) (k : Nat) (l1 : Rows) (l2 : Rows) : evalF T k a95 [(.d (.s 5 l1)), (.d (.s 5 l2))] = (
 bif ((l1.length : Int) != (l2.length : Int)) then (
 some ⟨(.d (.v (.bool false))), []⟩) else (
 aft (l95x0 T k k [(.fz 5 l1), (.fz 5 l2), (.v (.int .i64 (l1.length : Int))), (.v (.int .i64 0))]) fun e19 ys20 =>
 bif e19.same .ret then (
 aV ys20 0 fun x21 =>
 aB x21 fun b22 =>
 some ⟨(.d (.v (.bool b22))), []⟩) else (
 bif e19.same (.exit 0) then (
 some ⟨(.d (.v (.bool true))), []⟩) else (
 none)))) := by kernel_rfl
/- loop.example/g00119/impl.SameHub -/

def a32 : AFun := ⟨[.rd, .rd], false, [.t 4], (
  .seq (.reg false [⟨some 2, .box (.t 0), none⟩,
    ⟨some 3, .box (.t 1), none⟩,
    ⟨some 4, .mv (.c (.v (.bool false))), none⟩]) (
  .seq (.reg false [⟨some 5, .fad 0 (.t 2), none⟩,
    ⟨some 6, .load false [(.i .i64)] (.t 5), none⟩,
    ⟨some 7, .fad 0 (.t 3), none⟩,
    ⟨some 8, .load false [(.i .i64)] (.t 7), none⟩,
    ⟨some 9, .bin .eql (.t 6) (.t 8), none⟩,
    ⟨some 10, .mv (.t 9), none⟩,
    ⟨some 11, .fad 1 (.t 2), some (10, true)⟩,
    ⟨some 12, .load false [(.i .i64)] (.t 11), some (10, true)⟩,
    ⟨some 13, .fad 1 (.t 3), some (10, true)⟩,
    ⟨some 14, .load false [(.i .i64)] (.t 13), some (10, true)⟩,
    ⟨some 15, .bin .eql (.t 12) (.t 14), some (10, true)⟩,
    ⟨some 16, .pick (.t 10) (.t 15) (.c (.v (.bool false))), none⟩,
    ⟨some 17, .mv (.t 16), none⟩,
    ⟨some 18, .fad 2 (.t 2), some (17, true)⟩,
    ⟨some 19, .load false [(.i .i64)] (.t 18), some (17, true)⟩,
    ⟨some 20, .fad 2 (.t 3), some (17, true)⟩,
    ⟨some 21, .load false [(.i .i64)] (.t 20), some (17, true)⟩,
    ⟨some 22, .bin .eql (.t 19) (.t 21), some (17, true)⟩,
    ⟨some 23, .pick (.t 17) (.t 22) (.c (.v (.bool false))), none⟩,
    ⟨some 24, .mv (.t 23), none⟩,
    ⟨some 25, .fad 3 (.t 2), some (24, true)⟩,
    ⟨some 26, .load false [(.sl 13)] (.t 25), some (24, true)⟩,
    ⟨some 27, .fad 3 (.t 3), some (24, true)⟩,
    ⟨some 28, .load false [(.sl 13)] (.t 27), some (24, true)⟩,
    ⟨some 29, .call (.f 91) [.rd, .rd, .rd] false [.c .b] [(.t 26), (.t 28), (.f 92)], some (24, true)⟩,
    ⟨some 30, .pick (.t 24) (.t 29) (.c (.v (.bool false))), none⟩,
    ⟨some 31, .mv (.t 30), none⟩,
    ⟨some 32, .fad 4 (.t 2), some (31, true)⟩,
    ⟨some 33, .load false [(.sl 6)] (.t 32), some (31, true)⟩,
    ⟨some 34, .fad 4 (.t 3), some (31, true)⟩,
    ⟨some 35, .load false [(.sl 6)] (.t 34), some (31, true)⟩,
    ⟨some 36, .call (.f 93) [.rd, .rd, .rd] false [.c .b] [(.t 33), (.t 35), (.f 94)], some (31, true)⟩,
    ⟨some 37, .pick (.t 31) (.t 36) (.c (.v (.bool false))), none⟩,
    ⟨some 38, .mv (.t 37), none⟩,
    ⟨some 39, .fad 5 (.t 2), some (38, true)⟩,
    ⟨some 40, .load false [(.sl 5)] (.t 39), some (38, true)⟩,
    ⟨some 41, .fad 5 (.t 3), some (38, true)⟩,
    ⟨some 42, .load false [(.sl 5)] (.t 41), some (38, true)⟩,
    ⟨some 43, .call (.f 95) [.rd, .rd] false [.c .b] [(.t 40), (.t 42)], some (38, true)⟩,
    ⟨some 44, .pick (.t 38) (.t 43) (.c (.v (.bool false))), none⟩,
    ⟨some 45, .mv (.t 44), none⟩,
    ⟨some 46, .fad 6 (.t 2), some (45, true)⟩,
    ⟨some 47, .load false [(.sl 1)] (.t 46), some (45, true)⟩,
    ⟨some 48, .fad 6 (.t 3), some (45, true)⟩,
    ⟨some 49, .load false [(.sl 1)] (.t 48), some (45, true)⟩,
    ⟨some 50, .call (.f 96) [.rd, .rd] false [.c .b] [(.t 47), (.t 49)], some (45, true)⟩,
    ⟨some 51, .pick (.t 45) (.t 50) (.c (.v (.bool false))), none⟩,
    ⟨some 4, .mv (.t 51), none⟩]) (
  .ret)))⟩

theorem a32q (T : Table) (k : Nat) (n1 : Int) (n2 : Int) (n3 : Int) (l4 : Rows) (l5 : Rows) (l6 : Rows) (l7 : Rows) (n8 : Int) (n9 : Int) (n10 : Int) (l11 : Rows) (l12 : Rows) (l13 : Rows) (l14 : Rows) : evalF T k a32 [(.g [(.v (.int .i64 n1)), (.v (.int .i64 n2)), (.v (.int .i64 n3)), (.s 13 l4), (.s 6 l5), (.s 5 l6), (.s 1 l7)]), (.g [(.v (.int .i64 n8)), (.v (.int .i64 n9)), (.v (.int .i64 n10)), (.s 13 l11), (.s 6 l12), (.s 5 l13), (.s 1 l14)])] = (
 bif (n1 == n8) == true then (
 bif (n2 == n9) == true then (
 bif (n3 == n10) == true then (
 callT T 91 [(.d (.s 13 l4)), (.d (.s 13 l11)), (.f 92 [])] fun o15 =>
 oD o15.res fun d16 =>
 dB d16 fun b17 =>
 bif b17 == true then (
 callT T 93 [(.d (.s 6 l5)), (.d (.s 6 l12)), (.f 94 [])] fun o18 =>
 oD o18.res fun d19 =>
 dB d19 fun b20 =>
 bif b20 == true then (
 callT T 95 [(.d (.s 5 l6)), (.d (.s 5 l13))] fun o21 =>
 oD o21.res fun d22 =>
 dB d22 fun b23 =>
 bif b23 == true then (
 callT T 96 [(.d (.s 1 l7)), (.d (.s 1 l14))] fun o24 =>
 oD o24.res fun d25 =>
 dB d25 fun b26 =>
 some ⟨(.d (.v (.bool b26))), []⟩) else (
 some ⟨(.d (.v (.bool false))), []⟩)) else (
 some ⟨(.d (.v (.bool false))), []⟩)) else (
 some ⟨(.d (.v (.bool false))), []⟩)) else (
 some ⟨(.d (.v (.bool false))), []⟩)) else (
 some ⟨(.d (.v (.bool false))), []⟩)) else (
 some ⟨(.d (.v (.bool false))), []⟩)) := by kernel_rfl
/- loop.example/g00119/laws.FnExactSameHub -/

def a7 : AFun := ⟨[.rd, .rd], false, [.t 4], (
  .seq (.reg false [⟨some 2, .box (.t 0), none⟩,
    ⟨some 3, .box (.t 1), none⟩,
    ⟨some 4, .mv (.c (.v (.bool false))), none⟩]) (
  .seq (.reg false [⟨some 5, .mv (.c (.v (.int .i64 1048576))), none⟩]) (
  .seq (.reg false [⟨some 10, .load true [(.i .i64), (.i .i64), (.i .i64), (.sl 13), (.sl 6), (.sl 5), (.sl 1)] (.t 2), none⟩,
    ⟨some 11, .mv (.t 5), none⟩,
    ⟨some 12, .call (.f 21) [.rd, .rd] false [.c (.i .i64)] [(.t 10), (.t 11)], none⟩,
    ⟨some 5, .mv (.t 12), none⟩]) (
  .seq (.seq (.reg false [⟨some 13, .mv (.t 5), none⟩,
    ⟨some 14, .bin .lss (.t 13) (.c (.v (.int .i64 0))), none⟩]) (
  .cond (.t 14) (.seq (.reg false [⟨some 4, .mv (.c (.v (.bool true))), none⟩]) (
    .ret)) (.skip))) (
  .seq (.reg false [⟨some 15, .load true [(.i .i64), (.i .i64), (.i .i64), (.sl 13), (.sl 6), (.sl 5), (.sl 1)] (.t 3), none⟩,
    ⟨some 16, .mv (.t 5), none⟩,
    ⟨some 17, .call (.f 21) [.rd, .rd] false [.c (.i .i64)] [(.t 15), (.t 16)], none⟩,
    ⟨some 5, .mv (.t 17), none⟩]) (
  .seq (.seq (.reg false [⟨some 18, .mv (.t 5), none⟩,
    ⟨some 19, .bin .lss (.t 18) (.c (.v (.int .i64 0))), none⟩]) (
  .cond (.t 19) (.seq (.reg false [⟨some 4, .mv (.c (.v (.bool true))), none⟩]) (
    .ret)) (.skip))) (
  .seq (.dreg [] [(0, ⟨some 20, .load true [(.i .i64), (.i .i64), (.i .i64), (.sl 13), (.sl 6), (.sl 5), (.sl 1)] (.t 2), none⟩),
    (1, ⟨some 21, .call (.f 23) [.rd] false [.g [(.i .i64), (.i .i64), (.i .i64), (.sl 13), (.sl 6), (.sl 5), (.sl 1)]] [(.t 20)], none⟩),
    (0, ⟨some 22, .load true [(.i .i64), (.i .i64), (.i .i64), (.sl 13), (.sl 6), (.sl 5), (.sl 1)] (.t 3), none⟩)] [⟨some 23, .call (.f 23) [.rd] false [.g [(.i .i64), (.i .i64), (.i .i64), (.sl 13), (.sl 6), (.sl 5), (.sl 1)]] [(.t 22)], none⟩,
    ⟨some 24, .call (.f 31) [.rd, .rd] false [.c .b] [(.t 21), (.t 23)], none⟩,
    ⟨some 6, .mv (.t 24), none⟩]) (
  .seq (.reg false [⟨some 25, .load true [(.i .i64), (.i .i64), (.i .i64), (.sl 13), (.sl 6), (.sl 5), (.sl 1)] (.t 2), none⟩,
    ⟨some 26, .call (.f 23) [.rd] false [.g [(.i .i64), (.i .i64), (.i .i64), (.sl 13), (.sl 6), (.sl 5), (.sl 1)]] [(.t 25)], none⟩,
    ⟨some 7, .alloc [(.v (.int .i64 0)), (.v (.int .i64 0)), (.v (.int .i64 0)), (.s 13 []), (.s 6 []), (.s 5 []), (.s 1 [])], none⟩,
    ⟨none, .store 7 (.t 7) (.t 26), none⟩]) (
  .seq (.reg false [⟨some 27, .load true [(.i .i64), (.i .i64), (.i .i64), (.sl 13), (.sl 6), (.sl 5), (.sl 1)] (.t 3), none⟩,
    ⟨some 28, .call (.f 23) [.rd] false [.g [(.i .i64), (.i .i64), (.i .i64), (.sl 13), (.sl 6), (.sl 5), (.sl 1)]] [(.t 27)], none⟩,
    ⟨some 8, .alloc [(.v (.int .i64 0)), (.v (.int .i64 0)), (.v (.int .i64 0)), (.s 13 []), (.s 6 []), (.s 5 []), (.s 1 [])], none⟩,
    ⟨none, .store 7 (.t 8) (.t 28), none⟩]) (
  .seq (.reg false [⟨some 29, .load true [(.i .i64), (.i .i64), (.i .i64), (.sl 13), (.sl 6), (.sl 5), (.sl 1)] (.t 7), none⟩,
    ⟨some 30, .load true [(.i .i64), (.i .i64), (.i .i64), (.sl 13), (.sl 6), (.sl 5), (.sl 1)] (.t 8), none⟩,
    ⟨some 31, .call (.f 32) [.rd, .rd] false [.c .b] [(.t 29), (.t 30)], none⟩,
    ⟨some 9, .mv (.t 31), none⟩]) (
  .seq (.seq (.reg false [⟨some 32, .mv (.t 9), none⟩,
    ⟨some 33, .mv (.t 6), none⟩,
    ⟨some 34, .beq true (.t 32) (.t 33), none⟩]) (
  .cond (.t 34) (.seq (.reg false [⟨some 4, .mv (.c (.v (.bool false))), none⟩]) (
    .ret)) (.skip))) (
  .seq (.seq (.dreg [] [(0, ⟨some 35, .load true [(.i .i64), (.i .i64), (.i .i64), (.sl 13), (.sl 6), (.sl 5), (.sl 1)] (.t 7), none⟩),
    (0, ⟨some 36, .load true [(.i .i64), (.i .i64), (.i .i64), (.sl 13), (.sl 6), (.sl 5), (.sl 1)] (.t 2), none⟩),
    (1, ⟨some 37, .call (.f 23) [.rd] false [.g [(.i .i64), (.i .i64), (.i .i64), (.sl 13), (.sl 6), (.sl 5), (.sl 1)]] [(.t 36)], none⟩)] [⟨some 38, .call (.f 25) [.rd, .rd] false [.c .b] [(.t 35), (.t 37)], none⟩,
    ⟨some 39, .un .not (.t 38), none⟩]) (
  .cond (.t 39) (.seq (.reg false [⟨some 4, .mv (.c (.v (.bool false))), none⟩]) (
    .ret)) (.skip))) (
  .seq (.seq (.dreg [] [(0, ⟨some 40, .load true [(.i .i64), (.i .i64), (.i .i64), (.sl 13), (.sl 6), (.sl 5), (.sl 1)] (.t 8), none⟩),
    (0, ⟨some 41, .load true [(.i .i64), (.i .i64), (.i .i64), (.sl 13), (.sl 6), (.sl 5), (.sl 1)] (.t 3), none⟩),
    (1, ⟨some 42, .call (.f 23) [.rd] false [.g [(.i .i64), (.i .i64), (.i .i64), (.sl 13), (.sl 6), (.sl 5), (.sl 1)]] [(.t 41)], none⟩)] [⟨some 43, .call (.f 25) [.rd, .rd] false [.c .b] [(.t 40), (.t 42)], none⟩,
    ⟨some 44, .un .not (.t 43), none⟩]) (
  .cond (.t 44) (.seq (.reg false [⟨some 4, .mv (.c (.v (.bool false))), none⟩]) (
    .ret)) (.skip))) (
  .seq (.reg false [⟨some 4, .mv (.c (.v (.bool true))), none⟩]) (
  .ret)))))))))))))))⟩

theorem a7q (T : Table) (k : Nat) (n1 : Int) (n2 : Int) (n3 : Int) (l4 : Rows) (l5 : Rows) (l6 : Rows) (l7 : Rows) (n8 : Int) (n9 : Int) (n10 : Int) (l11 : Rows) (l12 : Rows) (l13 : Rows) (l14 : Rows) : evalF T k a7 [(.g [(.v (.int .i64 n1)), (.v (.int .i64 n2)), (.v (.int .i64 n3)), (.s 13 l4), (.s 6 l5), (.s 5 l6), (.s 1 l7)]), (.g [(.v (.int .i64 n8)), (.v (.int .i64 n9)), (.v (.int .i64 n10)), (.s 13 l11), (.s 6 l12), (.s 5 l13), (.s 1 l14)])] = (
 callT T 21 [(.g [(.v (.int .i64 n1)), (.v (.int .i64 n2)), (.v (.int .i64 n3)), (.s 13 l4), (.s 6 l5), (.s 5 l6), (.s 1 l7)]), (.d (.v (.int .i64 1048576)))] fun o15 =>
 oD o15.res fun d16 =>
 dI .i64 d16 fun n17 =>
 bif (decide (n17 < 0)) then (
 some ⟨(.d (.v (.bool true))), []⟩) else (
 callT T 21 [(.g [(.v (.int .i64 n8)), (.v (.int .i64 n9)), (.v (.int .i64 n10)), (.s 13 l11), (.s 6 l12), (.s 5 l13), (.s 1 l14)]), (.d (.v (.int .i64 n17)))] fun o18 =>
 oD o18.res fun d19 =>
 dI .i64 d19 fun n20 =>
 bif (decide (n20 < 0)) then (
 some ⟨(.d (.v (.bool true))), []⟩) else (
 callT T 23 [(.g [(.v (.int .i64 n1)), (.v (.int .i64 n2)), (.v (.int .i64 n3)), (.s 13 l4), (.s 6 l5), (.s 5 l6), (.s 1 l7)])] fun o21 =>
 oG o21.res fun r22 =>
 tst (Nat.beq r22.length 7) (
 cI .i64 r22 0 fun n23 =>
 cI .i64 r22 1 fun n24 =>
 cI .i64 r22 2 fun n25 =>
 cL 13 r22 3 fun l26 =>
 cL 6 r22 4 fun l27 =>
 cL 5 r22 5 fun l28 =>
 cL 1 r22 6 fun l29 =>
 callT T 23 [(.g [(.v (.int .i64 n8)), (.v (.int .i64 n9)), (.v (.int .i64 n10)), (.s 13 l11), (.s 6 l12), (.s 5 l13), (.s 1 l14)])] fun o30 =>
 oG o30.res fun r31 =>
 tst (Nat.beq r31.length 7) (
 cI .i64 r31 0 fun n32 =>
 cI .i64 r31 1 fun n33 =>
 cI .i64 r31 2 fun n34 =>
 cL 13 r31 3 fun l35 =>
 cL 6 r31 4 fun l36 =>
 cL 5 r31 5 fun l37 =>
 cL 1 r31 6 fun l38 =>
 callT T 31 [(.g [(.v (.int .i64 n23)), (.v (.int .i64 n24)), (.v (.int .i64 n25)), (.s 13 l26), (.s 6 l27), (.s 5 l28), (.s 1 l29)]), (.g [(.v (.int .i64 n32)), (.v (.int .i64 n33)), (.v (.int .i64 n34)), (.s 13 l35), (.s 6 l36), (.s 5 l37), (.s 1 l38)])] fun o39 =>
 oD o39.res fun d40 =>
 dB d40 fun b41 =>
 callT T 23 [(.g [(.v (.int .i64 n1)), (.v (.int .i64 n2)), (.v (.int .i64 n3)), (.s 13 l4), (.s 6 l5), (.s 5 l6), (.s 1 l7)])] fun o42 =>
 oG o42.res fun r43 =>
 tst (Nat.beq r43.length 7) (
 cI .i64 r43 0 fun n44 =>
 cI .i64 r43 1 fun n45 =>
 cI .i64 r43 2 fun n46 =>
 cL 13 r43 3 fun l47 =>
 cL 6 r43 4 fun l48 =>
 cL 5 r43 5 fun l49 =>
 cL 1 r43 6 fun l50 =>
 callT T 23 [(.g [(.v (.int .i64 n8)), (.v (.int .i64 n9)), (.v (.int .i64 n10)), (.s 13 l11), (.s 6 l12), (.s 5 l13), (.s 1 l14)])] fun o51 =>
 oG o51.res fun r52 =>
 tst (Nat.beq r52.length 7) (
 cI .i64 r52 0 fun n53 =>
 cI .i64 r52 1 fun n54 =>
 cI .i64 r52 2 fun n55 =>
 cL 13 r52 3 fun l56 =>
 cL 6 r52 4 fun l57 =>
 cL 5 r52 5 fun l58 =>
 cL 1 r52 6 fun l59 =>
 callT T 32 [(.g [(.v (.int .i64 n44)), (.v (.int .i64 n45)), (.v (.int .i64 n46)), (.s 13 l47), (.s 6 l48), (.s 5 l49), (.s 1 l50)]), (.g [(.v (.int .i64 n53)), (.v (.int .i64 n54)), (.v (.int .i64 n55)), (.s 13 l56), (.s 6 l57), (.s 5 l58), (.s 1 l59)])] fun o60 =>
 oD o60.res fun d61 =>
 dB d61 fun b62 =>
 bif (b62 != b41) then (
 some ⟨(.d (.v (.bool false))), []⟩) else (
 callT T 23 [(.g [(.v (.int .i64 n1)), (.v (.int .i64 n2)), (.v (.int .i64 n3)), (.s 13 l4), (.s 6 l5), (.s 5 l6), (.s 1 l7)])] fun o63 =>
 oG o63.res fun r64 =>
 tst (Nat.beq r64.length 7) (
 cI .i64 r64 0 fun n65 =>
 cI .i64 r64 1 fun n66 =>
 cI .i64 r64 2 fun n67 =>
 cL 13 r64 3 fun l68 =>
 cL 6 r64 4 fun l69 =>
 cL 5 r64 5 fun l70 =>
 cL 1 r64 6 fun l71 =>
 callT T 25 [(.g [(.v (.int .i64 n44)), (.v (.int .i64 n45)), (.v (.int .i64 n46)), (.s 13 l47), (.s 6 l48), (.s 5 l49), (.s 1 l50)]), (.g [(.v (.int .i64 n65)), (.v (.int .i64 n66)), (.v (.int .i64 n67)), (.s 13 l68), (.s 6 l69), (.s 5 l70), (.s 1 l71)])] fun o72 =>
 oD o72.res fun d73 =>
 dB d73 fun b74 =>
 bif (!b74) then (
 some ⟨(.d (.v (.bool false))), []⟩) else (
 callT T 23 [(.g [(.v (.int .i64 n8)), (.v (.int .i64 n9)), (.v (.int .i64 n10)), (.s 13 l11), (.s 6 l12), (.s 5 l13), (.s 1 l14)])] fun o75 =>
 oG o75.res fun r76 =>
 tst (Nat.beq r76.length 7) (
 cI .i64 r76 0 fun n77 =>
 cI .i64 r76 1 fun n78 =>
 cI .i64 r76 2 fun n79 =>
 cL 13 r76 3 fun l80 =>
 cL 6 r76 4 fun l81 =>
 cL 5 r76 5 fun l82 =>
 cL 1 r76 6 fun l83 =>
 callT T 25 [(.g [(.v (.int .i64 n53)), (.v (.int .i64 n54)), (.v (.int .i64 n55)), (.s 13 l56), (.s 6 l57), (.s 5 l58), (.s 1 l59)]), (.g [(.v (.int .i64 n77)), (.v (.int .i64 n78)), (.v (.int .i64 n79)), (.s 13 l80), (.s 6 l81), (.s 5 l82), (.s 1 l83)])] fun o84 =>
 oD o84.res fun d85 =>
 dB d85 fun b86 =>
 bif (!b86) then (
 some ⟨(.d (.v (.bool false))), []⟩) else (
 some ⟨(.d (.v (.bool true))), []⟩)))))))))))) := by kernel_rfl

end Go.Am.Sb
