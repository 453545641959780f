/- What the functions come to, printed: equations by the kernel. Nothing is assumed. -/
import Derived.Test.YtapjklbchbgiaaaLaT0
namespace Go.Am.La
set_option linter.unusedVariables false
set_option linter.unusedSimpArgs false
set_option maxRecDepth 8000
/- loop.example/g00119/laws.FnExactLand -/

def a3 : AFun := ⟨[.rd, .rd], false, [.t 4], (
  .seq (.reg false [⟨some 2, .box (.t 0), none⟩,
    ⟨some 3, .box (.t 1), none⟩,
    ⟨some 4, .mv (.c (.v (.bool false))), none⟩]) (
  .seq (.reg false [⟨some 5, .mv (.c (.v (.int .i64 1048576))), none⟩]) (
  .seq (.reg false [⟨some 17, .load true [.s, (.i .i64), (.i .i64), (.sl 7), (.sl 2)] (.t 2), none⟩,
    ⟨some 18, .mv (.t 5), none⟩,
    ⟨some 19, .call (.f 7) [.rd, .rd] false [.c (.i .i64)] [(.t 17), (.t 18)], none⟩,
    ⟨some 5, .mv (.t 19), none⟩]) (
  .seq (.seq (.reg false [⟨some 20, .mv (.t 5), none⟩,
    ⟨some 21, .bin .lss (.t 20) (.c (.v (.int .i64 0))), none⟩]) (
  .cond (.t 21) (.seq (.reg false [⟨some 4, .mv (.c (.v (.bool true))), none⟩]) (
    .ret)) (.skip))) (
  .seq (.reg false [⟨some 22, .load true [(.i .i64), .s, (.i .i64), (.sl 7), (.sl 2)] (.t 3), none⟩,
    ⟨some 23, .mv (.t 5), none⟩,
    ⟨some 24, .call (.f 8) [.rd, .rd] false [.c (.i .i64)] [(.t 22), (.t 23)], none⟩,
    ⟨some 5, .mv (.t 24), none⟩]) (
  .seq (.seq (.reg false [⟨some 25, .mv (.t 5), none⟩,
    ⟨some 26, .bin .lss (.t 25) (.c (.v (.int .i64 0))), none⟩]) (
  .cond (.t 26) (.seq (.reg false [⟨some 4, .mv (.c (.v (.bool true))), none⟩]) (
    .ret)) (.skip))) (
  .seq (.dreg [] [(0, ⟨some 28, .load true [.s, (.i .i64), (.i .i64), (.sl 7), (.sl 2)] (.t 2), none⟩),
    (1, ⟨some 29, .call (.f 10) [.rd] false [.g [.s, (.i .i64), (.i .i64), (.sl 7), (.sl 2)]] [(.t 28)], none⟩),
    (0, ⟨some 30, .load true [(.i .i64), .s, (.i .i64), (.sl 7), (.sl 2)] (.t 3), none⟩),
    (1, ⟨some 31, .call (.f 11) [.rd] false [.g [(.i .i64), .s, (.i .i64), (.sl 7), (.sl 2)]] [(.t 30)], none⟩),
    (1, ⟨some 32, .call (.f 9) [.rd, .rd] false [.g [.s, (.i .i64), (.i .i64), (.sl 7), (.sl 2)], .c .b] [(.t 29), (.t 31)], none⟩),
    (0, ⟨some 27, .mv (.t 32), none⟩),
    (0, ⟨some 33, .ext (.t 27) 0, none⟩),
    (3, ⟨some 34, .ext (.t 27) 1, none⟩),
    (2, ⟨some 6, .alloc [(.v (.string ByteArray.empty)), (.v (.int .i64 0)), (.v (.int .i64 0)), (.s 7 []), (.s 2 [])], none⟩)] [⟨none, .store 5 (.t 6) (.t 33), none⟩,
    ⟨some 7, .mv (.t 34), none⟩]) (
  .seq (.reg false [⟨some 35, .load true [.s, (.i .i64), (.i .i64), (.sl 7), (.sl 2)] (.t 2), none⟩,
    ⟨some 36, .call (.f 10) [.rd] false [.g [.s, (.i .i64), (.i .i64), (.sl 7), (.sl 2)]] [(.t 35)], none⟩,
    ⟨some 8, .alloc [(.v (.string ByteArray.empty)), (.v (.int .i64 0)), (.v (.int .i64 0)), (.s 7 []), (.s 2 [])], none⟩,
    ⟨none, .store 5 (.t 8) (.t 36), none⟩]) (
  .seq (.reg false [⟨some 37, .load true [(.i .i64), .s, (.i .i64), (.sl 7), (.sl 2)] (.t 3), none⟩,
    ⟨some 38, .call (.f 11) [.rd] false [.g [(.i .i64), .s, (.i .i64), (.sl 7), (.sl 2)]] [(.t 37)], none⟩,
    ⟨some 9, .alloc [(.v (.int .i64 0)), (.v (.string ByteArray.empty)), (.v (.int .i64 0)), (.s 7 []), (.s 2 [])], none⟩,
    ⟨none, .store 5 (.t 9) (.t 38), none⟩]) (
  .seq (.reg false [⟨some 40, .load true [.s, (.i .i64), (.i .i64), (.sl 7), (.sl 2)] (.t 8), none⟩,
    ⟨some 41, .load true [(.i .i64), .s, (.i .i64), (.sl 7), (.sl 2)] (.t 9), none⟩,
    ⟨some 42, .call (.f 12) [.rd, .rd] false [.g [.s, (.i .i64), (.i .i64), (.sl 7), (.sl 2)], .c .b] [(.t 40), (.t 41)], none⟩,
    ⟨some 39, .mv (.t 42), none⟩,
    ⟨some 43, .ext (.t 39) 0, none⟩,
    ⟨some 44, .ext (.t 39) 1, none⟩,
    ⟨some 10, .alloc [(.v (.string ByteArray.empty)), (.v (.int .i64 0)), (.v (.int .i64 0)), (.s 7 []), (.s 2 [])], none⟩,
    ⟨none, .store 5 (.t 10) (.t 43), none⟩,
    ⟨some 11, .mv (.t 44), none⟩]) (
  .seq (.seq (.reg false [⟨some 45, .load true [.s, (.i .i64), (.i .i64), (.sl 7), (.sl 2)] (.t 10), none⟩,
    ⟨some 46, .load true [.s, (.i .i64), (.i .i64), (.sl 7), (.sl 2)] (.t 6), none⟩,
    ⟨some 47, .call (.f 13) [.rd, .rd] false [.c .b] [(.t 45), (.t 46)], none⟩,
    ⟨some 48, .un .not (.t 47), none⟩,
    ⟨some 49, .mv (.t 48), none⟩,
    ⟨some 50, .mv (.t 11), some (49, false)⟩,
    ⟨some 51, .mv (.t 7), some (49, false)⟩,
    ⟨some 52, .beq true (.t 50) (.t 51), some (49, false)⟩,
    ⟨some 53, .pick (.t 49) (.c (.v (.bool true))) (.t 52), none⟩]) (
  .cond (.t 53) (.seq (.reg false [⟨some 4, .mv (.c (.v (.bool false))), none⟩]) (
    .ret)) (.skip))) (
  .seq (.seq (.dreg [] [(0, ⟨some 54, .load true [.s, (.i .i64), (.i .i64), (.sl 7), (.sl 2)] (.t 8), none⟩),
    (0, ⟨some 55, .load true [.s, (.i .i64), (.i .i64), (.sl 7), (.sl 2)] (.t 2), none⟩),
    (1, ⟨some 56, .call (.f 10) [.rd] false [.g [.s, (.i .i64), (.i .i64), (.sl 7), (.sl 2)]] [(.t 55)], none⟩)] [⟨some 57, .call (.f 13) [.rd, .rd] false [.c .b] [(.t 54), (.t 56)], none⟩,
    ⟨some 58, .un .not (.t 57), none⟩]) (
  .cond (.t 58) (.seq (.reg false [⟨some 4, .mv (.c (.v (.bool false))), none⟩]) (
    .ret)) (.skip))) (
  .seq (.seq (.dreg [] [(0, ⟨some 59, .load true [(.i .i64), .s, (.i .i64), (.sl 7), (.sl 2)] (.t 9), none⟩),
    (0, ⟨some 60, .load true [(.i .i64), .s, (.i .i64), (.sl 7), (.sl 2)] (.t 3), none⟩),
    (1, ⟨some 61, .call (.f 11) [.rd] false [.g [(.i .i64), .s, (.i .i64), (.sl 7), (.sl 2)]] [(.t 60)], none⟩)] [⟨some 62, .call (.f 14) [.rd, .rd] false [.c .b] [(.t 59), (.t 61)], none⟩,
    ⟨some 63, .un .not (.t 62), none⟩]) (
  .cond (.t 63) (.seq (.reg false [⟨some 4, .mv (.c (.v (.bool false))), none⟩]) (
    .ret)) (.skip))) (
  .seq (.reg false [⟨some 12, .mv (.c (.v (.int .i64 1))), none⟩]) (
  .seq (.reg false [⟨some 64, .load true [.s, (.i .i64), (.i .i64), (.sl 7), (.sl 2)] (.t 8), none⟩,
    ⟨some 65, .mv (.t 12), none⟩,
    ⟨some 66, .call (.f 15) [.lent, .rd] false [.c (.i .i64)] [(.t 64), (.t 65)], none⟩,
    ⟨some 12, .mv (.t 66), none⟩]) (
  .seq (.reg false [⟨some 67, .load true [(.i .i64), .s, (.i .i64), (.sl 7), (.sl 2)] (.t 9), none⟩,
    ⟨some 68, .mv (.t 12), none⟩,
    ⟨some 69, .call (.f 16) [.lent, .rd] false [.c (.i .i64)] [(.t 67), (.t 68)], none⟩,
    ⟨some 12, .mv (.t 69), none⟩]) (
  .seq (.seq (.reg false [⟨some 70, .mv (.t 12), none⟩,
    ⟨some 71, .bin .lss (.t 70) (.c (.v (.int .i64 0))), none⟩,
    ⟨some 72, .mv (.t 71), none⟩,
    ⟨some 73, .load true [.s, (.i .i64), (.i .i64), (.sl 7), (.sl 2)] (.t 10), some (72, false)⟩,
    ⟨some 74, .load true [.s, (.i .i64), (.i .i64), (.sl 7), (.sl 2)] (.t 6), some (72, false)⟩,
    ⟨some 75, .call (.f 13) [.rd, .rd] false [.c .b] [(.t 73), (.t 74)], some (72, false)⟩,
    ⟨some 76, .un .not (.t 75), some (72, false)⟩,
    ⟨some 77, .pick (.t 72) (.c (.v (.bool true))) (.t 76), none⟩,
    ⟨some 78, .mv (.t 77), none⟩,
    ⟨some 79, .mv (.t 11), some (78, false)⟩,
    ⟨some 80, .mv (.t 7), some (78, false)⟩,
    ⟨some 81, .beq true (.t 79) (.t 80), some (78, false)⟩,
    ⟨some 82, .pick (.t 78) (.c (.v (.bool true))) (.t 81), none⟩]) (
  .cond (.t 82) (.seq (.reg false [⟨some 4, .mv (.c (.v (.bool false))), none⟩]) (
    .ret)) (.skip))) (
  .seq (.reg false [⟨some 13, .mv (.c (.v (.int .i64 1))), none⟩]) (
  .seq (.reg false [⟨some 83, .load true [.s, (.i .i64), (.i .i64), (.sl 7), (.sl 2)] (.t 10), none⟩,
    ⟨some 84, .mv (.t 13), none⟩,
    ⟨some 85, .call (.f 15) [.lent, .rd] false [.c (.i .i64)] [(.t 83), (.t 84)], none⟩,
    ⟨some 13, .mv (.t 85), none⟩]) (
  .seq (.reg false [⟨some 14, .mv (.c (.v (.int .i64 1))), none⟩]) (
  .seq (.reg false [⟨some 86, .load true [.s, (.i .i64), (.i .i64), (.sl 7), (.sl 2)] (.t 10), none⟩,
    ⟨some 87, .mv (.t 14), none⟩,
    ⟨some 88, .call (.f 17) [.rd, .rd] false [.c (.i .i64)] [(.t 86), (.t 87)], none⟩,
    ⟨some 14, .mv (.t 88), none⟩]) (
  .seq (.seq (.reg false [⟨some 89, .mv (.t 14), none⟩,
    ⟨some 90, .bin .lss (.t 89) (.c (.v (.int .i64 0))), none⟩]) (
  .cond (.t 90) (.seq (.reg false [⟨some 4, .mv (.c (.v (.bool false))), none⟩]) (
    .ret)) (.skip))) (
  .seq (.seq (.reg false [⟨some 91, .mv (.t 14), none⟩,
    ⟨some 92, .mv (.t 13), none⟩,
    ⟨some 93, .bin .neq (.t 91) (.t 92), none⟩]) (
  .cond (.t 93) (.seq (.reg false [⟨some 4, .mv (.c (.v (.bool false))), none⟩]) (
    .ret)) (.skip))) (
  .seq (.dreg [] [(0, ⟨some 95, .load true [.s, (.i .i64), (.i .i64), (.sl 7), (.sl 2)] (.t 2), none⟩),
    (1, ⟨some 96, .call (.f 10) [.rd] false [.g [.s, (.i .i64), (.i .i64), (.sl 7), (.sl 2)]] [(.t 95)], none⟩),
    (0, ⟨some 97, .load true [(.i .i64), .s, (.i .i64), (.sl 7), (.sl 2)] (.t 3), none⟩),
    (1, ⟨some 98, .call (.f 11) [.rd] false [.g [(.i .i64), .s, (.i .i64), (.sl 7), (.sl 2)]] [(.t 97)], none⟩),
    (1, ⟨some 99, .call (.f 12) [.rd, .rd] false [.g [.s, (.i .i64), (.i .i64), (.sl 7), (.sl 2)], .c .b] [(.t 96), (.t 98)], none⟩),
    (0, ⟨some 94, .mv (.t 99), none⟩),
    (0, ⟨some 100, .ext (.t 94) 0, none⟩),
    (3, ⟨some 101, .ext (.t 94) 1, none⟩),
    (2, ⟨some 15, .alloc [(.v (.string ByteArray.empty)), (.v (.int .i64 0)), (.v (.int .i64 0)), (.s 7 []), (.s 2 [])], none⟩)] [⟨none, .store 5 (.t 15) (.t 100), none⟩,
    ⟨some 16, .mv (.t 101), none⟩]) (
  .seq (.seq (.reg false [⟨some 102, .load true [.s, (.i .i64), (.i .i64), (.sl 7), (.sl 2)] (.t 15), none⟩,
    ⟨some 103, .load true [.s, (.i .i64), (.i .i64), (.sl 7), (.sl 2)] (.t 6), none⟩,
    ⟨some 104, .call (.f 13) [.rd, .rd] false [.c .b] [(.t 102), (.t 103)], none⟩,
    ⟨some 105, .un .not (.t 104), none⟩,
    ⟨some 106, .mv (.t 105), none⟩,
    ⟨some 107, .mv (.t 16), some (106, false)⟩,
    ⟨some 108, .mv (.t 7), some (106, false)⟩,
    ⟨some 109, .beq true (.t 107) (.t 108), some (106, false)⟩,
    ⟨some 110, .pick (.t 106) (.c (.v (.bool true))) (.t 109), none⟩]) (
  .cond (.t 110) (.seq (.reg false [⟨some 4, .mv (.c (.v (.bool false))), none⟩]) (
    .ret)) (.skip))) (
  .seq (.reg false [⟨some 14, .mv (.c (.v (.int .i64 1))), none⟩]) (
  .seq (.reg false [⟨some 111, .load true [.s, (.i .i64), (.i .i64), (.sl 7), (.sl 2)] (.t 10), none⟩,
    ⟨some 112, .mv (.t 14), none⟩,
    ⟨some 113, .call (.f 17) [.rd, .rd] false [.c (.i .i64)] [(.t 111), (.t 112)], none⟩,
    ⟨some 14, .mv (.t 113), none⟩]) (
  .seq (.seq (.reg false [⟨some 114, .mv (.t 14), none⟩,
    ⟨some 115, .bin .lss (.t 114) (.c (.v (.int .i64 0))), none⟩]) (
  .cond (.t 115) (.seq (.reg false [⟨some 4, .mv (.c (.v (.bool false))), none⟩]) (
    .ret)) (.skip))) (
  .seq (.seq (.reg false [⟨some 116, .mv (.t 14), none⟩,
    ⟨some 117, .mv (.t 13), none⟩,
    ⟨some 118, .bin .neq (.t 116) (.t 117), none⟩]) (
  .cond (.t 118) (.seq (.reg false [⟨some 4, .mv (.c (.v (.bool false))), none⟩]) (
    .ret)) (.skip))) (
  .seq (.reg false [⟨some 4, .mv (.c (.v (.bool true))), none⟩]) (
  .ret)))))))))))))))))))))))))))))))⟩

theorem a3q (T : Table) (k : Nat) (s1 : ByteArray) (n2 : Int) (n3 : Int) (l4 : Rows) (l5 : Rows) (n6 : Int) (s7 : ByteArray) (n8 : Int) (l9 : Rows) (l10 : Rows) : evalF T k a3 [(.g [(.v (.string s1)), (.v (.int .i64 n2)), (.v (.int .i64 n3)), (.s 7 l4), (.s 2 l5)]), (.g [(.v (.int .i64 n6)), (.v (.string s7)), (.v (.int .i64 n8)), (.s 7 l9), (.s 2 l10)])] = (
 callT T 7 [(.g [(.v (.string s1)), (.v (.int .i64 n2)), (.v (.int .i64 n3)), (.s 7 l4), (.s 2 l5)]), (.d (.v (.int .i64 1048576)))] fun o11 =>
 oD o11.res fun d12 =>
 dI .i64 d12 fun n13 =>
 bif (decide (n13 < 0)) then (
 some ⟨(.d (.v (.bool true))), []⟩) else (
 callT T 8 [(.g [(.v (.int .i64 n6)), (.v (.string s7)), (.v (.int .i64 n8)), (.s 7 l9), (.s 2 l10)]), (.d (.v (.int .i64 n13)))] fun o14 =>
 oD o14.res fun d15 =>
 dI .i64 d15 fun n16 =>
 bif (decide (n16 < 0)) then (
 some ⟨(.d (.v (.bool true))), []⟩) else (
 callT T 10 [(.g [(.v (.string s1)), (.v (.int .i64 n2)), (.v (.int .i64 n3)), (.s 7 l4), (.s 2 l5)])] fun o17 =>
 oG o17.res fun r18 =>
 tst (Nat.beq r18.length 5) (
 cS r18 0 fun s19 =>
 cI .i64 r18 1 fun n20 =>
 cI .i64 r18 2 fun n21 =>
 cL 7 r18 3 fun l22 =>
 cL 2 r18 4 fun l23 =>
 callT T 11 [(.g [(.v (.int .i64 n6)), (.v (.string s7)), (.v (.int .i64 n8)), (.s 7 l9), (.s 2 l10)])] fun o24 =>
 oG o24.res fun r25 =>
 tst (Nat.beq r25.length 5) (
 cI .i64 r25 0 fun n26 =>
 cS r25 1 fun s27 =>
 cI .i64 r25 2 fun n28 =>
 cL 7 r25 3 fun l29 =>
 cL 2 r25 4 fun l30 =>
 callT T 9 [(.g [(.v (.string s19)), (.v (.int .i64 n20)), (.v (.int .i64 n21)), (.s 7 l22), (.s 2 l23)]), (.g [(.v (.int .i64 n26)), (.v (.string s27)), (.v (.int .i64 n28)), (.s 7 l29), (.s 2 l30)])] fun o31 =>
 oT o31.res fun is32 =>
 tst (Nat.beq is32.length 2) (
 nth is32 0 fun i33 =>
 oG i33 fun r34 =>
 tst (Nat.beq r34.length 5) (
 cS r34 0 fun s35 =>
 cI .i64 r34 1 fun n36 =>
 cI .i64 r34 2 fun n37 =>
 cL 7 r34 3 fun l38 =>
 cL 2 r34 4 fun l39 =>
 nth is32 1 fun i40 =>
 oD i40 fun d41 =>
 dB d41 fun b42 =>
 callT T 10 [(.g [(.v (.string s1)), (.v (.int .i64 n2)), (.v (.int .i64 n3)), (.s 7 l4), (.s 2 l5)])] fun o43 =>
 oG o43.res fun r44 =>
 tst (Nat.beq r44.length 5) (
 cS r44 0 fun s45 =>
 cI .i64 r44 1 fun n46 =>
 cI .i64 r44 2 fun n47 =>
 cL 7 r44 3 fun l48 =>
 cL 2 r44 4 fun l49 =>
 callT T 11 [(.g [(.v (.int .i64 n6)), (.v (.string s7)), (.v (.int .i64 n8)), (.s 7 l9), (.s 2 l10)])] fun o50 =>
 oG o50.res fun r51 =>
 tst (Nat.beq r51.length 5) (
 cI .i64 r51 0 fun n52 =>
 cS r51 1 fun s53 =>
 cI .i64 r51 2 fun n54 =>
 cL 7 r51 3 fun l55 =>
 cL 2 r51 4 fun l56 =>
 callT T 12 [(.g [(.v (.string s45)), (.v (.int .i64 n46)), (.v (.int .i64 n47)), (.s 7 l48), (.s 2 l49)]), (.g [(.v (.int .i64 n52)), (.v (.string s53)), (.v (.int .i64 n54)), (.s 7 l55), (.s 2 l56)])] fun o57 =>
 oT o57.res fun is58 =>
 tst (Nat.beq is58.length 2) (
 nth is58 0 fun i59 =>
 oG i59 fun r60 =>
 tst (Nat.beq r60.length 5) (
 cS r60 0 fun s61 =>
 cI .i64 r60 1 fun n62 =>
 cI .i64 r60 2 fun n63 =>
 cL 7 r60 3 fun l64 =>
 cL 2 r60 4 fun l65 =>
 nth is58 1 fun i66 =>
 oD i66 fun d67 =>
 dB d67 fun b68 =>
 callT T 13 [(.g [(.v (.string s61)), (.v (.int .i64 n62)), (.v (.int .i64 n63)), (.s 7 l64), (.s 2 l65)]), (.g [(.v (.string s35)), (.v (.int .i64 n36)), (.v (.int .i64 n37)), (.s 7 l38), (.s 2 l39)])] fun o69 =>
 oD o69.res fun d70 =>
 dB d70 fun b71 =>
 bif (!b71) == false then (
 bif (b68 != b42) then (
 some ⟨(.d (.v (.bool false))), []⟩) else (
 callT T 10 [(.g [(.v (.string s1)), (.v (.int .i64 n2)), (.v (.int .i64 n3)), (.s 7 l4), (.s 2 l5)])] fun o72 =>
 oG o72.res fun r73 =>
 tst (Nat.beq r73.length 5) (
 cS r73 0 fun s74 =>
 cI .i64 r73 1 fun n75 =>
 cI .i64 r73 2 fun n76 =>
 cL 7 r73 3 fun l77 =>
 cL 2 r73 4 fun l78 =>
 callT T 13 [(.g [(.v (.string s45)), (.v (.int .i64 n46)), (.v (.int .i64 n47)), (.s 7 l48), (.s 2 l49)]), (.g [(.v (.string s74)), (.v (.int .i64 n75)), (.v (.int .i64 n76)), (.s 7 l77), (.s 2 l78)])] fun o79 =>
 oD o79.res fun d80 =>
 dB d80 fun b81 =>
 bif (!b81) then (
 some ⟨(.d (.v (.bool false))), []⟩) else (
 callT T 11 [(.g [(.v (.int .i64 n6)), (.v (.string s7)), (.v (.int .i64 n8)), (.s 7 l9), (.s 2 l10)])] fun o82 =>
 oG o82.res fun r83 =>
 tst (Nat.beq r83.length 5) (
 cI .i64 r83 0 fun n84 =>
 cS r83 1 fun s85 =>
 cI .i64 r83 2 fun n86 =>
 cL 7 r83 3 fun l87 =>
 cL 2 r83 4 fun l88 =>
 callT T 14 [(.g [(.v (.int .i64 n52)), (.v (.string s53)), (.v (.int .i64 n54)), (.s 7 l55), (.s 2 l56)]), (.g [(.v (.int .i64 n84)), (.v (.string s85)), (.v (.int .i64 n86)), (.s 7 l87), (.s 2 l88)])] fun o89 =>
 oD o89.res fun d90 =>
 dB d90 fun b91 =>
 bif (!b91) then (
 some ⟨(.d (.v (.bool false))), []⟩) else (
 callT T 15 [(.g [(.v (.string s45)), (.v (.int .i64 n46)), (.v (.int .i64 n47)), (.s 7 l48), (.s 2 l49)]), (.d (.v (.int .i64 1)))] fun o92 =>
 nth o92.back 0 fun i93 =>
 oG i93 fun r94 =>
 cL 7 r94 3 fun l95 =>
 cL 2 r94 4 fun l96 =>
 oD o92.res fun d97 =>
 dI .i64 d97 fun n98 =>
 callT T 16 [(.g [(.v (.int .i64 n52)), (.v (.string s53)), (.v (.int .i64 n54)), (.s 7 l55), (.s 2 l56)]), (.d (.v (.int .i64 n98)))] fun o99 =>
 nth o99.back 0 fun i100 =>
 oG i100 fun r101 =>
 cL 7 r101 3 fun l102 =>
 cL 2 r101 4 fun l103 =>
 oD o99.res fun d104 =>
 dI .i64 d104 fun n105 =>
 bif (decide (n105 < 0)) == false then (
 callT T 13 [(.g [(.v (.string s61)), (.v (.int .i64 n62)), (.v (.int .i64 n63)), (.s 7 l64), (.s 2 l65)]), (.g [(.v (.string s35)), (.v (.int .i64 n36)), (.v (.int .i64 n37)), (.s 7 l38), (.s 2 l39)])] fun o106 =>
 oD o106.res fun d107 =>
 dB d107 fun b108 =>
 bif (!b108) == false then (
 bif (b68 != b42) then (
 some ⟨(.d (.v (.bool false))), []⟩) else (
 callT T 15 [(.g [(.v (.string s61)), (.v (.int .i64 n62)), (.v (.int .i64 n63)), (.s 7 l64), (.s 2 l65)]), (.d (.v (.int .i64 1)))] fun o109 =>
 nth o109.back 0 fun i110 =>
 oG i110 fun r111 =>
 cL 7 r111 3 fun l112 =>
 cL 2 r111 4 fun l113 =>
 oD o109.res fun d114 =>
 dI .i64 d114 fun n115 =>
 callT T 17 [(.g [(.v (.string s61)), (.v (.int .i64 n62)), (.v (.int .i64 n63)), (.s 7 l112), (.s 2 l113)]), (.d (.v (.int .i64 1)))] fun o116 =>
 oD o116.res fun d117 =>
 dI .i64 d117 fun n118 =>
 bif (decide (n118 < 0)) then (
 some ⟨(.d (.v (.bool false))), []⟩) else (
 bif (n118 != n115) then (
 some ⟨(.d (.v (.bool false))), []⟩) else (
 callT T 10 [(.g [(.v (.string s1)), (.v (.int .i64 n2)), (.v (.int .i64 n3)), (.s 7 l4), (.s 2 l5)])] fun o119 =>
 oG o119.res fun r120 =>
 tst (Nat.beq r120.length 5) (
 cS r120 0 fun s121 =>
 cI .i64 r120 1 fun n122 =>
 cI .i64 r120 2 fun n123 =>
 cL 7 r120 3 fun l124 =>
 cL 2 r120 4 fun l125 =>
 callT T 11 [(.g [(.v (.int .i64 n6)), (.v (.string s7)), (.v (.int .i64 n8)), (.s 7 l9), (.s 2 l10)])] fun o126 =>
 oG o126.res fun r127 =>
 tst (Nat.beq r127.length 5) (
 cI .i64 r127 0 fun n128 =>
 cS r127 1 fun s129 =>
 cI .i64 r127 2 fun n130 =>
 cL 7 r127 3 fun l131 =>
 cL 2 r127 4 fun l132 =>
 callT T 12 [(.g [(.v (.string s121)), (.v (.int .i64 n122)), (.v (.int .i64 n123)), (.s 7 l124), (.s 2 l125)]), (.g [(.v (.int .i64 n128)), (.v (.string s129)), (.v (.int .i64 n130)), (.s 7 l131), (.s 2 l132)])] fun o133 =>
 oT o133.res fun is134 =>
 tst (Nat.beq is134.length 2) (
 nth is134 0 fun i135 =>
 oG i135 fun r136 =>
 tst (Nat.beq r136.length 5) (
 cS r136 0 fun s137 =>
 cI .i64 r136 1 fun n138 =>
 cI .i64 r136 2 fun n139 =>
 cL 7 r136 3 fun l140 =>
 cL 2 r136 4 fun l141 =>
 nth is134 1 fun i142 =>
 oD i142 fun d143 =>
 dB d143 fun b144 =>
 callT T 13 [(.g [(.v (.string s137)), (.v (.int .i64 n138)), (.v (.int .i64 n139)), (.s 7 l140), (.s 2 l141)]), (.g [(.v (.string s35)), (.v (.int .i64 n36)), (.v (.int .i64 n37)), (.s 7 l38), (.s 2 l39)])] fun o145 =>
 oD o145.res fun d146 =>
 dB d146 fun b147 =>
 bif (!b147) == false then (
 bif (b144 != b42) then (
 some ⟨(.d (.v (.bool false))), []⟩) else (
 callT T 17 [(.g [(.v (.string s61)), (.v (.int .i64 n62)), (.v (.int .i64 n63)), (.s 7 l112), (.s 2 l113)]), (.d (.v (.int .i64 1)))] fun o148 =>
 oD o148.res fun d149 =>
 dI .i64 d149 fun n150 =>
 bif (decide (n150 < 0)) then (
 some ⟨(.d (.v (.bool false))), []⟩) else (
 bif (n150 != n115) then (
 some ⟨(.d (.v (.bool false))), []⟩) else (
 some ⟨(.d (.v (.bool true))), []⟩)))) else (
 some ⟨(.d (.v (.bool false))), []⟩))))))))) else (
 some ⟨(.d (.v (.bool false))), []⟩)) else (
 some ⟨(.d (.v (.bool false))), []⟩))))))) else (
 some ⟨(.d (.v (.bool false))), []⟩)))))))))))) := by kernel_rfl

end Go.Am.La
