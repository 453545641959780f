/- What the functions come to, printed: equations by the kernel. Nothing is assumed. -/
import Derived.Test.YtmgeoejefnablaaGreatDoorFmT0
namespace Go.Am.Fm
variable {SK : Src}
set_option linter.unusedVariables false
set_option linter.unusedSimpArgs false
set_option maxRecDepth 8000
/- loop.example/g00119/impl.ParseValue -/
def a32 : AFun := ⟨[.rd], false, [.c 2 true [kI, .s, kI, .sl 1, .sl 5], .t 3], (
 .seq (.g [oQ 2 (.alloc [.v (.int .i64 0), .v (.string ByteArray.empty), .v (.int .i64 0), .s 1 [], .s 5 []]), oV 3 false]) (
 .seq (.g [oM 6 0, oQ 7 (.build [.v (.string ByteArray.empty), .v (.bool false)] [(0, 1, (.t 6)), (1, 1, (.b true))]), oQ 8 (.box (.t 7)), oM 4 8]) (
 .seq (.g [oM 9 4, oQ 10 (.call (.f 59) [.lent, .rd] false [.g [kI, .s, kI, .sl 1, .sl 5]] [.t 9, .i 6]), oQ 5 (.alloc [.v (.int .i64 0), .v (.string ByteArray.empty), .v (.int .i64 0), .s 1 [], .s 5 []]), oS (.store 5 (.t 5) (.t 10))]) (
 .seq (.seq (.g [oM 11 4, oQ 12 (.more (.nck (.t 11))), oF 13 1 12, oW 14 .b 13, oN 15 14, oM 16 15, oJ 17 16 false (.mv (.t 4)), oJ 18 16 false (.more (.nck (.t 17))), oJ 19 16 false (.fad 0 (.t 18)), oJ 20 16 false (.load false [.s] (.t 19)), oJ 21 16 false (.bin .neq (.t 20) (.c (.v (.string ({ data := #[] } : ByteArray))))), oQ 22 (.pick (.t 16) (.b true) (.t 21)), oM 23 22, oJ 24 23 false (.load true [kI, .s, kI, .sl 1, .sl 5] (.t 5)), oJ 25 23 false (.call (.f 51) [.rd] false [.c .b] [.t 24]), oJ 26 23 false (.un .not (.t 25)), oQ 27 (.pick (.t 23) (.b true) (.t 26)), oM 28 27, oJ 29 28 false (.load true [kI, .s, kI, .sl 1, .sl 5] (.t 5)), oJ 30 28 false (.call (.f 52) [.rd] false [.c .s] [.t 29]), oJ 31 28 false (.mv (.t 0)), oJ 32 28 false (.bin .neq (.t 30) (.t 31)), oQ 33 (.pick (.t 28) (.b true) (.t 32))]) (
 .cond (.t 33) (.seq (.g [oQ 34 (.build [.v (.int .i64 0), .v (.string ByteArray.empty), .v (.int .i64 0), .s 1 [], .s 5 []] []), oS (.store 5 (.t 2) (.t 34)), oV 3 false]) (
 .ret)) (.skip))) (
 .seq (.g [oL 35 [kI, .s, kI, .sl 1, .sl 5] 5, oS (.store 5 (.t 2) (.t 35)), oV 3 true]) (
 .ret))))))⟩
theorem a32q (T : Table) (k : Nat) (s1 : ByteArray): evalF T k a32 [.d (.v (.string s1))] = (
 callT T 59 [.p [.v (.string s1), .v (.bool true)], .d (.v (.int .i64 6))] fun o2 =>
 nth o2.back 0 fun i3 =>
 oP i3 fun r4 =>
 tst (Nat.beq r4.length 2) (
 cS r4 0 fun s5 =>
 cB r4 1 fun b6 =>
 oG o2.res fun r7 =>
 tst (Nat.beq r7.length 5) (
 cI .i64 r7 0 fun n8 =>
 cS r7 1 fun s9 =>
 cI .i64 r7 2 fun n10 =>
 cL 1 r7 3 fun l11 =>
 cL 5 r7 4 fun l12 =>
 bif (!b6) == false then (
 bif (!(bytesEq s5 ({ data := #[] } : ByteArray))) == false then (
 callT T 51 [.g [.v (.int .i64 n8), .v (.string s9), .v (.int .i64 n10), .s 1 l11, .s 5 l12]] fun o13 =>
 oD o13.res fun d14 =>
 dB d14 fun b15 =>
 bif (!b15) == false then (
 callT T 52 [.g [.v (.int .i64 n8), .v (.string s9), .v (.int .i64 n10), .s 1 l11, .s 5 l12]] fun o16 =>
 oD o16.res fun d17 =>
 dS d17 fun s18 =>
 bif (!(bytesEq s18 s1)) then (
 some ⟨.t [.g [.v (.int .i64 0), .v (.string ByteArray.empty), .v (.int .i64 0), .s 1 [], .s 5 []], .d (.v (.bool false))], []⟩) else (
 some ⟨.t [.g [.v (.int .i64 n8), .v (.string s9), .v (.int .i64 n10), .s 1 l11, .s 5 l12], .d (.v (.bool true))], []⟩)) else (
 some ⟨.t [.g [.v (.int .i64 0), .v (.string ByteArray.empty), .v (.int .i64 0), .s 1 [], .s 5 []], .d (.v (.bool false))], []⟩)) else (
 some ⟨.t [.g [.v (.int .i64 0), .v (.string ByteArray.empty), .v (.int .i64 0), .s 1 [], .s 5 []], .d (.v (.bool false))], []⟩)) else (
 some ⟨.t [.g [.v (.int .i64 0), .v (.string ByteArray.empty), .v (.int .i64 0), .s 1 [], .s 5 []], .d (.v (.bool false))], []⟩)))) := by kernel_rfl
/- loop.example/g00119/impl.ParseMsg -/
def b10x0 : ACode := (
 .seq (.g [oB 58 .lss 57 56]) (
 .seq (.cond (.t 58) (.skip) (.exit 0)) (
 .seq (.block 1 (.seq (.g [oQ 59 (.more (.iaw 1 (.t 55) (.t 57))), oW 60 .s 59, oM 13 60]) (
 .seq (.g [oM 62 13, oQ 63 (.call (.f 30) [.rd, .rd] false [.c .s, .c .s, .c .b] [.t 62, .c (.v (.string ({ data := #[32] } : ByteArray)))]), oM 61 63, oX 64 61 0, oX 65 61 1, oX 66 61 2, oM 14 64, oM 15 65, oM 16 66]) (
 .seq (.g [oM 68 14, oC 69 31 [.c kI, .c .b] [68], oM 67 69, oX 70 67 0, oX 71 67 1, oM 17 70, oM 18 71]) (
 .seq (.g [oM 73 15, oQ 74 (.call (.f 30) [.rd, .rd] false [.c .s, .c .s, .c .b] [.t 73, .c (.v (.string ({ data := #[32] } : ByteArray)))]), oM 72 74, oX 75 72 0, oX 76 72 1, oX 77 72 2, oM 19 75, oM 20 76, oM 21 77]) (
 .seq (.g [oM 79 19, oC 80 31 [.c kI, .c .b] [79], oM 78 80, oX 81 78 0, oX 82 78 1, oM 22 81, oM 23 82]) (
 .seq (.seq (.g [oF 83 0 11, oW 84 kI 83, oBi 85 .eql 84 1]) (
 .cond (.t 85) (.seq (.g [oF 86 4 11, oW 87 (.sl 2) 86, oM 88 17, oM 89 22, oQ 90 (.build [.v (.int .i64 0), .v (.int .i64 0)] [(0, 1, (.t 88)), (1, 1, (.t 89))]), oQ 91 (.lit 2 ([[.v (.int .i64 0), .v (.int .i64 0)]] : Rows) [(0, (.t 90))]), oQ 92 (.app 2 16 (.t 87) (.t 91)), oF 93 4 11, oS (.store 1 (.t 93) (.t 92))]) (
 .exit 1)) (.skip))) (
 .seq (.g [oM 95 20, oC 96 32 [.g [kI, .s, kI, .sl 1, .sl 5], .c .b] [95], oM 94 96, oX 97 94 0, oX 98 94 1, oQ 24 (.alloc [.v (.int .i64 0), .v (.string ByteArray.empty), .v (.int .i64 0), .s 1 [], .s 5 []]), oS (.store 5 (.t 24) (.t 97)), oM 25 98]) (
 .g [oF 99 3 11, oW 100 (.sl 7) 99, oM 101 17, oM 102 22, oL 103 [kI, .s, kI, .sl 1, .sl 5] 24, oQ 104 (.build [.v (.int .i64 0), .v (.int .i64 0), .v (.int .i64 0), .v (.string ByteArray.empty), .v (.int .i64 0), .s 1 [], .s 5 []] [(0, 1, (.t 101)), (1, 1, (.t 102)), (2, 5, (.t 103))]), oQ 105 (.lit 7 ([[.v (.int .i64 0), .v (.int .i64 0), .v (.int .i64 0), .v (.string ByteArray.empty), .v (.int .i64 0), .s 1 [], .s 5 []]] : Rows) [(0, (.t 104))]), oQ 106 (.app 7 96 (.t 100) (.t 105)), oF 107 3 11, oS (.store 1 (.t 107) (.t 106))]))))))))) (
 .g [oBi 108 .add 57 1, oM 57 108]))))
def e10x0 : Exits := [((.exit 0), [(0, .c .s), (2, .b [.c kI, .c .s, .c kI, .o 7, .o 2]), (11, .b [.c kI, .c .s, .c kI, .o 7, .o 2])])]
noncomputable def l10x0 (T : Table) (k : Nat) := loopN (evalC ⟨T, [], []⟩ k b10x0 (Ex × List AV)) [0, 2, 4, 11, 55, 56, 57] e10x0
def a10 : AFun := ⟨[.rd], false, [.c 2 true [kI, .s, kI, .sl 7, .sl 2], .t 3], (
 .seq (.g [oQ 2 (.alloc [.v (.int .i64 0), .v (.string ByteArray.empty), .v (.int .i64 0), .s 7 [], .s 2 []]), oV 3 false]) (
 .seq (.g [oM 26 0, oQ 27 (.call (.f 29) [.rd, .rd] false [.c .s] [.t 26, .c (.v (.string ({ data := #[10] } : ByteArray)))]), oQ 28 (.call (.f 28) [.rd, .rd] false [.c (.sl 1)] [.t 27, .c (.v (.string ({ data := #[10] } : ByteArray)))]), oM 4 28]) (
 .seq (.g [oM 30 4, oQ 31 (.iad 1 (.t 30) (.i 0)), oW 32 .s 31, oQ 33 (.call (.f 30) [.rd, .rd] false [.c .s, .c .s, .c .b] [.t 32, .c (.v (.string ({ data := #[32] } : ByteArray)))]), oM 29 33, oX 34 29 0, oX 35 29 1, oX 36 29 2, oM 5 34, oM 6 35, oM 7 36]) (
 .seq (.g [oM 38 6, oQ 39 (.call (.f 30) [.rd, .rd] false [.c .s, .c .s, .c .b] [.t 38, .c (.v (.string ({ data := #[32] } : ByteArray)))]), oM 37 39, oX 40 37 0, oX 41 37 1, oX 42 37 2, oM 8 40, oM 9 41, oM 10 42]) (
 .seq (.g [oM 43 8, oQ 44 (.build [.v (.int .i64 0), .v (.string ByteArray.empty), .v (.int .i64 0), .s 7 [], .s 2 []] [(0, 1, (.i 1)), (1, 1, (.t 43))]), oQ 11 (.alloc [.v (.int .i64 0), .v (.string ByteArray.empty), .v (.int .i64 0), .s 7 [], .s 2 []]), oS (.store 5 (.t 11) (.t 44))]) (
 .seq (.g [oM 46 9, oC 47 31 [.c kI, .c .b] [46], oM 45 47, oX 48 45 0, oX 49 45 1, oF 50 2 11, oS (.store 1 (.t 50) (.t 48))]) (
 .seq (.seq (.g [oM 51 5, oQ 52 (.bin .eql (.t 51) (.c (.v (.string ({ data := #[108, 105, 115, 116] } : ByteArray)))))]) (
 .cond (.t 52) (.g [oF 53 0 11, oS (.store 1 (.t 53) (.i 2))]) (.skip))) (
 .seq (.seq (.g [oM 54 4, oQ 55 (.more (.slo 1 (.t 54) (some (.i 1)) none)), oQ 56 (.more (.lnw (.t 55))), oK 57 0]) (
 .block 0 (.loop [0, 2, 4, 11, 55, 56, 57] e10x0 b10x0))) (
 .seq (.seq (.g [oM 109 0, oQ 110 (.bin .eql (.t 109) (.c (.v (.string ({ data := #[] } : ByteArray))))), oM 111 110, oJ 112 111 false (.load true [kI, .s, kI, .sl 7, .sl 2] (.t 11)), oJ 113 111 false (.call (.f 9) [.rd] false [.c .b] [.t 112]), oJ 114 111 false (.un .not (.t 113)), oQ 115 (.pick (.t 111) (.b true) (.t 114)), oM 116 115, oJ 117 116 false (.load true [kI, .s, kI, .sl 7, .sl 2] (.t 11)), oJ 118 116 false (.call (.f 7) [.rd] false [.c .s] [.t 117]), oJ 119 116 false (.mv (.t 0)), oJ 120 116 false (.bin .neq (.t 118) (.t 119)), oQ 121 (.pick (.t 116) (.b true) (.t 120))]) (
 .cond (.t 121) (.seq (.g [oQ 122 (.build [.v (.int .i64 0), .v (.string ByteArray.empty), .v (.int .i64 0), .s 7 [], .s 2 []] []), oS (.store 5 (.t 2) (.t 122)), oV 3 false]) (
 .ret)) (.skip))) (
 .seq (.g [oL 123 [kI, .s, kI, .sl 7, .sl 2] 11, oS (.store 5 (.t 2) (.t 123)), oV 3 true]) (
 .ret)))))))))))⟩
theorem l10x0s (T : Table) (k n m52 m53 : Nat) (s40 s42 s48 : ByteArray) (n41 n43 n47 n49 n54 n55 : Int) (l44 l45 l46 l50 l51 : Rows): l10x0 T k (n + 1) [.v (.string s40), .b [.v (.int .i64 n41), .v (.string s42), .v (.int .i64 n43), .o 7 l44, .o 2 l45], .o 1 l46, .b [.v (.int .i64 n47), .v (.string s48), .v (.int .i64 n49), .o 7 l50, .o 2 l51], .w 2 m52 m53, .v (.int .i64 n54), .v (.int .i64 n55)] = (
 bif (decide (n55 < n54)) then (
 tst (decide (0 ≤ n55) && decide (Int.toNat n55 < m53 - m52)) (
 look l46 (m52 + Int.toNat n55) fun r56 =>
 cS r56 0 fun s57 =>
 callT T 30 [.d (.v (.string s57)), .d (.v (.string ({ data := #[32] } : ByteArray)))] fun o58 =>
 oT o58.res fun is59 =>
 tst (Nat.beq is59.length 3) (
 nth is59 0 fun i60 =>
 oD i60 fun d61 =>
 dS d61 fun s62 =>
 nth is59 1 fun i63 =>
 oD i63 fun d64 =>
 dS d64 fun s65 =>
 nth is59 2 fun i66 =>
 oD i66 fun d67 =>
 dB d67 fun b68 =>
 callT T 31 [.d (.v (.string s62))] fun o69 =>
 oT o69.res fun is70 =>
 tst (Nat.beq is70.length 2) (
 nth is70 0 fun i71 =>
 oD i71 fun d72 =>
 dI .i64 d72 fun n73 =>
 nth is70 1 fun i74 =>
 oD i74 fun d75 =>
 dB d75 fun b76 =>
 callT T 30 [.d (.v (.string s65)), .d (.v (.string ({ data := #[32] } : ByteArray)))] fun o77 =>
 oT o77.res fun is78 =>
 tst (Nat.beq is78.length 3) (
 nth is78 0 fun i79 =>
 oD i79 fun d80 =>
 dS d80 fun s81 =>
 nth is78 1 fun i82 =>
 oD i82 fun d83 =>
 dS d83 fun s84 =>
 nth is78 2 fun i85 =>
 oD i85 fun d86 =>
 dB d86 fun b87 =>
 callT T 31 [.d (.v (.string s81))] fun o88 =>
 oT o88.res fun is89 =>
 tst (Nat.beq is89.length 2) (
 nth is89 0 fun i90 =>
 oD i90 fun d91 =>
 dI .i64 d91 fun n92 =>
 nth is89 1 fun i93 =>
 oD i93 fun d94 =>
 dB d94 fun b95 =>
 bif (n47 == 1) then (
 tst (decide ((l51.length + ([[.v (.int .i64 n73), .v (.int .i64 n92)]] : Rows).length) * 16 ≤ maxBytes)) (
 l10x0 T k n [.v (.string s40), .b [.v (.int .i64 n41), .v (.string s42), .v (.int .i64 n43), .o 7 l44, .o 2 l45], .o 1 l46, .b [.v (.int .i64 n47), .v (.string s48), .v (.int .i64 n49), .o 7 l50, .o 2 (l51 ++ ([[.v (.int .i64 n73), .v (.int .i64 n92)]] : Rows))], .w 2 m52 m53, .v (.int .i64 n54), .v (.int .i64 (IntKind.wrap .i64 (n55 + 1)))])) else (
 callT T 32 [.d (.v (.string s84))] fun o96 =>
 oT o96.res fun is97 =>
 tst (Nat.beq is97.length 2) (
 nth is97 0 fun i98 =>
 oG i98 fun r99 =>
 tst (Nat.beq r99.length 5) (
 cI .i64 r99 0 fun n100 =>
 cS r99 1 fun s101 =>
 cI .i64 r99 2 fun n102 =>
 cL 1 r99 3 fun l103 =>
 cL 5 r99 4 fun l104 =>
 nth is97 1 fun i105 =>
 oD i105 fun d106 =>
 dB d106 fun b107 =>
 tst (decide ((l50.length + ([[.v (.int .i64 n73), .v (.int .i64 n92), .v (.int .i64 n100), .v (.string s101), .v (.int .i64 n102), hole, hole]] : Rows).length) * 96 ≤ maxBytes)) (
 l10x0 T k n [.v (.string s40), .b [.v (.int .i64 n41), .v (.string s42), .v (.int .i64 n43), .o 7 l44, .o 2 l45], .o 1 l46, .b [.v (.int .i64 n47), .v (.string s48), .v (.int .i64 n49), .o 7 (setD (setD (l50 ++ ([[.v (.int .i64 n73), .v (.int .i64 n92), .v (.int .i64 n100), .v (.string s101), .v (.int .i64 n102), hole, hole]] : Rows)) (0 + l50.length) 6 (.s 5 l104)) (0 + l50.length) 5 (.s 1 l103)), .o 2 l51], .w 2 m52 m53, .v (.int .i64 n54), .v (.int .i64 (IntKind.wrap .i64 (n55 + 1)))])))))))))) else (
 some ((.exit 0), [.v (.string s40), .b [.v (.int .i64 n41), .v (.string s42), .v (.int .i64 n43), .o 7 l44, .o 2 l45], .b [.v (.int .i64 n47), .v (.string s48), .v (.int .i64 n49), .o 7 l50, .o 2 l51]]))) := by kernel_rfl
theorem a10q (T : Table) (k : Nat) (s1 : ByteArray): evalF T k a10 [.d (.v (.string s1))] = (
 callT T 29 [.d (.v (.string s1)), .d (.v (.string ({ data := #[10] } : ByteArray)))] fun o2 =>
 oD o2.res fun d3 =>
 dS d3 fun s4 =>
 callT T 28 [.d (.v (.string s4)), .d (.v (.string ({ data := #[10] } : ByteArray)))] fun o5 =>
 oD o5.res fun d6 =>
 dL 1 d6 fun l7 =>
 tst (decide (0 ≤ 0) && decide (Int.toNat 0 < l7.length)) (
 look l7 0 fun r8 =>
 cS r8 0 fun s9 =>
 callT T 30 [.d (.v (.string s9)), .d (.v (.string ({ data := #[32] } : ByteArray)))] fun o10 =>
 oT o10.res fun is11 =>
 tst (Nat.beq is11.length 3) (
 nth is11 0 fun i12 =>
 oD i12 fun d13 =>
 dS d13 fun s14 =>
 nth is11 1 fun i15 =>
 oD i15 fun d16 =>
 dS d16 fun s17 =>
 nth is11 2 fun i18 =>
 oD i18 fun d19 =>
 dB d19 fun b20 =>
 callT T 30 [.d (.v (.string s17)), .d (.v (.string ({ data := #[32] } : ByteArray)))] fun o21 =>
 oT o21.res fun is22 =>
 tst (Nat.beq is22.length 3) (
 nth is22 0 fun i23 =>
 oD i23 fun d24 =>
 dS d24 fun s25 =>
 nth is22 1 fun i26 =>
 oD i26 fun d27 =>
 dS d27 fun s28 =>
 nth is22 2 fun i29 =>
 oD i29 fun d30 =>
 dB d30 fun b31 =>
 callT T 31 [.d (.v (.string s28))] fun o32 =>
 oT o32.res fun is33 =>
 tst (Nat.beq is33.length 2) (
 nth is33 0 fun i34 =>
 oD i34 fun d35 =>
 dI .i64 d35 fun n36 =>
 nth is33 1 fun i37 =>
 oD i37 fun d38 =>
 dB d38 fun b39 =>
 bif (bytesEq s14 ({ data := #[108, 105, 115, 116] } : ByteArray)) then (
 tst (cutOk 1 (l7.length : Int) (l7.length)) (
 aft (l10x0 T k k [.v (.string s1), .b [.v (.int .i64 0), .v (.string ByteArray.empty), .v (.int .i64 0), .o 7 [], .o 2 []], .o 1 l7, .b [.v (.int .i64 2), .v (.string s25), .v (.int .i64 n36), .o 7 [], .o 2 []], .w 2 1 (Int.toNat (l7.length : Int)), .v (.int .i64 (((Int.toNat (l7.length : Int)) - 1 : Nat) : Int)), .v (.int .i64 0)]) fun e108 ys109 =>
 bif e108.same (.exit 0) then (
 aV ys109 0 fun x110 =>
 aS x110 fun s111 =>
 aV ys109 1 fun x112 =>
 aX x112 fun xs113 =>
 aV xs113 0 fun x114 =>
 aI .i64 x114 fun n115 =>
 aV xs113 1 fun x116 =>
 aS x116 fun s117 =>
 aV xs113 2 fun x118 =>
 aI .i64 x118 fun n119 =>
 aV xs113 3 fun x120 =>
 aO 7 x120 fun l121 =>
 aV xs113 4 fun x122 =>
 aO 2 x122 fun l123 =>
 aV ys109 2 fun x124 =>
 aX x124 fun xs125 =>
 aV xs125 0 fun x126 =>
 aI .i64 x126 fun n127 =>
 aV xs125 1 fun x128 =>
 aS x128 fun s129 =>
 aV xs125 2 fun x130 =>
 aI .i64 x130 fun n131 =>
 aV xs125 3 fun x132 =>
 aO 7 x132 fun l133 =>
 aV xs125 4 fun x134 =>
 aO 2 x134 fun l135 =>
 bif (bytesEq s111 ({ data := #[] } : ByteArray)) == false then (
 callT T 9 [.g [.v (.int .i64 n127), .v (.string s129), .v (.int .i64 n131), .s 7 l133, .s 2 l135]] fun o136 =>
 oD o136.res fun d137 =>
 dB d137 fun b138 =>
 bif (!b138) == false then (
 callT T 7 [.g [.v (.int .i64 n127), .v (.string s129), .v (.int .i64 n131), .s 7 l133, .s 2 l135]] fun o139 =>
 oD o139.res fun d140 =>
 dS d140 fun s141 =>
 bif (!(bytesEq s141 s111)) then (
 some ⟨.t [.g [.v (.int .i64 0), .v (.string ByteArray.empty), .v (.int .i64 0), .s 7 [], .s 2 []], .d (.v (.bool false))], []⟩) else (
 some ⟨.t [.g [.v (.int .i64 n127), .v (.string s129), .v (.int .i64 n131), .s 7 l133, .s 2 l135], .d (.v (.bool true))], []⟩)) else (
 some ⟨.t [.g [.v (.int .i64 0), .v (.string ByteArray.empty), .v (.int .i64 0), .s 7 [], .s 2 []], .d (.v (.bool false))], []⟩)) else (
 some ⟨.t [.g [.v (.int .i64 0), .v (.string ByteArray.empty), .v (.int .i64 0), .s 7 [], .s 2 []], .d (.v (.bool false))], []⟩)) else (
 none))) else (
 tst (cutOk 1 (l7.length : Int) (l7.length)) (
 aft (l10x0 T k k [.v (.string s1), .b [.v (.int .i64 0), .v (.string ByteArray.empty), .v (.int .i64 0), .o 7 [], .o 2 []], .o 1 l7, .b [.v (.int .i64 1), .v (.string s25), .v (.int .i64 n36), .o 7 [], .o 2 []], .w 2 1 (Int.toNat (l7.length : Int)), .v (.int .i64 (((Int.toNat (l7.length : Int)) - 1 : Nat) : Int)), .v (.int .i64 0)]) fun e142 ys143 =>
 bif e142.same (.exit 0) then (
 aV ys143 0 fun x144 =>
 aS x144 fun s145 =>
 aV ys143 1 fun x146 =>
 aX x146 fun xs147 =>
 aV xs147 0 fun x148 =>
 aI .i64 x148 fun n149 =>
 aV xs147 1 fun x150 =>
 aS x150 fun s151 =>
 aV xs147 2 fun x152 =>
 aI .i64 x152 fun n153 =>
 aV xs147 3 fun x154 =>
 aO 7 x154 fun l155 =>
 aV xs147 4 fun x156 =>
 aO 2 x156 fun l157 =>
 aV ys143 2 fun x158 =>
 aX x158 fun xs159 =>
 aV xs159 0 fun x160 =>
 aI .i64 x160 fun n161 =>
 aV xs159 1 fun x162 =>
 aS x162 fun s163 =>
 aV xs159 2 fun x164 =>
 aI .i64 x164 fun n165 =>
 aV xs159 3 fun x166 =>
 aO 7 x166 fun l167 =>
 aV xs159 4 fun x168 =>
 aO 2 x168 fun l169 =>
 bif (bytesEq s145 ({ data := #[] } : ByteArray)) == false then (
 callT T 9 [.g [.v (.int .i64 n161), .v (.string s163), .v (.int .i64 n165), .s 7 l167, .s 2 l169]] fun o170 =>
 oD o170.res fun d171 =>
 dB d171 fun b172 =>
 bif (!b172) == false then (
 callT T 7 [.g [.v (.int .i64 n161), .v (.string s163), .v (.int .i64 n165), .s 7 l167, .s 2 l169]] fun o173 =>
 oD o173.res fun d174 =>
 dS d174 fun s175 =>
 bif (!(bytesEq s175 s145)) then (
 some ⟨.t [.g [.v (.int .i64 0), .v (.string ByteArray.empty), .v (.int .i64 0), .s 7 [], .s 2 []], .d (.v (.bool false))], []⟩) else (
 some ⟨.t [.g [.v (.int .i64 n161), .v (.string s163), .v (.int .i64 n165), .s 7 l167, .s 2 l169], .d (.v (.bool true))], []⟩)) else (
 some ⟨.t [.g [.v (.int .i64 0), .v (.string ByteArray.empty), .v (.int .i64 0), .s 7 [], .s 2 []], .d (.v (.bool false))], []⟩)) else (
 some ⟨.t [.g [.v (.int .i64 0), .v (.string ByteArray.empty), .v (.int .i64 0), .s 7 [], .s 2 []], .d (.v (.bool false))], []⟩)) else (
 none)))))))) := by kernel_rfl
/- loop.example/g00119/laws.sameRuns -/
def b11x0 : ACode := (
 .seq (.seq (.g [oM 11 5, oM 12 0, oZ 13 12, oB 14 .lss 11 13]) (
 .cond (.t 14) (.skip) (.exit 0))) (
 .seq (.block 1 (.seq (.dreg [] [(0, oM 17 0), (0, oM 18 5), (0, oI 19 2 17 18), (0, oL 20 [kI, kI] 19), (0, oM 21 1), (0, oM 22 5), (0, oI 23 2 21 22), (0, oL 24 [kI, kI] 23)] [oQ 25 (.geq true [kI, kI] (.t 20) (.t 24))]) (
 .cond (.t 25) (.seq (.g [oV 4 false]) (
 .ret)) (.skip)))) (
 .g [oM 15 5, oBi 16 .add 15 1, oM 5 16])))
def e11x0 : Exits := [(.ret, [(4, .c .b)]), ((.exit 0), [])]
noncomputable def l11x0 (T : Table) (k : Nat) := loopN (evalC ⟨T, [], []⟩ k b11x0 (Ex × List AV)) [0, 1, 5] e11x0
def a11 : AFun := ⟨[.rd, .rd], false, [.t 4], (
 .seq (.g [oV 4 false]) (
 .seq (.seq (.g [oM 6 0, oZ 7 6, oM 8 1, oZ 9 8, oB 10 .neq 7 9]) (
 .cond (.t 10) (.seq (.g [oV 4 false]) (
 .ret)) (.skip))) (
 .seq (.seq (.g [oK 5 0]) (
 .block 0 (.loop [0, 1, 5] e11x0 b11x0))) (
 .seq (.g [oV 4 true]) (
 .ret)))))⟩
theorem l11x0s (T : Table) (k n : Nat) (l3 l4 : Rows) (n5 : Int): l11x0 T k (n + 1) [.fz 2 l3, .fz 2 l4, .v (.int .i64 n5)] = (
 bif (decide (n5 < (l3.length : Int))) then (
 tst (decide (0 ≤ n5)) (
 look l3 (Int.toNat n5) fun r6 =>
 cI .i64 r6 0 fun n7 =>
 cI .i64 r6 1 fun n8 =>
 tst (decide (0 ≤ n5)) (
 look l4 (Int.toNat n5) fun r9 =>
 cI .i64 r9 0 fun n10 =>
 cI .i64 r9 1 fun n11 =>
 bif (!(n7 == n10 && (n8 == n11 && true))) then (
 some (.ret, [.v (.bool false)])) else (
 l11x0 T k n [.fz 2 l3, .fz 2 l4, .v (.int .i64 (IntKind.wrap .i64 (n5 + 1)))])))) else (
 some ((.exit 0), []))) := by kernel_rfl
theorem a11q (T : Table) (k : Nat) (l1 l2 : Rows): evalF T k a11 [.d (.s 2 l1), .d (.s 2 l2)] = (
 bif ((l1.length : Int) != (l2.length : Int)) then (
 some ⟨.d (.v (.bool false)), []⟩) else (
 aft (l11x0 T k k [.fz 2 l1, .fz 2 l2, .v (.int .i64 0)]) fun e12 ys13 =>
 bif e12.same .ret then (
 aV ys13 0 fun x14 =>
 aB x14 fun b15 =>
 some ⟨.d (.v (.bool b15)), []⟩) else (
 bif e12.same (.exit 0) then (
 some ⟨.d (.v (.bool true)), []⟩) else (
 none)))) := by kernel_rfl
/- loop.example/g00119/laws.FnMsgs -/
def a3 : AFun := ⟨[.rd], false, [.t 2], (
 .seq (.g [oV 2 false]) (
 .seq (.seq (.g [oM 7 0, oC 8 5 [.c .b] [7]]) (
 .cond (.t 8) (.seq (.g [oV 2 true]) (
 .ret)) (.skip))) (
 .seq (.g [oM 9 0, oC 10 6 [.g [kI, .s, kI, .sl 7, .sl 2]] [9], oQ 3 (.alloc [.v (.int .i64 0), .v (.string ByteArray.empty), .v (.int .i64 0), .s 7 [], .s 2 []]), oS (.store 5 (.t 3) (.t 10))]) (
 .seq (.g [oL 11 [kI, .s, kI, .sl 7, .sl 2] 3, oC 12 7 [.c .s] [11], oM 4 12]) (
 .seq (.seq (.g [oL 13 [kI, .s, kI, .sl 7, .sl 2] 3, oC 14 8 [.c .b] [13], oN 15 14]) (
 .cond (.t 15) (.seq (.g [oM 16 4, oQ 17 (.bin .eql (.t 16) (.c (.v (.string ({ data := #[] } : ByteArray))))), oM 18 17, oJ 19 18 true (.load true [kI, .s, kI, .sl 7, .sl 2] (.t 3)), oJ 20 18 true (.call (.f 9) [.rd] false [.c .b] [.t 19]), oJ 21 18 true (.un .not (.t 20)), oQ 22 (.pick (.t 18) (.t 21) (.b false)), oM 2 22]) (
 .ret)) (.skip))) (
 .seq (.g [oM 24 4, oC 25 10 [.g [kI, .s, kI, .sl 7, .sl 2], .c .b] [24], oM 23 25, oX 26 23 0, oX 27 23 1, oQ 5 (.alloc [.v (.int .i64 0), .v (.string ByteArray.empty), .v (.int .i64 0), .s 7 [], .s 2 []]), oS (.store 5 (.t 5) (.t 26)), oM 6 27]) (
 .seq (.g [oM 28 6, oM 29 28, oJ 30 29 true (.load true [kI, .s, kI, .sl 7, .sl 2] (.t 5)), oJ 31 29 true (.call (.f 7) [.rd] false [.c .s] [.t 30]), oJ 32 29 true (.mv (.t 4)), oJ 33 29 true (.bin .eql (.t 31) (.t 32)), oQ 34 (.pick (.t 29) (.t 33) (.b false)), oM 35 34, oJ 36 35 true (.fad 0 (.t 5)), oJ 37 35 true (.load false [kI] (.t 36)), oJ 38 35 true (.fad 0 (.t 3)), oJ 39 35 true (.load false [kI] (.t 38)), oJ 40 35 true (.bin .eql (.t 37) (.t 39)), oQ 41 (.pick (.t 35) (.t 40) (.b false)), oM 42 41, oJ 43 42 true (.fad 1 (.t 5)), oJ 44 42 true (.load false [.s] (.t 43)), oJ 45 42 true (.fad 1 (.t 3)), oJ 46 42 true (.load false [.s] (.t 45)), oJ 47 42 true (.bin .eql (.t 44) (.t 46)), oQ 48 (.pick (.t 42) (.t 47) (.b false)), oM 49 48, oJ 50 49 true (.fad 2 (.t 5)), oJ 51 49 true (.load false [kI] (.t 50)), oJ 52 49 true (.fad 2 (.t 3)), oJ 53 49 true (.load false [kI] (.t 52)), oJ 54 49 true (.bin .eql (.t 51) (.t 53)), oQ 55 (.pick (.t 49) (.t 54) (.b false)), oM 56 55, oJ 57 56 true (.fad 4 (.t 5)), oJ 58 56 true (.load false [.sl 2] (.t 57)), oJ 59 56 true (.fad 4 (.t 3)), oJ 60 56 true (.load false [.sl 2] (.t 59)), oJ 61 56 true (.call (.f 11) [.rd, .rd] false [.c .b] [.t 58, .t 60]), oQ 62 (.pick (.t 56) (.t 61) (.b false)), oM 63 62, oJ 64 63 true (.fad 3 (.t 5)), oJ 65 63 true (.load false [.sl 7] (.t 64)), oJ 66 63 true (.len false (.t 65)), oJ 67 63 true (.fad 3 (.t 3)), oJ 68 63 true (.load false [.sl 7] (.t 67)), oJ 69 63 true (.len false (.t 68)), oJ 70 63 true (.bin .eql (.t 66) (.t 69)), oQ 71 (.pick (.t 63) (.t 70) (.b false)), oM 72 71, oJ 73 72 true (.load true [kI, .s, kI, .sl 7, .sl 2] (.t 3)), oJ 74 72 true (.call (.f 9) [.rd] false [.c .b] [.t 73]), oQ 75 (.pick (.t 72) (.t 74) (.b false)), oM 2 75]) (
 .ret))))))))⟩
theorem a3q (T : Table) (k m2 m3 : Nat) (a1 : Option Addr): evalF T k a3 [.d (.v (.slice a1 m2 m3))] = (
 callT T 5 [.d (.v (.slice a1 m2 m3))] fun o4 =>
 oD o4.res fun d5 =>
 dB d5 fun b6 =>
 bif b6 then (
 some ⟨.d (.v (.bool true)), []⟩) else (
 callT T 6 [.d (.v (.slice a1 m2 m3))] fun o7 =>
 oG o7.res fun r8 =>
 tst (Nat.beq r8.length 5) (
 cI .i64 r8 0 fun n9 =>
 cS r8 1 fun s10 =>
 cI .i64 r8 2 fun n11 =>
 cL 7 r8 3 fun l12 =>
 cL 2 r8 4 fun l13 =>
 callT T 7 [.g [.v (.int .i64 n9), .v (.string s10), .v (.int .i64 n11), .s 7 l12, .s 2 l13]] fun o14 =>
 oD o14.res fun d15 =>
 dS d15 fun s16 =>
 callT T 8 [.g [.v (.int .i64 n9), .v (.string s10), .v (.int .i64 n11), .s 7 l12, .s 2 l13]] fun o17 =>
 oD o17.res fun d18 =>
 dB d18 fun b19 =>
 bif (!b19) then (
 bif (bytesEq s16 ({ data := #[] } : ByteArray)) == true then (
 callT T 9 [.g [.v (.int .i64 n9), .v (.string s10), .v (.int .i64 n11), .s 7 l12, .s 2 l13]] fun o20 =>
 oD o20.res fun d21 =>
 dB d21 fun b22 =>
 some ⟨.d (.v (.bool (!b22))), []⟩) else (
 some ⟨.d (.v (.bool false)), []⟩)) else (
 callT T 10 [.d (.v (.string s16))] fun o23 =>
 oT o23.res fun is24 =>
 tst (Nat.beq is24.length 2) (
 nth is24 0 fun i25 =>
 oG i25 fun r26 =>
 tst (Nat.beq r26.length 5) (
 cI .i64 r26 0 fun n27 =>
 cS r26 1 fun s28 =>
 cI .i64 r26 2 fun n29 =>
 cL 7 r26 3 fun l30 =>
 cL 2 r26 4 fun l31 =>
 nth is24 1 fun i32 =>
 oD i32 fun d33 =>
 dB d33 fun b34 =>
 bif b34 == true then (
 callT T 7 [.g [.v (.int .i64 n27), .v (.string s28), .v (.int .i64 n29), .s 7 l30, .s 2 l31]] fun o35 =>
 oD o35.res fun d36 =>
 dS d36 fun s37 =>
 bif (bytesEq s37 s16) == true then (
 bif (n27 == n9) == true then (
 bif (bytesEq s28 s10) == true then (
 bif (n29 == n11) == true then (
 callT T 11 [.d (.s 2 l31), .d (.s 2 l13)] fun o38 =>
 oD o38.res fun d39 =>
 dB d39 fun b40 =>
 bif b40 == true then (
 bif ((l30.length : Int) == (l12.length : Int)) == true then (
 callT T 9 [.g [.v (.int .i64 n9), .v (.string s10), .v (.int .i64 n11), .s 7 l12, .s 2 l13]] fun o41 =>
 oD o41.res fun d42 =>
 dB d42 fun b43 =>
 some ⟨.d (.v (.bool b43)), []⟩) else (
 some ⟨.d (.v (.bool false)), []⟩)) else (
 some ⟨.d (.v (.bool false)), []⟩)) else (
 some ⟨.d (.v (.bool false)), []⟩)) else (
 some ⟨.d (.v (.bool false)), []⟩)) else (
 some ⟨.d (.v (.bool false)), []⟩)) else (
 some ⟨.d (.v (.bool false)), []⟩)) else (
 some ⟨.d (.v (.bool false)), []⟩))))))) := by kernel_rfl
end Go.Am.Fm
