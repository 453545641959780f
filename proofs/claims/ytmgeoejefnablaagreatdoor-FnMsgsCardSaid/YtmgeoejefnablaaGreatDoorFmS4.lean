/- The reference's ParseMsg, exactly. Nothing is assumed. -/
import Derived.Test.YtmgeoejefnablaaGreatDoorFmS3
namespace Go.Am.Fm
variable {SK : Src}
set_option linter.unusedVariables false
set_option linter.unusedSimpArgs false
set_option maxRecDepth 8000
theorem sl_more {t : TypeId} {l : Rows} {x : Row} (hl : SL E t l) (hx : ShL E (E t) x) (hn : l.length ≤ 2000000) : SL E t (l ++ [x]) := by
 refine ⟨by simp [maxLen]; omega, ?_⟩
 have key : ∀ {l : Rows}, ShR E (E t) l → ShR E (E t) (l ++ [x]) := by
  intro l
  induction l with
  | nil => intro _; exact .cons hx .nil
  | cons r l ih => intro h; cases h with | cons h h' => exact .cons h (ih h')
 exact key hl.2
theorem fit_n {n : Int} (h0 : -1 ≤ n) (h1 : n < 1000000000) : Fits n := by
 simp only [Fits, IntKind.min, IntKind.max, IntKind.signed, IntKind.bits]
 simp
 omega
theorem run_sh {a c : Int} (ha : Fits a) (hc : Fits c) : ShL E (E 42) [.v (.int .i64 a), .v (.int .i64 c)] := by
 rw [E42]
 exact mk_i ha (mk_i hc .nil)
theorem work_sh {a c : Int} {v : Row} (ha : Fits a) (hc : Fits c) (hv : ShL E (E 46) v) : ShL E (E 48) (.v (.int .i64 a) :: .v (.int .i64 c) :: v) := by
 rw [E46] at hv
 rw [E48]
 exact mk_i ha (mk_i hc hv)
theorem numP_ok (l : List UInt8) : Fits (numP l) := fit_n (by have := (numP_fit l).1; omega) (numP_fit l).2
theorem msg_sh {k r : Int} {u : ByteArray} {ws rs : Rows} (hk : Fits k) (hu : u.size ≤ maxLen) (hr : Fits r) (hw : SL E 48 ws) (hs : SL E 42 rs) : ShL E (E 27) [.v (.int .i64 k), .v (.string u), .v (.int .i64 r), .s 7 ws, .s 2 rs] := by
 rw [E27]
 exact mk_i hk (mk_s hu (mk_i hr (mk_sl W48 hw (mk_sl W42 hs .nil))))
abbrev ZM : Row := [.v (.int .i64 0), .v (.string ByteArray.empty), .v (.int .i64 0), .s 7 [], .s 2 []]
def bad : Out := ⟨.t [.g ZM, .d (.v (.bool false))], []⟩
def kindN (w : List UInt8) : Int := bif bytesEq (bOf w) ({ data := #[108, 105, 115, 116] } : ByteArray) then 2 else 1
theorem kindN_ok (w : List UInt8) : Fits (kindN w) := by
 unfold kindN
 cases bytesEq (bOf w) ({ data := #[108, 105, 115, 116] } : ByteArray) <;> decide
def ans (s : ByteArray) (m : Option Row) : Out := match m with
 | some m => bif msgOk m && bytesEq (msgTxt m) s then ⟨.t [.g m, .d (.v (.bool true))], []⟩ else bad
 | none => bad
end Go.Am.Fm
