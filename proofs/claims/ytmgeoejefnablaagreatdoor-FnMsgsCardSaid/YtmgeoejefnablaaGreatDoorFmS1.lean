/- Texts that are split at a byte; numbers that are read. Nothing is assumed. -/
import Derived.Test.YtmgeoejefnablaaGreatDoorFmJ
namespace Go.Am.Fm
variable {SK : Src}
set_option linter.unusedVariables false
set_option linter.unusedSimpArgs false
set_option maxRecDepth 8000
theorem dig_wrap {x : UInt8} (h : isDg x = true) {v : Nat} (hv : v < 100000000) : IntKind.i64.wrap (IntKind.i64.wrap ((v : Int) * 10) + IntKind.i64.wrap (IntKind.u8.wrap ((x.toNat : Int) - 48))) = ((v * 10 + (x.toNat - 48) : Nat) : Int) := by
 simp only [isDg, inB, Bool.and_eq_true, decide_eq_true_eq] at h
 rw [wrap_u8 (by omega) (by omega), wrap_i64 (n := (v : Int) * 10) (by omega) (by omega), wrap_i64 (n := (x.toNat : Int) - 48) (by omega) (by omega), wrap_i64 (by omega) (by omega)]
 omega
theorem dval_step {v i : Nat} {x : UInt8} (h : isDg x = true) (hv : v < 10 ^ i) : v * 10 + (x.toNat - 48) < 10 ^ (i + 1) := by
 simp only [isDg, inB, Bool.and_eq_true, decide_eq_true_eq] at h
 rw [Nat.pow_succ]
 omega
end Go.Am.Fm
