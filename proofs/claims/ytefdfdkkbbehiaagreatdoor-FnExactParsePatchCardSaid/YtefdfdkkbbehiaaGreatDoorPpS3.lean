/- What is read of a value, of both; numbers; texts cut. Nothing is assumed. -/
import Derived.Test.YtefdfdkkbbehiaaGreatDoorPpS2
namespace Go.Am.Pp
set_option linter.unusedVariables false
set_option linter.unusedSimpArgs false
set_option maxRecDepth 8000
theorem ev_uniq {fn : Nat} {is : List I} {o o' : Out} (h : Ev fs fn is o) (h' : Ev fs fn is o') : o = o' := by
 obtain ⟨r, h⟩ := h
 obtain ⟨r', h'⟩ := h'
 have e1 := h (max r r') (max r r') (Nat.le_max_left ..) (Nat.le_max_left ..)
 have e2 := h' (max r r') (max r r') (Nat.le_max_right ..) (Nat.le_max_right ..)
 rw [e1] at e2
 exact Option.some.inj e2
abbrev ZV : Row := [.v (.int .i64 0), .v (.string ByteArray.empty), .v (.int .i64 0), .s 1 [], .s 5 []]
open Classical in
noncomputable def pvR (s : ByteArray) : Row × Bool := if h : ∃ v, IsTxt s v then (h.choose, true) else (ZV, false)
theorem pvR_both {s : ByteArray} (hs : s.size ≤ 1048576) : Ev fs 52 [.d (.v (.string s))] ⟨.t [.g (pvR s).1, .d (.v (.bool (pvR s).2))], []⟩ ∧ Ev fs 58 [.d (.v (.string s))] ⟨.t [.g (pvR s).1, .d (.v (.bool (pvR s).2))], []⟩ := by
 by_cases h : ∃ v, IsTxt s v
 ·rw [pvR, dif_pos h]
  exact one_good hs h.choose_spec
 ·rw [pvR, dif_neg h]
  exact one_bad hs h
theorem pvR_sh (s : ByteArray) : ShL E (E 33) (pvR s).1 := by
 by_cases h : ∃ v, IsTxt s v
 ·rw [pvR, dif_pos h]; exact h.choose_spec.1
 ·rw [pvR, dif_neg h]; exact zero_row
theorem pvR_txt {v : Row} (hv : ShL E (E 33) v) (ho : valueOk v = true) (hs : (vTxt 6 v).size ≤ 1048576) : (pvR (vTxt 6 v)).1 = v := by
 have h1 := (one_good hs ⟨hv, ho, rfl⟩).1
 have h2 := (pvR_both hs).1
 have e := ev_uniq h1 h2
 injection e with e1 e2
 injection e1 with e1
 injection e1 with e1 e2
 injection e1 with e1
 exact e1.symm
theorem bOf_size (l : List UInt8) : (bOf l).size = l.length := by
 have := toList_len (bOf l)
 rw [bOf_list] at this
 exact this.symm
theorem g19 {l : List UInt8} (h : l.length ≤ 1048576) (c : UInt8) : Ev fs 19 [.d (.v (.string (bOf l))), .d (.v (.int .u8 (c.toNat : Int)))] ⟨.d (.s 1 (strR ((spl c l).map bOf))), []⟩ := by
 have h := f19 (s := bOf l) (by rw [bOf_size]; exact h) c
 rw [bOf_list] at h
 exact h
theorem g56 {l : List UInt8} (h : l.length ≤ 1048576) (c : UInt8) : Ev fs 56 [.d (.v (.string (bOf l))), .d (.v (.string ({ data := #[c] } : ByteArray)))] ⟨.t [.d (.v (.string (bOf (Lib.cut l [c]).1))), .d (.v (.string (bOf (Lib.cut l [c]).2.1))), .d (.v (.bool (Lib.cut l [c]).2.2))], []⟩ := by
 have h := f56 (s := bOf l) (by rw [bOf_size]; exact h) c
 rw [bOf_list] at h
 exact h
theorem strR_at {l : List (List UInt8)} {i : Nat} {x : List UInt8} (h : l[i]? = some x) : (strR (l.map bOf))[i]? = some [.v (.string (bOf x))] := by simp [strR, h]
theorem strR_ln (l : List (List UInt8)) : (strR (l.map bOf)).length = l.length := by simp [strR]
end Go.Am.Pp
