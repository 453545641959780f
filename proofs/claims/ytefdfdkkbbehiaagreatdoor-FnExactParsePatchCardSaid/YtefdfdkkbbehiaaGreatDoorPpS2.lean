/- The program's numbers; what is split and cut. Nothing is assumed. -/
import Derived.Test.YtefdfdkkbbehiaaGreatDoorPpS1
namespace Go.Am.Pp
set_option linter.unusedVariables false
set_option linter.unusedSimpArgs false
set_option maxRecDepth 8000
theorem f22 {s : ByteArray} (hs : s.size ≤ 1048576) (c : UInt8) : Ev fs 22 [.d (.v (.string s)), .d (.v (.string ({ data := #[c] } : ByteArray)))] ⟨.d (.s 1 (strR ((spl c s.toList).map bOf))), []⟩ :=
 Ev.nat rfl ⟨0, fun _ _ _ _ => by
  have e := splB_spl s c
  rw [← ByteArray.toList_eq] at e
  have h : splOk s ({ data := #[c] } : ByteArray) = true := by simp only [splOk, Bool.and_eq_true, decide_eq_true_eq]; exact ⟨by omega, Nat.le_refl 1⟩
  show (((((((natF 137 fReplace 22 [.d (.v (.string s)), .d (.v (.string ({ data := #[c] } : ByteArray)))]).or (natF 36 fJoin 22 [.d (.v (.string s)), .d (.v (.string ({ data := #[c] } : ByteArray)))])).or (natF 151 fCut 22 [.d (.v (.string s)), .d (.v (.string ({ data := #[c] } : ByteArray)))])).or (natF 154 fTrim 22 [.d (.v (.string s)), .d (.v (.string ({ data := #[c] } : ByteArray)))])).or (natF 153 fAny 22 [.d (.v (.string s)), .d (.v (.string ({ data := #[c] } : ByteArray)))])).or (natF 22 fSplit 22 [.d (.v (.string s)), .d (.v (.string ({ data := #[c] } : ByteArray)))])).or (natF 56 fCut3 22 [.d (.v (.string s)), .d (.v (.string ({ data := #[c] } : ByteArray)))])).or (natF 23 fSuf 22 [.d (.v (.string s)), .d (.v (.string ({ data := #[c] } : ByteArray)))]) = _
  simp only [natF, fSplit, h, show Nat.beq 22 137 = false from rfl, show Nat.beq 22 36 = false from rfl, show Nat.beq 22 151 = false from rfl, show Nat.beq 22 154 = false from rfl, show Nat.beq 22 153 = false from rfl, show Nat.beq 22 56 = false from rfl, show Nat.beq 22 23 = false from rfl, show Nat.beq 22 22 = true from rfl, cond_true, cond_false, Option.map_some, Option.none_or, Option.some_or]
  rw [← e]⟩
theorem f23 {s : ByteArray} (hs : s.size ≤ 1048576) (c : UInt8) : Ev fs 23 [.d (.v (.string s)), .d (.v (.string ({ data := #[c] } : ByteArray)))] ⟨.d (.v (.string (bOf (Lib.trimSuffix s.toList [c])))), []⟩ :=
 Ev.nat rfl ⟨0, fun _ _ _ _ => by
  have h : decide (s.size ≤ 9223372036854775807) = true := decide_eq_true (by omega)
  show (((((((natF 137 fReplace 23 [.d (.v (.string s)), .d (.v (.string ({ data := #[c] } : ByteArray)))]).or (natF 36 fJoin 23 [.d (.v (.string s)), .d (.v (.string ({ data := #[c] } : ByteArray)))])).or (natF 151 fCut 23 [.d (.v (.string s)), .d (.v (.string ({ data := #[c] } : ByteArray)))])).or (natF 154 fTrim 23 [.d (.v (.string s)), .d (.v (.string ({ data := #[c] } : ByteArray)))])).or (natF 153 fAny 23 [.d (.v (.string s)), .d (.v (.string ({ data := #[c] } : ByteArray)))])).or (natF 22 fSplit 23 [.d (.v (.string s)), .d (.v (.string ({ data := #[c] } : ByteArray)))])).or (natF 56 fCut3 23 [.d (.v (.string s)), .d (.v (.string ({ data := #[c] } : ByteArray)))])).or (natF 23 fSuf 23 [.d (.v (.string s)), .d (.v (.string ({ data := #[c] } : ByteArray)))]) = _
  simp only [natF, fSuf, h, show Nat.beq 23 137 = false from rfl, show Nat.beq 23 36 = false from rfl, show Nat.beq 23 151 = false from rfl, show Nat.beq 23 154 = false from rfl, show Nat.beq 23 153 = false from rfl, show Nat.beq 23 22 = false from rfl, show Nat.beq 23 56 = false from rfl, show Nat.beq 23 23 = true from rfl, cond_true, cond_false, Option.map_some, Option.none_or, Option.some_or, sufB, ByteArray.toList_eq]⟩
theorem f56 {s : ByteArray} (hs : s.size ≤ 1048576) (c : UInt8) : Ev fs 56 [.d (.v (.string s)), .d (.v (.string ({ data := #[c] } : ByteArray)))] ⟨.t [.d (.v (.string (bOf (Lib.cut s.toList [c]).1))), .d (.v (.string (bOf (Lib.cut s.toList [c]).2.1))), .d (.v (.bool (Lib.cut s.toList [c]).2.2))], []⟩ :=
 Ev.nat rfl ⟨0, fun _ _ _ _ => by
  have h : decide (s.size < 4294967281) = true := decide_eq_true (by omega)
  show (((((((natF 137 fReplace 56 [.d (.v (.string s)), .d (.v (.string ({ data := #[c] } : ByteArray)))]).or (natF 36 fJoin 56 [.d (.v (.string s)), .d (.v (.string ({ data := #[c] } : ByteArray)))])).or (natF 151 fCut 56 [.d (.v (.string s)), .d (.v (.string ({ data := #[c] } : ByteArray)))])).or (natF 154 fTrim 56 [.d (.v (.string s)), .d (.v (.string ({ data := #[c] } : ByteArray)))])).or (natF 153 fAny 56 [.d (.v (.string s)), .d (.v (.string ({ data := #[c] } : ByteArray)))])).or (natF 22 fSplit 56 [.d (.v (.string s)), .d (.v (.string ({ data := #[c] } : ByteArray)))])).or (natF 56 fCut3 56 [.d (.v (.string s)), .d (.v (.string ({ data := #[c] } : ByteArray)))])).or (natF 23 fSuf 56 [.d (.v (.string s)), .d (.v (.string ({ data := #[c] } : ByteArray)))]) = _
  simp only [natF, fCut3, h, show Nat.beq 56 137 = false from rfl, show Nat.beq 56 36 = false from rfl, show Nat.beq 56 151 = false from rfl, show Nat.beq 56 154 = false from rfl, show Nat.beq 56 153 = false from rfl, show Nat.beq 56 22 = false from rfl, show Nat.beq 56 23 = false from rfl, show Nat.beq 56 56 = true from rfl, cond_true, cond_false, Option.map_some, Option.none_or, Option.some_or, cutB, ByteArray.toList_eq]⟩
theorem dig_loop {s : ByteArray} (hs : s.size ≤ 9) : ∀ (m i v : Nat), s.size - i = m → i ≤ s.size → v < 10 ^ i →
  Evt (fun d n => l143x0 (TabD fs d) d n [.v (.string s), .v (.int .i64 (v : Int)), .v (.int .i64 (s.size : Int)), .v (.int .i64 (i : Int))]) (match digV (s.toList.drop i) v with | some x => (.exit 0, [.v (.int .i64 (x : Int))]) | none => (.ret, [.v (.int .i64 0), .v (.bool false)])) := by
 have hlen : s.toList.length = s.size := toList_length
 intro m
 induction m with
 | zero =>
  intro i v hm hi hv
  refine ev_succ ?_
  simp only [l143x0s]
  simp -implicitDefEqProofs only [rdl, Ex.same, Nat.beq, show decide ((i : Int) < (s.size : Int)) = false from decide_eq_false (by omega), show s.toList.drop i = [] from List.drop_eq_nil_of_le (by omega)]
  exact Evt.ret
 | succ m ih =>
  intro i v hm hi hv
  have hlt : i < s.size := by omega
  obtain ⟨x, hx, hd⟩ := drop_at hlt
  have hw : IntKind.i64.wrap ((i : Int) + 1) = ((i + 1 : Nat) : Int) := by rw [wrap_i64 (by omega) (by omega)]; omega
  refine ev_succ ?_
  simp only [l143x0s]
  simp -implicitDefEqProofs only [rdl, Ex.same, Nat.beq, show decide ((i : Int) < (s.size : Int)) = true from decide_eq_true (by omega), hw, dec_nn, byteAt_at hx]
  rw [hd, digV]
  have hg : isDg x = (!decide ((x.toNat : Int) < 48) && !decide ((x.toNat : Int) > 57)) := by
   rw [Bool.eq_iff_iff]
   simp only [isDg, inB, Bool.and_eq_true, decide_eq_true_eq, Bool.not_eq_true', decide_eq_false_iff_not]
   omega
  rw [hg]
  cases h1 : decide ((x.toNat : Int) < 48) with
  | true => exact Evt.ret
  | false =>
   simp -implicitDefEqProofs only [rdl, Ex.same, Nat.beq, show (false == false) = true from rfl, dec_nn, byteAt_at hx]
   cases h2 : decide ((x.toNat : Int) > 57) with
   | true => exact Evt.ret
   | false =>
    rw [h1, h2] at hg
    have hg : isDg x = true := hg
    have hv8 : v < 100000000 := Nat.lt_of_lt_of_le hv (show 10 ^ i ≤ 10 ^ 8 from Nat.pow_le_pow_right (by decide) (by omega))
    have hdw := dig_wrap hg hv8
    rw [Int.mul_comm] at hdw
    simp -implicitDefEqProofs only [rdl, Ex.same, Nat.beq, Bool.not_false, Bool.and_self, dec_nn, byteAt_at hx, hdw]
    exact ih (i + 1) _ (by omega) (by omega) (dval_step hg hv)
def numO (l : List UInt8) : Out := match numL l with
 | some x => ⟨.t [.d (.v (.int .i64 (x : Int))), .d (.v (.bool true))], []⟩
 | none => ⟨.t [.d (.v (.int .i64 0)), .d (.v (.bool false))], []⟩
theorem f143 (s : ByteArray) : Ev fs 143 [.d (.v (.string s)), .d (.v (.int .i64 9))] (numO s.toList) := by
 have hlen : s.toList.length = s.size := toList_length
 refine Ev.of (af := a143) rfl rfl (Evt.congr (fun d n => a143q ..) ?_)
 have hL : s.size ≤ 9 → Evt (fun d n => l143x0 (TabD fs d) d n [.v (.string s), .v (.int .i64 0), .v (.int .i64 (s.size : Int)), .v (.int .i64 0)]) (match digV s.toList 0 with | some x => (.exit 0, [.v (.int .i64 (x : Int))]) | none => (.ret, [.v (.int .i64 0), .v (.bool false)])) := fun h => dig_loop h s.size 0 0 (by omega) (by omega) (by decide)
 have bad : numG s.toList = false → Evt (fun (_ _ : Nat) => some (⟨.t [.d (.v (.int .i64 0)), .d (.v (.bool false))], []⟩ : Out)) (numO s.toList) := fun hg => by
  unfold numO
  rw [numL, hg]
  exact Evt.ret
 refine ev_if (fun h1 => ?_) (fun h1 => ?_)
 ·have h1 : s.size ≠ 0 := fun e => by
   have : s.toList = [] := List.length_eq_zero_iff.1 (by omega)
   have h1 := eq_of_beq h1
   simp [bytesEq, this, ByteArray.toList_eq] at h1
  refine ev_if (fun h2 => ?_) (fun h2 => ?_)
  ·have h2 : s.size ≤ 9 := by have := of_decide_eq_false (eq_of_beq h2); omega
   have hL := hL h2
   have tail : numG s.toList = true → Evt (fun d n => aft (l143x0 (TabD fs d) d d [.v (.string s), .v (.int .i64 0), .v (.int .i64 (s.size : Int)), .v (.int .i64 0)]) fun e ys => bif e.same .ret then (aV ys 0 fun x => aI .i64 x fun n => aV ys 1 fun y => aB y fun b => some (⟨.t [(.d (.v (.int .i64 n))), .d (.v (.bool b))], []⟩ : Out)) else (bif e.same (.exit 0) then (aV ys 0 fun x => aI .i64 x fun n => some ⟨.t [(.d (.v (.int .i64 n))), .d (.v (.bool true))], []⟩) else none)) (numO s.toList) := fun hg => by
    unfold numO
    rw [numL, hg, cond_true]
    refine ev_aft (L := fun d n => l143x0 (TabD fs d) d n [.v (.string s), .v (.int .i64 0), .v (.int .i64 (s.size : Int)), .v (.int .i64 0)]) hL ?_
    cases digV s.toList 0 with
    | some x => simp -implicitDefEqProofs only [rdl, Ex.same, Nat.beq]; exact Evt.ret
    | none => simp -implicitDefEqProofs only [rdl, Ex.same, Nat.beq]; exact Evt.ret
   obtain ⟨x, hx⟩ := byte_get (show 0 < s.size by omega)
   refine ev_tst (by decide) ?_
   simp -implicitDefEqProofs only [rdl, Ex.same, Nat.beq, show Int.toNat 0 = 0 from rfl, byteAt_at hx]
   refine ev_if (fun h3 => ?_) (fun h3 => ?_)
   ·have h3 : x = 48 := UInt8.toNat_inj.1 (by have := eq_of_beq (eq_of_beq h3); simp; omega)
    refine ev_if (fun h4 => ?_) (fun h4 => ?_)
    ·have h4 : 1 < s.size := by have := of_decide_eq_true h4; omega
     exact bad (by simp [numG, hx, h3, hlen, h4])
    ·have h4 : s.size ≤ 1 := by have := of_decide_eq_false h4; omega
     exact tail (by simp [numG, hlen]; omega)
   ·have h3 : x ≠ 48 := fun e => by subst e; simp at h3
    exact tail (by simp [numG, hx, h3, hlen]; omega)
  ·have h2 : 9 < s.size := by have := of_decide_eq_true (show decide ((s.size : Int) > 9) = true from by simpa using h2); omega
   exact bad (by simp [numG, hlen]; omega)
 ·have h1 : s.toList = [] := by
   have h1 : bytesEq s ({ data := #[] } : ByteArray) = true := by simpa using h1
   simpa [bytesEq, ByteArray.toList_eq] using h1
  exact bad (by rw [h1]; rfl)
theorem f117 (s : ByteArray) : Ev fs 117 [.d (.v (.string s))] (numO s.toList) := by
 refine Ev.of (af := a117) rfl rfl (Evt.congr (fun d n => a117q ..) ?_)
 refine ev_call (f143 s) ?_
 unfold numO
 cases numL s.toList with
 | some x => simp -implicitDefEqProofs only [rdl, Ex.same, Nat.beq]; exact Evt.ret
 | none => simp -implicitDefEqProofs only [rdl, Ex.same, Nat.beq]; exact Evt.ret
end Go.Am.Pp
