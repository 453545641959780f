/- The program's numbers; what is split and cut. Nothing is assumed. -/
import Derived.Test.YtmgeoejefnablaaGreatDoorPmS1
namespace Go.Am.Pm
set_option linter.unusedVariables false
set_option linter.unusedSimpArgs false
set_option maxRecDepth 8000
theorem f28 {s : ByteArray} (hs : s.size ≤ 1048576) (c : UInt8) : Ev fs 28 [.d (.v (.string s)), .d (.v (.string ({ data := #[c] } : ByteArray)))] ⟨.d (.s 1 (S9 ((spl c s.toList).map bOf))), []⟩ :=
 Ev.nat rfl ⟨0, fun _ _ _ _ => by
  have e := C3u s c
  rw [← ByteArray.toList_eq] at e
  have h : B6o s ({ data := #[c] } : ByteArray) = true := by simp only [B6o, Bool.and_eq_true, decide_eq_true_eq]; exact ⟨by omega, Nat.le_refl 1⟩
  show (((((((J6 108 V4 28 [.d (.v (.string s)), .d (.v (.string ({ data := #[c] } : ByteArray)))]).or (J6 81 A4j 28 [.d (.v (.string s)), .d (.v (.string ({ data := #[c] } : ByteArray)))])).or (J6 121 A9e 28 [.d (.v (.string s)), .d (.v (.string ({ data := #[c] } : ByteArray)))])).or (J6 124 A4k 28 [.d (.v (.string s)), .d (.v (.string ({ data := #[c] } : ByteArray)))])).or (J6 123 A9f 28 [.d (.v (.string s)), .d (.v (.string ({ data := #[c] } : ByteArray)))])).or (J6 28 A1k 28 [.d (.v (.string s)), .d (.v (.string ({ data := #[c] } : ByteArray)))])).or (J6 30 A4l 28 [.d (.v (.string s)), .d (.v (.string ({ data := #[c] } : ByteArray)))])).or (J6 29 A9g 28 [.d (.v (.string s)), .d (.v (.string ({ data := #[c] } : ByteArray)))]) = _
  simp only [J6, A1k, h, show Nat.beq 28 108 = false from rfl, show Nat.beq 28 81 = false from rfl, show Nat.beq 28 121 = false from rfl, show Nat.beq 28 124 = false from rfl, show Nat.beq 28 123 = false from rfl, show Nat.beq 28 30 = false from rfl, show Nat.beq 28 29 = false from rfl, show Nat.beq 28 28 = true from rfl, cond_true, cond_false, Option.map_some, Option.none_or, Option.some_or]
  rw [← e]⟩
theorem f29 {s : ByteArray} (hs : s.size ≤ 1048576) (c : UInt8) : Ev fs 29 [.d (.v (.string s)), .d (.v (.string ({ data := #[c] } : ByteArray)))] ⟨.d (.v (.string (bOf (Lib.trimSuffix s.toList [c])))), []⟩ :=
 Ev.nat rfl ⟨0, fun _ _ _ _ => by
  have h : decide (s.size ≤ 9223372036854775807) = true := decide_eq_true (by omega)
  show (((((((J6 108 V4 29 [.d (.v (.string s)), .d (.v (.string ({ data := #[c] } : ByteArray)))]).or (J6 81 A4j 29 [.d (.v (.string s)), .d (.v (.string ({ data := #[c] } : ByteArray)))])).or (J6 121 A9e 29 [.d (.v (.string s)), .d (.v (.string ({ data := #[c] } : ByteArray)))])).or (J6 124 A4k 29 [.d (.v (.string s)), .d (.v (.string ({ data := #[c] } : ByteArray)))])).or (J6 123 A9f 29 [.d (.v (.string s)), .d (.v (.string ({ data := #[c] } : ByteArray)))])).or (J6 28 A1k 29 [.d (.v (.string s)), .d (.v (.string ({ data := #[c] } : ByteArray)))])).or (J6 30 A4l 29 [.d (.v (.string s)), .d (.v (.string ({ data := #[c] } : ByteArray)))])).or (J6 29 A9g 29 [.d (.v (.string s)), .d (.v (.string ({ data := #[c] } : ByteArray)))]) = _
  simp only [J6, A9g, h, show Nat.beq 29 108 = false from rfl, show Nat.beq 29 81 = false from rfl, show Nat.beq 29 121 = false from rfl, show Nat.beq 29 124 = false from rfl, show Nat.beq 29 123 = false from rfl, show Nat.beq 29 28 = false from rfl, show Nat.beq 29 30 = false from rfl, show Nat.beq 29 29 = true from rfl, cond_true, cond_false, Option.map_some, Option.none_or, Option.some_or, D1z, ByteArray.toList_eq]⟩
theorem f30 {s : ByteArray} (hs : s.size ≤ 1048576) (c : UInt8) : Ev fs 30 [.d (.v (.string s)), .d (.v (.string ({ data := #[c] } : ByteArray)))] ⟨.t [.d (.v (.string (bOf (Lib.cut s.toList [c]).1))), .d (.v (.string (bOf (Lib.cut s.toList [c]).2.1))), .d (.v (.bool (Lib.cut s.toList [c]).2.2))], []⟩ :=
 Ev.nat rfl ⟨0, fun _ _ _ _ => by
  have h : decide (s.size < 4294967281) = true := decide_eq_true (by omega)
  show (((((((J6 108 V4 30 [.d (.v (.string s)), .d (.v (.string ({ data := #[c] } : ByteArray)))]).or (J6 81 A4j 30 [.d (.v (.string s)), .d (.v (.string ({ data := #[c] } : ByteArray)))])).or (J6 121 A9e 30 [.d (.v (.string s)), .d (.v (.string ({ data := #[c] } : ByteArray)))])).or (J6 124 A4k 30 [.d (.v (.string s)), .d (.v (.string ({ data := #[c] } : ByteArray)))])).or (J6 123 A9f 30 [.d (.v (.string s)), .d (.v (.string ({ data := #[c] } : ByteArray)))])).or (J6 28 A1k 30 [.d (.v (.string s)), .d (.v (.string ({ data := #[c] } : ByteArray)))])).or (J6 30 A4l 30 [.d (.v (.string s)), .d (.v (.string ({ data := #[c] } : ByteArray)))])).or (J6 29 A9g 30 [.d (.v (.string s)), .d (.v (.string ({ data := #[c] } : ByteArray)))]) = _
  simp only [J6, A4l, h, show Nat.beq 30 108 = false from rfl, show Nat.beq 30 81 = false from rfl, show Nat.beq 30 121 = false from rfl, show Nat.beq 30 124 = false from rfl, show Nat.beq 30 123 = false from rfl, show Nat.beq 30 28 = false from rfl, show Nat.beq 30 29 = false from rfl, show Nat.beq 30 30 = true from rfl, cond_true, cond_false, Option.map_some, Option.none_or, Option.some_or, C6u, ByteArray.toList_eq]⟩
theorem C5j {s : ByteArray} (hs : s.size ≤ 9) : ∀ (m i v : Nat), s.size - i = m → i ≤ s.size → v < 10 ^ i →
  Evt (fun d n => A95 (TabD fs d) d n [.v (.string s), .v (.int .i64 (v : Int)), .v (.int .i64 (s.size : Int)), .v (.int .i64 (i : Int))]) (match A6o (s.toList.drop i) v with | some x => (.exit 0, [.v (.int .i64 (x : Int))]) | none => (.ret, [.v (.int .i64 0), .v (.bool false)])) := by
 have hlen : s.toList.length = s.size := M4
 intro m
 induction m with
 | zero =>
  intro i v hm hi hv
  refine F7 ?_
  simp only [C4b]
  simp -implicitDefEqProofs only [rdl, Ex.same, Nat.beq, show decide ((i : Int) < (s.size : Int)) = false from decide_eq_false (by omega), show s.toList.drop i = [] from List.drop_eq_nil_of_le (by omega)]
  exact Evt.ret
 | succ m ih =>
  intro i v hm hi hv
  have hlt : i < s.size := by omega
  obtain ⟨x, hx, hd⟩ := drop_at hlt
  have hw : IntKind.i64.wrap ((i : Int) + 1) = ((i + 1 : Nat) : Int) := by rw [wrap_i64 (by omega) (by omega)]; omega
  refine F7 ?_
  simp only [C4b]
  simp -implicitDefEqProofs only [rdl, Ex.same, Nat.beq, show decide ((i : Int) < (s.size : Int)) = true from decide_eq_true (by omega), hw, F3, I1 hx]
  rw [hd, A6o]
  have hg : A14 x = (!decide ((x.toNat : Int) < 48) && !decide ((x.toNat : Int) > 57)) := by
   rw [Bool.eq_iff_iff]
   simp only [A14, inB, Bool.and_eq_true, decide_eq_true_eq, Bool.not_eq_true', decide_eq_false_iff_not]
   omega
  rw [hg]
  cases h1 : decide ((x.toNat : Int) < 48) with
  | true => exact Evt.ret
  | false =>
   simp -implicitDefEqProofs only [rdl, Ex.same, Nat.beq, show (false == false) = true from rfl, F3, I1 hx]
   cases h2 : decide ((x.toNat : Int) > 57) with
   | true => exact Evt.ret
   | false =>
    rw [h1, h2] at hg
    have hg : A14 x = true := hg
    have hv8 : v < 100000000 := Nat.lt_of_lt_of_le hv (show 10 ^ i ≤ 10 ^ 8 from Nat.pow_le_pow_right (by decide) (by omega))
    have hdw := B7o hg hv8
    rw [Int.mul_comm] at hdw
    simp -implicitDefEqProofs only [rdl, Ex.same, Nat.beq, Bool.not_false, Bool.and_self, F3, I1 hx, hdw]
    exact ih (i + 1) _ (by omega) (by omega) (B37 hg hv)
def B4w (l : List UInt8) : Out := match A4q l with
 | some x => ⟨.t [.d (.v (.int .i64 (x : Int))), .d (.v (.bool true))], []⟩
 | none => ⟨.t [.d (.v (.int .i64 0)), .d (.v (.bool false))], []⟩
theorem f58 (s : ByteArray) : Ev fs 58 [.d (.v (.string s)), .d (.v (.int .i64 9))] (B4w s.toList) := by
 have hlen : s.toList.length = s.size := M4
 refine Ev.of (af := a58) rfl rfl (Evt.congr (fun d n => D3k ..) ?_)
 have hL : s.size ≤ 9 → Evt (fun d n => A95 (TabD fs d) d n [.v (.string s), .v (.int .i64 0), .v (.int .i64 (s.size : Int)), .v (.int .i64 0)]) (match A6o s.toList 0 with | some x => (.exit 0, [.v (.int .i64 (x : Int))]) | none => (.ret, [.v (.int .i64 0), .v (.bool false)])) := fun h => C5j h s.size 0 0 (by omega) (by omega) (by decide)
 have bad : A4p s.toList = false → Evt (fun (_ _ : Nat) => some (⟨.t [.d (.v (.int .i64 0)), .d (.v (.bool false))], []⟩ : Out)) (B4w s.toList) := fun hg => by
  unfold B4w
  rw [A4q, hg]
  exact Evt.ret
 refine D6 (fun h1 => ?_) (fun h1 => ?_)
 ·have h1 : s.size ≠ 0 := fun e => by
   have : s.toList = [] := List.length_eq_zero_iff.1 (by omega)
   have h1 := eq_of_beq h1
   simp [D9, this, ByteArray.toList_eq] at h1
  refine D6 (fun h2 => ?_) (fun h2 => ?_)
  ·have h2 : s.size ≤ 9 := by have := of_decide_eq_false (eq_of_beq h2); omega
   have hL := hL h2
   have tail : A4p s.toList = true → Evt (fun d n => aft (A95 (TabD fs d) d d [.v (.string s), .v (.int .i64 0), .v (.int .i64 (s.size : Int)), .v (.int .i64 0)]) fun e ys => bif e.same .ret then (aV ys 0 fun x => aI .i64 x fun n => aV ys 1 fun y => aB y fun b => some (⟨.t [(.d (.v (.int .i64 n))), .d (.v (.bool b))], []⟩ : Out)) else (bif e.same (.exit 0) then (aV ys 0 fun x => aI .i64 x fun n => some ⟨.t [(.d (.v (.int .i64 n))), .d (.v (.bool true))], []⟩) else none)) (B4w s.toList) := fun hg => by
    unfold B4w
    rw [A4q, hg, cond_true]
    refine I4 (L := fun d n => A95 (TabD fs d) d n [.v (.string s), .v (.int .i64 0), .v (.int .i64 (s.size : Int)), .v (.int .i64 0)]) hL ?_
    cases A6o s.toList 0 with
    | some x => simp -implicitDefEqProofs only [rdl, Ex.same, Nat.beq]; exact Evt.ret
    | none => simp -implicitDefEqProofs only [rdl, Ex.same, Nat.beq]; exact Evt.ret
   obtain ⟨x, hx⟩ := Q7 (show 0 < s.size by omega)
   refine D8 (by decide) ?_
   simp -implicitDefEqProofs only [rdl, Ex.same, Nat.beq, show Int.toNat 0 = 0 from rfl, I1 hx]
   refine D6 (fun h3 => ?_) (fun h3 => ?_)
   ·have h3 : x = 48 := UInt8.toNat_inj.1 (by have := eq_of_beq (eq_of_beq h3); simp; omega)
    refine D6 (fun h4 => ?_) (fun h4 => ?_)
    ·have h4 : 1 < s.size := by have := of_decide_eq_true h4; omega
     exact bad (by simp [A4p, hx, h3, hlen, h4])
    ·have h4 : s.size ≤ 1 := by have := of_decide_eq_false h4; omega
     exact tail (by simp [A4p, hlen]; omega)
   ·have h3 : x ≠ 48 := fun e => by subst e; simp at h3
    exact tail (by simp [A4p, hx, h3, hlen]; omega)
  ·have h2 : 9 < s.size := by have := of_decide_eq_true (show decide ((s.size : Int) > 9) = true from by simpa using h2); omega
   exact bad (by simp [A4p, hlen]; omega)
 ·have h1 : s.toList = [] := by
   have h1 : D9 s ({ data := #[] } : ByteArray) = true := by simpa using h1
   simpa [D9, ByteArray.toList_eq] using h1
  exact bad (by rw [h1]; rfl)
theorem f31 (s : ByteArray) : Ev fs 31 [.d (.v (.string s))] (B4w s.toList) := by
 refine Ev.of (af := a31) rfl rfl (Evt.congr (fun d n => D3l ..) ?_)
 refine A7 (f58 s) ?_
 unfold B4w
 cases A4q s.toList with
 | some x => simp -implicitDefEqProofs only [rdl, Ex.same, Nat.beq]; exact Evt.ret
 | none => simp -implicitDefEqProofs only [rdl, Ex.same, Nat.beq]; exact Evt.ret
end Go.Am.Pm
