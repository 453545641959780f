/- The reference's reader gives back what was written. Nothing is assumed. -/
import Derived.Test.YtefdfdkkbbehiaaGreatDoorPpB
namespace Go.Am.Pp
set_option linter.unusedVariables false
set_option linter.unusedSimpArgs false
set_option maxRecDepth 8000
def At (s : ByteArray) (i : Nat) (l : List UInt8) : Prop := i ≤ s.size ∧ s.toList.drop i = l
theorem At.size {s : ByteArray} {i : Nat} {l : List UInt8} (h : At s i l) : s.size = i + l.length := by
 have := congrArg List.length h.2
 rw [List.length_drop, toList_len] at this
 have := h.1
 omega
theorem At.next {s : ByteArray} {i : Nat} {a r : List UInt8} (h : At s i (a ++ r)) : At s (i + a.length) r := by
 have hs := h.size
 rw [List.length_append] at hs
 refine ⟨by omega, ?_⟩
 rw [← List.drop_drop, h.2, List.drop_left]
theorem At.to {s : ByteArray} {i : Nat} {l l' : List UInt8} (h : At s i l) (e : l = l') : At s i l' := e ▸ h
theorem takeY {s : ByteArray} {i : Nat} {t : ByteArray} {l r : List UInt8} (ht : t.toList = l) (h : At s i (l ++ r)) : takeB s i false t = true := by
 simp [takeB, h.2, ht]
theorem takeN {s : ByteArray} {i : Nat} {t : ByteArray} {c c' : UInt8} {l r : List UInt8} (ht : t.toList = c' :: l) (h : At s i (c :: r)) (hne : c ≠ c') : takeB s i false t = false := by
 have : (c' == c) = false := by simpa using fun e => hne e.symm
 simp [takeB, h.2, ht, List.isPrefixOf, this]
theorem c118Y {s : ByteArray} (hs : s.size ≤ 1048576) {i : Nat} {t : ByteArray} {l r : List UInt8} (ht : t.toList = l) (h : At s i (l ++ r)) (h1 : t.size ≤ 100) : Ev fs 118 [.p (PS s i false), .d (.v (.string t))] ⟨.d (.v (.bool true)), [.p (PS s (i + l.length) false)]⟩ := by
 have := f118 hs h.1 false h1
 rw [takeY ht h, size_of ht] at this
 exact this
theorem c118N {s : ByteArray} (hs : s.size ≤ 1048576) {i : Nat} {t : ByteArray} {c c' : UInt8} {l r : List UInt8} (ht : t.toList = c' :: l) (h : At s i (c :: r)) (hne : c ≠ c') (h1 : t.size ≤ 100) : Ev fs 118 [.p (PS s i false), .d (.v (.string t))] ⟨.d (.v (.bool false)), [.p (PS s i false)]⟩ := by
 have := f118 hs h.1 false h1
 rw [takeN ht h hne] at this
 exact this
theorem c119 {s : ByteArray} (hs : s.size ≤ 1048576) {i : Nat} {t : ByteArray} {r : List UInt8} (hz : ∀ b ∈ t.toList, b ≠ 0) (h : At s i (t.toList.flatMap esc ++ 34 :: r)) : Ev fs 119 [.p (PS s i false)] ⟨.d (.v (.string t)), [.p (PS s (i + ((t.toList.flatMap esc).length + 1)) false)]⟩ := by
 have := f119 hs h.1
 rw [h.2, rdT_esc r t.toList hz] at this
 simp only [bOf_toList] at this
 exact this
theorem c145 {s : ByteArray} (hs : s.size ≤ 1048576) {i : Nat} {w : ByteArray} {r : List UInt8} (hw : ∀ c ∈ w.toList, c ≠ 58 ∧ c ≠ 0) (h : At s i (w.toList ++ 58 :: r)) : Ev fs 145 [.p (PS s i false)] ⟨.d (.v (.string w)), [.p (PS s (i + w.toList.length) false)]⟩ := by
 have h2 := f145 hs h.1 false
 have e : wordN s i false = w.toList.length := by simp only [wordN, cond_false, h.2]; exact wordL_app _ _ hw
 have e2 : s.extract i (i + w.toList.length) = w := by
  rw [← bOf_toList (s.extract i (i + w.toList.length)), ext_list, h.2, Nat.add_sub_cancel_left, List.take_left, bOf_toList]
 rw [e, e2] at h2
 exact h2
theorem c121 {s : ByteArray} (hs : s.size ≤ 1048576) {i : Nat} {n : Int} (hn : Fits n) {r : List UInt8} (hr : Stop r) (h : At s i ((decS n).toList ++ r)) : Ev fs 121 [.p (PS s i false)] ⟨.d (.v (.int .i64 n)), [.p (PS s (i + (decS n).toList.length) false)]⟩ := by
 have h2 := f121 hs h.1
 have ml : ({ data := #[45] } : ByteArray).toList = [45] := lit_list 45
 obtain ⟨_, _, h3⟩ := dl_all n.natAbs
 by_cases hneg : n < 0
 ·have e : (decS n).toList = [45] ++ dl n.natAbs := by rw [decS_list, if_pos hneg]; rfl
  rw [e, List.append_assoc] at h
  have m1 : minusB s i = true := takeY ml h
  have m2 : minusN s i = i + 1 := by simp [minusN, m1]
  have h4 := h.next.2
  simp only [List.length_cons, List.length_nil] at h4
  rw [m1, m2, h4, digN_dec hn hr] at h2
  have i1 := intV_dec hn
  have i2 := intBad_dec hn h3
  rw [decide_eq_true hneg] at i1 i2
  simp only [i1, i2] at h2
  have e9 : i + ([45] ++ dl n.natAbs : List UInt8).length = i + 1 + (dl n.natAbs).length := by rw [List.length_append]; simp only [List.length_cons, List.length_nil]; omega
  rw [e, e9]
  exact h2
 ·have e : (decS n).toList = dl n.natAbs := by rw [decS_list, if_neg hneg]
  rw [e] at h ⊢
  obtain ⟨c, l, hc, d1, d2⟩ := dl_head n.natAbs
  have m1 : minusB s i = false := takeN ml (h.to (by rw [hc]; rfl)) (fun e => by rw [e] at d1; simp at d1)
  have m2 : minusN s i = i := by simp [minusN, m1]
  rw [m1, m2, h.2, digN_dec hn hr] at h2
  have i1 := intV_dec hn
  have i2 := intBad_dec hn h3
  rw [decide_eq_false hneg] at i1 i2
  simp only [i1, i2] at h2
  exact h2
end Go.Am.Pp
