/- The program's reader gives back what was written: its parts. Nothing is assumed. -/
import Derived.Test.YtefdfdkkbbehiaaGreatDoorPpV
namespace Go.Am.Pp
set_option linter.unusedVariables false
set_option linter.unusedSimpArgs false
set_option maxRecDepth 8000
theorem c126Y {l r : List UInt8} {p : ByteArray} (hp : p.data.toList = l) (ok : Bool) : Ev fs 126 [.p (QS (bOf (l ++ r)) ok), .d (.v (.string p))] ⟨.d (.v (.bool true)), [.p (QS (bOf r) ok)]⟩ := by
 have h := f126 (bOf (l ++ r)) ok p
 have e1 : hasP (bOf (l ++ r)) p = true := by simp [hasP, Lib.hasPrefix, hp]
 have e2 : trimP (bOf (l ++ r)) p = bOf r := by simp [trimP, Lib.trimPrefix, Lib.hasPrefix, hp]
 rw [e1, e2] at h
 exact h
theorem no_pre {c : UInt8} {l R : List UInt8} {p : ByteArray} (hp : p.data.toList = c :: l) (h : ∀ r, R ≠ c :: r) : hasP (bOf R) p = false ∧ trimP (bOf R) p = bOf R := by
 have e : Lib.hasPrefix R (c :: l) = false := by
  cases R with
  | nil => rfl
  | cons x r =>
   have : (c == x) = false := by simpa using fun e => h r (by rw [e])
   simp [Lib.hasPrefix, List.isPrefixOf, this]
 simp [hasP, trimP, Lib.trimPrefix, hp, e]
theorem c126N {c : UInt8} {l R : List UInt8} {p : ByteArray} (hp : p.data.toList = c :: l) (h : ∀ r, R ≠ c :: r) (ok : Bool) : Ev fs 126 [.p (QS (bOf R) ok), .d (.v (.string p))] ⟨.d (.v (.bool false)), [.p (QS (bOf R) ok)]⟩ := by
 have h2 := f126 (bOf R) ok p
 obtain ⟨e1, e2⟩ := no_pre hp h
 rw [e1, e2] at h2
 exact h2
theorem c152 {l r : List UInt8} {p : ByteArray} (hp : p.data.toList = l) : Ev fs 152 [.p (QS (bOf (l ++ r)) true), .d (.v (.string p))] ⟨.t [], [.p (QS (bOf r) true)]⟩ := by
 have h := f152 (bOf (l ++ r)) true p
 have e1 : hasP (bOf (l ++ r)) p = true := by simp [hasP, Lib.hasPrefix, hp]
 have e2 : trimP (bOf (l ++ r)) p = bOf r := by simp [trimP, Lib.trimPrefix, Lib.hasPrefix, hp]
 rw [e1, e2] at h
 exact h
theorem cut_ext {w r : List UInt8} : (bOf (w ++ r)).extract 0 w.length = bOf w ∧ (bOf (w ++ r)).extract w.length (bOf (w ++ r)).size = bOf r := by
 constructor
 ·rw [← bOf_toList ((bOf (w ++ r)).extract 0 w.length), ext_list, bOf_list, List.drop_zero, Nat.sub_zero, List.take_left]
 ·rw [← bOf_toList ((bOf (w ++ r)).extract w.length _), ext_list, bOf_list, List.drop_left, List.take_of_length_le (by rw [bOf_size, List.length_append]; omega)]
theorem c129 {w r : List UInt8} {p : ByteArray} (hs : (bOf (w ++ r)).size ≤ 1048576) (ok : Bool) (hp : p.data.toList = [58] ∨ p.data.toList = [44, 93, 125]) (hn : tillN (bOf (w ++ r)) p = w.length) : Ev fs 129 [.p (QS (bOf (w ++ r)) ok), .d (.v (.string p))] ⟨.d (.v (.string (bOf w))), [.p (QS (bOf r) ok)]⟩ := by
 have h := f129 hs ok hp
 rw [hn, cut_ext.1, cut_ext.2] at h
 exact h
theorem till_colon {w r : List UInt8} {p : ByteArray} (hp : p.data.toList = [58]) (hw : ∀ c ∈ w, c ≠ 58) : tillN (bOf (w ++ 58 :: r)) p = w.length := by
 have e : Lib.indexAny (w ++ 58 :: r) [58] = (w.length : Int) := by
  refine Lib.indexAny_hit (x := 58) (fun j b hj hb => ?_) (by simp) (by simp)
  rw [List.getElem?_append_left hj] at hb
  have := hw b (List.mem_of_getElem? hb)
  simpa using this
 have e2 : ixOf (bOf (w ++ 58 :: r)) p = (w.length : Int) := by simp [ixOf, hp, e]
 have : ¬ ((w.length : Int) < 0) := by omega
 simp [tillN, e2, this]
theorem decode_one {s : ByteArray} {i : Nat} {b : UInt8} (h : s.toList[i]? = some b) (hb : b.toNat < 128) : Utf8.decode s i = (b.toNat, 1) := by
 have hg : s.data[i]? = some b := by
  rw [ByteArray.toList_eq] at h
  simpa using h
 have hg2 : s.get! i = b := by
  show s.data[i]! = b
  simp [getElem!_def, hg]
 simp [Utf8.decode, hg2, hb]
theorem scan_word {s : ByteArray} {r : List UInt8} (hr : Stop r) : ∀ (w pre : List UInt8) (f : Nat), s.toList = pre ++ (w ++ r) → (∀ c ∈ w, c.toNat < 128 ∧ c ≠ 44 ∧ c ≠ 93 ∧ c ≠ 125) → s.size ≤ pre.length + f → scan s f pre.length = if r = [] then -1 else ((pre.length + w.length : Nat) : Int) := by
 intro w
 induction w with
 | nil =>
  intro pre f hs _ hf
  have hz := toList_len s
  rw [hs] at hz
  simp only [List.length_append, List.length_nil] at hz
  cases r with
  | nil =>
   have : ¬ pre.length < s.size := by simp at hz; omega
   cases f <;> simp [scan, this]
  | cons c r =>
   simp only [List.length_cons] at hz
   cases f with
   | zero => omega
   | succ f =>
    have hc : s.toList[pre.length]? = some c := by rw [hs]; simp
    have h1 : pre.length < s.size := by omega
    have h2 : c.toNat < 128 ∧ 0 ≤ Lib.indexByte [44, 93, 125] c := by
     rcases hr c r rfl with rfl | rfl | rfl <;> decide
    rw [scan, if_pos h1, decode_one hc h2.1]
    simp only [UInt8.ofNat_toNat]
    rw [if_pos h2]
    simp
 | cons c w ih =>
  intro pre f hs hw hf
  have hz := toList_len s
  rw [hs] at hz
  simp only [List.length_append, List.length_cons] at hz
  cases f with
  | zero => omega
  | succ f =>
   obtain ⟨c1, c2, c3, c4⟩ := hw c (by simp)
   have hc : s.toList[pre.length]? = some c := by rw [hs]; simp
   have h1 : pre.length < s.size := by omega
   have h2 : ¬ (c.toNat < 128 ∧ 0 ≤ Lib.indexByte [44, 93, 125] c) := by
    intro h
    have e := Lib.contains_iff_indexByte [44, 93, 125] c
    rw [decide_eq_true h.2] at e
    simp [c2, c3, c4] at e
   rw [scan, if_pos h1, decode_one hc c1]
   simp only [UInt8.ofNat_toNat]
   rw [if_neg h2]
   have := ih (pre ++ [c]) f (by rw [hs]; simp) (fun x hx => hw x (by simp [hx])) (by simp; omega)
   rw [List.length_append, List.length_singleton] at this
   rw [this, List.length_cons]
   simp only [Nat.add_assoc, Nat.add_comm 1]
theorem till_word {w r : List UInt8} {p : ByteArray} (hp : p.data.toList = [44, 93, 125]) (hr : Stop r) (hw : ∀ c ∈ w, c.toNat < 128 ∧ c ≠ 44 ∧ c ≠ 93 ∧ c ≠ 125) : tillN (bOf (w ++ r)) p = w.length := by
 have e : anyIx (bOf (w ++ r)) = if r = [] then -1 else ((w.length : Nat) : Int) := by
  unfold anyIx
  cases hb : asciiB (bOf (w ++ r)) || decide (8 < (bOf (w ++ r)).size) with
  | false =>
   have := scan_word (s := bOf (w ++ r)) hr w [] (bOf (w ++ r)).size (by rw [bOf_list]; rfl) hw (by simp)
   simpa using this
  | true =>
   have hw2 : ∀ (j : Nat) b, j < w.length → (w ++ r)[j]? = some b → ([44, 93, 125] : List UInt8).contains b = false := fun j b hj hb => by
    rw [List.getElem?_append_left hj] at hb
    have := hw b (List.mem_of_getElem? hb)
    simp [this.2.1, this.2.2.1, this.2.2.2]
   simp only [cond_true, bOf_data]
   cases r with
   | nil =>
    rw [if_pos rfl]
    refine Lib.indexAny_none (fun j b hj hb => hw2 j b (by simpa using hj) hb)
   | cons c r =>
    rw [if_neg (by simp)]
    refine Lib.indexAny_hit (x := c) hw2 (by simp) ?_
    rcases hr c r rfl with rfl | rfl | rfl <;> rfl
 have e2 : ixOf (bOf (w ++ r)) p = anyIx (bOf (w ++ r)) := by simp [ixOf, hp]
 unfold tillN
 rw [e2, e]
 cases r with
 | nil => simp [bOf_size]
 | cons c r =>
  have : ¬ ((w.length : Int) < 0) := by omega
  simp [this]
theorem c127 {t : ByteArray} {r : List UInt8} (hs : (bOf (t.toList.flatMap esc ++ 34 :: r)).size ≤ 1048576) : Ev fs 127 [.p (QS (bOf (t.toList.flatMap esc ++ 34 :: r)) true)] ⟨.d (.v (.string t)), [.p (QS (bOf r) true)]⟩ := by
 have h := f127 hs
 rw [bOf_list, rdP_esc r t.toList] at h
 obtain ⟨s', h1, h2⟩ := h
 have e : s'.toList = r := by rw [h1]; simp [List.drop_append]
 rw [bOf_toList, bOf_of e] at h2
 exact h2
theorem dval_ge : ∀ (l : List UInt8) (x : Nat), x ≤ dval l x
 | [], x => Nat.le_refl _
 | c :: l, x => by
  have := dval_ge l (x * 10 + (c.toNat - 48))
  have e : dval (c :: l) x = dval l (x * 10 + (c.toNat - 48)) := rfl
  omega
theorem dval_app (a b : List UInt8) (x : Nat) : dval (a ++ b) x = dval b (dval a x) := by simp [dval]
end Go.Am.Pp
