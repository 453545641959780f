/- Plain facts on rows of values, their texts and cells. Nothing is assumed. -/
import Derived.Test.YtmgeoejefnablaaGreatDoorPmI
namespace Go.Am.Pm
set_option linter.unusedVariables false
set_option linter.unusedSimpArgs false
set_option maxRecDepth 8000
theorem F9 (s : ByteArray) : s.toList.length = s.size := by rw [ByteArray.toList_eq, Array.length_toList]; rfl
theorem ext_list (s : ByteArray) (i j : Nat) : (s.extract i j).toList = (s.toList.drop i).take (j - i) := by
 rw [ByteArray.toList_eq, ByteArray.toList_eq]
 simp [ByteArray.data_extract, List.extract_eq_take_drop]
theorem B1k (t l : List UInt8) : t.isPrefixOf l = (l.take t.length == t) := by
 rw [Bool.eq_iff_iff, List.isPrefixOf_iff_prefix, beq_iff_eq]
 constructor
 ·rintro ⟨r, rfl⟩; simp
 ·intro h; exact ⟨l.drop t.length, by have := List.take_append_drop t.length l; rw [h] at this; exact this⟩
theorem drop_at {s : ByteArray} {i : Nat} (h : i < s.size) : ∃ c, s.toList[i]? = some c ∧ s.toList.drop i = c :: s.toList.drop (i + 1) := by
 obtain ⟨c, hc⟩ := Q7 h
 obtain ⟨h1, h2⟩ := List.getElem?_eq_some_iff.1 hc
 exact ⟨c, hc, by rw [List.drop_eq_getElem_cons h1, h2]⟩
theorem A9b {c : UInt8} {n : Nat} (hn : n < 256) (h : c ≠ UInt8.ofNat n) : c.toNat ≠ n := fun e => h (UInt8.toNat_inj.1 (by rw [e]; simp; omega))
theorem K6 {t : TypeId} : SL E t [] := ⟨by simp, .nil⟩
theorem U9 {k n : Int} {u : ByteArray} {ks vs : Rows} (hk : Fits k) (hu : u.size ≤ maxLen) (hn : Fits n) (h1 : SL E 9 ks) (h2 : SL E 46 vs) : ShL E (E 46) [.v (.int .i64 k), .v (.string u), .v (.int .i64 n), .s 1 ks, .s 5 vs] := by
 rw [E46]
 exact A02 hk (A5x hu (A02 hn (R9 W9 h1 (R9 W46 h2 .nil))))
theorem A7w : ShL E (E 46) [.v (.int .i64 0), .v (.string ByteArray.empty), .v (.int .i64 0), .s 1 [], .s 5 []] := U9 (by decide) (by decide) (by decide) K6 K6
theorem A4e {t : TypeId} {l : Rows} {x : Row} (hl : SL E t l) (hx : ShL E (E t) x) (hn : l.length ≤ 1000) : SL E t (l ++ [x]) := by
 refine ⟨by simp [maxLen]; omega, ?_⟩
 have key : ∀ {l : Rows}, ShR E (E t) l → ShR E (E t) (l ++ [x]) := by
  intro l
  induction l with
  | nil => intro _; exact .cons hx .nil
  | cons r l ih => intro h; cases h with | cons h h' => exact .cons h (ih h')
 exact key hl.2
abbrev ZB : List AV := [.v (.int .i64 0), .v (.string ByteArray.empty), .v (.int .i64 0), .o 1 [], .o 5 []]
abbrev KB (k : Int) (ks vs : Rows) : List AV := [.v (.int .i64 k), .v (.string ByteArray.empty), .v (.int .i64 0), .o 1 ks, .o 5 vs]
theorem V5 {l : Rows} (h : SL E 46 l) {m : Nat} (hm : m < l.length) : ShL E (E 46) (J4 l m) := by
 rw [A4a hm]
 exact h.at (List.getElem?_eq_getElem hm)
theorem A7x {l : Rows} (h : SL E 9 l) {m : Nat} (hm : m < l.length) : ∃ w : ByteArray, J4 l m = [.v (.string w)] := by
 have w := h.at (List.getElem?_eq_getElem hm)
 rw [A4a hm]
 generalize l[m] = x at w ⊢
 obtain ⟨sx0, rfl, px0⟩ := I9 w
 exact ⟨_, rfl⟩
theorem V6 {l : Rows} {m : Nat} (hm : m < l.length) : l.take m ++ [J4 l m] = l.take (m + 1) := by
 rw [A4a hm, List.take_succ_eq_append_getElem hm]
structure KidAt (d : Nat) (v : Row) (m : Nat) : Prop where
 val : 0 < G9 d (J4 (cR v 4) m)
 key : cN v 0 = 5 → O3 (cT (J4 (cR v 3) m) 0) = true
theorem B7f {d : Nat} {v : Row} (h : 0 < G9 (d + 1) v) {m : Nat} (hm : m < (cR v 4).length) : KidAt d v m := by
 have hv := A0n h
 refine ⟨hv.kids _ (A4b hm), fun h5 => ?_⟩
 obtain ⟨h1, h2⟩ := A2m hv.shape h5
 simp only [D5, A7n, Bool.and_eq_true, A2g] at h2
 exact (h2.1 m (by omega)).1
theorem C5b {d : Nat} {v : Row} (h : 0 < G9 (d + 1) v) (h45 : cN v 0 = 4 ∨ cN v 0 = 5) {m : Nat} (hm : m < (cR v 4).length) : ∃ c l, M9 d v m = c :: l ∧ c ≠ 93 ∧ c ≠ 125 ∧ c ≠ 44 := by
 have k := B7f h hm
 rcases h45 with h4 | h5
 ·rw [A93 h4]
  have hv := k.val
  cases d with
  | zero => simp [G9] at hv
  | succ d => exact C3s hv
 ·rw [B2x h5]
  obtain ⟨n1, n2, _⟩ := A32 (k.key h5)
  cases hl : (cT (J4 (cR v 3) m) 0).toList with
  | nil => rw [hl] at n2; simp at n2
  | cons c l =>
   have := A0d (n1 c (by rw [hl]; simp))
   exact ⟨c, _, rfl, this.2.2.2.2.1, this.2.2.1, this.2.2.2.1⟩
theorem A33 {f : Nat → List UInt8} {n m : Nat} {e : UInt8} {r : List UInt8} (he : e = 93 ∨ e = 125) : Stop (jt f n (m + 1) ++ e :: r) := by
 cases n with
 | zero => exact Stop.cons (by rcases he with h | h <;> simp [h])
 | succ n =>
  have : jt f (n + 1) (m + 1) = 44 :: (f (m + 1) ++ jt f n (m + 1 + 1)) := by rw [jt]; rfl
  rw [this]
  exact Stop.cons (.inl rfl)
theorem C9m {d : Nat} {v : Row} (h : 0 < G9 (d + 1) v) (h45 : cN v 0 = 4 ∨ cN v 0 = 5) {n m : Nat} (hm : m < (cR v 4).length) : ∃ c l, jt (M9 d v) (n + 1) m = c :: l ∧ c ≠ 93 ∧ c ≠ 125 := by
 cases m with
 | zero =>
  obtain ⟨c, l, h1, h2, h3, _⟩ := C5b h h45 hm
  exact ⟨c, l ++ jt (M9 d v) n 1, by rw [jt, h1]; rfl, h2, h3⟩
 | succ m => exact ⟨44, _, by rw [jt]; rfl, by decide, by decide⟩
theorem B92 {l : Rows} (h : ((l.length : Int) == 0) = true) : l = [] := List.length_eq_zero_iff.1 (by simpa using h)
theorem B93 {s : ByteArray} {n : Int} {ks vs : Rows} (h : A9 1 s n ks vs = true) : F5 s = true ∧ n = 0 ∧ ks = [] ∧ vs = [] := by
 have h : (F5 s && ((n == 0) && (((ks.length : Int) == 0) && ((vs.length : Int) == 0)))) = true := h
 simp only [Bool.and_eq_true] at h
 exact ⟨h.1, by simpa using h.2.1, B92 h.2.2.1, B92 h.2.2.2⟩
theorem B94 {s : ByteArray} {n : Int} {ks vs : Rows} (h : A9 2 s n ks vs = true) : s = ⟨#[]⟩ ∧ ks = [] ∧ vs = [] := by
 have h : (bare s && (((ks.length : Int) == 0) && ((vs.length : Int) == 0))) = true := h
 simp only [Bool.and_eq_true] at h
 exact ⟨bare_eq h.1, B92 h.2.1, B92 h.2.2⟩
theorem B95 {s : ByteArray} {n : Int} {ks vs : Rows} (h : A9 3 s n ks vs = true) : s = ⟨#[]⟩ ∧ (n = 0 ∨ n = 1) ∧ ks = [] ∧ vs = [] := by
 have h : (bare s && (inB n 0 1 && (((ks.length : Int) == 0) && ((vs.length : Int) == 0)))) = true := h
 simp only [Bool.and_eq_true, inB, decide_eq_true_eq] at h
 exact ⟨bare_eq h.1, by omega, B92 h.2.2.1, B92 h.2.2.2⟩
theorem B96 {s : ByteArray} {n : Int} {ks vs : Rows} (h : A9 4 s n ks vs = true) : s = ⟨#[]⟩ ∧ n = 0 ∧ ks = [] := by
 have h : (bare s && ((n == 0) && ((ks.length : Int) == 0))) = true := h
 simp only [Bool.and_eq_true] at h
 exact ⟨bare_eq h.1, by simpa using h.2.1, B92 h.2.2⟩
theorem B97 {s : ByteArray} {n : Int} {ks vs : Rows} (h : A9 5 s n ks vs = true) : s = ⟨#[]⟩ ∧ n = 0 ∧ ks.length = vs.length := by
 have h : (D5 ks 300 && (((ks.length : Int) == (vs.length : Int)) && (bare s && (n == 0)))) = true := h
 simp only [Bool.and_eq_true, beq_iff_eq] at h
 exact ⟨bare_eq h.2.2.1, by simpa using h.2.2.2, by omega⟩
theorem A09 {c c' : UInt8} {l : List UInt8} (h : c ≠ c') : ∀ r, c :: l ≠ c' :: r := fun r e => h (List.cons.inj e).1
theorem A1i (a : ByteArray) : D9 a a = true := by simp [D9]
theorem A3s {a c : ByteArray} (h : D9 a c = true) : a = c := by
 have h : a.toList = c.toList := by simpa [D9] using h
 rw [← M7 a, h, M7]
theorem C1w {l : Rows} (h : SL E 9 l) : H6 l = l.length := by
 have key : ∀ {l : Rows}, ShR E (E 9) l → H6 l = l.length := by
  intro l
  induction l with
  | nil => intro _; simp [H6]
  | cons r l ih =>
   intro h
   cases h with
   | cons h h' =>
    have e := ih h'
    obtain ⟨w, rfl⟩ : ∃ w : ByteArray, r = [.v (.string w)] := by
     obtain ⟨sx0, rfl, px0⟩ := I9 h
     exact ⟨_, rfl⟩
    simp only [H6, U6, e, List.length_cons]
    omega
 exact key h.2
theorem C1x : ∀ (d : Nat) {v : Row}, ShL E (E 46) v → 0 < G9 d v → ((U6 v : Nat) : Int) + 1 ≤ 5 * G9 d v := by
 intro d
 induction d with
 | zero => intro v _ h; simp [G9] at h
 | succ d ih =>
  intro v hv hz
  have hva := A0n hz
  obtain ⟨na0, sa1, na2, la3, la4, rfl, pa0, pa1, pa2, pa3, pa4⟩ := I46 hv
  have hsh : A9 na0 sa1 na2 la3 la4 = true := hva.shape
  have hk : la3.length ≤ la4.length := by
   rcases A2n hsh with rfl | rfl | rfl | rfl | rfl
   ·rw [(B93 hsh).2.2.1]; simp
   ·rw [(B94 hsh).2.1]; simp
   ·rw [(B95 hsh).2.2.1]; simp
   ·rw [(B96 hsh).2.2]; simp
   ·exact Nat.le_of_eq (B97 hsh).2.2
  have key : ∀ l : Rows, ShR E (E 46) l → (∀ x ∈ l, 0 < G9 d x) → ((H6 l : Nat) : Int) + (l.length : Int) ≤ 5 * (l.map (G9 d)).sum := by
   intro l
   induction l with
   | nil => intro _ _; simp [H6]
   | cons r l ihl =>
    intro h hp
    cases h with
    | cons h h' =>
     have e1 := ihl h' fun x hx => hp x (by simp [hx])
     have e2 := ih h (hp r (by simp))
     simp only [H6, List.length_cons, List.map_cons, List.sum_cons]
     omega
  have e1 := key la4 pa4.2 hva.kids
  have e2 : G9 (d + 1) [.v (.int .i64 na0), .v (.string sa1), .v (.int .i64 na2), .s 1 la3, .s 5 la4] = 1 + (la4.map (G9 d)).sum := hva.sum
  rw [e2]
  simp only [U6, C1w pa3]
  omega
def B7g (s : ByteArray) (v : Row) : Prop := ShL E (E 46) v ∧ O9 v = true ∧ s = I6 6 v
theorem A7y {v : Row} (h : O9 v = true) : 0 < G9 6 v := by simpa [O9] using h
end Go.Am.Pm
