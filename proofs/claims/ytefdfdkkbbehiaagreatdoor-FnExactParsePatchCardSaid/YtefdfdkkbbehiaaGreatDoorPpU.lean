/- Plain facts on rows of values, their texts and cells. Nothing is assumed. -/
import Derived.Test.YtefdfdkkbbehiaaGreatDoorPpI
namespace Go.Am.Pp
set_option linter.unusedVariables false
set_option linter.unusedSimpArgs false
set_option maxRecDepth 8000
theorem toList_len (s : ByteArray) : s.toList.length = s.size := by rw [ByteArray.toList_eq, Array.length_toList]; rfl
theorem ext_list (s : ByteArray) (i j : Nat) : (s.extract i j).toList = (s.toList.drop i).take (j - i) := by
 rw [ByteArray.toList_eq, ByteArray.toList_eq]
 simp [ByteArray.data_extract, List.extract_eq_take_drop]
theorem pre_take (t l : List UInt8) : t.isPrefixOf l = (l.take t.length == t) := by
 rw [Bool.eq_iff_iff, List.isPrefixOf_iff_prefix, beq_iff_eq]
 constructor
 ·rintro ⟨r, rfl⟩; simp
 ·intro h; exact ⟨l.drop t.length, by have := List.take_append_drop t.length l; rw [h] at this; exact this⟩
theorem drop_at {s : ByteArray} {i : Nat} (h : i < s.size) : ∃ c, s.toList[i]? = some c ∧ s.toList.drop i = c :: s.toList.drop (i + 1) := by
 obtain ⟨c, hc⟩ := byte_get h
 obtain ⟨h1, h2⟩ := List.getElem?_eq_some_iff.1 hc
 exact ⟨c, hc, by rw [List.drop_eq_getElem_cons h1, h2]⟩
theorem u8_ne {c : UInt8} {n : Nat} (hn : n < 256) (h : c ≠ UInt8.ofNat n) : c.toNat ≠ n := fun e => h (UInt8.toNat_inj.1 (by rw [e]; simp; omega))
theorem sl_nil {t : TypeId} : SL E t [] := ⟨by simp, .nil⟩
theorem val_row {k n : Int} {u : ByteArray} {ks vs : Rows} (hk : Fits k) (hu : u.size ≤ maxLen) (hn : Fits n) (h1 : SL E 9 ks) (h2 : SL E 33 vs) : ShL E (E 33) [.v (.int .i64 k), .v (.string u), .v (.int .i64 n), .s 1 ks, .s 5 vs] := by
 rw [E33]
 exact mk_i hk (mk_s hu (mk_i hn (mk_sl W9 h1 (mk_sl W33 h2 .nil))))
theorem zero_row : ShL E (E 33) [.v (.int .i64 0), .v (.string ByteArray.empty), .v (.int .i64 0), .s 1 [], .s 5 []] := val_row (by decide) (by decide) (by decide) sl_nil sl_nil
theorem sl_snoc {t : TypeId} {l : Rows} {x : Row} (hl : SL E t l) (hx : ShL E (E t) x) (hn : l.length ≤ 1000) : SL E t (l ++ [x]) := by
 refine ⟨by simp [maxLen]; omega, ?_⟩
 have key : ∀ {l : Rows}, ShR E (E t) l → ShR E (E t) (l ++ [x]) := by
  intro l
  induction l with
  | nil => intro _; exact .cons hx .nil
  | cons r l ih => intro h; cases h with | cons h h' => exact .cons h (ih h')
 exact key hl.2
abbrev ZB : List AV := [.v (.int .i64 0), .v (.string ByteArray.empty), .v (.int .i64 0), .o 1 [], .o 5 []]
abbrev KB (k : Int) (ks vs : Rows) : List AV := [.v (.int .i64 k), .v (.string ByteArray.empty), .v (.int .i64 0), .o 1 ks, .o 5 vs]
theorem val_rows {l : Rows} (h : SL E 33 l) {m : Nat} (hm : m < l.length) : ShL E (E 33) (row_ l m) := by
 rw [row_at hm]
 exact h.at (List.getElem?_eq_getElem hm)
theorem key_rows {l : Rows} (h : SL E 9 l) {m : Nat} (hm : m < l.length) : ∃ w : ByteArray, row_ l m = [.v (.string w)] := by
 have w := h.at (List.getElem?_eq_getElem hm)
 rw [row_at hm]
 generalize l[m] = x at w ⊢
 obtain ⟨sx0, rfl, px0⟩ := I9 w
 exact ⟨_, rfl⟩
theorem take_row {l : Rows} {m : Nat} (hm : m < l.length) : l.take m ++ [row_ l m] = l.take (m + 1) := by
 rw [row_at hm, List.take_succ_eq_append_getElem hm]
structure KidAt (d : Nat) (v : Row) (m : Nat) : Prop where
 val : 0 < valSz d (row_ (cR v 4) m)
 key : cN v 0 = 5 → nameOk (cT (row_ (cR v 3) m) 0) = true
theorem kidAt {d : Nat} {v : Row} (h : 0 < valSz (d + 1) v) {m : Nat} (hm : m < (cR v 4).length) : KidAt d v m := by
 have hv := valAt h
 refine ⟨hv.kids _ (row_mem hm), fun h5 => ?_⟩
 obtain ⟨h1, h2⟩ := shape_keys hv.shape h5
 simp only [namesOk, keysB, Bool.and_eq_true, allN_iff] at h2
 exact (h2.1 m (by omega)).1
theorem kid_head {d : Nat} {v : Row} (h : 0 < valSz (d + 1) v) (h45 : cN v 0 = 4 ∨ cN v 0 = 5) {m : Nat} (hm : m < (cR v 4).length) : ∃ c l, kidL d v m = c :: l ∧ c ≠ 93 ∧ c ≠ 125 ∧ c ≠ 44 := by
 have k := kidAt h hm
 rcases h45 with h4 | h5
 ·rw [kidL4 h4]
  have hv := k.val
  cases d with
  | zero => simp [valSz] at hv
  | succ d => exact val_head hv
 ·rw [kidL5 h5]
  obtain ⟨n1, n2, _⟩ := name_ch (k.key h5)
  cases hl : (cT (row_ (cR v 3) m) 0).toList with
  | nil => rw [hl] at n2; simp at n2
  | cons c l =>
   have := nameCh_ne (n1 c (by rw [hl]; simp))
   exact ⟨c, _, rfl, this.2.2.2.2.1, this.2.2.1, this.2.2.2.1⟩
theorem jt_stop {f : Nat → List UInt8} {n m : Nat} {e : UInt8} {r : List UInt8} (he : e = 93 ∨ e = 125) : Stop (jt f n (m + 1) ++ e :: r) := by
 cases n with
 | zero => exact Stop.cons (by rcases he with h | h <;> simp [h])
 | succ n =>
  have : jt f (n + 1) (m + 1) = 44 :: (f (m + 1) ++ jt f n (m + 1 + 1)) := by rw [jt]; rfl
  rw [this]
  exact Stop.cons (.inl rfl)
theorem jt_ne {d : Nat} {v : Row} (h : 0 < valSz (d + 1) v) (h45 : cN v 0 = 4 ∨ cN v 0 = 5) {n m : Nat} (hm : m < (cR v 4).length) : ∃ c l, jt (kidL d v) (n + 1) m = c :: l ∧ c ≠ 93 ∧ c ≠ 125 := by
 cases m with
 | zero =>
  obtain ⟨c, l, h1, h2, h3, _⟩ := kid_head h h45 hm
  exact ⟨c, l ++ jt (kidL d v) n 1, by rw [jt, h1]; rfl, h2, h3⟩
 | succ m => exact ⟨44, _, by rw [jt]; rfl, by decide, by decide⟩
theorem len0 {l : Rows} (h : ((l.length : Int) == 0) = true) : l = [] := List.length_eq_zero_iff.1 (by simpa using h)
theorem shape1 {s : ByteArray} {n : Int} {ks vs : Rows} (h : shapeB 1 s n ks vs = true) : textOk s = true ∧ n = 0 ∧ ks = [] ∧ vs = [] := by
 have h : (textOk s && ((n == 0) && (((ks.length : Int) == 0) && ((vs.length : Int) == 0)))) = true := h
 simp only [Bool.and_eq_true] at h
 exact ⟨h.1, by simpa using h.2.1, len0 h.2.2.1, len0 h.2.2.2⟩
theorem shape2 {s : ByteArray} {n : Int} {ks vs : Rows} (h : shapeB 2 s n ks vs = true) : s = ⟨#[]⟩ ∧ ks = [] ∧ vs = [] := by
 have h : (bare s && (((ks.length : Int) == 0) && ((vs.length : Int) == 0))) = true := h
 simp only [Bool.and_eq_true] at h
 exact ⟨bare_eq h.1, len0 h.2.1, len0 h.2.2⟩
theorem shape3 {s : ByteArray} {n : Int} {ks vs : Rows} (h : shapeB 3 s n ks vs = true) : s = ⟨#[]⟩ ∧ (n = 0 ∨ n = 1) ∧ ks = [] ∧ vs = [] := by
 have h : (bare s && (inB n 0 1 && (((ks.length : Int) == 0) && ((vs.length : Int) == 0)))) = true := h
 simp only [Bool.and_eq_true, inB, decide_eq_true_eq] at h
 exact ⟨bare_eq h.1, by omega, len0 h.2.2.1, len0 h.2.2.2⟩
theorem shape4 {s : ByteArray} {n : Int} {ks vs : Rows} (h : shapeB 4 s n ks vs = true) : s = ⟨#[]⟩ ∧ n = 0 ∧ ks = [] := by
 have h : (bare s && ((n == 0) && ((ks.length : Int) == 0))) = true := h
 simp only [Bool.and_eq_true] at h
 exact ⟨bare_eq h.1, by simpa using h.2.1, len0 h.2.2⟩
theorem shape5 {s : ByteArray} {n : Int} {ks vs : Rows} (h : shapeB 5 s n ks vs = true) : s = ⟨#[]⟩ ∧ n = 0 ∧ ks.length = vs.length := by
 have h : (namesOk ks 300 && (((ks.length : Int) == (vs.length : Int)) && (bare s && (n == 0)))) = true := h
 simp only [Bool.and_eq_true, beq_iff_eq] at h
 exact ⟨bare_eq h.2.2.1, by simpa using h.2.2.2, by omega⟩
theorem ne_head {c c' : UInt8} {l : List UInt8} (h : c ≠ c') : ∀ r, c :: l ≠ c' :: r := fun r e => h (List.cons.inj e).1
theorem beq_self (a : ByteArray) : bytesEq a a = true := by simp [bytesEq]
theorem bytes_eq {a c : ByteArray} (h : bytesEq a c = true) : a = c := by
 have h : a.toList = c.toList := by simpa [bytesEq] using h
 rw [← bOf_toList a, h, bOf_toList]
theorem key_cells {l : Rows} (h : SL E 9 l) : cnRows l = l.length := by
 have key : ∀ {l : Rows}, ShR E (E 9) l → cnRows l = l.length := by
  intro l
  induction l with
  | nil => intro _; simp [cnRows]
  | cons r l ih =>
   intro h
   cases h with
   | cons h h' =>
    have e := ih h'
    obtain ⟨w, rfl⟩ : ∃ w : ByteArray, r = [.v (.string w)] := by
     obtain ⟨sx0, rfl, px0⟩ := I9 h
     exact ⟨_, rfl⟩
    simp only [cnRows, cnRow, e, List.length_cons]
    omega
 exact key h.2
theorem val_cells : ∀ (d : Nat) {v : Row}, ShL E (E 33) v → 0 < valSz d v → ((cnRow v : Nat) : Int) + 1 ≤ 5 * valSz d v := by
 intro d
 induction d with
 | zero => intro v _ h; simp [valSz] at h
 | succ d ih =>
  intro v hv hz
  have hva := valAt hz
  obtain ⟨na0, sa1, na2, la3, la4, rfl, pa0, pa1, pa2, pa3, pa4⟩ := I33 hv
  have hsh : shapeB na0 sa1 na2 la3 la4 = true := hva.shape
  have hk : la3.length ≤ la4.length := by
   rcases shape_kind hsh with rfl | rfl | rfl | rfl | rfl
   ·rw [(shape1 hsh).2.2.1]; simp
   ·rw [(shape2 hsh).2.1]; simp
   ·rw [(shape3 hsh).2.2.1]; simp
   ·rw [(shape4 hsh).2.2]; simp
   ·exact Nat.le_of_eq (shape5 hsh).2.2
  have key : ∀ l : Rows, ShR E (E 33) l → (∀ x ∈ l, 0 < valSz d x) → ((cnRows l : Nat) : Int) + (l.length : Int) ≤ 5 * (l.map (valSz d)).sum := by
   intro l
   induction l with
   | nil => intro _ _; simp [cnRows]
   | cons r l ihl =>
    intro h hp
    cases h with
    | cons h h' =>
     have e1 := ihl h' fun x hx => hp x (by simp [hx])
     have e2 := ih h (hp r (by simp))
     simp only [cnRows, List.length_cons, List.map_cons, List.sum_cons]
     omega
  have e1 := key la4 pa4.2 hva.kids
  have e2 : valSz (d + 1) [.v (.int .i64 na0), .v (.string sa1), .v (.int .i64 na2), .s 1 la3, .s 5 la4] = 1 + (la4.map (valSz d)).sum := hva.sum
  rw [e2]
  simp only [cnRow, key_cells pa3]
  omega
def IsTxt (s : ByteArray) (v : Row) : Prop := ShL E (E 33) v ∧ valueOk v = true ∧ s = vTxt 6 v
theorem ok_size {v : Row} (h : valueOk v = true) : 0 < valSz 6 v := by simpa [valueOk] using h
end Go.Am.Pp
