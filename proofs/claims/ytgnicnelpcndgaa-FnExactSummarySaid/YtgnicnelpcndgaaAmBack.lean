/- AM: what was lent comes back into its place. Nothing is assumed. -/
import Derived.Test.YtgnicnelpcndgaaAmOut
set_option linter.unusedVariables false
set_option linter.unusedSimpArgs false
namespace Go.Am
section
variable {X : Nat → Prop} {Z : Nat → Prop} {R : Type} {r : R}
theorem MemL.put {w : World} {hs l : List Hd} {m : Mem} {c cn : List Nat} (rel : MemL w Z hs l m c) {id : Nat} {h : Hd} {n : Node} (hid : l[id]? = some h) (hn : NodeRel w Z hs h n cn) :
    ∃ c', MemL w Z hs l (m.set id (some n)) c' ∧ ∀ b, c'.count b ≤ (c ++ cn).count b := by
  induction rel generalizing id with
  | nil => simp at hid
  | @dead h0 l m c rel ih => cases id with
    | zero =>
      simp at hid; subst hid
      exact ⟨cn ++ c, by simpa using MemL.live hn rel, fun b => by simp only [List.count_append]; omega⟩
    | succ id =>
      obtain ⟨c', h1, h2⟩ := ih (by simpa using hid)
      exact ⟨c', by simpa using MemL.dead h1, h2⟩
  | @live h0 l n0 m c0 c' hn0 rel ih => cases id with
    | zero =>
      simp at hid; subst hid
      exact ⟨cn ++ c', by simpa using MemL.live hn rel, fun b => by simp only [List.count_append]; omega⟩
    | succ id =>
      obtain ⟨c2, h1, h2⟩ := ih (by simpa using hid)
      exact ⟨c0 ++ c2, by simpa using MemL.live hn0 h1, fun b => by have := h2 b; simp only [List.count_append] at *; omega⟩
/-- One array back. -/
theorem back_one {w : World} {hs : List Hd} {m : Mem} {c cd : List Nat} (hm : MemL w Z hs hs m c) {id : Nat} {h : Hd} (hid : hs[id]? = some h) {wd : Nat} (hwd : h.wd = wd) {rows : Rows}
    (ho : OwnD w (.s wd rows) (.slice h.base h.len h.cap) cd) : ∃ c', MemL w Z hs hs (m.set id (some ⟨wd, rows, []⟩)) c' ∧ ∀ b, c'.count b ≤ (c ++ cd).count b := by
  obtain ⟨hd, h1, h2, h3⟩ := own_node (Z := Z) ho
  have : hd = h := by
    obtain ⟨x1, x2, x3, x4⟩ := hd
    obtain ⟨y1, y2, y3, y4⟩ := h
    simp only [Value.slice.injEq] at h1
    simp only at h2 hwd
    simp [h1.1, h1.2.1, h1.2.2, h2, hwd]
  subst this
  exact hm.put hid (h3 hs)
theorem backCells_ok {m0 : Mem} (xs : List AV) : ∀ {m : Mem} {row : Row} {j : Nat} {K : Mem → Option R}, backCells m0 m xs row j K = some r →
    ∃ m', K m' = some r ∧ ∀ (w0 w : World) (hs : List Hd) (c cd cm : List Nat) (vs : List Value), MemL w0 Z hs hs m0 cm → MemL w Z hs hs m c → ARelL X w0 Z hs xs vs → OwnL w (row.drop j) vs cd →
      ∃ c', MemL w Z hs hs m' c' ∧ ∀ b, c'.count b ≤ (c ++ cd).count b := by
  induction xs with
  | nil =>
    intro m row j K h
    exact ⟨m, h, fun w0 w hs c cd cm vs _ hm _ _ => ⟨c, hm, fun b => by rw [List.count_append]; omega⟩⟩
  | cons x xs ih =>
    have drop1 : ∀ {w : World} {row : Row} {j : Nat} {v : Value} {vs : List Value} {cd : List Nat}, OwnL w (row.drop j) (v :: vs) cd →
        ∃ d c1 c2, row[j]? = some d ∧ cd = c1 ++ c2 ∧ OwnD w d v c1 ∧ OwnL w (row.drop (j + 1)) vs c2 := by
      intro w row j v vs cd ho
      have hl := ho.length
      have hlt : j < row.length := by simp at hl; omega
      rw [List.drop_eq_getElem_cons hlt] at ho
      cases ho with | cons h h' => exact ⟨_, _, _, List.getElem?_eq_getElem hlt, rfl, h, h'⟩
    intro m row j K h
    have skip : backCells m0 m xs row (j + 1) K = some r → ∃ m', K m' = some r ∧ ∀ (w0 w : World) (hs : List Hd) (c cd cm : List Nat) (vs : List Value), MemL w0 Z hs hs m0 cm → MemL w Z hs hs m c → ARelL X w0 Z hs (x :: xs) vs → OwnL w (row.drop j) vs cd →
        ∃ c', MemL w Z hs hs m' c' ∧ ∀ b, c'.count b ≤ (c ++ cd).count b := by
      intro h
      obtain ⟨m', h1, g⟩ := ih h
      refine ⟨m', h1, fun w0 w hs c cd cm vs hm0 hm hx ho => ?_⟩
      cases hx with
      | cons hx hx' =>
        obtain ⟨d, c1, c2, _, rfl, _, o2⟩ := drop1 ho
        obtain ⟨c', a1, a2⟩ := g w0 w hs c c2 cm _ hm0 hm hx' o2
        exact ⟨c', a1, fun b => by have := a2 b; simp only [List.count_append] at *; omega⟩
    cases x with
    | r id =>
      simp only [backCells] at h
      split at h
      · rename_i n hn
        obtain ⟨d, hd, h⟩ := cell_some h
        obtain ⟨rows, rfl, h'⟩ := dL_some h
        obtain ⟨m', h1, g⟩ := ih h'
        refine ⟨m', h1, fun w0 w hs c cd cm vs hm0 hm hx ho => ?_⟩
        cases hx with
        | cons hx hx' =>
          obtain ⟨d', c1, c2, e1, rfl, o1, o2⟩ := drop1 ho
          rw [hd] at e1
          cases e1
          cases hx with
          | r hh =>
            obtain ⟨hd', _, cn, _, f1, _, f3, _⟩ := hm0.at hn
            rw [f1] at hh
            cases hh
            obtain ⟨c3, b1, b2⟩ := back_one hm f1 f3.wd o1
            obtain ⟨c', a1, a2⟩ := g w0 w hs c3 c2 cm _ hm0 b1 hx' o2
            exact ⟨c', a1, fun b => by have := a2 b; have := b2 b; simp only [List.count_append] at *; omega⟩
      · simp at h
    | _ => exact skip (by simpa only [backCells] using h)
theorem backI_ok {m0 m : Mem} {x : AV} {i : I} {K : Mem → Option R} (h : backI m0 m x i K = some r) :
    ∃ m', K m' = some r ∧ ∀ (w0 w : World) (hs : List Hd) (c cd cm : List Nat) (v : Value), MemL w0 Z hs hs m0 cm → MemL w Z hs hs m c → ARel X w0 Z hs x v → IOwn X w i v cd →
      ∃ c', MemL w Z hs hs m' c' ∧ ∀ b, c'.count b ≤ (c ++ cd).count b := by
  unfold backI at h
  split at h
  · obtain ⟨row, rfl, h⟩ := oG_some h
    obtain ⟨m', h1, g⟩ := backCells_ok (X := X) (Z := Z) _ h
    refine ⟨m', h1, fun w0 w hs c cd cm v hm0 hm hx ho => ?_⟩
    cases hx with
    | g hx => cases ho with | g ho => exact g w0 w hs c cd cm _ hm0 hm hx (by simpa using ho)
  · rename_i id
    split at h
    · rename_i n hn
      obtain ⟨d, rfl, h⟩ := oD_some h
      obtain ⟨rows, rfl, h'⟩ := dL_some h
      refine ⟨_, h', fun w0 w hs c cd cm v hm0 hm hx ho => ?_⟩
      cases hx with
      | r hh =>
        obtain ⟨hd', _, cn, _, f1, _, f3, _⟩ := hm0.at hn
        rw [f1] at hh
        cases hh
        cases ho with | d o1 => exact back_one hm f1 f3.wd o1
    · simp at h
  · simp at h
theorem backArgs_ok {m0 : Mem} {is : List I} (ms : List Mode) : ∀ {m : Mem} {xs : List AV} {j : Nat} {K : Mem → Option R}, backArgs m0 m ms xs is j K = some r →
    ∃ m', K m' = some r ∧ ∀ (w0 w : World) (hs : List Hd) (c cd cm : List Nat) (vs : List Value), MemL w0 Z hs hs m0 cm → MemL w Z hs hs m c → ARelL X w0 Z hs xs vs → BackRel X w ms vs (is.drop j) cd →
      ∃ c', MemL w Z hs hs m' c' ∧ ∀ b, c'.count b ≤ (c ++ cd).count b := by
  induction ms with
  | nil =>
    intro m xs j K h
    exact ⟨m, by simpa only [backArgs] using h, fun w0 w hs c cd cm vs _ hm _ _ => ⟨c, hm, fun b => by rw [List.count_append]; omega⟩⟩
  | cons md ms ih =>
    intro m xs j K h
    cases xs with
    | nil => exact ⟨m, by cases md <;> simpa only [backArgs] using h, fun w0 w hs c cd cm vs _ hm _ _ => ⟨c, hm, fun b => by rw [List.count_append]; omega⟩⟩
    | cons x xs =>
      cases md with
      | rd =>
        obtain ⟨m', h1, g⟩ := ih (by simpa only [backArgs] using h)
        refine ⟨m', h1, fun w0 w hs c cd cm vs hm0 hm hx ho => ?_⟩
        cases hx with
        | cons hx hx' => generalize is.drop j = l at *; cases ho with | rd ho => exact g w0 w hs c cd cm _ hm0 hm hx' ho
      | own =>
        obtain ⟨m', h1, g⟩ := ih (by simpa only [backArgs] using h)
        refine ⟨m', h1, fun w0 w hs c cd cm vs hm0 hm hx ho => ?_⟩
        cases hx with
        | cons hx hx' => generalize is.drop j = l at *; cases ho with | own ho => exact g w0 w hs c cd cm _ hm0 hm hx' ho
      | lent =>
        simp only [backArgs] at h
        obtain ⟨i, hi, h⟩ := nth_some h
        obtain ⟨m1, h1, g1⟩ := backI_ok (X := X) (Z := Z) h
        obtain ⟨m', h2, g2⟩ := ih h1
        refine ⟨m', h2, fun w0 w hs c cd cm vs hm0 hm hx ho => ?_⟩
        have hlt : j < is.length := (List.getElem?_eq_some_iff.1 hi).1
        have e : is.drop j = i :: is.drop (j + 1) := by
          rw [List.drop_eq_getElem_cons hlt, (List.getElem?_eq_some_iff.1 hi).2]
        rw [e] at ho
        cases hx with
        | cons hx hx' =>
          cases ho with
          | lent o1 o2 =>
            obtain ⟨c3, b1, b2⟩ := g1 w0 w hs c _ cm _ hm0 hm hx o1
            obtain ⟨c', a1, a2⟩ := g2 w0 w hs c3 _ cm _ hm0 b1 hx' o2
            exact ⟨c', a1, fun b => by have := a2 b; have := b2 b; simp only [List.count_append] at *; omega⟩
end
end Go.Am
