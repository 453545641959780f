/- AM: what a call gives is opened at once. Nothing is assumed. -/
import Derived.Test.YtgnicnelpcndgaaAmCut
set_option linter.unusedVariables false
set_option linter.unusedSimpArgs false
namespace Go.Am
section
variable {X : Nat → Prop} {Z : Nat → Prop} {R : Type} {r : R}
/-- Own things come in, and stand in the memory. -/
def InOk (X : Nat → Prop) (Z : Nat → Prop) (m m' : Mem) (own : World → List Nat → Prop) (rel : World → List Hd → Prop) : Prop :=
  ∀ (w : World) (hs : List Hd) (c cd : List Nat), MemL w Z hs hs m c → own w cd → ∃ hs' c', Ext hs hs' ∧ MemL w Z hs' hs' m' c' ∧ (∀ b, c'.count b ≤ (c ++ cd).count b) ∧ rel w hs'
theorem outCell_some {k : Kd} {d : D} {m : Mem} {K : AV → Mem → Option R} (h : outCell false k d m K = some r) :
    ∃ x m', K x m' = some r ∧ ∀ v, InOk X Z m m' (fun w cd => OwnD w d v cd) (fun w hs => ARel X w Z hs x v) := by
  have scal : ∀ x, d = .v x → K (.v x) m = some r → ∃ x m', K x m' = some r ∧ ∀ v, InOk X Z m m' (fun w cd => OwnD w d v cd) (fun w hs => ARel X w Z hs x v) := by
    intro x e hK
    subst e
    refine ⟨_, _, hK, fun v w hs c cd hm ho => ?_⟩
    cases ho with
    | v h => exact ⟨hs, c, Ext.refl _, hm, fun b => by simp, .v h⟩
  cases k with
  | i k => obtain ⟨n, e, h'⟩ := dI_some (by simpa only [outCell] using h); exact scal _ e h'
  | b => obtain ⟨n, e, h'⟩ := dB_some (by simpa only [outCell] using h); exact scal _ e h'
  | s => obtain ⟨n, e, h'⟩ := dS_some (by simpa only [outCell] using h); exact scal _ e h'
  | sl wd =>
    obtain ⟨rows, e, h'⟩ := dL_some (by simpa only [outCell] using h)
    subst e
    refine ⟨_, _, h', fun v w hs c cd hm ho => ?_⟩
    obtain ⟨hd, h1, _, h3⟩ := own_node (Z := Z) ho
    refine ⟨hs ++ [hd], c ++ cd, Ext.append _ _, (hm.frame (fun _ h => h) (fun _ _ => rfl) (fun _ _ => rfl) (Ext.append _ _)).append (h3 _), fun _ => Nat.le_refl _, ?_⟩
    show ARel X w Z (hs ++ [hd]) (.r m.length) v
    rw [h1]
    exact .r (by rw [← hm.length]; simp)
theorem OwnL.head {w : World} {d : D} {ds : List D} {vs : List Value} {c : List Nat} (h : OwnL w (d :: ds) vs c) : ∃ v vs' c1 c2, vs = v :: vs' ∧ c = c1 ++ c2 ∧ OwnD w d v c1 ∧ OwnL w ds vs' c2 := by
  cases h with | cons h h' => exact ⟨_, _, _, _, rfl, rfl, h, h'⟩
theorem outCells_ok {ks : List Kd} : ∀ {row : Row} {j : Nat} {m : Mem} {K : List AV → Mem → Option R}, outCells false ks row j m K = some r →
    ∃ xs m', K xs m' = some r ∧ ∀ vs, InOk X Z m m' (fun w cd => OwnL w (row.drop j) vs cd) (fun w hs => ARelL X w Z hs xs (vs.take ks.length) ∧ ks.length ≤ vs.length) := by
  induction ks with
  | nil =>
    intro row j m K h
    exact ⟨[], m, h, fun vs w hs c cd hm ho => ⟨hs, c, Ext.refl _, hm, fun b => by rw [List.count_append]; omega, by simpa using ARelL.nil, by simp⟩⟩
  | cons k ks ih =>
    intro row j m K h
    simp only [outCells] at h
    obtain ⟨d, hd, h⟩ := cell_some h
    obtain ⟨x, m1, h1, g1⟩ := outCell_some (X := X) (Z := Z) h
    obtain ⟨xs, m2, h2, g2⟩ := ih h1
    refine ⟨x :: xs, m2, h2, fun vs w hs c cd hm ho => ?_⟩
    have hlt : j < row.length := (List.getElem?_eq_some_iff.1 hd).1
    have e : row.drop j = d :: row.drop (j + 1) := by
      rw [List.drop_eq_getElem_cons hlt, (List.getElem?_eq_some_iff.1 hd).2]
    rw [e] at ho
    obtain ⟨v, vs', c1, c2, rfl, rfl, o1, o2⟩ := ho.head
    obtain ⟨hs1, c3, a1, a2, a3, a4⟩ := g1 v w hs c c1 hm o1
    obtain ⟨hs2, c4, b1, b2, b3, b4, b5⟩ := g2 vs' w hs1 c3 c2 a2 o2
    refine ⟨hs2, c4, fun id h hh => b1 _ _ (a1 _ _ hh), b2, fun b => ?_, ?_, ?_⟩
    · have := a3 b
      have := b3 b
      simp only [List.count_append] at *
      omega
    · simpa using ARelL.cons (a4.frame (fun _ h => h) (fun _ _ => rfl) b1) b4
    · simpa using b5
theorem oD_some {x : I} {K : D → Option R} (h : oD x K = some r) : ∃ d, x = .d d ∧ K d = some r := by
  unfold oD at h
  split at h
  · exact ⟨_, rfl, h⟩
  · simp at h
theorem oG_some {x : I} {K : Row → Option R} (h : oG x K = some r) : ∃ d, x = .g d ∧ K d = some r := by
  unfold oG at h
  split at h
  · exact ⟨_, rfl, h⟩
  · simp at h
theorem oP_some {x : I} {K : Row → Option R} (h : oP x K = some r) : ∃ d, x = .p d ∧ K d = some r := by
  unfold oP at h
  split at h
  · exact ⟨_, rfl, h⟩
  · simp at h
theorem oT_some {x : I} {K : List I → Option R} (h : oT x K = some r) : ∃ d, x = .t d ∧ K d = some r := by
  unfold oT at h
  split at h
  · exact ⟨_, rfl, h⟩
  · simp at h
theorem nth_some {xs : List I} {i : Nat} {K : I → Option R} (h : nth xs i K = some r) : ∃ x, xs[i]? = some x ∧ K x = some r := by
  unfold nth at h
  split at h
  · rename_i x e; exact ⟨x, e, h⟩
  · simp at h
theorem callT_some {T : Table} {fn : Nat} {xs : List I} {K : Out → Option R} (h : callT T fn xs K = some r) : ∃ o, T fn xs = some o ∧ K o = some r := by
  unfold callT at h
  split at h
  · rename_i x e; exact ⟨x, e, h⟩
  · simp at h
theorem outOne_ok {k : RK} {x : I} {m : Mem} {K : AV → Mem → Option R} (h : outOne false k x m K = some r) :
    ∃ y m', K y m' = some r ∧ ∀ v, InOk X Z m m' (fun w cd => IOwn X w x v cd) (fun w hs => ARel X w Z hs y v) := by
  cases k with
  | c k =>
    simp only [outOne] at h
    obtain ⟨d, rfl, h⟩ := oD_some h
    obtain ⟨y, m', h1, g⟩ := outCell_some (X := X) (Z := Z) h
    exact ⟨y, m', h1, fun v w hs c cd hm ho => by cases ho with | d ho => exact g v w hs c cd hm ho⟩
  | g ks =>
    simp only [outOne] at h
    obtain ⟨row, rfl, h⟩ := oG_some h
    obtain ⟨hl, h⟩ := tst_some h
    have hl := Nat.eq_of_beq_eq_true hl
    obtain ⟨xs, m', h1, g⟩ := outCells_ok (X := X) (Z := Z) h
    refine ⟨_, m', h1, fun v w hs c cd hm ho => ?_⟩
    cases ho with
    | @g _ vs _ ho =>
      obtain ⟨hs', c', a1, a2, a3, a4, a5⟩ := g vs.toList w hs c cd hm (by simpa using ho)
      have : vs.toList.take ks.length = vs.toList := by
        have := ho.length
        rw [← hl, ← this, List.take_length]
      rw [this] at a4
      exact ⟨hs', c', a1, a2, a3, .g a4⟩
theorem IOwnL.head {w : World} {d : I} {ds : List I} {vs : List Value} {c : List Nat} (h : IOwnL X w (d :: ds) vs c) : ∃ v vs' c1 c2, vs = v :: vs' ∧ c = c1 ++ c2 ∧ IOwn X w d v c1 ∧ IOwnL X w ds vs' c2 := by
  cases h with | cons h h' => exact ⟨_, _, _, _, rfl, rfl, h, h'⟩
theorem outMany_ok {ks : List RK} : ∀ {is : List I} {j : Nat} {m : Mem} {K : List AV → Mem → Option R}, outMany false ks is j m K = some r →
    ∃ xs m', K xs m' = some r ∧ ∀ vs, InOk X Z m m' (fun w cd => IOwnL X w (is.drop j) vs cd) (fun w hs => ARelL X w Z hs xs (vs.take ks.length) ∧ ks.length ≤ vs.length) := by
  induction ks with
  | nil =>
    intro is j m K h
    exact ⟨[], m, h, fun vs w hs c cd hm ho => ⟨hs, c, Ext.refl _, hm, fun b => by rw [List.count_append]; omega, by simpa using ARelL.nil, by simp⟩⟩
  | cons k ks ih =>
    intro is j m K h
    simp only [outMany] at h
    obtain ⟨d, hd, h⟩ := nth_some h
    obtain ⟨x, m1, h1, g1⟩ := outOne_ok (X := X) (Z := Z) h
    obtain ⟨xs, m2, h2, g2⟩ := ih h1
    refine ⟨x :: xs, m2, h2, fun vs w hs c cd hm ho => ?_⟩
    have hlt : j < is.length := (List.getElem?_eq_some_iff.1 hd).1
    have e : is.drop j = d :: is.drop (j + 1) := by
      rw [List.drop_eq_getElem_cons hlt, (List.getElem?_eq_some_iff.1 hd).2]
    rw [e] at ho
    obtain ⟨v, vs', c1, c2, rfl, rfl, o1, o2⟩ := ho.head
    obtain ⟨hs1, c3, a1, a2, a3, a4⟩ := g1 v w hs c c1 hm o1
    obtain ⟨hs2, c4, b1, b2, b3, b4, b5⟩ := g2 vs' w hs1 c3 c2 a2 o2
    refine ⟨hs2, c4, fun id h hh => b1 _ _ (a1 _ _ hh), b2, fun b => ?_, ?_, ?_⟩
    · have := a3 b
      have := b3 b
      simp only [List.count_append] at *
      omega
    · simpa using ARelL.cons (a4.frame (fun _ h => h) (fun _ _ => rfl) b1) b4
    · simpa using b5
theorem IOwnL.length {w : World} {xs : List I} : ∀ {vs : List Value} {c : List Nat}, IOwnL X w xs vs c → vs.length = xs.length := by
  induction xs with
  | nil => intro vs c h; cases h; rfl
  | cons x xs ih => intro vs c h; cases h with | cons h h' => simp [ih h']
theorem outAll_ok {ks : List RK} {x : I} {m : Mem} {K : AV → Mem → Option R} (h : outAll false ks x m K = some r) :
    ∃ y m', K y m' = some r ∧ ∀ v, InOk X Z m m' (fun w cd => IOwn X w x v cd) (fun w hs => ARel X w Z hs y v) := by
  unfold outAll at h
  split at h
  · exact outOne_ok h
  · obtain ⟨is, rfl, h⟩ := oT_some h
    obtain ⟨hl, h⟩ := tst_some h
    have hl := Nat.eq_of_beq_eq_true hl
    obtain ⟨xs, m', h1, g⟩ := outMany_ok (X := X) (Z := Z) h
    refine ⟨_, m', h1, fun v w hs c cd hm ho => ?_⟩
    cases ho with
    | @t _ vs _ ho =>
      obtain ⟨hs', c', a1, a2, a3, a4, a5⟩ := g vs.toList w hs c cd hm (by simpa using ho)
      have : vs.toList.take ks.length = vs.toList := by
        have := ho.length
        rw [← hl, ← this, List.take_length]
      rw [this] at a4
      exact ⟨hs', c', a1, a2, a3, .t a4⟩
end
end Go.Am
