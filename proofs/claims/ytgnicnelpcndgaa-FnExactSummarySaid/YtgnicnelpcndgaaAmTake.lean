/- AM: what is taken out of the memory of an activation is an own tree. Nothing is assumed. -/
import Derived.Test.YtgnicnelpcndgaaAmView
set_option linter.unusedVariables false
set_option linter.unusedSimpArgs false
namespace Go.Am
section
variable {X : Nat → Prop} {w : World} {Z : Nat → Prop} {hs : List Hd}
theorem findO_none {i c : Nat} {l : Opens} (h : ∀ e ∈ l, e.1 ≠ (i, c)) : findO i c l = none := by
  induction l with
  | nil => rfl
  | cons e l ih =>
    obtain ⟨⟨i', c'⟩, x⟩ := e
    have h0 := h _ List.mem_cons_self
    simp only [findO]
    have : ¬ (c = c' ∧ i = i') := fun h' => h0 (by simp [h'.1, h'.2])
    simp [this, ih fun e he => h e (by simp [he])]
theorem view_close {wd : Nat} {rows : Rows} (hw : ∀ r ∈ rows, r.length = wd) {i c : Nat} (hi : i < rows.length) (hc : c < wd) (x : AV) (l : Opens) (hn : findO i c l = none) (d : D) :
    viewRows l 0 (setD rows i c d) = (viewRows (((i, c), x) :: l) 0 rows).set (i * wd + c) d.up := by
  refine view_ext hw (setD_wd hw i c d) hi hc (setD_length ..) _ fun a b hb => ?_
  simp only [setD_get, findO]
  by_cases hab : b = c ∧ a = i
  · obtain ⟨rfl, rfl⟩ := hab
    have hr : rows[a]? = some rows[a] := List.getElem?_eq_getElem hi
    have hl : b < (rows[a]).length := by rw [hw _ (List.getElem_mem hi)]; exact hc
    simp [hr, hl, hn]
  · simp only [hab, if_false]
    by_cases ha : a = i
    · subst ha
      have hbc : ¬ c = b := fun h => hab ⟨h.symm, rfl⟩
      cases h : rows[a]? with
      | none => simp
      | some r => simp [hbc]
    · simp [ha]
/-- The view without anything open is the data. -/
theorem viewRows_nil (rows : Rows) (i : Nat) : viewRows [] i rows = rows.flatten.map D.up := by
  have h1 : ∀ (r : Row) i j, viewRow [] i j r = r.map D.up := by
    intro r; induction r with
    | nil => intros; rfl
    | cons d ds ih => intros; simp [viewRow, findO, ih]
  induction rows generalizing i with
  | nil => rfl
  | cons r rs ih => simp [viewRows, h1, ih]
theorem CRel.own {d : D} {v : Value} {c : List Nat} (h : CRel w Z hs d.up v c) : OwnD w d v c := by
  cases d with
  | v x => cases h with | v h => exact .v h
  | s wd rows => cases h with | o h => exact h
theorem CRel.of_own {d : D} {v : Value} {c : List Nat} (h : OwnD w d v c) : CRel w Z hs d.up v c := by
  cases h with
  | v h => exact .v h
  | z => exact .o .z
  | s h1 h2 h3 h4 h5 => exact .o (.s h1 h2 h3 h4 h5)
theorem CRelL.own {ds : List D} {vs : List Value} {c : List Nat} (h : CRelL w Z hs (ds.map D.up) vs c) : OwnL w ds vs c := by
  induction ds generalizing vs c with
  | nil => cases h; exact .nil
  | cons d ds ih => cases h with | cons h h' => exact .cons h.own (ih h')
theorem CRelL.of_own {ds : List D} {vs : List Value} {c : List Nat} (h : OwnL w ds vs c) : CRelL w Z hs (ds.map D.up) vs c := by
  induction ds generalizing vs c with
  | nil => cases h; exact .nil
  | cons d ds ih => cases h with | cons h h' => exact .cons (.of_own h) (ih h')
theorem set_same {α : Type} {l : List α} {k : Nat} {x : α} (h : l[k]? = some x) : l.set k x = l := by
  apply List.ext_getElem?
  intro j
  rw [List.getElem?_set]
  split
  · rename_i e; subst e; rw [h]; have := List.getElem?_eq_some_iff.1 h; simp [this.1]
  · rfl
theorem closeOpens_ok (f : Mem → Nat → Option (D × Mem))
    (hf : ∀ m id d m' c, f m id = some (d, m') → MemL w Z hs hs m c → ∃ h c' cd, hs[id]? = some h ∧ OwnD w d (.slice h.base h.len h.cap) cd ∧ MemL w Z hs hs m' c' ∧ ∀ b, (c' ++ cd).count b = c.count b)
    {wd : Nat} (l : Opens) : ∀ (m : Mem) (rows : Rows) (rows' : Rows) (m' : Mem) (c cv : List Nat) (vs : List Value),
      closeOpens f m rows l = some (rows', m') → MemL w Z hs hs m c → (∀ r ∈ rows, r.length = wd) → (∀ e ∈ l, e.1.1 < rows.length ∧ e.1.2 < wd) → (l.Pairwise fun e e' => e.1 ≠ e'.1) →
      CRelL w Z hs (viewRows l 0 rows) vs cv →
      ∃ c' cv', rows'.length = rows.length ∧ (∀ r ∈ rows', r.length = wd) ∧ OwnL w rows'.flatten vs cv' ∧ MemL w Z hs hs m' c' ∧ ∀ b, (c' ++ cv').count b = (c ++ cv).count b := by
  induction l with
  | nil =>
    intro m rows rows' m' c cv vs h hm hw _ _ hv
    simp only [closeOpens, Option.some.injEq, Prod.mk.injEq] at h
    obtain ⟨rfl, rfl⟩ := h
    rw [viewRows_nil] at hv
    exact ⟨c, cv, rfl, hw, hv.own, hm, fun b => rfl⟩
  | cons e l ih =>
    obtain ⟨⟨i, c0⟩, x⟩ := e
    intro m rows rows' m' c cv vs h hm hw ho hk hv
    simp only [closeOpens] at h
    split at h
    · rename_i id
      split at h
      · rename_i d m1 hfe
        obtain ⟨hd, c1, cd, e1, e2, e3, e4⟩ := hf _ _ _ _ _ hfe hm
        obtain ⟨hi, hc⟩ := ho _ List.mem_cons_self
        have hk' := List.pairwise_cons.1 hk
        have hn : findO i c0 l = none := findO_none fun e he h' => hk'.1 e he h'.symm
        have hr : rows[i]? = some rows[i] := List.getElem?_eq_getElem hi
        have hlen : c0 < (rows[i]).length := by rw [hw _ (List.getElem_mem hi)]; exact hc
        have hget : (viewRows (((i, c0), .r id) :: l) 0 rows)[i * wd + c0]? = some (.r id) := by
          rw [viewRows_get _ wd rows hw 0 i c0 hc, hr]
          simp [hlen, findO]
        obtain ⟨u, a1, ak, a2, g1, g2, g3, g4⟩ := hv.at hget
        cases g2 with
        | r hh' =>
          rw [e1] at hh'
          cases hh'
          have g5 := g4 _ _ _ (CRel.of_own (Z := Z) (hs := hs) e2)
          rw [set_same g1, ← view_close hw hi hc (.r id) l hn d] at g5
          obtain ⟨c', cv', r1, r2, r3, r4, r5⟩ := ih _ _ _ _ _ _ _ h e3 (setD_wd hw i c0 d) (fun e he => by rw [setD_length]; exact ho e (by simp [he])) hk'.2 g5
          refine ⟨c', cv', by rw [r1, setD_length], r2, r3, r4, fun b => ?_⟩
          have h1 := r5 b
          have h2 := e4 b
          subst g3
          simp only [List.count_append, List.count_nil] at *
          omega
      · simp at h
    · simp at h
theorem closeId_ok (k : Nat) : ∀ (m : Mem) (id : Nat) (d : D) (m' : Mem) (c : List Nat), closeId k m id = some (d, m') → MemL w Z hs hs m c →
    ∃ h c' cd, hs[id]? = some h ∧ OwnD w d (.slice h.base h.len h.cap) cd ∧ MemL w Z hs hs m' c' ∧ ∀ b, (c' ++ cd).count b = c.count b := by
  induction k with
  | zero => intro m id d m' c h; simp [closeId] at h
  | succ k ih =>
    intro m id d m' c h hm
    simp only [closeId] at h
    split at h
    · rename_i n hn
      split at h
      · rename_i rows m1 hc
        simp only [Option.some.injEq, Prod.mk.injEq] at h
        obtain ⟨rfl, rfl⟩ := h
        obtain ⟨hd, c1, cn, c2, e1, e2, e3, rfl, e5, _⟩ := hm.at hn
        rcases e3.mem with ⟨z1, z2, rfl⟩ | ⟨b, off, vs, c', f1, f2, f3, f4, f5, rfl⟩
        · have ho : n.opens = [] := by
            cases ho : n.opens with
            | nil => rfl
            | cons e l => have := (e3.opens e (by simp [ho])).1; simp [z1] at this
          rw [ho, z1] at hc
          simp only [closeOpens, Option.some.injEq, Prod.mk.injEq] at hc
          obtain ⟨rfl, rfl⟩ := hc
          refine ⟨hd, _, [], e1, ?_, e5, fun b => by simp⟩
          rw [e3.len, z1, z2]
          exact .z
        · obtain ⟨c3, cv', r1, r2, r3, r4, r5⟩ := closeOpens_ok (closeId k) ih _ _ _ _ _ _ _ _ hc e5 e3.rows e3.opens e3.keys f5
          refine ⟨hd, c3, b :: cv', e1, ?_, r4, fun x => ?_⟩
          · rw [f1, e3.len, ← r1]
            exact .s r2 (by omega) f3 f4 r3
          · have := r5 x
            simp only [List.count_append, List.count_cons] at *
            omega
      · simp at h
    · simp at h
theorem takeId_ok {m : Mem} {id : Nat} {d : D} {m' : Mem} {c : List Nat} (h : takeId m id = some (d, m')) (hm : MemL w Z hs hs m c) :
    ∃ h c' cd, hs[id]? = some h ∧ OwnD w d (.slice h.base h.len h.cap) cd ∧ MemL w Z hs hs m' c' ∧ ∀ b, (c' ++ cd).count b = c.count b :=
  closeId_ok _ _ _ _ _ _ h hm
theorem takeCell_ok {m m' : Mem} {x : AV} {d : D} {v : Value} {c : List Nat} (h : takeCell m x = some (d, m')) (hx : ARel X w Z hs x v) (hm : MemL w Z hs hs m c) :
    ∃ c' cd, OwnD w d v cd ∧ MemL w Z hs hs m' c' ∧ ∀ b, (c' ++ cd).count b = c.count b := by
  unfold takeCell at h
  split at h
  · cases h; cases hx with | v h => exact ⟨c, [], .v h, hm, fun b => by simp⟩
  · cases h; cases hx with | o => exact ⟨c, [], .z, hm, fun b => by simp⟩
  · cases hx with
    | r hh =>
      obtain ⟨h', c', cd, e1, e2, e3, e4⟩ := takeId_ok h hm
      rw [e1] at hh
      cases hh
      exact ⟨c', cd, e2, e3, e4⟩
  · simp at h
theorem takeCells_ok {xs : List AV} : ∀ {m m' : Mem} {ds : Row} {vs : List Value} {c : List Nat}, takeCells m xs = some (ds, m') → ARelL X w Z hs xs vs → MemL w Z hs hs m c →
    ∃ c' cd, OwnL w ds vs cd ∧ MemL w Z hs hs m' c' ∧ ∀ b, (c' ++ cd).count b = c.count b := by
  induction xs with
  | nil =>
    intro m m' ds vs c h hx hm
    simp only [takeCells, Option.some.injEq, Prod.mk.injEq] at h
    obtain ⟨rfl, rfl⟩ := h
    cases hx
    exact ⟨c, [], .nil, hm, fun b => by simp⟩
  | cons x xs ih =>
    intro m m' ds vs c h hx hm
    cases hx with
    | cons hx hx' =>
      simp only [takeCells] at h
      split at h
      · rename_i d m1 h1
        split at h
        · rename_i ds' m2 h2
          simp only [Option.some.injEq, Prod.mk.injEq] at h
          obtain ⟨rfl, rfl⟩ := h
          obtain ⟨c1, cd, e1, e2, e3⟩ := takeCell_ok h1 hx hm
          obtain ⟨c2, cd', f1, f2, f3⟩ := ih h2 hx' e2
          refine ⟨c2, cd ++ cd', .cons e1 f1, f2, fun b => ?_⟩
          have := e3 b
          have := f3 b
          simp only [List.count_append] at *
          omega
        · simp at h
      · simp at h
theorem takeI_ok {m m' : Mem} {x : AV} {i : I} {v : Value} {c : List Nat} (h : takeI m x = some (i, m')) (hx : ARel X w Z hs x v) (hm : MemL w Z hs hs m c) :
    ∃ c' cd, IOwn X w i v cd ∧ MemL w Z hs hs m' c' ∧ ∀ b, (c' ++ cd).count b = c.count b := by
  unfold takeI at h
  split at h
  · split at h
    · rename_i ds m1 h1
      cases h
      cases hx with
      | g hx =>
        obtain ⟨c1, cd, e1, e2, e3⟩ := takeCells_ok h1 hx hm
        exact ⟨c1, cd, .g e1, e2, e3⟩
    · simp at h
  · cases h
    cases hx with
    | @f _ _ cs hfn hx =>
      have : cs = #[] := by
        have : cs.toList = [] := by generalize cs.toList = l at hx; cases hx; rfl
        exact Array.toList_eq_nil_iff.1 this
      subst this
      exact ⟨c, [], .f hfn, hm, fun b => by simp⟩
  · split at h
    · rename_i row m1 h1
      cases h
      unfold takeVar at h1
      split at h1
      · rename_i wd row' m2 h2
        cases h1
        obtain ⟨hd, c', cd, e1, e2, e3, e4⟩ := takeId_ok h2 hm
        cases hx with
        | @a _ _ _ b off hd' hh hb hi =>
          rw [e1] at hh
          cases hh
          rw [hb] at e2
          generalize hl : hd.len = n at e2
          cases e2 with
          | @s _ _ _ cap _ vs c2 g1 g2 g3 g4 g5 =>
            simp only [Nat.zero_mul, Nat.add_zero]
            refine ⟨c', _, .p g3 ?_ (by simpa using g5), e3, e4⟩
            have hl1 := g1 row (by simp)
            obtain ⟨cs, el, fz, k1, k2, k3⟩ := g4
            have : wd ≤ hd.cap * wd := Nat.le_mul_of_pos_left _ (by simp at g2; omega)
            exact ⟨cs, el, fz, k1, by omega, fun k h1 h2 => k3 k h1 (by omega)⟩
      · simp at h1
    · simp at h
  · split at h
    · rename_i d m1 h1
      cases h
      obtain ⟨c1, cd, e1, e2, e3⟩ := takeCell_ok h1 hx hm
      exact ⟨c1, cd, .d e1, e2, e3⟩
    · simp at h
end
end Go.Am
