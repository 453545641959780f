/- AM: writing. Nothing is assumed. -/
import Derived.Test.YtgnicnelpcndgaaAmLoad2
import Derived.Laws.IdiomCopy
set_option linter.unusedVariables false
set_option linter.unusedSimpArgs false
namespace Go.Am
section
variable {X : Nat → Prop} {w : World} {Z : Nat → Prop} {hs : List Hd}
theorem MemL.at2 {l : List Hd} {m : Mem} {c : List Nat} (r : MemL w Z hs l m c) {id : Nat} {n : Node} (hn : getNode m id = some n) :
    ∃ h c1 cn c2, l[id]? = some h ∧ id < m.length ∧ NodeRel w Z hs h n cn ∧ c = c1 ++ cn ++ c2 ∧
      ∀ w', (∀ b, Z b → w'.heap[b]? = w.heap[b]?) → (∀ b ∈ c1 ++ c2, w'.heap[b]? = w.heap[b]?) → ∀ n' cn', NodeRel w' Z hs h n' cn' → MemL w' Z hs l (m.set id (some n')) (c1 ++ cn' ++ c2) := by
  induction r generalizing id with
  | nil => simp [getNode] at hn
  | @dead h l m c r ih => cases id with
    | zero => simp [getNode] at hn
    | succ id =>
      obtain ⟨h', c1, cn, c2, e1, e2, e3, e4, e6⟩ := ih (id := id) (by simpa [getNode] using hn)
      exact ⟨h', c1, cn, c2, by simpa using e1, by simpa using e2, e3, e4, fun w' hz hc n' cn' h => by simpa using MemL.dead (e6 w' hz hc n' cn' h)⟩
  | @live h l n0 m c0 c' hn0 r ih => cases id with
    | zero =>
      simp [getNode] at hn; subst hn
      exact ⟨h, [], c0, c', rfl, by simp, hn0, by simp, fun w' hz hc n' cn' h' => by
        simpa using MemL.live h' (r.frame (fun _ h => h) hz (fun b hb => hc b (by simpa using hb)) (fun _ _ h => h))⟩
    | succ id =>
      obtain ⟨h', c1, cn, c2, e1, e2, e3, e4, e6⟩ := ih (id := id) (by simpa [getNode] using hn)
      refine ⟨h', c0 ++ c1, cn, c2, by simpa using e1, by simpa using e2, e3, by simp [e4], fun w' hz hc n' cn' h => ?_⟩
      have h1 := hn0.frame (hs' := hs) (fun _ h => h) hz (fun b hb => hc b (by simp [hb])) (fun _ _ h => h)
      have h2 := e6 w' hz (fun b hb => hc b (by
        rcases List.mem_append.1 hb with hb | hb
        · simp [hb]
        · simp [hb])) n' cn' h
      simpa [List.append_assoc] using MemL.live h1 h2
theorem setCell_heap {b o : Nat} {v : Value} : (∀ x, x ≠ b → (w.setCell ⟨b, o, none⟩ v).heap[x]? = w.heap[x]?) ∧ (w.setCell ⟨b, o, none⟩ v).heap.size = w.heap.size ∧
    ∀ cs e f, w.heap[b]? = some (.cells cs e f) → (w.setCell ⟨b, o, none⟩ v).heap[b]? = some (.cells (cs.setIfInBounds o v) e f) := by
  refine ⟨fun x hx => ?_, by simp [World.setCell], fun cs e f h => ?_⟩
  · simp [World.setCell, Array.getElem?_modify, Ne.symm hx]
  · simp [World.setCell, Array.getElem?_modify, h]
theorem Holds.set {b off k : Nat} {vs : List Value} {v : Value} (h : Holds w b off vs) (hk : k < vs.length) : Holds (w.setCell ⟨b, off + k, none⟩ v) b off (vs.set k v) := by
  obtain ⟨cs, e, f, h1, h2⟩ := h
  refine ⟨_, e, f, setCell_heap.2.2 _ _ _ h1, fun j u hj => ?_⟩
  rw [List.getElem?_set] at hj
  have hlt : off + k < cs.size := by
    have := h2 k _ (List.getElem?_eq_getElem hk)
    exact (Array.getElem?_eq_some_iff.1 this).1
  by_cases hkj : k = j
  · subst hkj
    simp [hk] at hj
    subst hj
    simp [hlt]
  · simp [hkj] at hj
    rw [Array.getElem?_setIfInBounds]
    have : ¬ (off + k = off + j) := by omega
    simp only [this, if_false]
    exact h2 _ _ hj
theorem Free.set {b off n o : Nat} {v : Value} (h : Free w b off n) : Free (w.setCell ⟨b, o, none⟩ v) b off n := by
  obtain ⟨cs, e, f, h1, h2, h3⟩ := h
  exact ⟨_, e, f, setCell_heap.2.2 _ _ _ h1, by simpa using h2, h3⟩
theorem cellIn_ok {x : AV} {d : D} {o : Option AV} {v : Value} (h : cellIn x = some (d, o)) (hx : ARel X w Z hs x v) :
    CRel w Z hs (o.getD d.up) v [] ∧ (∀ y, o = some y → (∃ id, y = .r id) ∨ ∃ wd rows, y = .fz wd rows) := by
  unfold cellIn at h
  split at h <;> simp at h <;> obtain ⟨rfl, rfl⟩ := h
  · cases hx with | v h => exact ⟨.v h, by simp⟩
  · cases hx with | o => exact ⟨.o .z, by simp⟩
  · cases hx with | fz h => exact ⟨.fz h, fun y hy => by cases hy; exact .inr ⟨_, _, rfl⟩⟩
  · cases hx with | r h => exact ⟨.r h, fun y hy => by cases hy; exact .inl ⟨_, rfl⟩⟩
theorem addO_mem {i c : Nat} {o : Option AV} {l : Opens} {e : (Nat × Nat) × AV} (h : e ∈ addO i c o l) : (e.1 = (i, c) ∧ o = some e.2) ∨ (e ∈ l ∧ e.1 ≠ (i, c)) := by
  have hd : ∀ l : Opens, e ∈ dropO i c l → e ∈ l ∧ e.1 ≠ (i, c) := by
    intro l
    induction l with
    | nil => simp [dropO]
    | cons e' l ih =>
      obtain ⟨⟨i', c'⟩, x⟩ := e'
      simp only [dropO]
      split
      · intro h; exact ⟨List.mem_cons_of_mem _ (ih h).1, (ih h).2⟩
      · rename_i hne
        intro h
        rcases List.mem_cons.1 h with rfl | h
        · exact ⟨List.mem_cons_self, fun h => hne (by simp at h; exact ⟨h.2.symm, h.1.symm⟩)⟩
        · exact ⟨List.mem_cons_of_mem _ (ih h).1, (ih h).2⟩
  cases o with
  | none => exact .inr (hd _ h)
  | some x =>
    rcases List.mem_cons.1 h with rfl | h
    · exact .inl ⟨rfl, rfl⟩
    · exact .inr (hd _ h)
theorem dropO_sub {i c : Nat} (l : Opens) : (dropO i c l).Sublist l := by
  induction l with
  | nil => exact .slnil
  | cons e' l ih =>
    obtain ⟨⟨i', c'⟩, x⟩ := e'
    simp only [dropO]
    split
    · exact .cons _ ih
    · exact .cons_cons _ ih
theorem addO_keys {i c : Nat} {o : Option AV} {l : Opens} (h : l.Pairwise fun e e' => e.1 ≠ e'.1) : (addO i c o l).Pairwise fun e e' => e.1 ≠ e'.1 := by
  cases o with
  | none => exact h.sublist (dropO_sub l)
  | some x =>
    refine List.pairwise_cons.2 ⟨fun e he h' => ?_, h.sublist (dropO_sub l)⟩
    have : e ∈ addO i c none l := he
    rcases addO_mem this with ⟨_, h2⟩ | ⟨_, h2⟩
    · simp at h2
    · exact h2 h'.symm
/-- Cells written into one's own array. -/
theorem setCells_ok {hd : Hd} {b off : Nat} (hb : hd.base = some ⟨b, off, none⟩) (hzb : ¬ Z b) (xs : List AV) : ∀ {w : World} {n n' : Node} {i c : Nat} {vs : List Value} {cn : List Nat},
    setCells n i c xs = some n' → NodeRel w Z hs hd n cn → i < n.rows.length → (∀ x, cn.count x ≤ 1) → ARelL X w Z hs xs vs →
    ∃ cn', NodeRel (w.setCells b (off + i * n.wd + c) vs) Z hs hd n' cn' ∧ (∀ x, cn'.count x ≤ cn.count x) ∧ (∀ x, x ≠ b → (w.setCells b (off + i * n.wd + c) vs).heap[x]? = w.heap[x]?) ∧
      (w.setCells b (off + i * n.wd + c) vs).heap.size = w.heap.size ∧ (xs ≠ [] → b ∈ cn) ∧ c + xs.length ≤ max c n.wd := by
  induction xs with
  | nil =>
    intro w n n' i c vs cn h hn hi hc hx
    simp only [setCells, Option.some.injEq] at h
    subst h
    cases hx
    exact ⟨cn, hn, fun _ => Nat.le_refl _, fun _ _ => rfl, rfl, by simp, by simp; omega⟩
  | cons x xs ih =>
    intro w n n' i c vs cn h hn hi hc hx
    cases hx with
    | @cons _ _ v vs hx hx' =>
      simp only [setCells] at h
      split at h
      · rename_i d o hci
        cases hlt : Nat.blt c n.wd with
        | false => simp [hlt] at h
        | true =>
          simp only [hlt, cond_true] at h
          have hcw : c < n.wd := Nat.blt_eq.mp hlt
          obtain ⟨hcr, hkind⟩ := cellIn_ok hci hx
          rcases hn.mem with ⟨z1, _⟩ | ⟨b', off', vs0, c', f1, f2, f3, f4, f5, rfl⟩
          · simp [z1] at hi
          · rw [hb] at f1
            cases f1
            have hrow : n.rows[i]? = some n.rows[i] := List.getElem?_eq_getElem hi
            have hlen : (n.rows[i]).length = n.wd := hn.rows _ (List.getElem_mem hi)
            have hcell : (n.rows[i])[c]? = some (n.rows[i])[c] := List.getElem?_eq_getElem (by rw [hlen]; exact hcw)
            have hv := view_get hn.rows hcw hrow hcell
            obtain ⟨u, a1, ak, a2, g1, g2, g3, g4⟩ := f5.at hv
            have hbc : b ∉ c' := by
              have := hc b
              simp only [List.count_cons_self] at this
              exact List.count_eq_zero.1 (by omega)
            have hk : i * n.wd + c < vs0.length := (List.getElem?_eq_some_iff.1 g1).1
            have hsame : ∀ y, y ≠ b → (w.setCell ⟨b, off + i * n.wd + c, none⟩ v).heap[y]? = w.heap[y]? := setCell_heap.1
            have hz : ∀ y, Z y → (w.setCell ⟨b, off + i * n.wd + c, none⟩ v).heap[y]? = w.heap[y]? := fun y hy => hsame y (by rintro rfl; exact hzb hy)
            have g5 := (g4 _ _ _ hcr).frame (w' := w.setCell ⟨b, off + i * n.wd + c, none⟩ v) (Z' := Z) (hs' := hs) (fun _ h => h) hz (fun y hy => hsame y (by
              rintro rfl
              apply hbc
              rw [g3]
              simp at hy ⊢
              rcases hy with hy | hy <;> simp [hy])) (fun _ _ h => h)
            rw [← view_set hn.rows hi hcw d o] at g5
            have hh := f3.set (v := v) hk
            rw [← Nat.add_assoc] at hh
            have node : NodeRel (w.setCell ⟨b, off + i * n.wd + c, none⟩ v) Z hs hd ⟨n.wd, setD n.rows i c d, addO i c o n.opens⟩ (b :: (a1 ++ [] ++ a2)) := by
              refine ⟨hn.wd, by rw [hn.len]; simp [setD_length], setD_wd hn.rows i c d, fun e he => ?_, addO_keys hn.keys, fun e he => ?_, .inr ⟨b, off, _, _, hb, by simpa [setD_length] using f2, hh, f4.set, g5, rfl⟩⟩
              · simp only [setD_length]
                rcases addO_mem he with ⟨h1, _⟩ | ⟨h1, _⟩
                · rw [h1]; exact ⟨hi, hcw⟩
                · exact hn.opens e h1
              · rcases addO_mem he with ⟨_, h2⟩ | ⟨h1, _⟩
                · exact hkind _ h2
                · exact hn.kind e h1
            obtain ⟨cn', r1, r2, r3, r4, r5, r6⟩ := ih h node (by simpa [setD_length] using hi) (fun y => by
                have := hc y
                rw [g3] at this
                simp only [List.count_cons, List.count_append, List.append_nil] at *
                omega) (hx'.frame (fun _ h => h) hz (fun _ _ h => h))
            refine ⟨cn', r1, fun y => ?_, fun y hy => ?_, ?_, by simp, ?_⟩
            · have h1 := r2 y
              rw [g3]
              simp only [List.count_cons, List.count_append, List.append_nil] at *
              omega
            · exact (r3 y hy).trans (hsame y hy)
            · exact r4.trans setCell_heap.2.1
            · simp only [List.length_cons]
              simp only at r6
              omega
      · simp at h
end
end Go.Am
