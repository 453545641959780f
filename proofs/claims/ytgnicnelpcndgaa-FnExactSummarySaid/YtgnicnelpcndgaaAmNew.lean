/- AM: new variables and arrays. Nothing is assumed. -/
import Derived.Test.YtgnicnelpcndgaaAmStore2
set_option linter.unusedVariables false
set_option linter.unusedSimpArgs false
namespace Go.Am
section
variable {P : Program} {sg : Sigs} {T : Table} {keep : List Nat} {N : Nat} {args : Nat → Value} {w0 : World} {c0 : List Nat} {Z : Nat → Prop}
/-- Cells at rest, or nothing at rest. -/
def CellK : AV → Prop
  | .v _ | .o _ _ | .fz _ _ | .r _ => True
  | _ => False
theorem wakeRow_length (xs : List AV) : (wakeRow xs).length = xs.length := by
  induction xs with
  | nil => rfl
  | cons x xs ih => cases x <;> simp [wakeRow, ih]
theorem findO_wake_lt {xs : List AV} : ∀ {k c : Nat}, c < k → findO 0 c (wakeOpens k xs) = none := by
  induction xs with
  | nil => intros; rfl
  | cons x xs ih =>
    intro k c h
    cases x <;> simp only [wakeOpens, findO] <;> first
      | exact ih (by omega)
      | (have : ¬ (c = k) := by omega
         simp only [this, false_and, if_false]
         exact ih (by omega))
theorem view_wake_get {xs : List AV} (hk : ∀ x ∈ xs, CellK x) : ∀ {k j : Nat} {x : AV}, xs[j]? = some x → ∃ d, (wakeRow xs)[j]? = some d ∧ (findO 0 (k + j) (wakeOpens k xs)).getD d.up = x := by
  induction xs with
  | nil => intro k j x h; simp at h
  | cons y xs ih =>
    intro k j x h
    have hy := hk y (by simp)
    cases j with
    | zero =>
      simp at h
      subst h
      cases y <;> simp [CellK] at hy <;> simp [wakeRow, wakeOpens, findO, D.up, findO_wake_lt (xs := xs) (Nat.lt_succ_self k)]
    | succ j =>
      obtain ⟨d, h1, h2⟩ := ih (fun x hx => hk x (by simp [hx])) (k := k + 1) (j := j) (x := x) (by simpa using h)
      refine ⟨d, by cases y <;> simpa [wakeRow] using h1, ?_⟩
      rw [show k + (j + 1) = k + 1 + j by omega]
      cases y <;> simp only [wakeOpens, findO] <;> first
        | exact h2
        | (have : ¬ (k + 1 + j = k) := by omega
           simp only [this, false_and, if_false]
           exact h2)
theorem view_wake {xs : List AV} (hk : ∀ x ∈ xs, CellK x) (wd : Nat) : (Node.mk wd [wakeRow xs] (wakeOpens 0 xs)).view = xs := by
  unfold Node.view
  simp only [viewRows, List.append_nil]
  apply List.ext_getElem?
  intro j
  rw [viewRow_get]
  cases h : xs[j]? with
  | none =>
    have : (wakeRow xs)[j]? = none := by
      rw [List.getElem?_eq_none_iff] at h ⊢
      rw [wakeRow_length]; exact h
    simp [this]
  | some x =>
    obtain ⟨d, h1, h2⟩ := view_wake_get hk (k := 0) h
    rw [Nat.zero_add] at h2
    simp [h1, h2]
theorem wakeOpens_mem {xs : List AV} (hk : ∀ x ∈ xs, CellK x) : ∀ {k : Nat} {e : (Nat × Nat) × AV}, e ∈ wakeOpens k xs → e.1.1 = 0 ∧ k ≤ e.1.2 ∧ e.1.2 < k + xs.length ∧ ((∃ id, e.2 = .r id) ∨ ∃ wd rows, e.2 = .fz wd rows) := by
  induction xs with
  | nil => intro k e h; simp [wakeOpens] at h
  | cons x xs ih =>
    intro k e h
    have hx := hk x (by simp)
    have ih' := @ih (fun x hx => hk x (by simp [hx])) (k + 1) e
    cases x <;> simp [CellK] at hx <;> simp only [wakeOpens, List.mem_cons] at h
    · have := ih' h; simp only [List.length_cons]; refine ⟨this.1, by omega, by omega, this.2.2.2⟩
    · have := ih' h; simp only [List.length_cons]; refine ⟨this.1, by omega, by omega, this.2.2.2⟩
    · rcases h with rfl | h
      · simp only [List.length_cons]; exact ⟨trivial, Nat.le_refl _, by omega, .inr ⟨_, _, rfl⟩⟩
      · have := ih' h; simp only [List.length_cons]; refine ⟨this.1, by omega, by omega, this.2.2.2⟩
    · rcases h with rfl | h
      · simp only [List.length_cons]; exact ⟨trivial, Nat.le_refl _, by omega, .inl ⟨_, rfl⟩⟩
      · have := ih' h; simp only [List.length_cons]; refine ⟨this.1, by omega, by omega, this.2.2.2⟩
theorem wakeOpens_keys {xs : List AV} (hk : ∀ x ∈ xs, CellK x) : ∀ {k : Nat}, (wakeOpens k xs).Pairwise fun e e' => e.1 ≠ e'.1 := by
  induction xs with
  | nil => intro k; simp [wakeOpens]
  | cons x xs ih =>
    intro k
    have hx := hk x (by simp)
    have hk' : ∀ x ∈ xs, CellK x := fun x hx => hk x (by simp [hx])
    cases x <;> simp [CellK] at hx <;> simp only [wakeOpens]
    · exact ih hk'
    · exact ih hk'
    · refine List.pairwise_cons.2 ⟨fun e he h => ?_, ih hk'⟩
      have := (wakeOpens_mem hk' he).2.1
      rw [← h] at this
      simp at this
      omega
    · refine List.pairwise_cons.2 ⟨fun e he h => ?_, ih hk'⟩
      have := (wakeOpens_mem hk' he).2.1
      rw [← h] at this
      simp at this
      omega
/-- A new row of cells for a node whose cells are there already. -/
theorem new_ok {X : Nat → Prop} {hs : List Hd} {c : List Nat} {st : St} {a : Act} {w w' : World} (hin : SInv X keep N args w0 c0 Z hs c st a w) {n : Node} {vals : List Value} {cells : Array Value} {e : TypeId} {cap : Nat}
    (hw : w'.heap = w.heap.push (.cells cells e)) (hc : cap * n.wd ≤ cells.size) (hl : n.rows.length ≤ cap) (hv : ∀ (k : Nat) (v : Value), vals[k]? = some v → cells[k]? = some v)
    (hr : ∀ r ∈ n.rows, r.length = n.wd) (ho : ∀ e ∈ n.opens, e.1.1 < n.rows.length ∧ e.1.2 < n.wd) (hk : n.opens.Pairwise fun e e' => e.1 ≠ e'.1)
    (hkd : ∀ e ∈ n.opens, (∃ id, e.2 = .r id) ∨ ∃ wd rows, e.2 = .fz wd rows) (hview : CRelL w Z hs n.view vals []) (hmu : Mute w w' := by exact ⟨rfl, rfl, rfl⟩) :
    ∃ hs' c', Ext hs hs' ∧ MemL w' Z hs' hs' (st.m ++ [some n]) c' ∧ hs'[st.m.length]? = some ⟨some ⟨w.heap.size, 0, none⟩, n.wd, n.rows.length, cap⟩ ∧ WInv w0 c0 Z w' c' := by
  obtain ⟨p1, p2, p3⟩ := push_get hw
  have hlt := hin.mem.lt
  have hz : ∀ b, Z b → w'.heap[b]? = w.heap[b]? := fun b hb => p1 b (by have := hin.win.zlt b hb; have := hin.win.size; omega)
  refine ⟨hs ++ [⟨some ⟨w.heap.size, 0, none⟩, n.wd, n.rows.length, cap⟩], c ++ [w.heap.size], Ext.append _ _, ?_, by rw [← hin.mem.length]; simp, hin.win.push hlt hw hmu⟩
  refine (hin.mem.frame (fun _ h => h) hz (fun b hb => p1 b (hlt b hb)) (Ext.append _ _)).append ?_
  refine ⟨rfl, rfl, hr, ho, hk, hkd, .inr ⟨w.heap.size, 0, vals, [], rfl, hl, ⟨cells, e, (0, 0), p2, fun k v h => by simpa using hv k v h⟩, ⟨cells, e, (0, 0), p2, by simpa using hc, fun k _ _ => by simp⟩, ?_, rfl⟩⟩
  exact hview.frame (fun _ h => h) hz (by simp) (Ext.append _ _)
end
end Go.Am
