/- AM: frames of the relations; the view of an opened array as a list of cells, and how it changes. Nothing is assumed. -/
import Derived.Test.YtgnicnelpcndgaaAmRel
set_option linter.unusedVariables false
set_option linter.unusedSimpArgs false
namespace Go.Am
section
variable {X : Nat → Prop} {w w' : World} {Z Z' : Nat → Prop} {hs hs' : List Hd}
theorem IFro.frame {x : I} {v : Value} (h : IFro X w Z x v) (hz : ∀ b, Z b → Z' b) (hb : ∀ b, Z b → w'.heap[b]? = w.heap[b]?) : IFro X w' Z' x v :=
  IFro.rec (motive_1 := fun x v _ => IFro X w' Z' x v) (motive_2 := fun x v _ => IFroL X w' Z' x v)
    (fun h => .d (h.frame hz hb)) (fun h => .g (h.frame hz hb)) (fun hz' hh h => .p (hz _ hz') (hh.frame (hb _ hz')) (h.frame hz hb))
    (fun hx _ ih => .f hx ih) (fun _ ih => .t ih) .nil (fun _ _ ih ih' => .cons ih ih') h
theorem IFroL.frame {x : List I} {v : List Value} (h : IFroL X w Z x v) (hz : ∀ b, Z b → Z' b) (hb : ∀ b, Z b → w'.heap[b]? = w.heap[b]?) : IFroL X w' Z' x v := by
  induction x generalizing v with
  | nil => cases h; exact .nil
  | cons d ds ih => cases h with | cons h h' => exact .cons (h.frame hz hb) (ih h')
theorem ARel.frame {x : AV} {v : Value} (h : ARel X w Z hs x v) (hz : ∀ b, Z b → Z' b) (hb : ∀ b, Z b → w'.heap[b]? = w.heap[b]?)
    (hh : ∀ (id : Nat) (h : Hd), hs[id]? = some h → hs'[id]? = some h) : ARel X w' Z' hs' x v :=
  ARel.rec (motive_1 := fun x v _ => ARel X w' Z' hs' x v) (motive_2 := fun x v _ => ARelL X w' Z' hs' x v)
    (fun h => .v h) .o (fun h => .fz (h.frame hz hb)) (fun h => .r (hh _ _ h)) (fun _ ih => .g ih) (fun h e hi => .a (hh _ _ h) e hi)
    (fun hz' hl h => .fa (hz _ hz') (hl.frame (hb _ hz')) (h.frame hz hb)) (fun hx _ ih => .f hx ih) (fun hx h => .ff hx (h.frame hz hb)) (fun _ ih => .t ih) .n .u
    .nil (fun _ _ ih ih' => .cons ih ih') h
theorem ARelL.frame {x : List AV} {v : List Value} (h : ARelL X w Z hs x v) (hz : ∀ b, Z b → Z' b) (hb : ∀ b, Z b → w'.heap[b]? = w.heap[b]?)
    (hh : ∀ (id : Nat) (h : Hd), hs[id]? = some h → hs'[id]? = some h) : ARelL X w' Z' hs' x v := by
  induction x generalizing v with
  | nil => cases h; exact .nil
  | cons d ds ih => cases h with | cons h h' => exact .cons (h.frame hz hb hh) (ih h')
theorem CRel.frame {x : AV} {v : Value} {c : List Nat} (h : CRel w Z hs x v c) (hz : ∀ b, Z b → Z' b) (hb : ∀ b, Z b → w'.heap[b]? = w.heap[b]?)
    (hc : ∀ b ∈ c, w'.heap[b]? = w.heap[b]?) (hh : ∀ (id : Nat) (h : Hd), hs[id]? = some h → hs'[id]? = some h) : CRel w' Z' hs' x v c := by
  cases h with
  | v h => exact .v h
  | o h => exact .o (h.frame hc)
  | fz h => exact .fz (h.frame hz hb)
  | r h => exact .r (hh _ _ h)
theorem CRel.lt {x : AV} {v : Value} {c : List Nat} (h : CRel w Z hs x v c) : ∀ b ∈ c, b < w.heap.size := by
  cases h with
  | o h => exact h.lt
  | _ => simp
theorem CRelL.frame {x : List AV} {v : List Value} {c : List Nat} (h : CRelL w Z hs x v c) (hz : ∀ b, Z b → Z' b) (hb : ∀ b, Z b → w'.heap[b]? = w.heap[b]?)
    (hc : ∀ b ∈ c, w'.heap[b]? = w.heap[b]?) (hh : ∀ (id : Nat) (h : Hd), hs[id]? = some h → hs'[id]? = some h) : CRelL w' Z' hs' x v c := by
  induction x generalizing v c with
  | nil => cases h; exact .nil
  | cons d ds ih => cases h with
    | cons h h' => exact .cons (h.frame hz hb (fun b h => hc b (by simp [h])) hh) (ih h' fun b h => hc b (by simp [h]))
theorem CRelL.lt {x : List AV} {v : List Value} {c : List Nat} (h : CRelL w Z hs x v c) : ∀ b ∈ c, b < w.heap.size := by
  induction x generalizing v c with
  | nil => cases h; simp
  | cons d ds ih => cases h with
    | cons h h' =>
      intro b hb
      rcases List.mem_append.1 hb with hb | hb
      · exact h.lt b hb
      · exact ih h' b hb
theorem CRelL.length {x : List AV} {v : List Value} {c : List Nat} (h : CRelL w Z hs x v c) : v.length = x.length := by
  induction x generalizing v c with
  | nil => cases h; rfl
  | cons d ds ih => cases h with | cons h h' => simp [ih h']
theorem CRelL.append {x y : List AV} {v u : List Value} {c e : List Nat} (h : CRelL w Z hs x v c) (h' : CRelL w Z hs y u e) : CRelL w Z hs (x ++ y) (v ++ u) (c ++ e) := by
  induction x generalizing v c with
  | nil => cases h; simpa using h'
  | cons d ds ih => cases h with | cons h h1 => simpa [List.append_assoc] using CRelL.cons h (ih h1)
/-- One cell of a list: what it holds, and what another in its place would do. -/
theorem CRelL.at {x : List AV} {v : List Value} {c : List Nat} (h : CRelL w Z hs x v c) {k : Nat} {y : AV} (hk : x[k]? = some y) :
    ∃ u c1 ck c2, v[k]? = some u ∧ CRel w Z hs y u ck ∧ c = c1 ++ ck ++ c2 ∧
      ∀ y' u' ck', CRel w Z hs y' u' ck' → CRelL w Z hs (x.set k y') (v.set k u') (c1 ++ ck' ++ c2) := by
  induction x generalizing v c k with
  | nil => simp at hk
  | cons d ds ih => cases h with
    | @cons _ _ v0 vs c0 c' h h' => cases k with
      | zero =>
        simp at hk; subst hk
        exact ⟨_, [], c0, c', rfl, h, by simp, fun y' u' ck' h1 => by simpa using CRelL.cons h1 h'⟩
      | succ k =>
        obtain ⟨u, c1, ck, c2, e1, e2, e3, e4⟩ := ih h' (by simpa using hk)
        refine ⟨u, c0 ++ c1, ck, c2, by simpa using e1, e2, by simp [e3], fun y' u' ck' h1 => ?_⟩
        have := CRelL.cons h (e4 y' u' ck' h1)
        simpa [List.append_assoc] using this
theorem NodeRel.frame {h : Hd} {n : Node} {c : List Nat} (r : NodeRel w Z hs h n c) (hz : ∀ b, Z b → Z' b) (hb : ∀ b, Z b → w'.heap[b]? = w.heap[b]?)
    (hc : ∀ b ∈ c, w'.heap[b]? = w.heap[b]?) (hh : ∀ (id : Nat) (h : Hd), hs[id]? = some h → hs'[id]? = some h) : NodeRel w' Z' hs' h n c := by
  refine ⟨r.wd, r.len, r.rows, r.opens, r.keys, r.kind, ?_⟩
  rcases r.mem with h | ⟨b, off, vs, c', e1, e2, e3, e4, e5, rfl⟩
  · exact .inl h
  · exact .inr ⟨b, off, vs, c', e1, e2, e3.frame (hc _ (by simp)), e4.frame (hc _ (by simp)), e5.frame hz hb (fun b h => hc b (by simp [h])) hh, rfl⟩
theorem NodeRel.lt {h : Hd} {n : Node} {c : List Nat} (r : NodeRel w Z hs h n c) : ∀ b ∈ c, b < w.heap.size := by
  rcases r.mem with ⟨_, _, rfl⟩ | ⟨b, off, vs, c', e1, e2, e3, e4, e5, rfl⟩
  · simp
  · intro b hb
    rcases List.mem_cons.1 hb with rfl | hb
    · exact e3.lt
    · exact e5.lt b hb
theorem MemL.frame {l : List Hd} {m : Mem} {c : List Nat} (r : MemL w Z hs l m c) (hz : ∀ b, Z b → Z' b) (hb : ∀ b, Z b → w'.heap[b]? = w.heap[b]?)
    (hc : ∀ b ∈ c, w'.heap[b]? = w.heap[b]?) (hh : ∀ (id : Nat) (h : Hd), hs[id]? = some h → hs'[id]? = some h) : MemL w' Z' hs' l m c := by
  induction r with
  | nil => exact .nil
  | dead r ih => exact .dead (ih hc)
  | live hn r ih => exact .live (hn.frame hz hb (fun b h => hc b (by simp [h])) hh) (ih fun b h => hc b (by simp [h]))
theorem MemL.lt {l : List Hd} {m : Mem} {c : List Nat} (r : MemL w Z hs l m c) : ∀ b ∈ c, b < w.heap.size := by
  induction r with
  | nil => simp
  | dead r ih => exact ih
  | live hn r ih =>
    intro b hb
    rcases List.mem_append.1 hb with hb | hb
    · exact hn.lt b hb
    · exact ih b hb
theorem MemL.length {l : List Hd} {m : Mem} {c : List Nat} (r : MemL w Z hs l m c) : l.length = m.length := by
  induction r with
  | nil => rfl
  | dead r ih => simp [ih]
  | live hn r ih => simp [ih]
theorem MemL.append {l : List Hd} {m : Mem} {c cn : List Nat} (r : MemL w Z hs l m c) {h : Hd} {n : Node} (hn : NodeRel w Z hs h n cn) :
    MemL w Z hs (l ++ [h]) (m ++ [some n]) (c ++ cn) := by
  induction r with
  | nil => simpa using MemL.live hn .nil
  | dead r ih => exact .dead ih
  | live hn' r ih => simpa [List.append_assoc] using MemL.live hn' ih
/-- One node: what it is, and what another in its place would do. -/
theorem MemL.at {l : List Hd} {m : Mem} {c : List Nat} (r : MemL w Z hs l m c) {id : Nat} {n : Node} (hn : getNode m id = some n) :
    ∃ h c1 cn c2, l[id]? = some h ∧ id < m.length ∧ NodeRel w Z hs h n cn ∧ c = c1 ++ cn ++ c2 ∧ MemL w Z hs l (m.set id none) (c1 ++ c2) ∧
      ∀ n' cn', NodeRel w Z hs h n' cn' → MemL w Z hs l (m.set id (some n')) (c1 ++ cn' ++ c2) := by
  induction r generalizing id with
  | nil => simp [getNode] at hn
  | @dead h l m c r ih => cases id with
    | zero => simp [getNode] at hn
    | succ id =>
      obtain ⟨h', c1, cn, c2, e1, e2, e3, e4, e5, e6⟩ := ih (id := id) (by simpa [getNode] using hn)
      exact ⟨h', c1, cn, c2, by simpa using e1, by simpa using e2, e3, e4, by simpa using MemL.dead e5, fun n' cn' h => by simpa using MemL.dead (e6 n' cn' h)⟩
  | @live h l n0 m c0 c' hn0 r ih => cases id with
    | zero =>
      simp [getNode] at hn; subst hn
      exact ⟨h, [], c0, c', rfl, by simp, hn0, by simp, by simpa using MemL.dead r, fun n' cn' h' => by simpa using MemL.live h' r⟩
    | succ id =>
      obtain ⟨h', c1, cn, c2, e1, e2, e3, e4, e5, e6⟩ := ih (id := id) (by simpa [getNode] using hn)
      refine ⟨h', c0 ++ c1, cn, c2, by simpa using e1, by simpa using e2, e3, by simp [e4], ?_, fun n' cn' h => ?_⟩
      · simpa [List.append_assoc] using MemL.live hn0 e5
      · simpa [List.append_assoc] using MemL.live hn0 (e6 n' cn' h)
end

/-! ### the view -/
theorem findO_dropO (i c i' c' : Nat) (l : Opens) : findO i' c' (dropO i c l) = if c' = c ∧ i' = i then none else findO i' c' l := by
  induction l with
  | nil => simp [dropO, findO]
  | cons e l ih =>
    obtain ⟨⟨i2, c2⟩, x⟩ := e
    simp only [dropO, findO]
    by_cases h : c = c2 ∧ i = i2
    · obtain ⟨rfl, rfl⟩ := h
      simp only [and_self, if_true, ih]
      split <;> rfl
    · simp only [h, if_false, findO, ih]
      by_cases h2 : c' = c2 ∧ i' = i2
      · obtain ⟨rfl, rfl⟩ := h2
        have : ¬ (c' = c ∧ i' = i) := fun h' => h ⟨h'.1.symm, h'.2.symm⟩
        simp [this]
      · simp [h2]
theorem findO_addO (i c i' c' : Nat) (o : Option AV) (l : Opens) : findO i' c' (addO i c o l) = if c' = c ∧ i' = i then o else findO i' c' l := by
  cases o with
  | none => simp [addO, findO_dropO]
  | some x =>
    simp only [addO, findO, findO_dropO]
    by_cases h : c' = c ∧ i' = i <;> simp [h]
theorem viewRow_get (o : Opens) (i : Nat) (r : Row) (j k : Nat) : (viewRow o i j r)[k]? = r[k]?.map fun d => (findO i (j + k) o).getD d.up := by
  induction r generalizing j k with
  | nil => simp [viewRow]
  | cons d ds ih => cases k with
    | zero => simp [viewRow]
    | succ k => simp [viewRow, ih, Nat.add_assoc, Nat.add_comm 1 k]
theorem viewRow_length (o : Opens) (i : Nat) (r : Row) (j : Nat) : (viewRow o i j r).length = r.length := by
  induction r generalizing j with
  | nil => rfl
  | cons d ds ih => simp [viewRow, ih]
theorem viewRows_length (o : Opens) (wd : Nat) (rows : Rows) (hw : ∀ r ∈ rows, r.length = wd) (i : Nat) : (viewRows o i rows).length = rows.length * wd := by
  induction rows generalizing i with
  | nil => simp [viewRows]
  | cons r rs ih =>
    simp [viewRows, viewRow_length, ih (fun r h => hw r (by simp [h])), hw r (by simp), Nat.add_mul, Nat.add_comm]
theorem viewRows_get (o : Opens) (wd : Nat) (rows : Rows) (hw : ∀ r ∈ rows, r.length = wd) (i a b : Nat) (hb : b < wd) :
    (viewRows o i rows)[a * wd + b]? = (rows[a]?).bind fun r => r[b]?.map fun d => (findO (i + a) b o).getD d.up := by
  induction rows generalizing i a with
  | nil => simp [viewRows]
  | cons r rs ih =>
    have hr := hw r (by simp)
    cases a with
    | zero =>
      simp only [viewRows, Nat.zero_mul, Nat.zero_add, Nat.add_zero]
      rw [List.getElem?_append_left (by simp [viewRow_length, hr, hb])]
      simp [viewRow_get]
    | succ a =>
      simp only [viewRows]
      have e : (a + 1) * wd + b = a * wd + b + wd := by rw [Nat.add_mul]; omega
      rw [List.getElem?_append_right (by simp [viewRow_length, hr, e])]
      simp only [viewRow_length, hr, e, Nat.add_sub_cancel]
      rw [ih (fun r h => hw r (by simp [h]))]
      simp [Nat.add_assoc, Nat.add_comm 1 a]
theorem setD_get (rows : Rows) (i c a : Nat) (d : D) : (setD rows i c d)[a]? = if a = i then rows[a]?.map (·.set c d) else rows[a]? := by
  unfold setD
  rw [List.getElem?_modify]
  by_cases h : i = a
  · subst h; simp
  · simp [h, Ne.symm h]
theorem setD_length (rows : Rows) (i c : Nat) (d : D) : (setD rows i c d).length = rows.length := by simp [setD]
theorem setD_wd {rows : Rows} {wd : Nat} (hw : ∀ r ∈ rows, r.length = wd) (i c : Nat) (d : D) : ∀ r ∈ setD rows i c d, r.length = wd := by
  intro r hr
  obtain ⟨a, ha⟩ := List.getElem?_of_mem hr
  rw [setD_get] at ha
  split at ha
  · cases h : rows[a]? with
    | none => simp [h] at ha
    | some r' =>
      simp [h] at ha
      rw [← ha]
      simpa using hw r' (List.mem_of_getElem? h)
  · exact hw r (List.mem_of_getElem? ha)
theorem view_ext {wd : Nat} {rows rows' : Rows} {o o' : Opens} (hw : ∀ r ∈ rows, r.length = wd) (hw' : ∀ r ∈ rows', r.length = wd) {i c : Nat} (hi : i < rows.length) (hc : c < wd)
    (hl : rows'.length = rows.length) (x : AV)
    (h : ∀ a b, b < wd → ((rows'[a]?).bind fun r => r[b]?.map fun d => (findO a b o').getD d.up) = if b = c ∧ a = i then some x else (rows[a]?).bind fun r => r[b]?.map fun d => (findO a b o).getD d.up) :
    viewRows o' 0 rows' = (viewRows o 0 rows).set (i * wd + c) x := by
  have hpos : 0 < wd := by omega
  apply List.ext_getElem?
  intro k
  obtain ⟨a, b, hb, rfl⟩ : ∃ a b, b < wd ∧ k = a * wd + b := ⟨k / wd, k % wd, Nat.mod_lt _ hpos, by rw [Nat.mul_comm]; exact (Nat.div_add_mod k wd).symm⟩
  rw [viewRows_get o' wd rows' hw' 0 a b hb, List.getElem?_set]
  simp only [Nat.zero_add]
  rw [h a b hb]
  by_cases hab : b = c ∧ a = i
  · obtain ⟨rfl, rfl⟩ := hab
    have : a * wd + b < (viewRows o 0 rows).length := by
      rw [viewRows_length o wd rows hw 0]
      have : a * wd + wd ≤ rows.length * wd := by rw [← Nat.succ_mul]; exact Nat.mul_le_mul_right _ hi
      omega
    simp [this]
  · have : ¬ (i * wd + c = a * wd + b) := by
      intro e
      apply hab
      have h1 : (i * wd + c) % wd = (a * wd + b) % wd := by rw [e]
      rw [Nat.add_comm, Nat.add_mul_mod_self_right, Nat.add_comm (a * wd), Nat.add_mul_mod_self_right, Nat.mod_eq_of_lt hc, Nat.mod_eq_of_lt hb] at h1
      refine ⟨h1.symm, ?_⟩
      subst h1
      have : i * wd = a * wd := by omega
      exact (Nat.eq_of_mul_eq_mul_right hpos this).symm
    simp only [hab, if_false, this]
    rw [viewRows_get o wd rows hw 0 a b hb]
    simp
/-- A cell anew: the view changes there alone. -/
theorem view_set {n : Node} (hw : ∀ r ∈ n.rows, r.length = n.wd) {i c : Nat} (hi : i < n.rows.length) (hc : c < n.wd) (d : D) (x : Option AV) :
    (Node.mk n.wd (setD n.rows i c d) (addO i c x n.opens)).view = n.view.set (i * n.wd + c) (x.getD d.up) := by
  refine view_ext hw (setD_wd hw i c d) hi hc (setD_length ..) _ fun a b hb => ?_
  simp only [setD_get, findO_addO]
  by_cases hab : b = c ∧ a = i
  · obtain ⟨rfl, rfl⟩ := hab
    have hr : n.rows[a]? = some n.rows[a] := List.getElem?_eq_getElem hi
    have hl : b < (n.rows[a]).length := by rw [hw _ (List.getElem_mem hi)]; exact hc
    simp [hr, hl]
  · simp only [hab, if_false]
    by_cases ha : a = i
    · subst ha
      have hbc : ¬ c = b := fun h => hab ⟨h.symm, rfl⟩
      cases h : n.rows[a]? with
      | none => simp
      | some r => simp [List.getElem?_set, hbc]
    · simp [ha]
/-- A cell opened: the view changes there alone. -/
theorem view_open {n : Node} (hw : ∀ r ∈ n.rows, r.length = n.wd) {i c : Nat} (hi : i < n.rows.length) (hc : c < n.wd) (x : AV) :
    (Node.mk n.wd n.rows (((i, c), x) :: n.opens)).view = n.view.set (i * n.wd + c) x := by
  refine view_ext hw hw hi hc rfl _ fun a b hb => ?_
  simp only [findO]
  by_cases hab : b = c ∧ a = i
  · obtain ⟨rfl, rfl⟩ := hab
    have hr : n.rows[a]? = some n.rows[a] := List.getElem?_eq_getElem hi
    have hl : b < (n.rows[a]).length := by rw [hw _ (List.getElem_mem hi)]; exact hc
    simp [hr, hl]
  · simp [hab]
theorem view_get {n : Node} (hw : ∀ r ∈ n.rows, r.length = n.wd) {i c : Nat} (hc : c < n.wd) {r : Row} (hr : n.rows[i]? = some r) {d : D} (hd : r[c]? = some d) :
    n.view[i * n.wd + c]? = some ((findO i c n.opens).getD d.up) := by
  unfold Node.view
  rw [viewRows_get _ _ _ hw 0 i c hc, hr]
  simp [hd]
end Go.Am
