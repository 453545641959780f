/- AM: a deep look into the memory of an activation is frozen data, for as long as nobody writes there. Nothing is assumed. -/
import Derived.Test.YtgnicnelpcndgaaAmTake
set_option linter.unusedVariables false
set_option linter.unusedSimpArgs false
namespace Go.Am
section
variable {X : Nat → Prop} {w : World} {Z Z' : Nat → Prop} {hs : List Hd}
/-- A cell, when what is at rest is taken as frozen. -/
inductive FC (w : World) (Z : Nat → Prop) (hs : List Hd) : AV → Value → Prop
  | v {x : Value} (h : Sc x) : FC w Z hs (.v x) x
  | o {wd : Nat} {rows : Rows} {v : Value} (h : FroD w Z (.s wd rows) v) : FC w Z hs (.o wd rows) v
  | fz {wd : Nat} {rows : Rows} {v : Value} (h : FroD w Z (.s wd rows) v) : FC w Z hs (.fz wd rows) v
  | r {id : Nat} {h : Hd} (hh : hs[id]? = some h) : FC w Z hs (.r id) (.slice h.base h.len h.cap)
inductive FCL (w : World) (Z : Nat → Prop) (hs : List Hd) : List AV → List Value → Prop
  | nil : FCL w Z hs [] []
  | cons {x : AV} {xs : List AV} {v : Value} {vs : List Value} (h : FC w Z hs x v) (h' : FCL w Z hs xs vs) : FCL w Z hs (x :: xs) (v :: vs)
theorem FCL.of {x : List AV} {v : List Value} {c : List Nat} (h : CRelL w Z hs x v c) (hz : ∀ b, Z b → Z' b) (hc : ∀ b ∈ c, Z' b) : FCL w Z' hs x v := by
  induction x generalizing v c with
  | nil => cases h; exact .nil
  | cons y ys ih => cases h with
    | cons h h' =>
      refine .cons ?_ (ih h' fun b h => hc b (by simp [h]))
      cases h with
      | v h => exact .v h
      | o h => exact .o (h.fro fun b h => hc b (by simp [h]))
      | fz h => exact .fz (h.frame hz fun _ _ => rfl)
      | r h => exact .r h
theorem FCL.at {x : List AV} {v : List Value} (h : FCL w Z hs x v) {k : Nat} {y : AV} (hk : x[k]? = some y) :
    ∃ u, v[k]? = some u ∧ FC w Z hs y u ∧ ∀ y' u', FC w Z hs y' u' → FCL w Z hs (x.set k y') (v.set k u') := by
  induction x generalizing v k with
  | nil => simp at hk
  | cons d ds ih => cases h with
    | cons h h' => cases k with
      | zero => simp at hk; subst hk; exact ⟨_, rfl, h, fun y' u' h1 => by simpa using FCL.cons h1 h'⟩
      | succ k =>
        obtain ⟨u, e1, e2, e4⟩ := ih h' (by simpa using hk)
        exact ⟨u, by simpa using e1, e2, fun y' u' h1 => by simpa using FCL.cons h (e4 y' u' h1)⟩
theorem FC.fro {d : D} {v : Value} (h : FC w Z hs d.up v) : FroD w Z d v := by
  cases d with
  | v x => cases h with | v h => exact .v h
  | s wd rows => cases h with | o h => exact h
theorem FCL.fro {ds : List D} {vs : List Value} (h : FCL w Z hs (ds.map D.up) vs) : FroL w Z ds vs := by
  induction ds generalizing vs with
  | nil => cases h; exact .nil
  | cons d ds ih => cases h with | cons h h' => exact .cons h.fro (ih h')
theorem FC.of_fro {d : D} {v : Value} (h : FroD w Z d v) : FC w Z hs d.up v := by
  cases h with
  | v h => exact .v h
  | z => exact .o .z
  | s h1 h2 h3 h4 h5 => exact .o (.s h1 h2 h3 h4 h5)
theorem snapOpens_ok (f : Nat → Option D) (hf : ∀ id d, f id = some d → ∃ h, hs[id]? = some h ∧ FroD w Z d (.slice h.base h.len h.cap))
    {wd : Nat} (l : Opens) : ∀ (rows rows' : Rows) (vs : List Value), snapOpens f rows l = some rows' → (∀ r ∈ rows, r.length = wd) →
      (∀ e ∈ l, e.1.1 < rows.length ∧ e.1.2 < wd) → (l.Pairwise fun e e' => e.1 ≠ e'.1) → FCL w Z hs (viewRows l 0 rows) vs →
      rows'.length = rows.length ∧ (∀ r ∈ rows', r.length = wd) ∧ FroL w Z rows'.flatten vs := by
  induction l with
  | nil =>
    intro rows rows' vs h hw _ _ hv
    simp only [snapOpens, Option.some.injEq] at h
    subst h
    rw [viewRows_nil] at hv
    exact ⟨rfl, hw, hv.fro⟩
  | cons e l ih =>
    obtain ⟨⟨i, c0⟩, x⟩ := e
    intro rows rows' vs h hw ho hk hv
    obtain ⟨hi, hc⟩ := ho _ List.mem_cons_self
    have hk' := List.pairwise_cons.1 hk
    have hn : findO i c0 l = none := findO_none fun e he h' => hk'.1 e he h'.symm
    have hr : rows[i]? = some rows[i] := List.getElem?_eq_getElem hi
    have hlen : c0 < (rows[i]).length := by rw [hw _ (List.getElem_mem hi)]; exact hc
    have hget : (viewRows (((i, c0), x) :: l) 0 rows)[i * wd + c0]? = some x := by
      rw [viewRows_get _ wd rows hw 0 i c0 hc, hr]
      simp [hlen, findO]
    obtain ⟨u, g1, g2, g4⟩ := hv.at hget
    have step : ∀ d, FroD w Z d u → snapOpens f (setD rows i c0 d) l = some rows' →
        rows'.length = rows.length ∧ (∀ r ∈ rows', r.length = wd) ∧ FroL w Z rows'.flatten vs := by
      intro d hd h
      have g5 := g4 _ _ (FC.of_fro (hs := hs) hd)
      rw [set_same g1, ← view_close hw hi hc x l hn d] at g5
      obtain ⟨r1, r2, r3⟩ := ih _ _ _ h (setD_wd hw i c0 d) (fun e he => by rw [setD_length]; exact ho e (by simp [he])) hk'.2 g5
      exact ⟨by rw [r1, setD_length], r2, r3⟩
    simp only [snapOpens] at h
    split at h
    · rename_i id
      split at h
      · rename_i d hfe
        obtain ⟨hd, e1, e2⟩ := hf _ _ hfe
        cases g2 with
        | r hh' => rw [e1] at hh'; cases hh'; exact step d e2 h
      · simp at h
    · cases g2 with | fz h' => exact step _ h' h
    · simp at h
theorem snapId_ok {m : Mem} {c : List Nat} (hm : MemL w Z hs hs m c) (hz : ∀ b, Z b → Z' b) (hc : ∀ b ∈ c, Z' b) (k : Nat) :
    ∀ (id : Nat) (d : D), snapId m k id = some d → ∃ h, hs[id]? = some h ∧ FroD w Z' d (.slice h.base h.len h.cap) := by
  induction k with
  | zero => intro id d h; simp [snapId] at h
  | succ k ih =>
    intro id d h
    simp only [snapId] at h
    split at h
    · rename_i n hn
      split at h
      · rename_i rows hc'
        simp only [Option.some.injEq] at h
        subst h
        obtain ⟨hd, c1, cn, c2, e1, e2, e3, rfl, e5, _⟩ := hm.at hn
        refine ⟨hd, e1, ?_⟩
        rcases e3.mem with ⟨z1, z2, rfl⟩ | ⟨b, off, vs, c', f1, f2, f3, f4, f5, rfl⟩
        · have ho : n.opens = [] := by
            cases ho : n.opens with
            | nil => rfl
            | cons e l => have := (e3.opens e (by simp [ho])).1; simp [z1] at this
          rw [ho, z1] at hc'
          simp only [snapOpens, Option.some.injEq] at hc'
          subst hc'
          rw [e3.len, z1]
          exact .z
        · obtain ⟨r1, r2, r3⟩ := snapOpens_ok (hs := hs) (snapId m k) ih _ _ _ _ hc' e3.rows e3.opens e3.keys (FCL.of f5 hz fun b h => hc b (by simp [h]))
          rw [f1, e3.len, ← r1]
          exact .s r2 (by omega) (hc _ (by simp)) f3 r3
      · simp at h
    · simp at h
theorem snapCell_ok {m : Mem} {c : List Nat} (hm : MemL w Z hs hs m c) (hz : ∀ b, Z b → Z' b) (hc : ∀ b ∈ c, Z' b) {x : AV} {d : D} {v : Value}
    (h : snapCell m x = some d) (hx : ARel X w Z hs x v) : FroD w Z' d v := by
  cases x with
  | v x => simp only [snapCell, Option.some.injEq] at h; subst h; cases hx with | v h => exact .v h
  | o wd rows => simp only [snapCell, Option.some.injEq] at h; subst h; cases hx with | o => exact .z
  | fz wd rows => simp only [snapCell, Option.some.injEq] at h; subst h; cases hx with | fz h => exact h.frame hz fun _ _ => rfl
  | r id =>
    simp only [snapCell] at h
    obtain ⟨hd, e1, e2⟩ := snapId_ok hm hz hc _ _ _ h
    cases hx with | r hh => rw [e1] at hh; cases hh; exact e2
  | _ => simp [snapCell] at h
theorem snapCells_ok {m : Mem} {c : List Nat} (hm : MemL w Z hs hs m c) (hz : ∀ b, Z b → Z' b) (hc : ∀ b ∈ c, Z' b) {xs : List AV} :
    ∀ {ds : Row} {vs : List Value}, snapCells m xs = some ds → ARelL X w Z hs xs vs → FroL w Z' ds vs := by
  induction xs with
  | nil => intro ds vs h hx; simp only [snapCells, Option.some.injEq] at h; subst h; cases hx; exact .nil
  | cons x xs ih =>
    intro ds vs h hx
    cases hx with
    | cons hx hx' =>
      simp only [snapCells] at h
      split at h
      · rename_i d h1
        split at h
        · rename_i ds' h2
          simp only [Option.some.injEq] at h
          subst h
          exact .cons (snapCell_ok hm hz hc h1 hx) (ih h2 hx')
        · simp at h
      · simp at h
theorem snapI1ok {m : Mem} {c : List Nat} (hm : MemL w Z hs hs m c) (hz : ∀ b, Z b → Z' b) (hc : ∀ b ∈ c, Z' b) {x : AV} {i : I} {v : Value}
    (h : snapI1 m x = some i) (hx : ARel X w Z hs x v) : IFro X w Z' i v := by
  unfold snapI1 at h
  split at h
  · split at h
    · rename_i ds h1
      cases h
      cases hx with | g hx => exact .g (snapCells_ok hm hz hc h1 hx)
    · simp at h
  · cases h
    cases hx with | fa hz' hh h => exact .p (hz _ hz') hh (by simpa using h.frame hz fun _ _ => rfl)
  · rename_i id
    split at h
    · rename_i wd row h1
      cases h
      obtain ⟨hd, e1, e2⟩ := snapId_ok hm hz hc _ _ _ h1
      cases hx with
      | @a _ _ _ b off hd' hh hb hi =>
        rw [e1] at hh
        cases hh
        rw [hb] at e2
        generalize hl : hd.len = n at e2
        cases e2 with
        | s g1 g1' g2 g3 g4 => simp only [Nat.zero_mul, Nat.add_zero]; exact .p g2 g3 (by simpa using g4)
    · simp at h
  · split at h
    · rename_i d h1
      cases h
      exact .d (snapCell_ok hm hz hc h1 hx)
    · simp at h
theorem snapI1s_ok {m : Mem} {c : List Nat} (hm : MemL w Z hs hs m c) (hz : ∀ b, Z b → Z' b) (hc : ∀ b ∈ c, Z' b) {xs : List AV} :
    ∀ {is : List I} {vs : List Value}, snapI1s m xs = some is → ARelL X w Z hs xs vs → IFroL X w Z' is vs := by
  induction xs with
  | nil => intro ds vs h hx; simp only [snapI1s, Option.some.injEq] at h; subst h; cases hx; exact .nil
  | cons x xs ih =>
    intro ds vs h hx
    cases hx with
    | cons hx hx' =>
      simp only [snapI1s] at h
      split at h
      · rename_i d h1
        split at h
        · rename_i ds' h2
          simp only [Option.some.injEq] at h
          subst h
          exact .cons (snapI1ok hm hz hc h1 hx) (ih h2 hx')
        · simp at h
      · simp at h
theorem snapI_ok {m : Mem} {c : List Nat} (hm : MemL w Z hs hs m c) (hz : ∀ b, Z b → Z' b) (hc : ∀ b ∈ c, Z' b) {x : AV} {i : I} {v : Value}
    (h : snapI m x = some i) (hx : ARel X w Z hs x v) : IFro X w Z' i v := by
  unfold snapI at h
  split at h
  · split at h
    · rename_i is h1
      cases h
      cases hx with | f hf hx => exact .f hf (snapI1s_ok hm hz hc h1 hx)
    · simp at h
  · cases h
    cases hx with | ff hf hx => exact .f hf (hx.frame hz fun _ _ => rfl)
  · exact snapI1ok hm hz hc h hx
theorem snapIs_ok {m : Mem} {c : List Nat} (hm : MemL w Z hs hs m c) (hz : ∀ b, Z b → Z' b) (hc : ∀ b ∈ c, Z' b) {xs : List AV} :
    ∀ {is : List I} {vs : List Value}, snapIs m xs = some is → ARelL X w Z hs xs vs → IFroL X w Z' is vs := by
  induction xs with
  | nil => intro ds vs h hx; simp only [snapIs, Option.some.injEq] at h; subst h; cases hx; exact .nil
  | cons x xs ih =>
    intro ds vs h hx
    cases hx with
    | cons hx hx' =>
      simp only [snapIs] at h
      split at h
      · rename_i d h1
        split at h
        · rename_i ds' h2
          simp only [Option.some.injEq] at h
          subst h
          exact .cons (snapI_ok hm hz hc h1 hx) (ih h2 hx')
        · simp at h
      · simp at h
theorem takeIs_ok {xs : List AV} : ∀ {m m' : Mem} {is : List I} {vs : List Value} {c : List Nat}, takeIs m xs = some (is, m') → ARelL X w Z hs xs vs → MemL w Z hs hs m c →
    ∃ c' cd, IOwnL X w is vs cd ∧ MemL w Z hs hs m' c' ∧ ∀ b, (c' ++ cd).count b = c.count b := by
  induction xs with
  | nil =>
    intro m m' ds vs c h hx hm
    simp only [takeIs, Option.some.injEq, Prod.mk.injEq] at h
    obtain ⟨rfl, rfl⟩ := h
    cases hx
    exact ⟨c, [], .nil, hm, fun b => by simp⟩
  | cons x xs ih =>
    intro m m' ds vs c h hx hm
    cases hx with
    | cons hx hx' =>
      simp only [takeIs] at h
      split at h
      · rename_i d m1 h1
        split at h
        · rename_i ds' m2 h2
          simp only [Option.some.injEq, Prod.mk.injEq] at h
          obtain ⟨rfl, rfl⟩ := h
          obtain ⟨c1, cd, e1, e2, e3⟩ := takeI_ok h1 hx hm
          obtain ⟨c2, cd', f1, f2, f3⟩ := ih h2 hx' e2
          refine ⟨c2, cd ++ cd', .cons e1 f1, f2, fun b => ?_⟩
          have := e3 b
          have := f3 b
          simp only [List.count_append] at *
          omega
        · simp at h
      · simp at h
/-- Arguments by their modes. -/
inductive ArgsRel (X : Nat → Prop) (w : World) (Z : Nat → Prop) : List Mode → List I → List Value → List Nat → Prop
  | nil : ArgsRel X w Z [] [] [] []
  | rd {i : I} {is : List I} {v : Value} {vs : List Value} {ms : List Mode} {c : List Nat} (h : IFro X w Z i v) (h' : ArgsRel X w Z ms is vs c) : ArgsRel X w Z (.rd :: ms) (i :: is) (v :: vs) c
  | own {i : I} {is : List I} {v : Value} {vs : List Value} {ms : List Mode} {c c' : List Nat} (h : IOwn X w i v c) (h' : ArgsRel X w Z ms is vs c') : ArgsRel X w Z (.own :: ms) (i :: is) (v :: vs) (c ++ c')
  | lent {i : I} {is : List I} {v : Value} {vs : List Value} {ms : List Mode} {c c' : List Nat} (h : IOwn X w i v c) (h' : ArgsRel X w Z ms is vs c') : ArgsRel X w Z (.lent :: ms) (i :: is) (v :: vs) (c ++ c')
/-- What is handed over, and the memory behind it. -/
theorem passArgs_ok {ms : List Mode} : ∀ {m m' : Mem} {xs : List AV} {is : List I} {vs : List Value} {c : List Nat}, passArgs m ms xs = some (is, m') → ARelL X w Z hs xs vs → MemL w Z hs hs m c →
    ∃ c' cin, MemL w Z hs hs m' c' ∧ (∀ b, (c' ++ cin).count b = c.count b) ∧ ∀ Z' : Nat → Prop, (∀ b, Z b → Z' b) → (∀ b ∈ c', Z' b) → ArgsRel X w Z' ms is vs cin := by
  induction ms with
  | nil =>
    intro m m' xs is vs c h hx hm
    cases xs with
    | cons => simp [passArgs] at h
    | nil =>
      simp only [passArgs, Option.some.injEq, Prod.mk.injEq] at h
      obtain ⟨rfl, rfl⟩ := h
      cases hx
      exact ⟨c, [], hm, fun b => by simp, fun _ _ _ => .nil⟩
  | cons md ms ih =>
    intro m m' xs is vs c h hx hm
    cases hx with
    | nil => cases md <;> simp [passArgs] at h
    | @cons x xs v vs hx hx' =>
      have own : ∀ (take : takeI m x ≠ none → True), (match takeI m x with
          | some (i, m) => match passArgs m ms xs with
            | some (is, m) => some (i :: is, m)
            | none => none
          | none => none) = some (is, m') →
          ∃ c' cin ci i is', is = i :: is' ∧ MemL w Z hs hs m' c' ∧ (∀ b, (c' ++ (ci ++ cin)).count b = c.count b) ∧ IOwn X w i v ci ∧
            ∀ Z' : Nat → Prop, (∀ b, Z b → Z' b) → (∀ b ∈ c', Z' b) → ArgsRel X w Z' ms is' vs cin := by
        intro _ h
        split at h
        · rename_i i m1 h1
          split at h
          · rename_i is' m2 h2
            simp only [Option.some.injEq, Prod.mk.injEq] at h
            obtain ⟨rfl, rfl⟩ := h
            obtain ⟨c1, cd, e1, e2, e3⟩ := takeI_ok h1 hx hm
            obtain ⟨c2, cin, f1, f2, f3⟩ := ih h2 hx' e2
            refine ⟨c2, cin, cd, i, is', rfl, f1, fun b => ?_, e1, f3⟩
            have := e3 b
            have := f2 b
            simp only [List.count_append] at *
            omega
          · simp at h
        · simp at h
      cases md with
      | rd =>
        simp only [passArgs] at h
        split at h
        · rename_i is' m1 h1
          split at h
          · rename_i i h2
            simp only [Option.some.injEq, Prod.mk.injEq] at h
            obtain ⟨rfl, rfl⟩ := h
            obtain ⟨c', cin, f1, f2, f3⟩ := ih h1 hx' hm
            exact ⟨c', cin, f1, f2, fun Z' hz hc => .rd (snapI_ok f1 hz hc h2 hx) (f3 Z' hz hc)⟩
          · simp at h
        · simp at h
      | own =>
        obtain ⟨c', cin, ci, i, is', rfl, f1, f2, f3, f4⟩ := own (fun _ => trivial) (by simp only [passArgs] at h; exact h)
        exact ⟨c', ci ++ cin, f1, f2, fun Z' hz hc => .own f3 (f4 Z' hz hc)⟩
      | lent =>
        obtain ⟨c', cin, ci, i, is', rfl, f1, f2, f3, f4⟩ := own (fun _ => trivial) (by simp only [passArgs] at h; exact h)
        exact ⟨c', ci ++ cin, f1, f2, fun Z' hz hc => .lent f3 (f4 Z' hz hc)⟩
end
end Go.Am
