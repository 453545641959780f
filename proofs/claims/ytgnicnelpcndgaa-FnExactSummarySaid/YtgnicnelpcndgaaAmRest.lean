/- AM: temporaries put at rest and woken. Nothing is assumed. -/
import Derived.Test.YtgnicnelpcndgaaAmOp
set_option linter.unusedVariables false
set_option linter.unusedSimpArgs false
namespace Go.Am
/-- What is at rest: no array is open. -/
inductive Rst1 (X : Nat → Prop) (w : World) (Z : Nat → Prop) : AV → Value → List Nat → Prop
  | c {x : AV} {v : Value} {c : List Nat} (h : CRel w Z [] x v c) : Rst1 X w Z x v c
  | b {xs : List AV} {b off : Nat} {vs : List Value} {c : List Nat} (hh : Holds w b off vs) (hf : Free w b off xs.length) (h : CRelL w Z [] xs vs c) : Rst1 X w Z (.b xs) (.pointer (some ⟨b, off, none⟩)) (b :: c)
  | p {x : AV} {v : Value} (h : ARel X w Z [] x v) : Rst1 X w Z x v []
inductive Rst1L (X : Nat → Prop) (w : World) (Z : Nat → Prop) : List AV → List Value → List Nat → Prop
  | nil : Rst1L X w Z [] [] []
  | cons {x : AV} {xs : List AV} {v : Value} {vs : List Value} {c c' : List Nat} (h : Rst1 X w Z x v c) (h' : Rst1L X w Z xs vs c') : Rst1L X w Z (x :: xs) (v :: vs) (c ++ c')
inductive Rst (X : Nat → Prop) (w : World) (Z : Nat → Prop) : AV → Value → List Nat → Prop
  | o {x : AV} {v : Value} {c : List Nat} (h : Rst1 X w Z x v c) : Rst X w Z x v c
  | g {xs : List AV} {vs : Array Value} {c : List Nat} (h : Rst1L X w Z xs vs.toList c) : Rst X w Z (.g xs) (.agg vs) c
inductive RstL (X : Nat → Prop) (w : World) (Z : Nat → Prop) : List AV → List Value → List Nat → Prop
  | nil : RstL X w Z [] [] []
  | cons {x : AV} {xs : List AV} {v : Value} {vs : List Value} {c c' : List Nat} (h : Rst X w Z x v c) (h' : RstL X w Z xs vs c') : RstL X w Z (x :: xs) (v :: vs) (c ++ c')
section
variable {X : Nat → Prop} {w : World} {Z : Nat → Prop} {hs : List Hd}
theorem ext_nil (hs : List Hd) : ∀ (id : Nat) (h : Hd), ([] : List Hd)[id]? = some h → hs[id]? = some h := fun id h hh => by simp at hh
theorem ARel.base {x : AV} {v : Value} (h : ARel X w Z [] x v) : ARel X w Z hs x v := h.frame (fun _ h => h) (fun _ _ => rfl) (ext_nil hs)
theorem CRelL.base {x : List AV} {v : List Value} {c : List Nat} (h : CRelL w Z [] x v c) : CRelL w Z hs x v c := h.frame (fun _ h => h) (fun _ _ => rfl) (fun _ _ => rfl) (ext_nil hs)
/-- The cells of an opened variable. -/
theorem restRow_ok {opens : Opens} (row : Row) : ∀ {m m' : Mem} {k : Nat} {xs : List AV} {vs : List Value} {c cv : List Nat}, restRow m opens k row = some (xs, m') → MemL w Z hs hs m c → CRelL w Z hs (viewRow opens 0 k row) vs cv →
    ∃ c' cd, CRelL w Z [] xs vs cd ∧ MemL w Z hs hs m' c' ∧ ∀ b, (c' ++ cd).count b = (c ++ cv).count b := by
  induction row with
  | nil =>
    intro m m' k xs vs c cv h hm hv
    simp only [restRow, Option.some.injEq, Prod.mk.injEq] at h
    obtain ⟨rfl, rfl⟩ := h
    cases hv
    exact ⟨c, [], .nil, hm, fun b => rfl⟩
  | cons d ds ih =>
    intro m m' k xs vs c cv h hm hv
    simp only [restRow] at h
    split at h
    · rename_i x m1 h1
      split at h
      · rename_i xs' m2 h2
        simp only [Option.some.injEq, Prod.mk.injEq] at h
        obtain ⟨rfl, rfl⟩ := h
        simp only [viewRow] at hv
        cases hv with
        | @cons _ _ v vs cc cr hv hv' =>
          have key : ∃ c1 cd, CRel w Z [] x v cd ∧ MemL w Z hs hs m1 c1 ∧ ∀ b, (c1 ++ cd).count b = (c ++ cc).count b := by
            unfold restCell at h1
            generalize findO 0 k opens = o at h1 hv
            split at h1
            · simp only [Option.some.injEq, Prod.mk.injEq] at h1
              obtain ⟨rfl, rfl⟩ := h1
              simp only [Option.getD_none] at hv
              exact ⟨c, cc, CRel.of_own hv.own, hm, fun b => rfl⟩
            · rename_i id
              split at h1
              · rename_i wd rows m3 ht
                simp only [Option.some.injEq, Prod.mk.injEq] at h1
                obtain ⟨rfl, rfl⟩ := h1
                obtain ⟨hd, c1, cd, e1, e2, e3, e4⟩ := takeId_ok ht hm
                simp only [Option.getD_some] at hv
                cases hv with
                | r hh =>
                  rw [e1] at hh
                  cases hh
                  exact ⟨c1, cd, .o e2, e3, fun b => by rw [e4 b]; simp⟩
              · simp at h1
            · simp only [Option.some.injEq, Prod.mk.injEq] at h1
              obtain ⟨rfl, rfl⟩ := h1
              simp only [Option.getD_some] at hv
              cases hv with
              | fz h => exact ⟨c, [], .fz h, hm, fun b => rfl⟩
            · simp at h1
          obtain ⟨c1, cd, e1, e2, e3⟩ := key
          obtain ⟨c2, cd', f1, f2, f3⟩ := ih h2 e2 hv'
          refine ⟨c2, cd ++ cd', .cons e1 f1, f2, fun b => ?_⟩
          have := e3 b
          have := f3 b
          simp only [List.count_append] at *
          omega
      · simp at h
    · simp at h
theorem restAV_ok {m m' : Mem} {x y : AV} {v : Value} {c : List Nat} (h : restAV m x = some (y, m')) (hm : MemL w Z hs hs m c) (hx : ARel X w Z hs x v) :
    ∃ c' cd, Rst1 X w Z y v cd ∧ MemL w Z hs hs m' c' ∧ ∀ b, (c' ++ cd).count b ≤ c.count b := by
  have same : ∀ cd : Unit, Rst1 X w Z x v [] → some (x, m) = some (y, m') → ∃ c' cd, Rst1 X w Z y v cd ∧ MemL w Z hs hs m' c' ∧ ∀ b, (c' ++ cd).count b ≤ c.count b := fun _ h1 h => by
    simp only [Option.some.injEq, Prod.mk.injEq] at h
    obtain ⟨rfl, rfl⟩ := h
    exact ⟨c, [], h1, hm, fun b => by simp⟩
  unfold restAV at h
  split at h
  · cases hx with | v hx => exact same () (.c (.v hx)) h
  · cases hx with | fz hx => exact same () (.c (.fz hx)) h
  · cases hx with | o => exact same () (.c (.o .z)) h
  · cases hx with | fa h1 h2 h3 => exact same () (.p (.fa h1 h2 h3)) h
  · rename_i fn
    cases hx with
    | @f _ _ cs h1 h2 =>
      generalize hcs : cs.toList = l at h2
      cases h2
      exact same () (.p (.f h1 (by rw [hcs]; exact .nil))) h
  · split at h
    · rename_i wd rows m1 ht
      simp only [Option.some.injEq, Prod.mk.injEq] at h
      obtain ⟨rfl, rfl⟩ := h
      obtain ⟨hd, c1, cd, e1, e2, e3, e4⟩ := takeId_ok ht hm
      cases hx with
      | r hh =>
        rw [e1] at hh
        cases hh
        exact ⟨c1, cd, .c (.o e2), e3, fun b => by rw [e4 b]; exact Nat.le_refl _⟩
    · simp at h
  · rename_i id
    split at h
    · rename_i xs m1 ht
      simp only [Option.some.injEq, Prod.mk.injEq] at h
      obtain ⟨rfl, rfl⟩ := h
      unfold restVar at ht
      split at ht
      · rename_i nwd row opens hn
        obtain ⟨hd, c1, cn, c2, e1, e2, e3, e4, e5, _⟩ := hm.at hn
        cases hx with
        | @a _ _ _ b off hd' hh hb hi =>
          rw [e1] at hh
          cases hh
          rcases e3.mem with ⟨z1, _⟩ | ⟨b', off', vs, c', f1, f2, f3, f4, f5, rfl⟩
          · simp at z1
          · rw [hb] at f1
            cases f1
            have hv : (Node.mk nwd [row] opens).view = viewRow opens 0 0 row := by simp [Node.view, viewRows]
            rw [hv] at f5
            have hlx := f5.length
            rw [viewRow_length] at hlx
            have hrow : row.length = nwd := e3.rows row (by simp)
            obtain ⟨c3, cd, g1, g2, g3⟩ := restRow_ok row ht e5 f5
            have hxl := g1.length
            refine ⟨c3, b :: cd, ?_, g2, fun x => ?_⟩
            · simp only [Nat.zero_mul, Nat.add_zero]
              refine .b f3 ?_ g1
              obtain ⟨cs, el, fz, j1, j2, j3⟩ := f4
              simp only [List.length_singleton] at f2
              simp only at j2 j3
              have : nwd ≤ hd.cap * nwd := Nat.le_mul_of_pos_left _ (by omega)
              exact ⟨cs, el, fz, j1, by omega, fun k hk hk' => j3 k hk (by omega)⟩
            · have := g3 x
              rw [e4]
              simp only [List.count_append, List.count_cons] at *
              omega
      · simp at ht
    · simp at h
  · cases hx with
    | ff h1 h2 => exact same () (.p (.ff h1 h2)) h
  · cases hx with | n => exact same () (.p .n) h
  · exact same () (.p .u) h
  · simp at h
theorem restCells_ok {xs : List AV} : ∀ {m m' : Mem} {ys : List AV} {vs : List Value} {c : List Nat}, restCells m xs = some (ys, m') → MemL w Z hs hs m c → ARelL X w Z hs xs vs →
    ∃ c' cd, Rst1L X w Z ys vs cd ∧ MemL w Z hs hs m' c' ∧ ∀ b, (c' ++ cd).count b ≤ c.count b := by
  induction xs with
  | nil =>
    intro m m' ys vs c h hm hx
    simp only [restCells, Option.some.injEq, Prod.mk.injEq] at h
    obtain ⟨rfl, rfl⟩ := h
    cases hx
    exact ⟨c, [], .nil, hm, fun b => by simp⟩
  | cons x xs ih =>
    intro m m' ys vs c h hm hx
    cases hx with
    | cons hx hx' =>
      simp only [restCells] at h
      split at h
      · rename_i y m1 h1
        split at h
        · rename_i ys' m2 h2
          simp only [Option.some.injEq, Prod.mk.injEq] at h
          obtain ⟨rfl, rfl⟩ := h
          obtain ⟨c1, cd, e1, e2, e3⟩ := restAV_ok h1 hm hx
          obtain ⟨c2, cd', f1, f2, f3⟩ := ih h2 e2 hx'
          refine ⟨c2, cd ++ cd', .cons e1 f1, f2, fun b => ?_⟩
          have := e3 b
          have := f3 b
          simp only [List.count_append] at *
          omega
        · simp at h
      · simp at h
theorem rest1ok {m m' : Mem} {x y : AV} {v : Value} {c : List Nat} (h : rest1 m x = some (y, m')) (hm : MemL w Z hs hs m c) (hx : ARel X w Z hs x v) :
    ∃ c' cd, Rst X w Z y v cd ∧ MemL w Z hs hs m' c' ∧ ∀ b, (c' ++ cd).count b ≤ c.count b := by
  unfold rest1 at h
  split at h
  · split at h
    · rename_i ys m1 h1
      simp only [Option.some.injEq, Prod.mk.injEq] at h
      obtain ⟨rfl, rfl⟩ := h
      cases hx with
      | g hx =>
        obtain ⟨c1, cd, e1, e2, e3⟩ := restCells_ok h1 hm hx
        exact ⟨c1, cd, .g e1, e2, e3⟩
    · simp at h
  · obtain ⟨c1, cd, e1, e2, e3⟩ := restAV_ok h hm hx
    exact ⟨c1, cd, .o e1, e2, e3⟩
theorem restAVs_ok {t : Tmps} {f : Nat → Value} (ht : ∀ i, ARel X w Z hs (t i) (f i)) (is : List Nat) : ∀ {m m' : Mem} {ys : List AV} {c : List Nat}, restAVs t m is = some (ys, m') → MemL w Z hs hs m c →
    ∃ c' cd, RstL X w Z ys (is.map f) cd ∧ MemL w Z hs hs m' c' ∧ ∀ b, (c' ++ cd).count b ≤ c.count b := by
  induction is with
  | nil =>
    intro m m' ys c h hm
    simp only [restAVs, Option.some.injEq, Prod.mk.injEq] at h
    obtain ⟨rfl, rfl⟩ := h
    exact ⟨c, [], .nil, hm, fun b => by simp⟩
  | cons i is ih =>
    intro m m' ys c h hm
    simp only [restAVs] at h
    split at h
    · rename_i y m1 h1
      split at h
      · rename_i ys' m2 h2
        simp only [Option.some.injEq, Prod.mk.injEq] at h
        obtain ⟨rfl, rfl⟩ := h
        obtain ⟨c1, cd, e1, e2, e3⟩ := rest1ok h1 hm (ht i)
        obtain ⟨c2, cd', f1, f2, f3⟩ := ih h2 e2
        refine ⟨c2, cd ++ cd', .cons e1 f1, f2, fun b => ?_⟩
        have := e3 b
        have := f3 b
        simp only [List.count_append] at *
        omega
      · simp at h
    · simp at h
/-! ### waking -/
theorem CRelL.cellK {xs : List AV} : ∀ {vs : List Value} {c : List Nat}, CRelL w Z hs xs vs c → ∀ x ∈ xs, CellK x := by
  induction xs with
  | nil => intro vs c _; simp
  | cons x xs ih =>
    intro vs c h
    cases h with
    | cons h h' =>
      intro y hy
      rcases List.mem_cons.1 hy with rfl | hy
      · cases h <;> trivial
      · exact ih h' y hy
theorem wakeAV_ok {m : Mem} {x : AV} {v : Value} {c cx : List Nat} (hm : MemL w Z hs hs m c) (hx : Rst1 X w Z x v cx) :
    ∃ hs' c', Ext hs hs' ∧ MemL w Z hs' hs' (wakeAV m x).2 c' ∧ ARel X w Z hs' (wakeAV m x).1 v ∧ ∀ b, c'.count b ≤ (c ++ cx).count b := by
  cases hx with
  | c h =>
    cases h with
    | v h => exact ⟨hs, c, Ext.refl _, hm, .v h, fun b => by simp⟩
    | fz h => exact ⟨hs, c, Ext.refl _, hm, .fz h, fun b => by simp⟩
    | r h => simp at h
    | o h =>
      obtain ⟨hd, h1, _, h3⟩ := own_node (Z := Z) h
      refine ⟨hs ++ [hd], c ++ cx, Ext.append _ _, (hm.frame (fun _ h => h) (fun _ _ => rfl) (fun _ _ => rfl) (Ext.append _ _)).append (h3 _), ?_, fun b => Nat.le_refl _⟩
      show ARel X w Z (hs ++ [hd]) (.r m.length) v
      rw [h1]
      exact .r (by rw [← hm.length]; simp)
  | @b xs b off vs cc hh hf h =>
    have hk := h.cellK
    have hl := h.length
    refine ⟨hs ++ [⟨some ⟨b, off, none⟩, xs.length, 1, 1⟩], c ++ (b :: cc), Ext.append _ _, (hm.frame (fun _ h => h) (fun _ _ => rfl) (fun _ _ => rfl) (Ext.append _ _)).append ?_, ?_, fun b => Nat.le_refl _⟩
    · refine ⟨rfl, rfl, by simp [wakeRow_length], fun e he => ?_, wakeOpens_keys hk, fun e he => (wakeOpens_mem hk he).2.2.2, .inr ⟨b, off, vs, cc, rfl, Nat.le_refl _, hh, by simpa using hf, by rw [view_wake hk]; exact h.base, rfl⟩⟩
      have := wakeOpens_mem hk he
      simp only [List.length_singleton]
      exact ⟨by omega, by omega⟩
    · have := ARel.a (X := X) (w := w) (Z := Z) (hs := hs ++ [⟨some ⟨b, off, none⟩, xs.length, 1, 1⟩]) (id := m.length) (i := 0) (c := 0) (b := b) (off := off) (h := ⟨some ⟨b, off, none⟩, xs.length, 1, 1⟩) (by rw [← hm.length]; simp) rfl (by simp)
      simpa [wakeAV] using this
  | p h =>
    cases h with
    | v h => exact ⟨hs, c, Ext.refl _, hm, .v h, fun b => by simp⟩
    | @o wd base =>
      refine ⟨hs ++ [⟨base, wd, 0, 0⟩], c ++ [], Ext.append _ _, (hm.frame (fun _ h => h) (fun _ _ => rfl) (fun _ _ => rfl) (Ext.append _ _)).append ⟨rfl, rfl, by simp, by simp, by simp, by simp, .inl ⟨rfl, rfl, rfl⟩⟩, ?_, fun b => Nat.le_refl _⟩
      exact ARel.r (h := ⟨base, wd, 0, 0⟩) (by rw [← hm.length]; simp)
    | fz h => exact ⟨hs, c, Ext.refl _, hm, .fz h, fun b => by simp⟩
    | r h => simp at h
    | g h => exact ⟨hs, c, Ext.refl _, hm, (ARel.g h).base, fun b => by simp⟩
    | a h => simp at h
    | fa h1 h2 h3 => exact ⟨hs, c, Ext.refl _, hm, .fa h1 h2 h3, fun b => by simp⟩
    | f h1 h2 => exact ⟨hs, c, Ext.refl _, hm, (ARel.f h1 h2).base, fun b => by simp⟩
    | ff h1 h2 => exact ⟨hs, c, Ext.refl _, hm, .ff h1 h2, fun b => by simp⟩
    | t h => exact ⟨hs, c, Ext.refl _, hm, (ARel.t h).base, fun b => by simp⟩
    | n => exact ⟨hs, c, Ext.refl _, hm, .n, fun b => by simp⟩
    | u => exact ⟨hs, c, Ext.refl _, hm, .u, fun b => by simp⟩
theorem wakeCells_ok {xs : List AV} : ∀ {m : Mem} {hs : List Hd} {vs : List Value} {c cx : List Nat}, MemL w Z hs hs m c → Rst1L X w Z xs vs cx →
    ∃ hs' c', Ext hs hs' ∧ MemL w Z hs' hs' (wakeCells m xs).2 c' ∧ ARelL X w Z hs' (wakeCells m xs).1 vs ∧ ∀ b, c'.count b ≤ (c ++ cx).count b := by
  induction xs with
  | nil =>
    intro m hs vs c cx hm hx
    cases hx
    exact ⟨hs, c, Ext.refl _, hm, .nil, fun b => by simp⟩
  | cons x xs ih =>
    intro m hs vs c cx hm hx
    cases hx with
    | cons hx hx' =>
      obtain ⟨hs1, c1, e1, e2, e3, e4⟩ := wakeAV_ok hm hx
      obtain ⟨hs2, c2, f1, f2, f3, f4⟩ := ih e2 hx'
      refine ⟨hs2, c2, fun id h hh => f1 _ _ (e1 _ _ hh), f2, .cons (e3.frame (fun _ h => h) (fun _ _ => rfl) f1) f3, fun b => ?_⟩
      have := e4 b
      have := f4 b
      simp only [List.count_append] at *
      omega
theorem wake1ok {m : Mem} {x : AV} {v : Value} {c cx : List Nat} (hm : MemL w Z hs hs m c) (hx : Rst X w Z x v cx) :
    ∃ hs' c', Ext hs hs' ∧ MemL w Z hs' hs' (wake1 m x).2 c' ∧ ARel X w Z hs' (wake1 m x).1 v ∧ ∀ b, c'.count b ≤ (c ++ cx).count b := by
  have lift : ∀ {xs : List AV} {vs : List Value}, ARelL X w Z [] xs vs → Rst1L X w Z xs vs [] := by
    intro xs
    induction xs with
    | nil => intro vs h; cases h; exact .nil
    | cons x xs ih => intro vs h; cases h with | cons h h' => simpa using Rst1L.cons (Rst1.p h) (ih h')
  have agg : ∀ {xs : List AV} {vs : Array Value} {cx : List Nat}, Rst1L X w Z xs vs.toList cx →
      ∃ hs' c', Ext hs hs' ∧ MemL w Z hs' hs' (wake1 m (.g xs)).2 c' ∧ ARel X w Z hs' (wake1 m (.g xs)).1 (.agg vs) ∧ ∀ b, c'.count b ≤ (c ++ cx).count b := fun h => by
    obtain ⟨hs', c', e1, e2, e3, e4⟩ := wakeCells_ok hm h
    exact ⟨hs', c', e1, e2, .g e3, e4⟩
  cases hx with
  | g h => exact agg h
  | o h =>
    by_cases hg : ∃ xs, x = .g xs
    · obtain ⟨xs, rfl⟩ := hg
      cases h with
      | c h => cases h
      | p h => cases h with | g h => exact agg (lift h)
    · have : wake1 m x = wakeAV m x := by
        cases x <;> first | rfl | exact absurd ⟨_, rfl⟩ hg
      rw [this]
      exact wakeAV_ok hm h
theorem wakeAVs_ok {f : Nat → Value} (is : List Nat) : ∀ {xs : List AV} {t : Tmps} {m : Mem} {hs : List Hd} {c cx : List Nat}, MemL w Z hs hs m c → (∀ i, ARel X w Z hs (t i) (f i)) → RstL X w Z xs (is.map f) cx →
    ∃ hs' c', MemL w Z hs' hs' (wakeAVs t m is xs).m c' ∧ (∀ i, ARel X w Z hs' ((wakeAVs t m is xs).t i) (f i)) ∧ ∀ b, c'.count b ≤ (c ++ cx).count b := by
  induction is with
  | nil =>
    intro xs t m hs c cx hm ht hx
    cases hx
    exact ⟨hs, c, hm, ht, fun b => by simp⟩
  | cons i is ih =>
    intro xs t m hs c cx hm ht hx
    generalize hv : (i :: is).map f = vs at hx
    cases hx with
    | nil => simp at hv
    | @cons x xs v vs cc cr hx hx' =>
      simp only [List.map_cons, List.cons.injEq] at hv
      obtain ⟨rfl, rfl⟩ := hv
      obtain ⟨hs1, c1, e1, e2, e3, e4⟩ := wake1ok hm hx
      simp only [wakeAVs]
      obtain ⟨hs2, c2, f1, f2, f3⟩ := ih (t := upd t i (wake1 m x).1) e2 (fun j => by
        unfold upd
        cases hj : Nat.beq j i with
        | true =>
          have := Nat.eq_of_beq_eq_true hj
          subst this
          exact e3
        | false => exact (ht j).frame (fun _ h => h) (fun _ _ => rfl) e1) hx'
      refine ⟨hs2, c2, f1, f2, fun b => ?_⟩
      have := e4 b
      have := f3 b
      simp only [List.count_append] at *
      omega
end
end Go.Am
