/- AM: reading. Nothing is assumed. -/
import Derived.Test.YtgnicnelpcndgaaAmPure3
set_option linter.unusedVariables false
set_option linter.unusedSimpArgs false
namespace Go.Am
section
variable {P : Program} {X : Nat → Prop} {w : World} {Z : Nat → Prop} {hs : List Hd} {R : Type} {r : R}
theorem tst_some {b : Bool} {K : Option R} (h : tst b K = some r) : b = true ∧ K = some r := by
  cases b with
  | false => simp [tst] at h
  | true => exact ⟨rfl, h⟩
theorem look_some {rows : Rows} {i : Nat} {K : Row → Option R} (h : look rows i K = some r) : ∃ row, rows[i]? = some row ∧ K row = some r := by
  unfold look at h
  split at h
  · rename_i row e; exact ⟨row, e, h⟩
  · simp at h
theorem cell_some {row : Row} {c : Nat} {K : D → Option R} (h : cell row c K = some r) : ∃ d, row[c]? = some d ∧ K d = some r := by
  unfold cell at h
  split at h
  · rename_i row e; exact ⟨row, e, h⟩
  · simp at h
theorem dI_some {k : IntKind} {d : D} {K : Int → Option R} (h : dI k d K = some r) : ∃ n, d = .v (.int k n) ∧ K n = some r := by
  unfold dI at h
  split at h
  · split at h
    · rename_i e; subst e; exact ⟨_, rfl, h⟩
    · simp at h
  · simp at h
theorem dB_some {d : D} {K : Bool → Option R} (h : dB d K = some r) : ∃ n, d = .v (.bool n) ∧ K n = some r := by
  unfold dB at h
  split at h
  · exact ⟨_, rfl, h⟩
  · simp at h
theorem dS_some {d : D} {K : ByteArray → Option R} (h : dS d K = some r) : ∃ n, d = .v (.string n) ∧ K n = some r := by
  unfold dS at h
  split at h
  · exact ⟨_, rfl, h⟩
  · simp at h
theorem dL_some {wd : Nat} {d : D} {K : Rows → Option R} (h : dL wd d K = some r) : ∃ rows, d = .s wd rows ∧ K rows = some r := by
  unfold dL at h
  split at h
  · split at h
    · rename_i e; subst e; exact ⟨_, rfl, h⟩
    · simp at h
  · simp at h
/-- The cells of frozen memory, as temporaries hold them. -/
theorem ldF_some {k : Kd} {d : D} {K : AV → Option R} (h : ldF k d K = some r) : ∃ x, K x = some r ∧ ∀ (w : World) (Z : Nat → Prop) (hs : List Hd) (v : Value), FroD w Z d v → ARel X w Z hs x v := by
  cases k with
  | i k => obtain ⟨n, rfl, h'⟩ := dI_some h; exact ⟨_, h', fun _ _ _ v hv => by cases hv; exact .v trivial⟩
  | b => obtain ⟨n, rfl, h'⟩ := dB_some h; exact ⟨_, h', fun _ _ _ v hv => by cases hv; exact .v trivial⟩
  | s => obtain ⟨n, rfl, h'⟩ := dS_some h; exact ⟨_, h', fun _ _ _ v hv => by cases hv; exact .v trivial⟩
  | sl wd => obtain ⟨n, rfl, h'⟩ := dL_some h; exact ⟨_, h', fun _ _ _ v hv => .fz hv⟩
theorem ldFs_some {ks : List Kd} : ∀ {row : Row} {c : Nat} {K : List AV → Option R}, ldFs ks row c K = some r →
    ∃ xs, K xs = some r ∧ xs.length = ks.length ∧ ∀ (w : World) (Z : Nat → Prop) (hs : List Hd) (vs : List Value), FroL w Z (row.drop c) vs → ks.length ≤ vs.length ∧ ARelL X w Z hs xs (vs.take ks.length) := by
  induction ks with
  | nil => intro row c K h; exact ⟨[], h, rfl, fun _ _ _ vs _ => ⟨by simp, by simpa using ARelL.nil⟩⟩
  | cons k ks ih =>
    intro row c K h
    simp only [ldFs] at h
    obtain ⟨d, hd, h⟩ := cell_some h
    obtain ⟨x, h, hx⟩ := ldF_some (X := X) h
    obtain ⟨xs, h, hl, hxs⟩ := ih h
    refine ⟨x :: xs, h, by simp [hl], fun w Z hs vs hv => ?_⟩
    have hlt : c < row.length := (List.getElem?_eq_some_iff.1 hd).1
    have e : row.drop c = d :: row.drop (c + 1) := by
      rw [List.drop_eq_getElem_cons hlt, (List.getElem?_eq_some_iff.1 hd).2]
    rw [e] at hv
    cases hv with
    | cons h1 h2 =>
      obtain ⟨g1, g2⟩ := hxs _ _ hs _ h2
      exact ⟨by simp; omega, by simpa using ARelL.cons (hx _ _ _ _ h1) g2⟩
theorem findO_mem {i c : Nat} {l : Opens} (h : findO i c l = none) : ∀ e ∈ l, e.1 ≠ (i, c) := by
  induction l with
  | nil => simp
  | cons e l ih =>
    obtain ⟨⟨i', c'⟩, x⟩ := e
    simp only [findO] at h
    split at h
    · simp at h
    · rename_i hne
      intro e he
      rcases List.mem_cons.1 he with rfl | he
      · intro h'; simp at h'; exact hne ⟨h'.2.symm, h'.1.symm⟩
      · exact ih h e he
theorem own_node {wd : Nat} {rows : Rows} {u : Value} {ck : List Nat} (h : OwnD w (.s wd rows) u ck) :
    ∃ hd : Hd, u = .slice hd.base hd.len hd.cap ∧ hd.wd = wd ∧ ∀ hs, NodeRel w Z hs hd ⟨wd, rows, []⟩ ck := by
  cases h with
  | @z _ base => exact ⟨⟨base, wd, 0, 0⟩, rfl, rfl, fun hs => ⟨rfl, rfl, by simp, by simp, by simp, by simp, .inl ⟨rfl, rfl, rfl⟩⟩⟩
  | @s _ b off cap _ vs c hw hc hh hf hl =>
    refine ⟨⟨some ⟨b, off, none⟩, wd, rows.length, cap⟩, rfl, rfl, fun hs => ⟨rfl, rfl, hw, by simp, by simp, by simp, .inr ⟨b, off, vs, c, rfl, hc, hh, hf, ?_, rfl⟩⟩⟩
    show CRelL w Z hs (viewRows [] 0 rows) vs c
    rw [viewRows_nil]
    exact .of_own hl
/-- One cell of an opened array. -/
theorem ldO_some {k : Kd} {m : Mem} {id i c : Nat} {K : AV → Mem → Option R} (h : ldO k m id i c K = some r) :
    ∃ x m', K x m' = some r ∧ ∀ (w : World) (hs : List Hd) (cc : List Nat) (hd : Hd) (b off : Nat), MemL w Z hs hs m cc → hs[id]? = some hd → hd.base = some ⟨b, off, none⟩ →
      ∃ hs' c' v, Ext hs hs' ∧ MemL w Z hs' hs' m' c' ∧ (∀ b, c'.count b = cc.count b) ∧ ARel X w Z hs' x v ∧ Holds w b (off + i * hd.wd + c) [v] := by
  unfold ldO at h
  split at h
  · simp at h
  · rename_i n hn
    have place : ∀ (w : World) (hs : List Hd) (hd : Hd) (cn : List Nat) (b off : Nat), NodeRel w Z hs hd n cn → hd.base = some ⟨b, off, none⟩ → ∀ y, n.view[i * n.wd + c]? = some y → n.rows ≠ [] →
        ∃ vs u c1 ck c2, Holds w b off vs ∧ Free w b off (hd.cap * n.wd) ∧ n.rows.length ≤ hd.cap ∧ vs[i * n.wd + c]? = some u ∧ CRel w Z hs y u ck ∧ cn = b :: (c1 ++ ck ++ c2) ∧
          (∀ y' u' ck', CRel w Z hs y' u' ck' → CRelL w Z hs (n.view.set (i * n.wd + c) y') (vs.set (i * n.wd + c) u') (c1 ++ ck' ++ c2)) ∧ Holds w b (off + i * hd.wd + c) [u] := by
      intro w hs hd cn b off hr hb y hy hne
      rcases hr.mem with ⟨z1, _⟩ | ⟨b', off', vs, c', f1, f2, f3, f4, f5, rfl⟩
      · exact absurd z1 hne
      · rw [hb] at f1
        cases f1
        obtain ⟨u, c1, ck, c2, g1, g2, g3, g4⟩ := f5.at hy
        refine ⟨vs, u, c1, ck, c2, f3, f4, f2, g1, g2, by rw [g3], g4, ?_⟩
        obtain ⟨cs, el, fz, k1, k2⟩ := f3
        refine ⟨cs, el, fz, k1, fun k v hk => ?_⟩
        cases k with
        | zero =>
          simp at hk
          subst hk
          have := k2 _ _ g1
          rw [hr.wd, Nat.add_zero]
          rwa [← Nat.add_assoc] at this
        | succ k => simp at hk
    split at h
    · rename_i x hx
      refine ⟨x, m, h, fun w hs cc hd b off hm hh hb => ?_⟩
      obtain ⟨hd', c1, cn, c2, e1, e2, e3, e4, _, _⟩ := hm.at hn
      rw [e1] at hh
      cases hh
      have hin : ∃ e ∈ n.opens, e.1 = (i, c) ∧ e.2 = x := by
        clear e3 e4 h hn
        generalize n.opens = l at hx
        induction l with
        | nil => simp [findO] at hx
        | cons e l ih =>
          obtain ⟨⟨i', c'⟩, y⟩ := e
          simp only [findO] at hx
          split at hx
          · rename_i h1
            simp at hx
            exact ⟨_, List.mem_cons_self, by simp [h1.1, h1.2], hx⟩
          · obtain ⟨e, he, h2⟩ := ih hx
            exact ⟨e, List.mem_cons_of_mem _ he, h2⟩
      obtain ⟨e, he, he1, he2⟩ := hin
      have hrng := e3.opens e he
      rw [he1] at hrng
      have hrow : n.rows[i]? = some n.rows[i] := List.getElem?_eq_getElem hrng.1
      have hlen : (n.rows[i]).length = n.wd := e3.rows _ (List.getElem_mem hrng.1)
      have hcell : (n.rows[i])[c]? = some (n.rows[i])[c] := List.getElem?_eq_getElem (by rw [hlen]; exact hrng.2)
      have hv := view_get e3.rows hrng.2 hrow hcell
      rw [hx] at hv
      obtain ⟨vs, u, a1, ak, a2, g1, _, _, g2, g3, g4, g5, g6⟩ := place w hs hd cn b off e3 hb _ hv (by intro h; simp [h] at hrng)
      refine ⟨hs, cc, u, Ext.refl _, hm, fun _ => rfl, ?_, g6⟩
      simp only [Option.getD_some] at g3
      rcases e3.kind e he with ⟨id', hk⟩ | ⟨wd, rows, hk⟩
      · rw [← he2, hk] at g3 ⊢; cases g3 with | r h => exact .r h
      · rw [← he2, hk] at g3 ⊢; cases g3 with | fz h => exact .fz h
    · rename_i hx
      obtain ⟨row, hrow, h⟩ := look_some h
      obtain ⟨d, hd0, h⟩ := cell_some h
      have hne : n.rows ≠ [] := by intro e; simp [e] at hrow
      have scal : ∀ x, d = .v x → K (.v x) m = some r → ∃ x m', K x m' = some r ∧ ∀ (w : World) (hs : List Hd) (cc : List Nat) (hd : Hd) (b off : Nat), MemL w Z hs hs m cc → hs[id]? = some hd → hd.base = some ⟨b, off, none⟩ →
          ∃ hs' c' v, Ext hs hs' ∧ MemL w Z hs' hs' m' c' ∧ (∀ b, c'.count b = cc.count b) ∧ ARel X w Z hs' x v ∧ Holds w b (off + i * hd.wd + c) [v] := by
        intro x hdx hK
        subst hdx
        refine ⟨_, _, hK, fun w hs cc hd b off hm hh hb => ?_⟩
        obtain ⟨hd', c1, cn, c2, e1, e2, e3, e4, _, _⟩ := hm.at hn
        rw [e1] at hh
        cases hh
        have hclt : c < n.wd := by rw [← e3.rows row (List.mem_of_getElem? hrow)]; exact (List.getElem?_eq_some_iff.1 hd0).1
        have hv := view_get e3.rows hclt hrow hd0
        rw [hx] at hv
        obtain ⟨vs, u, a1, ak, a2, g1, _, _, g2, g3, g4, g5, g6⟩ := place w hs hd cn b off e3 hb _ hv hne
        refine ⟨hs, cc, u, Ext.refl _, hm, fun _ => rfl, ?_, g6⟩
        cases g3 with | v h => exact .v h
      cases k with
      | i k => obtain ⟨n', e, h'⟩ := dI_some h; exact scal _ e h'
      | b => obtain ⟨n', e, h'⟩ := dB_some h; exact scal _ e h'
      | s => obtain ⟨n', e, h'⟩ := dS_some h; exact scal _ e h'
      | sl wd =>
        obtain ⟨rows, hdx, hK⟩ := dL_some h
        subst hdx
        refine ⟨_, _, hK, fun w hs cc hd b off hm hh hb => ?_⟩
        have hlen := hm.length
        have hclt : c < n.wd := by
          obtain ⟨hd', c1, cn, c2, e1, e2, e3, e4, _, _⟩ := hm.at hn
          rw [← e3.rows row (List.mem_of_getElem? hrow)]; exact (List.getElem?_eq_some_iff.1 hd0).1
        obtain ⟨hd2, u0, hu0, hu2, hw2⟩ : ∃ (hd2 : Hd) (u0 : Value), Holds w b (off + i * hd.wd + c) [u0] ∧ u0 = .slice hd2.base hd2.len hd2.cap ∧ hd2.wd = wd := by
          obtain ⟨hd', c1, cn, c2, e1, e2, e3, e4, _, _⟩ := hm.at hn
          rw [e1] at hh
          cases hh
          have hv := view_get e3.rows hclt hrow hd0
          rw [hx] at hv
          obtain ⟨vs, u, a1, ak, a2, g1, _, _, g2, g3, g4, g5, g6⟩ := place w hs hd cn b off e3 hb _ hv hne
          simp only [Option.getD_none, D.up] at g3
          cases g3 with
          | o ho =>
            obtain ⟨hd2, h1, h2, _⟩ := own_node (Z := Z) ho
            exact ⟨hd2, u, g6, h1, h2⟩
        have hm2 := hm.frame (hs' := hs ++ [hd2]) (w' := w) (Z' := Z) (fun _ h => h) (fun _ _ => rfl) (fun _ _ => rfl) (Ext.append hs _)
        obtain ⟨hd', c1, cn, c2, e1, e2, e3, e4, _, e6⟩ := hm2.at hn
        have hh' := hh
        rw [e1] at hh'
        cases hh'
        have hv := view_get e3.rows hclt hrow hd0
        rw [hx] at hv
        obtain ⟨vs, u, a1, ak, a2, g1, gf, gc, g2, g3, g4, g5, g6⟩ := place w (hs ++ [hd2]) hd cn b off e3 hb _ hv hne
        have hui : u = u0 := by
          obtain ⟨cs, el, fz, k1, k2⟩ := g6
          obtain ⟨cs', el', fz', k3, k4⟩ := hu0
          rw [k1] at k3
          cases k3
          have h1 := k2 0 u rfl
          have h2 := k4 0 u0 rfl
          rw [h1] at h2
          exact Option.some.inj h2
        simp only [Option.getD_none, D.up] at g3
        cases g3 with
        | o ho =>
          obtain ⟨hd3, h1, h2, h3⟩ := own_node (Z := Z) ho
          have hd23 : hd3 = hd2 := by
            rw [hui, hu2] at h1
            have hl2 := (h3 []).len
            obtain ⟨x1, x2, x3, x4⟩ := hd2
            obtain ⟨y1, y2, y3, y4⟩ := hd3
            simp only [Value.slice.injEq] at h1
            simp only at hw2 h2
            simp [h1.1, h1.2.1, h1.2.2, hw2, h2]
          subst hd23
          have hnew : (hs ++ [hd3])[m.length]? = some hd3 := by rw [← hlen]; simp
          have g7 := g5 (.r m.length) u [] (by rw [h1]; exact .r hnew)
          rw [set_same g2, ← view_open e3.rows (List.getElem?_eq_some_iff.1 hrow).1 hclt] at g7
          have node : NodeRel w Z (hs ++ [hd3]) hd ⟨n.wd, n.rows, ((i, c), .r m.length) :: n.opens⟩ (b :: (a1 ++ [] ++ a2)) := by
            refine ⟨e3.wd, e3.len, e3.rows, ?_, ?_, ?_, .inr ⟨b, off, vs, _, hb, gc, g1, gf, g7, rfl⟩⟩
            · intro e he
              rcases List.mem_cons.1 he with rfl | he
              · exact ⟨(List.getElem?_eq_some_iff.1 hrow).1, hclt⟩
              · exact e3.opens e he
            · refine List.pairwise_cons.2 ⟨fun e he h => ?_, e3.keys⟩
              exact findO_mem hx e he h.symm
            · intro e he
              rcases List.mem_cons.1 he with rfl | he
              · exact .inl ⟨_, rfl⟩
              · exact e3.kind e he
          refine ⟨hs ++ [hd3], _, u, Ext.append hs _, (e6 _ _ node).append (h3 _), fun x => ?_, ?_, g6⟩
          · rw [e4, g4]
            simp only [List.count_append, List.count_cons, List.append_nil]
            omega
          · rw [h1]
            exact .r hnew
end
end Go.Am
