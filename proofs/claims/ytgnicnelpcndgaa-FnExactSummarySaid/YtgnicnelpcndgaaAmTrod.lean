/- AM: what is handed to a law is frozen data of a known shape. Nothing is assumed. -/
import Derived.Test.YtgnicnelpcndgaaAmTab
import Derived.Carry
set_option linter.unusedVariables false
set_option linter.unusedSimpArgs false
namespace Go.Am
/-- The shape of a cell. -/
inductive Sh where
  | i (k : IntKind)
  | b
  | s
  | sl (t : TypeId)
def shFields (sh : TypeId → Option (List Sh)) (P : Program) : List Field → Nat → Option (List Sh)
  | [], _ => some []
  | f :: fs, off => if f.offset = off then (match sh f.type, shFields sh P fs (off + P.cellsOf f.type) with
    | some a, some b => some (a ++ b)
    | _, _ => none) else none
def sizes (P : Program) : List Field → Nat
  | [] => 0
  | f :: fs => P.cellsOf f.type + sizes P fs
def shRep (ks : List Sh) : Nat → List Sh
  | 0 => []
  | n + 1 => ks ++ shRep ks n
/-- The cells of a type. -/
def shOf (P : Program) : Nat → TypeId → Option (List Sh)
  | 0, _ => none
  | n + 1, t => match P.underlying t with
    | some .bool => some [.b]
    | some (.int k) => some [.i k]
    | some .string => some [.s]
    | some (.slice e) => some [.sl e]
    | some (.struct fs) => if sizes P fs.toList = P.cellsOf t then shFields (shOf P n) P fs.toList 0 else none
    | some (.array m e) => if m * P.cellsOf e = P.cellsOf t then (shOf P n e).map fun ks => shRep ks m else none
    | _ => none
def shE (P : Program) (t : TypeId) : List Sh := (shOf P 20 t).getD []
mutual
inductive ShD (E : TypeId → List Sh) : Sh → D → Prop
  | i {k : IntKind} {n : Int} (h0 : k.min ≤ n) (h1 : n ≤ k.max) : ShD E (.i k) (.v (.int k n))
  | b {x : Bool} : ShD E .b (.v (.bool x))
  | s {x : ByteArray} (h : x.size ≤ maxLen) : ShD E .s (.v (.string x))
  | sl {t : TypeId} {rows : Rows} (hl : rows.length ≤ maxLen) (h : ShR E (E t) rows) : ShD E (.sl t) (.s (E t).length rows)
inductive ShL (E : TypeId → List Sh) : List Sh → Row → Prop
  | nil : ShL E [] []
  | cons {k : Sh} {ks : List Sh} {d : D} {ds : Row} (h : ShD E k d) (h' : ShL E ks ds) : ShL E (k :: ks) (d :: ds)
inductive ShR (E : TypeId → List Sh) : List Sh → Rows → Prop
  | nil {ks : List Sh} : ShR E ks []
  | cons {ks : List Sh} {r : Row} {rs : Rows} (h : ShL E ks r) (h' : ShR E ks rs) : ShR E ks (r :: rs)
end
theorem ShL.length {E : TypeId → List Sh} {ks : List Sh} : ∀ {ds : Row}, ShL E ks ds → ds.length = ks.length := by
  induction ks with
  | nil => intro ds h; cases h; rfl
  | cons k ks ih => intro ds h; cases h with | cons h h' => simp [ih h']
theorem ShL.append {E : TypeId → List Sh} {ks js : List Sh} : ∀ {ds es : Row}, ShL E ks ds → ShL E js es → ShL E (ks ++ js) (ds ++ es) := by
  induction ks with
  | nil => intro ds es h h'; cases h; simpa using h'
  | cons k ks ih => intro ds es h h'; cases h with | cons h h1 => simpa using ShL.cons h (ih h1 h')
theorem ShR.snoc {E : TypeId → List Sh} {ks : List Sh} {rs : Rows} {r : Row} (h : ShR E ks rs) (hr : ShL E ks r) : ShR E ks (rs ++ [r]) := by
  induction rs with
  | nil => exact .cons hr .nil
  | cons x rs ih => cases h with | cons h h' => exact .cons h (ih h')
theorem ShR.mem {E : TypeId → List Sh} {ks : List Sh} {rs : Rows} (h : ShR E ks rs) : ∀ r ∈ rs, ShL E ks r := by
  induction rs with
  | nil => simp
  | cons x rs ih =>
    cases h with
    | cons h h' =>
      intro r hr
      rcases List.mem_cons.1 hr with rfl | hr
      · exact h
      · exact ih h' r hr
/-- All slices among these cells have elements in the list. -/
def slIn (L : List TypeId) (ks : List Sh) : Bool := ks.all fun k => match k with | .sl e => L.contains e | _ => true
def closedB (P : Program) (L : List TypeId) : Bool := L.all fun e => match shOf P 20 e with
  | some ks => slIn L ks && ks.length == P.cellsOf e && !ks.isEmpty
  | none => false
theorem mapM_some {α β : Type} {f : α → Option β} : ∀ {l : List α} {r : List β}, l.mapM f = some r → r.length = l.length ∧ ∀ (i : Nat) (x : α), l[i]? = some x → ∃ y, r[i]? = some y ∧ f x = some y := by
  intro l
  induction l with
  | nil => intro r h; simp at h; subst h; simp
  | cons x l ih =>
    intro r h
    simp only [List.mapM_cons, Option.bind_eq_bind, Option.bind_eq_some_iff, Option.pure_def, Option.some.injEq] at h
    obtain ⟨y, hy, r', hr', rfl⟩ := h
    obtain ⟨h1, h2⟩ := ih hr'
    refine ⟨by simp [h1], fun i z hz => ?_⟩
    cases i with
    | zero => simp at hz; subst hz; exact ⟨y, rfl, hy⟩
    | succ i => simpa using h2 i z (by simpa using hz)
theorem cells?_some {w : World} {a : Addr} {n : Nat} {vs : List Value} (h : w.cells? 0 a n = some vs) : vs.length = n ∧ ∀ j v, vs[j]? = some v → w.cell? (a.add j) = some v := by
  unfold World.cells? at h
  simp only [Nat.zero_le, if_true] at h
  obtain ⟨h1, h2⟩ := mapM_some h
  refine ⟨by simpa using h1, fun j v hj => ?_⟩
  have hlt : j < n := by
    have := (List.getElem?_eq_some_iff.1 hj).1
    rw [h1] at this
    simpa using this
  obtain ⟨y, hy, hf⟩ := h2 j j (by simp [hlt])
  rw [hj] at hy
  cases hy
  exact hf
theorem add_add (a : Addr) (x y : Nat) : (a.add x).add y = a.add (x + y) := by
  unfold Addr.add
  by_cases hx : x = 0
  · subst hx; simp
  · by_cases hy : y = 0
    · subst hy; simp
    · have : ¬ (x + y = 0) := by omega
      simp [hx, hy, Nat.add_assoc]
theorem holds_of {w : World} {a : Addr} {vs : List Value} (h : ∀ j v, vs[j]? = some v → w.cell? (a.add j) = some v) (hne : vs ≠ []) : a = ⟨a.block, a.off, none⟩ ∧ a.block < w.heap.size ∧ Holds w a.block a.off vs := by
  obtain ⟨v, vs', rfl⟩ := List.exists_cons_of_ne_nil hne
  have h0 := h 0 v rfl
  have ha : a.add 0 = a := by simp [Addr.add]
  rw [ha] at h0
  unfold World.cell? at h0
  split at h0
  · rename_i c t fz hc
    split at h0
    · simp at h0
    · rename_i hs
      have hspot : a.spot = none := by simpa using hs
      have hae : a = ⟨a.block, a.off, none⟩ := by cases a; simp at hspot; simp [hspot]
      refine ⟨hae, ?_, ⟨c, t, fz, hc, fun k u hk => ?_⟩⟩
      · rcases Nat.lt_or_ge a.block w.heap.size with h | h
        · exact h
        · simp [Array.getElem?_eq_none h] at hc
      · have := h k u hk
        rw [hae, addr_add] at this
        simpa [World.cell?, hc] using this
  · simp at h0
section
variable {P : Program} {H : Type} {enc : TypeId × Value → H} {W : World} {sp : Nat → Bool} {held : Bool}
/-- Everything that lies there. -/
abbrev Old (W : World) : Nat → Prop := fun b => b < W.heap.size
def TrodOk (P : Program) (W : World) (L : List TypeId) (run : TypeId → List Value → Prop) : Prop :=
  ∀ (n : Nat) (t : TypeId) (cs : List Value) (ks : List Sh), run t cs → shOf P n t = some ks → slIn L ks = true → ∃ ds, ShL (shE P) ks ds ∧ FroL W (Old W) ds cs
theorem slIn_append {L : List TypeId} {a b : List Sh} (h : slIn L (a ++ b) = true) : slIn L a = true ∧ slIn L b = true := by
  simpa [slIn, List.all_append] using h
theorem trodFields_ok {L : List TypeId} {run : TypeId → List Value → Prop} (ih : TrodOk P W L run) {n : Nat} {cs : List Value} (fs : List Field) : ∀ {off : Nat} {ks : List Sh},
    (∀ f ∈ fs, run f.type ((cs.drop f.offset).take (P.cellsOf f.type))) → shFields (shOf P n) P fs off = some ks → slIn L ks = true →
    ∃ ds, ShL (shE P) ks ds ∧ FroL W (Old W) ds ((cs.drop off).take (sizes P fs)) := by
  induction fs with
  | nil =>
    intro off ks _ h _
    simp only [shFields, Option.some.injEq] at h
    subst h
    exact ⟨[], .nil, by simpa [sizes] using FroL.nil⟩
  | cons f fs ihf =>
    intro off ks hr h hs
    simp only [shFields] at h
    split at h
    · rename_i ho
      split at h
      · rename_i a b ha hb
        simp only [Option.some.injEq] at h
        subst h
        obtain ⟨h1, h2⟩ := slIn_append hs
        obtain ⟨ds, d1, d2⟩ := ih n f.type _ a (hr f (by simp)) ha h1
        rw [ho] at d2
        obtain ⟨es, e1, e2⟩ := ihf (fun g hg => hr g (by simp [hg])) hb h2
        refine ⟨ds ++ es, d1.append e1, ?_⟩
        simp only [sizes]
        rw [List.take_add, List.drop_drop]
        exact d2.append e2
      · simp at h
    · simp at h
theorem slIn_rep {L : List TypeId} {ks : List Sh} {m : Nat} (hm : m ≠ 0) (h : slIn L (shRep ks m) = true) : slIn L ks = true := by
  cases m with
  | zero => exact absurd rfl hm
  | succ m => exact (slIn_append h).1
theorem trodRep_ok {L : List TypeId} {run : TypeId → List Value → Prop} (ih : TrodOk P W L run) {n : Nat} {e : TypeId} {ks : List Sh} {cs : List Value} (hk : shOf P n e = some ks) (m : Nat) : ∀ (i : Nat),
    (∀ j, j < m → run e ((cs.drop ((i + j) * P.cellsOf e)).take (P.cellsOf e))) → slIn L (shRep ks m) = true → ∃ ds, ShL (shE P) (shRep ks m) ds ∧ FroL W (Old W) ds ((cs.drop (i * P.cellsOf e)).take (m * P.cellsOf e)) := by
  induction m with
  | zero => intro i _ _; exact ⟨[], .nil, by simpa using FroL.nil⟩
  | succ m ihm =>
    intro i hr hs
    obtain ⟨h1, h2⟩ := slIn_append (a := ks) (b := shRep ks m) hs
    obtain ⟨ds, d1, d2⟩ := ih n e _ ks (hr 0 (by omega)) hk h1
    obtain ⟨es, e1, e2⟩ := ihm (i + 1) (fun j hj => by
      have := hr (j + 1) (by omega)
      rwa [show i + 1 + j = i + (j + 1) by omega]) h2
    refine ⟨ds ++ es, d1.append e1, ?_⟩
    have : (m + 1) * P.cellsOf e = P.cellsOf e + m * P.cellsOf e := by rw [Nat.add_mul]; omega
    rw [this, List.take_add, List.drop_drop]
    rw [Nat.add_mul, Nat.one_mul] at e2
    simpa using d2.append e2
theorem trodElems_ok {L : List TypeId} {run : TypeId → List Value → Prop} (ih : TrodOk P W L run) {e : TypeId} {a : Addr} {ks : List Sh} (hk : shOf P 20 e = some ks) (hs : slIn L ks = true) (m : Nat)
    (hr : ∀ i, i < m → ∃ vs, W.cells? 0 (a.add (i * P.cellsOf e)) (P.cellsOf e) = some vs ∧ run e vs) :
    ∃ rows vs, rows.length = m ∧ vs.length = m * P.cellsOf e ∧ ShR (shE P) ks rows ∧ FroL W (Old W) rows.flatten vs ∧ ∀ j v, vs[j]? = some v → W.cell? (a.add j) = some v := by
  induction m with
  | zero => exact ⟨[], [], rfl, by simp, .nil, .nil, by simp⟩
  | succ m ihm =>
    obtain ⟨rows, vs, h1, h2, h3, h4, h5⟩ := ihm fun i hi => hr i (by omega)
    obtain ⟨us, hu, hrun⟩ := hr m (by omega)
    obtain ⟨g1, g2⟩ := cells?_some hu
    obtain ⟨ds, d1, d2⟩ := ih 20 e us ks hrun hk hs
    refine ⟨rows ++ [ds], vs ++ us, by simp [h1], by simp [h2, g1, Nat.add_mul], h3.snoc d1, by simpa using h4.append d2, fun j v hj => ?_⟩
    rw [List.getElem?_append] at hj
    split at hj
    · exact h5 j v hj
    · rename_i hge
      have := g2 _ _ hj
      rw [add_add] at this
      rwa [show m * P.cellsOf e + (j - vs.length) = j by omega] at this
theorem trod_ok {L : List TypeId} (hL : closedB P L = true) (fuel : Nat) : TrodOk P W L fun t cs => ∃ d ps, DataW.trod enc P W 0 sp held fuel t cs = some (d, ps) := by
  induction fuel with
  | zero => intro n t cs ks ⟨d, ps, h⟩; simp [DataW.trod] at h
  | succ fuel ih =>
    intro n t cs ks ⟨d, ps, h⟩ hk hs
    cases n with
    | zero => simp [shOf] at hk
    | succ n =>
      simp only [shOf] at hk
      unfold DataW.trod at h
      split at hk
      · rename_i hu
        simp only [Option.some.injEq] at hk
        subst hk
        rw [hu] at h
        split at h <;> try (simp_all; done)
        rename_i e1 e2
        exact ⟨[.v (.bool _)], .cons .b .nil, .cons (.v trivial) .nil⟩
      · rename_i k hu
        simp only [Option.some.injEq] at hk
        subst hk
        rw [hu] at h
        split at h <;> try (simp_all; done)
        rename_i e1
        cases e1
        split at h
        · rename_i hw
          obtain ⟨rfl, hw⟩ := hw
          simp only [Lit.wf, Bool.and_eq_true, decide_eq_true_eq] at hw
          exact ⟨[.v (.int _ _)], .cons (.i hw.1 hw.2) .nil, .cons (.v trivial) .nil⟩
        · simp at h
      · rename_i hu
        simp only [Option.some.injEq] at hk
        subst hk
        rw [hu] at h
        split at h <;> try (simp_all; done)
        split at h
        · rename_i hsz
          exact ⟨[.v (.string _)], .cons (.s hsz) .nil, .cons (.v trivial) .nil⟩
        · simp at h
      · rename_i e hu
        simp only [Option.some.injEq] at hk
        subst hk
        rw [hu] at h
        have hin : e ∈ L := by simpa [slIn] using hs
        have hcl := List.all_eq_true.1 hL e hin
        split at hcl
        · rename_i ks' hk'
          simp only [Bool.and_eq_true, beq_iff_eq, Bool.not_eq_true'] at hcl
          obtain ⟨⟨hc1, hc2⟩, hc3⟩ := hcl
          have hE : shE P e = ks' := by simp [shE, hk']
          split at h <;> try (simp_all; done)
          · exact ⟨[.s (shE P e).length []], .cons (.sl (by simp) .nil) .nil, .cons .z .nil⟩
          · rename_i e' a len cap e1
            cases e1
            simp only at h
            split at h
            · rename_i hb
              obtain ⟨_, hlc, hcm⟩ := hb
              cases hel : (List.range len).mapM fun i => (W.cells? 0 (a.add (i * P.cellsOf e)) (P.cellsOf e)).bind (DataW.trod enc P W 0 sp held fuel e) with
              | none => rw [hel] at h; simp at h
              | some elems =>
                obtain ⟨_, g2⟩ := mapM_some hel
                obtain ⟨rows, vs, r1, r2, r3, r4, r5⟩ := trodElems_ok ih hk' hc1 len fun i hi => by
                  obtain ⟨y, _, hy⟩ := g2 i i (by simp [hi])
                  obtain ⟨us, hus, hy⟩ := Option.bind_eq_some_iff.1 hy
                  exact ⟨us, hus, y.1, y.2, hy⟩
                refine ⟨[.s (shE P e).length rows], .cons (.sl (by rw [r1]; have : Go.maxLen = maxLen := rfl; omega) (by rw [hE]; exact r3)) .nil, .cons ?_ .nil⟩
                by_cases h0 : rows = []
                · subst h0
                  simp only [List.length_nil] at r1
                  subst r1
                  exact .z
                · have hpos : 0 < rows.length := List.length_pos_iff.2 h0
                  have hkpos : 0 < ks'.length := List.length_pos_iff.2 (by simpa using hc3)
                  have hne : vs ≠ [] := by
                    intro hv
                    rw [hv] at r2
                    simp only [List.length_nil] at r2
                    have : 0 < len * P.cellsOf e := Nat.mul_pos (by omega) (by omega)
                    omega
                  obtain ⟨ha, hb, hh⟩ := holds_of r5 hne
                  rw [ha, ← r1]
                  exact .s (fun r hr => by rw [hE]; exact (r3.mem r hr).length) (by omega) hb hh r4
            · simp at h
        · simp at hcl
      · rename_i fs hu
        rw [hu] at h
        split at hk
        · rename_i hsz
          have h' : (if cs.length = P.cellsOf t then (fs.toList.mapM fun f => DataW.trod enc P W 0 sp held fuel f.type ((cs.drop f.offset).take (P.cellsOf f.type))).map fun xs => (DataW.agg (xs.map (·.1)), xs.flatMap (·.2)) else none) = some (d, ps) := by
            split at h <;> simp_all
          split at h'
          · rename_i hl
            cases hel : fs.toList.mapM fun f => DataW.trod enc P W 0 sp held fuel f.type ((cs.drop f.offset).take (P.cellsOf f.type)) with
            | none => rw [hel] at h'; simp at h'
            | some xs =>
              obtain ⟨_, g2⟩ := mapM_some hel
              obtain ⟨ds, d1, d2⟩ := trodFields_ok ih (n := n) (cs := cs) fs.toList (fun f hf => by
                obtain ⟨i, hi⟩ := List.getElem?_of_mem hf
                obtain ⟨y, _, hy⟩ := g2 i f hi
                exact ⟨y.1, y.2, hy⟩) hk hs
              rw [hsz, ← hl, List.drop_zero, List.take_length] at d2
              exact ⟨ds, d1, d2⟩
          · simp at h'
        · simp at hk
      · rename_i m e hu
        rw [hu] at h
        split at hk
        · rename_i hsz
          have h' : (if cs.length = P.cellsOf t then ((List.range m).mapM fun i => DataW.trod enc P W 0 sp held fuel e ((cs.drop (i * P.cellsOf e)).take (P.cellsOf e))).map fun xs => (DataW.agg (xs.map (·.1)), xs.flatMap (·.2)) else none) = some (d, ps) := by
            split at h <;> simp_all
          split at h'
          · rename_i hl
            cases hel : (List.range m).mapM fun i => DataW.trod enc P W 0 sp held fuel e ((cs.drop (i * P.cellsOf e)).take (P.cellsOf e)) with
            | none => rw [hel] at h'; simp at h'
            | some xs =>
              obtain ⟨_, g2⟩ := mapM_some hel
              simp only [Option.map_eq_some_iff] at hk
              obtain ⟨ks', hk', rfl⟩ := hk
              obtain ⟨ds, d1, d2⟩ := trodRep_ok ih (n := n) (cs := cs) hk' m 0 (fun j hj => by
                obtain ⟨y, _, hy⟩ := g2 j j (by simp [hj])
                rw [Nat.zero_add]
                exact ⟨y.1, y.2, hy⟩) hs
              rw [hsz, ← hl, Nat.zero_mul, List.drop_zero, List.take_length] at d2
              exact ⟨ds, d1, d2⟩
          · simp at h'
        · simp at hk
      · simp at hk
end
end Go.Am
