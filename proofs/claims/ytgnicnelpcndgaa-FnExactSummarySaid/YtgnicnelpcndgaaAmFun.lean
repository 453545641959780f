/- AM: a function that the checker passes keeps its contract. Nothing is assumed. -/
import Derived.Test.YtgnicnelpcndgaaAmCode
set_option linter.unusedVariables false
set_option linter.unusedSimpArgs false
namespace Go.Am
section
variable {X : Nat → Prop} {Z : Nat → Prop} {w : World}
/-! ### what comes in -/
theorem frozD_ok {hs : List Hd} {d : D} {v : Value} (h : FroD w Z d v) : ARel X w Z hs (frozD d) v := by
  cases d with
  | v x => cases h with | v h => exact .v h
  | s wd rows => exact .fz h
theorem frozCells_ok {hs : List Hd} {ds : Row} : ∀ {vs : List Value}, FroL w Z ds vs → ARelL X w Z hs (frozCells ds) vs := by
  induction ds with
  | nil => intro vs h; cases h; exact .nil
  | cons d ds ih => intro vs h; cases h with | cons h h' => exact .cons (frozD_ok h) (ih h')
theorem frozI_ok {hs : List Hd} {i : I} {v : Value} (h : IFro X w Z i v) : ARel X w Z hs (frozI i) v := by
  cases h with
  | d h => exact frozD_ok h
  | g h => exact .g (frozCells_ok h)
  | p hz hh h => exact .fa hz hh h
  | f hx h => exact .ff hx h
  | t h => exact .u
theorem openCells_ok {ds : Row} : ∀ {m : Mem} {hs : List Hd} {vs : List Value} {c cd : List Nat}, MemL w Z hs hs m c → OwnL w ds vs cd →
    ∃ hs' c', Ext hs hs' ∧ MemL w Z hs' hs' (openCells m ds).2 c' ∧ ARelL X w Z hs' (openCells m ds).1 vs ∧ ∀ b, c'.count b ≤ (c ++ cd).count b := by
  induction ds with
  | nil =>
    intro m hs vs c cd hm h
    cases h
    exact ⟨hs, c, Ext.refl _, hm, .nil, fun b => by simp⟩
  | cons d ds ih =>
    intro m hs vs c cd hm h
    cases h with
    | @cons _ _ v vs c1 c2 h h' =>
      cases d with
      | v x =>
        cases h with
        | v h =>
          obtain ⟨hs', c', e1, e2, e3, e4⟩ := ih hm h'
          exact ⟨hs', c', e1, e2, .cons (.v h) e3, fun b => by have := e4 b; simp only [List.nil_append]; exact this⟩
      | s wd rows =>
        obtain ⟨hd, h1, _, h3⟩ := own_node (Z := Z) h
        have hm1 : MemL w Z (hs ++ [hd]) (hs ++ [hd]) (m ++ [some ⟨wd, rows, []⟩]) (c ++ c1) := (hm.frame (fun _ h => h) (fun _ _ => rfl) (fun _ _ => rfl) (Ext.append _ _)).append (h3 _)
        obtain ⟨hs', c', e1, e2, e3, e4⟩ := ih hm1 h'
        refine ⟨hs', c', fun id x hx => e1 _ _ (Ext.append _ _ _ _ hx), e2, .cons ?_ e3, fun b => by have := e4 b; simp only [List.count_append] at *; omega⟩
        rw [h1]
        exact .r (e1 _ _ (by rw [← hm.length]; simp))
theorem openI_ok {m : Mem} {hs : List Hd} {i : I} {v : Value} {c cd : List Nat} (hm : MemL w Z hs hs m c) (h : IOwn X w i v cd) :
    ∃ hs' c', Ext hs hs' ∧ MemL w Z hs' hs' (openI m i).2 c' ∧ ARel X w Z hs' (openI m i).1 v ∧ ∀ b, c'.count b ≤ (c ++ cd).count b := by
  cases h with
  | @d d _ _ h =>
    cases d with
    | v x => cases h with | v h => exact ⟨hs, c, Ext.refl _, hm, .v h, fun b => by simp⟩
    | s wd rows =>
      obtain ⟨hd, h1, _, h3⟩ := own_node (Z := Z) h
      refine ⟨hs ++ [hd], c ++ cd, Ext.append _ _, (hm.frame (fun _ h => h) (fun _ _ => rfl) (fun _ _ => rfl) (Ext.append _ _)).append (h3 _), ?_, fun b => Nat.le_refl _⟩
      rw [h1]
      exact .r (by rw [← hm.length]; simp)
  | g h =>
    obtain ⟨hs', c', e1, e2, e3, e4⟩ := openCells_ok hm h
    exact ⟨hs', c', e1, e2, .g e3, e4⟩
  | @p row b off vs cc hh hf h =>
    have hlen := h.length
    refine ⟨hs ++ [⟨some ⟨b, off, none⟩, row.length, 1, 1⟩], c ++ (b :: cc), Ext.append _ _, (hm.frame (fun _ h => h) (fun _ _ => rfl) (fun _ _ => rfl) (Ext.append _ _)).append ?_, ?_, fun b => Nat.le_refl _⟩
    · refine ⟨rfl, rfl, by simp, by simp, by simp, by simp, .inr ⟨b, off, vs, cc, rfl, Nat.le_refl _, hh, by simpa using hf, ?_, rfl⟩⟩
      show CRelL w Z _ (viewRows [] 0 [row]) vs cc
      rw [viewRows_nil]
      simpa using CRelL.of_own h
    · have := ARel.a (X := X) (w := w) (Z := Z) (hs := hs ++ [⟨some ⟨b, off, none⟩, row.length, 1, 1⟩]) (id := m.length) (i := 0) (c := 0) (b := b) (off := off) (h := ⟨some ⟨b, off, none⟩, row.length, 1, 1⟩) (by rw [← hm.length]; simp) rfl (by simp)
      simpa [openI] using this
  | f hx => exact ⟨hs, c, Ext.refl _, hm, .u, fun b => by simp⟩
  | t h => exact ⟨hs, c, Ext.refl _, hm, .u, fun b => by simp⟩
theorem initArgs_ok {ms : List Mode} {is : List I} {vs : List Value} {cin : List Nat} (h : ArgsRel X w Z ms is vs cin) : ∀ {m m' : Mem} {hs : List Hd} {c : List Nat} {xs : List AV}, initArgs m ms is = some (xs, m') → MemL w Z hs hs m c →
    ∃ hs' c', Ext hs hs' ∧ MemL w Z hs' hs' m' c' ∧ ARelL X w Z hs' xs vs ∧ ∀ b, c'.count b ≤ (c ++ cin).count b := by
  induction h with
  | nil =>
    intro m m' hs c xs h hm
    simp only [initArgs, Option.some.injEq, Prod.mk.injEq] at h
    obtain ⟨rfl, rfl⟩ := h
    exact ⟨hs, c, Ext.refl _, hm, .nil, fun b => by simp⟩
  | rd h _ ih =>
    intro m m' hs c xs h' hm
    simp only [initArgs] at h'
    split at h'
    · rename_i ys m1 h1
      simp only [Option.some.injEq, Prod.mk.injEq] at h'
      obtain ⟨rfl, rfl⟩ := h'
      obtain ⟨hs', c', e1, e2, e3, e4⟩ := ih h1 hm
      exact ⟨hs', c', e1, e2, .cons (frozI_ok h) e3, e4⟩
    · simp at h'
  | own h _ ih =>
    intro m m' hs c xs h' hm
    simp only [initArgs] at h'
    obtain ⟨hs1, c1, f1, f2, f3, f4⟩ := openI_ok hm h
    split at h'
    · rename_i ys m1 h1
      simp only [Option.some.injEq, Prod.mk.injEq] at h'
      obtain ⟨rfl, rfl⟩ := h'
      obtain ⟨hs', c', e1, e2, e3, e4⟩ := ih h1 f2
      exact ⟨hs', c', fun id x hx => e1 _ _ (f1 _ _ hx), e2, .cons (f3.frame (fun _ h => h) (fun _ _ => rfl) e1) e3, fun b => by have := e4 b; have := f4 b; simp only [List.count_append] at *; omega⟩
    · simp at h'
  | lent h _ ih =>
    intro m m' hs c xs h' hm
    simp only [initArgs] at h'
    obtain ⟨hs1, c1, f1, f2, f3, f4⟩ := openI_ok hm h
    split at h'
    · rename_i ys m1 h1
      simp only [Option.some.injEq, Prod.mk.injEq] at h'
      obtain ⟨rfl, rfl⟩ := h'
      obtain ⟨hs', c', e1, e2, e3, e4⟩ := ih h1 f2
      exact ⟨hs', c', fun id x hx => e1 _ _ (f1 _ _ hx), e2, .cons (f3.frame (fun _ h => h) (fun _ _ => rfl) e1) e3, fun b => by have := e4 b; have := f4 b; simp only [List.count_append] at *; omega⟩
    · simp at h'
theorem setArgs_ok {hs : List Hd} {f : Nat → Value} {xs : List AV} : ∀ {t : Tmps} {i : Nat} {vs : List Value}, (∀ j, ARel X w Z hs (t j) (f j)) → ARelL X w Z hs xs vs → (∀ k v, vs[k]? = some v → f (i + k) = v) → ∀ j, ARel X w Z hs (setArgs t i xs j) (f j) := by
  induction xs with
  | nil => intro t i vs ht _ _ j; exact ht j
  | cons x xs ih =>
    intro t i vs ht hx hf j
    cases hx with
    | cons hx hx' =>
      simp only [setArgs]
      refine ih (fun j => ?_) hx' (fun k v hk => by
        have := hf (k + 1) v (by simpa using hk)
        rwa [show i + 1 + k = i + (k + 1) by omega]) j
      unfold upd
      cases hj : Nat.beq j i with
      | true =>
        have := Nat.eq_of_beq_eq_true hj
        subst this
        have := hf 0 _ rfl
        simp only [Nat.add_zero] at this
        rw [this]
        exact hx
      | false => exact ht j
/-! ### what goes out -/
theorem lent_back {ms : List Mode} : ∀ {i : Nat} {vs : List Value} {bs : List I} {c : List Nat} {f : Nat → Value}, ms.length = vs.length → (∀ k v, vs[k]? = some v → f (i + k) = v) →
    IOwnL X w bs ((lentOf i ms).map f) c → BackRel X w ms vs bs c := by
  induction ms with
  | nil =>
    intro i vs bs c f hl hf h
    cases vs with
    | cons => simp at hl
    | nil =>
      simp only [lentOf, List.map_nil] at h
      cases h
      exact .nil
  | cons md ms ih =>
    intro i vs bs c f hl hf h
    cases vs with
    | nil => simp at hl
    | cons v vs =>
      simp only [List.length_cons, Nat.add_right_cancel_iff] at hl
      have hf' : ∀ k v, vs[k]? = some v → f (i + 1 + k) = v := fun k v hk => by
        have := hf (k + 1) v (by simpa using hk)
        rwa [show i + 1 + k = i + (k + 1) by omega]
      cases md with
      | rd => exact .rd (ih hl hf' h)
      | own => exact .own (ih hl hf' h)
      | lent =>
        simp only [lentOf, List.map_cons] at h
        have h0 := hf 0 v rfl
        simp only [Nat.add_zero] at h0
        cases h with
        | cons h h' => rw [h0] at h; exact .lent h (ih hl hf' h')
end
def chkRes (P : Program) : List RV → List ResultVar → Bool
  | [], [] => true
  | .t i :: l, .tmp j :: l' => i == j && chkRes P l l'
  | .c i agg ks :: l, .cell j t :: l' => i == j && aggB P t == some agg && sizeIs P t ks.length && chkRes P l l'
  | _, _ => false
/-- The code of one result. -/
def resultOf (tmps : Array Value) : ResultVar → Sem Value
  | .tmp t => pure (tmps.getD t undef)
  | .cell a t => do loadVar t (← asAddr (tmps.getD a undef))
section
variable {P : Program} {sg : Sigs} {X : Nat → Prop} {Z : Nat → Prop} {R : Type} {r : R}
theorem run_loadVar {w : World} {t : TypeId} {agg : Bool} {ti : TypeInfo} {b o : Nat} {vs : List Value} (ha : aggB P t = some agg) (hi : P.info? t = some ti) (hl : vs.length = ti.size)
    (h : ∀ k v, vs[k]? = some v → Holds w b (o + k) [v]) {y : Value} (hy : (agg = true ∧ y = .agg vs.toArray) ∨ (agg = false ∧ vs = [y])) :
    (loadVar t ⟨b, o, none⟩).run P w = .ok y w := by
  have hc : ∀ j v, vs[j]? = some v → w.cell? ((⟨b, o, none⟩ : Addr).add j) = some v := fun j v hj => by
    rw [addr_add]; exact (h j v hj).cell
  rcases hy with ⟨rfl, rfl⟩ | ⟨rfl, rfl⟩
  · have := run_loadCells_list (P := P) (w := w) ⟨b, o, none⟩ vs hc
    simp [loadVar, run_isAgg ha, run_sizeOf' hi, ← hl, this]
  · have := hc 0 y rfl
    rw [addr_add, Nat.add_zero] at this
    simp [loadVar, run_isAgg ha, load, Sem.run, this]
theorem resVals_ok {t : Tmps} {l : List RV} : ∀ {l' : List ResultVar} {m : Mem} {K : List AV → Mem → Option R}, chkRes P l l' = true → resVals t l m K = some r →
    ∃ xs m', K xs m' = some r ∧ ∀ (w : World) (hs : List Hd) (c : List Nat) (tmps : Array Value), MemL w Z hs hs m c → (∀ i, ARel X w Z hs (t i) (tmps.getD i undef)) →
      ∃ hs' c' vs, Ext hs hs' ∧ MemL w Z hs' hs' m' c' ∧ (∀ b, c'.count b = c.count b) ∧ ARelL X w Z hs' xs vs ∧ (l'.mapM (resultOf tmps)).run P w = .ok vs w := by
  induction l with
  | nil =>
    intro l' m K hc h
    cases l' with
    | cons x _ => cases x <;> simp [chkRes] at hc
    | nil => exact ⟨[], m, h, fun w hs c tmps hm _ => ⟨hs, c, [], Ext.refl _, hm, fun _ => rfl, .nil, by simp⟩⟩
  | cons x l ih =>
    intro l' m K hc h
    cases l' with
    | nil => cases x <;> simp [chkRes] at hc
    | cons x' l' =>
      cases x with
      | t i =>
        cases x' with
        | cell => simp [chkRes] at hc
        | tmp j =>
          simp only [chkRes, Bool.and_eq_true, beq_iff_eq] at hc
          obtain ⟨rfl, hc⟩ := hc
          simp only [resVals] at h
          obtain ⟨xs, m', h1, g⟩ := ih hc h
          refine ⟨t i :: xs, m', h1, fun w hs c tmps hm ht => ?_⟩
          obtain ⟨hs', c', vs, e1, e2, e3, e4, e5⟩ := g w hs c tmps hm ht
          refine ⟨hs', c', tmps.getD i undef :: vs, e1, e2, e3, .cons ((ht i).frame (fun _ h => h) (fun _ _ => rfl) e1) e4, ?_⟩
          simp only [List.mapM_cons, resultOf, Sem.run_bind, Sem.run_pure, Result.andThen_ok, e5]
      | c i agg ks =>
        cases x' with
        | tmp => simp [chkRes] at hc
        | cell j ty =>
          simp only [chkRes, Bool.and_eq_true, beq_iff_eq] at hc
          obtain ⟨⟨⟨rfl, ha⟩, hs⟩, hc⟩ := hc
          obtain ⟨ti, hi, hsz⟩ := sizeIs_some hs
          simp only [resVals] at h
          split at h
          · rename_i id ii cc ex
            obtain ⟨ys, m1, h, hl, g1⟩ := ldOs_some (X := X) (Z := Z) h
            split at h
            · rename_i y hy
              obtain ⟨xs, m', h1, g⟩ := ih hc h
              refine ⟨y :: xs, m', h1, fun w hs c tmps hm ht => ?_⟩
              have hp := ht i
              rw [ex] at hp
              generalize hv : tmps.getD i undef = u at hp
              cases hp with
              | @a _ _ _ b off hd hh hb hil =>
                obtain ⟨hs1, c1, us, b1, b2, b3, b4, b5, b6⟩ := g1 w hs c hd b off hm hh hb
                obtain ⟨v, hv1, hv2⟩ : ∃ v, ((agg = true ∧ v = Value.agg us.toArray) ∨ (agg = false ∧ us = [v])) ∧ ARel X w Z hs1 y v := by
                  cases agg with
                  | true =>
                    simp only [mkAgg, Option.some.injEq] at hy
                    subst hy
                    exact ⟨_, .inl ⟨rfl, rfl⟩, .g b4⟩
                  | false =>
                    match ys, hy with
                    | [z], hy =>
                      simp only [mkAgg, Option.some.injEq] at hy
                      subst hy
                      cases b4 with | cons q1 q2 => cases q2; exact ⟨_, .inr ⟨rfl, rfl⟩, q1⟩
                    | [], hy => simp [mkAgg] at hy
                    | _ :: _ :: _, hy => simp [mkAgg] at hy
                have hrun := run_loadVar (P := P) (w := w) ha hi (by rw [b5, hsz]) b6 hv1
                obtain ⟨hs2, c2, vs, e1, e2, e3, e4, e5⟩ := g w hs1 c1 tmps b2 fun i => (ht i).frame (fun _ h => h) (fun _ _ => rfl) b1
                refine ⟨hs2, c2, v :: vs, fun id x hx => e1 _ _ (b1 _ _ hx), e2, fun x => by rw [e3, b3], .cons (hv2.frame (fun _ h => h) (fun _ _ => rfl) e1) e4, ?_⟩
                simp only [List.mapM_cons, resultOf, Sem.run_bind, Sem.run_pure, Result.andThen_ok, e5, hv, asAddr, hrun]
            · simp at h
          · simp at h
theorem run_results {fn : Func} {w : World} {tmps : Array Value} {vs : List Value} (h : (fn.results.toList.mapM (resultOf tmps)).run P w = .ok vs w) :
    (results fn tmps).run P w = .ok (if vs.length = 1 then vs.headD undef else .tuple vs.toArray) w := by
  have h1 : (fn.results.mapM (resultOf tmps)).run P w = .ok vs.toArray w := by
    have : fn.results = fn.results.toList.toArray := by simp
    rw [this, List.mapM_toArray]
    simp only [map_eq_pure_bind, Sem.run_bind, h, Result.andThen_ok, Sem.run_pure]
  have h2 : results fn tmps = (do let vs ← fn.results.mapM (resultOf tmps); pure (if h : vs.size = 1 then vs[0] else .tuple vs)) := by
    unfold results
    congr 1
  rw [h2]
  simp only [Sem.run_bind, h1, Result.andThen_ok, Sem.run_pure]
  match vs with
  | [] => simp
  | [v] => simp
  | _ :: _ :: _ => simp
end
/-- The checker of a function. -/
def chkFun (P : Program) (sg : Sigs) (fn : Nat) (af : AFun) : Bool := match P.funcs[fn]? with
  | some f => (match f.body with
    | some c => !af.fz && f.name != "runtime.NumGoroutine" && Nat.ble af.modes.length f.ntmps && (sg.modes fn af.modes.length == af.modes) && chkRes P af.results f.results.toList && chkCode P sg f.ntmps af.code c
    | none => false)
  | none => false
theorem evalF_ok {P : Program} {sg : Sigs} {T : Table} {fn k : Nat} {af : AFun} {is : List I} {out : Out} (hT : Good P sg T) (hc : chkFun P sg fn af = true) (hl : is.length = af.modes.length) (h : evalF T k af is = some out) : Sat P sg fn is out := by
  unfold chkFun at hc
  split at hc
  · rename_i f hf
    split at hc
    · rename_i c hb
      simp only [Bool.and_eq_true, Bool.not_eq_true', bne_iff_ne, ne_eq, beq_iff_eq] at hc
      obtain ⟨⟨⟨⟨⟨hfz, hname⟩, hnt⟩, hmod⟩, hres⟩, hcode⟩ := hc
      have hnt := Nat.le_of_ble_eq_true hnt
      intro w Z vs cin ha hw
      rw [hl, hmod] at ha
      unfold evalF at h
      split at h
      · rename_i xs m hini
        obtain ⟨hs, c', _, e2, e3, e4⟩ := initArgs_ok ha hini .nil
        have hlen := ha.lengths
        have hvl : vs.length = af.modes.length := by rw [hlen.2, hl]
        let a0 : Act := { tmps := vs.toArray ++ Array.replicate (f.ntmps - vs.toArray.size) undef, defers := [] }
        have hget : ∀ k v, vs[k]? = some v → a0.tmps.getD k undef = v := fun k v hk => by
          have hlt := (List.getElem?_eq_some_iff.1 hk).1
          simp only [a0, Array.getD_eq_getD_getElem?]
          rw [Array.getElem?_append_left (by simpa using hlt)]
          simp [hk]
        have hin : SInv sg.X (lentOf 0 af.modes) f.ntmps (fun i => a0.tmps.getD i undef) w cin Z hs c' ⟨setArgs none_ 0 xs, m⟩ a0 w := by
          refine ⟨e2, setArgs_ok (fun i => .u) e3 (fun k v hk => by simpa using hget k v hk), hw.less fun b => by simpa using e4 b, rfl, ?_, fun _ _ => rfl⟩
          simp only [a0, Array.size_append, List.size_toArray, Array.size_replicate]
          omega
        obtain ⟨e, st', h1, g⟩ := evalC_ok (N := f.ntmps) (args := fun i => a0.tmps.getD i undef) (w0 := w) (c0 := cin) (Z := Z) (C := ⟨T, lentOf 0 af.modes⟩) hT af.code hcode h
        have hne : (∀ i, e ≠ .exit i) ∧ leave af st' = some out := by
          cases e with
          | exit i => simp at h1
          | normal => exact ⟨by simp, h1⟩
          | ret => exact ⟨by simp, h1⟩
        obtain ⟨hne, hleave⟩ := hne
        unfold leave at hleave
        obtain ⟨ys, m', h2, gr⟩ := resVals_ok (P := P) (X := sg.X) (Z := Z) hres hleave
        have henter : (callFunc fn vs.toArray).run P w = .ok (.enter fn vs.toArray) w := by
          simp [callFunc, hf, hname, hb]
        refine .inl ⟨henter, calls_of_wp hf hb (g hs c' a0 w hin _ fun hs' c2 a' w' hin' => ?_)⟩
        obtain ⟨hs3, c3, us, r1, r2, r3, r4, r5⟩ := gr w' hs' c2 a'.tmps hin'.mem hin'.tmp
        split at h2
        · rename_i back m4 hback
          rw [hfz] at h2
          simp only at h2
          split at h2
          · rename_i rs m5 hrs
            simp only [Option.some.injEq] at h2
            subst h2
            have htemps : ∀ l : List Nat, ARelL sg.X w' Z hs3 (temps st'.t l) (l.map fun i => a'.tmps.getD i undef) := fun l => by
              induction l with
              | nil => exact .nil
              | cons i l ih => exact .cons ((hin'.tmp i).frame (fun _ h => h) (fun _ _ => rfl) r1) ih
            obtain ⟨c4, cb, b1, b2, b3⟩ := takeIs_ok hback (htemps _) r2
            obtain ⟨c5, cr, d1, d2, d3⟩ := takeIs_ok hrs r4 b2
            have hval : (results f a'.tmps).run P w' = .ok (if us.length = 1 then us.headD undef else .tuple us.toArray) w' := run_results r5
            have hown : IOwn sg.X w' (resI rs) (if us.length = 1 then us.headD undef else .tuple us.toArray) cr := by
              have hl2 := d1.length
              match rs, us, d1, hl2 with
              | [x], [u], d1, _ =>
                cases d1 with
                | cons q1 q2 => cases q2; simpa [resI] using q1
              | [], [], d1, _ => cases d1; exact .t (by simpa using IOwnL.nil)
              | _ :: _ :: _, u1 :: u2 :: us, d1, _ =>
                simp only [resI, List.length_cons]
                rw [if_neg (by omega)]
                exact .t (by simpa using d1)
            have hbk : BackRel sg.X w' af.modes vs back cb := by
              refine lent_back (i := 0) (f := fun i => a0.tmps.getD i undef) (by omega) (fun k v hk => by simpa using hget k v hk) ?_
              have : (lentOf 0 af.modes).map (fun i => a'.tmps.getD i undef) = (lentOf 0 af.modes).map (fun i => a0.tmps.getD i undef) := List.map_congr_left fun i hi => hin'.keep i hi
              rw [← this]
              exact b1
            have hpost : ∃ v cres cbk, Ending.returned (if us.length = 1 then us.headD undef else .tuple us.toArray) = .returned v ∧ IOwn sg.X w' (resI rs) v cres ∧ BackRel sg.X w' (sg.modes fn is.length) vs back cbk ∧ WInv w cin Z w' (cres ++ cbk) := by
              refine ⟨_, cr, cb, rfl, hown, by rw [hl, hmod]; exact hbk, hin'.win.less fun b => ?_⟩
              have := r3 b
              have := b3 b
              have := d3 b
              simp only [List.count_append] at *
              omega
            cases e with
            | exit i => exact absurd rfl (hne i)
            | normal => exact ⟨hin'.defers, _, hval, hpost⟩
            | ret => exact ⟨hin'.defers, _, hval, hpost⟩
          · simp at h2
        · simp at h2
      · simp at h
    · simp at hc
  · simp at hc
end Go.Am
