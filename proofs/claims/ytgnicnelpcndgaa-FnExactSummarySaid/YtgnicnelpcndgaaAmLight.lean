/- AM: light and heavy operations: what they read and what they leave. Nothing is assumed. -/
import Derived.Test.YtgnicnelpcndgaaAmUni
set_option linter.unusedVariables false
set_option linter.unusedSimpArgs false
namespace Go.Am
def opdT : Opd → List Nat
  | .t i => [i]
  | _ => []
def opdsT : List Opd → List Nat
  | [] => []
  | x :: xs => opdT x ++ opdsT xs
def optT : Option Opd → List Nat
  | some x => opdT x
  | none => []
def partsT : List (Nat × Nat × Opd) → List Nat
  | [] => []
  | (_, _, x) :: l => opdT x ++ partsT l
def litsT : List (Nat × Opd) → List Nat
  | [] => []
  | (_, x) :: l => opdT x ++ litsT l
def readsOf : AOp → List Nat
  | .mv x => opdT x
  | .pick c x y => opdT c ++ (opdT x ++ opdT y)
  | .box x => opdT x
  | .alloc _ => []
  | .build _ ps => partsT ps
  | .lit _ _ ps => litsT ps
  | .load _ _ x => opdT x
  | .store _ x y => opdT x ++ opdT y
  | .bin _ x y => opdT x ++ opdT y
  | .beq _ x y => opdT x ++ opdT y
  | .geq _ _ x y => opdT x ++ opdT y
  | .un _ x => opdT x
  | .conv _ x => opdT x
  | .fn _ caps => opdsT caps
  | .mk _ _ x y => opdT x ++ opdT y
  | .slc _ x lo hi => opdT x ++ (optT lo ++ optT hi)
  | .fad _ x => opdT x
  | .fld _ _ _ x => opdT x
  | .iad _ x y => opdT x ++ opdT y
  | .idx x y => opdT x ++ opdT y
  | .ext x _ => opdT x
  | .call f _ _ _ xs => opdT f ++ opdsT xs
  | .app _ _ x y => opdT x ++ opdT y
  | .len _ x => opdT x
  | .mx x y => opdT x ++ opdT y
section
variable {T : Table} {t t' : Tmps}
theorem ev_congr {x : Opd} (h : ∀ p ∈ opdT x, t p = t' p) : ev t x = ev t' x := by
  cases x with
  | t i => exact h i (by simp [opdT])
  | _ => rfl
theorem evs_congr {xs : List Opd} (h : ∀ p ∈ opdsT xs, t p = t' p) : evs t xs = evs t' xs := by
  induction xs with
  | nil => rfl
  | cons x xs ih =>
    simp only [opdsT, List.mem_append] at h
    simp only [evs]
    rw [ev_congr fun p hp => h p (.inl hp), ih fun p hp => h p (.inr hp)]
theorem bound_congr {d : Int} {x : Option Opd} (h : ∀ p ∈ optT x, t p = t' p) : boundOf t d x = boundOf t' d x := by
  cases x with
  | none => rfl
  | some x => simp only [boundOf]; rw [ev_congr h]
theorem parts_congr {ps : List (Nat × Nat × Opd)} : ∀ {xs : List AV}, (∀ p ∈ partsT ps, t p = t' p) → setParts xs t ps = setParts xs t' ps := by
  induction ps with
  | nil => intro xs _; rfl
  | cons p ps ih =>
    obtain ⟨a, b, x⟩ := p
    intro xs h
    simp only [partsT, List.mem_append] at h
    simp only [setParts]
    rw [ev_congr fun p hp => h p (.inl hp)]
    split
    · rw [ih fun p hp => h p (.inr hp)]
    · rfl
theorem lits_congr {ps : List (Nat × Opd)} : ∀ {n : Node}, (∀ p ∈ litsT ps, t p = t' p) → litParts n t ps = litParts n t' ps := by
  induction ps with
  | nil => intro n _; rfl
  | cons p ps ih =>
    obtain ⟨a, x⟩ := p
    intro n h
    simp only [litsT, List.mem_append] at h
    simp only [litParts]
    rw [ev_congr fun p hp => h p (.inl hp)]
    split
    · cases (Nat.beq _ _ && Nat.blt _ _)
      · rfl
      · simp only [cond_true]
        split
        · rw [ih fun p hp => h p (.inr hp)]
        · rfl
    · rfl
/-- An operation hangs on what it reads. -/
theorem EO_congr {m : Mem} {op : AOp} (h : ∀ p ∈ readsOf op, t p = t' p) : EO T t m op = EO T t' m op := by
  unfold EO
  cases op with
  | mv x => simp only [evalOp]; rw [ev_congr h]
  | pick c x y =>
    simp only [readsOf, List.mem_append] at h
    simp only [evalOp]
    rw [ev_congr (x := c) fun p hp => h p (.inl hp), ev_congr (x := x) fun p hp => h p (.inr (.inl hp)), ev_congr (x := y) fun p hp => h p (.inr (.inr hp))]
  | box x => simp only [evalOp]; rw [ev_congr h]
  | alloc zero => rfl
  | build zero ps => simp only [evalOp]; rw [parts_congr h]
  | lit wd rows ps => simp only [evalOp]; rw [lits_congr h]
  | load agg ks x => simp only [evalOp]; rw [ev_congr h]
  | un op x => simp only [evalOp]; rw [ev_congr h]
  | conv k x => simp only [evalOp]; rw [ev_congr h]
  | fn f caps => simp only [evalOp]; rw [evs_congr h]
  | fad off x => simp only [evalOp]; rw [ev_congr h]
  | fld agg off n x => simp only [evalOp]; rw [ev_congr h]
  | ext x i => simp only [evalOp]; rw [ev_congr h]
  | len str x => simp only [evalOp]; rw [ev_congr h]
  | slc wd x lo hi =>
    simp only [readsOf, List.mem_append] at h
    have h1 := ev_congr (x := x) fun p hp => h p (.inl hp)
    have h2 : ∀ d, boundOf t d lo = boundOf t' d lo := fun d => bound_congr fun p hp => h p (.inr (.inl hp))
    have h3 : ∀ d, boundOf t d hi = boundOf t' d hi := fun d => bound_congr fun p hp => h p (.inr (.inr hp))
    simp only [evalOp]
    rw [h1]
    simp only [h2, h3]
  | call f modes fz res xs =>
    simp only [readsOf, List.mem_append] at h
    simp only [evalOp]
    rw [ev_congr (x := f) fun p hp => h p (.inl hp), evs_congr fun p hp => h p (.inr hp)]
  | store n x y =>
    simp only [readsOf, List.mem_append] at h
    simp only [evalOp]
    rw [ev_congr (x := x) fun p hp => h p (.inl hp), ev_congr (x := y) fun p hp => h p (.inr hp)]
  | bin op x y =>
    simp only [readsOf, List.mem_append] at h
    simp only [evalOp]
    rw [ev_congr (x := x) fun p hp => h p (.inl hp), ev_congr (x := y) fun p hp => h p (.inr hp)]
  | beq neg x y =>
    simp only [readsOf, List.mem_append] at h
    simp only [evalOp]
    rw [ev_congr (x := x) fun p hp => h p (.inl hp), ev_congr (x := y) fun p hp => h p (.inr hp)]
  | geq neg ks x y =>
    simp only [readsOf, List.mem_append] at h
    simp only [evalOp]
    rw [ev_congr (x := x) fun p hp => h p (.inl hp), ev_congr (x := y) fun p hp => h p (.inr hp)]
  | mk zero bytes x y =>
    simp only [readsOf, List.mem_append] at h
    simp only [evalOp]
    rw [ev_congr (x := x) fun p hp => h p (.inl hp), ev_congr (x := y) fun p hp => h p (.inr hp)]
  | iad wd x y =>
    simp only [readsOf, List.mem_append] at h
    simp only [evalOp]
    rw [ev_congr (x := x) fun p hp => h p (.inl hp), ev_congr (x := y) fun p hp => h p (.inr hp)]
  | idx x y =>
    simp only [readsOf, List.mem_append] at h
    simp only [evalOp]
    rw [ev_congr (x := x) fun p hp => h p (.inl hp), ev_congr (x := y) fun p hp => h p (.inr hp)]
  | app wd bytes x y =>
    simp only [readsOf, List.mem_append] at h
    simp only [evalOp]
    rw [ev_congr (x := x) fun p hp => h p (.inl hp), ev_congr (x := y) fun p hp => h p (.inr hp)]
  | mx x y =>
    simp only [readsOf, List.mem_append] at h
    simp only [evalOp]
    rw [ev_congr (x := x) fun p hp => h p (.inl hp), ev_congr (x := y) fun p hp => h p (.inr hp)]
theorem hOk_congr {op : AOp} (h : ∀ p ∈ readsOf op, t p = t' p) : hOk t op = hOk t' op := by
  cases op with
  | app wd bytes x y =>
    simp only [readsOf, List.mem_append] at h
    simp only [hOk]
    rw [ev_congr (x := x) fun p hp => h p (.inl hp), ev_congr (x := y) fun p hp => h p (.inr hp)]
  | _ => rfl
theorem getNode_app {m l : Mem} {id : Nat} {n : Node} (h : getNode m id = some n) : getNode (m ++ l) id = some n := by
  unfold getNode at *
  have : id < m.length := by
    rcases Nat.lt_or_ge id m.length with h' | h'
    · exact h'
    · rw [List.getElem?_eq_none h'] at h; simp at h
  rw [List.getElem?_append_left this]
  exact h
theorem ldO_len {k : Kd} {m m' : Mem} {id i c : Nat} {x : AV} (h : ldO k m id i c mk2 = some (x, m')) : m.length ≤ m'.length ∧ (m'.length = m.length → m' = m ∧ ∀ l, ldO k (m ++ l) id i c mk2 = some (x, m ++ l)) := by
  unfold ldO at h
  split at h
  · simp at h
  · rename_i n hn
    have hn' : ∀ l, getNode (m ++ l) id = some n := fun l => getNode_app hn
    split at h
    · rename_i y hy
      simp only [mk2, Option.some.injEq, Prod.mk.injEq] at h
      obtain ⟨rfl, rfl⟩ := h
      exact ⟨Nat.le_refl _, fun _ => ⟨rfl, fun l => by unfold ldO; rw [hn']; simp only [hy]⟩⟩
    · rename_i hy
      simp only [look_uni, cell_uni] at h
      obtain ⟨row, h1, h⟩ := Option.bind_eq_some_iff.1 h
      obtain ⟨d, h2, h⟩ := Option.bind_eq_some_iff.1 h
      cases k with
      | sl wd =>
        simp only [dL_uni] at h
        obtain ⟨rows, _, h⟩ := Option.bind_eq_some_iff.1 h
        simp only [mk2, Option.some.injEq, Prod.mk.injEq] at h
        obtain ⟨rfl, rfl⟩ := h
        simp
      | i k =>
        simp only [dI_uni] at h
        obtain ⟨n', h3, h⟩ := Option.bind_eq_some_iff.1 h
        simp only [mk2, Option.some.injEq, Prod.mk.injEq] at h
        obtain ⟨rfl, rfl⟩ := h
        exact ⟨Nat.le_refl _, fun _ => ⟨rfl, fun l => by unfold ldO; rw [hn']; simp only [hy, look_uni, cell_uni, h1, h2, Option.bind_some, dI_uni, h3]⟩⟩
      | b =>
        simp only [dB_uni] at h
        obtain ⟨n', h3, h⟩ := Option.bind_eq_some_iff.1 h
        simp only [mk2, Option.some.injEq, Prod.mk.injEq] at h
        obtain ⟨rfl, rfl⟩ := h
        exact ⟨Nat.le_refl _, fun _ => ⟨rfl, fun l => by unfold ldO; rw [hn']; simp only [hy, look_uni, cell_uni, h1, h2, Option.bind_some, dB_uni, h3]⟩⟩
      | s =>
        simp only [dS_uni] at h
        obtain ⟨n', h3, h⟩ := Option.bind_eq_some_iff.1 h
        simp only [mk2, Option.some.injEq, Prod.mk.injEq] at h
        obtain ⟨rfl, rfl⟩ := h
        exact ⟨Nat.le_refl _, fun _ => ⟨rfl, fun l => by unfold ldO; rw [hn']; simp only [hy, look_uni, cell_uni, h1, h2, Option.bind_some, dS_uni, h3]⟩⟩
theorem ldOs_len {ks : List Kd} : ∀ {m m' : Mem} {id i c : Nat} {xs : List AV}, ldOs ks m id i c mk2 = some (xs, m') → m.length ≤ m'.length ∧ (m'.length = m.length → m' = m ∧ ∀ l, ldOs ks (m ++ l) id i c mk2 = some (xs, m ++ l)) := by
  induction ks with
  | nil =>
    intro m m' id i c xs h
    simp only [ldOs, mk2, Option.some.injEq, Prod.mk.injEq] at h
    obtain ⟨rfl, rfl⟩ := h
    exact ⟨Nat.le_refl _, fun _ => ⟨rfl, fun l => rfl⟩⟩
  | cons k ks ih =>
    intro m m' id i c xs h
    simp only [ldOs] at h
    rw [ldO_uni] at h
    obtain ⟨⟨x, m1⟩, h1, h⟩ := Option.bind_eq_some_iff.1 h
    simp only [pr] at h
    rw [ldOs_uni] at h
    obtain ⟨⟨ys, m2⟩, h2, h⟩ := Option.bind_eq_some_iff.1 h
    simp only [pr, mk2, Option.some.injEq, Prod.mk.injEq] at h
    obtain ⟨rfl, rfl⟩ := h
    obtain ⟨a1, a2⟩ := ldO_len h1
    obtain ⟨b1, b2⟩ := ih h2
    refine ⟨by omega, fun he => ?_⟩
    obtain ⟨rfl, a3⟩ := a2 (by omega)
    obtain ⟨rfl, b3⟩ := b2 he
    refine ⟨rfl, fun l => ?_⟩
    simp only [ldOs]
    rw [ldO_uni, a3 l]
    simp only [Option.bind_some, pr]
    rw [ldOs_uni, b3 l]
    rfl
def lightK : AOp → Bool
  | .mv _ => true
  | .pick _ _ _ => true
  | .build _ _ => true
  | .lit _ [] [] => true
  | .load _ _ _ => true
  | .bin _ _ _ => true
  | .beq _ _ _ => true
  | .geq _ _ _ _ => true
  | .un _ _ => true
  | .conv .strBytes _ => false
  | .conv .bytesStr _ => false
  | .conv _ _ => true
  | .fn _ _ => true
  | .slc _ _ _ _ => true
  | .fad _ _ => true
  | .fld _ _ _ _ => true
  | .iad _ _ _ => true
  | .idx _ _ => true
  | .ext _ _ => true
  | .len _ _ => true
  | .mx _ _ => true
  | _ => false
/-- The memory plays no part. -/
theorem bind_mem {A : Type} {o : Option A} {f : A → AV} {m : Mem} {x : AV} {m' : Mem} (h : (o.bind fun a => mk2 (f a) m) = some (x, m')) : m' = m ∧ ∀ l, (o.bind fun a => mk2 (f a) (m ++ l)) = some (x, m ++ l) := by
  cases o with
  | none => simp at h
  | some a =>
    simp only [Option.bind_some, mk2, Option.some.injEq, Prod.mk.injEq] at h
    obtain ⟨rfl, rfl⟩ := h
    exact ⟨rfl, fun l => rfl⟩
/-- A light operation looks at no more than the memory of the beginning. -/
theorem light_ext {m m' : Mem} {op : AOp} {x : AV} (hk : lightK op = true) (h : EO T t m op = some (x, m')) (hl : m'.length = m.length) : m' = m ∧ ∀ l, EO T t (m ++ l) op = some (x, m ++ l) := by
  unfold EO at *
  have triv : ∀ {f : Mem → Option (AV × Mem)} {o : Option AV}, (∀ m, f m = o.map fun y => (y, m)) → f m = some (x, m') → m' = m ∧ ∀ l, f (m ++ l) = some (x, m ++ l) := by
    intro f o hf h
    rw [hf] at h
    cases o with
    | none => simp at h
    | some y =>
      simp only [Option.map_some, Option.some.injEq, Prod.mk.injEq] at h
      obtain ⟨rfl, rfl⟩ := h
      exact ⟨rfl, fun l => by rw [hf]; rfl⟩
  cases op with
  | mv y => exact triv (f := fun m => evalOp T t m (.mv y) mk2) (o := some (ev t y)) (fun m => rfl) h
  | fn f caps => exact triv (f := fun m => evalOp T t m (.fn f caps) mk2) (o := some (.f f (evs t caps))) (fun m => rfl) h
  | pick c y z =>
    refine triv (f := fun m => evalOp T t m (.pick c y z) mk2) (o := (evalOp T t [] (.pick c y z) mk2).map (·.1)) (fun m => ?_) h
    simp only [evalOp]
    split
    · rename_i b _; cases b <;> rfl
    · rfl
  | build zero ps =>
    refine triv (f := fun m => evalOp T t m (.build zero ps) mk2) (o := (evalOp T t [] (.build zero ps) mk2).map (·.1)) (fun m => ?_) h
    simp only [evalOp]
    split <;> simp_all
  | lit wd rows ps =>
    cases rows with
    | cons => simp [lightK] at hk
    | nil => cases ps with
      | cons => simp [lightK] at hk
      | nil => exact triv (f := fun m => evalOp T t m (.lit wd [] []) mk2) (o := some (.o wd [])) (fun m => rfl) h
  | load agg ks y =>
    simp only [evalOp] at h ⊢
    cases hy : ev t y with
    | a id i c =>
      simp only [hy] at h ⊢
      rw [ldOs_uni] at h
      obtain ⟨⟨ys, m1⟩, h1, h⟩ := Option.bind_eq_some_iff.1 h
      simp only [pr] at h
      cases hag : mkAgg agg ys with
      | none => simp [hag, ret1] at h
      | some z =>
        simp only [hag, ret1, mk2, Option.some.injEq, Prod.mk.injEq] at h
        obtain ⟨rfl, rfl⟩ := h
        obtain ⟨rfl, h2⟩ := (ldOs_len h1).2 hl
        refine ⟨rfl, fun l => ?_⟩
        rw [ldOs_uni, h2 l]
        simp only [Option.bind_some, pr, hag, ret1]
    | fa row c =>
      simp only [hy] at h ⊢
      rw [ldFs_uni] at h
      obtain ⟨ys, h1, h⟩ := Option.bind_eq_some_iff.1 h
      cases hag : mkAgg agg ys with
      | none => simp [hag, ret1] at h
      | some z =>
        simp only [hag, ret1, mk2, Option.some.injEq, Prod.mk.injEq] at h
        obtain ⟨rfl, rfl⟩ := h
        refine ⟨rfl, fun l => ?_⟩
        rw [ldFs_uni, h1]
        simp only [Option.bind_some, hag, ret1]
    | _ => simp [hy] at h
  | bin op y z =>
    refine triv (f := fun m => evalOp T t m (.bin op y z) mk2) (o := (evalOp T t [] (.bin op y z) mk2).map (·.1)) (fun m => ?_) h
    simp only [evalOp]
    split
    · rw [binV_uni, binV_uni (K := fun z => mk2 (AV.v z) [])]
      rename_i a b _ _
      cases binV op a b some <;> rfl
    · rfl
  | beq neg y z =>
    refine triv (f := fun m => evalOp T t m (.beq neg y z) mk2) (o := (evalOp T t [] (.beq neg y z) mk2).map (·.1)) (fun m => ?_) h
    simp only [evalOp]
    split <;> rfl
  | geq neg ks y z =>
    refine triv (f := fun m => evalOp T t m (.geq neg ks y z) mk2) (o := (evalOp T t [] (.geq neg ks y z) mk2).map (·.1)) (fun m => ?_) h
    simp only [evalOp]
    split
    · split <;> simp_all
    · rfl
  | un op y =>
    refine triv (f := fun m => evalOp T t m (.un op y) mk2) (o := (evalOp T t [] (.un op y) mk2).map (·.1)) (fun m => ?_) h
    simp only [evalOp]
    split
    · rw [unV_uni, unV_uni (K := fun z => mk2 (AV.v z) [])]
      rename_i a _
      cases unV op a some <;> rfl
    · rfl
  | conv k y =>
    cases k with
    | strBytes => simp [lightK] at hk
    | bytesStr => simp [lightK] at hk
    | int k =>
      refine triv (f := fun m => evalOp T t m (.conv (.int k) y) mk2) (o := (evalOp T t [] (.conv (.int k) y) mk2).map (·.1)) (fun m => ?_) h
      simp only [evalOp]
      cases ev t y <;> try rfl
      rename_i v; cases v <;> rfl
    | same =>
      refine triv (f := fun m => evalOp T t m (.conv .same y) mk2) (o := (evalOp T t [] (.conv .same y) mk2).map (·.1)) (fun m => ?_) h
      simp only [evalOp]
      cases ev t y <;> try rfl
      rename_i v; cases v <;> rfl
    | intStr =>
      refine triv (f := fun m => evalOp T t m (.conv .intStr y) mk2) (o := (evalOp T t [] (.conv .intStr y) mk2).map (·.1)) (fun m => ?_) h
      simp only [evalOp]
      cases ev t y <;> try rfl
      rename_i v; cases v <;> rfl
  | slc wd y lo hi =>
    refine triv (f := fun m => evalOp T t m (.slc wd y lo hi) mk2) (o := (evalOp T t [] (.slc wd y lo hi) mk2).map (·.1)) (fun m => ?_) h
    simp only [evalOp]
    split
    · split
      · cases cutOk _ _ _ <;> rfl
      · rfl
    · cases Nat.beq _ _
      · rfl
      · simp only [cond_true]
        split
        · cases cutOk _ _ _ <;> rfl
        · rfl
    · rfl
  | fad off y =>
    refine triv (f := fun m => evalOp T t m (.fad off y) mk2) (o := (evalOp T t [] (.fad off y) mk2).map (·.1)) (fun m => ?_) h
    simp only [evalOp]
    split <;> rfl
  | fld agg off n y =>
    refine triv (f := fun m => evalOp T t m (.fld agg off n y) mk2) (o := (evalOp T t [] (.fld agg off n y) mk2).map (·.1)) (fun m => ?_) h
    simp only [evalOp]
    split
    · cases Nat.ble _ _
      · rfl
      · simp only [cond_true]
        cases mkAgg agg _ <;> rfl
    · rfl
  | ext y i =>
    refine triv (f := fun m => evalOp T t m (.ext y i) mk2) (o := (evalOp T t [] (.ext y i) mk2).map (·.1)) (fun m => ?_) h
    simp only [evalOp]
    split
    · rename_i xs _
      cases xs[i]? <;> rfl
    · rfl
  | idx y i =>
    refine triv (f := fun m => evalOp T t m (.idx y i) mk2) (o := (evalOp T t [] (.idx y i) mk2).map (·.1)) (fun m => ?_) h
    simp only [evalOp]
    split
    · rename_i i s _ _
      cases decide (0 ≤ i)
      · rfl
      · simp only [tst, cond_true, byteAt_uni]
        cases s.toList[i.toNat]? <;> rfl
    · rfl
  | mx y z =>
    refine triv (f := fun m => evalOp T t m (.mx y z) mk2) (o := (evalOp T t [] (.mx y z) mk2).map (·.1)) (fun m => ?_) h
    simp only [evalOp]
    split
    · unfold sameKind
      split <;> rfl
    · rfl
  | iad wd y z =>
    simp only [evalOp] at h ⊢
    cases hz : intOf (ev t z) with
    | none => simp [hz] at h
    | some i =>
      cases hy : ev t y with
      | r id =>
        simp only [hz, hy] at h ⊢
        cases hn : getNode m id with
        | none => simp [hn] at h
        | some n =>
          simp only [hn] at h
          have hn' : ∀ l, getNode (m ++ l) id = some n := fun l => getNode_app hn
          simp only [hn']
          cases hb : Nat.beq n.wd wd with
          | false => simp [hb] at h
          | true =>
            simp only [hb, cond_true] at h ⊢
            obtain ⟨ht, h⟩ := tst_some h
            simp only [mk2, Option.some.injEq, Prod.mk.injEq] at h
            obtain ⟨rfl, rfl⟩ := h
            exact ⟨rfl, fun l => by rw [ht]; rfl⟩
      | fz wd' rows =>
        simp only [hz, hy] at h ⊢
        cases hb : Nat.beq wd' wd with
        | false => simp [hb] at h
        | true =>
          simp only [hb, cond_true] at h ⊢
          obtain ⟨ht, h⟩ := tst_some h
          obtain ⟨row, hr, h⟩ := look_some h
          simp only [mk2, Option.some.injEq, Prod.mk.injEq] at h
          obtain ⟨rfl, rfl⟩ := h
          exact ⟨rfl, fun l => by rw [ht]; simp only [tst, cond_true, look_uni, hr]; rfl⟩
      | _ => simp [hz, hy] at h
  | len str y =>
    simp only [evalOp] at h ⊢
    cases hn : lenAV str m (ev t y) with
    | none => simp [hn] at h
    | some n =>
      simp only [hn, mk2, Option.some.injEq, Prod.mk.injEq] at h
      obtain ⟨rfl, rfl⟩ := h
      refine ⟨rfl, fun l => ?_⟩
      have : lenAV str (m ++ l) (ev t y) = some n := by
        unfold lenAV at hn ⊢
        split at hn
        · exact hn
        · exact hn
        · exact hn
        · split at hn
          · rename_i nd hnd
            rw [getNode_app hnd]
            exact hn
          · simp at hn
        · simp at hn
      rw [this]
  | _ => simp [lightK] at hk
end
end Go.Am
