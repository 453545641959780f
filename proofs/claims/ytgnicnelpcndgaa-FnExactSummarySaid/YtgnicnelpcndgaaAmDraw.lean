/- AM: regions whose order is open. Nothing is assumed. -/
import Derived.Test.YtgnicnelpcndgaaAmOps
import Derived.Test.YtgnicnelpcndgaaAmHeavy
import Derived.Orders
set_option linter.unusedVariables false
set_option linter.unusedSimpArgs false
namespace Go.Am
/-! ### the checker -/
/-- Operation j is directly ahead of operation i. -/
def bindsB (ops : Array Oper) (i j : Nat) : Bool := match ops[i]? with
  | some o => o.after.toList.any fun e => Region.binds .any e && e.on == j
  | none => false
def isAnc (ops : Array Oper) : Nat → Nat → Nat → Bool
  | 0, _, _ => false
  | f + 1, i, j => bindsB ops i j || (List.range i).any fun k => bindsB ops i k && isAnc ops f k j
def dstH (head : List (Nat × AOper)) (i : Nat) : Option Nat := (head[i]?).bind (·.2.dst)
def tagH (head : List (Nat × AOper)) (i : Nat) : Nat := ((head[i]?).map (·.1)).getD 9
def edgesB (ops : Array Oper) : Bool := (List.range ops.size).all fun i => match ops[i]? with
  | some o => o.after.toList.all fun e => !Region.binds .any e || decide (e.on < i)
  | none => false
def distB (l : List (Option Nat)) : Bool := match l with
  | [] => true
  | none :: l => distB l
  | some d :: l => l.all (fun e => e != some d) && distB l
def guardT : Option (Nat × Bool) → List Nat
  | some (j, _) => [j]
  | none => []
/-- Nobody but those ahead of it and behind it touches what it touches. -/
def freeB (ops : Array Oper) (i : Nat) : Bool := (List.range ops.size).all fun j => j == i || isAnc ops ops.size i j || bindsB ops j i || (match ops[i]?, ops[j]? with
  | some oi, some oj => oi.apart ops oj
  | _, _ => false)
def tagOk (ops : Array Oper) (head : List (Nat × AOper)) (i tag : Nat) (o : AOper) : Bool := match tag with
  | 0 => lightK o.op
  | 1 => (match o.op with | .call _ _ fz _ _ => !fz | _ => true) && (List.range i).all fun j => tagH head j != 1 || isAnc ops ops.size i j
  | 3 => (match o.op with | .ext (.t _) _ => true | _ => false) && o.guard.isNone && freeB ops i
  | 2 => o.guard.isNone && o.dst.isSome && (match o.op with | .alloc _ => true | _ => false)
  | _ => false
def chkHead (P : Program) (sg : Sigs) (N : Nat) (ops : Array Oper) (head : List (Nat × AOper)) (i : Nat) : Bool := match head[i]?, ops[i]? with
  | some (tag, ao), some o => chkDst N ao.dst o.dst && chkGuard ops ao.guard o.guard && chkOp P sg ao.op o.op && tagOk ops head i tag ao &&
    (readsOf ao.op ++ guardT ao.guard).all fun p => (List.range head.length).all fun j => dstH head j != some p || (bindsB ops i j && tagH head j != 2)
  | _, _ => false
def chkDraw (P : Program) (sg : Sigs) (N : Nat) (ops : Array Oper) (head : List (Nat × AOper)) (tail : List AOper) : Bool :=
  ops.size == head.length + tail.length && edgesB ops && distB (head.map (·.2.dst)) && (List.range head.length).all (chkHead P sg N ops head) &&
  chkOpers P sg N ops (ops.toList.drop head.length) tail && ((List.range ops.size).all fun i => decide (i < head.length) || (List.range i).all fun j => isAnc ops ops.size i j || (tagH head j == 3 && (List.range j).all fun k => !bindsB ops j k || isAnc ops ops.size i k)) &&
  P.follows .mixedOrders && Region.noSelect ops
/-! ### the run in the order of the text -/
def tRun : List (Nat × AOper) → List AV → Tmps → Tmps
  | (_, o) :: os, x :: xs, t => tRun os xs (put t o.dst x)
  | _, _, t => t
theorem upd_self {t : Tmps} {j : Nat} {x : AV} (h : t j = x) : upd t j x = t := funext (upd_same h)
/-- What one operation of the head did. -/
def HFact (C : Ctx) (m0 : Mem) (tag : Nat) (o : AOper) (t : Tmps) (m m' : Mem) (x : AV) : Prop :=
  (∃ j b, o.guard = some (j, b) ∧ (t j = .v (.bool !b) ∨ t j = .n) ∧ x = .n ∧ m' = m) ∨
  ((o.guard = none ∨ ∃ j b, o.guard = some (j, b) ∧ t j = .v (.bool b)) ∧
    (((tag = 0 ∨ tag = 3) ∧ ∃ m1, EO C.T t m0 o.op = some (x, m1) ∧ m1.length = m0.length ∧ m' = m) ∨
     (tag = 1 ∧ hOk t o.op = true ∧ EO C.T t m o.op = some (x, m')) ∨
     ((tag ≠ 0 ∧ tag ≠ 3) ∧ tag ≠ 1 ∧ x = .u ∧ m' = m)))
theorem headOne_some {R : Type} {r : R} {C : Ctx} {m0 m : Mem} {tag : Nat} {o : AOper} {t : Tmps} {K : Tmps → Mem → Option R} (h : headOne C m0 tag o t m K = some r) :
    ∃ x m', K (put t o.dst x) m' = some r ∧ (((tag = 0 ∨ tag = 3) ∧ ∃ m1, EO C.T t m0 o.op = some (x, m1) ∧ m1.length = m0.length ∧ m' = m) ∨
     (tag = 1 ∧ hOk t o.op = true ∧ EO C.T t m o.op = some (x, m')) ∨ ((tag ≠ 0 ∧ tag ≠ 3) ∧ tag ≠ 1 ∧ x = .u ∧ m' = m)) := by
  unfold headOne at h
  split at h
  · obtain ⟨x, m1, h1, h2⟩ := EO_of h
    cases hb : Nat.beq m1.length m0.length with
    | false => simp [hb] at h2
    | true =>
      simp only [hb, cond_true] at h2
      exact ⟨x, m, h2, .inl ⟨.inl rfl, m1, h1, Nat.eq_of_beq_eq_true hb, rfl⟩⟩
  · cases hk : hOk t o.op with
    | false => simp [hk] at h
    | true =>
      simp only [hk, cond_true] at h
      obtain ⟨x, m1, h1, h2⟩ := EO_of h
      exact ⟨x, m1, h2, .inr (.inl ⟨rfl, rfl, h1⟩)⟩
  · obtain ⟨x, m1, h1, h2⟩ := EO_of h
    cases hb : Nat.beq m1.length m0.length with
    | false => simp [hb] at h2
    | true =>
      simp only [hb, cond_true] at h2
      exact ⟨x, m, h2, .inl ⟨.inr rfl, m1, h1, Nat.eq_of_beq_eq_true hb, rfl⟩⟩
  · rename_i h0 h1 h3
    exact ⟨.u, m, h, .inr (.inr ⟨⟨h0, h3⟩, h1, rfl, rfl⟩)⟩
theorem evalHead_some {R : Type} {r : R} {C : Ctx} {m0 : Mem} (head : List (Nat × AOper)) : ∀ {t : Tmps} {m : Mem} {K : Tmps → Mem → Option R}, evalHead C m0 head t m K = some r →
    ∃ (xs : List AV) (ms : Nat → Mem), xs.length = head.length ∧ ms 0 = m ∧ K (tRun head xs t) (ms head.length) = some r ∧
      ∀ (i tag : Nat) (o : AOper), head[i]? = some (tag, o) → mayPut C.keep o.dst = true ∧ ∃ x, xs[i]? = some x ∧ HFact C m0 tag o (tRun (head.take i) (xs.take i) t) (ms i) (ms (i + 1)) x := by
  induction head with
  | nil =>
    intro t m K h
    exact ⟨[], fun _ => m, rfl, rfl, h, fun i tag o hi => by simp at hi⟩
  | cons p os ih =>
    obtain ⟨tag, o⟩ := p
    intro t m K h
    simp only [evalHead] at h
    cases hk : mayPut C.keep o.dst with
    | false => simp [hk] at h
    | true =>
      simp only [hk, cond_true] at h
      have key : ∀ (x : AV) (m1 : Mem), HFact C m0 tag o t m m1 x → evalHead C m0 os (put t o.dst x) m1 K = some r →
          ∃ (xs : List AV) (ms : Nat → Mem), xs.length = ((tag, o) :: os).length ∧ ms 0 = m ∧ K (tRun ((tag, o) :: os) xs t) (ms ((tag, o) :: os).length) = some r ∧
            ∀ (i tag' : Nat) (o' : AOper), ((tag, o) :: os)[i]? = some (tag', o') → mayPut C.keep o'.dst = true ∧ ∃ x, xs[i]? = some x ∧ HFact C m0 tag' o' (tRun (((tag, o) :: os).take i) (xs.take i) t) (ms i) (ms (i + 1)) x := by
        intro x m1 hf h1
        obtain ⟨xs, ms, a1, a2, a3, a4⟩ := ih h1
        refine ⟨x :: xs, fun i => match i with | 0 => m | i + 1 => ms i, by simp [a1], rfl, a3, fun i tag' o' hi => ?_⟩
        cases i with
        | zero =>
          simp at hi
          obtain ⟨rfl, rfl⟩ := hi
          refine ⟨hk, x, rfl, ?_⟩
          show HFact C m0 tag o t m (ms 0) x
          rw [a2]
          exact hf
        | succ i =>
          obtain ⟨b1, y, b2, b3⟩ := a4 i tag' o' (by simpa using hi)
          exact ⟨b1, y, by simpa using b2, b3⟩
      split at h
      · rename_i hg
        obtain ⟨x, m1, h1, h2⟩ := headOne_some h
        exact key x m1 (.inr ⟨.inl hg, h2⟩) h1
      · rename_i j b hg
        split at h
        · rename_i v hv
          cases hvb : (v == b) with
          | true =>
            have e : v = b := by simpa using hvb
            subst e
            simp only [hvb, cond_true] at h
            rw [upd_self hv] at h
            obtain ⟨x, m1, h1, h2⟩ := headOne_some h
            exact key x m1 (.inr ⟨.inr ⟨j, v, hg, hv⟩, h2⟩) h1
          | false =>
            have e : v = !b := by cases v <;> cases b <;> simp_all
            subst e
            simp only [hvb, cond_false] at h
            rw [upd_self hv] at h
            exact key .n m (.inl ⟨j, b, hg, .inl hv, rfl, rfl⟩) h
        · rename_i hv
          exact key .n m (.inl ⟨j, b, hg, .inr hv, rfl, rfl⟩) h
        · simp at h
theorem distB_ok {l : List (Option Nat)} (h : distB l = true) : ∀ (i j d : Nat), l[i]? = some (some d) → l[j]? = some (some d) → i = j := by
  induction l with
  | nil => intro i j d hi; simp at hi
  | cons x l ih =>
    cases x with
    | none =>
      intro i j d hi hj
      cases i with
      | zero => simp at hi
      | succ i => cases j with
        | zero => simp at hj
        | succ j => rw [ih h i j d (by simpa using hi) (by simpa using hj)]
    | some e =>
      simp only [distB, Bool.and_eq_true, List.all_eq_true, bne_iff_ne, ne_eq] at h
      intro i j d hi hj
      cases i with
      | zero =>
        simp at hi
        subst hi
        cases j with
        | zero => rfl
        | succ j => exact absurd rfl (h.1 _ (List.mem_of_getElem? (by simpa using hj)))
      | succ i => cases j with
        | zero =>
          simp at hj
          subst hj
          exact absurd rfl (h.1 _ (List.mem_of_getElem? (by simpa using hi)))
        | succ j => rw [ih h.2 i j d (by simpa using hi) (by simpa using hj)]
section
variable {head : List (Nat × AOper)} {xs : List AV} {t0 : Tmps}
abbrev tL (head : List (Nat × AOper)) (xs : List AV) (t0 : Tmps) (i : Nat) : Tmps := tRun (head.take i) (xs.take i) t0
theorem tRun_snoc : ∀ {l : List (Nat × AOper)} {ys : List AV} {t : Tmps} {p : Nat × AOper} {x : AV}, l.length = ys.length → tRun (l ++ [p]) (ys ++ [x]) t = put (tRun l ys t) p.2.dst x := by
  intro l
  induction l with
  | nil =>
    intro ys t p x hl
    cases ys with
    | nil => rfl
    | cons => simp at hl
  | cons q l ih =>
    intro ys t p x hl
    cases ys with
    | nil => simp at hl
    | cons y ys =>
      simp only [List.cons_append, tRun]
      exact ih (by simpa using hl)
theorem tL_succ (hl : xs.length = head.length) {i : Nat} {tag : Nat} {o : AOper} {x : AV} (hi : head[i]? = some (tag, o)) (hx : xs[i]? = some x) : tL head xs t0 (i + 1) = put (tL head xs t0 i) o.dst x := by
  have h1 : head.take (i + 1) = head.take i ++ [(tag, o)] := by rw [List.take_add_one, hi]; rfl
  have h2 : xs.take (i + 1) = xs.take i ++ [x] := by rw [List.take_add_one, hx]; rfl
  unfold tL
  rw [h1, h2]
  exact tRun_snoc (by simp [hl])
theorem put_at {t : Tmps} {d : Option Nat} {x : AV} {p : Nat} : put t d x p = if d = some p then x else t p := by
  cases d with
  | none => simp [put]
  | some i =>
    simp only [put, upd, Option.some.injEq]
    cases hb : Nat.beq p i with
    | true => have := Nat.eq_of_beq_eq_true hb; subst this; simp
    | false =>
      have : ¬ i = p := fun e => by subst e; simp at hb
      simp [this]
/-- A temporary in the run: written by one, or by none. -/
theorem tL_spec (hl : xs.length = head.length) (hd : ∀ i j d, dstH head i = some d → dstH head j = some d → i = j) (i : Nat) (hi : i ≤ head.length) (p : Nat) :
    (∀ j x, j < i → dstH head j = some p → xs[j]? = some x → tL head xs t0 i p = x) ∧ ((∀ j, j < i → dstH head j ≠ some p) → tL head xs t0 i p = t0 p) := by
  induction i with
  | zero => exact ⟨fun j x hj => by omega, fun _ => by simp [tL, tRun]⟩
  | succ i ih =>
    obtain ⟨ih1, ih2⟩ := ih (by omega)
    have hlt : i < head.length := by omega
    obtain ⟨⟨tag, o⟩, hp⟩ : ∃ p, head[i] = p := ⟨_, rfl⟩
    have hg : head[i]? = some (tag, o) := by rw [List.getElem?_eq_getElem hlt, hp]
    have hx : xs[i]? = some xs[i] := List.getElem?_eq_getElem (by omega)
    have hdst : dstH head i = o.dst := by simp [dstH, hg]
    rw [tL_succ hl hg hx]
    simp only [put_at]
    refine ⟨fun j x hj hdj hxj => ?_, fun hno => ?_⟩
    · by_cases h : o.dst = some p
      · have : j = i := hd j i p hdj (by rw [hdst, h])
        subst this
        rw [if_pos h]
        rw [hx] at hxj
        exact Option.some.inj hxj
      · rw [if_neg h]
        have hji : j ≠ i := fun e => by subst e; exact h (by rw [← hdst]; exact hdj)
        exact ih1 j x (by omega) hdj hxj
    · rw [if_neg (by rw [← hdst]; exact hno i (by omega))]
      exact ih2 fun j hj => hno j (by omega)
/-- The temporaries, when these operations have come up. -/
noncomputable def tD (head : List (Nat × AOper)) (xs : List AV) (t0 : Tmps) (done : Nat → Bool) (p : Nat) : AV := by
  classical
  exact if h : ∃ j, dstH head j = some p then (if done h.choose then (xs[h.choose]?).getD .u else .u) else t0 p
theorem tD_dst (hd : ∀ i j d, dstH head i = some d → dstH head j = some d → i = j) {done : Nat → Bool} {j p : Nat} (hj : dstH head j = some p) : tD head xs t0 done p = if done j then (xs[j]?).getD .u else .u := by
  have h : ∃ j, dstH head j = some p := ⟨j, hj⟩
  have e : h.choose = j := hd _ _ p h.choose_spec hj
  unfold tD
  rw [dif_pos h, e]
theorem tD_none {done : Nat → Bool} {p : Nat} (h : ∀ j, dstH head j ≠ some p) : tD head xs t0 done p = t0 p := by
  unfold tD
  rw [dif_neg (fun ⟨j, hj⟩ => h j hj)]
end
end Go.Am
