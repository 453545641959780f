/- The abstract machine AM, part C: what it computes keeps the contracts of the program. Nothing is assumed. -/
import Derived.Test.YtefdfdkkbbehiaaGreatDoorAmB
import Derived.Orders
import Derived.LoopN
import Derived.Carry
set_option linter.unusedVariables false
set_option linter.unusedSimpArgs false
/- AM: regions whose order is open. Nothing is assumed. -/
namespace Go.Am
def bindsB (ops : Array Oper) (i j : Nat) : Bool := match ops[i]? with
 | some o => o.after.toList.any fun e => Region.binds .any e && e.on == j
 | none => false
def isAnc (ops : Array Oper) : Nat → Nat → Nat → Bool
 | 0, _, _ => false
 | f + 1, i, j => bindsB ops i j || (List.range i).any fun k => bindsB ops i k && isAnc ops f k j
def dstH (head : List (Nat × AOper)) (i : Nat) : Option Nat := (head[i]?).bind (·.2.dst)
def tagH (head : List (Nat × AOper)) (i : Nat) : Nat := ((head[i]?).map (·.1)).getD 9
def edgesB (ops : Array Oper) : Bool := (List.range ops.size).all fun i => match ops[i]? with
 | some o => o.after.toList.all fun e => !Region.binds .any e || decide (e.on < i)
 | none => false
def distB (l : List (Option Nat)) : Bool := match l with
 | [] => true
 | none :: l => distB l
 | some d :: l => l.all (fun e => e != some d) && distB l
def guardT : Option (Nat × Bool) → List Nat
 | some (j, _) => [j]
 | none => []
def freeB (ops : Array Oper) (i : Nat) : Bool := (List.range ops.size).all fun j => j == i || isAnc ops ops.size i j || bindsB ops j i || (match ops[i]?, ops[j]? with
 | some oi, some oj => oi.apart ops oj
 | _, _ => false)
def freeK : AOp → Bool
 | .ext (.t _) _ => true
 | .mv (.t _) => true
 | .bin _ _ _ => true
 | _ => false
def tagOk (ops : Array Oper) (head : List (Nat × AOper)) (i tag : Nat) (o : AOper) : Bool := match tag with
 | 0 => lightK o.op
 | 1 => (match o.op with | .call _ _ fz _ _ => !fz | _ => true) && (List.range i).all fun j => tagH head j != 1 || isAnc ops ops.size i j
 | 3 => freeK o.op && o.guard.isNone && freeB ops i
 | 2 => o.guard.isNone && o.dst.isSome && (match o.op with | .alloc _ => true | _ => false)
 | _ => false
def chkHead (P : Program) (sg : Sigs) (N : Nat) (ops : Array Oper) (head : List (Nat × AOper)) (i : Nat) : Bool := match head[i]?, ops[i]? with
 | some (tag, ao), some o => chkDst N ao.dst o.dst && chkGuard ops ao.guard o.guard && chkOp P sg ao.op o.op && tagOk ops head i tag ao &&
  (readsOf ao.op ++ guardT ao.guard).all fun p => (List.range head.length).all fun j => dstH head j != some p || (bindsB ops i j && tagH head j != 2)
 | _, _ => false
def chkDraw (P : Program) (sg : Sigs) (N : Nat) (ops : Array Oper) (head : List (Nat × AOper)) (tail : List AOper) : Bool :=
 ops.size == head.length + tail.length && edgesB ops && distB (head.map (·.2.dst)) && (List.range head.length).all (chkHead P sg N ops head) &&
 chkOpers P sg N ops (ops.toList.drop head.length) tail && ((List.range ops.size).all fun i => decide (i < head.length) || (List.range i).all fun j => isAnc ops ops.size i j || tagH head j == 3) &&
 P.follows .mixedOrders && Region.noSelect ops
def tRun : List (Nat × AOper) → List AV → Tmps → Tmps
 | (_, o) :: os, x :: xs, t => tRun os xs (put t o.dst x)
 | _, _, t => t
theorem upd_self {t : Tmps} {j : Nat} {x : AV} (h : t j = x) : upd t j x = t := funext (upd_same h)
def HFact (C : Ctx) (m0 : Mem) (tag : Nat) (o : AOper) (t : Tmps) (m m' : Mem) (x : AV) : Prop :=
 (∃ j b, o.guard = some (j, b) ∧ (t j = .v (.bool !b) ∨ t j = .n) ∧ x = .n ∧ m' = m) ∨
 ((o.guard = none ∨ ∃ j b, o.guard = some (j, b) ∧ t j = .v (.bool b)) ∧
  (((tag = 0 ∨ tag = 3) ∧ ∃ m1, EO C.T t m0 o.op = some (x, m1) ∧ (m1.length = m0.length ∧ (tag = 0 → (lightD C.D t o.op || newD m0.length C.D) = true)) ∧ m' = m) ∨
   (tag = 1 ∧ hOk C.D t m o.op = true ∧ EO C.T t m o.op = some (x, m')) ∨
   ((tag ≠ 0 ∧ tag ≠ 3) ∧ tag ≠ 1 ∧ x = .u ∧ m' = m)))
theorem headOne_some {R : Type} {r : R} {C : Ctx} {m0 m : Mem} {tag : Nat} {o : AOper} {t : Tmps} {K : Tmps → Mem → Option R} (h : headOne C m0 tag o t m K = some r) :
  ∃ x m', K (put t o.dst x) m' = some r ∧ (((tag = 0 ∨ tag = 3) ∧ ∃ m1, EO C.T t m0 o.op = some (x, m1) ∧ (m1.length = m0.length ∧ (tag = 0 → (lightD C.D t o.op || newD m0.length C.D) = true)) ∧ m' = m) ∨
   (tag = 1 ∧ hOk C.D t m o.op = true ∧ EO C.T t m o.op = some (x, m')) ∨ ((tag ≠ 0 ∧ tag ≠ 3) ∧ tag ≠ 1 ∧ x = .u ∧ m' = m)) := by
 unfold headOne at h
 split at h
 ·cases hld : (lightD C.D t o.op || newD m0.length C.D) with
  | false => simp [hld] at h
  | true =>
   simp only [hld, cond_true] at h
   obtain ⟨x, m1, h1, h2⟩ := EO_of h
   cases hb : Nat.beq m1.length m0.length with
   | false => simp [hb] at h2
   | true =>
    simp only [hb, cond_true] at h2
    exact ⟨x, m, h2, .inl ⟨.inl rfl, m1, h1, ⟨Nat.eq_of_beq_eq_true hb, fun _ => rfl⟩, rfl⟩⟩
 ·cases hk : hOk C.D t m o.op with
  | false => simp [hk] at h
  | true =>
   simp only [hk, cond_true] at h
   obtain ⟨x, m1, h1, h2⟩ := EO_of h
   exact ⟨x, m1, h2, .inr (.inl ⟨rfl, rfl, h1⟩)⟩
 ·obtain ⟨x, m1, h1, h2⟩ := EO_of h
  cases hb : Nat.beq m1.length m0.length with
  | false => simp [hb] at h2
  | true =>
   simp only [hb, cond_true] at h2
   exact ⟨x, m, h2, .inl ⟨.inr rfl, m1, h1, ⟨Nat.eq_of_beq_eq_true hb, fun e => absurd e (by decide)⟩, rfl⟩⟩
 ·rename_i h0 h1 h3
  exact ⟨.u, m, h, .inr (.inr ⟨⟨h0, h3⟩, h1, rfl, rfl⟩)⟩
theorem evalHead_some {R : Type} {r : R} {C : Ctx} {m0 : Mem} (head : List (Nat × AOper)) : ∀ {t : Tmps} {m : Mem} {K : Tmps → Mem → Option R}, evalHead C m0 head t m K = some r →
  ∃ (xs : List AV) (ms : Nat → Mem), xs.length = head.length ∧ ms 0 = m ∧ K (tRun head xs t) (ms head.length) = some r ∧
   ∀ (i tag : Nat) (o : AOper), head[i]? = some (tag, o) → mayPut C.keep o.dst = true ∧ ∃ x, xs[i]? = some x ∧ HFact C m0 tag o (tRun (head.take i) (xs.take i) t) (ms i) (ms (i + 1)) x := by
 induction head with
 | nil =>
  intro t m K h
  exact ⟨[], fun _ => m, rfl, rfl, h, fun i tag o hi => by simp at hi⟩
 | cons p os ih =>
  obtain ⟨tag, o⟩ := p
  intro t m K h
  simp only [evalHead] at h
  cases hk : mayPut C.keep o.dst with
  | false => simp [hk] at h
  | true =>
   simp only [hk, cond_true] at h
   have key : ∀ (x : AV) (m1 : Mem), HFact C m0 tag o t m m1 x → evalHead C m0 os (put t o.dst x) m1 K = some r →
     ∃ (xs : List AV) (ms : Nat → Mem), xs.length = ((tag, o) :: os).length ∧ ms 0 = m ∧ K (tRun ((tag, o) :: os) xs t) (ms ((tag, o) :: os).length) = some r ∧
      ∀ (i tag' : Nat) (o' : AOper), ((tag, o) :: os)[i]? = some (tag', o') → mayPut C.keep o'.dst = true ∧ ∃ x, xs[i]? = some x ∧ HFact C m0 tag' o' (tRun (((tag, o) :: os).take i) (xs.take i) t) (ms i) (ms (i + 1)) x := by
    intro x m1 hf h1
    obtain ⟨xs, ms, a1, a2, a3, a4⟩ := ih h1
    refine ⟨x :: xs, fun i => match i with | 0 => m | i + 1 => ms i, by simp [a1], rfl, a3, fun i tag' o' hi => ?_⟩
    cases i with
    | zero =>
     simp at hi
     obtain ⟨rfl, rfl⟩ := hi
     refine ⟨hk, x, rfl, ?_⟩
     show HFact C m0 tag o t m (ms 0) x
     rw [a2]
     exact hf
    | succ i =>
     obtain ⟨b1, y, b2, b3⟩ := a4 i tag' o' (by simpa using hi)
     exact ⟨b1, y, by simpa using b2, b3⟩
   split at h
   ·rename_i hg
    obtain ⟨x, m1, h1, h2⟩ := headOne_some h
    exact key x m1 (.inr ⟨.inl hg, h2⟩) h1
   ·rename_i j b hg
    split at h
    ·rename_i v hv
     cases hvb : (v == b) with
     | true =>
      have e : v = b := by simpa using hvb
      subst e
      simp only [hvb, cond_true] at h
      rw [upd_self hv] at h
      obtain ⟨x, m1, h1, h2⟩ := headOne_some h
      exact key x m1 (.inr ⟨.inr ⟨j, v, hg, hv⟩, h2⟩) h1
     | false =>
      have e : v = !b := by cases v <;> cases b <;> simp_all
      subst e
      simp only [hvb, cond_false] at h
      rw [upd_self hv] at h
      exact key .n m (.inl ⟨j, b, hg, .inl hv, rfl, rfl⟩) h
    ·rename_i hv
     exact key .n m (.inl ⟨j, b, hg, .inr hv, rfl, rfl⟩) h
    ·simp at h
theorem distB_ok {l : List (Option Nat)} (h : distB l = true) : ∀ (i j d : Nat), l[i]? = some (some d) → l[j]? = some (some d) → i = j := by
 induction l with
 | nil => intro i j d hi; simp at hi
 | cons x l ih =>
  cases x with
  | none =>
   intro i j d hi hj
   cases i with
   | zero => simp at hi
   | succ i => cases j with
    | zero => simp at hj
    | succ j => rw [ih h i j d (by simpa using hi) (by simpa using hj)]
  | some e =>
   simp only [distB, Bool.and_eq_true, List.all_eq_true, bne_iff_ne, ne_eq] at h
   intro i j d hi hj
   cases i with
   | zero =>
    simp at hi
    subst hi
    cases j with
    | zero => rfl
    | succ j => exact absurd rfl (h.1 _ (List.mem_of_getElem? (by simpa using hj)))
   | succ i => cases j with
    | zero =>
     simp at hj
     subst hj
     exact absurd rfl (h.1 _ (List.mem_of_getElem? (by simpa using hi)))
    | succ j => rw [ih h.2 i j d (by simpa using hi) (by simpa using hj)]
section
variable {head : List (Nat × AOper)} {xs : List AV} {t0 : Tmps}
abbrev tL (head : List (Nat × AOper)) (xs : List AV) (t0 : Tmps) (i : Nat) : Tmps := tRun (head.take i) (xs.take i) t0
theorem tRun_snoc : ∀ {l : List (Nat × AOper)} {ys : List AV} {t : Tmps} {p : Nat × AOper} {x : AV}, l.length = ys.length → tRun (l ++ [p]) (ys ++ [x]) t = put (tRun l ys t) p.2.dst x := by
 intro l
 induction l with
 | nil =>
  intro ys t p x hl
  cases ys with
  | nil => rfl
  | cons => simp at hl
 | cons q l ih =>
  intro ys t p x hl
  cases ys with
  | nil => simp at hl
  | cons y ys =>
   simp only [List.cons_append, tRun]
   exact ih (by simpa using hl)
theorem tL_succ (hl : xs.length = head.length) {i : Nat} {tag : Nat} {o : AOper} {x : AV} (hi : head[i]? = some (tag, o)) (hx : xs[i]? = some x) : tL head xs t0 (i + 1) = put (tL head xs t0 i) o.dst x := by
 have h1 : head.take (i + 1) = head.take i ++ [(tag, o)] := by rw [List.take_add_one, hi]; rfl
 have h2 : xs.take (i + 1) = xs.take i ++ [x] := by rw [List.take_add_one, hx]; rfl
 unfold tL
 rw [h1, h2]
 exact tRun_snoc (by simp [hl])
theorem put_at {t : Tmps} {d : Option Nat} {x : AV} {p : Nat} : put t d x p = if d = some p then x else t p := by
 cases d with
 | none => simp [put]
 | some i =>
  simp only [put, upd, Option.some.injEq]
  cases hb : Nat.beq p i with
  | true => have := Nat.eq_of_beq_eq_true hb; subst this; simp
  | false =>
   have : ¬ i = p := fun e => by subst e; simp at hb
   simp [this]
theorem tL_spec (hl : xs.length = head.length) (hd : ∀ i j d, dstH head i = some d → dstH head j = some d → i = j) (i : Nat) (hi : i ≤ head.length) (p : Nat) :
  (∀ j x, j < i → dstH head j = some p → xs[j]? = some x → tL head xs t0 i p = x) ∧ ((∀ j, j < i → dstH head j ≠ some p) → tL head xs t0 i p = t0 p) := by
 induction i with
 | zero => exact ⟨fun j x hj => by omega, fun _ => by simp [tL, tRun]⟩
 | succ i ih =>
  obtain ⟨ih1, ih2⟩ := ih (by omega)
  have hlt : i < head.length := by omega
  obtain ⟨⟨tag, o⟩, hp⟩ : ∃ p, head[i] = p := ⟨_, rfl⟩
  have hg : head[i]? = some (tag, o) := by rw [List.getElem?_eq_getElem hlt, hp]
  have hx : xs[i]? = some xs[i] := List.getElem?_eq_getElem (by omega)
  have hdst : dstH head i = o.dst := by simp [dstH, hg]
  rw [tL_succ hl hg hx]
  simp only [put_at]
  refine ⟨fun j x hj hdj hxj => ?_, fun hno => ?_⟩
  ·by_cases h : o.dst = some p
   ·have : j = i := hd j i p hdj (by rw [hdst, h])
    subst this
    rw [if_pos h]
    rw [hx] at hxj
    exact Option.some.inj hxj
   ·rw [if_neg h]
    have hji : j ≠ i := fun e => by subst e; exact h (by rw [← hdst]; exact hdj)
    exact ih1 j x (by omega) hdj hxj
  ·rw [if_neg (by rw [← hdst]; exact hno i (by omega))]
   exact ih2 fun j hj => hno j (by omega)
noncomputable def tD (head : List (Nat × AOper)) (xs : List AV) (t0 : Tmps) (done : Nat → Bool) (p : Nat) : AV := by
 classical
 exact if h : ∃ j, dstH head j = some p then (if done h.choose then (xs[h.choose]?).getD .u else .u) else t0 p
theorem tD_dst (hd : ∀ i j d, dstH head i = some d → dstH head j = some d → i = j) {done : Nat → Bool} {j p : Nat} (hj : dstH head j = some p) : tD head xs t0 done p = if done j then (xs[j]?).getD .u else .u := by
 have h : ∃ j, dstH head j = some p := ⟨j, hj⟩
 have e : h.choose = j := hd _ _ p h.choose_spec hj
 unfold tD
 rw [dif_pos h, e]
theorem tD_none {done : Nat → Bool} {p : Nat} (h : ∀ j, dstH head j ≠ some p) : tD head xs t0 done p = t0 p := by
 unfold tD
 rw [dif_neg (fun ⟨j, hj⟩ => h j hj)]
end
end Go.Am
/- AM: what floats in a region whose order is open. Nothing is assumed. -/
namespace Go.Am
section
variable {X : Nat → Prop} {w w' : World} {Z : Nat → Prop}
theorem Rst1.frame {x : AV} {v : Value} {c : List Nat} (h : Rst1 X w Z x v c) (hz : ∀ b, Z b → w'.heap[b]? = w.heap[b]?) (hc : ∀ b ∈ c, w'.heap[b]? = w.heap[b]?) : Rst1 X w' Z x v c := by
 cases h with
 | c h => exact .c (h.frame (fun _ h => h) hz hc fun _ _ h => h)
 | b hh hf h => exact .b (hh.frame (hc _ (by simp))) (hf.frame (hc _ (by simp))) (h.frame (fun _ h => h) hz (fun b h => hc b (by simp [h])) fun _ _ h => h)
 | p h => exact .p (h.frame (fun _ h => h) hz fun _ _ h => h)
 | vw => exact .vw
theorem Rst1.lt {x : AV} {v : Value} {c : List Nat} (h : Rst1 X w Z x v c) : ∀ b ∈ c, b < w.heap.size := by
 cases h with
 | c h => exact h.lt
 | b hh hf h =>
  intro b hb
  rcases List.mem_cons.1 hb with rfl | hb
  ·exact hh.lt
  ·exact h.lt b hb
 | p h => simp
 | vw => simp
inductive PendL (X : Nat → Prop) (w : World) (Z : Nat → Prop) (val : Nat → Value) (done : Nat → Bool) : List (Nat × AOper) → Nat → List Nat → Prop
 | nil {i : Nat} : PendL X w Z val done [] i []
 | skip {p : Nat × AOper} {os : List (Nat × AOper)} {i : Nat} {cp : List Nat} (h : p.1 = 2 → done i = false) (r : PendL X w Z val done os (i + 1) cp) : PendL X w Z val done (p :: os) i cp
 | take {o : AOper} {os : List (Nat × AOper)} {i d : Nat} {zero : Row} {c cp : List Nat} (hd : o.dst = some d) (ho : o.op = .alloc zero) (hi : done i = true)
   (h : Rst1 X w Z (.b (zero.map D.up)) (val d) c) (r : PendL X w Z val done os (i + 1) cp) : PendL X w Z val done ((2, o) :: os) i (c ++ cp)
theorem PendL.lt {val : Nat → Value} {done : Nat → Bool} {os : List (Nat × AOper)} {i : Nat} {cp : List Nat} (h : PendL X w Z val done os i cp) : ∀ b ∈ cp, b < w.heap.size := by
 induction h with
 | nil => simp
 | skip _ _ ih => exact ih
 | take _ _ _ h _ ih =>
  intro b hb
  rcases List.mem_append.1 hb with hb | hb
  ·exact h.lt b hb
  ·exact ih b hb
theorem PendL.step {val val' : Nat → Value} {done done' : Nat → Bool} {j0 : Nat} {cn : List Nat} {os : List (Nat × AOper)} {i : Nat} {cp : List Nat} (h : PendL X w Z val done os i cp) (hz : ∀ b, Z b → w'.heap[b]? = w.heap[b]?) :
  (∀ b ∈ cp, w'.heap[b]? = w.heap[b]?) →
  (∀ (k : Nat) (o : AOper), os[k]? = some (2, o) → ∃ d zero, o.dst = some d ∧ o.op = .alloc zero ∧ (done (i + k) = true → done' (i + k) = true ∧ val' d = val d) ∧
   (done (i + k) = false → done' (i + k) = false ∨ (i + k = j0 ∧ done' (i + k) = true ∧ Rst1 X w' Z (.b (zero.map D.up)) (val' d) cn))) →
  ∃ cp', PendL X w' Z val' done' os i cp' ∧ ∀ b, cp'.count b ≤ (cp ++ (if i ≤ j0 then cn else [])).count b := by
 induction h with
 | nil => intro _ _; exact ⟨[], .nil, fun b => by simp⟩
 | @skip p os i cp hp r ih =>
  intro hc hk
  obtain ⟨cp', e1, e2⟩ := ih hc fun k o ho => by
   obtain ⟨d, zero, a1, a2, a3, a4⟩ := hk (k + 1) o (by simpa using ho)
   rw [show i + 1 + k = i + (k + 1) by omega]
   exact ⟨d, zero, a1, a2, a3, a4⟩
  have mono : ∀ b, (if i + 1 ≤ j0 then cn else []).count b ≤ (if i ≤ j0 then cn else []).count b := fun b => by
   split
   ·rw [if_pos (by omega)]; exact Nat.le_refl _
   ·simp
  by_cases h2 : p.1 = 2
  ·obtain ⟨t, o⟩ := p
   simp only at h2
   subst h2
   obtain ⟨d, zero, a1, a2, a3, a4⟩ := hk 0 o rfl
   rcases a4 (by simpa using hp rfl) with h | ⟨hj, hd', hr⟩
   ·refine ⟨cp', .skip (fun _ => by simpa using h) e1, fun b => ?_⟩
    have := e2 b
    have := mono b
    simp only [List.count_append] at *
    omega
   ·refine ⟨cn ++ cp', .take a1 a2 (by simpa using hd') hr e1, fun b => ?_⟩
    have := e2 b
    rw [if_neg (by omega)] at this
    rw [if_pos (by omega)]
    simp only [List.count_append, List.count_nil] at *
    omega
  ·refine ⟨cp', .skip (fun h => absurd h h2) e1, fun b => ?_⟩
   have := e2 b
   have := mono b
   simp only [List.count_append] at *
   omega
 | @take o os i d zero c cp hd ho hi h r ih =>
  intro hc hk
  obtain ⟨cp', e1, e2⟩ := ih (fun b hb => hc b (by simp [hb])) fun k o ho => by
   obtain ⟨d, zero, a1, a2, a3, a4⟩ := hk (k + 1) o (by simpa using ho)
   rw [show i + 1 + k = i + (k + 1) by omega]
   exact ⟨d, zero, a1, a2, a3, a4⟩
  obtain ⟨d', zero', a1, a2, a3, _⟩ := hk 0 o rfl
  rw [hd] at a1
  cases a1
  obtain ⟨b1, b2⟩ := a3 (by simpa using hi)
  refine ⟨c ++ cp', .take hd ho (by simpa using b1) (by rw [b2]; exact h.frame hz fun b hb => hc b (by simp [hb])) e1, fun b => ?_⟩
  have := e2 b
  have mono : (if i + 1 ≤ j0 then cn else []).count b ≤ (if i ≤ j0 then cn else []).count b := by
   split
   ·rw [if_pos (by omega)]; exact Nat.le_refl _
   ·simp
  simp only [List.count_append] at *
  omega
theorem PendL.all {val : Nat → Value} {done : Nat → Bool} {os : List (Nat × AOper)} {i : Nat} {cp : List Nat} (h : PendL X w Z val done os i cp) : (∀ k, k < os.length → done (i + k) = true) →
  RstL X w Z (floats os).2 ((floats os).1.map val) cp := by
 induction h with
 | nil => intro _; exact .nil
 | @skip p os i cp hp r ih =>
  intro hd
  have h1 := ih fun k hk => by
   have := hd (k + 1) (by simp; omega)
   rwa [show i + 1 + k = i + (k + 1) by omega]
  have h2 : p.1 ≠ 2 := fun h => by
   have := hd 0 (by simp)
   rw [Nat.add_zero, hp h] at this
   simp at this
  obtain ⟨t, o⟩ := p
  have : floats ((t, o) :: os) = floats os := by
   match t, h2 with
   | 0, _ => rfl
   | 1, _ => rfl
   | 2, h2 => exact absurd rfl h2
   | _ + 3, _ => rfl
  rw [this]
  exact h1
 | @take o os i d zero c cp hd ho hi h r ih =>
  intro hdn
  have h1 := ih fun k hk => by
   have := hdn (k + 1) (by simp; omega)
   rwa [show i + 1 + k = i + (k + 1) by omega]
  have : floats ((2, o) :: os) = (d :: (floats os).1, .b (zero.map D.up) :: (floats os).2) := by
   simp only [floats, hd, ho]
  rw [this]
  exact .cons (.o h) h1
theorem WInv.compose {w0 : World} {c0 c cp c' : List Nat} (h : WInv w0 c0 Z w (c ++ cp)) (hlt : ∀ b ∈ cp, b < w.heap.size) (h' : WInv w c Z w' c') : WInv w0 c0 Z w' (c' ++ cp) := by
 have hcp : ∀ b ∈ cp, b ∉ c ∧ b ∉ c' := fun b hb => by
  have h1 := h.cnt b
  simp only [List.count_append] at h1
  have h2 := List.count_pos_iff.2 hb
  have h3 : b ∉ c := fun h => by have := List.count_pos_iff.2 h; omega
  refine ⟨h3, fun h4 => ?_⟩
  rcases h'.own b h4 with h5 | h5
  ·exact h3 h5
  ·have := hlt b hb
   omega
 refine ⟨fun b => ?_, fun b hb hm => ?_, h.zlt, Nat.le_trans h.size h'.size, fun b hb => ?_, fun b hb hn => ?_, h.mute.trans h'.mute, h.stay.trans h'.stay⟩
 ·rw [List.count_append]
  by_cases hb : b ∈ cp
  ·have h1 := List.count_eq_zero.2 (hcp b hb).2
   have h2 := h.cnt b
   simp only [List.count_append] at h2
   omega
  ·have := List.count_eq_zero.2 hb
   have := h'.cnt b
   omega
 ·rcases List.mem_append.1 hm with hm | hm
  ·exact h'.dis b hb hm
  ·exact h.dis b hb (by simp [hm])
 ·rcases List.mem_append.1 hb with hb | hb
  ·rcases h'.own b hb with h1 | h1
   ·exact h.own b (by simp [h1])
   ·exact .inr (Nat.le_trans h.size h1)
  ·exact h.own b (by simp [hb])
 ·have h1 : b ∉ c := fun hb' => by
   rcases h.own b (by simp [hb']) with h1 | h1
   ·exact hn h1
   ·omega
  rw [h'.frame b (Nat.lt_of_lt_of_le hb h.size) h1, h.frame b hb hn]
theorem WInv.now {w0 : World} {c0 c : List Nat} (h : WInv w0 c0 Z w c) : WInv w c Z w c :=
 ⟨h.cnt, h.dis, fun b hb => ⟨Nat.lt_of_lt_of_le (h.zlt b hb).1 h.size, h.dis b hb⟩, Nat.le_refl _, fun b hb => .inl hb, fun _ _ _ => rfl, Mute.refl w, Stay.refl w⟩
end
section
variable {ops : Array Oper} {listed : Array Bool}
theorem bindsB_ok {i j : Nat} {o : Oper} (ho : ops[i]? = some o) : bindsB ops i j = true ↔ ∃ e ∈ o.after, Region.binds .any e = true ∧ e.on = j := by
 unfold bindsB
 rw [ho]
 simp only [List.any_eq_true, Bool.and_eq_true, beq_iff_eq]
 constructor
 ·rintro ⟨e, h1, h2⟩; exact ⟨e, by simpa using h1, h2⟩
 ·rintro ⟨e, h1, h2⟩; exact ⟨e, by simpa using h1, h2⟩
theorem anc_listed (hcl : ∀ i j, listed.getD i false = true → bindsB ops i j = true → listed.getD j false = true) (f : Nat) : ∀ {i j : Nat}, (∀ k, bindsB ops i k = true → listed.getD k false = true) → isAnc ops f i j = true → listed.getD j false = true := by
 induction f with
 | zero => intro i j _ h; simp [isAnc] at h
 | succ f ih =>
  intro i j hd h
  simp only [isAnc, Bool.or_eq_true, List.any_eq_true, Bool.and_eq_true] at h
  rcases h with h | ⟨k, _, h1, h2⟩
  ·exact hd j h
  ·exact ih (fun l hl => hcl k l (hd k h1) hl) h2
end
section
variable {P : Program} {ops : Array Oper} {Q : Exit → Act → World → Prop}
theorem getD_true_false {listed : Array Bool} {j : Nat} (h : j < listed.size) : listed.getD j true = listed.getD j false := by
 simp [Array.getD_eq_getD_getElem?, Array.getElem?_eq_getElem h]
theorem wpAny_of_list (he : edgesB ops = true) (n : Nat) : ∀ (fuel : Nat) (listed : Array Bool) (a : Act) (w : World) (i : Nat), n = ops.size - i → n ≤ fuel → i ≤ ops.size → listed.size = ops.size → (∀ j, j < ops.size → listed.getD j false = decide (j < i)) →
  (∀ k, i ≤ k → k < ops.size → ∀ j, i ≤ j → j < k → isAnc ops ops.size k j = true) → wpList P ops Q (ops.toList.drop i) a w → wpAny P .any ops Q fuel listed a w := by
 induction n with
 | zero =>
  intro fuel listed a w i hn _ hi hs hl _ h
  have hie : i = ops.size := by omega
  have hr : Region.ready .any ops listed = [] := by
   rw [List.eq_nil_iff_forall_not_mem]
   intro j hj
   obtain ⟨h1, oj, hoj, _⟩ := mem_ready.1 hj
   have hlt : j < ops.size := (Array.getElem?_eq_some_iff.1 hoj).1
   rw [getD_true_false (by omega), hl j hlt] at h1
   simp at h1
   omega
  rw [List.drop_of_length_le (by simp [hie])] at h
  cases fuel with
  | zero => exact ⟨hr, h⟩
  | succ fuel => exact ⟨fun _ => h, by rw [hr]; simp⟩
 | succ n ih =>
  intro fuel listed a w i hn hf hi hs hl hanc h
  have hlt : i < ops.size := by omega
  have ho : ops[i]? = some ops[i] := Array.getElem?_eq_getElem hlt
  have hready : i ∈ Region.ready .any ops listed := by
   refine mem_ready.2 ⟨?_, ops[i], ho, fun e hem hb => ?_⟩
   ·rw [getD_true_false (by omega), hl i hlt]; simp
   ·have h1 := List.all_eq_true.1 he i (by simp [hlt])
    rw [ho] at h1
    have h2 := List.all_eq_true.1 h1 e (by simpa using hem)
    rw [hb] at h2
    have h3 : e.on < i := by simpa using h2
    rw [hl e.on (by omega)]
    simpa using h3
  cases fuel with
  | zero => omega
  | succ fuel =>
   refine ⟨fun h0 => by rw [h0] at hready; simp at hready, fun j hj => ?_⟩
   obtain ⟨h1, oj, hoj, hall⟩ := mem_ready.1 hj
   have hjlt : j < ops.size := (Array.getElem?_eq_some_iff.1 hoj).1
   have hji : j = i := by
    rw [getD_true_false (by omega), hl j hjlt] at h1
    have hge : i ≤ j := by simpa using h1
    rcases Nat.eq_or_lt_of_le hge with h | h
    ·exact h.symm
    ·exfalso
     have hcl : ∀ k l, listed.getD k false = true → bindsB ops k l = true → listed.getD l false = true := fun k l hk hb => by
      by_cases hkl : k < ops.size
      ·have hko : ops[k]? = some ops[k] := Array.getElem?_eq_getElem hkl
       obtain ⟨e, e1, e2, e3⟩ := (bindsB_ok hko).1 hb
       have q1 := List.all_eq_true.1 he k (by simp [hkl])
       rw [hko] at q1
       have q2 := List.all_eq_true.1 q1 e (by simpa using e1)
       rw [e2] at q2
       have q3 : e.on < k := by simpa using q2
       rw [hl k hkl] at hk
       have : k < i := by simpa using hk
       rw [hl l (by omega)]
       simp; omega
      ·simp [Array.getD_eq_getD_getElem?, Array.getElem?_eq_none (by omega : listed.size ≤ k)] at hk
     have := anc_listed hcl ops.size (fun k hb => by
      obtain ⟨e, e1, e2, e3⟩ := (bindsB_ok hoj).1 hb
      subst e3
      exact hall e e1 e2) (hanc j (by omega) hjlt i (Nat.le_refl _) h)
     rw [hl i hlt] at this
     simp at this
   subst hji
   have hdrop : ops.toList.drop j = ops[j] :: ops.toList.drop (j + 1) := by
    rw [List.drop_eq_getElem_cons (by simpa using hlt)]
    simp
   rw [hdrop] at h
   have step : ∀ a w, wpList P ops Q (ops.toList.drop (j + 1)) a w → wpAny P .any ops Q fuel (listed.setIfInBounds j true) a w := fun a w h => by
    refine ih fuel _ a w (j + 1) (by omega) (by omega) (by omega) (by simp [hs]) (fun k hk => ?_) (fun k hk hkl l hl' => hanc k (by omega) hkl l (by omega)) h
    by_cases hkj : k = j
    ·subst hkj
     simp [Array.getD_eq_getD_getElem?, hs, hlt]
    ·have := hl k hk
     simp only [Array.getD_eq_getD_getElem?, Array.getElem?_setIfInBounds, Ne.symm hkj, if_false] at this ⊢
     rw [this]
     have : (k < j) ↔ (k < j + 1) := by omega
     simp [this]
   unfold wpOp
   rw [ho]
   simp only
   simp only [wpList] at h
   split
   ·rename_i hw
    rw [if_pos hw] at h
    exact h.imp (fun h => Oper.wp_mono step h) id
   ·rename_i hw
    rw [if_neg hw] at h
    exact step _ _ h
end
end Go.Am
/- AM: a region whose order is open comes to what it comes to in the order of the text. Nothing is assumed. -/
namespace Go.Am
def unl (listed : Array Bool) : Nat → Nat
 | 0 => 0
 | k + 1 => unl listed k + (if listed.getD k false = true then 0 else 1)
theorem unl_same {l l' : Array Bool} {n : Nat} (h : ∀ j, j < n → l'.getD j false = l.getD j false) : unl l' n = unl l n := by
 induction n with
 | zero => rfl
 | succ n ih => simp only [unl]; rw [ih fun j hj => h j (by omega), h n (by omega)]
theorem set_getD {l : Array Bool} {i j : Nat} (hi : i < l.size) : (l.setIfInBounds i true).getD j false = if j = i then true else l.getD j false := by
 by_cases h : j = i
 ·subst h; simp [Array.getD_eq_getD_getElem?, hi]
 ·simp [Array.getD_eq_getD_getElem?, Array.getElem?_setIfInBounds, Ne.symm h, h]
theorem unl_set {l : Array Bool} {i n : Nat} (hi : i < l.size) (hin : i < n) (hu : l.getD i false = false) : unl (l.setIfInBounds i true) n + 1 = unl l n := by
 induction n with
 | zero => omega
 | succ n ih =>
  simp only [unl]
  by_cases h : i = n
  ·subst h
   have e1 : unl (l.setIfInBounds i true) i = unl l i := unl_same fun j hj => by rw [set_getD hi]; exact if_neg (by omega)
   have e2 : (l.setIfInBounds i true).getD i false = true := by rw [set_getD hi]; exact if_pos rfl
   rw [e1, e2, hu]
   simp
  ·have e2 : (l.setIfInBounds i true).getD n false = l.getD n false := by rw [set_getD hi]; exact if_neg fun e => h e.symm
   rw [e2]
   have := ih (by omega)
   omega
theorem unl_le (l : Array Bool) (n : Nat) : unl l n ≤ n := by
 induction n with
 | zero => exact Nat.le_refl _
 | succ n ih => simp only [unl]; split <;> omega
section
variable {P : Program} {sg : Sigs} {N : Nat} {args : Nat → Value} {w0 : World} {c0 : List Nat} {Z : Nat → Prop} {C : Ctx}
variable {ops : Array Oper} {head : List (Nat × AOper)} {tail : List AOper} {xs : List AV} {ms : Nat → Mem} {t0 : Tmps} {m0 : Mem}
structure DInv (P : Program) (sg : Sigs) (N : Nat) (args : Nat → Value) (w0 : World) (c0 : List Nat) (Z : Nat → Prop) (C : Ctx) (head : List (Nat × AOper)) (xs : List AV) (ms : Nat → Mem) (t0 : Tmps) (listed : Array Bool) (a : Act) (w : World)
  (hs : List Hd) (c cp : List Nat) (k : Nat) : Prop where
 inv : SInv sg.X C.keep N args w0 c0 Z hs c ⟨tD head xs t0 (fun j => listed.getD j false), ms k⟩ a w
 le : k ≤ head.length
 before : ∀ j, j < k → tagH head j = 1 → listed.getD j false = true
 behind : ∀ j, k ≤ j → j < head.length → tagH head j = 1 → listed.getD j false = false
 pend : PendL sg.X w Z (fun d => a.tmps.getD d undef) (fun j => listed.getD j false) head 0 cp
 win : WInv w0 c0 Z w (c ++ cp)
structure Facts (C : Ctx) (m0 : Mem) (head : List (Nat × AOper)) (xs : List AV) (ms : Nat → Mem) (t0 : Tmps) : Prop where
 len : xs.length = head.length
 zero : ms 0 = m0
 fact : ∀ (i tag : Nat) (o : AOper), head[i]? = some (tag, o) → mayPut C.keep o.dst = true ∧ ∃ x, xs[i]? = some x ∧ HFact C m0 tag o (tL head xs t0 i) (ms i) (ms (i + 1)) x
structure Static (P : Program) (sg : Sigs) (N : Nat) (ops : Array Oper) (head : List (Nat × AOper)) (tail : List AOper) : Prop where
 size : ops.size = head.length + tail.length
 edges : edgesB ops = true
 dist : ∀ i j d, dstH head i = some d → dstH head j = some d → i = j
 headC : ∀ i, i < head.length → chkHead P sg N ops head i = true
 tailC : chkOpers P sg N ops (ops.toList.drop head.length) tail = true
 anc : ∀ i, head.length ≤ i → i < ops.size → ∀ j, j < i → isAnc ops ops.size i j = true ∨ tagH head j = 3
 mixed : P.follows .mixedOrders = true
 nosel : Region.noSelect ops = true
theorem chkDraw_ok (h : chkDraw P sg N ops head tail = true) : Static P sg N ops head tail := by
 simp only [chkDraw, Bool.and_eq_true, beq_iff_eq, List.all_eq_true, List.mem_range, Bool.or_eq_true, decide_eq_true_eq] at h
 obtain ⟨⟨⟨⟨⟨⟨⟨h1, h2⟩, h3⟩, h4⟩, h5⟩, h6⟩, h7⟩, h8⟩ := h
 refine ⟨h1, h2, fun i j d hi hj => ?_, h4, h5, fun i hi hlt j hj => ?_, h7, h8⟩
 ·have key : ∀ {i : Nat}, dstH head i = some d → (head.map (·.2.dst))[i]? = some (some d) := fun {i} hi => by
   unfold dstH at hi
   rw [List.getElem?_map]
   cases hh : head[i]? with
   | none => simp [hh] at hi
   | some p => simp [hh] at hi; simp [hi]
  exact distB_ok h3 i j d (key hi) (key hj)
 ·rcases h6 i hlt with h | h
  ·omega
  ·rcases h j hj with h | h
   ·exact .inl h
   ·exact .inr h
theorem tag_of {i tag : Nat} {o : AOper} (h : head[i]? = some (tag, o)) : tagH head i = tag := by simp [tagH, h]
theorem dst_of {i tag : Nat} {o : AOper} (h : head[i]? = some (tag, o)) : dstH head i = o.dst := by simp [dstH, h]
theorem ms_light (hf : Facts C m0 head xs ms t0) (k : Nat) : ∀ (n : Nat), k + n ≤ head.length → (∀ j, k ≤ j → j < k + n → tagH head j ≠ 1) → ms (k + n) = ms k := by
 intro n
 induction n with
 | zero => intro _ _; rfl
 | succ n ih =>
  intro hle h
  have h1 := ih (by omega) fun j hj hj' => h j hj (by omega)
  have hlt : k + n < head.length := by omega
  obtain ⟨⟨tag, o⟩, hp⟩ : ∃ p, head[k + n]? = some p := ⟨_, List.getElem?_eq_getElem hlt⟩
  obtain ⟨_, x, _, hx⟩ := hf.fact _ _ _ hp
  have ht : tag ≠ 1 := by rw [← tag_of hp]; exact h _ (by omega) (by omega)
  rw [← Nat.add_assoc, ← h1]
  rcases hx with ⟨_, _, _, _, _, h2⟩ | ⟨_, ⟨_, _, _, _, h2⟩ | ⟨h2, _⟩ | ⟨_, _, _, h2⟩⟩
  ·exact h2
  ·exact h2
  ·exact absurd h2 ht
  ·exact h2
theorem ms_prefix (hst : Static P sg N ops head tail) (hf : Facts C m0 head xs ms t0) : ∀ (i : Nat), i ≤ head.length → Agree C.D m0 (ms i) := by
 intro i
 induction i with
 | zero => intro _; rw [hf.zero]; exact Agree.refl
 | succ i ih =>
  intro hle
  have hl := ih (by omega)
  obtain ⟨⟨tag, o⟩, hp⟩ : ∃ p, head[i]? = some p := ⟨_, List.getElem?_eq_getElem (by omega)⟩
  obtain ⟨_, x, _, hx⟩ := hf.fact _ _ _ hp
  rcases hx with ⟨_, _, _, _, _, h2⟩ | ⟨_, ⟨_, _, _, _, h2⟩ | ⟨h2, h3, h4⟩ | ⟨_, _, _, h2⟩⟩
  ·rw [h2]; exact hl
  ·rw [h2]; exact hl
  ·subst h2
   have hc := hst.headC i (by omega)
   unfold chkHead at hc
   rw [hp] at hc
   have hfz : ∀ f modes fz res ys, o.op = .call f modes fz res ys → fz = false := by
    split at hc
    ·rename_i tag ao o' e1 _
     cases e1
     simp only [Bool.and_eq_true] at hc
     have h5 := hc.1.2
     simp only [tagOk, Bool.and_eq_true] at h5
     intro f modes fz res ys he
     rw [he] at h5
     simpa using h5.1
    ·simp at hc
   exact hl.trans (heavy_ext h3 hfz h4)
  ·rw [h2]; exact hl
theorem put_get_ne {a : Act} {d : Option Tmp} {v : Value} {p : Nat} (h : d ≠ some p) : (a.put d v).tmps.getD p undef = a.tmps.getD p undef := by
 cases d with
 | none => rfl
 | some i =>
  have : i ≠ p := fun e => h (by rw [e])
  simp [Act.put, Array.getD_eq_getD_getElem?, Array.getElem?_setIfInBounds, this]
theorem opd_rel {hs : List Hd} {w : World} {Z : Nat → Prop} {t : Tmps} {a : Act} {x : Opd} {y : Operand} (h : chkOpd sg x y = true)
  (hr : ∀ p ∈ opdT x, ARel sg.X w Z hs (t p) (a.tmps.getD p undef)) : ARel sg.X w Z hs (ev t x) (a.eval y) := by
 unfold chkOpd at h
 split at h
 ·simp at h; subst h; exact hr _ (by simp [opdT])
 ·exact chkC_ok h
 ·simp [chkX] at h
  obtain ⟨rfl, hx⟩ := h
  exact .f hx (by simpa using ARelL.nil)
 ·simp at h
theorem free_ok {hs : List Hd} {w : World} {Z : Nat → Prop} {T : Table} {t : Tmps} {m m1 : Mem} {a : Act} {op : AOp} {o : Oper} {x : AV} (hk : freeK op = true) (hc : chkOp P sg op o.op = true) (h : EO T t m op = some (x, m1))
  (hr : ∀ p ∈ readsOf op, ARel sg.X w Z hs (t p) (a.tmps.getD p undef)) : ∃ v, ARel sg.X w Z hs x v ∧ ∀ w2, (execOp a.eval o).run P w2 = .ok (.value v) w2 := by
 unfold freeK at hk
 split at hk
 ·rename_i kk nn
  simp only [EO, evalOp, ev] at h
  have h5 := hr kk (by simp [readsOf, opdT])
  generalize hop : o.op = op' at hc
  cases op' <;> simp only [chkOp] at hc <;> try (simp at hc; done)
  rename_i x' n'
  simp only [Bool.and_eq_true, beq_iff_eq] at hc
  obtain ⟨hcx, rfl⟩ := hc
  cases x' <;> simp only [chkOpd] at hcx <;> try (simp at hcx; done)
  simp only [beq_iff_eq] at hcx
  subst hcx
  split at h
  ·rename_i ys hys
   rw [hys] at h5
   generalize hu' : a.tmps.getD kk undef = u at h5
   cases h5 with
   | @t _ vs h5 =>
    unfold ret1 at h
    split at h
    ·rename_i y hy
     simp only [mk2, Option.some.injEq, Prod.mk.injEq] at h
     obtain ⟨rfl, rfl⟩ := h
     obtain ⟨v, hv1, hv2⟩ := h5.get hy
     have hv1' : vs[nn]? = some v := by simpa using hv1
     refine ⟨v, hv2, fun w2 => ?_⟩
     have he : a.eval (.tmp kk) = .tuple vs := hu'
     simp only [execOp, hop, he, Instr.extract]
     simp [hv1']
    ·simp at h
  ·simp at h
 ·rename_i kk
  simp only [EO, evalOp, mk2, Option.some.injEq, Prod.mk.injEq] at h
  obtain ⟨rfl, rfl⟩ := h
  generalize hop : o.op = op' at hc
  cases op' <;> simp only [chkOp] at hc <;> try (simp at hc; done)
  all_goals
   rename_i y'
   exact ⟨_, opd_rel hc (fun p hp => hr p (by simpa [readsOf] using hp)), fun w2 => by simp [execOp, hop, Sem.run, pure]⟩
 ·rename_i bop bx bY
  simp only [EO, evalOp] at h
  generalize hop : o.op = op' at hc
  cases op' <;> simp only [chkOp] at hc <;> try (simp at hc; done)
  rename_i op2 t1 x' y' t2
  simp only [Bool.and_eq_true, beq_iff_eq] at hc
  obtain ⟨⟨rfl, hx⟩, hy⟩ := hc
  have h1 := opd_rel hx (fun p hp => hr p (by simp [readsOf, hp]))
  have h2 := opd_rel hy (fun p hp => hr p (by simp [readsOf, hp]))
  split at h
  ·rename_i va vb e1 e2
   rw [e1] at h1
   rw [e2] at h2
   have f1 := val_of h1
   have f2 := val_of h2
   have key : ScS va → ∀ z, Sc z → (∀ w, (binOp bop t1 va vb).run P w = .ok z w) → x = .v z → ∃ v, ARel sg.X w Z hs x v ∧ ∀ w2, (execOp a.eval o).run P w2 = .ok (.value v) w2 := by
    intro sa z hz hb hxz
    subst hxz
    exact ⟨z, .v hz, fun w2 => by simp [execOp, hop, f1, f2, run_eqGuard_sc sa, hb]⟩
   cases va <;> cases vb <;> simp only [binV] at h <;> try (simp at h; done)
   ·cases hs : isShl bop with
    | true =>
     rw [hs] at h
     obtain ⟨z, g1, g2, g3⟩ := run_shl (P := P) (t := t1) (K := fun z => mk2 (AV.v z) m) hs h
     simp only [mk2, Option.some.injEq, Prod.mk.injEq] at g1
     exact key trivial z g2 g3 g1.1.symm
    | false =>
     rw [hs] at h
     simp only [cond_false] at h
     unfold sameKind at h
     split at h
     ·rename_i e
      subst e
      obtain ⟨z, g1, g2, g3⟩ := run_binI (P := P) (t := t1) h
      simp only [mk2, Option.some.injEq, Prod.mk.injEq] at g1
      exact key trivial z g2 g3 g1.1.symm
     ·simp at h
   ·obtain ⟨z, g1, g2, g3⟩ := run_binS (P := P) (t := t1) h
    simp only [mk2, Option.some.injEq, Prod.mk.injEq] at g1
    exact key trivial z g2 g3 g1.1.symm
  ·simp at h
 ·simp at hk
theorem head_ok (hT : GoodAt P sg w0 Z C.T) (hst : Static P sg N ops head tail) (hf : Facts C m0 head xs ms t0) {Q : Exit → Act → World → Prop}
  (hQ : ∀ c a w, ¬ Q (.panic c) a w) (hend : ∀ (hs : List Hd) (c : List Nat) (a : Act) (w : World), SInv sg.X C.keep N args w0 c0 Z hs c (wakeAVs (tRun head xs t0) (ms head.length) (floats head).1 (floats head).2) a w → wpList P ops Q (ops.toList.drop head.length) a w) :
  ∀ (fuel : Nat) (listed : Array Bool) (a : Act) (w : World) (hs : List Hd) (c cp : List Nat) (k : Nat), unl listed ops.size ≤ fuel → listed.size = ops.size → (∀ j, head.length ≤ j → j < ops.size → listed.getD j false = false) →
   (∀ i j, listed.getD i false = true → bindsB ops i j = true → listed.getD j false = true) → DInv P sg N args w0 c0 Z C head xs ms t0 listed a w hs c cp k → wpAny P .any ops Q fuel listed a w := by
 have hsz := hst.size
 have htanc : ∀ i, head.length ≤ i → i < ops.size → ∀ j, head.length ≤ j → j < i → isAnc ops ops.size i j = true := fun i hi hlt j hj hji => by
  rcases hst.anc i hi hlt j hji with h | h
  ·exact h
  ·simp [tagH, List.getElem?_eq_none hj] at h
 intro fuel
 induction fuel with
 | zero =>
  intro listed a w hs c cp k hu hs' htl hcl hd
  
  have all : ∀ n, n ≤ ops.size → unl listed n ≤ 0 → ∀ j, j < n → listed.getD j false = true := by
   intro n
   induction n with
   | zero => intro _ _ j hj; omega
   | succ n ih =>
    intro hn hu j hj
    simp only [unl] at hu
    have h1 : listed.getD n false = true := by
     by_cases h : listed.getD n false = true
     ·exact h
     ·rw [if_neg h] at hu; omega
    by_cases h : j = n
    ·subst h; exact h1
    ·exact ih (by omega) (by omega) j (by omega)
  have hall := all ops.size (Nat.le_refl _) hu
  have htail : tail.length = 0 := by
   rcases Nat.eq_zero_or_pos tail.length with h | h
   ·exact h
   ·have h1 := htl head.length (Nat.le_refl _) (by omega)
    rw [hall _ (by omega)] at h1
    simp at h1
  have hin := hd.inv
  have hk : ms k = ms head.length := by
   have := ms_light hf k (head.length - k) (by have := hd.le; omega) fun j hj hj' ht => by
    have h1 := hd.behind j hj (by have := hd.le; omega) ht
    rw [hall j (by omega)] at h1
    simp at h1
   rw [show k + (head.length - k) = head.length by have := hd.le; omega] at this
   exact this.symm
  have hpend := hd.pend.all fun j hj => by rw [Nat.zero_add]; exact hall j (by omega)
  obtain ⟨hs2, c2, e1, e2, e3⟩ := wakeAVs_ok (f := fun d => a.tmps.getD d undef) (floats head).1 hin.mem hin.tmp hpend
  have hfin : tD head xs t0 (fun j => listed.getD j false) = tRun head xs t0 := funext fun p => by
   have hL := tL_spec (t0 := t0) hf.len hst.dist head.length (Nat.le_refl _) p
   simp only [tL, List.take_length] at hL
   rw [← hf.len, List.take_length] at hL
   by_cases h : ∃ j, dstH head j = some p
   ·obtain ⟨j, hj⟩ := h
    have hjlt : j < head.length := by
     rcases Nat.lt_or_ge j head.length with h | h
     ·exact h
     ·simp [dstH, List.getElem?_eq_none h] at hj
    obtain ⟨xj, hx⟩ : ∃ y, xs[j]? = some y := ⟨_, List.getElem?_eq_getElem (by rw [hf.len]; exact hjlt)⟩
    rw [tD_dst hst.dist hj, hall j (by omega), hL.1 j _ (by rw [hf.len]; exact hjlt) hj hx, hx]
    rfl
   ·rw [tD_none fun j hj => h ⟨j, hj⟩, hL.2 fun j _ hj => h ⟨j, hj⟩]
  rw [hfin, hk] at e1 e2
  exact wpAny_of_list hst.edges (ops.size - head.length) 0 listed a w head.length rfl (by omega) (by omega) hs' (fun j hj => by rw [hall j hj]; simp; omega) htanc
   (hend hs2 c2 a w ⟨e1, e2, hd.win.less e3, hin.defers, hin.size, hin.keep⟩)
 | succ fuel ih =>
  intro listed a w hs c cp k hu hs' htl hcl hd
  by_cases hdone : ∀ j, j < head.length → listed.getD j false = true
  ·
   have hin := hd.inv
   have hk : ms k = ms head.length := by
    have := ms_light hf k (head.length - k) (by have := hd.le; omega) fun j hj hj' ht => by
     have h1 := hd.behind j hj (by have := hd.le; omega) ht
     rw [hdone j (by have := hd.le; omega)] at h1
     simp at h1
    rw [show k + (head.length - k) = head.length by have := hd.le; omega] at this
    exact this.symm
   have hpend := hd.pend.all fun j hj => by rw [Nat.zero_add]; exact hdone j hj
   obtain ⟨hs2, c2, e1, e2, e3⟩ := wakeAVs_ok (f := fun d => a.tmps.getD d undef) (floats head).1 hin.mem hin.tmp hpend
   have hfin : tD head xs t0 (fun j => listed.getD j false) = tRun head xs t0 := funext fun p => by
    have hL := tL_spec (t0 := t0) hf.len hst.dist head.length (Nat.le_refl _) p
    simp only [tL, List.take_length] at hL
    rw [← hf.len, List.take_length] at hL
    by_cases h : ∃ j, dstH head j = some p
    ·obtain ⟨j, hj⟩ := h
     have hjlt : j < head.length := by
      rcases Nat.lt_or_ge j head.length with h | h
      ·exact h
      ·simp [dstH, List.getElem?_eq_none h] at hj
     obtain ⟨xj, hx⟩ : ∃ y, xs[j]? = some y := ⟨_, List.getElem?_eq_getElem (by rw [hf.len]; exact hjlt)⟩
     rw [tD_dst hst.dist hj, hdone j hjlt, hL.1 j _ (by rw [hf.len]; exact hjlt) hj hx, hx]
     rfl
    ·rw [tD_none fun j hj => h ⟨j, hj⟩, hL.2 fun j _ hj => h ⟨j, hj⟩]
   rw [hfin, hk] at e1 e2
   have hfu : ops.size - head.length ≤ fuel + 1 := by
    have key : ∀ n, head.length ≤ n → n ≤ ops.size → n - head.length ≤ unl listed n := by
     intro n
     induction n with
     | zero => intro _ _; omega
     | succ n ihn =>
      intro h1 h2
      rcases Nat.lt_or_ge n head.length with h3 | h3
      ·omega
      ·have := ihn h3 (by omega)
       simp only [unl]
       rw [htl n h3 (by omega)]
       simp
       omega
    exact Nat.le_trans (key ops.size (by omega) (Nat.le_refl _)) hu
   refine wpAny_of_list hst.edges (ops.size - head.length) (fuel + 1) listed a w head.length rfl hfu (by omega) hs' (fun j hj => ?_) htanc
    (hend hs2 c2 a w ⟨e1, e2, hd.win.less e3, hin.defers, hin.size, hin.keep⟩)
   rcases Nat.lt_or_ge j head.length with h | h
   ·rw [hdone j h]; simp [h]
   ·rw [htl j h hj]; simp; omega
  ·
   have hex : ∃ q, q < head.length ∧ listed.getD q false = false ∧ ∀ j, j < q → listed.getD j false = true := by
    have key : ∀ n, n ≤ head.length → (∀ j, j < n → listed.getD j false = true) ∨ ∃ q, q < n ∧ listed.getD q false = false ∧ ∀ j, j < q → listed.getD j false = true := by
     intro n
     induction n with
     | zero => intro _; exact .inl fun j hj => by omega
     | succ n ihn =>
      intro hn
      rcases ihn (by omega) with h | ⟨q, h1, h2, h3⟩
      ·by_cases h4 : listed.getD n false = true
       ·exact .inl fun j hj => by
         rcases Nat.lt_or_ge j n with h5 | h5
         ·exact h j h5
         ·have : j = n := by omega
          subst this
          exact h4
       ·exact .inr ⟨n, by omega, by simpa using h4, h⟩
      ·exact .inr ⟨q, by omega, h2, h3⟩
    rcases key head.length (Nat.le_refl _) with h | h
    ·exact absurd h hdone
    ·exact h
   obtain ⟨q, hq, hqu, hqb⟩ := hex
   have hqready : q ∈ Region.ready .any ops listed := by
    have hlt : q < ops.size := by omega
    have ho : ops[q]? = some ops[q] := Array.getElem?_eq_getElem hlt
    refine mem_ready.2 ⟨by rw [getD_true_false (by omega)]; exact hqu, ops[q], ho, fun e hem hb => ?_⟩
    have h1 := List.all_eq_true.1 hst.edges q (by simp [hlt])
    rw [ho] at h1
    have h2 := List.all_eq_true.1 h1 e (by simpa using hem)
    rw [hb] at h2
    exact hqb e.on (by simpa using h2)
   have main : ∀ i, i ∈ Region.ready .any ops listed → i < head.length → (tagH head i ≠ 3 → wpOp P ops Q i (wpAny P .any ops Q fuel (listed.setIfInBounds i true)) a w) ∧
     (tagH head i = 3 → ∃ o v, ops[i]? = some o ∧ freeB ops i = true ∧ Yields P ops o v a ∧ wpAny P .any ops Q fuel (listed.setIfInBounds i true) (a.put o.dst v) w) := by
    intro i hi hih
    obtain ⟨hun, o, ho, hall⟩ := mem_ready.1 hi
    have hilt : i < ops.size := (Array.getElem?_eq_some_iff.1 ho).1
    have hiu : listed.getD i false = false := by rw [← getD_true_false (by omega)]; exact hun
    have hdir : ∀ j, bindsB ops i j = true → listed.getD j false = true := fun j hb => by
     obtain ⟨e, e1, e2, e3⟩ := (bindsB_ok ho).1 hb
     subst e3
     exact hall e e1 e2
    obtain ⟨⟨tag, ao⟩, hp⟩ : ∃ p, head[i]? = some p := ⟨_, List.getElem?_eq_getElem hih⟩
    obtain ⟨hmay, x, hx, hfact⟩ := hf.fact _ _ _ hp
    have hchk := hst.headC i hih
    unfold chkHead at hchk
    rw [hp, ho] at hchk
    simp only [Bool.and_eq_true, List.all_eq_true, List.mem_range, Bool.or_eq_true, bne_iff_ne, ne_eq] at hchk
    obtain ⟨⟨⟨⟨hcd, hcg⟩, hco⟩, htag⟩, hreads⟩ := hchk
    obtain ⟨hde, hdl⟩ := chkDst_ok hcd
    have hin := hd.inv
    
    have hagree : ∀ p ∈ readsOf ao.op ++ guardT ao.guard, tD head xs t0 (fun j => listed.getD j false) p = tL head xs t0 i p := fun p hpm => by
     have hL := tL_spec (t0 := t0) hf.len hst.dist i (by omega) p
     by_cases h : ∃ j, dstH head j = some p
     ·obtain ⟨j, hj⟩ := h
      have hjlt : j < head.length := by
       rcases Nat.lt_or_ge j head.length with h | h
       ·exact h
       ·simp [dstH, List.getElem?_eq_none h] at hj
      rcases hreads p hpm j hjlt with h | h
      ·exact absurd hj h
      ·have hjl := hdir j h.1
       obtain ⟨e, e1, e2, e3⟩ := (bindsB_ok ho).1 h.1
       have h1 := List.all_eq_true.1 hst.edges i (by simp [hilt])
       rw [ho] at h1
       have h2 := List.all_eq_true.1 h1 e (by simpa using e1)
       rw [e2] at h2
       have hji : j < i := by rw [← e3]; simpa using h2
       obtain ⟨xj, hxj⟩ : ∃ y, xs[j]? = some y := ⟨_, List.getElem?_eq_getElem (by rw [hf.len]; exact hjlt)⟩
       rw [tD_dst hst.dist hj, hjl, hL.1 j _ hji hj hxj, hxj]
       rfl
     ·rw [tD_none fun j hj => h ⟨j, hj⟩, hL.2 fun j _ hj => h ⟨j, hj⟩]
    have hset : ∀ j, (listed.setIfInBounds i true).getD j false = if j = i then true else listed.getD j false := fun j => set_getD (by omega)
    have htD : ∀ p, tD head xs t0 (fun j => (listed.setIfInBounds i true).getD j false) p = put (tD head xs t0 (fun j => listed.getD j false)) ao.dst x p := fun p => by
     rw [put_at]
     by_cases h : ao.dst = some p
     ·rw [if_pos h, tD_dst hst.dist (j := i) (by rw [dst_of hp, h]), hset, if_pos rfl, hx]
      rfl
     ·rw [if_neg h]
      by_cases h2 : ∃ j, dstH head j = some p
      ·obtain ⟨j, hj⟩ := h2
       have hji : j ≠ i := fun e => by subst e; exact h (by rw [← dst_of hp]; exact hj)
       rw [tD_dst hst.dist hj, tD_dst hst.dist hj, hset, if_neg hji]
      ·rw [tD_none fun j hj => h2 ⟨j, hj⟩, tD_none fun j hj => h2 ⟨j, hj⟩]
    
    have hheavy : tag = 1 → k ≤ i ∧ ms i = ms k := fun h1 => by
     subst h1
     have hki : k ≤ i := by
      rcases Nat.lt_or_ge i k with h | h
      ·have := hd.before i h (tag_of hp)
       rw [hiu] at this
       simp at this
      ·exact h
     refine ⟨hki, ?_⟩
     have := ms_light hf k (i - k) (by omega) fun j hj hj' ht => by
      have h1 := hd.behind j hj (by omega) ht
      simp only [tagOk, Bool.and_eq_true, List.all_eq_true, List.mem_range, Bool.or_eq_true, bne_iff_ne, ne_eq] at htag
      rcases htag.2 j (by omega) with h2 | h2
      ·exact h2 ht
      ·have := anc_listed hcl ops.size hdir h2
       rw [h1] at this
       simp at this
     rwa [show k + (i - k) = i by omega] at this
    
    have cont : ∀ (a' : Act) (w' : World) (hs2 : List Hd) (c2 cp2 : List Nat) (mNew : Mem), ((tag = 1 ∧ mNew = ms (i + 1)) ∨ (tag ≠ 1 ∧ mNew = ms k)) →
      SInv sg.X C.keep N args w0 c0 Z hs2 c2 ⟨put (tD head xs t0 (fun j => listed.getD j false)) ao.dst x, mNew⟩ a' w' →
      PendL sg.X w' Z (fun d => a'.tmps.getD d undef) (fun j => (listed.setIfInBounds i true).getD j false) head 0 cp2 → WInv w0 c0 Z w' (c2 ++ cp2) →
      wpAny P .any ops Q fuel (listed.setIfInBounds i true) a' w' := by
     intro a' w' hs2 c2 cp2 mNew hm hinv hpend hwin
     have hinv' := hinv.tmps_same htD
     have hun1 := unl_set (l := listed) (i := i) (n := ops.size) (by omega) hilt hiu
     have hcl' : ∀ p j, (listed.setIfInBounds i true).getD p false = true → bindsB ops p j = true → (listed.setIfInBounds i true).getD j false = true := fun p j hpl hb => by
      rw [hset] at hpl ⊢
      by_cases hj : j = i
      ·rw [if_pos hj]
      ·rw [if_neg hj]
       by_cases hpi : p = i
       ·subst hpi; exact hdir j hb
       ·rw [if_neg hpi] at hpl; exact hcl p j hpl hb
     have htl' : ∀ j, head.length ≤ j → j < ops.size → (listed.setIfInBounds i true).getD j false = false := fun j hj hjl => by rw [hset, if_neg (by omega)]; exact htl j hj hjl
     rcases hm with ⟨h1, rfl⟩ | ⟨h1, rfl⟩
     ·obtain ⟨hki, _⟩ := hheavy h1
      refine ih _ a' w' hs2 c2 cp2 (i + 1) (by omega) (by simp [hs']) htl' hcl' ⟨hinv', by omega, fun j hj ht => ?_, fun j hj hjl ht => ?_, hpend, hwin⟩
      ·rw [hset]
       by_cases hji : j = i
       ·rw [if_pos hji]
       ·rw [if_neg hji]
        subst h1
        simp only [tagOk, Bool.and_eq_true, List.all_eq_true, List.mem_range, Bool.or_eq_true, bne_iff_ne, ne_eq] at htag
        rcases htag.2 j (by omega) with h2 | h2
        ·exact absurd ht h2
        ·exact anc_listed hcl ops.size hdir h2
      ·rw [hset, if_neg (by omega)]
       exact hd.behind j (by omega) hjl ht
     ·refine ih _ a' w' hs2 c2 cp2 k (by omega) (by simp [hs']) htl' hcl' ⟨hinv', hd.le, fun j hj ht => ?_, fun j hj hjl ht => ?_, hpend, hwin⟩
      ·rw [hset]
       by_cases hji : j = i
       ·rw [if_pos hji]
       ·rw [if_neg hji]; exact hd.before j hj ht
      ·have hji : j ≠ i := fun e => by subst e; exact h1 (by rw [← tag_of hp]; exact ht)
       rw [hset, if_neg hji]
       exact hd.behind j hj hjl ht
    
    have hfl : ∀ {a' : Act} {w' : World} {cn : List Nat}, (∀ p, ao.dst ≠ some p → a'.tmps.getD p undef = a.tmps.getD p undef) → (∀ b, Z b → w'.heap[b]? = w.heap[b]?) → (∀ b ∈ cp, w'.heap[b]? = w.heap[b]?) →
      (tag = 2 → ∃ d zero, ao.dst = some d ∧ ao.op = .alloc zero ∧ Rst1 sg.X w' Z (.b (zero.map D.up)) (a'.tmps.getD d undef) cn) →
      ∃ cp', PendL sg.X w' Z (fun d => a'.tmps.getD d undef) (fun j => (listed.setIfInBounds i true).getD j false) head 0 cp' ∧ ∀ b, cp'.count b ≤ (cp ++ cn).count b := by
     intro a' w' cn htm hz hcp hnew
     obtain ⟨cp', e1, e2⟩ := hd.pend.step (val' := fun d => a'.tmps.getD d undef) (done' := fun j => (listed.setIfInBounds i true).getD j false) (j0 := i) (cn := cn) hz hcp fun kk oo hoo => by
      have hkl : kk < head.length := (List.getElem?_eq_some_iff.1 hoo).1
      have hck := hst.headC kk hkl
      unfold chkHead at hck
      rw [hoo] at hck
      obtain ⟨d, zero, hdo, hzo⟩ : ∃ d zero, oo.dst = some d ∧ oo.op = .alloc zero := by
       split at hck
       ·rename_i t2 ao2 o2 q1 q2
        cases q1
        simp only [Bool.and_eq_true] at hck
        have h5 := hck.1.2
        simp only [tagOk, Bool.and_eq_true] at h5
        obtain ⟨d, hd'⟩ := Option.isSome_iff_exists.1 h5.1.2
        have h6 := h5.2
        split at h6
        ·rename_i zero hz'; exact ⟨d, zero, hd', hz'⟩
        ·simp at h6
       ·simp at hck
      refine ⟨d, zero, hdo, hzo, fun h => ?_, fun h => ?_⟩
      ·simp only [Nat.zero_add] at h ⊢
       have hki : kk ≠ i := fun e => by subst e; rw [hiu] at h; simp at h
       refine ⟨by rw [hset, if_neg hki]; exact h, htm d fun e => hki ?_⟩
       exact hst.dist kk i d (by rw [dst_of hoo, hdo]) (by rw [dst_of hp, e])
      ·simp only [Nat.zero_add] at h ⊢
       by_cases hki : kk = i
       ·subst hki
        rw [hp] at hoo
        cases hoo
        obtain ⟨d', zero', q1, q2, q3⟩ := hnew rfl
        rw [hdo] at q1
        rw [hzo] at q2
        cases q1
        cases q2
        exact .inr ⟨rfl, by rw [hset, if_pos rfl], q3⟩
       ·exact .inl (by rw [hset, if_neg hki]; exact h)
     exact ⟨cp', e1, fun b => by have := e2 b; rwa [if_pos (by omega)] at this⟩
    refine ⟨fun htn3 => ?_, fun ht3 => ?_⟩
    rotate_left
    ·rw [tag_of hp] at ht3
     subst ht3
     simp only [tagOk, Bool.and_eq_true] at htag
     obtain ⟨⟨hext, hgn⟩, hfree⟩ := htag
     have hgn : ao.guard = none := by simpa using hgn
     have hogn : o.guard = none := by
      rw [hgn] at hcg
      unfold chkGuard at hcg
      split at hcg
      ·rename_i e; exact e
      ·simp_all
      ·simp at hcg
     rcases hfact with ⟨j, b, hg, _⟩ | ⟨_, ⟨_, m1, h1, h2, h3⟩ | ⟨h, _⟩ | ⟨h, _⟩⟩
     ·rw [hgn] at hg; simp at hg
     ·obtain ⟨v, hv2, hv3⟩ := free_ok (a := a) (w := w) (Z := Z) (hs := hs) hext hco h1 fun p hp' => by
       have hkk := hagree p (List.mem_append_left _ hp')
       have h5 := hin.tmp p
       simp only at h5
       rwa [hkk] at h5
      refine ⟨o, v, ho, hfree, .inl ⟨by simp [Region.wanted, hogn], hv3⟩, ?_⟩
      rw [← hde]
      obtain ⟨cp', p1, p2⟩ := hfl (a' := a.put ao.dst v) (w' := w) (cn := []) (fun p hp' => put_get_ne hp') (fun _ _ => rfl) (fun _ _ => rfl) (fun e => absurd e (by simp))
      exact cont _ w hs c cp' (ms k) (.inr ⟨by simp, rfl⟩) (sinv_put hin hdl hmay hin.mem hv2 hin.win (Ext.refl _)) p1 (hd.win.less fun b => by have := p2 b; simp only [List.append_nil, List.count_append] at *; omega)
     ·simp at h
     ·exact absurd rfl h.2
    ·unfold wpOp
     rw [ho]
     simp only
     
     have hguard : ∀ {j : Nat} {b : Bool}, ao.guard = some (j, b) → ∃ jj, o.guard = some (jj, b) ∧ yielded ops a.tmps jj = match a.tmps.getD j undef with | .bool b => some b | _ => none := fun {j b} hg => by
      rw [hg] at hcg
      unfold chkGuard at hcg
      split at hcg
      ·simp_all
      ·rename_i i1 b1 jj b2 e1 e2
       simp only [Option.some.injEq, Prod.mk.injEq] at e1
       obtain ⟨rfl, rfl⟩ := e1
       simp only [Bool.and_eq_true, beq_iff_eq] at hcg
       obtain ⟨rfl, hcg⟩ := hcg
       split at hcg
       ·rename_i og hoo
        have hod : og.dst = some j := by simpa using hcg
        refine ⟨jj, e2, yielded_of hoo hod ?_⟩
        
        rcases Nat.lt_or_ge j a.tmps.size with h | h
        ·exact h
        ·exfalso
         have hjl : jj < ops.size := (Array.getElem?_eq_some_iff.1 hoo).1
         rcases Nat.lt_or_ge jj head.length with h1 | h1
         ·have hck := hst.headC jj h1
          unfold chkHead at hck
          rw [hoo] at hck
          split at hck
          ·rename_i t2 ao2 o2 q1 q2
           cases q2
           simp only [Bool.and_eq_true] at hck
           obtain ⟨h5, h6⟩ := chkDst_ok hck.1.1.1.1
           have h8 := h6 j (by rw [h5, hod])
           have h9 := hin.size
           omega
          ·simp at hck
         ·
          have : ∀ (l : List Oper) (aos : List AOper), chkOpers P sg N ops l aos = true → ∀ oo ∈ l, ∀ d, oo.dst = some d → d < N := by
           intro l
           induction l with
           | nil => intro aos _ oo h; simp at h
           | cons y l ihl =>
            intro aos h oo hm d hd
            cases aos with
            | nil => simp [chkOpers] at h
            | cons z aos =>
             simp only [chkOpers, Bool.and_eq_true] at h
             rcases List.mem_cons.1 hm with rfl | hm
             ·obtain ⟨h5, h6⟩ := chkDst_ok h.1.1.1
              exact h6 d (by rw [h5, hd])
             ·exact ihl aos h.2 oo hm d hd
          have h7 := this _ _ hst.tailC og (by
           have : ops.toList[jj]? = some og := by simpa using hoo
           rw [List.mem_iff_getElem?]
           exact ⟨jj - head.length, by rw [List.getElem?_drop, show head.length + (jj - head.length) = jj by omega]; exact this⟩) j hod
          have h8 : @LT.lt Nat _ j N := h7
          have h9 := hin.size
          omega
       ·simp at hcg
      ·simp at hcg
     rcases hfact with ⟨j, b, hg, hv, rfl, hm⟩ | ⟨hg, hrun⟩
     ·
      obtain ⟨jj, hog, hy⟩ := hguard hg
      have hnw : ¬ Region.wanted o (yielded ops a.tmps) = true := by
       have h1 := hin.tmp j
       have h2 := hagree j (by simp [hg, guardT])
       simp only at h1
       rw [h2] at h1
       rcases hv with hv | hv
       ·rw [hv] at h1
        have h3 := val_of h1
        simp [Region.wanted, hog, hy, h3]
       ·rw [hv] at h1
        generalize hu : a.tmps.getD j undef = u at h1
        cases h1
        have h5 : yielded ops a.tmps jj = none := by rw [hy, hu]; rfl
        simp [Region.wanted, hog, h5]
      rw [if_neg hnw, ← hde]
      have htag2 : tag ≠ 2 := fun e => by
       subst e
       simp only [tagOk, hg, Bool.and_eq_true] at htag
       simp at htag
      obtain ⟨cp', p1, p2⟩ := hfl (a' := a.put ao.dst undef) (w' := w) (cn := []) (fun p hp' => put_get_ne hp') (fun _ _ => rfl) (fun _ _ => rfl) (fun e => absurd e htag2)
      have hmem : ms k = ms k := rfl
      refine cont _ w hs c cp' (ms k) ?_ (sinv_put hin hdl hmay hin.mem .n hin.win (Ext.refl _)) p1 (hd.win.less fun b => by have := p2 b; simp only [List.append_nil, List.count_append] at *; omega)
      by_cases h1 : tag = 1
      ·exact .inl ⟨h1, by rw [hm, (hheavy h1).2]⟩
      ·exact .inr ⟨h1, rfl⟩
     ·
      have hw : Region.wanted o (yielded ops a.tmps) = true := by
       rcases hg with hg | ⟨j, b, hg, hv⟩
       ·rw [hg] at hcg
        unfold chkGuard at hcg
        split at hcg
        ·rename_i e; simp [Region.wanted, e]
        ·simp_all
        ·simp at hcg
       ·obtain ⟨jj, hog, hy⟩ := hguard hg
        have h1 := hin.tmp j
        have h2 := hagree j (by simp [hg, guardT])
        simp only at h1
        rw [h2, hv] at h1
        have h3 := val_of h1
        simp [Region.wanted, hog, hy, h3]
      rw [if_pos hw]
      refine .inl ?_
      have hrd : ∀ p ∈ readsOf ao.op, tD head xs t0 (fun j => listed.getD j false) p = tL head xs t0 i p := fun p hp' => hagree p (by simp [hp'])
      
      have go : ∀ mNew, ((tag = 1 ∧ mNew = ms (i + 1)) ∨ (tag ≠ 1 ∧ mNew = ms k)) → tag ≠ 2 → EO C.T (tD head xs t0 (fun j => listed.getD j false)) (ms k) ao.op = some (x, mNew) →
        o.wp P a w (wpAny P .any ops Q fuel (listed.setIfInBounds i true)) Q := by
       intro mNew hm htag2 hEO
       obtain ⟨av, m', hK, hok⟩ := evalOp_ok (keep := C.keep) (N := N) (args := args) (w0 := w) (c0 := c) (Z := Z) (o := o) (st := ⟨tD head xs t0 (fun j => listed.getD j false), ms k⟩) (K := mk2) (hT.mono fun b hb => hin.win.frame b (hin.win.zlt b hb).1 (hin.win.zlt b hb).2) hco hEO
       simp only [mk2, Option.some.injEq, Prod.mk.injEq] at hK
       obtain ⟨rfl, rfl⟩ := hK
       have hnow : WInv w c Z w c := hin.win.now
       refine hok hs c a w ⟨hin.mem, hin.tmp, hnow, hin.defers, hin.size, hin.keep⟩ _ Q fun v w' ⟨hs', c', e1, e2, e3, e4⟩ => ?_
       have hcomp := hd.win.compose hd.pend.lt e4
       have hsame := hnow.zsame e4
       have hcps : ∀ b ∈ cp, w'.heap[b]? = w.heap[b]? := fun b hb => by
        refine e4.frame b (hd.pend.lt b hb) fun hbc => ?_
        have h1 := hd.win.cnt b
        simp only [List.count_append] at h1
        have h2 := List.count_pos_iff.2 hb
        have h3 := List.count_pos_iff.2 hbc
        omega
       rw [← hde]
       obtain ⟨cp', p1, p2⟩ := hfl (a' := a.put ao.dst v) (w' := w') (cn := []) (fun p hp' => put_get_ne hp') hsame hcps (fun e => absurd e htag2)
       refine cont _ w' hs' c' cp' m' hm (sinv_put hin hdl hmay e2 e3 (hcomp.less fun b => by simp only [List.count_append]; omega) e1) p1 (hcomp.less fun b => by have := p2 b; simp only [List.append_nil, List.count_append] at *; omega)
      rcases hrun with ⟨h0, m1, h1, h2, h3⟩ | ⟨h0, h1, h2⟩ | ⟨h0, h1, h2, h3⟩
      ·have h0 : tag = 0 := by
        rcases h0 with h0 | h0
        ·exact h0
        ·exact absurd ((tag_of hp).trans h0) htn3
       subst h0
       have hl := ms_prefix hst hf k hd.le
       have := light_all (by simpa [tagOk] using htag) (h2.2 rfl) h1 h2.1 _ hl
       rw [← EO_congr hrd] at this
       exact go (ms k) (.inr ⟨by simp, rfl⟩) (by simp) this
      ·subst h0
       rw [(hheavy rfl).2, ← EO_congr hrd] at h2
       exact go (ms (i + 1)) (.inl ⟨rfl, rfl⟩) (by simp) h2
      ·
       have htag2 : tag = 2 := by
        unfold tagOk at htag
        split at htag
        ·exact absurd rfl h0.1
        ·exact absurd rfl h1
        ·exact absurd rfl h0.2
        ·rfl
        ·simp at htag
       subst htag2
       subst h2
       simp only [tagOk, Bool.and_eq_true] at htag
       obtain ⟨⟨_, hds⟩, hal⟩ := htag
       obtain ⟨d, hd'⟩ := Option.isSome_iff_exists.1 hds
       split at hal
       ·rename_i zero hzero
        rw [hzero] at hco
        generalize hop : o.op = op at hco
        cases op <;> simp only [chkOp] at hco <;> try (simp at hco; done)
        rename_i ty
        obtain ⟨ti, z, hi1, hi2, hi3⟩ := chkZero_some hco
        have hrun : (execOp a.eval o).run P w = .ok (.value (.pointer (some ⟨w.heap.size, 0, none⟩))) { w with heap := w.heap.push (.cells z.cells ty) } := by
         simp [execOp, hop, Instr.alloc, run_zeroValue hi1 hi2, newVar, newRow, newObj, Sem.run]
        unfold Oper.wp
        rw [hrun]
        rw [Oper.upon_value, ← hde]
        have hheap : ({ w with heap := w.heap.push (.cells z.cells ty) } : World).heap = w.heap.push (.cells z.cells ty) := rfl
        obtain ⟨q1, q2, q3⟩ := push_get hheap
        have hlt : ∀ b ∈ c ++ cp, b < w.heap.size := fun b hb => by
         rcases List.mem_append.1 hb with hb | hb
         ·exact hin.mem.lt b hb
         ·exact hd.pend.lt b hb
        have hz : ∀ b, Z b → ({ w with heap := w.heap.push (.cells z.cells ty) } : World).heap[b]? = w.heap[b]? := fun b hb => q1 b (by have := hin.win.zlt b hb; have := hin.win.size; omega)
        have hwin' := hd.win.push hlt hheap
        have hcr := chkZ_ok (w := { w with heap := w.heap.push (.cells z.cells ty) }) (Z := Z) (hs := []) hi3
        have hzl : z.cells.size = zero.length := by
         have := hcr.length
         simpa using this
        obtain ⟨cp', p1, p2⟩ := hfl (a' := a.put ao.dst (.pointer (some ⟨w.heap.size, 0, none⟩))) (w' := { w with heap := w.heap.push (.cells z.cells ty) }) (cn := [w.heap.size]) (fun p hp' => put_get_ne hp') hz
         (fun b hb => q1 b (hlt b (by simp [hb]))) (fun _ => ⟨d, zero, hd', hzero, by
          have hdN := hdl d hd'
          have : (a.put ao.dst (.pointer (some ⟨w.heap.size, 0, none⟩))).tmps.getD d undef = .pointer (some ⟨w.heap.size, 0, none⟩) := by
           rw [hd']
           simp [Act.put, hin.size, hdN]
          rw [this]
          exact .b ⟨z.cells, ty, (0, 0), q2, fun k v h => by simpa using h⟩ ⟨z.cells, ty, (0, 0), q2, by simp [hzl], fun k _ _ => by simp⟩ hcr⟩)
        refine cont _ _ hs c cp' (ms k) (.inr ⟨by simp, rfl⟩) (sinv_put hin hdl hmay (hin.mem.frame (fun _ h => h) hz (fun b hb => q1 b (hlt b (by simp [hb]))) (Ext.refl _)) .u (hwin'.less fun b => by simp only [List.count_append]; omega) (Ext.refl _)) p1
         (hwin'.less fun b => by have := p2 b; simp only [List.count_append] at *; omega)
       ·simp at hal
   by_cases hpri : ∃ i, i ∈ Region.ready .any ops listed ∧ tagH head i = 3
   ·obtain ⟨i, hi, ht3⟩ := hpri
    have hih : i < head.length := by
     rcases Nat.lt_or_ge i head.length with h | h
     ·exact h
     ·simp [tagH, List.getElem?_eq_none h] at ht3
    obtain ⟨o, v, ho, hfr, hy, hw⟩ := (main i hi hih).2 ht3
    exact wpAny_first ho (Region.noSelect_spec hst.nosel) (fun c a w h => absurd h (hQ c _ w)) fuel listed a w (fun j oj hj hne hun hno => by
     have hjl : j < ops.size := (Array.getElem?_eq_some_iff.1 hj).1
     have h1 := List.all_eq_true.1 hfr j (by simp [hjl])
     simp only [Bool.or_eq_true, beq_iff_eq] at h1
     rcases h1 with ((h1 | h1) | h1) | h1
     ·exact absurd h1 hne
     ·exfalso
      obtain ⟨_, o2, ho2, hall2⟩ := mem_ready.1 hi
      rw [ho] at ho2
      cases ho2
      have := anc_listed hcl ops.size (fun k hb => by
       obtain ⟨e, e1, e2, e3⟩ := (bindsB_ok ho).1 hb
       subst e3
       exact hall2 e e1 e2) h1
      rw [getD_true_false (by omega)] at hun
      rw [hun] at this
      simp at this
     ·exfalso
      obtain ⟨e, e1, e2, e3⟩ := (bindsB_ok hj).1 h1
      exact hno e e1 e2 e3
     ·rw [ho, hj] at h1
      exact h1) hi hy hw
   ·refine ⟨fun h0 => by rw [h0] at hqready; simp at hqready, fun i hi => ?_⟩
    obtain ⟨hun, o, ho, hall⟩ := mem_ready.1 hi
    have hilt : i < ops.size := (Array.getElem?_eq_some_iff.1 ho).1
    have hih : i < head.length := by
     rcases Nat.lt_or_ge i head.length with h | h
     ·exact h
     ·exfalso
      have hdir : ∀ j, bindsB ops i j = true → listed.getD j false = true := fun j hb => by
       obtain ⟨e, e1, e2, e3⟩ := (bindsB_ok ho).1 hb
       subst e3
       exact hall e e1 e2
      rcases hst.anc i h hilt q (by omega) with h1 | h1
      ·have := anc_listed hcl ops.size hdir h1
       rw [hqu] at this
       simp at this
      ·exact hpri ⟨q, hqready, h1⟩
    exact (main i hi hih).1 fun h => hpri ⟨i, hi, h⟩
end
end Go.Am
/- AM: a region whose order is open, whole. Nothing is assumed. -/
namespace Go.Am
section
variable {P : Program} {sg : Sigs} {N : Nat} {args : Nat → Value} {w0 : World} {c0 : List Nat} {Z : Nat → Prop} {C : Ctx}
theorem evalPre_ok {R : Type} {r : R} {t : Tmps} (pre : List (Nat × Nat × List Kd)) : ∀ {m : Mem} {K : Mem → Option R}, evalPre t pre m K = some r → ∃ m', K m' = some r ∧
  ∀ (hs : List Hd) (c : List Nat) (a : Act) (w : World), SInv sg.X C.keep N args w0 c0 Z hs c ⟨t, m⟩ a w → ∃ hs' c', SInv sg.X C.keep N args w0 c0 Z hs' c' ⟨t, m'⟩ a w := by
 induction pre with
 | nil => intro m K h; exact ⟨m, h, fun hs c a w hin => ⟨hs, c, hin⟩⟩
 | cons p pre ih =>
  obtain ⟨i, off, ks⟩ := p
  intro m K h
  simp only [evalPre] at h
  cases h9 : Nat.beq off 999999 with
  | true => rw [h9] at h; exact ih h
  | false =>
  rw [h9] at h
  simp only [cond_false] at h
  split at h
  ·rename_i id ii cc ht
   obtain ⟨xs, m1, h1, _, g⟩ := ldOs_some (X := sg.X) (Z := Z) h
   obtain ⟨m', h2, g2⟩ := ih h1
   refine ⟨m', h2, fun hs c a w hin => ?_⟩
   have hp := hin.tmp i
   simp only [ht] at hp
   generalize hv : a.tmps.getD i undef = u at hp
   cases hp with
   | @a _ _ _ b o hd hh hb hil =>
    obtain ⟨hs', c', vs, b1, b2, b3, _⟩ := g w hs c hd b o hin.mem hh hb
    exact g2 hs' c' a w ⟨b2, fun i => (hin.tmp i).frame (fun _ h => h) (fun _ _ => rfl) b1, hin.win.less fun x => by rw [b3]; exact Nat.le_refl _, hin.defers, hin.size, hin.keep⟩
  ·simp at h
theorem draw_ok {R : Type} {r : R} {K : St → Option R} (hT : GoodAt P sg w0 Z C.T) {id : Nat} {ops : Array Oper} {pre : List (Nat × Nat × List Kd)} {head : List (Nat × AOper)} {tail : List AOper} {st : St} (hc : chkDraw P sg N ops head tail = true)
  (hdst : ∀ (j : Nat) (o : Oper), ops[j]? = some o → ∀ d, o.dst = some d → d < N) (h : evalDr C pre head tail st K = some r) :
  ∃ st', K st' = some r ∧ ∀ (hs : List Hd) (c : List Nat) (a : Act) (w : World), SInv sg.X C.keep N args w0 c0 Z hs c st a w → ∀ (Q : Exit → Act → World → Prop),
   (∀ hs' c' a' w', SInv sg.X C.keep N args w0 c0 Z hs' c' st' a' w' → Q .normal a' w') → (Code.region id ops true).wp P Q a w := by
 have hst := chkDraw_ok hc
 unfold evalDr at h
 obtain ⟨m0, h1, gp⟩ := evalPre_ok (sg := sg) (N := N) (args := args) (w0 := w0) (c0 := c0) (Z := Z) (C := C) pre h
 obtain ⟨xs, ms, f1, f2, f3, f4⟩ := evalHead_some head h1
 obtain ⟨st', h2, gt⟩ := evalOps_ok (args := args) (w0 := w0) (c0 := c0) (Z := Z) hT (ops.toList.drop head.length) hst.tailC hdst f3
 refine ⟨st', h2, fun hs c a w hin Q hQ => ?_⟩
 obtain ⟨hs1, c1, hin1⟩ := gp hs c a w hin
 have hf : Facts ⟨C.T, C.keep, lentIds st.t pre⟩ m0 head xs ms st.t := ⟨f1, f2, f4⟩
 refine wp_mono (Q := fun e a w => e = .normal ∧ Q .normal a w) ?_ fun e a w ⟨he, hq⟩ => by subst he; exact hq
 refine wp_region_any hst.mixed ?_
 have hd0 : ∀ j, (Array.replicate ops.size false).getD j false = false := fun j => by
  simp only [Array.getD_eq_getD_getElem?, Array.getElem?_replicate]
  split <;> rfl
 have hpend : ∀ (l : List (Nat × AOper)) (i : Nat), PendL sg.X { w with drawn := w.drawn + 1 } Z (fun d => a.tmps.getD d undef) (fun j => (Array.replicate ops.size false).getD j false) l i [] := by
  intro l
  induction l with
  | nil => intro i; exact .nil
  | cons p l ih => intro i; exact .skip (fun _ => hd0 i) (ih (i + 1))
 have htm : ∀ i, ARel sg.X { w with drawn := w.drawn + 1 } Z hs1 (tD head xs st.t (fun j => (Array.replicate ops.size false).getD j false) i) (a.tmps.getD i undef) := fun i => by
  by_cases hj : ∃ j, dstH head j = some i
  ·obtain ⟨j, hj⟩ := hj
   rw [tD_dst hst.dist hj, hd0]
   exact .u
  ·rw [tD_none fun j hj' => hj ⟨j, hj'⟩]
   exact (hin1.tmp i).frame (fun _ h => h) (fun _ _ => rfl) fun _ _ h => h
 have hwin : WInv w0 c0 Z { w with drawn := w.drawn + 1 } c1 := ⟨hin1.win.cnt, hin1.win.dis, hin1.win.zlt, hin1.win.size, hin1.win.own, hin1.win.frame, hin1.win.mute.trans ⟨rfl, rfl, rfl⟩, hin1.win.stay.trans (Stay.same rfl)⟩
 refine head_ok (N := N) (args := args) (w0 := w0) (c0 := c0) (Z := Z) (C := ⟨C.T, C.keep, lentIds st.t pre⟩) hT hst hf (Q := fun e a w => e = .normal ∧ Q .normal a w) (fun c a w h => by simp at h) (fun hs' c' a' w' hin' => gt hs' c' a' w' hin' _ fun hs2 c2 a2 w2 h2 => ⟨rfl, hQ hs2 c2 a2 w2 h2⟩) ops.size _ a _ hs1 c1 [] 0 (unl_le _ _) (by simp) (fun j _ _ => hd0 j)
  (fun i j hi _ => by rw [hd0] at hi; simp at hi) ⟨⟨?_, htm, hwin, hin1.defers, hin1.size, hin1.keep⟩, Nat.zero_le _, fun j hj => by omega, fun j _ _ _ => hd0 j, hpend head 0, by simpa using hwin⟩
 rw [f2]
 exact hin1.mem.frame (fun _ h => h) (fun _ _ => rfl) (fun _ _ => rfl) (Ext.refl _)
end
end Go.Am
/- AM: code. Nothing is assumed. -/
namespace Go.Am
def dstsOk (N : Nat) (ops : List Oper) : Bool := ops.all fun o => match o.dst with | some d => Nat.blt d N | none => true
def akOk : AK → Bool
 | .b ks => ks.all fun k => match k with | .u => false | _ => true
 | _ => true
def exitsOk (exits : Exits) : Bool := exits.all fun p => (seconds p.2).all akOk
def chkCode (P : Program) (sg : Sigs) (N : Nat) : ACode → Code → Bool
 | .skip, .skip => true
 | .reg false aos, .region _ ops false => dstsOk N ops.toList && chkOpers P sg N ops ops.toList aos
 | .dreg _ head tail, .region _ ops true => dstsOk N ops.toList && chkDraw P sg N ops head tail
 | .seq x y, .seq x' y' => chkCode P sg N x x' && chkCode P sg N y y'
 | .cond c x y, .cond c' x' y' => chkOpd sg c c' && chkCode P sg N x x' && chkCode P sg N y y'
 | .block i b, .block i' b' => i == i' && chkCode P sg N b b'
 | .loop _ exits b, .loop b' => exitsOk exits && chkCode P sg N b b'
 | .exit i, .exit i' => i == i'
 | .ret, .ret => true
 | _, _ => false
def exOf : Ex → Exit
 | .normal => .normal
 | .exit i => .exit i
 | .ret => .ret
section
variable {P : Program} {sg : Sigs} {N : Nat} {args : Nat → Value} {w0 : World} {c0 : List Nat} {Z : Nat → Prop} {C : Ctx}
structure LInv (sg : Sigs) (keep : List Nat) (N : Nat) (args : Nat → Value) (w0 : World) (c0 : List Nat) (Z : Nat → Prop) (live : List Nat) (xs : List AV) (a : Act) (w : World) : Prop where
 rest : ∃ c, RstL sg.X w Z xs (live.map fun i => a.tmps.getD i undef) c ∧ WInv w0 c0 Z w c
 defers : a.defers = []
 size : a.tmps.size = N
 keep : ∀ i ∈ keep, a.tmps.getD i undef = args i
theorem LInv.of {live : List Nat} {hs : List Hd} {c : List Nat} {st : St} {a : Act} {w : World} {ys : List AV} {m' : Mem} (h : SInv sg.X C.keep N args w0 c0 Z hs c st a w)
  (hr : restXs st.t st.m live = some (ys, m')) : LInv sg C.keep N args w0 c0 Z live ys a w := by
 obtain ⟨c', cd, e1, e2, e3⟩ := restXs_ok h.tmp live hr h.mem
 exact ⟨⟨cd, e1, h.win.less fun b => by have := e3 b; simp only [List.count_append] at this; omega⟩, h.defers, h.size, h.keep⟩
theorem LInv.wake {live : List Nat} {xs : List AV} {a : Act} {w : World} (h : LInv sg C.keep N args w0 c0 Z live xs a w) :
  ∃ hs c, SInv sg.X C.keep N args w0 c0 Z hs c (wake live xs) a w := by
 obtain ⟨c, h1, h2⟩ := h.rest
 obtain ⟨hs', c', e1, e2, e3⟩ := wakeAVs_ok (f := fun i => a.tmps.getD i undef) live (t := none_) (m := []) (hs := []) (c := []) .nil (fun i => .u) h1
 exact ⟨hs', c', e1, e2, h2.less fun b => by simpa using e3 b, h.defers, h.size, h.keep⟩
structure LInvV (sg : Sigs) (keep : List Nat) (N : Nat) (args : Nat → Value) (w0 : World) (c0 : List Nat) (Z : Nat → Prop) (live : List Nat) (xs : List AV) (a : Act) (w : World) : Prop where
 inv : LInv sg keep N args w0 c0 Z live xs a w
 views : Views live xs fun i => a.tmps.getD i undef
theorem LInvV.of {live : List Nat} {hs : List Hd} {c : List Nat} {st : St} {a : Act} {w : World} {ys : List AV} {m' : Mem} (h : SInv sg.X C.keep N args w0 c0 Z hs c st a w)
  (hr : restVs st.t st.m live = some (ys, m')) : LInvV sg C.keep N args w0 c0 Z live ys a w := by
 obtain ⟨c', cd, e1, e2, e3, e4⟩ := restVs_ok h.tmp hr h.mem
 exact ⟨⟨⟨cd, e1, h.win.less fun b => by have := e3 b; simp only [List.count_append] at this; omega⟩, h.defers, h.size, h.keep⟩, e4⟩
theorem LInvV.wake {live : List Nat} {xs : List AV} {a : Act} {w : World} (h : LInvV sg C.keep N args w0 c0 Z live xs a w) :
  ∃ hs c, SInv sg.X C.keep N args w0 c0 Z hs c (wakeV live xs) a w := by
 obtain ⟨hs, c, hi⟩ := h.inv.wake
 obtain ⟨e1, e2⟩ := wakeViews_ok (f := fun i => a.tmps.getD i undef) (live := live) (xs := xs) live (ys := xs) (st := Go.Am.wake live xs) hi.mem hi.tmp h.views
 exact ⟨hs, c, by rw [wakeV, e1]; exact hi.mem, e2, hi.win, hi.defers, hi.size, hi.keep⟩
theorem same_ok {e x : Ex} (h : e.same x = true) : e = x := by
 cases e <;> cases x <;> simp [Ex.same] at h
 ·rfl
 ·rw [h]
 ·rfl
theorem onExit_some {R : Type} {r : R} {e : Ex} {K : Ex → List (Nat × AK) → Option R} {exits : Exits} (h : onExit e K exits = some r) : ∃ l, afterOf e exits = some l ∧ K e l = some r := by
 induction exits with
 | nil => simp [onExit] at h
 | cons p r' ih =>
  obtain ⟨x, l⟩ := p
  simp only [onExit] at h
  simp only [afterOf]
  cases hs : e.same x with
  | true =>
   simp only [hs, cond_true] at h ⊢
   have := same_ok hs
   subst this
   exact ⟨l, rfl, h⟩
  | false =>
   simp only [hs, cond_false] at h ⊢
   exact ih h
theorem aI_some {R : Type} {r : R} {k : IntKind} {x : AV} {K : Int → Option R} (h : aI k x K = some r) : ∃ n, x = .v (.int k n) ∧ K n = some r := by
 unfold aI at h
 split at h
 ·split at h
  ·rename_i hk; subst hk; exact ⟨_, rfl, h⟩
  ·simp at h
 ·simp at h
theorem aB_some {R : Type} {r : R} {x : AV} {K : Bool → Option R} (h : aB x K = some r) : ∃ n, x = .v (.bool n) ∧ K n = some r := by
 unfold aB at h
 split at h
 ·exact ⟨_, rfl, h⟩
 ·simp at h
theorem aS_some {R : Type} {r : R} {x : AV} {K : ByteArray → Option R} (h : aS x K = some r) : ∃ n, x = .v (.string n) ∧ K n = some r := by
 unfold aS at h
 split at h
 ·exact ⟨_, rfl, h⟩
 ·simp at h
theorem aL_some {R : Type} {r : R} {wd : Nat} {x : AV} {K : Rows → Option R} (h : aL wd x K = some r) : ∃ n, x = .fz wd n ∧ K n = some r := by
 unfold aL at h
 split at h
 ·split at h
  ·rename_i hk; subst hk; exact ⟨_, rfl, h⟩
  ·simp at h
 ·simp at h
theorem aO_some {R : Type} {r : R} {wd : Nat} {x : AV} {K : Rows → Option R} (h : aO wd x K = some r) : ∃ n, x = .o wd n ∧ K n = some r := by
 unfold aO at h
 split at h
 ·split at h
  ·rename_i hk; subst hk; exact ⟨_, rfl, h⟩
  ·simp at h
 ·simp at h
theorem aH_some {R : Type} {r : R} {x : AV} {K : Option Addr → Nat → Nat → Option R} (h : aH x K = some r) : ∃ b n c, x = .v (.slice b n c) ∧ K b n c = some r := by
 unfold aH at h
 split at h
 ·exact ⟨_, _, _, rfl, h⟩
 ·simp at h
theorem aF_some {R : Type} {r : R} {x : AV} {K : Nat → List I → Option R} (h : aF x K = some r) : ∃ fn caps, x = .ff fn caps ∧ K fn caps = some r := by
 unfold aF at h
 split at h
 ·exact ⟨_, _, rfl, h⟩
 ·simp at h
theorem aX_some {R : Type} {r : R} {x : AV} {K : List AV → Option R} (h : aX x K = some r) : ∃ n, x = .b n ∧ K n = some r := by
 unfold aX at h
 split at h
 ·exact ⟨_, rfl, h⟩
 ·simp at h
theorem aG_some {R : Type} {r : R} {m : Nat} {x : AV} {K : List AV → Option R} (h : aG m x K = some r) : ∃ n, x = .g n ∧ n.length = m ∧ K n = some r := by
 unfold aG at h
 split at h
 ·rename_i xs
  cases hb : Nat.beq xs.length m with
  | false => simp [hb] at h
  | true => exact ⟨_, rfl, Nat.eq_of_beq_eq_true hb, by simpa [hb] using h⟩
 ·simp at h
theorem aV_some {R : Type} {r : R} {xs : List AV} {i : Nat} {K : AV → Option R} (h : aV xs i K = some r) : ∃ x, xs[i]? = some x ∧ K x = some r := by
 unfold aV at h
 split at h
 ·rename_i x e; exact ⟨x, e, h⟩
 ·simp at h
theorem shape0some {R : Type} {r : R} {k : AK} {x : AV} {K : AV → Option R} (h : shape0 k x K = some r) : ∃ y, (y = x ∨ (y = .u ∧ k = .u)) ∧ K y = some r := by
 unfold shape0 at h
 split at h
 ·obtain ⟨n, e, h⟩ := aI_some h; exact ⟨_, .inl e.symm, h⟩
 ·obtain ⟨n, e, h⟩ := aB_some h; exact ⟨_, .inl e.symm, h⟩
 ·obtain ⟨n, e, h⟩ := aS_some h; exact ⟨_, .inl e.symm, h⟩
 ·obtain ⟨n, e, h⟩ := aL_some h; exact ⟨_, .inl e.symm, h⟩
 ·obtain ⟨b, n, c, e, h⟩ := aH_some h; exact ⟨_, .inl e.symm, h⟩
 ·obtain ⟨n, e, h⟩ := aO_some h; exact ⟨_, .inl e.symm, h⟩
 ·exact ⟨.u, .inr ⟨rfl, rfl⟩, h⟩
 ·obtain ⟨fn, caps, e, h⟩ := aF_some h; exact ⟨_, .inl e.symm, h⟩
 ·simp at h
inductive Less : List AV → List AV → Prop
 | nil : Less [] []
 | same {x : AV} {xs ys : List AV} (h : Less xs ys) : Less (x :: xs) (x :: ys)
 | u {x : AV} {xs ys : List AV} (h : Less xs ys) : Less (x :: xs) (.u :: ys)
theorem shapes0some {R : Type} {r : R} {ks : List AK} : ∀ {xs : List AV} {j : Nat} {K : List AV → Option R}, shapes0 ks xs j K = some r → ∃ ys, Less ((xs.drop j).take ks.length) ys ∧ j + ks.length ≤ max j xs.length ∧ ((∀ k ∈ ks, k ≠ .u) → ys = (xs.drop j).take ks.length) ∧ K ys = some r := by
 induction ks with
 | nil => intro xs j K h; exact ⟨[], by simpa using Less.nil, by simp; omega, by simp, h⟩
 | cons k ks ih =>
  intro xs j K h
  simp only [shapes0] at h
  obtain ⟨x, hx, h⟩ := aV_some h
  obtain ⟨y, hy, h⟩ := shape0some h
  obtain ⟨ys, h1, h2, h3, h4⟩ := ih h
  have hlt : j < xs.length := (List.getElem?_eq_some_iff.1 hx).1
  have e : xs.drop j = x :: xs.drop (j + 1) := by
   rw [List.drop_eq_getElem_cons hlt, (List.getElem?_eq_some_iff.1 hx).2]
  refine ⟨y :: ys, ?_, by simp only [List.length_cons]; omega, fun hk => ?_, h4⟩
  ·rw [e]
   simp only [List.length_cons, List.take_succ_cons]
   rcases hy with rfl | ⟨rfl, _⟩
   ·exact .same h1
   ·exact .u h1
  ·rw [e]
   simp only [List.length_cons, List.take_succ_cons]
   rw [← h3 fun k hk' => hk k (by simp [hk'])]
   rcases hy with rfl | ⟨_, hu⟩
   ·rfl
   ·exact absurd hu (hk k (by simp))
theorem less_rst {X : Nat → Prop} {w : World} {xs ys : List AV} (h : Less xs ys) : ∀ {vs : List Value} {c : List Nat}, Rst1L X w Z xs vs c → ∃ c', Rst1L X w Z ys vs c' ∧ ∀ b, c'.count b ≤ c.count b := by
 induction h with
 | nil => intro vs c h; exact ⟨c, h, fun b => Nat.le_refl _⟩
 | same _ ih =>
  intro vs c h
  cases h with
  | @cons _ _ _ _ c1 c2 h h' =>
   obtain ⟨c', e1, e2⟩ := ih h'
   exact ⟨c1 ++ c', .cons h e1, fun b => by have := e2 b; simp only [List.count_append]; omega⟩
 | u _ ih =>
  intro vs c h
  cases h with
  | @cons _ _ _ _ c1 c2 h h' =>
   obtain ⟨c', e1, e2⟩ := ih h'
   exact ⟨[] ++ c', .cons (.p .u) e1, fun b => by have := e2 b; simp only [List.nil_append, List.count_append]; omega⟩
theorem CRelL.take {w : World} {hs : List Hd} {xs : List AV} : ∀ {vs : List Value} {c : List Nat} (n : Nat), CRelL w Z hs xs vs c → ∃ c', CRelL w Z hs (xs.take n) (vs.take n) c' ∧ ∀ b, c'.count b ≤ c.count b := by
 induction xs with
 | nil => intro vs c n h; cases h; exact ⟨[], by simpa using CRelL.nil, fun b => Nat.le_refl _⟩
 | cons x xs ih =>
  intro vs c n h
  cases h with
  | @cons _ _ _ _ c1 c2 h h' =>
   cases n with
   | zero => exact ⟨[], by simpa using CRelL.nil, fun b => by simp⟩
   | succ n =>
    obtain ⟨c', e1, e2⟩ := ih n h'
    exact ⟨c1 ++ c', by simpa using CRelL.cons h e1, fun b => by have := e2 b; simp only [List.count_append]; omega⟩
theorem shape_some {R : Type} {r : R} {k : AK} {x : AV} {K : AV → Option R} (hk : akOk k = true) (h : shape k x K = some r) :
  ∃ y, K y = some r ∧ ∀ (X : Nat → Prop) (w : World) (v : Value) (c : List Nat), Rst X w Z x v c → ∃ c', Rst X w Z y v c' ∧ ∀ b, c'.count b ≤ c.count b := by
 have base : ∀ {k : AK}, shape0 k x K = some r → ∃ y, K y = some r ∧ ∀ (X : Nat → Prop) (w : World) (v : Value) (c : List Nat), Rst X w Z x v c → ∃ c', Rst X w Z y v c' ∧ ∀ b, c'.count b ≤ c.count b := by
  intro k h
  obtain ⟨y, hy, h⟩ := shape0some h
  refine ⟨y, h, fun X w v c hx => ?_⟩
  rcases hy with rfl | ⟨rfl, _⟩
  ·exact ⟨c, hx, fun b => Nat.le_refl _⟩
  ·exact ⟨[], .o (.p .u), fun b => by simp⟩
 unfold shape at h
 split at h
 ·rename_i ks
  obtain ⟨xs, rfl, h⟩ := aX_some h
  obtain ⟨ys, h1, h2, h3, h⟩ := shapes0some h
  have h3 := h3 fun k hk' => by
   simp only [akOk, List.all_eq_true] at hk
   have := hk k hk'
   rintro rfl
   simp at this
  subst h3
  refine ⟨_, h, fun X w v c hx => ?_⟩
  cases hx with
  | o hx =>
   cases hx with
   | c hx => cases hx
   | @b _ b off vs c hh hf hl =>
    obtain ⟨c', e1, e2⟩ := hl.take ks.length
    simp only [List.drop_zero]
    refine ⟨b :: c', .o (.b (hh.take _) ?_ e1), fun x => by have := e2 x; simp only [List.count_cons]; omega⟩
    obtain ⟨cs, el, fz, j1, j2, j3⟩ := hf
    simp only [List.length_take]
    exact ⟨cs, el, fz, j1, by omega, fun k hk hk' => j3 k hk (by omega)⟩
   | p hx => cases hx
 ·rename_i ks
  obtain ⟨xs, rfl, hlen, h⟩ := aG_some h
  obtain ⟨ys, h1, h2, h3, h⟩ := shapes0some h
  simp only [List.drop_zero] at h1
  rw [← hlen, List.take_length] at h1
  refine ⟨_, h, fun X w v c hx => ?_⟩
  have lift : ∀ {xs : List AV} {vs : List Value}, ARelL X w Z [] xs vs → Rst1L X w Z xs vs [] := by
   intro xs
   induction xs with
   | nil => intro vs h; cases h; exact .nil
   | cons x xs ih => intro vs h; cases h with | cons h h' => simpa using Rst1L.cons (Rst1.p h) (ih h')
  have go : ∀ {vs : Array Value} {c : List Nat}, Rst1L X w Z xs vs.toList c → ∃ c', Rst X w Z (.g ys) (.agg vs) c' ∧ ∀ b, c'.count b ≤ c.count b := fun hx => by
   obtain ⟨c', e1, e2⟩ := less_rst h1 hx
   exact ⟨c', .g e1, e2⟩
  cases hx with
  | g hx => exact go hx
  | o hx =>
   cases hx with
   | c hx => cases hx
   | p hx => cases hx with | g hx => exact go (lift hx)
 ·exact base h
theorem shapes_some {R : Type} {r : R} {ks : List AK} : ∀ {xs : List AV} {j : Nat} {K : List AV → Option R}, ks.all akOk = true → shapes ks xs j K = some r →
  ∃ ys, K ys = some r ∧ ∀ (X : Nat → Prop) (w : World) (vs : List Value) (c : List Nat), vs.length = ks.length → RstL X w Z (xs.drop j) vs c → ∃ c', RstL X w Z ys vs c' ∧ ∀ b, c'.count b ≤ c.count b := by
 induction ks with
 | nil =>
  intro xs j K _ h
  refine ⟨[], h, fun X w vs c hl hx => ?_⟩
  have : vs = [] := List.length_eq_zero_iff.1 hl
  subst this
  exact ⟨[], .nil, fun b => by simp⟩
 | cons k ks ih =>
  intro xs j K hk h
  simp only [List.all_cons, Bool.and_eq_true] at hk
  simp only [shapes] at h
  obtain ⟨x, hx, h⟩ := aV_some h
  obtain ⟨y, h, gy⟩ := shape_some (Z := Z) hk.1 h
  obtain ⟨ys, h, gs⟩ := ih hk.2 h
  refine ⟨y :: ys, h, fun X w vs c hl hr => ?_⟩
  have hlt : j < xs.length := (List.getElem?_eq_some_iff.1 hx).1
  have e : xs.drop j = x :: xs.drop (j + 1) := by
   rw [List.drop_eq_getElem_cons hlt, (List.getElem?_eq_some_iff.1 hx).2]
  rw [e] at hr
  cases hr with
  | cons h1 h2 =>
   obtain ⟨c1, e1, e2⟩ := gy X w _ _ h1
   obtain ⟨c2, f1, f2⟩ := gs X w _ _ (by simpa using hl) h2
   exact ⟨c1 ++ c2, .cons e1 f1, fun b => by have := e2 b; have := f2 b; simp only [List.count_append]; omega⟩
theorem afterOf_ok {e : Ex} {exits : Exits} {l : List (Nat × AK)} (hx : exitsOk exits = true) (h : afterOf e exits = some l) : (seconds l).all akOk = true := by
 induction exits with
 | nil => simp [afterOf] at h
 | cons p r ih =>
  obtain ⟨x, l'⟩ := p
  simp only [exitsOk, List.all_cons, Bool.and_eq_true] at hx
  simp only [afterOf] at h
  cases hs : e.same x with
  | true =>
   simp only [hs, cond_true, Option.some.injEq] at h
   subst h
   exact hx.1
  | false =>
   simp only [hs, cond_false] at h
   exact ih hx.2 h
theorem firsts_length (l : List (Nat × AK)) : (firsts l).length = (seconds l).length := by
 induction l with
 | nil => rfl
 | cons p l ih => obtain ⟨i, k⟩ := p; simp [firsts, seconds, ih]
theorem agree_some {R : Type} {r : R} {a b : Option R} (h : agree a b = some r) : a = some r ∧ b = some r := by
 unfold agree at h
 split at h
 ·rename_i e; exact ⟨h, e ▸ h⟩
 ·simp at h
theorem loop_ok {k : Nat} {b : ACode} {code : Code} {live : List Nat} {exits : Exits}
  (hb : ∀ {st : St} {r : Ex × List AV} {K : Ex → St → Option (Ex × List AV)}, evalC C k b (Ex × List AV) st K = some r → ∃ S : Ex → St → Prop, (∀ e st', S e st' → K e st' = some r) ∧
   ∀ (hs : List Hd) (c : List Nat) (a : Act) (w : World), SInv sg.X C.keep N args w0 c0 Z hs c st a w → ∀ Q : Exit → Act → World → Prop, (∀ e st', S e st' → ∀ hs' c' a' w', SInv sg.X C.keep N args w0 c0 Z hs' c' st' a' w' → Q (exOf e) a' w') → code.wp P Q a w) (n : Nat) :
  ∀ {xs : List AV} {e : Ex} {ys : List AV}, loopN (evalC C k b (Ex × List AV)) live exits n xs = some (e, ys) →
   ∀ (a : Act) (w : World), LInvV sg C.keep N args w0 c0 Z live xs a w → ∀ Q : Exit → Act → World → Prop, (∀ l, afterOf e exits = some l → ∀ a' w', LInv sg C.keep N args w0 c0 Z (firsts l) ys a' w' → Q (exOf e) a' w') → Code.rounds P code Q n a w := by
 induction n with
 | zero => intro xs e ys h; simp [loopN] at h
 | succ n ih =>
  intro xs e ys h a w hL Q hQ
  simp only [loopN] at h
  obtain ⟨S, h1, g1⟩ := hb h
  obtain ⟨hs, c, hin⟩ := hL.wake
  rw [rounds_succ]
  refine g1 hs c a w hin _ fun e1 st1 hS hs' c' a' w' hin' => ?_
  have h2 := h1 e1 st1 hS
  have out : ∀ e', e1 = e' → e' ≠ .normal → (match afterOf e' exits with
    | some l => match restXs st1.t st1.m (firsts l) with
     | some (ys, _) => some (e', ys)
     | none => none
    | none => none) = some (e, ys) → Q (exOf e') a' w' := by
   intro e' he hne h1
   subst he
   split at h1
   ·rename_i l hl
    split at h1
    ·rename_i ys' m' hr
     simp only [Option.some.injEq, Prod.mk.injEq] at h1
     obtain ⟨rfl, rfl⟩ := h1
     exact hQ l hl a' w' (LInv.of hin' hr)
    ·simp at h1
   ·simp at h1
  cases e1 with
  | normal =>
   simp only at h2
   split at h2
   ·rename_i ys1 m1 hr
    exact ih h2 a' w' (LInvV.of hin' hr) Q hQ
   ·simp at h2
  | exit i => exact out _ rfl (by simp) h2
  | ret => exact out _ rfl (by simp) h2
theorem dstsOk_ok {ops : Array Oper} (h : dstsOk N ops.toList = true) : ∀ (j : Nat) (o : Oper), ops[j]? = some o → ∀ d, o.dst = some d → d < N := fun j o ho d hd => by
 simp only [dstsOk, List.all_eq_true] at h
 have := h o (List.mem_of_getElem? (by simpa using ho))
 rw [hd] at this
 exact Nat.blt_eq.mp this
theorem evalC_ok (hT : GoodAt P sg w0 Z C.T) {k : Nat} (ac : ACode) : ∀ {code : Code} {R : Type} {r : R} {st : St} {K : Ex → St → Option R}, chkCode P sg N ac code = true → evalC C k ac R st K = some r →
  ∃ S : Ex → St → Prop, (∀ e st', S e st' → K e st' = some r) ∧ ∀ (hs : List Hd) (c : List Nat) (a : Act) (w : World), SInv sg.X C.keep N args w0 c0 Z hs c st a w → ∀ Q : Exit → Act → World → Prop,
   (∀ e st', S e st' → ∀ hs' c' a' w', SInv sg.X C.keep N args w0 c0 Z hs' c' st' a' w' → Q (exOf e) a' w') → code.wp P Q a w := by
 have one : ∀ {code : Code} {R : Type} {r : R} {st : St} {K : Ex → St → Option R}, (∃ e st', K e st' = some r ∧ ∀ (hs : List Hd) (c : List Nat) (a : Act) (w : World), SInv sg.X C.keep N args w0 c0 Z hs c st a w → ∀ Q : Exit → Act → World → Prop,
   (∀ hs' c' a' w', SInv sg.X C.keep N args w0 c0 Z hs' c' st' a' w' → Q (exOf e) a' w') → code.wp P Q a w) → ∃ S : Ex → St → Prop, (∀ e st', S e st' → K e st' = some r) ∧ ∀ (hs : List Hd) (c : List Nat) (a : Act) (w : World), SInv sg.X C.keep N args w0 c0 Z hs c st a w → ∀ Q : Exit → Act → World → Prop,
   (∀ e st', S e st' → ∀ hs' c' a' w', SInv sg.X C.keep N args w0 c0 Z hs' c' st' a' w' → Q (exOf e) a' w') → code.wp P Q a w := by
  rintro code R r st K ⟨e, st', h1, h2⟩
  exact ⟨fun e' s' => e' = e ∧ s' = st', by rintro _ _ ⟨rfl, rfl⟩; exact h1, fun hs c a w hin Q hQ => h2 hs c a w hin Q fun hs' c' a' w' hin' => hQ e st' ⟨rfl, rfl⟩ hs' c' a' w' hin'⟩
 induction ac with
 | skip =>
  intro code R r st K hc h
  cases code <;> simp only [chkCode] at hc <;> try (simp at hc; done)
  exact one ⟨.normal, st, h, fun hs c a w hin Q hQ => wp_skip (hQ _ _ _ _ hin)⟩
 | reg draw aos =>
  intro code R r st K hc h
  simp only [evalC] at h
  cases code with
  | region id ops d =>
   cases draw with
   | false =>
    cases d with
    | true => simp [chkCode] at hc
    | false =>
     simp only [chkCode, Bool.and_eq_true] at hc
     obtain ⟨st', h1, g⟩ := evalOps_ok (args := args) (w0 := w0) (c0 := c0) (Z := Z) hT ops.toList hc.2 (dstsOk_ok hc.1) h
     exact one ⟨.normal, st', h1, fun hs c a w hin Q hQ => wp_region_list (g hs c a w hin Q hQ)⟩
   | true => cases d <;> simp [chkCode] at hc
  | _ => cases draw <;> simp [chkCode] at hc
 | dreg pre head tail =>
  intro code R r st K hc h
  simp only [evalC] at h
  cases code with
  | region id ops d =>
   cases d with
   | false => simp [chkCode] at hc
   | true =>
    simp only [chkCode, Bool.and_eq_true] at hc
    obtain ⟨st', h1, g⟩ := draw_ok (args := args) (w0 := w0) (c0 := c0) (Z := Z) (id := id) hT hc.2 (dstsOk_ok hc.1) h
    exact one ⟨.normal, st', h1, fun hs c a w hin Q hQ => g hs c a w hin Q hQ⟩
  | _ => simp [chkCode] at hc
 | seq x y ihx ihy =>
  intro code R r st K hc h
  cases code <;> simp only [chkCode] at hc <;> try (simp at hc; done)
  rename_i x' y'
  simp only [Bool.and_eq_true] at hc
  simp only [evalC] at h
  obtain ⟨S1, h1, g1⟩ := ihx hc.1 h
  refine ⟨fun e st' => K e st' = some r, fun e st' h => h, fun hs c a w hin Q hQ => wp_seq (g1 hs c a w hin _ fun e1 st1 hS1 hs1 c1 a1 w1 hin1 => ?_)⟩
  have h2 := h1 e1 st1 hS1
  cases e1 with
  | normal =>
   simp only at h2
   obtain ⟨S2, h3, g2⟩ := ihy hc.2 h2
   exact g2 hs1 c1 a1 w1 hin1 Q fun e2 st2 hS2 => hQ e2 st2 (h3 e2 st2 hS2)
  | exit i => exact hQ _ st1 h2 hs1 c1 a1 w1 hin1
  | ret => exact hQ _ st1 h2 hs1 c1 a1 w1 hin1
 | cond x y z ihy ihz =>
  intro code R r st K hc h
  cases code <;> simp only [chkCode] at hc <;> try (simp at hc; done)
  rename_i x' y' z'
  simp only [Bool.and_eq_true] at hc
  simp only [evalC] at h
  split at h
  ·rename_i b hb
   have hv : ∀ (hs : List Hd) (c : List Nat) (a : Act) (w : World), SInv sg.X C.keep N args w0 c0 Z hs c st a w → a.eval x' = .bool b := fun hs c a w hin => by
    have h1 := chkOpd_ok hc.1.1 hin
    rw [hb] at h1
    exact val_of h1
   cases b with
   | true =>
    obtain ⟨S1, h1, g1⟩ := ihy hc.1.2 (by simpa using h)
    exact ⟨S1, h1, fun hs c a w hin Q hQ => wp_cond_true (hv hs c a w hin) (g1 hs c a w hin Q hQ)⟩
   | false =>
    obtain ⟨S1, h1, g1⟩ := ihz hc.2 (by simpa using h)
    exact ⟨S1, h1, fun hs c a w hin Q hQ => wp_cond_false (hv hs c a w hin) (g1 hs c a w hin Q hQ)⟩
  ·rename_i hb
   obtain ⟨ha, hb'⟩ := agree_some h
   obtain ⟨S1, h1, g1⟩ := ihy hc.1.2 ha
   obtain ⟨S2, h2, g2⟩ := ihz hc.2 hb'
   refine ⟨fun e st' => S1 e st' ∨ S2 e st', fun e st' h => h.elim (h1 e st') (h2 e st'), fun hs c a w hin Q hQ => ?_⟩
   have hv := chkOpd_ok hc.1.1 hin
   rw [hb] at hv
   generalize hu : a.eval x' = u at hv
   cases hv with
   | @ub b =>
    cases b with
    | true => exact wp_cond_true hu (g1 hs c a w hin Q fun e st' hS => hQ e st' (.inl hS))
    | false => exact wp_cond_false hu (g2 hs c a w hin Q fun e st' hS => hQ e st' (.inr hS))
  ·simp at h
 | block id b ih =>
  intro code R r st K hc h
  cases code <;> simp only [chkCode] at hc <;> try (simp at hc; done)
  rename_i id' b'
  simp only [Bool.and_eq_true, beq_iff_eq] at hc
  obtain ⟨rfl, hc⟩ := hc
  simp only [evalC] at h
  obtain ⟨S1, h1, g1⟩ := ih hc h
  refine ⟨fun e st' => K e st' = some r, fun e st' h => h, fun hs c a w hin Q hQ => wp_block (g1 hs c a w hin _ fun e1 st1 hS hs' c' a' w' hin' => ?_)⟩
  have h2 := h1 e1 st1 hS
  cases e1 with
  | normal => exact hQ _ st1 h2 hs' c' a' w' hin'
  | exit i =>
   simp only at h2
   cases hi : Nat.beq i id with
   | true =>
    have hi' := Nat.eq_of_beq_eq_true hi
    subst hi'
    simp only [hi, cond_true] at h2
    simp only [exOf, Exit.inBlock, if_true]
    exact hQ .normal st1 h2 hs' c' a' w' hin'
   | false =>
    have hi' : i ≠ id := fun e => by subst e; simp at hi
    simp only [hi, cond_false] at h2
    simp only [exOf, Exit.inBlock, hi', if_false]
    exact hQ (.exit i) st1 h2 hs' c' a' w' hin'
  | ret => exact hQ _ st1 h2 hs' c' a' w' hin'
 | loop live exits b ih =>
  intro code R r st K hc h
  cases code <;> simp only [chkCode] at hc <;> try (simp at hc; done)
  rename_i b'
  simp only [Bool.and_eq_true] at hc
  simp only [evalC] at h
  split at h
  ·rename_i xs m1 hr
   unfold afterLoop aft at h
   split at h
   ·rename_i e ys hl
    obtain ⟨l, h1, h2⟩ := onExit_some h
    have g3 := loop_ok (args := args) (w0 := w0) (c0 := c0) (Z := Z) (code := b') (fun {st r K} h => ih hc.2 h) k hl
    obtain ⟨ys', h4, g4⟩ := shapes_some (Z := Z) (afterOf_ok hc.1 h1) h2
    refine one ⟨e, wake (firsts l) ys', h4, fun hs c a w hin Q hQ => ?_⟩
    refine wp_loop_rounds k (g3 a w (LInvV.of hin hr) Q fun l' h3 a' w' hL => ?_)
    rw [h1] at h3
    cases h3
    have hL' : LInv sg C.keep N args w0 c0 Z (firsts l) ys' a' w' := by
     obtain ⟨c', e1, e2⟩ := hL.rest
     obtain ⟨c2, f1, f2⟩ := g4 sg.X w' ((firsts l).map fun i => a'.tmps.getD i undef) c' (by simp [firsts_length]) e1
     exact ⟨⟨c2, f1, e2.less f2⟩, hL.defers, hL.size, hL.keep⟩
    obtain ⟨hs', c', hin'⟩ := hL'.wake
    exact hQ hs' c' a' w' hin'
   ·simp at h
  ·simp at h
 | exit i =>
  intro code R r st K hc h
  cases code <;> simp only [chkCode] at hc <;> try (simp at hc; done)
  rename_i i'
  simp only [beq_iff_eq] at hc
  subst hc
  exact one ⟨.exit i, st, h, fun hs c a w hin Q hQ => wp_exit (hQ _ _ _ _ hin)⟩
 | ret =>
  intro code R r st K hc h
  cases code <;> simp only [chkCode] at hc <;> try (simp at hc; done)
  exact one ⟨.ret, st, h, fun hs c a w hin Q hQ => wp_ret (hQ _ _ _ _ hin)⟩
end
end Go.Am
/- AM: a function that the checker passes keeps its contract. Nothing is assumed. -/
namespace Go.Am
section
variable {X : Nat → Prop} {Z : Nat → Prop} {w : World}
theorem frozD_ok {hs : List Hd} {d : D} {v : Value} (h : FroD w Z d v) : ARel X w Z hs (frozD d) v := by
 cases d with
 | v x => cases h with | v h => exact .v h
 | s wd rows => exact .fz h
theorem frozCells_ok {hs : List Hd} {ds : Row} : ∀ {vs : List Value}, FroL w Z ds vs → ARelL X w Z hs (frozCells ds) vs := by
 induction ds with
 | nil => intro vs h; cases h; exact .nil
 | cons d ds ih => intro vs h; cases h with | cons h h' => exact .cons (frozD_ok h) (ih h')
theorem frozI_ok {hs : List Hd} {i : I} {v : Value} (h : IFro X w Z i v) : ARel X w Z hs (frozI i) v := by
 cases h with
 | d h => exact frozD_ok h
 | g h => exact .g (frozCells_ok h)
 | p hz hh h => exact .fa hz hh h
 | f hx h => exact .ff hx h
 | t h => exact .u
theorem openCells_ok {ds : Row} : ∀ {m : Mem} {hs : List Hd} {vs : List Value} {c cd : List Nat}, MemL w Z hs hs m c → OwnL w ds vs cd →
  ∃ hs' c', Ext hs hs' ∧ MemL w Z hs' hs' (openCells m ds).2 c' ∧ ARelL X w Z hs' (openCells m ds).1 vs ∧ ∀ b, c'.count b ≤ (c ++ cd).count b := by
 induction ds with
 | nil =>
  intro m hs vs c cd hm h
  cases h
  exact ⟨hs, c, Ext.refl _, hm, .nil, fun b => by simp⟩
 | cons d ds ih =>
  intro m hs vs c cd hm h
  cases h with
  | @cons _ _ v vs c1 c2 h h' =>
   cases d with
   | v x =>
    cases h with
    | v h =>
     obtain ⟨hs', c', e1, e2, e3, e4⟩ := ih hm h'
     exact ⟨hs', c', e1, e2, .cons (.v h) e3, fun b => by have := e4 b; simp only [List.nil_append]; exact this⟩
   | s wd rows =>
    obtain ⟨hd, h1, _, h3⟩ := own_node (Z := Z) h
    have hm1 : MemL w Z (hs ++ [hd]) (hs ++ [hd]) (m ++ [some ⟨wd, rows, []⟩]) (c ++ c1) := (hm.frame (fun _ h => h) (fun _ _ => rfl) (fun _ _ => rfl) (Ext.append _ _)).append (h3 _)
    obtain ⟨hs', c', e1, e2, e3, e4⟩ := ih hm1 h'
    refine ⟨hs', c', fun id x hx => e1 _ _ (Ext.append _ _ _ _ hx), e2, .cons ?_ e3, fun b => by have := e4 b; simp only [List.count_append] at *; omega⟩
    rw [h1]
    exact .r (e1 _ _ (by rw [← hm.length]; simp))
theorem openI_ok {m : Mem} {hs : List Hd} {i : I} {v : Value} {c cd : List Nat} (hm : MemL w Z hs hs m c) (h : IOwn X w i v cd) :
  ∃ hs' c', Ext hs hs' ∧ MemL w Z hs' hs' (openI m i).2 c' ∧ ARel X w Z hs' (openI m i).1 v ∧ ∀ b, c'.count b ≤ (c ++ cd).count b := by
 cases h with
 | @d d _ _ h =>
  cases d with
  | v x => cases h with | v h => exact ⟨hs, c, Ext.refl _, hm, .v h, fun b => by simp⟩
  | s wd rows =>
   obtain ⟨hd, h1, _, h3⟩ := own_node (Z := Z) h
   refine ⟨hs ++ [hd], c ++ cd, Ext.append _ _, (hm.frame (fun _ h => h) (fun _ _ => rfl) (fun _ _ => rfl) (Ext.append _ _)).append (h3 _), ?_, fun b => Nat.le_refl _⟩
   rw [h1]
   exact .r (by rw [← hm.length]; simp)
 | g h =>
  obtain ⟨hs', c', e1, e2, e3, e4⟩ := openCells_ok hm h
  exact ⟨hs', c', e1, e2, .g e3, e4⟩
 | @p row b off vs cc hh hf h =>
  have hlen := h.length
  refine ⟨hs ++ [⟨some ⟨b, off, none⟩, row.length, 1, 1⟩], c ++ (b :: cc), Ext.append _ _, (hm.frame (fun _ h => h) (fun _ _ => rfl) (fun _ _ => rfl) (Ext.append _ _)).append ?_, ?_, fun b => Nat.le_refl _⟩
  ·refine ⟨rfl, rfl, by simp, by simp, by simp, by simp, .inr ⟨b, off, vs, cc, rfl, Nat.le_refl _, hh, by simpa using hf, ?_, rfl⟩⟩
   show CRelL w Z _ (viewRows [] 0 [row]) vs cc
   rw [viewRows_nil]
   simpa using CRelL.of_own h
  ·have := ARel.a (X := X) (w := w) (Z := Z) (hs := hs ++ [⟨some ⟨b, off, none⟩, row.length, 1, 1⟩]) (id := m.length) (i := 0) (c := 0) (b := b) (off := off) (h := ⟨some ⟨b, off, none⟩, row.length, 1, 1⟩) (by rw [← hm.length]; simp) rfl (by simp)
   simpa [openI] using this
 | f hx => exact ⟨hs, c, Ext.refl _, hm, .u, fun b => by simp⟩
 | t h => exact ⟨hs, c, Ext.refl _, hm, .u, fun b => by simp⟩
theorem initArgs_ok {ms : List Mode} {is : List I} {vs : List Value} {cin : List Nat} (h : ArgsRel X w Z ms is vs cin) : ∀ {m m' : Mem} {hs : List Hd} {c : List Nat} {xs : List AV}, initArgs m ms is = some (xs, m') → MemL w Z hs hs m c →
  ∃ hs' c', Ext hs hs' ∧ MemL w Z hs' hs' m' c' ∧ ARelL X w Z hs' xs vs ∧ ∀ b, c'.count b ≤ (c ++ cin).count b := by
 induction h with
 | nil =>
  intro m m' hs c xs h hm
  simp only [initArgs, Option.some.injEq, Prod.mk.injEq] at h
  obtain ⟨rfl, rfl⟩ := h
  exact ⟨hs, c, Ext.refl _, hm, .nil, fun b => by simp⟩
 | rd h _ ih =>
  intro m m' hs c xs h' hm
  simp only [initArgs] at h'
  split at h'
  ·rename_i ys m1 h1
   simp only [Option.some.injEq, Prod.mk.injEq] at h'
   obtain ⟨rfl, rfl⟩ := h'
   obtain ⟨hs', c', e1, e2, e3, e4⟩ := ih h1 hm
   exact ⟨hs', c', e1, e2, .cons (frozI_ok h) e3, e4⟩
  ·simp at h'
 | own h _ ih =>
  intro m m' hs c xs h' hm
  simp only [initArgs] at h'
  obtain ⟨hs1, c1, f1, f2, f3, f4⟩ := openI_ok hm h
  split at h'
  ·rename_i ys m1 h1
   simp only [Option.some.injEq, Prod.mk.injEq] at h'
   obtain ⟨rfl, rfl⟩ := h'
   obtain ⟨hs', c', e1, e2, e3, e4⟩ := ih h1 f2
   exact ⟨hs', c', fun id x hx => e1 _ _ (f1 _ _ hx), e2, .cons (f3.frame (fun _ h => h) (fun _ _ => rfl) e1) e3, fun b => by have := e4 b; have := f4 b; simp only [List.count_append] at *; omega⟩
  ·simp at h'
 | lent h _ ih =>
  intro m m' hs c xs h' hm
  simp only [initArgs] at h'
  obtain ⟨hs1, c1, f1, f2, f3, f4⟩ := openI_ok hm h
  split at h'
  ·rename_i ys m1 h1
   simp only [Option.some.injEq, Prod.mk.injEq] at h'
   obtain ⟨rfl, rfl⟩ := h'
   obtain ⟨hs', c', e1, e2, e3, e4⟩ := ih h1 f2
   exact ⟨hs', c', fun id x hx => e1 _ _ (f1 _ _ hx), e2, .cons (f3.frame (fun _ h => h) (fun _ _ => rfl) e1) e3, fun b => by have := e4 b; have := f4 b; simp only [List.count_append] at *; omega⟩
  ·simp at h'
theorem setArgs_ok {hs : List Hd} {f : Nat → Value} {xs : List AV} : ∀ {t : Tmps} {i : Nat} {vs : List Value}, (∀ j, ARel X w Z hs (t j) (f j)) → ARelL X w Z hs xs vs → (∀ k v, vs[k]? = some v → f (i + k) = v) → ∀ j, ARel X w Z hs (setArgs t i xs j) (f j) := by
 induction xs with
 | nil => intro t i vs ht _ _ j; exact ht j
 | cons x xs ih =>
  intro t i vs ht hx hf j
  cases hx with
  | cons hx hx' =>
   simp only [setArgs]
   refine ih (fun j => ?_) hx' (fun k v hk => by
    have := hf (k + 1) v (by simpa using hk)
    rwa [show i + 1 + k = i + (k + 1) by omega]) j
   unfold upd
   cases hj : Nat.beq j i with
   | true =>
    have := Nat.eq_of_beq_eq_true hj
    subst this
    have := hf 0 _ rfl
    simp only [Nat.add_zero] at this
    rw [this]
    exact hx
   | false => exact ht j
theorem lent_back {ms : List Mode} : ∀ {i : Nat} {vs : List Value} {bs : List I} {c : List Nat} {f : Nat → Value}, ms.length = vs.length → (∀ k v, vs[k]? = some v → f (i + k) = v) →
  IOwnL X w bs ((lentOf i ms).map f) c → BackRel X w ms vs bs c := by
 induction ms with
 | nil =>
  intro i vs bs c f hl hf h
  cases vs with
  | cons => simp at hl
  | nil =>
   simp only [lentOf, List.map_nil] at h
   cases h
   exact .nil
 | cons md ms ih =>
  intro i vs bs c f hl hf h
  cases vs with
  | nil => simp at hl
  | cons v vs =>
   simp only [List.length_cons, Nat.add_right_cancel_iff] at hl
   have hf' : ∀ k v, vs[k]? = some v → f (i + 1 + k) = v := fun k v hk => by
    have := hf (k + 1) v (by simpa using hk)
    rwa [show i + 1 + k = i + (k + 1) by omega]
   cases md with
   | rd => exact .rd (ih hl hf' h)
   | own => exact .own (ih hl hf' h)
   | lent =>
    simp only [lentOf, List.map_cons] at h
    have h0 := hf 0 v rfl
    simp only [Nat.add_zero] at h0
    cases h with
    | cons h h' => rw [h0] at h; exact .lent h (ih hl hf' h')
end
def chkRes (P : Program) : List RV → List ResultVar → Bool
 | [], [] => true
 | .t i :: l, .tmp j :: l' => i == j && chkRes P l l'
 | .c i agg ks :: l, .cell j t :: l' => i == j && aggB P t == some agg && sizeIs P t ks.length && chkRes P l l'
 | _, _ => false
def resultOf (tmps : Array Value) : ResultVar → Sem Value
 | .tmp t => pure (tmps.getD t undef)
 | .cell a t => do loadVar t (← asAddr (tmps.getD a undef))
section
variable {P : Program} {sg : Sigs} {X : Nat → Prop} {Z : Nat → Prop} {R : Type} {r : R}
theorem run_loadVar {w : World} {t : TypeId} {agg : Bool} {ti : TypeInfo} {b o : Nat} {vs : List Value} (ha : aggB P t = some agg) (hi : P.info? t = some ti) (hl : vs.length = ti.size)
  (h : ∀ k v, vs[k]? = some v → Holds w b (o + k) [v]) {y : Value} (hy : (agg = true ∧ y = .agg vs.toArray) ∨ (agg = false ∧ vs = [y])) :
  (loadVar t ⟨b, o, none⟩).run P w = .ok y w := by
 have hc : ∀ j v, vs[j]? = some v → w.cell? ((⟨b, o, none⟩ : Addr).add j) = some v := fun j v hj => by
  rw [addr_add]; exact (h j v hj).cell
 rcases hy with ⟨rfl, rfl⟩ | ⟨rfl, rfl⟩
 ·have := run_loadCells_list (P := P) (w := w) ⟨b, o, none⟩ vs hc
  simp [loadVar, run_isAgg ha, run_sizeOf' hi, ← hl, this]
 ·have := hc 0 y rfl
  rw [addr_add, Nat.add_zero] at this
  simp [loadVar, run_isAgg ha, load, Sem.run, this]
theorem resVals_ok {t : Tmps} {l : List RV} : ∀ {l' : List ResultVar} {m : Mem} {K : List AV → Mem → Option R}, chkRes P l l' = true → resVals t l m K = some r →
  ∃ xs m', K xs m' = some r ∧ ∀ (w : World) (hs : List Hd) (c : List Nat) (tmps : Array Value), MemL w Z hs hs m c → (∀ i, ARel X w Z hs (t i) (tmps.getD i undef)) →
   ∃ hs' c' vs, Ext hs hs' ∧ MemL w Z hs' hs' m' c' ∧ (∀ b, c'.count b = c.count b) ∧ ARelL X w Z hs' xs vs ∧ (l'.mapM (resultOf tmps)).run P w = .ok vs w := by
 induction l with
 | nil =>
  intro l' m K hc h
  cases l' with
  | cons x _ => cases x <;> simp [chkRes] at hc
  | nil => exact ⟨[], m, h, fun w hs c tmps hm _ => ⟨hs, c, [], Ext.refl _, hm, fun _ => rfl, .nil, by simp⟩⟩
 | cons x l ih =>
  intro l' m K hc h
  cases l' with
  | nil => cases x <;> simp [chkRes] at hc
  | cons x' l' =>
   cases x with
   | t i =>
    cases x' with
    | cell => simp [chkRes] at hc
    | tmp j =>
     simp only [chkRes, Bool.and_eq_true, beq_iff_eq] at hc
     obtain ⟨rfl, hc⟩ := hc
     simp only [resVals] at h
     obtain ⟨xs, m', h1, g⟩ := ih hc h
     refine ⟨t i :: xs, m', h1, fun w hs c tmps hm ht => ?_⟩
     obtain ⟨hs', c', vs, e1, e2, e3, e4, e5⟩ := g w hs c tmps hm ht
     refine ⟨hs', c', tmps.getD i undef :: vs, e1, e2, e3, .cons ((ht i).frame (fun _ h => h) (fun _ _ => rfl) e1) e4, ?_⟩
     simp only [List.mapM_cons, resultOf, Sem.run_bind, Sem.run_pure, Result.andThen_ok, e5]
   | c i agg ks =>
    cases x' with
    | tmp => simp [chkRes] at hc
    | cell j ty =>
     simp only [chkRes, Bool.and_eq_true, beq_iff_eq] at hc
     obtain ⟨⟨⟨rfl, ha⟩, hs⟩, hc⟩ := hc
     obtain ⟨ti, hi, hsz⟩ := sizeIs_some hs
     simp only [resVals] at h
     split at h
     ·rename_i id ii cc ex
      obtain ⟨ys, m1, h, hl, g1⟩ := ldOs_some (X := X) (Z := Z) h
      split at h
      ·rename_i y hy
       obtain ⟨xs, m', h1, g⟩ := ih hc h
       refine ⟨y :: xs, m', h1, fun w hs c tmps hm ht => ?_⟩
       have hp := ht i
       rw [ex] at hp
       generalize hv : tmps.getD i undef = u at hp
       cases hp with
       | @a _ _ _ b off hd hh hb hil =>
        obtain ⟨hs1, c1, us, b1, b2, b3, b4, b5, b6⟩ := g1 w hs c hd b off hm hh hb
        obtain ⟨v, hv1, hv2⟩ : ∃ v, ((agg = true ∧ v = Value.agg us.toArray) ∨ (agg = false ∧ us = [v])) ∧ ARel X w Z hs1 y v := by
         cases agg with
         | true =>
          simp only [mkAgg, Option.some.injEq] at hy
          subst hy
          exact ⟨_, .inl ⟨rfl, rfl⟩, .g b4⟩
         | false =>
          match ys, hy with
          | [z], hy =>
           simp only [mkAgg, Option.some.injEq] at hy
           subst hy
           cases b4 with | cons q1 q2 => cases q2; exact ⟨_, .inr ⟨rfl, rfl⟩, q1⟩
          | [], hy => simp [mkAgg] at hy
          | _ :: _ :: _, hy => simp [mkAgg] at hy
        have hrun := run_loadVar (P := P) (w := w) ha hi (by rw [b5, hsz]) b6 hv1
        obtain ⟨hs2, c2, vs, e1, e2, e3, e4, e5⟩ := g w hs1 c1 tmps b2 fun i => (ht i).frame (fun _ h => h) (fun _ _ => rfl) b1
        refine ⟨hs2, c2, v :: vs, fun id x hx => e1 _ _ (b1 _ _ hx), e2, fun x => by rw [e3, b3], .cons (hv2.frame (fun _ h => h) (fun _ _ => rfl) e1) e4, ?_⟩
        simp only [List.mapM_cons, resultOf, Sem.run_bind, Sem.run_pure, Result.andThen_ok, e5, hv, asAddr, hrun]
      ·simp at h
     ·simp at h
theorem run_results {fn : Func} {w : World} {tmps : Array Value} {vs : List Value} (h : (fn.results.toList.mapM (resultOf tmps)).run P w = .ok vs w) :
  (results fn tmps).run P w = .ok (if vs.length = 1 then vs.headD undef else .tuple vs.toArray) w := by
 have h1 : (fn.results.mapM (resultOf tmps)).run P w = .ok vs.toArray w := by
  have : fn.results = fn.results.toList.toArray := by simp
  rw [this, List.mapM_toArray]
  simp only [map_eq_pure_bind, Sem.run_bind, h, Result.andThen_ok, Sem.run_pure]
 have h2 : results fn tmps = (do let vs ← fn.results.mapM (resultOf tmps); pure (if h : vs.size = 1 then vs[0] else .tuple vs)) := by
  unfold results
  congr 1
 rw [h2]
 simp only [Sem.run_bind, h1, Result.andThen_ok, Sem.run_pure]
 match vs with
 | [] => simp
 | [v] => simp
 | _ :: _ :: _ => simp
end
def chkFun (P : Program) (sg : Sigs) (fn : Nat) (af : AFun) : Bool := match P.funcs[fn]? with
 | some f => (match f.body with
  | some c => !af.fz && f.name != "runtime.NumGoroutine" && Nat.ble af.modes.length f.ntmps && (sg.modes fn af.modes.length == af.modes) && chkRes P af.results f.results.toList && chkCode P sg f.ntmps af.code c
  | none => false)
 | none => false
theorem evalF_ok {P : Program} {sg : Sigs} {T : Table} {fn k : Nat} {af : AFun} {is : List I} {out : Out} {K : Src} (hT : Good P sg K T) (hc : chkFun P sg fn af = true) (hl : is.length = af.modes.length) (h : evalF T k af is = some out) : Sat P sg K fn is out := by
 unfold chkFun at hc
 split at hc
 ·rename_i f hf
  split at hc
  ·rename_i c hb
   simp only [Bool.and_eq_true, Bool.not_eq_true', bne_iff_ne, ne_eq, beq_iff_eq] at hc
   obtain ⟨⟨⟨⟨⟨hfz, hname⟩, hnt⟩, hmod⟩, hres⟩, hcode⟩ := hc
   have hnt := Nat.le_of_ble_eq_true hnt
   intro w Z vs cin hpin ha hw
   rw [hl, hmod] at ha
   unfold evalF at h
   split at h
   ·rename_i xs m hini
    obtain ⟨hs, c', _, e2, e3, e4⟩ := initArgs_ok ha hini .nil
    have hlen := ha.lengths
    have hvl : vs.length = af.modes.length := by rw [hlen.2, hl]
    let a0 : Act := { tmps := vs.toArray ++ Array.replicate (f.ntmps - vs.toArray.size) undef, defers := [] }
    have hget : ∀ k v, vs[k]? = some v → a0.tmps.getD k undef = v := fun k v hk => by
     have hlt := (List.getElem?_eq_some_iff.1 hk).1
     simp only [a0, Array.getD_eq_getD_getElem?]
     rw [Array.getElem?_append_left (by simpa using hlt)]
     simp [hk]
    have hin : SInv sg.X (lentOf 0 af.modes) f.ntmps (fun i => a0.tmps.getD i undef) w cin Z hs c' ⟨setArgs none_ 0 xs, m⟩ a0 w := by
     refine ⟨e2, setArgs_ok (fun i => .u) e3 (fun k v hk => by simpa using hget k v hk), hw.less fun b => by simpa using e4 b, rfl, ?_, fun _ _ => rfl⟩
     simp only [a0, Array.size_append, List.size_toArray, Array.size_replicate]
     omega
    obtain ⟨S, h1, g⟩ := evalC_ok (N := f.ntmps) (args := fun i => a0.tmps.getD i undef) (w0 := w) (c0 := cin) (Z := Z) (C := ⟨T, lentOf 0 af.modes, []⟩) (hT.at hpin) af.code hcode h
    have henter : (callFunc fn vs.toArray).run P w = .ok (.enter fn vs.toArray) w := by
     simp [callFunc, hf, hname, hb]
    refine .inl ⟨henter, calls_of_wp hf hb (g hs c' a0 w hin _ fun e st' hS hs' c2 a' w' hin' => ?_)⟩
    have h1 := h1 e st' hS
    have hne : (∀ i, e ≠ .exit i) ∧ leave af st' = some out := by
     cases e with
     | exit i => simp at h1
     | normal => exact ⟨by simp, h1⟩
     | ret => exact ⟨by simp, h1⟩
    obtain ⟨hne, hleave⟩ := hne
    unfold leave at hleave
    obtain ⟨ys, m', h2, gr⟩ := resVals_ok (P := P) (X := sg.X) (Z := Z) hres hleave
    obtain ⟨hs3, c3, us, r1, r2, r3, r4, r5⟩ := gr w' hs' c2 a'.tmps hin'.mem hin'.tmp
    split at h2
    ·rename_i back m4 hback
     rw [hfz] at h2
     simp only at h2
     split at h2
     ·rename_i rs m5 hrs
      simp only [Option.some.injEq] at h2
      subst h2
      have htemps : ∀ l : List Nat, ARelL sg.X w' Z hs3 (temps st'.t l) (l.map fun i => a'.tmps.getD i undef) := fun l => by
       induction l with
       | nil => exact .nil
       | cons i l ih => exact .cons ((hin'.tmp i).frame (fun _ h => h) (fun _ _ => rfl) r1) ih
      obtain ⟨c4, cb, b1, b2, b3⟩ := takeIs_ok hback (htemps _) r2
      obtain ⟨c5, cr, d1, d2, d3⟩ := takeIs_ok hrs r4 b2
      have hval : (results f a'.tmps).run P w' = .ok (if us.length = 1 then us.headD undef else .tuple us.toArray) w' := run_results r5
      have hown : IOwn sg.X w' (resI rs) (if us.length = 1 then us.headD undef else .tuple us.toArray) cr := by
       have hl2 := d1.length
       match rs, us, d1, hl2 with
       | [x], [u], d1, _ =>
        cases d1 with
        | cons q1 q2 => cases q2; simpa [resI] using q1
       | [], [], d1, _ => cases d1; exact .t (by simpa using IOwnL.nil)
       | _ :: _ :: _, u1 :: u2 :: us, d1, _ =>
        simp only [resI, List.length_cons]
        rw [if_neg (by omega)]
        exact .t (by simpa using d1)
      have hbk : BackRel sg.X w' af.modes vs back cb := by
       refine lent_back (i := 0) (f := fun i => a0.tmps.getD i undef) (by omega) (fun k v hk => by simpa using hget k v hk) ?_
       have : (lentOf 0 af.modes).map (fun i => a'.tmps.getD i undef) = (lentOf 0 af.modes).map (fun i => a0.tmps.getD i undef) := List.map_congr_left fun i hi => hin'.keep i hi
       rw [← this]
       exact b1
      have hpost : ∃ v cres cbk, Ending.returned (if us.length = 1 then us.headD undef else .tuple us.toArray) = .returned v ∧ IOwn sg.X w' (resI rs) v cres ∧ BackRel sg.X w' (sg.modes fn is.length) vs back cbk ∧ WInv w cin Z w' (cres ++ cbk) := by
       refine ⟨_, cr, cb, rfl, hown, by rw [hl, hmod]; exact hbk, hin'.win.less fun b => ?_⟩
       have := r3 b
       have := b3 b
       have := d3 b
       simp only [List.count_append] at *
       omega
      cases e with
      | exit i => exact absurd rfl (hne i)
      | normal => exact ⟨hin'.defers, _, hval, hpost⟩
      | ret => exact ⟨hin'.defers, _, hval, hpost⟩
     ·simp at h2
    ·simp at h2
   ·simp at h
  ·simp at hc
 ·simp at hc
end Go.Am
/- AM: the table that says nothing. Nothing is assumed. -/
namespace Go.Am
theorem good_none {P : Program} {sg : Sigs} {K : Src} : Good P sg K fun _ _ => none := ⟨fun fn is o h => by simp at h, fun mk b n c i o h => by simp at h⟩
end Go.Am
/- AM: what is handed to a law is frozen data of a known shape. Nothing is assumed. -/
namespace Go.Am
inductive Sh where
 | i (k : IntKind)
 | b
 | s
 | sl (t : TypeId)
def shFields (sh : TypeId → Option (List Sh)) (P : Program) : List Field → Nat → Option (List Sh)
 | [], _ => some []
 | f :: fs, off => if f.offset = off then (match sh f.type, shFields sh P fs (off + P.cellsOf f.type) with
  | some a, some b => some (a ++ b)
  | _, _ => none) else none
def sizes (P : Program) : List Field → Nat
 | [] => 0
 | f :: fs => P.cellsOf f.type + sizes P fs
def shRep (ks : List Sh) : Nat → List Sh
 | 0 => []
 | n + 1 => ks ++ shRep ks n
def shOf (P : Program) : Nat → TypeId → Option (List Sh)
 | 0, _ => none
 | n + 1, t => match P.underlying t with
  | some .bool => some [.b]
  | some (.int k) => some [.i k]
  | some .string => some [.s]
  | some (.slice e) => some [.sl e]
  | some (.struct fs) => if sizes P fs.toList = P.cellsOf t then shFields (shOf P n) P fs.toList 0 else none
  | some (.array m e) => if m * P.cellsOf e = P.cellsOf t then (shOf P n e).map fun ks => shRep ks m else none
  | _ => none
def shE (P : Program) (t : TypeId) : List Sh := (shOf P 20 t).getD []
mutual
inductive ShD (E : TypeId → List Sh) : Sh → D → Prop
 | i {k : IntKind} {n : Int} (h0 : k.min ≤ n) (h1 : n ≤ k.max) : ShD E (.i k) (.v (.int k n))
 | b {x : Bool} : ShD E .b (.v (.bool x))
 | s {x : ByteArray} (h : x.size ≤ maxLen) : ShD E .s (.v (.string x))
 | sl {t : TypeId} {rows : Rows} (hl : rows.length ≤ maxLen) (h : ShR E (E t) rows) : ShD E (.sl t) (.s (E t).length rows)
inductive ShL (E : TypeId → List Sh) : List Sh → Row → Prop
 | nil : ShL E [] []
 | cons {k : Sh} {ks : List Sh} {d : D} {ds : Row} (h : ShD E k d) (h' : ShL E ks ds) : ShL E (k :: ks) (d :: ds)
inductive ShR (E : TypeId → List Sh) : List Sh → Rows → Prop
 | nil {ks : List Sh} : ShR E ks []
 | cons {ks : List Sh} {r : Row} {rs : Rows} (h : ShL E ks r) (h' : ShR E ks rs) : ShR E ks (r :: rs)
end
theorem ShL.length {E : TypeId → List Sh} {ks : List Sh} : ∀ {ds : Row}, ShL E ks ds → ds.length = ks.length := by
 induction ks with
 | nil => intro ds h; cases h; rfl
 | cons k ks ih => intro ds h; cases h with | cons h h' => simp [ih h']
theorem ShL.append {E : TypeId → List Sh} {ks js : List Sh} : ∀ {ds es : Row}, ShL E ks ds → ShL E js es → ShL E (ks ++ js) (ds ++ es) := by
 induction ks with
 | nil => intro ds es h h'; cases h; simpa using h'
 | cons k ks ih => intro ds es h h'; cases h with | cons h h1 => simpa using ShL.cons h (ih h1 h')
theorem ShR.snoc {E : TypeId → List Sh} {ks : List Sh} {rs : Rows} {r : Row} (h : ShR E ks rs) (hr : ShL E ks r) : ShR E ks (rs ++ [r]) := by
 induction rs with
 | nil => exact .cons hr .nil
 | cons x rs ih => cases h with | cons h h' => exact .cons h (ih h')
theorem ShR.mem {E : TypeId → List Sh} {ks : List Sh} {rs : Rows} (h : ShR E ks rs) : ∀ r ∈ rs, ShL E ks r := by
 induction rs with
 | nil => simp
 | cons x rs ih =>
  cases h with
  | cons h h' =>
   intro r hr
   rcases List.mem_cons.1 hr with rfl | hr
   ·exact h
   ·exact ih h' r hr
def slIn (L : List TypeId) (ks : List Sh) : Bool := ks.all fun k => match k with | .sl e => L.contains e | _ => true
def closedB (P : Program) (L : List TypeId) : Bool := L.all fun e => match shOf P 20 e with
 | some ks => slIn L ks && ks.length == P.cellsOf e && !ks.isEmpty
 | none => false
theorem mapM_some {α β : Type} {f : α → Option β} : ∀ {l : List α} {r : List β}, l.mapM f = some r → r.length = l.length ∧ ∀ (i : Nat) (x : α), l[i]? = some x → ∃ y, r[i]? = some y ∧ f x = some y := by
 intro l
 induction l with
 | nil => intro r h; simp at h; subst h; simp
 | cons x l ih =>
  intro r h
  simp only [List.mapM_cons, Option.bind_eq_bind, Option.bind_eq_some_iff, Option.pure_def, Option.some.injEq] at h
  obtain ⟨y, hy, r', hr', rfl⟩ := h
  obtain ⟨h1, h2⟩ := ih hr'
  refine ⟨by simp [h1], fun i z hz => ?_⟩
  cases i with
  | zero => simp at hz; subst hz; exact ⟨y, rfl, hy⟩
  | succ i => simpa using h2 i z (by simpa using hz)
theorem cells?_some {w : World} {a : Addr} {n : Nat} {vs : List Value} (h : w.cells? 0 a n = some vs) : vs.length = n ∧ ∀ j v, vs[j]? = some v → w.cell? (a.add j) = some v := by
 unfold World.cells? at h
 simp only [Nat.zero_le, if_true] at h
 obtain ⟨h1, h2⟩ := mapM_some h
 refine ⟨by simpa using h1, fun j v hj => ?_⟩
 have hlt : j < n := by
  have := (List.getElem?_eq_some_iff.1 hj).1
  rw [h1] at this
  simpa using this
 obtain ⟨y, hy, hf⟩ := h2 j j (by simp [hlt])
 rw [hj] at hy
 cases hy
 exact hf
theorem add_add (a : Addr) (x y : Nat) : (a.add x).add y = a.add (x + y) := by
 unfold Addr.add
 by_cases hx : x = 0
 ·subst hx; simp
 ·by_cases hy : y = 0
  ·subst hy; simp
  ·have : ¬ (x + y = 0) := by omega
   simp [hx, hy, Nat.add_assoc]
theorem holds_of {w : World} {a : Addr} {vs : List Value} (h : ∀ j v, vs[j]? = some v → w.cell? (a.add j) = some v) (hne : vs ≠ []) : a = ⟨a.block, a.off, none⟩ ∧ a.block < w.heap.size ∧ Holds w a.block a.off vs := by
 obtain ⟨v, vs', rfl⟩ := List.exists_cons_of_ne_nil hne
 have h0 := h 0 v rfl
 have ha : a.add 0 = a := by simp [Addr.add]
 rw [ha] at h0
 unfold World.cell? at h0
 split at h0
 ·rename_i c t fz hc
  split at h0
  ·simp at h0
  ·rename_i hs
   have hspot : a.spot = none := by simpa using hs
   have hae : a = ⟨a.block, a.off, none⟩ := by cases a; simp at hspot; simp [hspot]
   refine ⟨hae, ?_, ⟨c, t, fz, hc, fun k u hk => ?_⟩⟩
   ·rcases Nat.lt_or_ge a.block w.heap.size with h | h
    ·exact h
    ·simp [Array.getElem?_eq_none h] at hc
   ·have := h k u hk
    rw [hae, addr_add] at this
    simpa [World.cell?, hc] using this
 ·simp at h0
section
variable {P : Program} {H : Type} {enc : TypeId × Value → H} {W : World} {sp : Nat → Bool} {held : Bool}
abbrev Old (W : World) : Nat → Prop := fun b => b < W.heap.size
def TrodOk (P : Program) (W : World) (L : List TypeId) (run : TypeId → List Value → Prop) : Prop :=
 ∀ (n : Nat) (t : TypeId) (cs : List Value) (ks : List Sh), run t cs → shOf P n t = some ks → slIn L ks = true → ∃ ds, ShL (shE P) ks ds ∧ FroL W (Old W) ds cs
theorem slIn_append {L : List TypeId} {a b : List Sh} (h : slIn L (a ++ b) = true) : slIn L a = true ∧ slIn L b = true := by
 simpa [slIn, List.all_append] using h
theorem trodFields_ok {L : List TypeId} {run : TypeId → List Value → Prop} (ih : TrodOk P W L run) {n : Nat} {cs : List Value} (fs : List Field) : ∀ {off : Nat} {ks : List Sh},
  (∀ f ∈ fs, run f.type ((cs.drop f.offset).take (P.cellsOf f.type))) → shFields (shOf P n) P fs off = some ks → slIn L ks = true →
  ∃ ds, ShL (shE P) ks ds ∧ FroL W (Old W) ds ((cs.drop off).take (sizes P fs)) := by
 induction fs with
 | nil =>
  intro off ks _ h _
  simp only [shFields, Option.some.injEq] at h
  subst h
  exact ⟨[], .nil, by simpa [sizes] using FroL.nil⟩
 | cons f fs ihf =>
  intro off ks hr h hs
  simp only [shFields] at h
  split at h
  ·rename_i ho
   split at h
   ·rename_i a b ha hb
    simp only [Option.some.injEq] at h
    subst h
    obtain ⟨h1, h2⟩ := slIn_append hs
    obtain ⟨ds, d1, d2⟩ := ih n f.type _ a (hr f (by simp)) ha h1
    rw [ho] at d2
    obtain ⟨es, e1, e2⟩ := ihf (fun g hg => hr g (by simp [hg])) hb h2
    refine ⟨ds ++ es, d1.append e1, ?_⟩
    simp only [sizes]
    rw [List.take_add, List.drop_drop]
    exact d2.append e2
   ·simp at h
  ·simp at h
theorem trodRep_ok {L : List TypeId} {run : TypeId → List Value → Prop} (ih : TrodOk P W L run) {n : Nat} {e : TypeId} {ks : List Sh} {cs : List Value} (hk : shOf P n e = some ks) (m : Nat) : ∀ (i : Nat),
  (∀ j, j < m → run e ((cs.drop ((i + j) * P.cellsOf e)).take (P.cellsOf e))) → slIn L (shRep ks m) = true → ∃ ds, ShL (shE P) (shRep ks m) ds ∧ FroL W (Old W) ds ((cs.drop (i * P.cellsOf e)).take (m * P.cellsOf e)) := by
 induction m with
 | zero => intro i _ _; exact ⟨[], .nil, by simpa using FroL.nil⟩
 | succ m ihm =>
  intro i hr hs
  obtain ⟨h1, h2⟩ := slIn_append (a := ks) (b := shRep ks m) hs
  obtain ⟨ds, d1, d2⟩ := ih n e _ ks (hr 0 (by omega)) hk h1
  obtain ⟨es, e1, e2⟩ := ihm (i + 1) (fun j hj => by
   have := hr (j + 1) (by omega)
   rwa [show i + 1 + j = i + (j + 1) by omega]) h2
  refine ⟨ds ++ es, d1.append e1, ?_⟩
  have : (m + 1) * P.cellsOf e = P.cellsOf e + m * P.cellsOf e := by rw [Nat.add_mul]; omega
  rw [this, List.take_add, List.drop_drop]
  rw [Nat.add_mul, Nat.one_mul] at e2
  simpa using d2.append e2
theorem trodElems_ok {L : List TypeId} {run : TypeId → List Value → Prop} (ih : TrodOk P W L run) {e : TypeId} {a : Addr} {ks : List Sh} (hk : shOf P 20 e = some ks) (hs : slIn L ks = true) (m : Nat)
  (hr : ∀ i, i < m → ∃ vs, W.cells? 0 (a.add (i * P.cellsOf e)) (P.cellsOf e) = some vs ∧ run e vs) :
  ∃ rows vs, rows.length = m ∧ vs.length = m * P.cellsOf e ∧ ShR (shE P) ks rows ∧ FroL W (Old W) rows.flatten vs ∧ ∀ j v, vs[j]? = some v → W.cell? (a.add j) = some v := by
 induction m with
 | zero => exact ⟨[], [], rfl, by simp, .nil, .nil, by simp⟩
 | succ m ihm =>
  obtain ⟨rows, vs, h1, h2, h3, h4, h5⟩ := ihm fun i hi => hr i (by omega)
  obtain ⟨us, hu, hrun⟩ := hr m (by omega)
  obtain ⟨g1, g2⟩ := cells?_some hu
  obtain ⟨ds, d1, d2⟩ := ih 20 e us ks hrun hk hs
  refine ⟨rows ++ [ds], vs ++ us, by simp [h1], by simp [h2, g1, Nat.add_mul], h3.snoc d1, by simpa using h4.append d2, fun j v hj => ?_⟩
  rw [List.getElem?_append] at hj
  split at hj
  ·exact h5 j v hj
  ·rename_i hge
   have := g2 _ _ hj
   rw [add_add] at this
   rwa [show m * P.cellsOf e + (j - vs.length) = j by omega] at this
theorem trod_ok {L : List TypeId} (hL : closedB P L = true) (fuel : Nat) : TrodOk P W L fun t cs => ∃ d ps, DataW.trod enc P W 0 sp held fuel t cs = some (d, ps) := by
 induction fuel with
 | zero => intro n t cs ks ⟨d, ps, h⟩; simp [DataW.trod] at h
 | succ fuel ih =>
  intro n t cs ks ⟨d, ps, h⟩ hk hs
  cases n with
  | zero => simp [shOf] at hk
  | succ n =>
   simp only [shOf] at hk
   unfold DataW.trod at h
   split at hk
   ·rename_i hu
    simp only [Option.some.injEq] at hk
    subst hk
    rw [hu] at h
    split at h <;> try (simp_all; done)
    rename_i e1 e2
    exact ⟨[.v (.bool _)], .cons .b .nil, .cons (.v trivial) .nil⟩
   ·rename_i k hu
    simp only [Option.some.injEq] at hk
    subst hk
    rw [hu] at h
    split at h <;> try (simp_all; done)
    rename_i e1
    cases e1
    split at h
    ·rename_i hw
     obtain ⟨rfl, hw⟩ := hw
     simp only [Lit.wf, Bool.and_eq_true, decide_eq_true_eq] at hw
     exact ⟨[.v (.int _ _)], .cons (.i hw.1 hw.2) .nil, .cons (.v trivial) .nil⟩
    ·simp at h
   ·rename_i hu
    simp only [Option.some.injEq] at hk
    subst hk
    rw [hu] at h
    split at h <;> try (simp_all; done)
    split at h
    ·rename_i hsz
     exact ⟨[.v (.string _)], .cons (.s hsz) .nil, .cons (.v trivial) .nil⟩
    ·simp at h
   ·rename_i e hu
    simp only [Option.some.injEq] at hk
    subst hk
    rw [hu] at h
    have hin : e ∈ L := by simpa [slIn] using hs
    have hcl := List.all_eq_true.1 hL e hin
    split at hcl
    ·rename_i ks' hk'
     simp only [Bool.and_eq_true, beq_iff_eq, Bool.not_eq_true'] at hcl
     obtain ⟨⟨hc1, hc2⟩, hc3⟩ := hcl
     have hE : shE P e = ks' := by simp [shE, hk']
     split at h <;> try (simp_all; done)
     ·exact ⟨[.s (shE P e).length []], .cons (.sl (by simp) .nil) .nil, .cons .z .nil⟩
     ·rename_i e' a len cap e1
      cases e1
      simp only at h
      split at h
      ·rename_i hb
       obtain ⟨_, hlc, hcm⟩ := hb
       cases hel : (List.range len).mapM fun i => (W.cells? 0 (a.add (i * P.cellsOf e)) (P.cellsOf e)).bind (DataW.trod enc P W 0 sp held fuel e) with
       | none => rw [hel] at h; simp at h
       | some elems =>
        obtain ⟨_, g2⟩ := mapM_some hel
        obtain ⟨rows, vs, r1, r2, r3, r4, r5⟩ := trodElems_ok ih hk' hc1 len fun i hi => by
         obtain ⟨y, _, hy⟩ := g2 i i (by simp [hi])
         obtain ⟨us, hus, hy⟩ := Option.bind_eq_some_iff.1 hy
         exact ⟨us, hus, y.1, y.2, hy⟩
        refine ⟨[.s (shE P e).length rows], .cons (.sl (by rw [r1]; have : Go.maxLen = maxLen := rfl; omega) (by rw [hE]; exact r3)) .nil, .cons ?_ .nil⟩
        by_cases h0 : rows = []
        ·subst h0
         simp only [List.length_nil] at r1
         subst r1
         exact .z
        ·have hpos : 0 < rows.length := List.length_pos_iff.2 h0
         have hkpos : 0 < ks'.length := List.length_pos_iff.2 (by simpa using hc3)
         have hne : vs ≠ [] := by
          intro hv
          rw [hv] at r2
          simp only [List.length_nil] at r2
          have : 0 < len * P.cellsOf e := Nat.mul_pos (by omega) (by omega)
          omega
         obtain ⟨ha, hb, hh⟩ := holds_of r5 hne
         rw [ha, ← r1]
         exact .s (fun r hr => by rw [hE]; exact (r3.mem r hr).length) (by omega) hb hh r4
      ·simp at h
    ·simp at hcl
   ·rename_i fs hu
    rw [hu] at h
    split at hk
    ·rename_i hsz
     have h' : (if cs.length = P.cellsOf t then (fs.toList.mapM fun f => DataW.trod enc P W 0 sp held fuel f.type ((cs.drop f.offset).take (P.cellsOf f.type))).map fun xs => (DataW.agg (xs.map (·.1)), xs.flatMap (·.2)) else none) = some (d, ps) := by
      split at h <;> simp_all
     split at h'
     ·rename_i hl
      cases hel : fs.toList.mapM fun f => DataW.trod enc P W 0 sp held fuel f.type ((cs.drop f.offset).take (P.cellsOf f.type)) with
      | none => rw [hel] at h'; simp at h'
      | some xs =>
       obtain ⟨_, g2⟩ := mapM_some hel
       obtain ⟨ds, d1, d2⟩ := trodFields_ok ih (n := n) (cs := cs) fs.toList (fun f hf => by
        obtain ⟨i, hi⟩ := List.getElem?_of_mem hf
        obtain ⟨y, _, hy⟩ := g2 i f hi
        exact ⟨y.1, y.2, hy⟩) hk hs
       rw [hsz, ← hl, List.drop_zero, List.take_length] at d2
       exact ⟨ds, d1, d2⟩
     ·simp at h'
    ·simp at hk
   ·rename_i m e hu
    rw [hu] at h
    split at hk
    ·rename_i hsz
     have h' : (if cs.length = P.cellsOf t then ((List.range m).mapM fun i => DataW.trod enc P W 0 sp held fuel e ((cs.drop (i * P.cellsOf e)).take (P.cellsOf e))).map fun xs => (DataW.agg (xs.map (·.1)), xs.flatMap (·.2)) else none) = some (d, ps) := by
      split at h <;> simp_all
     split at h'
     ·rename_i hl
      cases hel : (List.range m).mapM fun i => DataW.trod enc P W 0 sp held fuel e ((cs.drop (i * P.cellsOf e)).take (P.cellsOf e)) with
      | none => rw [hel] at h'; simp at h'
      | some xs =>
       obtain ⟨_, g2⟩ := mapM_some hel
       simp only [Option.map_eq_some_iff] at hk
       obtain ⟨ks', hk', rfl⟩ := hk
       obtain ⟨ds, d1, d2⟩ := trodRep_ok ih (n := n) (cs := cs) hk' m 0 (fun j hj => by
        obtain ⟨y, _, hy⟩ := g2 j j (by simp [hj])
        rw [Nat.zero_add]
        exact ⟨y.1, y.2, hy⟩) hs
       rw [hsz, ← hl, Nat.zero_mul, List.drop_zero, List.take_length] at d2
       exact ⟨ds, d1, d2⟩
     ·simp at h'
    ·simp at hk
   ·simp at hk
end
end Go.Am
/- AM: a law, called. Nothing is assumed. -/
namespace Go.Am
inductive ParSh (P : Program) : TypeId → I → Prop
 | g {t : TypeId} {row : Row} (h : ShL (shE P) (shE P t) row) (ha : aggB P t = some true) : ParSh P t (.g row)
 | d {t : TypeId} {k : Sh} {x : D} (h : ShD (shE P) k x) (hk : shE P t = [k]) (ha : aggB P t = some false) : ParSh P t (.d x)
inductive ParShL (P : Program) : List TypeId → List I → Prop
 | nil : ParShL P [] []
 | cons {t : TypeId} {ts : List TypeId} {i : I} {is : List I} (h : ParSh P t i) (h' : ParShL P ts is) : ParShL P (t :: ts) (i :: is)
def parOk (P : Program) (L : List TypeId) (t : TypeId) : Bool := P.readableRec t && decide (t < P.types.size) && (match shOf P 20 t, aggB P t with
 | some ks, some a => slIn L ks && (a || ks.length == 1)
 | _, _ => false)
section
variable {P : Program} {H : Type} {enc : TypeId × Value → H} {W : World} {X : Nat → Prop}
theorem par_ok {L : List TypeId} (hL : closedB P L = true) {t : TypeId} {v : Value} {d : DataW H} {ps : List MemPlace} (hp : parOk P L t = true) (h : DataW.Trod enc P W 0 (fun _ => true) true t v d ps)
  (hv : Value.okWide P W .any 0 t v) : ∃ i, IFro X W (Old W) i v ∧ ParSh P t i := by
 obtain ⟨fuel, h⟩ := h
 simp only [parOk, Bool.and_eq_true] at hp
 obtain ⟨_, hp⟩ := hp
 split at hp
 ·rename_i ks a hk ha
  simp only [Bool.and_eq_true] at hp
  obtain ⟨ds, d1, d2⟩ := trod_ok (enc := enc) (W := W) (sp := fun _ => true) (held := true) hL fuel 20 t v.cells.toList ks ⟨d, ps, h⟩ hk hp.1
  have hE : shE P t = ks := by simp [shE, hk]
  unfold aggB at ha
  cases a with
  | true =>
   have : ∃ cs, v = .agg cs := by
    unfold Value.okWide at hv
    split at ha <;> simp at ha <;> simp_all
    all_goals (obtain ⟨cs, h1, _⟩ := hv; exact ⟨cs, h1⟩)
   obtain ⟨cs, rfl⟩ := this
   exact ⟨.g ds, .g d2, .g (by rw [hE]; exact d1) (by unfold aggB; exact ha)⟩
  | false =>
   have hl : ks.length = 1 := by simpa using hp.2
   match ks, hl with
   | [k], _ =>
    cases d1 with
    | @cons _ _ x _ d1 d1' =>
     cases d1'
     generalize hc : v.cells.toList = l at d2
     cases d2 with
     | cons d2 d2' =>
      cases d2'
      rename_i u
      have hvu : u = v := by
       have hone : ∀ cs, v ≠ .agg cs := by
        rintro cs rfl
        have hval := hv
        unfold Value.okWide at hval
        cases hu : P.underlying t with
        | none => rw [hu] at ha; simp at ha
        | some td =>
         rw [hu] at ha hval
         cases td <;> simp at ha <;> simp [Cell.okWide, Cell.ok, hu] at hval
       cases v <;> simp [Value.cells] at hc <;> first | exact hc.symm | exact absurd rfl (hone _)
      subst hvu
      exact ⟨.d x, .d d2, .d d1 hE (by unfold aggB; exact ha)⟩
 ·simp at hp
theorem pars_ok {L : List TypeId} (hL : closedB P L = true) : ∀ {ts : List TypeId} {vs : List Value} {ds : List (DataW H)} {ps : List MemPlace}, (ts.all (parOk P L)) = true → DataW.TrodAll enc P W 0 (fun _ => true) true ts vs ds ps →
  (∀ (j : Nat) t v, ts[j]? = some t → vs[j]? = some v → Value.okWide P W .any 0 t v) → ∃ is, IFroL X W (Old W) is vs ∧ ParShL P ts is
 | [], [], [], _, _, _, _ => ⟨[], .nil, .nil⟩
 | t :: ts, v :: vs, d :: ds, _, hp, ⟨p, q, h1, h2, _⟩, hv => by
  simp only [List.all_cons, Bool.and_eq_true] at hp
  obtain ⟨i, e1, e2⟩ := par_ok (X := X) hL hp.1 h1 (hv 0 t v rfl rfl)
  obtain ⟨is, f1, f2⟩ := pars_ok hL hp.2 h2 fun j t' v' h3 h4 => hv (j + 1) t' v' (by simpa using h3) (by simpa using h4)
  exact ⟨i :: is, .cons e1 f1, .cons e2 f2⟩
theorem IFroL.args {w : World} {Z : Nat → Prop} {is : List I} : ∀ {vs : List Value}, IFroL X w Z is vs → ArgsRel X w Z (List.replicate is.length .rd) is vs [] := by
 induction is with
 | nil => intro vs h; cases h; exact .nil
 | cons i is ih => intro vs h; cases h with | cons h h' => exact .rd h (ih h')
theorem pars_stay (hl : laidOutB P = true) {L : List TypeId} {W' : World} (hb : RowKit.Below W.heap.size W W') : ∀ {ts : List TypeId} {vs : List Value} {ds : List (DataW H)} {ps : List MemPlace}, (ts.all (parOk P L)) = true →
  DataW.TrodAll enc P W 0 (fun _ => true) true ts vs ds ps → (∀ x ∈ ps, x.block < W.heap.size) → DataW.TrodAll enc P W' 0 (fun b => decide (b < W.heap.size)) true ts vs ds ps
 | [], [], [], _, _, h, _ => h
 | t :: ts, v :: vs, d :: ds, _, hp, ⟨p, q, h1, h2, h3⟩, hlt => by
  simp only [List.all_cons, Bool.and_eq_true] at hp
  have hp1 := hp.1
  simp only [parOk, Bool.and_eq_true, decide_eq_true_eq] at hp1
  subst h3
  exact ⟨p, q, hb.trod hl hp1.1.1 hp1.1.2 h1 (fun x hx => hlt x (by simp [hx])), pars_stay hl hb hp.2 h2 fun x hx => hlt x (by simp [hx]), rfl⟩
theorem law_calls {sg : Sigs} {T : Table} {fn : Nat} {f : Func} {c : Code} {is : List I} {args : Array Value} {K : Src} (hT : Good P sg K T) (hsg : sg fn = none) (hf : P.funcs[fn]? = some f) (hb : f.body = some c) (hname : (f.name == "runtime.NumGoroutine") = false)
  (hsh : W.ShapedOpen P) (hK : K.At (Old W) W) (hi : IFroL sg.X W (Old W) is args.toList) (h : T fn is = some ⟨.d (.v (.bool true)), []⟩) : Calls P fn args W fun e W' => e = .returned (.bool true) ∧ RowKit.Below W.heap.size W W' := by
 have hm : sg.modes fn is.length = List.replicate is.length .rd := by simp [Sigs.modes, hsg]
 have henter : (callFunc fn args).run P W = .ok (.enter fn args) W := by
  have hname' : f.name ≠ "runtime.NumGoroutine" := by simpa using hname
  simp [callFunc, hf, hname', hb]
 have hs := hT.1 fn is _ h W (Old W) args.toList [] ⟨⟨W, hsh, fun g _ h => ⟨h, rfl⟩⟩, hK⟩ (by rw [hm]; exact hi.args) ⟨by simp, by simp, fun b hb => ⟨hb, by simp⟩, Nat.le_refl _, by simp, fun _ _ _ => rfl, Mute.refl W, Stay.refl W⟩
 simp only [Array.toArray_toList] at hs
 rcases hs with ⟨_, hs⟩ | ⟨v, w', he, _⟩
 ·refine hs.mono fun e W' ⟨v, cres, cbk, he, ho, _, hw⟩ => ?_
  subst he
  cases ho with
  | d ho =>
   cases ho with
   | v _ => exact ⟨rfl, hw.mute.os, hw.mute.tape, hw.mute.output, hw.size, fun k hk => hw.frame k hk (by simp)⟩
 ·rw [henter] at he
  simp at he
end
end Go.Am
