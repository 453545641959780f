/- The abstract machine AM, part E: what it computes keeps the contracts of the program. Nothing is assumed. -/
import Derived.Test.YtmgeoejefnablaaGreatAmD
set_option linter.unusedVariables false
set_option linter.unusedSimpArgs false
/- Stable sorting of lists: what swaps of blocks keep, and that the outcome is one. Nothing is assumed. -/
namespace Go.Am
section
variable {lt : Row → Row → Bool}
/-- A strict weak order. -/
structure SWO (lt : Row → Row → Bool) : Prop where
  irr : ∀ x, lt x x = false
  neg : ∀ {x y z}, lt x z = true → lt x y = true ∨ lt y z = true
  asym : ∀ {x y}, lt x y = true → lt y x = false
theorem SWO.ltle (h : SWO lt) {x y z : Row} (h1 : lt x y = true) (h2 : lt z y = false) : lt x z = true := by
  rcases h.neg (y := z) h1 with h3 | h3
  · exact h3
  · rw [h2] at h3; simp at h3
theorem SWO.lelt (h : SWO lt) {x y z : Row} (h1 : lt y x = false) (h2 : lt y z = true) : lt x z = true := by
  rcases h.neg (y := x) h2 with h3 | h3
  · rw [h1] at h3; simp at h3
  · exact h3
theorem SWO.trans (h : SWO lt) {x y z : Row} (h1 : lt x y = true) (h2 : lt y z = true) : lt x z = true := h.ltle h1 (h.asym h2)
theorem SWO.lele (h : SWO lt) {x y z : Row} (h1 : lt y x = false) (h2 : lt z y = false) : lt z x = false := by
  cases h3 : lt z x with
  | false => rfl
  | true => rw [h.ltle h3 h1] at h2; simp at h2
def cls (lt : Row → Row → Bool) (x y : Row) : Bool := !lt x y && !lt y x
def Srt (lt : Row → Row → Bool) (l : Rows) : Prop := l.Pairwise fun x y => lt y x = false
/-- Each class of equals stands in the one as in the other. -/
def FE (lt : Row → Row → Bool) (l l' : Rows) : Prop := l'.length = l.length ∧ ∀ x, l'.filter (cls lt x) = l.filter (cls lt x)
theorem FE.refl (l : Rows) : FE lt l l := ⟨rfl, fun _ => rfl⟩
theorem FE.trans {a b c : Rows} (h : FE lt a b) (g : FE lt b c) : FE lt a c := ⟨g.1.trans h.1, fun x => (g.2 x).trans (h.2 x)⟩
theorem FE.app {a b a' b' : Rows} (h : FE lt a a') (g : FE lt b b') : FE lt (a ++ b) (a' ++ b') := ⟨by simp [h.1, g.1], fun x => by simp [h.2 x, g.2 x]⟩
theorem FE.mem (h : SWO lt) {l l' : Rows} (g : FE lt l l') {x : Row} : x ∈ l' ↔ x ∈ l := by
  have key : ∀ {a b : Rows}, a.filter (cls lt x) = b.filter (cls lt x) → x ∈ a → x ∈ b := fun {a b} e hx => by
    have : x ∈ a.filter (cls lt x) := List.mem_filter.2 ⟨hx, by simp [cls, h.irr]⟩
    rw [e] at this
    exact (List.mem_filter.1 this).1
  exact ⟨key (g.2 x), key (g.2 x).symm⟩
theorem FE.swap (h : SWO lt) {u v : Rows} (g : ∀ a ∈ u, ∀ b ∈ v, lt b a = true) : FE lt (u ++ v) (v ++ u) := by
  refine ⟨by simp; omega, fun x => ?_⟩
  simp only [List.filter_append]
  by_cases hu : u.filter (cls lt x) = []
  · simp [hu]
  · have hv : v.filter (cls lt x) = [] := by
      refine List.filter_eq_nil_iff.2 fun b hb hc => ?_
      obtain ⟨a, ha⟩ := List.exists_mem_of_ne_nil _ hu
      obtain ⟨ha1, ha2⟩ := List.mem_filter.1 ha
      simp only [cls, Bool.and_eq_true, Bool.not_eq_true'] at hc ha2
      have := h.ltle (g a ha1 b hb) ha2.1
      rw [hc.2] at this
      simp at this
    simp [hv]
theorem srt_one (h : SWO lt) : ∀ {l l' : Rows}, Srt lt l → Srt lt l' → FE lt l l' → l' = l := by
  intro l
  induction l with
  | nil =>
    intro l' _ _ g
    exact List.length_eq_zero_iff.1 (by simpa using g.1)
  | cons x xs ih =>
    intro l' h1 h2 g
    cases l' with
    | nil => simpa using g.1
    | cons y ys =>
      have hx1 : x ∈ y :: ys := (g.mem h).2 (by simp)
      have hy1 : y ∈ x :: xs := (g.mem h).1 (by simp)
      unfold Srt at h1 h2
      rw [List.pairwise_cons] at h1 h2
      have c1 : lt x y = false := by
        rcases List.mem_cons.1 hx1 with e | e
        · rw [e]; exact h.irr _
        · exact h2.1 x e
      have c2 : lt y x = false := by
        rcases List.mem_cons.1 hy1 with e | e
        · rw [e]; exact h.irr _
        · exact h1.1 y e
      have e := g.2 x
      have hcx : cls lt x x = true := by simp [cls, h.irr]
      have hcy : cls lt x y = true := by simp [cls, c1, c2]
      rw [List.filter_cons_of_pos hcx, List.filter_cons_of_pos hcy] at e
      have exy : y = x := (List.cons.inj e).1
      subst exy
      rw [ih (l' := ys) h1.2 h2.2 ⟨by simpa using g.1, fun z => by
        have := g.2 z
        cases hz : cls lt z y with
        | true => rw [List.filter_cons_of_pos hz, List.filter_cons_of_pos hz] at this; exact (List.cons.inj this).2
        | false => rw [List.filter_cons_of_neg (by simp [hz]), List.filter_cons_of_neg (by simp [hz])] at this; exact this⟩]
/-- Sorted, and each class as it was. -/
def SP (lt : Row → Row → Bool) (l l' : Rows) : Prop := Srt lt l' ∧ FE lt l l'
theorem SP.one (h : SWO lt) {l a b : Rows} (ha : SP lt l a) (hb : SP lt l b) : a = b :=
  srt_one h hb.1 ha.1 ⟨ha.2.1.trans hb.2.1.symm, fun x => (ha.2.2 x).trans (hb.2.2 x).symm⟩
theorem srt_app {a b : Rows} : Srt lt (a ++ b) ↔ Srt lt a ∧ Srt lt b ∧ ∀ x ∈ a, ∀ y ∈ b, lt y x = false := List.pairwise_append
theorem srt_nil : Srt lt [] := List.Pairwise.nil
theorem srt_sing (x : Row) : Srt lt [x] := List.pairwise_singleton _ _
/-- One more is put where it belongs: behind all that are not above it. -/
theorem srt_ins (h : SWO lt) {s1 s2 : Rows} {x : Row} (hs : Srt lt (s1 ++ s2)) (h1 : s1 = [] ∨ ∃ s y, s1 = s ++ [y] ∧ lt x y = false) (h2 : ∀ y ∈ s2, lt x y = true) :
    SP lt (s1 ++ s2 ++ [x]) (s1 ++ ([x] ++ s2)) := by
  obtain ⟨g1, g2, g3⟩ := srt_app.1 hs
  have hle : ∀ y ∈ s1, lt x y = false := fun y hy => by
    rcases h1 with rfl | ⟨s, z, rfl, hz⟩
    · simp at hy
    · rcases List.mem_append.1 hy with e | e
      · exact h.lele ((srt_app.1 g1).2.2 y e z (by simp)) hz
      · simp at e; subst e; exact hz
  refine ⟨srt_app.2 ⟨g1, srt_app.2 ⟨srt_sing x, g2, fun a ha b hb => ?_⟩, fun a ha b hb => ?_⟩, ?_⟩
  · simp at ha; subst ha
    exact h.asym (h2 b hb)
  · rcases List.mem_append.1 hb with e | e
    · simp at e; subst e; exact hle a ha
    · exact g3 a ha b e
  · rw [List.append_assoc]
    exact (FE.refl s1).app (FE.swap h fun a ha b hb => by simp at hb; subst hb; exact h2 a ha)
/-- Two halves, each merged by itself. -/
theorem srt_halves (h : SWO lt) {a1 a2 b1 b2 l r : Rows} (ha : Srt lt (a1 ++ a2)) (hb : Srt lt (b1 ++ b2)) (h1 : ∀ x ∈ a2, ∀ y ∈ b1, lt y x = true) (h2 : ∀ x ∈ a1, ∀ y ∈ b2, lt y x = false)
    (hl : SP lt (a1 ++ b1) l) (hr : SP lt (a2 ++ b2) r) : SP lt ((a1 ++ a2) ++ (b1 ++ b2)) (l ++ r) := by
  obtain ⟨p1, p2, p3⟩ := srt_app.1 ha
  obtain ⟨q1, q2, q3⟩ := srt_app.1 hb
  refine ⟨srt_app.2 ⟨hl.1, hr.1, fun x hx y hy => ?_⟩, ?_⟩
  · have hx := (hl.2.mem h).1 hx
    have hy := (hr.2.mem h).1 hy
    rcases List.mem_append.1 hx with hx | hx <;> rcases List.mem_append.1 hy with hy | hy
    · exact p3 x hx y hy
    · exact h2 x hx y hy
    · exact h.asym (h1 y hy x hx)
    · exact q3 x hx y hy
  · have e : FE lt ((a1 ++ a2) ++ (b1 ++ b2)) ((a1 ++ b1) ++ (a2 ++ b2)) := by
      have := (FE.refl (lt := lt) a1).app ((FE.swap h h1).app (FE.refl (lt := lt) b2))
      simpa using this
    exact e.trans (hl.2.app hr.2)
end
end Go.Am
/- AM: the library's stable sorting, at any type of elements: what the equations of its functions come to. Nothing is assumed. -/
namespace Go.Am
abbrev vi (n : Int) : AV := .v (.int .i64 n)
abbrev di (n : Int) : I := .d (.v (.int .i64 n))
abbrev hfi (a b : Int) : Int := IntKind.wrap .i64 (Int.fdiv (IntKind.wrap .u64 (IntKind.wrap .i64 (a + b))) (2 ^ 1))
abbrev wi (n : Int) : Int := IntKind.wrap .i64 n
/-- What is handed back by one that was lent a slice. -/
noncomputable def lentC {R : Type} (T : Table) (fn w : Nat) (is : List I) (K : Rows → Option R) : Option R :=
  callT T fn is fun o => nth o.back 0 fun i => oD i fun d => dL w d fun l => oT o.res fun is => tst (Nat.beq is.length 0) (K l)
noncomputable def mayC {R : Type} (T : Table) (fn w : Nat) (l : Rows) (a m b : Int) (f : Nat) (cs : List I) (K : Rows → Option R) : Option R :=
  bif decide (a < m) == true then (bif decide (m < b) then lentC T fn w [.d (.s w l), di a, di m, di b, .f f cs] K else K l) else K l
abbrev Lp := Table → Nat → Nat → List AV → Option (Ex × List AV)
structure SortFam (fs : Fns) (E : TypeId → List Sh) (e : TypeId) (w : Nat) where
  (nSwp nRot nSym nIns nStb nSort : Nat)
  (aSwp aRot aSym aIns aStb aSort : AFun)
  (LSwp LRot LS0 LS1 LS2 LS3 LS4 LI0 LI1 LB0 LB1 LB2 : Lp)
  (hSwp : lookF nSwp fs.funs = some aSwp) (hRot : lookF nRot fs.funs = some aRot) (hSym : lookF nSym fs.funs = some aSym)
  (hIns : lookF nIns fs.funs = some aIns) (hStb : lookF nStb fs.funs = some aStb) (hSort : lookF nSort fs.funs = some aSort)
  (mSwp : ∀ x1 x2 x3 x4 x5, lenIs [x1, x2, x3, x4, x5] aSwp.modes = true) (mRot : ∀ x1 x2 x3 x4 x5, lenIs [x1, x2, x3, x4, x5] aRot.modes = true)
  (mSym : ∀ x1 x2 x3 x4 x5, lenIs [x1, x2, x3, x4, x5] aSym.modes = true) (mIns : ∀ x1 x2 x3 x4, lenIs [x1, x2, x3, x4] aIns.modes = true)
  (mStb : ∀ x1 x2 x3, lenIs [x1, x2, x3] aStb.modes = true) (mSort : ∀ x1 x2, lenIs [x1, x2] aSort.modes = true)
  (eSwp : ∀ T k l a b n f cs, evalF T k aSwp [.d (.s w l), di a, di b, di n, .f f cs] =
    aft (LSwp T k k [.o w l, vi a, vi b, vi n, vi 0]) fun e ys => bif e.same (.exit 0) then (aV ys 0 fun x => aO w x fun l => some ⟨.t [], [.d (.s w l)]⟩) else none)
  (zSwp : ∀ T k m l a b n i, decide (i < n) = false → LSwp T k (m + 1) [.o w l, vi a, vi b, vi n, vi i] = some (.exit 0, [.o w l]))
  (sSwp : ∀ T k m l a b n i (p q : Nat) u v, SL E e l → decide (i < n) = true → wi (a + i) = (p : Int) → wi (b + i) = (q : Int) → l[p]? = some u → l[q]? = some v →
    LSwp T k (m + 1) [.o w l, vi a, vi b, vi n, vi i] = LSwp T k m [.o w ((l.set p v).set q u), vi a, vi b, vi n, vi (wi (i + 1))])
  (eRot : ∀ T k l a m b f cs, evalF T k aRot [.d (.s w l), di a, di m, di b, .f f cs] =
    aft (LRot T k k [.o w l, vi m, .ff f cs, vi (wi (m - a)), vi (wi (b - m))]) fun e ys => bif e.same (.exit 0) then (aV ys 0 fun x => aO w x fun l => aV ys 1 fun x => aI .i64 x fun m => aV ys 2 fun x => aF x fun f cs => aV ys 3 fun x => aI .i64 x fun i =>
      lentC T nSwp w [.d (.s w l), di (wi (m - i)), di m, di i, .f f cs] fun l => some ⟨.t [], [.d (.s w l)]⟩) else none)
  (sRot : ∀ T k n l m f cs i j, LRot T k (n + 1) [.o w l, vi m, .ff f cs, vi i, vi j] =
    bif (i != j) then (bif decide (i > j) then
      (lentC T nSwp w [.d (.s w l), di (wi (m - i)), di m, di j, .f f cs] fun l => LRot T k n [.o w l, vi m, .ff f cs, vi (wi (i - j)), vi j]) else
      (lentC T nSwp w [.d (.s w l), di (wi (m - i)), di (wi (wi (m + j) - i)), di i, .f f cs] fun l => LRot T k n [.o w l, vi m, .ff f cs, vi i, vi (wi (j - i))]))
    else some (.exit 0, [.o w l, vi m, .ff f cs, vi i]))
  (eIns : ∀ T k l a b f cs, evalF T k aIns [.d (.s w l), di a, di b, .f f cs] =
    aft (LI0 T k k [.o w l, vi a, vi b, .ff f cs, vi (wi (a + 1))]) fun e ys => bif e.same (.exit 0) then (aV ys 0 fun x => aO w x fun l => some ⟨.t [], [.d (.s w l)]⟩) else none)
  (sI0 : ∀ T k n l a b f cs i, LI0 T k (n + 1) [.o w l, vi a, vi b, .ff f cs, vi i] =
    bif decide (i < b) then (aft (LI1 T k k [.o w l, vi a, vi b, .ff f cs, vi i, vi i]) fun e ys => bif e.same (.exit 2) then (aV ys 0 fun x => aO w x fun l => aV ys 1 fun x => aI .i64 x fun a => aV ys 2 fun x => aI .i64 x fun b => aV ys 3 fun x => aF x fun f cs => aV ys 4 fun x => aI .i64 x fun i =>
      LI0 T k n [.o w l, vi a, vi b, .ff f cs, vi (wi (i + 1))]) else none) else some (.exit 0, [.o w l]))
  (zI1 : ∀ T k n l a b f cs i j, decide (j > a) = false → LI1 T k (n + 1) [.o w l, vi a, vi b, .ff f cs, vi i, vi j] = some (.exit 2, [.o w l, vi a, vi b, .ff f cs, vi i]))
  (sI1 : ∀ T k n l a b f cs i (j p : Nat) x y, SL E e l → decide ((j : Int) > a) = true → wi ((j : Int) - 1) = (p : Int) → l[j]? = some x → l[p]? = some y →
    LI1 T k (n + 1) [.o w l, vi a, vi b, .ff f cs, vi i, vi j] = callT T f ([.g x, .g y] ++ cs) fun o => oD o.res fun d => dI .i64 d fun c => bif decide (c < 0) then
      LI1 T k n [.o w ((l.set j y).set p x), vi a, vi b, .ff f cs, vi i, vi p] else some (.exit 2, [.o w l, vi a, vi b, .ff f cs, vi i]))
  (zS0 : ∀ T k n l a f cs i j, decide (i < j) = false → LS0 T k (n + 1) [.o w l, vi a, .ff f cs, vi i, vi j] = some (.exit 0, [.o w l, vi a, vi i]))
  (sS0 : ∀ T k n l (a : Nat) f cs i j (h : Nat) x y, SL E e l → decide (i < j) = true → hfi i j = (h : Int) → l[h]? = some x → l[a]? = some y →
    LS0 T k (n + 1) [.o w l, vi a, .ff f cs, vi i, vi j] = callT T f ([.g x, .g y] ++ cs) fun o => oD o.res fun d => dI .i64 d fun c => bif decide (c < 0) then
      LS0 T k n [.o w l, vi a, .ff f cs, vi (wi ((h : Int) + 1)), vi j] else LS0 T k n [.o w l, vi a, .ff f cs, vi i, vi h])
  (zS1 : ∀ T k n l i j, decide (j < wi (i - 1)) = false → LS1 T k (n + 1) [.o w l, vi i, vi j] = some (.exit 2, [.o w l]))
  (sS1 : ∀ T k n l i (p q : Nat) u v, SL E e l → decide ((p : Int) < wi (i - 1)) = true → wi ((p : Int) + 1) = (q : Int) → l[p]? = some u → l[q]? = some v →
    LS1 T k (n + 1) [.o w l, vi i, vi p] = LS1 T k n [.o w ((l.set p v).set q u), vi i, vi q])
  (zS2 : ∀ T k n l m f cs i j, decide (i < j) = false → LS2 T k (n + 1) [.o w l, vi m, .ff f cs, vi i, vi j] = some (.exit 4, [.o w l, vi m, vi i]))
  (sS2 : ∀ T k n l (m : Nat) f cs i j (h : Nat) x y, SL E e l → decide (i < j) = true → hfi i j = (h : Int) → l[m]? = some x → l[h]? = some y →
    LS2 T k (n + 1) [.o w l, vi m, .ff f cs, vi i, vi j] = callT T f ([.g x, .g y] ++ cs) fun o => oD o.res fun d => dI .i64 d fun c => bif (!decide (c < 0)) then
      LS2 T k n [.o w l, vi m, .ff f cs, vi (wi ((h : Int) + 1)), vi j] else LS2 T k n [.o w l, vi m, .ff f cs, vi i, vi h])
  (zS3 : ∀ T k n l i j, decide (j > i) = false → LS3 T k (n + 1) [.o w l, vi i, vi j] = some (.exit 6, [.o w l]))
  (sS3 : ∀ T k n l i (p q : Nat) u v, SL E e l → decide ((q : Int) > i) = true → wi ((q : Int) - 1) = (p : Int) → l[p]? = some u → l[q]? = some v →
    LS3 T k (n + 1) [.o w l, vi i, vi q] = LS3 T k n [.o w ((l.set q u).set p v), vi i, vi p])
  (zS4 : ∀ T k n' l a m b f cs mid n s r p, decide (s < r) = false → LS4 T k (n' + 1) [.o w l, vi a, vi m, vi b, .ff f cs, vi mid, vi n, vi s, vi r, vi p] = some (.exit 8, [.o w l, vi a, vi m, vi b, .ff f cs, vi mid, vi n, vi s]))
  (sS4 : ∀ T k n' l a m b f cs mid n s r p (c g : Nat) x y, SL E e l → decide (s < r) = true → hfi s r = (c : Int) → wi (p - (c : Int)) = (g : Int) → l[g]? = some x → l[c]? = some y →
    LS4 T k (n' + 1) [.o w l, vi a, vi m, vi b, .ff f cs, vi mid, vi n, vi s, vi r, vi p] = callT T f ([.g x, .g y] ++ cs) fun o => oD o.res fun d => dI .i64 d fun z => bif (!decide (z < 0)) then
      LS4 T k n' [.o w l, vi a, vi m, vi b, .ff f cs, vi mid, vi n, vi (wi ((c : Int) + 1)), vi r, vi p] else LS4 T k n' [.o w l, vi a, vi m, vi b, .ff f cs, vi mid, vi n, vi s, vi c, vi p])
  (eSym : ∀ T k l a m b f cs, evalF T k aSym [.d (.s w l), di a, di m, di b, .f f cs] =
    bif (wi (m - a) == 1) then (aft (LS0 T k k [.o w l, vi a, .ff f cs, vi m, vi b]) fun e ys => bif e.same (.exit 0) then (aV ys 0 fun x => aO w x fun l => aV ys 1 fun x => aI .i64 x fun a => aV ys 2 fun x => aI .i64 x fun i =>
      aft (LS1 T k k [.o w l, vi i, vi a]) fun e ys => bif e.same (.exit 2) then (aV ys 0 fun x => aO w x fun l => some ⟨.t [], [.d (.s w l)]⟩) else none) else none) else (
    bif (wi (b - m) == 1) then (aft (LS2 T k k [.o w l, vi m, .ff f cs, vi a, vi m]) fun e ys => bif e.same (.exit 4) then (aV ys 0 fun x => aO w x fun l => aV ys 1 fun x => aI .i64 x fun m => aV ys 2 fun x => aI .i64 x fun i =>
      aft (LS3 T k k [.o w l, vi i, vi m]) fun e ys => bif e.same (.exit 6) then (aV ys 0 fun x => aO w x fun l => some ⟨.t [], [.d (.s w l)]⟩) else none) else none) else (
    bif (decide (m > hfi a b)) then (aft (LS4 T k k [.o w l, vi a, vi m, vi b, .ff f cs, vi (hfi a b), vi (wi (hfi a b + m)), vi (wi (wi (hfi a b + m) - b)), vi (hfi a b), vi (wi (wi (hfi a b + m) - 1))]) fun e ys => bif e.same (.exit 8) then (aV ys 0 fun x => aO w x fun l => aV ys 1 fun x => aI .i64 x fun a => aV ys 2 fun x => aI .i64 x fun m => aV ys 3 fun x => aI .i64 x fun b => aV ys 4 fun x => aF x fun f cs => aV ys 5 fun x => aI .i64 x fun mid => aV ys 6 fun x => aI .i64 x fun n => aV ys 7 fun x => aI .i64 x fun s =>
      mayC T nRot w l s m (wi (n - s)) f cs fun l => mayC T nSym w l a s mid f cs fun l => mayC T nSym w l mid (wi (n - s)) b f cs fun l => some ⟨.t [], [.d (.s w l)]⟩) else none) else
    (aft (LS4 T k k [.o w l, vi a, vi m, vi b, .ff f cs, vi (hfi a b), vi (wi (hfi a b + m)), vi a, vi m, vi (wi (wi (hfi a b + m) - 1))]) fun e ys => bif e.same (.exit 8) then (aV ys 0 fun x => aO w x fun l => aV ys 1 fun x => aI .i64 x fun a => aV ys 2 fun x => aI .i64 x fun m => aV ys 3 fun x => aI .i64 x fun b => aV ys 4 fun x => aF x fun f cs => aV ys 5 fun x => aI .i64 x fun mid => aV ys 6 fun x => aI .i64 x fun n => aV ys 7 fun x => aI .i64 x fun s =>
      mayC T nRot w l s m (wi (n - s)) f cs fun l => mayC T nSym w l a s mid f cs fun l => mayC T nSym w l mid (wi (n - s)) b f cs fun l => some ⟨.t [], [.d (.s w l)]⟩) else none))))
  (eStb : ∀ T k l n f cs, evalF T k aStb [.d (.s w l), di n, .f f cs] =
    aft (LB0 T k k [.o w l, vi n, .ff f cs, vi 20, vi 0, vi 20]) fun e ys => bif e.same (.exit 0) then (aV ys 0 fun x => aO w x fun l => aV ys 1 fun x => aI .i64 x fun n => aV ys 2 fun x => aF x fun f cs => aV ys 3 fun x => aI .i64 x fun c => aV ys 4 fun x => aI .i64 x fun a =>
      lentC T nIns w [.d (.s w l), di a, di n, .f f cs] fun l => aft (LB1 T k k [.o w l, vi n, .ff f cs, vi c]) fun e ys => bif e.same (.exit 2) then (aV ys 0 fun x => aO w x fun l => some ⟨.t [], [.d (.s w l)]⟩) else none) else none)
  (sB0 : ∀ T k m l n f cs c a b, LB0 T k (m + 1) [.o w l, vi n, .ff f cs, vi c, vi a, vi b] =
    bif decide (b ≤ n) then (lentC T nIns w [.d (.s w l), di a, di b, .f f cs] fun l => LB0 T k m [.o w l, vi n, .ff f cs, vi c, vi b, vi (wi (b + c))]) else some (.exit 0, [.o w l, vi n, .ff f cs, vi c, vi a]))
  (sB2 : ∀ T k m l n f cs c a b, LB2 T k (m + 1) [.o w l, vi n, .ff f cs, vi c, vi a, vi b] =
    bif decide (b ≤ n) then (lentC T nSym w [.d (.s w l), di a, di (wi (a + c)), di b, .f f cs] fun l => LB2 T k m [.o w l, vi n, .ff f cs, vi c, vi b, vi (wi (b + wi (2 * c)))]) else some (.exit 4, [.o w l, vi n, .ff f cs, vi c, vi a]))
  (sB1 : ∀ T k m l n f cs c, LB1 T k (m + 1) [.o w l, vi n, .ff f cs, vi c] =
    bif decide (c < n) then (aft (LB2 T k k [.o w l, vi n, .ff f cs, vi c, vi 0, vi (wi (2 * c))]) fun e ys => bif e.same (.exit 4) then (aV ys 0 fun x => aO w x fun l => aV ys 1 fun x => aI .i64 x fun n => aV ys 2 fun x => aF x fun f cs => aV ys 3 fun x => aI .i64 x fun c => aV ys 4 fun x => aI .i64 x fun a =>
      bif decide (wi (a + c) < n) then (lentC T nSym w [.d (.s w l), di a, di (wi (a + c)), di n, .f f cs] fun l => LB1 T k m [.o w l, vi n, .ff f cs, vi (wi (c * 2))]) else LB1 T k m [.o w l, vi n, .ff f cs, vi (wi (c * 2))]) else none) else some (.exit 2, [.o w l]))
  (eSort : ∀ T k l f cs, evalF T k aSort [.d (.s w l), .f f cs] = lentC T nStb w [.d (.s w l), di l.length, .f f cs] fun l => some ⟨.t [], [.d (.s w l)]⟩)
end Go.Am
/- AM: stable sorting: swaps, rotations, insertion. Nothing is assumed. -/
set_option linter.unusedSimpArgs false
set_option linter.unusedVariables false
namespace Go.Am
theorem setD_at {l : Rows} {p c : Nat} {r : Row} {d : D} (h : l[p]? = some r) : setD l p c d = l.set p (r.set c d) := by
  unfold setD
  apply List.ext_getElem?
  intro i
  rw [List.getElem?_modify, List.getElem?_set]
  have hp := (List.getElem?_eq_some_iff.1 h).1
  by_cases e : p = i
  · subst e; rw [if_pos rfl, if_pos hp, h]; simp
  · simp [e]
theorem setD_two {l : Rows} {q : Nat} {c d : D} (h : ∃ r, l[q]? = some r ∧ r.length = 2) : setD (setD l q 0 c) q 1 d = l.set q [c, d] := by
  obtain ⟨r, h1, h2⟩ := h
  have hq := (List.getElem?_eq_some_iff.1 h1).1
  rw [setD_at h1, setD_at (r := r.set 0 c) (by simp [hq]), List.set_set]
  obtain ⟨a, b, rfl⟩ : ∃ a b, r = [a, b] := by
    match r, h2 with
    | [a, b], _ => exact ⟨a, b, rfl⟩
  rfl
theorem setD_one {l : Rows} {q : Nat} {c : D} (h : ∃ r, l[q]? = some r ∧ r.length = 1) : setD l q 0 c = l.set q [c] := by
  obtain ⟨r, h1, h2⟩ := h
  rw [setD_at h1]
  obtain ⟨a, rfl⟩ : ∃ a, r = [a] := by
    match r, h2 with
    | [a], _ => exact ⟨a, rfl⟩
  rfl
theorem setD_len {l : Rows} {p c : Nat} {d : D} : (setD l p c d).length = l.length := by simp [setD]
theorem set_has {l : Rows} {p q : Nat} {u v : Row} (h : l[q]? = some v) (hl : u.length = v.length) : ∃ r, (l.set p u)[q]? = some r ∧ r.length = v.length := by
  have hq := (List.getElem?_eq_some_iff.1 h).1
  by_cases e : p = q
  · subst e; exact ⟨u, by simp [hq], hl⟩
  · exact ⟨v, by rw [List.getElem?_set_ne e]; exact h, rfl⟩
theorem lt_of_at {l : Rows} {p : Nat} {r : Row} (h : l[p]? = some r) : decide (p < l.length) = true := decide_eq_true (List.getElem?_eq_some_iff.1 h).1
theorem aF_f {R : Type} {f : Nat} {cs : List I} {K : Nat → List I → Option R} : aF (.ff f cs) K = K f cs := rfl
theorem ShR.of_mem {E : TypeId → List Sh} {ks : List Sh} : ∀ {l : Rows}, (∀ x ∈ l, ShL E ks x) → ShR E ks l
  | [], _ => .nil
  | x :: l, h => .cons (h x (by simp)) (ShR.of_mem fun y hy => h y (by simp [hy]))
theorem SL.perm {E : TypeId → List Sh} {e : TypeId} {l l' : Rows} (h : SL E e l) (h1 : l'.length = l.length) (h2 : ∀ x ∈ l', x ∈ l) : SL E e l' :=
  ⟨by rw [h1]; exact h.1, ShR.of_mem fun x hx => h.2.mem x (h2 x hx)⟩
theorem wi_fit {n : Int} (h0 : -4611686018427387904 ≤ n) (h1 : n ≤ 4611686018427387904) : wi n = n := wrap_i64 (by omega) (by omega)
theorem hfi_nat {a b : Nat} (h : a + b ≤ 4611686018427387904) : hfi (a : Int) (b : Int) = (((a + b) / 2 : Nat) : Int) := by
  unfold hfi
  have e1 : IntKind.wrap .i64 ((a : Int) + b) = ((a + b : Nat) : Int) := by
    rw [wrap_i64 (by omega) (by omega)]; simp
  rw [e1, wrap_u64 (by omega) (by omega)]
  have e2 : Int.fdiv ((a + b : Nat) : Int) (2 ^ 1) = (((a + b) / 2 : Nat) : Int) := by
    have : (2 ^ 1 : Int) = ((2 : Nat) : Int) := rfl
    rw [this, Int.fdiv_eq_ediv_of_nonneg _ (by omega)]
    omega
  rw [e2]
  exact wrap_i64 (by omega) (by omega)
section
variable {R : Type} {fs : Fns} {x : R}
abbrev lentO (w : Nat) (l : Rows) : Out := ⟨.t [], [.d (.s w l)]⟩
theorem ev_lent {fn w : Nat} {is : List I} {l : Rows} {F : Nat → Nat → Rows → Option R} (h : Ev fs fn is (lentO w l)) (hF : Evt (fun d n => F d n l) x) : Evt (fun d n => lentC (TabD fs d) fn w is (F d n)) x := by
  unfold lentC
  refine ev_call h ?_
  simp -implicitDefEqProofs only [oD_d, oG_g, oT_t, oP_p, dI_v, dB_v, dS_v, dL_s, cell_z, cell_s, nth_z, nth_s, aV_z, aV_s, aI_v, aB_v, aS_v, aL_f, aO_o, aX_b, tst_t, cond_true, cond_false, Ex.same, Nat.beq, List.length_cons, List.length_nil, Int.toNat_natCast, beqTT, beqTF, beqFT, beqFF, lentO]
  exact hF
theorem ev_may {fn w : Nat} {l : Rows} {a m b : Int} {f : Nat} {cs : List I} {F : Nat → Nat → Rows → Option R} (l' : Rows)
    (h : a < m → m < b → Ev fs fn [.d (.s w l), di a, di m, di b, .f f cs] (lentO w l')) (h' : ¬ (a < m ∧ m < b) → l' = l) (hF : Evt (fun d n => F d n l') x) :
    Evt (fun d n => mayC (TabD fs d) fn w l a m b f cs (F d n)) x := by
  unfold mayC
  by_cases h1 : a < m
  · by_cases h2 : m < b
    · simp only [h1, h2, decide_true, beqTT, cond_true]
      exact ev_lent (h h1 h2) hF
    · simp only [h1, h2, decide_true, decide_false, beqTT, cond_true, cond_false]
      rw [h' (fun e => h2 e.2)] at hF
      exact hF
  · simp only [h1, decide_false, beqFT, cond_false]
    rw [h' (fun e => h1 e.1)] at hF
    exact hF
end
section
variable {fs : Fns} {E : TypeId → List Sh} {e : TypeId} {w : Nat} (S : SortFam fs E e w) {f : Nat} {cs : List I}
theorem setMid {A B : Rows} {u v : Row} {p : Nat} (h : p = A.length) : (A ++ u :: B).set p v = A ++ v :: B := by subst h; simp
theorem getMid {A B : Rows} {u : Row} {p : Nat} (h : p = A.length) : (A ++ u :: B)[p]? = some u := by subst h; simp
include S in
theorem swp_loop {n a b : Nat} {B : Rows} (hsz : a + n ≤ 4611686018427387900 ∧ b + n ≤ 4611686018427387900) : ∀ (U V A M : Rows) (i : Nat), U.length = V.length → i + U.length = n → SL E e (A ++ (U ++ (M ++ (V ++ B)))) → A.length = a + i → A.length + U.length + M.length = b + i →
    Evt (fun d m => S.LSwp (TabD fs d) d m [.o w (A ++ (U ++ (M ++ (V ++ B)))), vi a, vi b, vi n, vi i]) (.exit 0, [.o w (A ++ (V ++ (M ++ (U ++ B))))]) := by
  intro U
  induction U with
  | nil =>
    intro V A M i h1 h2 hs h3 h4
    have : V = [] := List.length_eq_zero_iff.1 (by simpa using h1.symm)
    subst this
    refine ev_succ ⟨0, fun d m _ _ => ?_⟩
    exact S.zSwp _ _ _ _ _ _ _ _ (by simp at h2; simp; omega)
  | cons u U ih =>
    intro V A M i h1 h2 hs h3 h4
    cases V with
    | nil => simp at h1
    | cons v V =>
      simp only [List.length_cons] at h1 h2 h4
      have hp : (A ++ (u :: U ++ (M ++ (v :: V ++ B))))[a + i]? = some u := by
        rw [List.cons_append]; exact getMid h3.symm
      have ea : A ++ (u :: U ++ (M ++ (v :: V ++ B))) = (A ++ (u :: U ++ M)) ++ v :: (V ++ B) := by simp
      have hq : (A ++ (u :: U ++ (M ++ (v :: V ++ B))))[b + i]? = some v := by
        rw [ea]; exact getMid (by simp <;> omega)
      have hset : ((A ++ (u :: U ++ (M ++ (v :: V ++ B)))).set (a + i) v).set (b + i) u = (A ++ [v]) ++ (U ++ ((M ++ [u]) ++ (V ++ B))) := by
        rw [List.cons_append, setMid h3.symm]
        have : A ++ v :: (U ++ (M ++ (v :: V ++ B))) = (A ++ v :: (U ++ M)) ++ v :: (V ++ B) := by simp
        rw [this, setMid (by simp <;> omega)]
        simp
      have := ih V (A ++ [v]) (M ++ [u]) (i + 1) (by omega) (by omega) (by
        refine hs.perm (by simp <;> omega) fun x hx => ?_
        simp at hx ⊢
        grind) (by simp <;> omega) (by simp <;> omega)
      refine ev_succ ?_
      have hst := fun d m => S.sSwp (TabD fs d) d m _ (a : Int) (b : Int) (n : Int) (i : Int) (a + i) (b + i) u v hs (by simp <;> omega) ((wi_fit (by omega) (by omega)).trans (by omega)) ((wi_fit (by omega) (by omega)).trans (by omega)) hp hq
      refine Evt.congr hst ?_
      rw [hset, wi_fit (by omega) (by omega)]
      have e2 : A ++ (v :: V ++ (M ++ (u :: U ++ B))) = (A ++ [v]) ++ (V ++ ((M ++ [u]) ++ (U ++ B))) := by simp
      rw [e2]
      simpa using this
include S in
theorem swp {A U M V B : Rows} (hs : SL E e (A ++ (U ++ (M ++ (V ++ B))))) (hn : U.length = V.length) (hsz : (A ++ (U ++ (M ++ (V ++ B)))).length ≤ 1073741824) {x y z : Int}
    (hx : x = A.length) (hy : y = A.length + U.length + M.length) (hz : z = U.length) :
    Ev fs S.nSwp [.d (.s w (A ++ (U ++ (M ++ (V ++ B))))), di x, di y, di z, .f f cs] (lentO w (A ++ (V ++ (M ++ (U ++ B))))) := by
  subst hx hz
  have hy' : y = ((A.length + U.length + M.length : Nat) : Int) := by omega
  subst hy'
  simp only [List.length_append] at hsz
  refine Ev.of S.hSwp (S.mSwp ..) (Evt.congr (fun d n => S.eSwp ..) ?_)
  have := swp_loop S (n := U.length) (a := A.length) (b := A.length + U.length + M.length) (B := B) (by omega) U V A M 0 hn (by simp) hs (by simp) (by simp)
  refine ev_aft this ?_
  simp -implicitDefEqProofs only [oD_d, oG_g, oT_t, oP_p, dI_v, dB_v, dS_v, dL_s, cell_z, cell_s, nth_z, nth_s, aV_z, aV_s, aI_v, aB_v, aS_v, aL_f, aO_o, aX_b, tst_t, cond_true, cond_false, Ex.same, Nat.beq, List.length_cons, List.length_nil, Int.toNat_natCast, beqTT, beqTF, beqFT, beqFF, lentO]
  exact Evt.ret
include S in
theorem rot_loop {m : Nat} : ∀ (k : Nat) (A U V B : Rows), U.length + V.length = k → 0 < U.length → 0 < V.length → SL E e (A ++ (U ++ (V ++ B))) → (A ++ (U ++ (V ++ B))).length ≤ 1073741824 → A.length + U.length = m →
    ∃ (i : Nat) (A' U' V' B' : Rows), U'.length = i ∧ V'.length = i ∧ A'.length + i = m ∧ A' ++ (V' ++ (U' ++ B')) = A ++ (V ++ (U ++ B)) ∧ (A' ++ (U' ++ (V' ++ B'))).length = (A ++ (U ++ (V ++ B))).length ∧ SL E e (A' ++ (U' ++ (V' ++ B'))) ∧
      Evt (fun d n => S.LRot (TabD fs d) d n [.o w (A ++ (U ++ (V ++ B))), vi m, .ff f cs, vi U.length, vi V.length]) (.exit 0, [.o w (A' ++ (U' ++ (V' ++ B'))), vi m, .ff f cs, vi i]) := by
  intro k
  induction k using Nat.strongRecOn with
  | ind k ih =>
    intro A U V B hk hu hv hs hsz hm
    have hsz' := hsz
    simp only [List.length_append] at hsz'
    rcases Nat.lt_trichotomy U.length V.length with hlt | heq | hgt
    · -- the right one is longer: its end is as long as the left one
      have hV : V = V.take (V.length - U.length) ++ V.drop (V.length - U.length) := (List.take_append_drop _ _).symm
      generalize h1 : V.take (V.length - U.length) = V1 at hV
      generalize h2 : V.drop (V.length - U.length) = V2 at hV
      have l1 : V1.length = V.length - U.length := by rw [← h1]; simp
      have l2 : V2.length = U.length := by rw [← h2]; simp; omega
      have eq1 : A ++ (U ++ (V ++ B)) = A ++ (U ++ (V1 ++ (V2 ++ B))) := by rw [hV]; simp
      have hs1 : SL E e (A ++ (U ++ (V1 ++ (V2 ++ B)))) := by rw [← eq1]; exact hs
      have hs2 : SL E e (A ++ (V2 ++ (V1 ++ (U ++ B)))) := hs1.perm (by simp <;> omega) fun x hx => by simp at hx ⊢; grind
      obtain ⟨i, A', U', V', B', g1, g2, g3, g4, g5, g6, g7⟩ := ih (V2.length + V1.length) (by omega) A V2 V1 (U ++ B) rfl (by omega) (by omega) hs2 (by simp <;> omega) (by omega)
      refine ⟨i, A', U', V', B', g1, g2, g3, ?_, ?_, g6, ?_⟩
      · rw [g4, hV]; simp
      · rw [g5]; simp; omega
      · refine ev_succ (Evt.congr (fun d n => S.sRot ..) ?_)
        have c1 : ((U.length : Int) != (V.length : Int)) = true := by simp; omega
        have c2 : decide ((U.length : Int) > (V.length : Int)) = false := by simp; omega
        simp only [c1, c2, cond_true, cond_false]
        have hl2 : (A ++ (U ++ (V1 ++ (V2 ++ B)))).length ≤ 1073741824 := by rw [← eq1]; exact hsz
        rw [eq1]
        refine ev_lent (swp S hs1 (by omega) hl2 (by rw [wi_fit (by omega) (by omega)]; omega) (by rw [wi_fit (n := (m : Int) + V.length) (by omega) (by omega), wi_fit (by omega) (by omega)]; omega) rfl) ?_
        have e3 : wi ((V.length : Int) - (U.length : Int)) = (V1.length : Int) := by rw [wi_fit (by omega) (by omega)]; omega
        rw [e3, ← l2]
        exact g7
    · refine ⟨U.length, A, U, V, B, rfl, heq.symm, hm, rfl, rfl, hs, ?_⟩
      refine ev_succ (Evt.congr (fun d n => S.sRot ..) ?_)
      have c1 : ((U.length : Int) != (V.length : Int)) = false := by simp; omega
      simp only [c1, cond_false]
      exact Evt.ret
    · have hU : U = U.take V.length ++ U.drop V.length := (List.take_append_drop _ _).symm
      generalize h1 : U.take V.length = U1 at hU
      generalize h2 : U.drop V.length = U2 at hU
      have l1 : U1.length = V.length := by rw [← h1]; simp; omega
      have l2 : U2.length = U.length - V.length := by rw [← h2]; simp
      have eq1 : A ++ (U ++ (V ++ B)) = A ++ (U1 ++ (U2 ++ (V ++ B))) := by rw [hU]; simp
      have hs1 : SL E e (A ++ (U1 ++ (U2 ++ (V ++ B)))) := by rw [← eq1]; exact hs
      have hs2 : SL E e ((A ++ V) ++ (U2 ++ (U1 ++ B))) := hs1.perm (by simp <;> omega) fun x hx => by simp at hx ⊢; grind
      obtain ⟨i, A', U', V', B', g1, g2, g3, g4, g5, g6, g7⟩ := ih (U2.length + U1.length) (by omega) (A ++ V) U2 U1 B rfl (by omega) (by omega) hs2 (by simp <;> omega) (by simp <;> omega)
      refine ⟨i, A', U', V', B', g1, g2, g3, ?_, ?_, g6, ?_⟩
      · rw [g4, hU]; simp
      · rw [g5]; simp; omega
      · refine ev_succ (Evt.congr (fun d n => S.sRot ..) ?_)
        have c1 : ((U.length : Int) != (V.length : Int)) = true := by simp; omega
        have c2 : decide ((U.length : Int) > (V.length : Int)) = true := by simp; omega
        simp only [c1, c2, cond_true]
        have hl2 : (A ++ (U1 ++ (U2 ++ (V ++ B)))).length ≤ 1073741824 := by rw [← eq1]; exact hsz
        rw [eq1]
        refine ev_lent (swp S hs1 (by omega) hl2 (by rw [wi_fit (by omega) (by omega)]; omega) (by omega) (by omega)) ?_
        have e3 : wi ((U.length : Int) - (V.length : Int)) = (U2.length : Int) := by rw [wi_fit (by omega) (by omega)]; omega
        rw [e3, ← l1]
        simpa using g7
include S in
theorem rot {A U V B : Rows} (hs : SL E e (A ++ (U ++ (V ++ B)))) (hu : 0 < U.length) (hv : 0 < V.length) (hsz : (A ++ (U ++ (V ++ B))).length ≤ 1073741824) {x y z : Int}
    (hx : x = A.length) (hy : y = A.length + U.length) (hz : z = A.length + U.length + V.length) :
    Ev fs S.nRot [.d (.s w (A ++ (U ++ (V ++ B)))), di x, di y, di z, .f f cs] (lentO w (A ++ (V ++ (U ++ B)))) := by
  subst hx
  have hsz' := hsz
  simp only [List.length_append] at hsz'
  obtain ⟨i, A', U', V', B', g1, g2, g3, g4, g5, g6, g7⟩ := rot_loop S (f := f) (cs := cs) (m := A.length + U.length) (U.length + V.length) A U V B rfl hu hv hs hsz rfl
  refine Ev.of S.hRot (S.mRot ..) (Evt.congr (fun d n => S.eRot ..) ?_)
  have hy' : y = ((A.length + U.length : Nat) : Int) := by omega
  subst hy'
  have e1 : wi (((A.length + U.length : Nat) : Int) - (A.length : Int)) = (U.length : Int) := by rw [wi_fit (by omega) (by omega)]; omega
  have e2 : wi (z - ((A.length + U.length : Nat) : Int)) = (V.length : Int) := by rw [wi_fit (by omega) (by omega)]; omega
  rw [e1, e2]
  refine ev_aft g7 ?_
  simp -implicitDefEqProofs only [oD_d, oG_g, oT_t, oP_p, dI_v, dB_v, dS_v, dL_s, cell_z, cell_s, nth_z, nth_s, aV_z, aV_s, aI_v, aB_v, aS_v, aL_f, aO_o, aX_b, tst_t, cond_true, cond_false, Ex.same, Nat.beq, List.length_cons, List.length_nil, Int.toNat_natCast, beqTT, beqTF, beqFT, beqFF, aF_f]
  simp only [List.length_append] at g5
  have hsz2 : (A' ++ (U' ++ ([] ++ (V' ++ B')))).length ≤ 1073741824 := by simp only [List.length_append, List.length_nil]; omega
  have := swp S (f := f) (cs := cs) (M := []) (A := A') (U := U') (V := V') (B := B') (by simpa using g6) (by omega) hsz2 (x := wi (((A.length + U.length : Nat) : Int) - (i : Int))) (y := ((A.length + U.length : Nat) : Int)) (z := (i : Int)) (by rw [wi_fit (by omega) (by omega)]; omega) (by simp <;> omega) (by omega)
  simp only [List.nil_append] at this
  rw [g4] at this
  exact ev_lent this Evt.ret
end
end Go.Am
/- AM: stable sorting: insertion, merging in place, the whole. Nothing is assumed. -/
set_option linter.unusedSimpArgs false
set_option linter.unusedVariables false
namespace Go.Am
def at0 (l : Rows) (k : Nat) : Row := (l[k]?).getD []
theorem at_mid {A B : Rows} {u : Row} {p : Nat} (h : p = A.length) : at0 (A ++ u :: B) p = u := by subst h; simp [at0]
theorem at_some {l : Rows} {p : Nat} (h : p < l.length) : l[p]? = some (at0 l p) := by simp [at0, h]
section
variable {lt : Row → Row → Bool}
theorem srt_at (hl : SWO lt) {A U R : Rows} (h : Srt lt U) {i j : Nat} (h1 : A.length ≤ i) (h2 : i ≤ j) (h3 : j < A.length + U.length) : lt (at0 (A ++ (U ++ R)) j) (at0 (A ++ (U ++ R)) i) = false := by
  have key : ∀ k, A.length ≤ k → ∀ (hk : k < A.length + U.length), at0 (A ++ (U ++ R)) k = U[k - A.length]'(by omega) := fun k h4 h5 => by
    unfold at0
    rw [List.getElem?_append_right h4, List.getElem?_append_left (by omega), List.getElem?_eq_getElem (by omega)]
    rfl
  rw [key j (by omega) h3, key i h1 (by omega)]
  rcases Nat.eq_or_lt_of_le h2 with e | e
  · subst e; exact hl.irr _
  · exact List.pairwise_iff_getElem.1 h _ _ (by omega) (by omega) (by omega)
theorem mem_at {A M R : Rows} {x : Row} (h : x ∈ M) : ∃ k, A.length ≤ k ∧ k < A.length + M.length ∧ at0 (A ++ (M ++ R)) k = x := by
  obtain ⟨i, hi, rfl⟩ := List.getElem_of_mem h
  refine ⟨A.length + i, by omega, by omega, ?_⟩
  unfold at0
  rw [List.getElem?_append_right (by omega), List.getElem?_append_left (by omega)]
  simp [hi]
theorem Srt.sub {l l' : Rows} (h : Srt lt l) (g : l'.Sublist l) : Srt lt l' := List.Pairwise.sublist g h
end
/-- A search by halves. -/
theorem bs_loop {R : Type} {L : Nat → Nat → Nat → Nat → Option R} {Y : Nat → R} {q : Nat → Bool} {lo hi : Nat} (mono : ∀ i j, lo ≤ i → i ≤ j → j < hi → q j = true → q i = true)
    (hz : ∀ d m i, L d (m + 1) i i = some (Y i))
    (hs : ∀ i j, lo ≤ i → i < j → j ≤ hi → ∀ y, (q ((i + j) / 2) = true → Evt (fun d m => L d m ((i + j) / 2 + 1) j) y) → (q ((i + j) / 2) = false → Evt (fun d m => L d m i ((i + j) / 2)) y) → Evt (fun d m => L d (m + 1) i j) y) (hle : lo ≤ hi) :
    ∃ i, lo ≤ i ∧ i ≤ hi ∧ (∀ k, lo ≤ k → k < i → q k = true) ∧ (∀ k, i ≤ k → k < hi → q k = false) ∧ Evt (fun d m => L d m lo hi) (Y i) := by
  have key : ∀ (n i j : Nat), j - i ≤ n → lo ≤ i → i ≤ j → j ≤ hi → (∀ k, lo ≤ k → k < i → q k = true) → (∀ k, j ≤ k → k < hi → q k = false) →
      ∃ i', lo ≤ i' ∧ i' ≤ hi ∧ (∀ k, lo ≤ k → k < i' → q k = true) ∧ (∀ k, i' ≤ k → k < hi → q k = false) ∧ Evt (fun d m => L d m i j) (Y i') := by
    intro n
    induction n with
    | zero =>
      intro i j h1 h2 h3 h4 h5 h6
      obtain rfl : i = j := by omega
      exact ⟨i, h2, h4, h5, h6, ev_succ ⟨0, fun d m _ _ => hz d m i⟩⟩
    | succ n ih =>
      intro i j h1 h2 h3 h4 h5 h6
      rcases Nat.eq_or_lt_of_le h3 with e | e
      · subst e
        exact ⟨i, h2, h4, h5, h6, ev_succ ⟨0, fun d m _ _ => hz d m i⟩⟩
      · cases hq : q ((i + j) / 2) with
        | true =>
          obtain ⟨i', g1, g2, g3, g4, g5⟩ := ih ((i + j) / 2 + 1) j (by omega) (by omega) (by omega) h4 (fun k k1 k2 => mono k ((i + j) / 2) k1 (by omega) (by omega) hq) h6
          exact ⟨i', g1, g2, g3, g4, ev_succ (hs i j h2 e h4 _ (fun _ => g5) (fun h => by rw [hq] at h; simp at h))⟩
        | false =>
          obtain ⟨i', g1, g2, g3, g4, g5⟩ := ih i ((i + j) / 2) (by omega) h2 (by omega) (by omega) h5 (fun k k1 k2 => by
            cases hk : q k with
            | false => rfl
            | true => have := mono ((i + j) / 2) k (by omega) k1 k2 hk; rw [hq] at this; simp at this)
          exact ⟨i', g1, g2, g3, g4, ev_succ (hs i j h2 e h4 _ (fun h => by rw [hq] at h; simp at h) (fun _ => g5))⟩
  exact key (hi - lo) lo hi (by omega) (by omega) hle (by omega) (by omega) (by omega)
section
variable {fs : Fns} {E : TypeId → List Sh} {e : TypeId} {w : Nat} (S : SortFam fs E e w) {f : Nat} {cs : List I} {lt : Row → Row → Bool} (hlt : SWO lt)
  (hg : ∀ x y, ShL E (E e) x → ShL E (E e) y → ∃ c, Ev fs f ([.g x, .g y] ++ cs) (io c) ∧ decide (c < 0) = lt x y)
theorem FE.sl {A M M' B : Rows} (hlt : SWO lt) (hs : SL E e (A ++ (M ++ B))) (h : FE lt M M') : SL E e (A ++ (M' ++ B)) :=
  hs.perm (by simp [h.1]) fun x hx => by
    simp only [List.mem_append] at hx ⊢
    rw [h.mem hlt] at hx
    exact hx
/-- The comparison, and what it decides. -/
theorem ev_cmp {R : Type} {x y : Row} {z : R} {A B : Nat → Nat → Option R} {c : Int} (hc : Ev fs f ([.g x, .g y] ++ cs) (io c)) (ht : decide (c < 0) = true → Evt A z) (hf : decide (c < 0) = false → Evt B z) :
    Evt (fun d n => callT (TabD fs d) f ([.g x, .g y] ++ cs) fun o => oD o.res fun v => dI .i64 v fun c => bif decide (c < 0) then A d n else B d n) z := by
  refine ev_call hc ?_
  simp only [oD_d, dI_v]
  exact ev_if ht hf
theorem ev_cmp' {R : Type} {x y : Row} {z : R} {A B : Nat → Nat → Option R} {c : Int} (hc : Ev fs f ([.g x, .g y] ++ cs) (io c)) (ht : decide (c < 0) = true → Evt B z) (hf : decide (c < 0) = false → Evt A z) :
    Evt (fun d n => callT (TabD fs d) f ([.g x, .g y] ++ cs) fun o => oD o.res fun v => dI .i64 v fun c => bif (!decide (c < 0)) then A d n else B d n) z := by
  refine ev_call hc ?_
  simp only [oD_d, dI_v]
  exact ev_if (fun h => hf (by simpa using h)) (fun h => ht (by simpa using h))
include S hlt hg in
theorem ins_in {A B : Rows} {b i : Int} {x : Row} : ∀ (k : Nat) (S1 S2 : Rows), S1.length = k → SL E e (A ++ (S1 ++ (x :: (S2 ++ B)))) → (A ++ (S1 ++ (x :: (S2 ++ B)))).length ≤ 1073741824 → Srt lt (S1 ++ S2) → (∀ y ∈ S2, lt x y = true) →
    ∃ W, SP lt (S1 ++ S2 ++ [x]) W ∧ Evt (fun d n => S.LI1 (TabD fs d) d n [.o w (A ++ (S1 ++ (x :: (S2 ++ B)))), vi A.length, vi b, .ff f cs, vi i, vi (A.length + S1.length : Nat)]) (.exit 2, [.o w (A ++ (W ++ B)), vi A.length, vi b, .ff f cs, vi i]) := by
  intro k
  induction k with
  | zero =>
    intro S1 S2 h0 hs hsz h1 h2
    have : S1 = [] := List.length_eq_zero_iff.1 h0
    subst this
    refine ⟨[x] ++ S2, srt_ins hlt (s1 := []) h1 (.inl rfl) h2, ev_succ ⟨0, fun d m _ _ => ?_⟩⟩
    have := S.zI1 (TabD fs d) d m (A ++ (x :: (S2 ++ B))) A.length b f cs i (A.length : Int) (by simp)
    simpa using this
  | succ k ih =>
    intro S1 S2 h0 hs hsz h1 h2
    obtain ⟨T, y, rfl⟩ : ∃ T y, S1 = T ++ [y] := by
      rcases List.eq_nil_or_concat S1 with e | ⟨T, y, e⟩
      · subst e; simp at h0
      · exact ⟨T, y, by simpa using e⟩
    simp only [List.length_append, List.length_cons, List.length_nil] at h0 hsz
    have hx : (A ++ (T ++ [y] ++ (x :: (S2 ++ B))))[A.length + T.length + 1]? = some x := by
      have : A ++ (T ++ [y] ++ (x :: (S2 ++ B))) = (A ++ (T ++ [y])) ++ x :: (S2 ++ B) := by simp
      rw [this]; exact getMid (by simp <;> omega)
    have hy : (A ++ (T ++ [y] ++ (x :: (S2 ++ B))))[A.length + T.length]? = some y := by
      have : A ++ (T ++ [y] ++ (x :: (S2 ++ B))) = (A ++ T) ++ y :: (x :: (S2 ++ B)) := by simp
      rw [this]; exact getMid (by simp)
    obtain ⟨c, hc, hd⟩ := hg x y (hs.at hx) (hs.at hy)
    have hset : ((A ++ (T ++ [y] ++ (x :: (S2 ++ B)))).set (A.length + T.length + 1) y).set (A.length + T.length) x = A ++ (T ++ (x :: ((y :: S2) ++ B))) := by
      have : A ++ (T ++ [y] ++ (x :: (S2 ++ B))) = (A ++ (T ++ [y])) ++ x :: (S2 ++ B) := by simp
      rw [this, setMid (by simp <;> omega)]
      have : A ++ (T ++ [y]) ++ y :: (S2 ++ B) = (A ++ T) ++ y :: (y :: (S2 ++ B)) := by simp
      rw [this, setMid (by simp)]
      simp
    have hstep := fun d n => S.sI1 (TabD fs d) d n (A ++ (T ++ [y] ++ (x :: (S2 ++ B)))) A.length b f cs i (A.length + T.length + 1) (A.length + T.length) x y hs (by simp <;> omega) (by rw [wi_fit (by omega) (by omega)]; omega) hx hy
    have ej : (A.length + (T ++ [y]).length : Nat) = A.length + T.length + 1 := by simp; omega
    rw [ej]
    cases hlx : lt x y with
    | true =>
      have e1 : T ++ (y :: S2) = T ++ [y] ++ S2 := by simp
      obtain ⟨W, w1, w2⟩ := ih T (y :: S2) (by omega) (by rw [← hset]; exact hs.perm (by simp) fun z hz => by rw [hset] at hz; simp at hz ⊢; grind) (by simp <;> omega) (by rw [e1]; exact h1) (fun z hz => by
        rcases List.mem_cons.1 hz with e | e
        · rw [e]; exact hlx
        · exact h2 z e)
      refine ⟨W, by rw [e1] at w1; exact w1, ev_succ (Evt.congr hstep (ev_cmp hc (fun _ => ?_) (fun h => by rw [hd, hlx] at h; simp at h)))⟩
      rw [hset]
      exact w2
    | false =>
      refine ⟨(T ++ [y]) ++ ([x] ++ S2), srt_ins hlt h1 (.inr ⟨T, y, rfl, hlx⟩) h2, ev_succ (Evt.congr hstep (ev_cmp hc (fun h => by rw [hd, hlx] at h; simp at h) (fun _ => ?_)))⟩
      have : A ++ (T ++ [y] ++ ([x] ++ S2) ++ B) = A ++ (T ++ [y] ++ (x :: (S2 ++ B))) := by simp
      rw [this]
      exact Evt.ret
include S hlt hg in
theorem ins_out {A B : Rows} {b : Int} : ∀ (Q P : Rows), SL E e (A ++ (P ++ (Q ++ B))) → (A ++ (P ++ (Q ++ B))).length ≤ 1073741824 → Srt lt P → b = A.length + P.length + Q.length →
    ∃ W, SP lt (P ++ Q) W ∧ Evt (fun d n => S.LI0 (TabD fs d) d n [.o w (A ++ (P ++ (Q ++ B))), vi A.length, vi b, .ff f cs, vi (A.length + P.length : Nat)]) (.exit 0, [.o w (A ++ (W ++ B))]) := by
  intro Q
  induction Q with
  | nil =>
    intro P hs hsz h1 hb
    refine ⟨P, ⟨h1, by simpa using FE.refl P⟩, ev_succ (Evt.congr (fun d n => S.sI0 ..) ?_)⟩
    have : decide (((A.length + P.length : Nat) : Int) < b) = false := by simp at hb; simp; omega
    simp only [this, cond_false]
    exact Evt.ret
  | cons x Q ih =>
    intro P hs hsz h1 hb
    simp only [List.length_append, List.length_cons] at hsz hb
    obtain ⟨W1, w1, w2⟩ := ins_in S hlt hg (f := f) (cs := cs) (A := A) (B := Q ++ B) (b := b) (i := (A.length + P.length : Nat)) (x := x) P.length P [] rfl hs (by simp <;> omega) (by simpa using h1) (by simp)
    have hf1 : FE lt (P ++ [x]) W1 := by simpa using w1.2
    have hs1 : SL E e (A ++ (W1 ++ (Q ++ B))) := FE.sl hlt (M := P ++ [x]) (by simpa using hs) hf1
    have hl1 : W1.length = P.length + 1 := by have := hf1.1; simpa using this
    obtain ⟨W, q1, q2⟩ := ih W1 hs1 (by simp <;> omega) w1.1 (by omega)
    refine ⟨W, ⟨q1.1, ?_⟩, ev_succ (Evt.congr (fun d n => S.sI0 ..) ?_)⟩
    · have e1 : P ++ x :: Q = (P ++ [x]) ++ Q := by simp
      rw [e1]
      exact (hf1.app (FE.refl Q)).trans q1.2
    · have : decide (((A.length + P.length : Nat) : Int) < b) = true := by simp; omega
      simp only [this, cond_true]
      refine ev_aft w2 ?_
      simp -implicitDefEqProofs only [Ex.same, Nat.beq, cond_true, aV_z, aV_s, aO_o, aI_v, aF_f]
      have e2 : wi (((A.length + P.length : Nat) : Int) + 1) = ((A.length + W1.length : Nat) : Int) := by rw [wi_fit (by omega) (by omega)]; omega
      rw [e2]
      exact q2
include S hlt hg in
theorem ins {A Q B : Rows} (hs : SL E e (A ++ (Q ++ B))) (hsz : (A ++ (Q ++ B)).length ≤ 1073741824) {a b : Int} (ha : a = A.length) (hb : b = A.length + Q.length) :
    ∃ W, SP lt Q W ∧ Ev fs S.nIns [.d (.s w (A ++ (Q ++ B))), di a, di b, .f f cs] (lentO w (A ++ (W ++ B))) := by
  subst ha
  simp only [List.length_append] at hsz
  have fin : ∀ {W}, Evt (fun d n => S.LI0 (TabD fs d) d n [.o w (A ++ (Q ++ B)), vi A.length, vi b, .ff f cs, vi (wi ((A.length : Int) + 1))]) (.exit 0, [.o w (A ++ (W ++ B))]) → Ev fs S.nIns [.d (.s w (A ++ (Q ++ B))), di A.length, di b, .f f cs] (lentO w (A ++ (W ++ B))) := fun h => by
    refine Ev.of S.hIns (S.mIns ..) (Evt.congr (fun d n => S.eIns ..) ?_)
    refine ev_aft h ?_
    simp -implicitDefEqProofs only [Ex.same, Nat.beq, cond_true, aV_z, aV_s, aO_o]
    exact Evt.ret
  have e1 : wi ((A.length : Int) + 1) = ((A.length + 1 : Nat) : Int) := by rw [wi_fit (by omega) (by omega)]; omega
  cases Q with
  | nil =>
    refine ⟨[], ⟨srt_nil, FE.refl _⟩, fin (ev_succ (Evt.congr (fun d n => S.sI0 ..) ?_))⟩
    have : decide (wi ((A.length : Int) + 1) < b) = false := by rw [e1]; simp at hb; simp; omega
    simp only [this, cond_false]
    exact Evt.ret
  | cons x Q =>
    simp only [List.length_cons] at hsz hb
    obtain ⟨W, q1, q2⟩ := ins_out S hlt hg (f := f) (cs := cs) (A := A) (B := B) (b := b) Q [x] (by simpa using hs) (by simp <;> omega) (srt_sing x) (by simp <;> omega)
    refine ⟨W, q1, fin ?_⟩
    rw [e1]
    simpa using q2
end
end Go.Am
/- AM: stable sorting: merging in place, the whole. Nothing is assumed. -/
set_option linter.unusedSimpArgs false
set_option linter.unusedVariables false
namespace Go.Am
section
variable {fs : Fns} {E : TypeId → List Sh} {e : TypeId} {w : Nat} (S : SortFam fs E e w) {f : Nat} {cs : List I} {lt : Row → Row → Bool} (hlt : SWO lt)
  (hg : ∀ x y, ShL E (E e) x → ShL E (E e) y → ∃ c, Ev fs f ([.g x, .g y] ++ cs) (io c) ∧ decide (c < 0) = lt x y)
include S in
/-- One goes to the right, over these. -/
theorem right_loop {i : Int} {R : Rows} {x : Row} : ∀ (V A : Rows), SL E e (A ++ (x :: (V ++ R))) → (A ++ (x :: (V ++ R))).length ≤ 1073741824 → i = A.length + V.length + 1 →
    Evt (fun d n => S.LS1 (TabD fs d) d n [.o w (A ++ (x :: (V ++ R))), vi i, vi A.length]) (.exit 2, [.o w (A ++ (V ++ (x :: R)))]) := by
  intro V
  induction V with
  | nil =>
    intro A hs hsz hi
    simp only [List.length_append, List.length_cons] at hsz
    refine ev_succ ⟨0, fun d m _ _ => ?_⟩
    exact S.zS1 _ _ _ _ _ _ (by rw [wi_fit (by simp at hi; omega) (by simp at hi; omega)]; simp at hi; simp; omega)
  | cons v V ih =>
    intro A hs hsz hi
    simp only [List.length_append, List.length_cons] at hsz hi
    have hp : (A ++ (x :: (v :: V ++ R)))[A.length]? = some x := getMid rfl
    have ea : A ++ (x :: (v :: V ++ R)) = (A ++ [x]) ++ v :: (V ++ R) := by simp
    have hq : (A ++ (x :: (v :: V ++ R)))[A.length + 1]? = some v := by rw [ea]; exact getMid (by simp)
    have hset : ((A ++ (x :: (v :: V ++ R))).set A.length v).set (A.length + 1) x = (A ++ [v]) ++ (x :: (V ++ R)) := by
      rw [setMid rfl]
      have : A ++ v :: (v :: V ++ R) = (A ++ [v]) ++ v :: (V ++ R) := by simp
      rw [this, setMid (by simp)]
    have hst := fun d m => S.sS1 (TabD fs d) d m _ i A.length (A.length + 1) x v hs (by rw [wi_fit (by omega) (by omega)]; simp; omega) ((wi_fit (by omega) (by omega)).trans (by omega)) hp hq
    refine ev_succ (Evt.congr hst ?_)
    rw [hset]
    have := ih (A ++ [v]) (hs.perm (by simp <;> omega) fun z hz => by simp at hz ⊢; grind) (by simp; omega) (by simp; omega)
    have e1 : (A ++ [v]).length = A.length + 1 := by simp
    rw [e1] at this
    have e2 : A ++ (v :: V ++ (x :: R)) = (A ++ [v]) ++ (V ++ (x :: R)) := by simp
    rw [e2]
    exact this
include S in
/-- One goes to the left, over these. -/
theorem left_loop {A : Rows} {x : Row} : ∀ (k : Nat) (U R : Rows), U.length = k → SL E e (A ++ (U ++ (x :: R))) → (A ++ (U ++ (x :: R))).length ≤ 1073741824 →
    Evt (fun d n => S.LS3 (TabD fs d) d n [.o w (A ++ (U ++ (x :: R))), vi A.length, vi (A.length + U.length : Nat)]) (.exit 6, [.o w (A ++ (x :: (U ++ R)))]) := by
  intro k
  induction k with
  | zero =>
    intro U R h0 hs hsz
    have : U = [] := List.length_eq_zero_iff.1 h0
    subst this
    refine ev_succ ⟨0, fun d m _ _ => ?_⟩
    exact S.zS3 _ _ _ _ _ _ (by simp)
  | succ k ih =>
    intro U R h0 hs hsz
    obtain ⟨T, y, rfl⟩ : ∃ T y, U = T ++ [y] := by
      rcases List.eq_nil_or_concat U with e | ⟨T, y, e⟩
      · subst e; simp at h0
      · exact ⟨T, y, by simpa using e⟩
    simp only [List.length_append, List.length_cons, List.length_nil] at h0 hsz
    have hx : (A ++ (T ++ [y] ++ (x :: R)))[A.length + T.length + 1]? = some x := by
      have : A ++ (T ++ [y] ++ (x :: R)) = (A ++ (T ++ [y])) ++ x :: R := by simp
      rw [this]; exact getMid (by simp <;> omega)
    have hy : (A ++ (T ++ [y] ++ (x :: R)))[A.length + T.length]? = some y := by
      have : A ++ (T ++ [y] ++ (x :: R)) = (A ++ T) ++ y :: (x :: R) := by simp
      rw [this]; exact getMid (by simp)
    have hset : ((A ++ (T ++ [y] ++ (x :: R))).set (A.length + T.length + 1) y).set (A.length + T.length) x = A ++ (T ++ (x :: (y :: R))) := by
      have : A ++ (T ++ [y] ++ (x :: R)) = (A ++ (T ++ [y])) ++ x :: R := by simp
      rw [this, setMid (by simp <;> omega)]
      have : A ++ (T ++ [y]) ++ y :: R = (A ++ T) ++ y :: (y :: R) := by simp
      rw [this, setMid (by simp)]
      simp
    have hst := fun d m => S.sS3 (TabD fs d) d m (A ++ (T ++ [y] ++ (x :: R))) A.length (A.length + T.length) (A.length + T.length + 1) y x hs (by simp; omega) ((wi_fit (by omega) (by omega)).trans (by omega)) hy hx
    have ej : (A.length + (T ++ [y]).length : Nat) = A.length + T.length + 1 := by simp <;> omega
    rw [ej]
    refine ev_succ (Evt.congr hst ?_)
    rw [hset]
    have := ih T (y :: R) (by omega) (by rw [← hset]; exact hs.perm (by simp) fun z hz => by rw [hset] at hz; simp at hz ⊢; grind) (by simp; omega)
    have e2 : A ++ (x :: (T ++ [y] ++ R)) = A ++ (x :: (T ++ (y :: R))) := by simp
    rw [e2]
    exact this
include S hlt hg in
theorem sym_one {A V B : Rows} {x : Row} (hs : SL E e (A ++ ([x] ++ (V ++ B)))) (hsz : (A ++ ([x] ++ (V ++ B))).length ≤ 1073741824) (hv : Srt lt V) :
    ∃ W, SP lt ([x] ++ V) W ∧ Ev fs S.nSym [.d (.s w (A ++ ([x] ++ (V ++ B)))), di A.length, di (A.length + 1 : Nat), di (A.length + 1 + V.length : Nat), .f f cs] (lentO w (A ++ (W ++ B))) := by
  simp only [List.length_append, List.length_cons, List.length_nil] at hsz
  generalize hl : A ++ ([x] ++ (V ++ B)) = l at hs
  have hl2 : l = (A ++ [x]) ++ (V ++ B) := by rw [← hl]; simp
  have hlen : l.length = A.length + 1 + V.length + B.length := by rw [← hl]; simp <;> omega
  have hx : l[A.length]? = some x := by rw [← hl]; exact getMid rfl
  obtain ⟨i, i1, i2, i3, i4, i5⟩ := bs_loop (L := fun d m i j => S.LS0 (TabD fs d) d m [.o w l, vi A.length, .ff f cs, vi i, vi j]) (Y := fun i => (.exit 0, [.o w l, vi A.length, vi i]))
    (q := fun k => lt (at0 l k) x) (lo := A.length + 1) (hi := A.length + 1 + V.length) (fun i j h1 h2 h3 h4 => by
      have : lt (at0 l j) (at0 l i) = false := by rw [hl2]; exact srt_at hlt hv (by simp <;> omega) h2 (by simp <;> omega)
      exact hlt.lelt this h4)
    (fun d m i => S.zS0 _ _ _ _ _ _ _ _ _ (by simp)) (fun i j h1 h2 h3 y ht hf => by
      have hh : l[(i + j) / 2]? = some (at0 l ((i + j) / 2)) := at_some (by omega)
      obtain ⟨c, hc, hd⟩ := hg _ x (hs.at hh) (hs.at hx)
      refine Evt.congr (fun d m => S.sS0 (TabD fs d) d m l A.length f cs i j ((i + j) / 2) _ x hs (by simp; omega) (hfi_nat (by omega)) hh hx) (ev_cmp hc (fun h => ?_) (fun h => ?_))
      · have := ht (by rw [← hd]; exact h)
        have e1 : wi ((((i + j) / 2 : Nat) : Int) + 1) = (((i + j) / 2 + 1 : Nat) : Int) := (wi_fit (by omega) (by omega)).trans (by omega)
        rw [e1]
        exact this
      · exact hf (by rw [← hd]; exact h)) (by omega)
  have hV : V = V.take (i - (A.length + 1)) ++ V.drop (i - (A.length + 1)) := (List.take_append_drop _ _).symm
  generalize h1 : V.take (i - (A.length + 1)) = V1 at hV
  generalize h2 : V.drop (i - (A.length + 1)) = V2 at hV
  have l1 : V1.length = i - (A.length + 1) := by rw [← h1]; simp; omega
  have l2 : V2.length = V.length - (i - (A.length + 1)) := by rw [← h2]; simp
  have hl3 : l = (A ++ [x]) ++ (V1 ++ (V2 ++ B)) := by rw [hl2, hV]; simp
  have hl4 : l = (A ++ ([x] ++ V1)) ++ (V2 ++ B) := by rw [hl3]; simp
  rw [hV] at hv
  obtain ⟨v1, v2, v3⟩ := srt_app.1 hv
  have q1 : ∀ y ∈ V1, lt y x = true := fun y hy => by
    obtain ⟨k, k1, k2, k3⟩ := mem_at (A := A ++ [x]) (R := V2 ++ B) hy
    simp only [List.length_append, List.length_cons, List.length_nil] at k1 k2
    rw [← hl3] at k3
    rw [← k3]
    exact i3 k (by omega) (by omega)
  have q2 : ∀ y ∈ V2, lt y x = false := fun y hy => by
    obtain ⟨k, k1, k2, k3⟩ := mem_at (A := A ++ ([x] ++ V1)) (R := B) hy
    simp only [List.length_append, List.length_cons, List.length_nil] at k1 k2
    rw [← hl4] at k3
    rw [← k3]
    exact i4 k (by omega) (by omega)
  refine ⟨V1 ++ ([x] ++ V2), ⟨srt_app.2 ⟨v1, srt_app.2 ⟨srt_sing x, v2, fun a ha b hb => ?_⟩, fun a ha b hb => ?_⟩, ?_⟩, ?_⟩
  · simp at ha; subst ha; exact q2 b hb
  · rcases List.mem_append.1 hb with e | e
    · simp at e; subst e; exact hlt.asym (q1 a ha)
    · exact v3 a ha b e
  · rw [hV]
    have := (FE.swap hlt (u := [x]) (v := V1) fun a ha b hb => by simp at ha; subst ha; exact q1 b hb).app (FE.refl V2)
    simpa using this
  · refine Ev.of S.hSym (S.mSym ..) (Evt.congr (fun d n => S.eSym ..) ?_)
    have c1 : (wi (((A.length + 1 : Nat) : Int) - (A.length : Int)) == 1) = true := by rw [wi_fit (by omega) (by omega)]; simp; omega
    simp only [c1, cond_true]
    refine ev_aft i5 ?_
    simp -implicitDefEqProofs only [Ex.same, Nat.beq, cond_true, aV_z, aV_s, aO_o, aI_v, aF_f]
    have := right_loop S (i := (i : Int)) (R := V2 ++ B) (x := x) V1 A (by rw [hl3] at hs; simpa using hs) (by simp; omega) (by omega)
    have e1 : A ++ (x :: (V1 ++ (V2 ++ B))) = l := by rw [hl3]; simp
    rw [e1] at this
    refine ev_aft this ?_
    simp -implicitDefEqProofs only [Ex.same, Nat.beq, cond_true, aV_z, aV_s, aO_o, aI_v, aF_f]
    exact Evt.ret' (by simp)
include S hlt hg in
theorem sym_two {A U B : Rows} {x : Row} (hu2 : 2 ≤ U.length) (hs : SL E e (A ++ (U ++ ([x] ++ B)))) (hsz : (A ++ (U ++ ([x] ++ B))).length ≤ 1073741824) (hu : Srt lt U) :
    ∃ W, SP lt (U ++ [x]) W ∧ Ev fs S.nSym [.d (.s w (A ++ (U ++ ([x] ++ B)))), di A.length, di (A.length + U.length : Nat), di (A.length + U.length + 1 : Nat), .f f cs] (lentO w (A ++ (W ++ B))) := by
  simp only [List.length_append, List.length_cons, List.length_nil] at hsz
  generalize hl : A ++ (U ++ ([x] ++ B)) = l at hs
  have hlen : l.length = A.length + U.length + 1 + B.length := by rw [← hl]; simp <;> omega
  have hx : l[A.length + U.length]? = some x := by
    have : l = (A ++ U) ++ x :: B := by rw [← hl]; simp
    rw [this]; exact getMid (by simp)
  obtain ⟨i, i1, i2, i3, i4, i5⟩ := bs_loop (L := fun d m i j => S.LS2 (TabD fs d) d m [.o w l, vi (A.length + U.length : Nat), .ff f cs, vi i, vi j]) (Y := fun i => (.exit 4, [.o w l, vi (A.length + U.length : Nat), vi i]))
    (q := fun k => !lt x (at0 l k)) (lo := A.length) (hi := A.length + U.length) (fun i j h1 h2 h3 h4 => by
      have : lt (at0 l j) (at0 l i) = false := by rw [← hl]; exact srt_at hlt hu h1 h2 h3
      simp only [Bool.not_eq_true'] at h4 ⊢
      exact hlt.lele this h4)
    (fun d m i => S.zS2 _ _ _ _ _ _ _ _ _ (by simp)) (fun i j h1 h2 h3 y ht hf => by
      have hh : l[(i + j) / 2]? = some (at0 l ((i + j) / 2)) := at_some (by omega)
      obtain ⟨c, hc, hd⟩ := hg x _ (hs.at hx) (hs.at hh)
      refine Evt.congr (fun d m => S.sS2 (TabD fs d) d m l (A.length + U.length) f cs i j ((i + j) / 2) x _ hs (by simp; omega) (hfi_nat (by omega)) hx hh) (ev_cmp' hc (fun h => ?_) (fun h => ?_))
      · exact hf (by rw [← hd]; simp only [h, Bool.not_true])
      · have := ht (by rw [← hd]; simp only [h, Bool.not_false])
        have e1 : wi ((((i + j) / 2 : Nat) : Int) + 1) = (((i + j) / 2 + 1 : Nat) : Int) := (wi_fit (by omega) (by omega)).trans (by omega)
        rw [e1]
        exact this) (by omega)
  have hU : U = U.take (i - A.length) ++ U.drop (i - A.length) := (List.take_append_drop _ _).symm
  generalize h1 : U.take (i - A.length) = U1 at hU
  generalize h2 : U.drop (i - A.length) = U2 at hU
  have l1 : U1.length = i - A.length := by rw [← h1]; simp; omega
  have l2 : U2.length = U.length - (i - A.length) := by rw [← h2]; simp
  have hl3 : l = A ++ (U1 ++ (U2 ++ ([x] ++ B))) := by rw [← hl, hU]; simp
  have hl4 : l = (A ++ U1) ++ (U2 ++ ([x] ++ B)) := by rw [hl3]; simp
  rw [hU] at hu
  have q1 : ∀ y ∈ U1, lt x y = false := fun y hy => by
    obtain ⟨k, k1, k2, k3⟩ := mem_at (A := A) (R := U2 ++ ([x] ++ B)) hy
    rw [← hl3] at k3
    have := i3 k (by omega) (by omega)
    simpa [k3] using this
  have q2 : ∀ y ∈ U2, lt x y = true := fun y hy => by
    obtain ⟨k, k1, k2, k3⟩ := mem_at (A := A ++ U1) (R := [x] ++ B) hy
    simp only [List.length_append] at k1 k2
    rw [← hl4] at k3
    have := i4 k (by omega) (by omega)
    simpa [k3] using this
  refine ⟨U1 ++ ([x] ++ U2), ?_, ?_⟩
  · rw [hU]
    refine srt_ins hlt hu ?_ q2
    rcases List.eq_nil_or_concat U1 with e | ⟨T, y, e⟩
    · exact .inl e
    · refine .inr ⟨T, y, by simpa using e, q1 y (by rw [e]; simp)⟩
  · refine Ev.of S.hSym (S.mSym ..) (Evt.congr (fun d n => S.eSym ..) ?_)
    have c1 : (wi (((A.length + U.length : Nat) : Int) - (A.length : Int)) == 1) = false := by rw [wi_fit (by omega) (by omega)]; simp; omega
    have c2 : (wi (((A.length + U.length + 1 : Nat) : Int) - ((A.length + U.length : Nat) : Int)) == 1) = true := by rw [wi_fit (by omega) (by omega)]; simp; omega
    simp only [c1, c2, cond_true, cond_false]
    refine ev_aft i5 ?_
    simp -implicitDefEqProofs only [Ex.same, Nat.beq, cond_true, aV_z, aV_s, aO_o, aI_v, aF_f]
    have := left_loop S (A := A ++ U1) (x := x) U2.length U2 B rfl (by rw [hl4] at hs; simpa using hs) (by simp; omega)
    have e1 : A ++ U1 ++ (U2 ++ (x :: B)) = l := by rw [hl4]; simp
    have e2 : ((A ++ U1).length : Int) = (i : Int) := by simp; omega
    have e3 : (A ++ U1).length + U2.length = A.length + U.length := by simp; omega
    rw [e1, e2, e3] at this
    refine ev_aft this ?_
    simp -implicitDefEqProofs only [Ex.same, Nat.beq, cond_true, aV_z, aV_s, aO_o, aI_v, aF_f]
    exact Evt.ret' (by simp)
end
end Go.Am
/- AM: stable sorting: merging in place, the whole. Nothing is assumed. -/
set_option linter.unusedSimpArgs false
set_option linter.unusedVariables false
namespace Go.Am
section
variable {fs : Fns} {E : TypeId → List Sh} {e : TypeId} {w : Nat} (S : SortFam fs E e w) {f : Nat} {cs : List I} {lt : Row → Row → Bool} (hlt : SWO lt)
  (hg : ∀ x y, ShL E (E e) x → ShL E (E e) y → ∃ c, Ev fs f ([.g x, .g y] ++ cs) (io c) ∧ decide (c < 0) = lt x y)
set_option maxHeartbeats 1600000 in
include S hlt in
/-- Behind the search: the middle is turned, the halves are merged. -/
theorem sym_tail {A U V B l : Rows} {s mid n : Nat} (hl : A ++ (U ++ (V ++ B)) = l) (hs : SL E e l) (hsz : l.length ≤ 1073741824) (hu : Srt lt U) (hv : Srt lt V)
    (h1 : A.length ≤ s) (h2 : s ≤ A.length + U.length) (h3 : A.length + U.length + s ≤ n) (h4 : n ≤ s + (A.length + U.length + V.length)) (hn : n = mid + (A.length + U.length))
    (hm1 : A.length < mid) (hm2 : mid < A.length + U.length + V.length)
    (q1 : s < A.length + U.length → s < mid → lt (at0 l (n - s - 1)) (at0 l s) = true) (q2 : A.length < s → n < s + (A.length + U.length + V.length) → lt (at0 l (n - s)) (at0 l (s - 1)) = false)
    (ih : ∀ A' U' V' B', U'.length + V'.length < U.length + V.length → 0 < U'.length → 0 < V'.length → Srt lt U' → Srt lt V' → SL E e (A' ++ (U' ++ (V' ++ B'))) → (A' ++ (U' ++ (V' ++ B'))).length ≤ 1073741824 →
      ∃ W, SP lt (U' ++ V') W ∧ Ev fs S.nSym [.d (.s w (A' ++ (U' ++ (V' ++ B')))), di A'.length, di (A'.length + U'.length : Nat), di (A'.length + U'.length + V'.length : Nat), .f f cs] (lentO w (A' ++ (W ++ B')))) :
    ∃ W, SP lt (U ++ V) W ∧ Evt (fun d k => mayC (TabD fs d) S.nRot w l s (A.length + U.length : Nat) (wi ((n : Int) - (s : Int))) f cs fun l => mayC (TabD fs d) S.nSym w l A.length s mid f cs fun l =>
      mayC (TabD fs d) S.nSym w l mid (wi ((n : Int) - (s : Int))) (A.length + U.length + V.length : Nat) f cs fun l => some (⟨.t [], [.d (.s w l)]⟩ : Out)) (lentO w (A ++ (W ++ B))) := by
  have hlen : l.length = A.length + U.length + V.length + B.length := by rw [← hl]; simp <;> omega
  have ew : wi ((n : Int) - (s : Int)) = ((n - s : Nat) : Int) := (wi_fit (by omega) (by omega)).trans (by omega)
  rw [ew]
  have hU : U = U.take (s - A.length) ++ U.drop (s - A.length) := (List.take_append_drop _ _).symm
  generalize g1 : U.take (s - A.length) = U1 at hU
  generalize g2 : U.drop (s - A.length) = U2 at hU
  have l1 : U1.length = s - A.length := by rw [← g1]; simp; omega
  have l2 : U2.length = U.length - (s - A.length) := by rw [← g2]; simp
  have hV : V = V.take (n - s - (A.length + U.length)) ++ V.drop (n - s - (A.length + U.length)) := (List.take_append_drop _ _).symm
  generalize g3 : V.take (n - s - (A.length + U.length)) = V1 at hV
  generalize g4 : V.drop (n - s - (A.length + U.length)) = V2 at hV
  have l3 : V1.length = n - s - (A.length + U.length) := by rw [← g3]; simp; omega
  have l4 : V2.length = V.length - (n - s - (A.length + U.length)) := by rw [← g4]; simp
  have e0 : l = A ++ (U1 ++ (U2 ++ (V1 ++ (V2 ++ B)))) := by rw [← hl, hU, hV]; simp
  have hul := hU
  rw [hU] at hu
  rw [hV] at hv
  obtain ⟨u1, u2, u3⟩ := srt_app.1 hu
  obtain ⟨v1, v2, v3⟩ := srt_app.1 hv
  have p1 : ∀ x ∈ U2, ∀ y ∈ V1, lt y x = true := fun x hx y hy => by
    have hn1 : 0 < U2.length := List.length_pos_of_mem hx
    have hn2 : 0 < V1.length := List.length_pos_of_mem hy
    have q := q1 (by omega) (by omega)
    obtain ⟨i, i1, i2, i3⟩ := mem_at (A := A ++ U1) (R := V1 ++ (V2 ++ B)) hx
    obtain ⟨j, j1, j2, j3⟩ := mem_at (A := A ++ (U1 ++ U2)) (R := V2 ++ B) hy
    simp only [List.length_append] at i1 i2 j1 j2
    have e1 : (A ++ U1) ++ (U2 ++ (V1 ++ (V2 ++ B))) = l := by rw [e0]; simp
    have e2 : (A ++ (U1 ++ U2)) ++ (V1 ++ (V2 ++ B)) = l := by rw [e0]; simp
    have a1 : lt (at0 l i) (at0 l s) = false := by rw [← e1]; exact srt_at hlt u2 (by first | omega | (simp <;> omega)) (by omega) (by first | omega | (simp <;> omega))
    have a2 : lt (at0 l (n - s - 1)) (at0 l j) = false := by rw [← e2]; exact srt_at hlt v1 (by first | omega | (simp <;> omega)) (by omega) (by first | omega | (simp <;> omega))
    rw [e1] at i3
    rw [e2] at j3
    rw [← i3, ← j3]
    exact hlt.ltle (hlt.lelt a2 q) a1
  have p2 : ∀ x ∈ U1, ∀ y ∈ V2, lt y x = false := fun x hx y hy => by
    have hn1 : 0 < U1.length := List.length_pos_of_mem hx
    have hn2 : 0 < V2.length := List.length_pos_of_mem hy
    have q := q2 (by omega) (by omega)
    obtain ⟨i, i1, i2, i3⟩ := mem_at (A := A) (R := U2 ++ (V1 ++ (V2 ++ B))) hx
    obtain ⟨j, j1, j2, j3⟩ := mem_at (A := A ++ (U1 ++ (U2 ++ V1))) (R := B) hy
    simp only [List.length_append] at i1 i2 j1 j2
    have e1 : A ++ (U1 ++ (U2 ++ (V1 ++ (V2 ++ B)))) = l := e0.symm
    have e2 : (A ++ (U1 ++ (U2 ++ V1))) ++ (V2 ++ B) = l := by rw [e0]; simp
    have a1 : lt (at0 l (s - 1)) (at0 l i) = false := by rw [← e1]; exact srt_at hlt u1 (by first | omega | (simp <;> omega)) (by omega) (by omega)
    have a2 : lt (at0 l j) (at0 l (n - s)) = false := by rw [← e2]; exact srt_at hlt v2 (by first | omega | (simp <;> omega)) (by omega) (by first | omega | (simp <;> omega))
    rw [e1] at i3
    rw [e2] at j3
    rw [← i3, ← j3]
    exact hlt.lele (hlt.lele a1 q) a2
  -- the turn
  have hrot : FE lt (U ++ V) ((U1 ++ V1) ++ (U2 ++ V2)) := by
    rw [hU, hV]
    have := (FE.refl (lt := lt) U1).app ((FE.swap hlt p1).app (FE.refl (lt := lt) V2))
    simpa using this
  have hs0 : SL E e (A ++ ((U1 ++ V1) ++ ((U2 ++ V2) ++ B))) := by
    have := FE.sl hlt (A := A) (B := B) (M := U ++ V) (by rw [← hl] at hs; simpa using hs) hrot
    simpa using this
  -- the left half
  obtain ⟨L, wl1, wl2⟩ : ∃ L, SP lt (U1 ++ V1) L ∧ ((A.length : Int) < s → (s : Int) < mid → Ev fs S.nSym [.d (.s w (A ++ (U1 ++ (V1 ++ ((U2 ++ V2) ++ B))))), di A.length, di s, di mid, .f f cs] (lentO w (A ++ (L ++ ((U2 ++ V2) ++ B))))) ∧ (¬ ((A.length : Int) < s ∧ (s : Int) < mid) → L = U1 ++ V1) := by
    by_cases hc : A.length < s ∧ s < mid
    · obtain ⟨W, w1, w2⟩ := ih A U1 V1 ((U2 ++ V2) ++ B) (by omega) (by omega) (by omega) u1 v1 (by simpa using hs0) (by simp; omega)
      refine ⟨W, w1, fun _ _ => ?_, fun h => absurd ⟨by omega, by omega⟩ h⟩
      have e1 : (A.length + U1.length : Nat) = s := by omega
      have e2 : s + V1.length = mid := by omega
      rw [e1, e2] at w2
      exact w2
    · refine ⟨U1 ++ V1, ⟨?_, FE.refl _⟩, fun a b => absurd ⟨by omega, by omega⟩ hc, fun _ => rfl⟩
      by_cases h : A.length < s
      · have : V1 = [] := List.length_eq_zero_iff.1 (by omega)
        subst this; simpa using u1
      · have : U1 = [] := List.length_eq_zero_iff.1 (by omega)
        subst this; simpa using v1
  have hLl : L.length = U1.length + V1.length := by have := wl1.2.1; simpa using this
  have hs1 : SL E e ((A ++ L) ++ (U2 ++ (V2 ++ B))) := by
    have := FE.sl hlt hs0 wl1.2
    simpa using this
  obtain ⟨Q, wr1, wr2⟩ : ∃ Q, SP lt (U2 ++ V2) Q ∧ ((mid : Int) < (n - s : Nat) → ((n - s : Nat) : Int) < (A.length + U.length + V.length : Nat) → Ev fs S.nSym [.d (.s w ((A ++ L) ++ (U2 ++ (V2 ++ B)))), di mid, di (n - s : Nat), di (A.length + U.length + V.length : Nat), .f f cs] (lentO w ((A ++ L) ++ (Q ++ B)))) ∧ (¬ ((mid : Int) < (n - s : Nat) ∧ ((n - s : Nat) : Int) < (A.length + U.length + V.length : Nat)) → Q = U2 ++ V2) := by
    by_cases hc : mid < n - s ∧ n - s < A.length + U.length + V.length
    · obtain ⟨W, w1, w2⟩ := ih (A ++ L) U2 V2 B (by omega) (by omega) (by omega) u2 v2 hs1 (by simp; omega)
      refine ⟨W, w1, fun _ _ => ?_, fun h => absurd ⟨by omega, by omega⟩ h⟩
      have e1 : (A ++ L).length = mid := by simp; omega
      have e2 : mid + U2.length = n - s := by omega
      have e3 : (n - s) + V2.length = A.length + U.length + V.length := by omega
      rw [e1, e2, e3] at w2
      exact w2
    · refine ⟨U2 ++ V2, ⟨?_, FE.refl _⟩, fun a b => absurd ⟨by omega, by omega⟩ hc, fun _ => rfl⟩
      by_cases h : mid < n - s
      · have : V2 = [] := List.length_eq_zero_iff.1 (by omega)
        subst this; simpa using u2
      · have : U2 = [] := List.length_eq_zero_iff.1 (by omega)
        subst this; simpa using v2
  refine ⟨L ++ Q, ?_, ?_⟩
  · have := srt_halves hlt hu hv p1 p2 wl1 wr1
    rw [← hU, ← hV] at this
    exact this
  · refine ev_may (A ++ (U1 ++ (V1 ++ ((U2 ++ V2) ++ B)))) (fun a b => ?_) (fun h => ?_) ?_
    · have := rot S (f := f) (cs := cs) (A := A ++ U1) (U := U2) (V := V1) (B := V2 ++ B) (by rw [e0] at hs; simpa using hs) (by omega) (by omega) (by simp; omega) (x := (s : Int)) (y := (A.length + U.length : Nat)) (z := ((n - s : Nat) : Int)) (by simp; omega) (by simp; omega) (by simp; omega)
      have e1 : (A ++ U1) ++ (U2 ++ (V1 ++ (V2 ++ B))) = l := by rw [e0]; simp
      rw [e1] at this
      simpa using this
    · rw [e0]
      by_cases h' : s < A.length + U.length
      · have : V1 = [] := List.length_eq_zero_iff.1 (by omega)
        subst this; simp
      · have : U2 = [] := List.length_eq_zero_iff.1 (by omega)
        subst this; simp
    · refine ev_may (A ++ (L ++ ((U2 ++ V2) ++ B))) wl2.1 (fun h => by rw [wl2.2 h]; simp) ?_
      have e1 : A ++ (L ++ ((U2 ++ V2) ++ B)) = (A ++ L) ++ (U2 ++ (V2 ++ B)) := by simp
      rw [e1]
      refine ev_may ((A ++ L) ++ (Q ++ B)) wr2.1 (fun h => by rw [wr2.2 h]; simp) ?_
      exact Evt.ret' (by simp)
set_option maxHeartbeats 1600000 in
include S hlt hg in
theorem sym : ∀ (N : Nat) (A U V B : Rows), U.length + V.length = N → 0 < U.length → 0 < V.length → Srt lt U → Srt lt V → SL E e (A ++ (U ++ (V ++ B))) → (A ++ (U ++ (V ++ B))).length ≤ 1073741824 →
    ∃ W, SP lt (U ++ V) W ∧ Ev fs S.nSym [.d (.s w (A ++ (U ++ (V ++ B)))), di A.length, di (A.length + U.length : Nat), di (A.length + U.length + V.length : Nat), .f f cs] (lentO w (A ++ (W ++ B))) := by
  intro N
  induction N using Nat.strongRecOn with
  | ind N ih =>
    intro A U V B hN hu0 hv0 hu hv hs hsz
    have ih' : ∀ A' U' V' B', U'.length + V'.length < U.length + V.length → 0 < U'.length → 0 < V'.length → Srt lt U' → Srt lt V' → SL E e (A' ++ (U' ++ (V' ++ B'))) → (A' ++ (U' ++ (V' ++ B'))).length ≤ 1073741824 →
        ∃ W, SP lt (U' ++ V') W ∧ Ev fs S.nSym [.d (.s w (A' ++ (U' ++ (V' ++ B')))), di A'.length, di (A'.length + U'.length : Nat), di (A'.length + U'.length + V'.length : Nat), .f f cs] (lentO w (A' ++ (W ++ B'))) :=
      fun A' U' V' B' h => ih (U'.length + V'.length) (by omega) A' U' V' B' rfl
    have hsz' := hsz
    simp only [List.length_append] at hsz'
    by_cases h1 : U.length = 1
    · obtain ⟨x, rfl⟩ := List.length_eq_one_iff.1 h1
      exact sym_one S hlt hg hs hsz hv
    · by_cases h2 : V.length = 1
      · obtain ⟨x, rfl⟩ := List.length_eq_one_iff.1 h2
        exact sym_two S hlt hg (by omega) hs hsz hu
      · generalize hl : A ++ (U ++ (V ++ B)) = l at hs
        have hlen : l.length = A.length + U.length + V.length + B.length := by rw [← hl]; simp <;> omega
        have hl2 : l = (A ++ U) ++ (V ++ B) := by rw [← hl]; simp
        have c1 : (wi (((A.length + U.length : Nat) : Int) - (A.length : Int)) == 1) = false := by rw [wi_fit (by omega) (by omega)]; simp; omega
        have c2 : (wi (((A.length + U.length + V.length : Nat) : Int) - ((A.length + U.length : Nat) : Int)) == 1) = false := by rw [wi_fit (by omega) (by omega)]; simp; omega
        have em : hfi (A.length : Int) ((A.length + U.length + V.length : Nat) : Int) = (((A.length + (A.length + U.length + V.length)) / 2 : Nat) : Int) := hfi_nat (by omega)
        generalize hmid : (A.length + (A.length + U.length + V.length)) / 2 = mid at em
        have en : wi ((mid : Int) + ((A.length + U.length : Nat) : Int)) = ((mid + (A.length + U.length) : Nat) : Int) := (wi_fit (by omega) (by omega)).trans (by omega)
        generalize hn : mid + (A.length + U.length) = n at en
        have ep : wi ((n : Int) - 1) = ((n - 1 : Nat) : Int) := (wi_fit (by omega) (by omega)).trans (by omega)
        have look : ∀ (lo hi : Nat), lo ≤ hi → A.length ≤ lo → hi ≤ A.length + U.length → n ≤ lo + (A.length + U.length + V.length) → A.length + U.length + hi ≤ n →
            ∃ i, lo ≤ i ∧ i ≤ hi ∧ (∀ k, lo ≤ k → k < i → lt (at0 l (n - 1 - k)) (at0 l k) = false) ∧ (∀ k, i ≤ k → k < hi → lt (at0 l (n - 1 - k)) (at0 l k) = true) ∧
              Evt (fun d m => S.LS4 (TabD fs d) d m [.o w l, vi A.length, vi (A.length + U.length : Nat), vi (A.length + U.length + V.length : Nat), .ff f cs, vi mid, vi n, vi lo, vi hi, vi (n - 1 : Nat)])
                (.exit 8, [.o w l, vi A.length, vi (A.length + U.length : Nat), vi (A.length + U.length + V.length : Nat), .ff f cs, vi mid, vi n, vi i]) := fun lo hi b1 b2 b3 b4 b5 => by
          obtain ⟨i, i1, i2, i3, i4, i5⟩ := bs_loop (L := fun d m i j => S.LS4 (TabD fs d) d m [.o w l, vi A.length, vi (A.length + U.length : Nat), vi (A.length + U.length + V.length : Nat), .ff f cs, vi mid, vi n, vi i, vi j, vi (n - 1 : Nat)])
            (Y := fun i => (.exit 8, [.o w l, vi A.length, vi (A.length + U.length : Nat), vi (A.length + U.length + V.length : Nat), .ff f cs, vi mid, vi n, vi i]))
            (q := fun k => !lt (at0 l (n - 1 - k)) (at0 l k)) (lo := lo) (hi := hi) (fun i j h1 h2 h3 h4 => by
              have a1 : lt (at0 l j) (at0 l i) = false := by rw [← hl]; exact srt_at hlt hu (by omega) h2 (by omega)
              have a2 : lt (at0 l (n - 1 - i)) (at0 l (n - 1 - j)) = false := by rw [hl2]; exact srt_at hlt hv (by first | omega | (simp <;> omega)) (by omega) (by first | omega | (simp <;> omega))
              simp only [Bool.not_eq_true'] at h4 ⊢
              exact hlt.lele (hlt.lele a1 h4) a2)
            (fun d m i => S.zS4 _ _ _ _ _ _ _ _ _ _ _ _ _ _ (by simp)) (fun i j h1 h2 h3 y ht hf => by
              have hh : l[(i + j) / 2]? = some (at0 l ((i + j) / 2)) := at_some (by omega)
              have hh' : l[n - 1 - (i + j) / 2]? = some (at0 l (n - 1 - (i + j) / 2)) := at_some (by omega)
              obtain ⟨c, hc, hd⟩ := hg _ _ (hs.at hh') (hs.at hh)
              refine Evt.congr (fun d m => S.sS4 (TabD fs d) d m l A.length (A.length + U.length : Nat) (A.length + U.length + V.length : Nat) f cs mid n i j (n - 1 : Nat) ((i + j) / 2) (n - 1 - (i + j) / 2) _ _ hs (by simp; omega) (hfi_nat (by omega)) ((wi_fit (by omega) (by omega)).trans (by omega)) hh' hh) (ev_cmp' hc (fun h => ?_) (fun h => ?_))
              · exact hf (by rw [← hd]; simp only [h, Bool.not_true])
              · have := ht (by rw [← hd]; simp only [h, Bool.not_false])
                have e1 : wi ((((i + j) / 2 : Nat) : Int) + 1) = (((i + j) / 2 + 1 : Nat) : Int) := (wi_fit (by omega) (by omega)).trans (by omega)
                rw [e1]
                exact this) b1
          exact ⟨i, i1, i2, fun k a b => by simpa using i3 k a b, fun k a b => by simpa using i4 k a b, i5⟩
        by_cases hb : mid < A.length + U.length
        · have eb : wi ((n : Int) - ((A.length + U.length + V.length : Nat) : Int)) = ((n - (A.length + U.length + V.length) : Nat) : Int) := (wi_fit (by omega) (by omega)).trans (by omega)
          obtain ⟨s, s1, s2, s3, s4, s5⟩ := look (n - (A.length + U.length + V.length)) mid (by omega) (by omega) (by omega) (by omega) (by omega)
          obtain ⟨W, w1, w2⟩ := sym_tail S hlt (f := f) (cs := cs) (mid := mid) (n := n) (s := s) hl hs (by rw [← hl]; exact hsz) hu hv (by omega) (by omega) (by omega) (by omega) (by omega) (by omega) (by omega)
            (fun a b => by have := s4 s (by omega) b; rwa [show n - 1 - s = n - s - 1 by omega] at this) (fun a b => by have := s3 (s - 1) (by omega) (by omega); rwa [show n - 1 - (s - 1) = n - s by omega] at this) ih'
          refine ⟨W, w1, Ev.of S.hSym (S.mSym ..) (Evt.congr (fun d n => S.eSym ..) ?_)⟩
          have c3 : decide (((A.length + U.length : Nat) : Int) > (mid : Int)) = true := by simp; omega
          simp only [em, en, ep, eb, c1, c2, c3, cond_true, cond_false]
          refine ev_aft s5 ?_
          simp -implicitDefEqProofs only [Ex.same, Nat.beq, cond_true, aV_z, aV_s, aO_o, aI_v, aF_f]
          exact w2
        · obtain ⟨s, s1, s2, s3, s4, s5⟩ := look A.length (A.length + U.length) (by omega) (by omega) (by omega) (by omega) (by omega)
          obtain ⟨W, w1, w2⟩ := sym_tail S hlt (f := f) (cs := cs) (mid := mid) (n := n) (s := s) hl hs (by rw [← hl]; exact hsz) hu hv (by omega) (by omega) (by omega) (by omega) (by omega) (by omega) (by omega)
            (fun a b => by have := s4 s (by omega) (by omega); rwa [show n - 1 - s = n - s - 1 by omega] at this) (fun a b => by have := s3 (s - 1) (by omega) (by omega); rwa [show n - 1 - (s - 1) = n - s by omega] at this) ih'
          refine ⟨W, w1, Ev.of S.hSym (S.mSym ..) (Evt.congr (fun d n => S.eSym ..) ?_)⟩
          have c3 : decide (((A.length + U.length : Nat) : Int) > (mid : Int)) = false := by simp; omega
          simp only [em, en, ep, c1, c2, c3, cond_true, cond_false]
          refine ev_aft s5 ?_
          simp -implicitDefEqProofs only [Ex.same, Nat.beq, cond_true, aV_z, aV_s, aO_o, aI_v, aF_f]
          exact w2
end
end Go.Am
/- AM: stable sorting: the whole. Nothing is assumed. -/
set_option linter.unusedSimpArgs false
set_option linter.unusedVariables false
namespace Go.Am
section
variable {lt : Row → Row → Bool}
/-- Sorted block by block. -/
def SB (lt : Row → Row → Bool) (c : Nat) (l : Rows) : Prop := ∀ i, Srt lt ((l.drop (i * c)).take c)
theorem SB.nil {c : Nat} : SB lt c [] := fun i => by simpa using srt_nil
theorem SB.snoc {c : Nat} {P W : Rows} (h : SB lt c P) (k : Nat) (hk : P.length = k * c) (hw : Srt lt W) : SB lt c (P ++ W) := fun i => by
  rcases Nat.lt_or_ge i k with g | g
  · have h1 : i * c + c ≤ P.length := by
      rw [hk]
      have : (i + 1) * c ≤ k * c := Nat.mul_le_mul_right c g
      rw [Nat.add_mul] at this
      omega
    have e : ((P ++ W).drop (i * c)).take c = (P.drop (i * c)).take c := by
      rw [List.drop_append_of_le_length (by omega), List.take_append_of_le_length (by simp; omega)]
    rw [e]
    exact h i
  · have h1 : P.length ≤ i * c := by rw [hk]; exact Nat.mul_le_mul_right c g
    refine hw.sub ?_
    have e : (P ++ W).drop (i * c) = W.drop (i * c - P.length) := by rw [List.drop_append, List.drop_eq_nil_of_le h1]; simp
    rw [e]
    exact (List.take_sublist _ _).trans (List.drop_sublist _ _)
theorem SB.first {c : Nat} {l : Rows} (h : SB lt c l) : Srt lt (l.take c) := by simpa using h 0
theorem SB.rest {c : Nat} {l : Rows} (h : SB lt c l) (k : Nat) : SB lt c (l.drop (k * c)) := fun i => by
  have := h (k + i)
  rw [List.drop_drop]
  rwa [Nat.add_mul] at this
theorem SB.all {c : Nat} {l : Rows} (h : SB lt c l) (hc : l.length ≤ c) : Srt lt l := by
  have := h.first
  rwa [List.take_of_length_le hc] at this
end
section
variable {fs : Fns} {E : TypeId → List Sh} {e : TypeId} {w : Nat} (S : SortFam fs E e w) {f : Nat} {cs : List I} {lt : Row → Row → Bool} (hlt : SWO lt)
  (hg : ∀ x y, ShL E (E e) x → ShL E (E e) y → ∃ c, Ev fs f ([.g x, .g y] ++ cs) (io c) ∧ decide (c < 0) = lt x y)
include S hlt hg in
theorem lpb_a {n : Nat} : ∀ (N : Nat) (P Q : Rows) (k : Nat), Q.length ≤ N → P.length = k * 20 → SB lt 20 P → SL E e (P ++ Q) → (P ++ Q).length = n → n ≤ 1073741824 →
    ∃ P' Q' k', P'.length = k' * 20 ∧ SB lt 20 P' ∧ FE lt (P ++ Q) (P' ++ Q') ∧
      Evt (fun d m => S.LB0 (TabD fs d) d m [.o w (P ++ Q), vi n, .ff f cs, vi 20, vi P.length, vi (P.length + 20 : Nat)]) (.exit 0, [.o w (P' ++ Q'), vi n, .ff f cs, vi 20, vi P'.length]) := by
  intro N
  induction N with
  | zero =>
    intro P Q k hN hk hP hs hl hn
    have : Q = [] := List.length_eq_zero_iff.1 (by omega)
    subst this
    refine ⟨P, [], k, hk, hP, FE.refl _, ev_succ (Evt.congr (fun d m => S.sB0 ..) ?_)⟩
    have : decide (((P.length + 20 : Nat) : Int) ≤ (n : Int)) = false := by simp at hl; simp; omega
    simp only [this, cond_false]
    exact Evt.ret
  | succ N ih =>
    intro P Q k hN hk hP hs hl hn
    have hl' := hl
    simp only [List.length_append] at hl'
    by_cases hb : P.length + 20 ≤ n
    · have hQ : Q = Q.take 20 ++ Q.drop 20 := (List.take_append_drop _ _).symm
      generalize g1 : Q.take 20 = X at hQ
      generalize g2 : Q.drop 20 = Y at hQ
      have l1 : X.length = 20 := by rw [← g1]; simp; omega
      have l2 : Y.length = Q.length - 20 := by rw [← g2]; simp
      subst hQ
      obtain ⟨W, w1, w2⟩ := ins S hlt hg (f := f) (cs := cs) (A := P) (Q := X) (B := Y) hs (by omega) (a := P.length) (b := (P.length + 20 : Nat)) rfl (by omega)
      have hW : W.length = 20 := by have := w1.2.1; omega
      have hs' : SL E e ((P ++ W) ++ Y) := by have := FE.sl hlt hs w1.2; simpa using this
      obtain ⟨P', Q', k', q1, q2, q3, q4⟩ := ih (P ++ W) Y (k + 1) (by omega) (by simp; omega) (hP.snoc k hk w1.1) hs' (by simp; omega) hn
      refine ⟨P', Q', k', q1, q2, ?_, ev_succ (Evt.congr (fun d m => S.sB0 ..) ?_)⟩
      · have : FE lt (P ++ (X ++ Y)) ((P ++ W) ++ Y) := by
          have := (FE.refl (lt := lt) P).app (w1.2.app (FE.refl Y))
          simpa using this
        exact this.trans q3
      · have : decide (((P.length + 20 : Nat) : Int) ≤ (n : Int)) = true := by simp; omega
        simp only [this, cond_true]
        refine ev_lent w2 ?_
        have e1 : wi (((P.length + 20 : Nat) : Int) + 20) = ((P.length + 20 + 20 : Nat) : Int) := (wi_fit (by omega) (by omega)).trans (by omega)
        have e2 : (P ++ W).length = P.length + 20 := by simp; omega
        rw [e1]
        rw [e2] at q4
        simpa using q4
    · refine ⟨P, Q, k, hk, hP, FE.refl _, ev_succ (Evt.congr (fun d m => S.sB0 ..) ?_)⟩
      have : decide (((P.length + 20 : Nat) : Int) ≤ (n : Int)) = false := by simp; omega
      simp only [this, cond_false]
      exact Evt.ret
include S hlt hg in
theorem lpb_c {n c : Nat} (hc : 0 < c) (hcn : c < n) : ∀ (N : Nat) (P Q : Rows) (k : Nat), Q.length ≤ N → P.length = k * (2 * c) → SB lt (2 * c) P → SB lt c Q → SL E e (P ++ Q) → (P ++ Q).length = n → n ≤ 1073741824 →
    ∃ P' Q' k', P'.length = k' * (2 * c) ∧ SB lt (2 * c) P' ∧ SB lt c Q' ∧ Q'.length < 2 * c ∧ FE lt (P ++ Q) (P' ++ Q') ∧
      Evt (fun d m => S.LB2 (TabD fs d) d m [.o w (P ++ Q), vi n, .ff f cs, vi c, vi P.length, vi (P.length + 2 * c : Nat)]) (.exit 4, [.o w (P' ++ Q'), vi n, .ff f cs, vi c, vi P'.length]) := by
  intro N
  induction N with
  | zero =>
    intro P Q k hN hk hP hQ hs hl hn
    have : Q = [] := List.length_eq_zero_iff.1 (by omega)
    subst this
    refine ⟨P, [], k, hk, hP, hQ, by simp; omega, FE.refl _, ev_succ (Evt.congr (fun d m => S.sB2 ..) ?_)⟩
    have : decide (((P.length + 2 * c : Nat) : Int) ≤ (n : Int)) = false := by simp at hl; simp; omega
    simp only [this, cond_false]
    exact Evt.ret
  | succ N ih =>
    intro P Q k hN hk hP hQB hs hl hn
    have hl' := hl
    simp only [List.length_append] at hl'
    by_cases hb : P.length + 2 * c ≤ n
    · have hQ : Q = Q.take c ++ ((Q.drop c).take c ++ Q.drop (2 * c)) := by
        have e1 : Q.drop (2 * c) = (Q.drop c).drop c := by rw [List.drop_drop]; congr 1; omega
        rw [e1, List.take_append_drop, List.take_append_drop]
      have hX := hQB.first
      have hY : Srt lt ((Q.drop c).take c) := by have := hQB 1; simpa using this
      have hZ : SB lt c (Q.drop (2 * c)) := hQB.rest 2
      generalize g1 : Q.take c = X at hQ hX
      generalize g2 : (Q.drop c).take c = Y at hQ hY
      generalize g3 : Q.drop (2 * c) = Z at hQ hZ
      have l1 : X.length = c := by rw [← g1]; simp; omega
      have l2 : Y.length = c := by rw [← g2]; simp; omega
      have l3 : Z.length = Q.length - 2 * c := by rw [← g3]; simp
      clear g1 g2 g3
      subst hQ
      obtain ⟨W, w1, w2⟩ := sym S hlt hg (f := f) (cs := cs) (X.length + Y.length) P X Y Z rfl (by omega) (by omega) hX hY hs (by omega)
      have hW : W.length = 2 * c := by have := w1.2.1; simp at this; omega
      have hs' : SL E e ((P ++ W) ++ Z) := by have := FE.sl hlt (A := P) (M := X ++ Y) (B := Z) (by simpa using hs) w1.2; simpa using this
      obtain ⟨P', Q', k', q1, q2, q3, q4, q5, q6⟩ := ih (P ++ W) Z (k + 1) (by omega) (by rw [List.length_append, hk, hW, Nat.add_mul]; omega) (hP.snoc k hk w1.1) hZ hs' (by simp; omega) hn
      refine ⟨P', Q', k', q1, q2, q3, q4, ?_, ev_succ (Evt.congr (fun d m => S.sB2 ..) ?_)⟩
      · have : FE lt (P ++ (X ++ (Y ++ Z))) ((P ++ W) ++ Z) := by
          have := (FE.refl (lt := lt) P).app (w1.2.app (FE.refl Z))
          simpa using this
        exact this.trans q5
      · have : decide (((P.length + 2 * c : Nat) : Int) ≤ (n : Int)) = true := by simp; omega
        simp only [this, cond_true]
        have e0 : wi ((P.length : Int) + (c : Int)) = ((P.length + X.length : Nat) : Int) := (wi_fit (by omega) (by omega)).trans (by omega)
        have e0' : ((P.length + 2 * c : Nat) : Int) = ((P.length + X.length + Y.length : Nat) : Int) := by omega
        have e1 : wi (((P.length + 2 * c : Nat) : Int) + wi (2 * (c : Int))) = ((P.length + 2 * c + 2 * c : Nat) : Int) := by
          rw [wi_fit (n := 2 * (c : Int)) (by omega) (by omega)]
          exact (wi_fit (by omega) (by omega)).trans (by omega)
        have e2 : (P ++ W).length = P.length + 2 * c := by simp; omega
        rw [e2] at q6
        rw [e0, e1]
        refine ev_lent (l := P ++ (W ++ Z)) (by rw [e0']; exact w2) ?_
        simpa using q6
    · refine ⟨P, Q, k, hk, hP, hQB, by omega, FE.refl _, ev_succ (Evt.congr (fun d m => S.sB2 ..) ?_)⟩
      have : decide (((P.length + 2 * c : Nat) : Int) ≤ (n : Int)) = false := by simp; omega
      simp only [this, cond_false]
      exact Evt.ret
include S hlt hg in
theorem lpb_b {n : Nat} : ∀ (N : Nat) (l : Rows) (c : Nat), n - c ≤ N → 0 < c → SB lt c l → SL E e l → l.length = n → n ≤ 1073741824 →
    ∃ W, SP lt l W ∧ Evt (fun d m => S.LB1 (TabD fs d) d m [.o w l, vi n, .ff f cs, vi c]) (.exit 2, [.o w W]) := by
  intro N
  induction N with
  | zero =>
    intro l c hN hc hl hs hlen hn
    refine ⟨l, ⟨hl.all (by omega), FE.refl _⟩, ev_succ (Evt.congr (fun d m => S.sB1 ..) ?_)⟩
    have : decide ((c : Int) < (n : Int)) = false := by simp; omega
    simp only [this, cond_false]
    exact Evt.ret
  | succ N ih =>
    intro l c hN hc hl hs hlen hn
    by_cases hcn : c < n
    · obtain ⟨P, Q, k, p1, p2, p3, p4, p5, p6⟩ := lpb_c S hlt hg (f := f) (cs := cs) (n := n) hc hcn l.length [] l 0 (Nat.le_refl _) (by simp) SB.nil hl (by simpa using hs) (by simpa using hlen) hn
      have hPQ : (P ++ Q).length = n := by have := p5.1; simp at this hlen ⊢; omega
      have hPQ' := hPQ
      simp only [List.length_append] at hPQ'
      have hsPQ : SL E e (P ++ Q) := hs.perm (by rw [hPQ, hlen]) fun x hx => (p5.mem hlt).1 hx
      -- what is left at the end
      obtain ⟨l2, z1, z2, z3⟩ : ∃ l2, SB lt (2 * c) l2 ∧ FE lt (P ++ Q) l2 ∧ (∀ {R : Type} {y : R} {F : Nat → Nat → Rows → Option R}, Evt (fun d m => F d m l2) y →
          Evt (fun d m => bif decide (wi ((P.length : Int) + (c : Int)) < (n : Int)) then (lentC (TabD fs d) S.nSym w [.d (.s w (P ++ Q)), di P.length, di (wi ((P.length : Int) + (c : Int))), di n, .f f cs] (F d m)) else F d m (P ++ Q)) y) := by
        have e0 : wi ((P.length : Int) + (c : Int)) = ((P.length + c : Nat) : Int) := (wi_fit (by omega) (by omega)).trans (by omega)
        by_cases hb : P.length + c < n
        · have hQ : Q = Q.take c ++ Q.drop c := (List.take_append_drop _ _).symm
          have hX := p3.first
          have hY : Srt lt (Q.drop c) := by
            have := p3 1
            rwa [Nat.one_mul, List.take_of_length_le (by simp; omega)] at this
          generalize g1 : Q.take c = X at hQ hX
          generalize g2 : Q.drop c = Y at hQ hY
          have l1 : X.length = c := by rw [← g1]; simp; omega
          have l2 : Y.length = Q.length - c := by rw [← g2]; simp
          clear g1 g2
          subst hQ
          simp only [List.length_append] at hPQ'
          obtain ⟨W, w1, w2⟩ := sym S hlt hg (f := f) (cs := cs) (X.length + Y.length) P X Y [] rfl (by omega) (by omega) hX hY (by simpa using hsPQ) (by simp; omega)
          refine ⟨P ++ W, p2.snoc k p1 w1.1, (FE.refl P).app w1.2, fun {R y F} hF => ?_⟩
          have : decide (wi ((P.length : Int) + (c : Int)) < (n : Int)) = true := by rw [e0]; simp; omega
          simp only [this, cond_true]
          refine ev_lent (l := P ++ W) ?_ hF
          have e3 : (n : Int) = ((P.length + X.length + Y.length : Nat) : Int) := by omega
          have e4 : ((P.length + c : Nat) : Int) = ((P.length + X.length : Nat) : Int) := by omega
          rw [e0, e4, e3]
          simpa using w2
        · refine ⟨P ++ Q, p2.snoc k p1 (p3.all (by omega)), FE.refl _, fun {R y F} hF => ?_⟩
          have : decide (wi ((P.length : Int) + (c : Int)) < (n : Int)) = false := by rw [e0]; simp; omega
          simp only [this, cond_false]
          exact hF
      obtain ⟨W, q1, q2⟩ := ih l2 (c * 2) (by omega) (by omega) (by rw [Nat.mul_comm]; exact z1) (hsPQ.perm z2.1 fun x hx => (z2.mem hlt).1 hx) (by rw [z2.1, hPQ]) hn
      refine ⟨W, ⟨q1.1, (p5.trans z2).trans q1.2⟩, ev_succ (Evt.congr (fun d m => S.sB1 ..) ?_)⟩
      have : decide ((c : Int) < (n : Int)) = true := by simp; omega
      simp only [this, cond_true]
      have e5 : wi (2 * (c : Int)) = ((([] : Rows).length + 2 * c : Nat) : Int) := (wi_fit (by omega) (by omega)).trans (by simp)
      have e6 : wi ((c : Int) * 2) = ((c * 2 : Nat) : Int) := (wi_fit (by omega) (by omega)).trans (by omega)
      have p6' := p6
      rw [← e5] at p6'
      refine ev_aft (y := (.exit 4, [.o w (P ++ Q), vi n, .ff f cs, vi c, vi P.length])) (by simpa using p6') ?_
      simp -implicitDefEqProofs only [Ex.same, Nat.beq, cond_true, aV_z, aV_s, aO_o, aI_v, aF_f]
      rw [e6]
      exact z3 q2
    · refine ⟨l, ⟨hl.all (by omega), FE.refl _⟩, ev_succ (Evt.congr (fun d m => S.sB1 ..) ?_)⟩
      have : decide ((c : Int) < (n : Int)) = false := by simp; omega
      simp only [this, cond_false]
      exact Evt.ret
include S hlt hg in
/-- The library's stable sort sorts, and each class of equals stands as it stood. -/
theorem sort_ok {l : Rows} (hs : SL E e l) (hsz : l.length ≤ 1073741824) : ∃ W, SP lt l W ∧ Ev fs S.nSort [.d (.s w l), .f f cs] (lentO w W) := by
  obtain ⟨P, Q, k, p1, p2, p3, p4⟩ := lpb_a S hlt hg (f := f) (cs := cs) (n := l.length) l.length [] l 0 (Nat.le_refl _) (by simp) SB.nil (by simpa using hs) (by simp) hsz
  simp only [List.nil_append] at p3 p4
  have hPQ : (P ++ Q).length = l.length := p3.1
  have hsPQ : SL E e (P ++ (Q ++ [])) := by
    have := hs.perm (l' := P ++ Q) hPQ fun x hx => (p3.mem hlt).1 hx
    simpa using this
  have hPQ' := hPQ
  simp only [List.length_append] at hPQ'
  obtain ⟨W, w1, w2⟩ := ins S hlt hg (f := f) (cs := cs) (A := P) (Q := Q) (B := []) hsPQ (by simp; omega) (a := P.length) (b := l.length) rfl (by omega)
  have hW : FE lt (P ++ Q) (P ++ W) := (FE.refl P).app w1.2
  obtain ⟨V, v1, v2⟩ := lpb_b S hlt hg (f := f) (cs := cs) (n := l.length) l.length (P ++ W) 20 (by omega) (by omega) (p2.snoc k p1 w1.1) (hs.perm (by rw [hW.1, hPQ]) fun x hx => (p3.mem hlt).1 ((hW.mem hlt).1 hx)) (by rw [hW.1, hPQ]) hsz
  refine ⟨V, ⟨v1.1, (p3.trans hW).trans v1.2⟩, Ev.of S.hSort (S.mSort ..) (Evt.congr (fun d n => S.eSort ..) ?_)⟩
  refine ev_lent ?_ Evt.ret
  refine Ev.of S.hStb (S.mStb ..) (Evt.congr (fun d n => S.eStb ..) ?_)
  refine ev_aft (y := (.exit 0, [.o w (P ++ Q), vi l.length, .ff f cs, vi 20, vi P.length])) (by simpa using p4) ?_
  simp -implicitDefEqProofs only [Ex.same, Nat.beq, cond_true, aV_z, aV_s, aO_o, aI_v, aF_f]
  refine ev_lent (l := P ++ W) (by simpa using w2) ?_
  refine ev_aft v2 ?_
  simp -implicitDefEqProofs only [Ex.same, Nat.beq, cond_true, aV_z, aV_s, aO_o, aI_v, aF_f]
  exact Evt.ret
end
end Go.Am
/- AM: stable sorting: the outcome as a function; the order of texts. Nothing is assumed. -/
set_option linter.unusedSimpArgs false
set_option linter.unusedVariables false
namespace Go.Am
section
variable {lt : Row → Row → Bool}
theorem ins_ex (h : SWO lt) (x : Row) : ∀ (k : Nat) (s1 s2 : Rows), s1.length = k → Srt lt (s1 ++ s2) → (∀ y ∈ s2, lt x y = true) → ∃ W, SP lt (s1 ++ s2 ++ [x]) W := by
  intro k
  induction k with
  | zero =>
    intro s1 s2 h0 h1 h2
    have : s1 = [] := List.length_eq_zero_iff.1 h0
    subst this
    exact ⟨_, srt_ins h (s1 := []) h1 (.inl rfl) h2⟩
  | succ k ih =>
    intro s1 s2 h0 h1 h2
    obtain ⟨T, y, rfl⟩ : ∃ T y, s1 = T ++ [y] := by
      rcases List.eq_nil_or_concat s1 with e | ⟨T, y, e⟩
      · subst e; simp at h0
      · exact ⟨T, y, by simpa using e⟩
    cases hlx : lt x y with
    | false => exact ⟨_, srt_ins h h1 (.inr ⟨T, y, rfl, hlx⟩) h2⟩
    | true =>
      have e1 : T ++ (y :: s2) = T ++ [y] ++ s2 := by simp
      obtain ⟨W, w⟩ := ih T (y :: s2) (by simpa using h0) (by rw [e1]; exact h1) (fun z hz => by
        rcases List.mem_cons.1 hz with e | e
        · rw [e]; exact hlx
        · exact h2 z e)
      exact ⟨W, by rw [e1] at w; exact w⟩
theorem sp_ex (h : SWO lt) (l : Rows) : ∃ W, SP lt l W := by
  induction hn : l.length generalizing l with
  | zero =>
    have : l = [] := List.length_eq_zero_iff.1 hn
    subst this
    exact ⟨[], srt_nil, FE.refl _⟩
  | succ n ih =>
    obtain ⟨T, y, rfl⟩ : ∃ T y, l = T ++ [y] := by
      rcases List.eq_nil_or_concat l with e | ⟨T, y, e⟩
      · subst e; simp at hn
      · exact ⟨T, y, by simpa using e⟩
    obtain ⟨V, v⟩ := ih T (by simpa using hn)
    obtain ⟨W, w⟩ := ins_ex h y V.length V [] rfl (by simpa using v.1) (by simp)
    simp only [List.append_nil] at w
    exact ⟨W, w.1, (v.2.app (FE.refl [y])).trans w.2⟩
/-- Sorted, stably. -/
noncomputable def stab (lt : Row → Row → Bool) (l : Rows) : Rows := by
  classical
  exact if h : ∃ W, SP lt l W then h.choose else l
theorem stab_sp (h : SWO lt) (l : Rows) : SP lt l (stab lt l) := by
  unfold stab
  rw [dif_pos (sp_ex h l)]
  exact (sp_ex h l).choose_spec
theorem stab_of (h : SWO lt) {l W : Rows} (w : SP lt l W) : W = stab lt l := SP.one h w (stab_sp h l)
theorem stab_len (h : SWO lt) {l : Rows} : (stab lt l).length = l.length := (stab_sp h l).2.1
theorem stab_mem (h : SWO lt) {l : Rows} {x : Row} : x ∈ stab lt l ↔ x ∈ l := (stab_sp h l).2.mem h
theorem stab_snoc (h : SWO lt) {l : Rows} {x : Row} : stab lt (stab lt l ++ [x]) = stab lt (l ++ [x]) :=
  stab_of h ⟨(stab_sp h _).1, ((stab_sp h l).2.app (FE.refl [x])).trans (stab_sp h _).2⟩
theorem stab_nil (h : SWO lt) : stab lt [] = [] := List.length_eq_zero_iff.1 (by rw [stab_len h]; rfl)
end
/-! ### texts -/
theorem bl_irr : ∀ a : List UInt8, Op.bytesLess a a = false
  | [] => rfl
  | x :: a => by simp [Op.bytesLess, bl_irr a]
theorem bl_asym : ∀ a b : List UInt8, Op.bytesLess a b = true → Op.bytesLess b a = false
  | _, [], h => by simp [Op.bytesLess] at h
  | [], _ :: _, h => rfl
  | x :: a, y :: b, h => by
    simp only [Op.bytesLess, Bool.or_eq_true, Bool.and_eq_true, decide_eq_true_eq, beq_iff_eq, Bool.or_eq_false_iff, Bool.and_eq_false_iff, decide_eq_false_iff_not] at h ⊢
    rcases h with h | ⟨h, h'⟩
    · refine ⟨fun g => ?_, .inl ?_⟩
      · exact absurd (UInt8.lt_trans h g) (UInt8.lt_irrefl _)
      · simp; intro e; subst e; exact UInt8.lt_irrefl _ h
    · subst h
      exact ⟨UInt8.lt_irrefl _, .inr (bl_asym a b h')⟩
theorem bl_neg : ∀ a b c : List UInt8, Op.bytesLess a c = true → Op.bytesLess a b = true ∨ Op.bytesLess b c = true
  | _, _, [], h => by simp [Op.bytesLess] at h
  | [], [], _ :: _, h => .inr rfl
  | [], _ :: _, _ :: _, h => .inl rfl
  | x :: a, [], z :: c, h => .inr rfl
  | x :: a, y :: b, z :: c, h => by
    simp only [Op.bytesLess, Bool.or_eq_true, Bool.and_eq_true, decide_eq_true_eq, beq_iff_eq] at h ⊢
    rcases Nat.lt_trichotomy x.toNat y.toNat with g | g | g
    · exact .inl (.inl (UInt8.lt_iff_toNat_lt.2 g))
    · have e : x = y := UInt8.toNat_inj.1 g
      subst e
      rcases h with h | ⟨h, h'⟩
      · exact .inr (.inl h)
      · subst h
        rcases bl_neg a b c h' with k | k
        · exact .inl (.inr ⟨rfl, k⟩)
        · exact .inr (.inr ⟨rfl, k⟩)
    · refine .inr (.inl ?_)
      rcases h with h | ⟨h, h'⟩
      · exact UInt8.lt_iff_toNat_lt.2 (by have := UInt8.lt_iff_toNat_lt.1 h; omega)
      · subst h; exact UInt8.lt_iff_toNat_lt.2 g
theorem bl_gt : ∀ a b : List UInt8, (!(Op.bytesLess a b || a == b)) = Op.bytesLess b a
  | [], [] => rfl
  | [], _ :: _ => rfl
  | _ :: _, [] => rfl
  | x :: a, y :: b => by
    have ih := bl_gt a b
    simp only [Op.bytesLess]
    rcases Nat.lt_trichotomy x.toNat y.toNat with g | g | g
    · have h1 : x < y := UInt8.lt_iff_toNat_lt.2 g
      have h2 : ¬ y < x := fun k => by have := UInt8.lt_iff_toNat_lt.1 k; omega
      have h3 : ¬ y = x := fun k => by subst k; omega
      simp [h1, h2, h3]
    · have e : x = y := UInt8.toNat_inj.1 g
      subst e
      simp [UInt8.lt_irrefl] at ih ⊢
      simpa using ih
    · have h1 : y < x := UInt8.lt_iff_toNat_lt.2 g
      have h2 : ¬ x < y := fun k => by have := UInt8.lt_iff_toNat_lt.1 k; omega
      have h3 : ¬ x = y := fun k => by subst k; omega
      simp [h1, h2, h3]
theorem bytes_gt (a b : ByteArray) : (!(bytesLess a b || bytesEq a b)) = bytesLess b a := bl_gt a.toList b.toList
theorem upT_swo (c : Nat) : SWO (upT c) := ⟨fun x => bl_irr _, fun {x y z} h => bl_neg _ _ _ h, fun {x y} h => bl_asym _ _ h⟩
def upI (c : Nat) (a b : Row) : Bool := decide (cN a c < cN b c)
theorem upI_swo (c : Nat) : SWO (upI c) := ⟨fun x => by simp [upI], fun {x y z} h => by simp [upI] at *; omega, fun {x y} h => by simp [upI] at *; omega⟩
theorem bytesEq_rows (a b : ByteArray) : bytesEq a b = (a.toList == b.toList) := rfl
end Go.Am
/- AM: the library's CompactFunc, at any type of elements. Nothing is assumed. -/
set_option linter.unusedSimpArgs false
set_option linter.unusedVariables false
namespace Go.Am
/-- Of a run of neighbours that are alike, the first. -/
def uniq (eq : Row → Row → Bool) : Row → Rows → Rows
  | _, [] => []
  | p, x :: xs => bif eq x p then uniq eq x xs else x :: uniq eq x xs
def cmpt (eq : Row → Row → Bool) : Rows → Rows
  | [] => []
  | x :: xs => x :: uniq eq x xs
theorem uniq_len {eq : Row → Row → Bool} : ∀ (p : Row) (xs : Rows), (uniq eq p xs).length ≤ xs.length
  | _, [] => Nat.le_refl _
  | p, x :: xs => by
    have := uniq_len (eq := eq) x xs
    unfold uniq
    cases eq x p <;> simp <;> omega
theorem uniq_mem {eq : Row → Row → Bool} : ∀ {p : Row} {xs : Rows} {y : Row}, y ∈ uniq eq p xs → y ∈ xs
  | _, [], _, h => by simp [uniq] at h
  | p, x :: xs, y, h => by
    unfold uniq at h
    cases hq : eq x p <;> rw [hq] at h <;> simp only [cond_true, cond_false] at h
    · rcases List.mem_cons.1 h with e | e
      · simp [e]
      · simp [uniq_mem e]
    · simp [uniq_mem h]
structure CmptFam (fs : Fns) (E : TypeId → List Sh) (e : TypeId) (w : Nat) where
  (n : Nat) (a : AFun) (L0 L1 : Lp) (zero : Row)
  (h : lookF n fs.funs = some a) (m : ∀ x1 x2, lenIs [x1, x2] a.modes = true)
  (eC : ∀ T k l f cs, evalF T k a [.d (.s w l), .f f cs] = bif decide ((l.length : Int) < 2) then some ⟨.d (.s w l), []⟩ else
    (aft (L0 T k k [.o w l, .ff f cs, vi 1]) fun e ys => bif e.same .ret then (aV ys 0 fun x => aO w x fun l => some ⟨.d (.s w l), []⟩) else (bif e.same (.exit 0) then (aV ys 0 fun x => aO w x fun l => some ⟨.d (.s w l), []⟩) else none)))
  (z0 : ∀ T d n l f cs k, decide (k < (l.length : Int)) = false → L0 T d (n + 1) [.o w l, .ff f cs, vi k] = some (.exit 0, [.o w l]))
  (s0 : ∀ T d n l f cs (k p : Nat) x y, SL E e l → decide ((k : Int) < (l.length : Int)) = true → wi ((k : Int) - 1) = (p : Int) → l[k]? = some x → l[p]? = some y →
    L0 T d (n + 1) [.o w l, .ff f cs, vi k] = callT T f ([.g x, .g y] ++ cs) fun o => oD o.res fun v => dB v fun b => bif b then
      (tst (cutOk k (l.length : Int) l.length) (aft (L1 T d d [.o w l, .ff f cs, vi k, .w 0 k l.length, vi 1]) fun e ys => bif e.same (.exit 2) then (aV ys 0 fun x => aO w x fun l => aV ys 1 fun x => aI .i64 x fun k =>
        tst (cutOk k (l.length : Int) l.length) (tst (decide (k.toNat < (l.length : Int).toNat) && Nat.beq (l.length : Int).toNat l.length) (tst (cutOk 0 k (l.take k.toNat ++ List.replicate ((l.length : Int).toNat - k.toNat) zero).length)
          (some (.ret, [.o w ((l.take k.toNat ++ List.replicate ((l.length : Int).toNat - k.toNat) zero).take k.toNat)]))))) else none)) else
      L0 T d n [.o w l, .ff f cs, vi (wi ((k : Int) + 1))])
  (z1 : ∀ T d n l f cs k m1 m2 i, decide (i < ((m2 - m1 : Nat) : Int)) = false → L1 T d (n + 1) [.o w l, .ff f cs, vi k, .w 0 m1 m2, vi i] = some (.exit 2, [.o w l, vi k]))
  (s1 : ∀ T d n l f cs (k m1 m2 i p : Nat) x y z, SL E e l → decide ((i : Int) < ((m2 - m1 : Nat) : Int)) = true → wi ((i : Int) - 1) = (p : Int) → decide (i < m2 - m1) = true → decide (p < m2 - m1) = true →
    l[m1 + i]? = some x → l[m1 + p]? = some y → l[k]? = some z →
    L1 T d (n + 1) [.o w l, .ff f cs, vi k, .w 0 m1 m2, vi i] = callT T f ([.g x, .g y] ++ cs) fun o => oD o.res fun v => dB v fun b => bif (!b) then
      L1 T d n [.o w (l.set k x), .ff f cs, vi (wi ((k : Int) + 1)), .w 0 m1 m2, vi (wi ((i : Int) + 1))] else L1 T d n [.o w l, .ff f cs, vi k, .w 0 m1 m2, vi (wi ((i : Int) + 1))])
section
variable {fs : Fns} {E : TypeId → List Sh} {e : TypeId} {w : Nat} (S : CmptFam fs E e w) {f : Nat} {cs : List I} {eq : Row → Row → Bool}
  (hg : ∀ x y, ShL E (E e) x → ShL E (E e) y → Ev fs f ([.g x, .g y] ++ cs) (bo (eq x y)))
theorem ev_eq {R : Type} {x y : Row} {z : R} {A B : Nat → Nat → Option R} {b : Bool} (hc : Ev fs f ([.g x, .g y] ++ cs) (bo b)) (ht : b = true → Evt A z) (hf : b = false → Evt B z) :
    Evt (fun d n => callT (TabD fs d) f ([.g x, .g y] ++ cs) fun o => oD o.res fun v => dB v fun c => bif c then A d n else B d n) z := by
  refine ev_call hc ?_
  simp only [bo, oD_d, dB_v]
  exact ev_if ht hf
theorem ev_eq' {R : Type} {x y : Row} {z : R} {A B : Nat → Nat → Option R} {b : Bool} (hc : Ev fs f ([.g x, .g y] ++ cs) (bo b)) (ht : b = true → Evt B z) (hf : b = false → Evt A z) :
    Evt (fun d n => callT (TabD fs d) f ([.g x, .g y] ++ cs) fun o => oD o.res fun v => dB v fun c => bif (!c) then A d n else B d n) z := by
  refine ev_call hc ?_
  simp only [bo, oD_d, dB_v]
  exact ev_if (fun h => hf (by simpa using h)) (fun h => ht (by simpa using h))
include S hg in
theorem cmpt_two {m1 m2 : Nat} : ∀ (xs K G : Rows) (p : Row) (i : Nat), (K ++ (G ++ (p :: xs))).length = m2 → m2 ≤ 1073741824 → K.length + G.length + 1 = m1 + i → 0 < i → SL E e (K ++ (G ++ (p :: xs))) →
    ∃ T, (K ++ uniq eq p xs ++ T).length = m2 ∧ 0 < T.length ∧ Evt (fun d n => S.L1 (TabD fs d) d n [.o w (K ++ (G ++ (p :: xs))), .ff f cs, vi K.length, .w 0 m1 m2, vi i]) (.exit 2, [.o w (K ++ uniq eq p xs ++ T), vi (K ++ uniq eq p xs).length]) := by
  intro xs
  induction xs with
  | nil =>
    intro K G p i hl hsz hi hi0 hs
    simp only [List.length_append, List.length_cons, List.length_nil] at hl
    refine ⟨G ++ [p], by simp [uniq]; omega, by simp, ev_succ ⟨0, fun d n _ _ => ?_⟩⟩
    have hd : decide ((i : Int) < ((m2 - m1 : Nat) : Int)) = false := decide_eq_false (by omega)
    have := S.z1 (TabD fs d) d n (K ++ (G ++ [p])) f cs K.length m1 m2 i hd
    simpa [uniq] using this
  | cons x xs ih =>
    intro K G p i hl hsz hi hi0 hs
    have hl0 := hl
    simp only [List.length_append, List.length_cons] at hl
    have hx : (K ++ (G ++ (p :: x :: xs)))[m1 + i]? = some x := by
      have : K ++ (G ++ (p :: x :: xs)) = (K ++ (G ++ [p])) ++ x :: xs := by simp
      rw [this]; exact getMid (by simp <;> omega)
    have hp : (K ++ (G ++ (p :: x :: xs)))[m1 + (i - 1)]? = some p := by
      have : K ++ (G ++ (p :: x :: xs)) = (K ++ G) ++ p :: (x :: xs) := by simp
      rw [this]; exact getMid (by simp <;> omega)
    obtain ⟨z, zs, hz⟩ : ∃ z zs, G ++ [p] = z :: zs := by
      cases G with
      | nil => exact ⟨p, [], rfl⟩
      | cons g G => exact ⟨g, G ++ [p], rfl⟩
    have e0 : K ++ (G ++ (p :: x :: xs)) = K ++ z :: (zs ++ (x :: xs)) := by
      have : G ++ (p :: x :: xs) = (G ++ [p]) ++ (x :: xs) := by simp
      rw [this, hz]; simp
    have hk : (K ++ (G ++ (p :: x :: xs)))[K.length]? = some z := by rw [e0]; exact getMid rfl
    have hzl : zs.length = G.length := by have := congrArg List.length hz; simpa using this.symm
    have hst := fun d n => S.s1 (TabD fs d) d n _ f cs K.length m1 m2 i (i - 1) x p z hs (decide_eq_true (by omega)) ((wi_fit (by omega) (by omega)).trans (by omega)) (decide_eq_true (by omega)) (decide_eq_true (by omega)) hx hp hk
    have hc := hg x p (hs.at hx) (hs.at hp)
    have wi1 : wi ((i : Int) + 1) = ((i + 1 : Nat) : Int) := (wi_fit (by omega) (by omega)).trans (by omega)
    have wk1 : wi ((K.length : Int) + 1) = ((K.length + 1 : Nat) : Int) := (wi_fit (by omega) (by omega)).trans (by omega)
    cases hq : eq x p with
    | true =>
      have e1 : K ++ (G ++ (p :: x :: xs)) = K ++ ((G ++ [p]) ++ (x :: xs)) := by simp
      obtain ⟨T, t1, t2, t3⟩ := ih K (G ++ [p]) x (i + 1) (by rw [← e1]; exact hl0) hsz (by simp; omega) (by omega) (by rw [← e1]; exact hs)
      refine ⟨T, by simpa [uniq, hq] using t1, t2, ev_succ (Evt.congr hst (ev_eq' hc (fun _ => ?_) (fun h => by rw [hq] at h; simp at h)))⟩
      rw [wi1, e1]
      simpa [uniq, hq] using t3
    | false =>
      have hset : (K ++ (G ++ (p :: x :: xs))).set K.length x = (K ++ [x]) ++ (zs ++ (x :: xs)) := by rw [e0, setMid rfl]; simp
      have hs' : SL E e ((K ++ [x]) ++ (zs ++ (x :: xs))) := by
        refine hs.perm (by simp; omega) fun y hy => ?_
        have hzs : ∀ y ∈ zs, y ∈ G ++ [p] := fun y hy => by rw [hz]; simp [hy]
        simp only [List.mem_append, List.mem_cons, List.not_mem_nil, or_false] at hy hzs ⊢
        rcases hy with (h | h) | h | h | h
        · exact .inl h
        · exact .inr (.inr (.inr (.inl h)))
        · rcases hzs y h with h | h
          · exact .inr (.inl h)
          · exact .inr (.inr (.inl h))
        · exact .inr (.inr (.inr (.inl h)))
        · exact .inr (.inr (.inr (.inr h)))
      obtain ⟨T, t1, t2, t3⟩ := ih (K ++ [x]) zs x (i + 1) (by simp; omega) hsz (by simp; omega) (by omega) hs'
      refine ⟨T, by simpa [uniq, hq] using t1, t2, ev_succ (Evt.congr hst (ev_eq' hc (fun h => by rw [hq] at h; simp at h) (fun _ => ?_)))⟩
      rw [wi1, wk1, hset]
      simpa [uniq, hq] using t3
include S hg in
theorem cmpt_one : ∀ (xs A : Rows) (p : Row), (A ++ (p :: xs)).length ≤ 1073741824 → SL E e (A ++ (p :: xs)) →
    ∃ ex, (ex = .ret ∨ ex = .exit 0) ∧ Evt (fun d n => S.L0 (TabD fs d) d n [.o w (A ++ (p :: xs)), .ff f cs, vi (A.length + 1 : Nat)]) (ex, [.o w (A ++ (p :: uniq eq p xs))]) := by
  intro xs
  induction xs with
  | nil =>
    intro A p hsz hs
    refine ⟨.exit 0, .inr rfl, ev_succ ⟨0, fun d n _ _ => ?_⟩⟩
    exact S.z0 _ _ _ _ _ _ _ (decide_eq_false (by simp))
  | cons x xs ih =>
    intro A p hsz hs
    have hsz0 := hsz
    simp only [List.length_append, List.length_cons] at hsz
    have e1 : A ++ (p :: x :: xs) = (A ++ [p]) ++ x :: xs := by simp
    have hx : (A ++ (p :: x :: xs))[A.length + 1]? = some x := by rw [e1]; exact getMid (by simp)
    have hp : (A ++ (p :: x :: xs))[A.length]? = some p := getMid rfl
    have hst := fun d n => S.s0 (TabD fs d) d n _ f cs (A.length + 1) A.length x p hs (decide_eq_true (by simp; omega)) ((wi_fit (by omega) (by omega)).trans (by omega)) hx hp
    have hc := hg x p (hs.at hx) (hs.at hp)
    cases hq : eq x p with
    | false =>
      obtain ⟨ex, h1, h2⟩ := ih (A ++ [p]) x (by rw [← e1]; exact hsz0) (by rw [← e1]; exact hs)
      refine ⟨ex, h1, ev_succ (Evt.congr hst (ev_eq hc (fun h => by rw [hq] at h; simp at h) (fun _ => ?_)))⟩
      have w1 : wi (((A.length + 1 : Nat) : Int) + 1) = (((A ++ [p]).length + 1 : Nat) : Int) := (wi_fit (by omega) (by omega)).trans (by simp)
      rw [w1, e1]
      simpa [uniq, hq] using h2
    | true =>
      obtain ⟨T, t1, t2, t3⟩ := cmpt_two S hg (f := f) (cs := cs) (m1 := A.length + 1) (m2 := (A ++ (p :: x :: xs)).length) xs (A ++ [p]) [] x 1 (by simp <;> omega) hsz0 (by simp) (by omega) (by simpa using hs)
      refine ⟨.ret, .inl rfl, ev_succ (Evt.congr hst (ev_eq hc (fun _ => ?_) (fun h => by rw [hq] at h; simp at h)))⟩
      have cut : ∀ {k n : Nat}, k ≤ n → n ≤ 1073741824 → cutOk (k : Int) (n : Int) n = true := fun {k n} h1 h2 => by
        simp only [cutOk, Bool.and_eq_true, decide_eq_true_eq]; omega
      refine ev_tst (cut (by simp <;> omega) hsz0) ?_
      have e2 : (A ++ [p]).length = A.length + 1 := by simp
      have e3 : A ++ [p] ++ ([] ++ (x :: xs)) = A ++ (p :: x :: xs) := by simp
      rw [e2, e3] at t3
      refine ev_aft t3 ?_
      simp -implicitDefEqProofs only [Ex.same, Nat.beq, cond_true, aV_z, aV_s, aO_o, aI_v, Int.toNat_natCast]
      generalize hK : A ++ [p] ++ uniq eq x xs = K at t1
      have hKT : K.length < (K ++ T).length := by simp; omega
      have hKn : (K ++ T).length ≤ 1073741824 := by rw [t1]; exact hsz0
      refine ev_tst (cut (by omega) hKn) (ev_tst ?_ (ev_tst ?_ (Evt.ret' ?_)))
      · simp only [decide_eq_true hKT, Nat.beq_refl, Bool.and_self]
      · have : (List.take K.length (K ++ T) ++ List.replicate ((K ++ T).length - K.length) S.zero).length = (K ++ T).length := by simp
        rw [this]
        simp only [cutOk, Bool.and_eq_true, decide_eq_true_eq]
        omega
      · have : List.take K.length (List.take K.length (K ++ T) ++ List.replicate ((K ++ T).length - K.length) S.zero) = K := by simp
        rw [this, ← hK]
        simp [uniq, hq]
include S hg in
/-- CompactFunc keeps the first of each run of neighbours that are alike. -/
theorem cmpt_ok {l : Rows} (hs : SL E e l) (hsz : l.length ≤ 1073741824) : Ev fs S.n [.d (.s w l), .f f cs] ⟨.d (.s w (cmpt eq l)), []⟩ := by
  refine Ev.of S.h (S.m ..) (Evt.congr (fun d n => S.eC ..) ?_)
  refine ev_if (fun h => ?_) (fun h => ?_)
  · have h := of_decide_eq_true h
    match l, h with
    | [], _ => exact Evt.ret' (by simp [cmpt])
    | [x], _ => exact Evt.ret' (by simp [cmpt, uniq])
    | _ :: _ :: _, h => simp at h; omega
  · match l, h with
    | [], h => simp at h
    | x :: xs, _ =>
      obtain ⟨ex, h1, h2⟩ := cmpt_one S hg (f := f) (cs := cs) xs [] x (by simpa using hsz) (by simpa using hs)
      refine ev_aft (y := (ex, [.o w (cmpt eq (x :: xs))])) (by simpa [cmpt] using h2) ?_
      rcases h1 with rfl | rfl
      · simp -implicitDefEqProofs only [Ex.same, Nat.beq, cond_true, cond_false, aV_z, aV_s, aO_o]
        exact Evt.ret
      · simp -implicitDefEqProofs only [Ex.same, Nat.beq, cond_true, cond_false, aV_z, aV_s, aO_o]
        exact Evt.ret
end
end Go.Am
/- Of each class the first, in order: two roads to one list. Nothing is assumed. -/
set_option linter.unusedSimpArgs false
set_option linter.unusedVariables false
namespace Go.Am
section
variable {lt : Row → Row → Bool}
theorem cls_iff {x y : Row} : cls lt x y = true ↔ lt x y = false ∧ lt y x = false := by simp [cls]
theorem cls_symm {x y : Row} (h : cls lt x y = true) : cls lt y x = true := by rw [cls_iff] at *; exact ⟨h.2, h.1⟩
theorem cls_trans (hl : SWO lt) {x y z : Row} (h : cls lt x y = true) (g : cls lt y z = true) : cls lt x z = true := by
  rw [cls_iff] at *
  exact ⟨hl.lele g.1 h.1, hl.lele h.2 g.2⟩
theorem cls_right (hl : SWO lt) {x y z : Row} (h : cls lt x y = true) : cls lt z x = cls lt z y := by
  cases h1 : cls lt z x <;> cases h2 : cls lt z y <;> try rfl
  · rw [cls_trans hl h2 (cls_symm h)] at h1; simp at h1
  · rw [cls_trans hl h1 h] at h2; simp at h2
theorem filter_cls (hl : SWO lt) {x z : Row} (h : cls lt z x = true) (l : Rows) : l.filter (cls lt z) = l.filter (cls lt x) := by
  congr 1
  funext y
  cases h1 : cls lt z y <;> cases h2 : cls lt x y <;> try rfl
  · rw [cls_trans hl h h2] at h1; simp at h1
  · rw [cls_trans hl (cls_symm h) h1] at h2; simp at h2
theorem srt_one' (hl : SWO lt) : ∀ {l l' : Rows}, Srt lt l → Srt lt l' → (∀ x, l'.filter (cls lt x) = l.filter (cls lt x)) → l' = l := by
  intro l
  induction l with
  | nil =>
    intro l' _ _ g
    cases l' with
    | nil => rfl
    | cons y ys =>
      have := g y
      rw [List.filter_cons_of_pos (by simp [cls, hl.irr])] at this
      simp at this
  | cons x xs ih =>
    intro l' h1 h2 g
    cases l' with
    | nil =>
      have := g x
      rw [List.filter_cons_of_pos (by simp [cls, hl.irr])] at this
      simp at this
    | cons y ys =>
      have mem : ∀ {a b : Rows} {z : Row}, a.filter (cls lt z) = b.filter (cls lt z) → z ∈ a → z ∈ b := fun {a b z} e hz => by
        have : z ∈ a.filter (cls lt z) := List.mem_filter.2 ⟨hz, by simp [cls, hl.irr]⟩
        rw [e] at this
        exact (List.mem_filter.1 this).1
      have hx1 : x ∈ y :: ys := mem (g x).symm (by simp)
      have hy1 : y ∈ x :: xs := mem (g y) (by simp)
      unfold Srt at h1 h2
      rw [List.pairwise_cons] at h1 h2
      have c1 : lt x y = false := by
        rcases List.mem_cons.1 hx1 with e | e
        · rw [e]; exact hl.irr _
        · exact h2.1 x e
      have c2 : lt y x = false := by
        rcases List.mem_cons.1 hy1 with e | e
        · rw [e]; exact hl.irr _
        · exact h1.1 y e
      have e := g x
      rw [List.filter_cons_of_pos (by simp [cls, c1, c2]), List.filter_cons_of_pos (by simp [cls, hl.irr])] at e
      have exy : y = x := (List.cons.inj e).1
      subst exy
      rw [ih (l' := ys) h1.2 h2.2 fun z => by
        have := g z
        cases hz : cls lt z y with
        | true => rw [List.filter_cons_of_pos hz, List.filter_cons_of_pos hz] at this; exact (List.cons.inj this).2
        | false => rw [List.filter_cons_of_neg (by simp [hz]), List.filter_cons_of_neg (by simp [hz])] at this; exact this]
/-- In order, and of each class the first. -/
def Fst (lt : Row → Row → Bool) (l r : Rows) : Prop := Srt lt r ∧ ∀ z, r.filter (cls lt z) = (l.filter (cls lt z)).take 1
theorem Fst.one (hl : SWO lt) {l a b : Rows} (ha : Fst lt l a) (hb : Fst lt l b) : a = b := srt_one' hl hb.1 ha.1 fun x => (ha.2 x).trans (hb.2 x).symm
theorem Fst.nil : Fst lt [] [] := ⟨srt_nil, fun z => by simp⟩
theorem uniq_sub {eq : Row → Row → Bool} : ∀ {p : Row} {xs : Rows}, (uniq eq p xs).Sublist xs
  | _, [] => by simp [uniq]
  | p, x :: xs => by
    unfold uniq
    cases eq x p
    · exact (uniq_sub (p := x) (xs := xs)).cons_cons x
    · exact (uniq_sub (p := x) (xs := xs)).cons x
theorem uniq_cls (hl : SWO lt) {eq : Row → Row → Bool} (he : ∀ x y, eq x y = cls lt x y) (z : Row) : ∀ {p : Row} {xs : Rows}, Srt lt (p :: xs) →
    (uniq eq p xs).filter (cls lt z) = bif cls lt z p then [] else (xs.filter (cls lt z)).take 1
  | p, [], _ => by cases cls lt z p <;> simp [uniq]
  | p, x :: xs, h => by
    have h0 := h
    unfold Srt at h0
    rw [List.pairwise_cons] at h0
    have ih := uniq_cls hl he z (p := x) (xs := xs) h0.2
    have hpx : lt x p = false := h0.1 x (by simp)
    unfold uniq
    rw [he]
    cases hxp : cls lt x p with
    | true =>
      simp only [cond_true]
      rw [ih, cls_right hl hxp]
      cases hz : cls lt z p with
      | true => rfl
      | false =>
        have : cls lt z x = false := by rw [cls_right hl hxp]; exact hz
        simp only [cond_false]
        rw [List.filter_cons_of_neg (by simp [this])]
    | false =>
      simp only [cond_false]
      have hlt : lt p x = true := by
        cases h1 : lt p x with
        | true => rfl
        | false => rw [cls_iff.2 ⟨hpx, h1⟩] at hxp; simp at hxp
      cases hzx : cls lt z x with
      | true =>
        have hzp : cls lt z p = false := by
          cases h1 : cls lt z p with
          | false => rfl
          | true => rw [cls_trans hl (cls_symm hzx) h1] at hxp; simp at hxp
        rw [List.filter_cons_of_pos hzx, List.filter_cons_of_pos hzx, ih, hzx, hzp]
        simp
      | false =>
        rw [List.filter_cons_of_neg (by simp [hzx]), List.filter_cons_of_neg (by simp [hzx]), ih, hzx]
        cases hzp : cls lt z p with
        | false => rfl
        | true =>
          have : xs.filter (cls lt z) = [] := by
            refine List.filter_eq_nil_iff.2 fun y hy hc => ?_
            have h1 : lt y x = false := by
              have := h0.2
              rw [List.pairwise_cons] at this
              exact this.1 y hy
            have h2 : lt p y = true := hl.ltle hlt h1
            have h3 := cls_trans hl (cls_symm hzp) hc
            rw [cls_iff] at h3
            rw [h2] at h3
            simp at h3
          rw [this]
          rfl
/-- Sorted stably, then the first of each run: of each class the first. -/
theorem cmpt_fst (hl : SWO lt) {eq : Row → Row → Bool} (he : ∀ x y, eq x y = cls lt x y) (l : Rows) : Fst lt l (cmpt eq (stab lt l)) := by
  have hs := stab_sp hl l
  generalize stab lt l = s at hs
  have key : ∀ z, (cmpt eq s).filter (cls lt z) = (s.filter (cls lt z)).take 1 := fun z => by
    cases s with
    | nil => simp [cmpt]
    | cons p xs =>
      unfold cmpt
      cases hz : cls lt z p with
      | true => rw [List.filter_cons_of_pos hz, List.filter_cons_of_pos hz, uniq_cls hl he z hs.1, hz]; simp
      | false => rw [List.filter_cons_of_neg (by simp [hz]), List.filter_cons_of_neg (by simp [hz]), uniq_cls hl he z hs.1, hz]; rfl
  refine ⟨hs.1.sub ?_, fun z => by rw [key z, hs.2.2 z]⟩
  cases s with
  | nil => simp [cmpt]
  | cons p xs => exact uniq_sub.cons_cons p
/-- One more: it is there, or it is put where it belongs. -/
theorem Fst.step (hl : SWO lt) {l r : Rows} (h : Fst lt l r) (x : Row) : Fst lt (l ++ [x]) (bif r.any (cls lt x) then r else stab lt (r ++ [x])) := by
  cases ha : r.any (cls lt x) with
  | true =>
    refine ⟨h.1, fun z => ?_⟩
    rw [List.filter_append]
    cases hz : cls lt z x with
    | false =>
      have : ([x] : Rows).filter (cls lt z) = [] := by simp [hz]
      rw [this, List.append_nil]
      exact h.2 z
    | true =>
      obtain ⟨y, hy, hc⟩ := List.any_eq_true.1 ha
      have h1 : r.filter (cls lt z) ≠ [] := by
        rw [filter_cls hl hz]
        exact List.ne_nil_of_mem (List.mem_filter.2 ⟨hy, hc⟩)
      have h2 := h.2 z
      cases hf : l.filter (cls lt z) with
      | nil => rw [hf] at h2; exact absurd h2 (by simpa using h1)
      | cons a as => simp only [cond_true]; rw [h2, hf]; simp
  | false =>
    have hs := stab_sp hl (r ++ [x])
    refine ⟨hs.1, fun z => ?_⟩
    simp only [cond_false]
    rw [hs.2.2 z, List.filter_append, List.filter_append, h.2 z]
    cases hz : cls lt z x with
    | false =>
      have : ([x] : Rows).filter (cls lt z) = [] := by simp [hz]
      rw [this]; simp
    | true =>
      have h1 : r.filter (cls lt z) = [] := by
        rw [filter_cls hl hz]
        refine List.filter_eq_nil_iff.2 fun y hy hc => ?_
        have := List.any_eq_true.2 ⟨y, hy, hc⟩
        rw [ha] at this
        simp at this
      have h2 := h.2 z
      rw [h1] at h2
      have h3 : l.filter (cls lt z) = [] := by
        cases hf : l.filter (cls lt z) with
        | nil => rfl
        | cons a as => rw [hf] at h2; simp at h2
      rw [h3]
      simp [hz]
/-- All, one behind the other. -/
theorem fst_fold (hl : SWO lt) : ∀ (l' l r : Rows), Fst lt l r → Fst lt (l ++ l') (l'.foldl (fun r x => bif r.any (cls lt x) then r else stab lt (r ++ [x])) r)
  | [], l, r, h => by simpa using h
  | x :: l', l, r, h => by
    have := fst_fold hl l' (l ++ [x]) _ (h.step hl x)
    simpa using this
/-- The two roads. -/
theorem fst_both (hl : SWO lt) {eq : Row → Row → Bool} (he : ∀ x y, eq x y = cls lt x y) (l : Rows) :
    l.foldl (fun r x => bif r.any (cls lt x) then r else stab lt (r ++ [x])) [] = cmpt eq (stab lt l) :=
  Fst.one hl (by simpa using fst_fold hl l [] [] Fst.nil) (cmpt_fst hl he l)
end
theorem cls_upI (c : Nat) (x y : Row) : cls (upI c) x y = (cN x c == cN y c) := by
  rw [Bool.eq_iff_iff, cls_iff]
  simp [upI]
  omega
end Go.Am
