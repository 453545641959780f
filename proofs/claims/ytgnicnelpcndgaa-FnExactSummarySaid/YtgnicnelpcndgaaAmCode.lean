/- AM: code. Nothing is assumed. -/
import Derived.Test.YtgnicnelpcndgaaAmDraw4
import Derived.LoopN
set_option linter.unusedVariables false
set_option linter.unusedSimpArgs false
namespace Go.Am
def dstsOk (N : Nat) (ops : List Oper) : Bool := ops.all fun o => match o.dst with | some d => Nat.blt d N | none => true
def akOk : AK → Bool
  | .b ks => ks.all fun k => match k with | .u => false | _ => true
  | _ => true
def exitsOk (exits : Exits) : Bool := exits.all fun p => (seconds p.2).all akOk
def chkCode (P : Program) (sg : Sigs) (N : Nat) : ACode → Code → Bool
  | .skip, .skip => true
  | .reg false aos, .region _ ops false => dstsOk N ops.toList && chkOpers P sg N ops ops.toList aos
  | .dreg _ head tail, .region _ ops true => dstsOk N ops.toList && chkDraw P sg N ops head tail
  | .seq x y, .seq x' y' => chkCode P sg N x x' && chkCode P sg N y y'
  | .cond c x y, .cond c' x' y' => chkOpd sg c c' && chkCode P sg N x x' && chkCode P sg N y y'
  | .block i b, .block i' b' => i == i' && chkCode P sg N b b'
  | .loop _ exits b, .loop b' => exitsOk exits && chkCode P sg N b b'
  | .exit i, .exit i' => i == i'
  | .ret, .ret => true
  | _, _ => false
def exOf : Ex → Exit
  | .normal => .normal
  | .exit i => .exit i
  | .ret => .ret
section
variable {P : Program} {sg : Sigs} {N : Nat} {args : Nat → Value} {w0 : World} {c0 : List Nat} {Z : Nat → Prop} {C : Ctx}
/-- What holds at the head of a loop, and behind it. -/
structure LInv (sg : Sigs) (keep : List Nat) (N : Nat) (args : Nat → Value) (w0 : World) (c0 : List Nat) (Z : Nat → Prop) (live : List Nat) (xs : List AV) (a : Act) (w : World) : Prop where
  rest : ∃ c, RstL sg.X w Z xs (live.map fun i => a.tmps.getD i undef) c ∧ WInv w0 c0 Z w c
  defers : a.defers = []
  size : a.tmps.size = N
  keep : ∀ i ∈ keep, a.tmps.getD i undef = args i
theorem LInv.of {live : List Nat} {hs : List Hd} {c : List Nat} {st : St} {a : Act} {w : World} {ys : List AV} {m' : Mem} (h : SInv sg.X C.keep N args w0 c0 Z hs c st a w)
    (hr : restAVs st.t st.m live = some (ys, m')) : LInv sg C.keep N args w0 c0 Z live ys a w := by
  obtain ⟨c', cd, e1, e2, e3⟩ := restAVs_ok h.tmp live hr h.mem
  exact ⟨⟨cd, e1, h.win.less fun b => by have := e3 b; simp only [List.count_append] at this; omega⟩, h.defers, h.size, h.keep⟩
theorem LInv.wake {live : List Nat} {xs : List AV} {a : Act} {w : World} (h : LInv sg C.keep N args w0 c0 Z live xs a w) :
    ∃ hs c, SInv sg.X C.keep N args w0 c0 Z hs c (wake live xs) a w := by
  obtain ⟨c, h1, h2⟩ := h.rest
  obtain ⟨hs', c', e1, e2, e3⟩ := wakeAVs_ok (f := fun i => a.tmps.getD i undef) live (t := none_) (m := []) (hs := []) (c := []) .nil (fun i => .u) h1
  exact ⟨hs', c', e1, e2, h2.less fun b => by simpa using e3 b, h.defers, h.size, h.keep⟩
theorem same_ok {e x : Ex} (h : e.same x = true) : e = x := by
  cases e <;> cases x <;> simp [Ex.same] at h
  · rfl
  · rw [h]
  · rfl
theorem onExit_some {R : Type} {r : R} {e : Ex} {K : Ex → List (Nat × AK) → Option R} {exits : Exits} (h : onExit e K exits = some r) : ∃ l, afterOf e exits = some l ∧ K e l = some r := by
  induction exits with
  | nil => simp [onExit] at h
  | cons p r' ih =>
    obtain ⟨x, l⟩ := p
    simp only [onExit] at h
    simp only [afterOf]
    cases hs : e.same x with
    | true =>
      simp only [hs, cond_true] at h ⊢
      have := same_ok hs
      subst this
      exact ⟨l, rfl, h⟩
    | false =>
      simp only [hs, cond_false] at h ⊢
      exact ih h
/-! ### shapes -/
theorem aI_some {R : Type} {r : R} {k : IntKind} {x : AV} {K : Int → Option R} (h : aI k x K = some r) : ∃ n, x = .v (.int k n) ∧ K n = some r := by
  unfold aI at h
  split at h
  · split at h
    · rename_i hk; subst hk; exact ⟨_, rfl, h⟩
    · simp at h
  · simp at h
theorem aB_some {R : Type} {r : R} {x : AV} {K : Bool → Option R} (h : aB x K = some r) : ∃ n, x = .v (.bool n) ∧ K n = some r := by
  unfold aB at h
  split at h
  · exact ⟨_, rfl, h⟩
  · simp at h
theorem aS_some {R : Type} {r : R} {x : AV} {K : ByteArray → Option R} (h : aS x K = some r) : ∃ n, x = .v (.string n) ∧ K n = some r := by
  unfold aS at h
  split at h
  · exact ⟨_, rfl, h⟩
  · simp at h
theorem aL_some {R : Type} {r : R} {wd : Nat} {x : AV} {K : Rows → Option R} (h : aL wd x K = some r) : ∃ n, x = .fz wd n ∧ K n = some r := by
  unfold aL at h
  split at h
  · split at h
    · rename_i hk; subst hk; exact ⟨_, rfl, h⟩
    · simp at h
  · simp at h
theorem aO_some {R : Type} {r : R} {wd : Nat} {x : AV} {K : Rows → Option R} (h : aO wd x K = some r) : ∃ n, x = .o wd n ∧ K n = some r := by
  unfold aO at h
  split at h
  · split at h
    · rename_i hk; subst hk; exact ⟨_, rfl, h⟩
    · simp at h
  · simp at h
theorem aX_some {R : Type} {r : R} {x : AV} {K : List AV → Option R} (h : aX x K = some r) : ∃ n, x = .b n ∧ K n = some r := by
  unfold aX at h
  split at h
  · exact ⟨_, rfl, h⟩
  · simp at h
theorem aG_some {R : Type} {r : R} {m : Nat} {x : AV} {K : List AV → Option R} (h : aG m x K = some r) : ∃ n, x = .g n ∧ n.length = m ∧ K n = some r := by
  unfold aG at h
  split at h
  · rename_i xs
    cases hb : Nat.beq xs.length m with
    | false => simp [hb] at h
    | true => exact ⟨_, rfl, Nat.eq_of_beq_eq_true hb, by simpa [hb] using h⟩
  · simp at h
theorem aV_some {R : Type} {r : R} {xs : List AV} {i : Nat} {K : AV → Option R} (h : aV xs i K = some r) : ∃ x, xs[i]? = some x ∧ K x = some r := by
  unfold aV at h
  split at h
  · rename_i x e; exact ⟨x, e, h⟩
  · simp at h
theorem shape0some {R : Type} {r : R} {k : AK} {x : AV} {K : AV → Option R} (h : shape0 k x K = some r) : ∃ y, (y = x ∨ (y = .u ∧ k = .u)) ∧ K y = some r := by
  unfold shape0 at h
  split at h
  · obtain ⟨n, e, h⟩ := aI_some h; exact ⟨_, .inl e.symm, h⟩
  · obtain ⟨n, e, h⟩ := aB_some h; exact ⟨_, .inl e.symm, h⟩
  · obtain ⟨n, e, h⟩ := aS_some h; exact ⟨_, .inl e.symm, h⟩
  · obtain ⟨n, e, h⟩ := aL_some h; exact ⟨_, .inl e.symm, h⟩
  · obtain ⟨n, e, h⟩ := aO_some h; exact ⟨_, .inl e.symm, h⟩
  · exact ⟨.u, .inr ⟨rfl, rfl⟩, h⟩
  · simp at h
/-- What may be forgotten. -/
inductive Less : List AV → List AV → Prop
  | nil : Less [] []
  | same {x : AV} {xs ys : List AV} (h : Less xs ys) : Less (x :: xs) (x :: ys)
  | u {x : AV} {xs ys : List AV} (h : Less xs ys) : Less (x :: xs) (.u :: ys)
theorem shapes0some {R : Type} {r : R} {ks : List AK} : ∀ {xs : List AV} {j : Nat} {K : List AV → Option R}, shapes0 ks xs j K = some r → ∃ ys, Less ((xs.drop j).take ks.length) ys ∧ j + ks.length ≤ max j xs.length ∧ ((∀ k ∈ ks, k ≠ .u) → ys = (xs.drop j).take ks.length) ∧ K ys = some r := by
  induction ks with
  | nil => intro xs j K h; exact ⟨[], by simpa using Less.nil, by simp; omega, by simp, h⟩
  | cons k ks ih =>
    intro xs j K h
    simp only [shapes0] at h
    obtain ⟨x, hx, h⟩ := aV_some h
    obtain ⟨y, hy, h⟩ := shape0some h
    obtain ⟨ys, h1, h2, h3, h4⟩ := ih h
    have hlt : j < xs.length := (List.getElem?_eq_some_iff.1 hx).1
    have e : xs.drop j = x :: xs.drop (j + 1) := by
      rw [List.drop_eq_getElem_cons hlt, (List.getElem?_eq_some_iff.1 hx).2]
    refine ⟨y :: ys, ?_, by simp only [List.length_cons]; omega, fun hk => ?_, h4⟩
    · rw [e]
      simp only [List.length_cons, List.take_succ_cons]
      rcases hy with rfl | ⟨rfl, _⟩
      · exact .same h1
      · exact .u h1
    · rw [e]
      simp only [List.length_cons, List.take_succ_cons]
      rw [← h3 fun k hk' => hk k (by simp [hk'])]
      rcases hy with rfl | ⟨_, hu⟩
      · rfl
      · exact absurd hu (hk k (by simp))
theorem less_rst {X : Nat → Prop} {w : World} {xs ys : List AV} (h : Less xs ys) : ∀ {vs : List Value} {c : List Nat}, Rst1L X w Z xs vs c → ∃ c', Rst1L X w Z ys vs c' ∧ ∀ b, c'.count b ≤ c.count b := by
  induction h with
  | nil => intro vs c h; exact ⟨c, h, fun b => Nat.le_refl _⟩
  | same _ ih =>
    intro vs c h
    cases h with
    | @cons _ _ _ _ c1 c2 h h' =>
      obtain ⟨c', e1, e2⟩ := ih h'
      exact ⟨c1 ++ c', .cons h e1, fun b => by have := e2 b; simp only [List.count_append]; omega⟩
  | u _ ih =>
    intro vs c h
    cases h with
    | @cons _ _ _ _ c1 c2 h h' =>
      obtain ⟨c', e1, e2⟩ := ih h'
      exact ⟨[] ++ c', .cons (.p .u) e1, fun b => by have := e2 b; simp only [List.nil_append, List.count_append]; omega⟩
theorem CRelL.take {w : World} {hs : List Hd} {xs : List AV} : ∀ {vs : List Value} {c : List Nat} (n : Nat), CRelL w Z hs xs vs c → ∃ c', CRelL w Z hs (xs.take n) (vs.take n) c' ∧ ∀ b, c'.count b ≤ c.count b := by
  induction xs with
  | nil => intro vs c n h; cases h; exact ⟨[], by simpa using CRelL.nil, fun b => Nat.le_refl _⟩
  | cons x xs ih =>
    intro vs c n h
    cases h with
    | @cons _ _ _ _ c1 c2 h h' =>
      cases n with
      | zero => exact ⟨[], by simpa using CRelL.nil, fun b => by simp⟩
      | succ n =>
        obtain ⟨c', e1, e2⟩ := ih n h'
        exact ⟨c1 ++ c', by simpa using CRelL.cons h e1, fun b => by have := e2 b; simp only [List.count_append]; omega⟩
theorem shape_some {R : Type} {r : R} {k : AK} {x : AV} {K : AV → Option R} (hk : akOk k = true) (h : shape k x K = some r) :
    ∃ y, K y = some r ∧ ∀ (X : Nat → Prop) (w : World) (v : Value) (c : List Nat), Rst X w Z x v c → ∃ c', Rst X w Z y v c' ∧ ∀ b, c'.count b ≤ c.count b := by
  have base : ∀ {k : AK}, shape0 k x K = some r → ∃ y, K y = some r ∧ ∀ (X : Nat → Prop) (w : World) (v : Value) (c : List Nat), Rst X w Z x v c → ∃ c', Rst X w Z y v c' ∧ ∀ b, c'.count b ≤ c.count b := by
    intro k h
    obtain ⟨y, hy, h⟩ := shape0some h
    refine ⟨y, h, fun X w v c hx => ?_⟩
    rcases hy with rfl | ⟨rfl, _⟩
    · exact ⟨c, hx, fun b => Nat.le_refl _⟩
    · exact ⟨[], .o (.p .u), fun b => by simp⟩
  unfold shape at h
  split at h
  · rename_i ks
    obtain ⟨xs, rfl, h⟩ := aX_some h
    obtain ⟨ys, h1, h2, h3, h⟩ := shapes0some h
    have h3 := h3 fun k hk' => by
      simp only [akOk, List.all_eq_true] at hk
      have := hk k hk'
      rintro rfl
      simp at this
    subst h3
    refine ⟨_, h, fun X w v c hx => ?_⟩
    cases hx with
    | o hx =>
      cases hx with
      | c hx => cases hx
      | @b _ b off vs c hh hf hl =>
        obtain ⟨c', e1, e2⟩ := hl.take ks.length
        simp only [List.drop_zero]
        refine ⟨b :: c', .o (.b (hh.take _) ?_ e1), fun x => by have := e2 x; simp only [List.count_cons]; omega⟩
        obtain ⟨cs, el, fz, j1, j2, j3⟩ := hf
        simp only [List.length_take]
        exact ⟨cs, el, fz, j1, by omega, fun k hk hk' => j3 k hk (by omega)⟩
      | p hx => cases hx
  · rename_i ks
    obtain ⟨xs, rfl, hlen, h⟩ := aG_some h
    obtain ⟨ys, h1, h2, h3, h⟩ := shapes0some h
    simp only [List.drop_zero] at h1
    rw [← hlen, List.take_length] at h1
    refine ⟨_, h, fun X w v c hx => ?_⟩
    have lift : ∀ {xs : List AV} {vs : List Value}, ARelL X w Z [] xs vs → Rst1L X w Z xs vs [] := by
      intro xs
      induction xs with
      | nil => intro vs h; cases h; exact .nil
      | cons x xs ih => intro vs h; cases h with | cons h h' => simpa using Rst1L.cons (Rst1.p h) (ih h')
    have go : ∀ {vs : Array Value} {c : List Nat}, Rst1L X w Z xs vs.toList c → ∃ c', Rst X w Z (.g ys) (.agg vs) c' ∧ ∀ b, c'.count b ≤ c.count b := fun hx => by
      obtain ⟨c', e1, e2⟩ := less_rst h1 hx
      exact ⟨c', .g e1, e2⟩
    cases hx with
    | g hx => exact go hx
    | o hx =>
      cases hx with
      | c hx => cases hx
      | p hx => cases hx with | g hx => exact go (lift hx)
  · exact base h
theorem shapes_some {R : Type} {r : R} {ks : List AK} : ∀ {xs : List AV} {j : Nat} {K : List AV → Option R}, ks.all akOk = true → shapes ks xs j K = some r →
    ∃ ys, K ys = some r ∧ ∀ (X : Nat → Prop) (w : World) (vs : List Value) (c : List Nat), vs.length = ks.length → RstL X w Z (xs.drop j) vs c → ∃ c', RstL X w Z ys vs c' ∧ ∀ b, c'.count b ≤ c.count b := by
  induction ks with
  | nil =>
    intro xs j K _ h
    refine ⟨[], h, fun X w vs c hl hx => ?_⟩
    have : vs = [] := List.length_eq_zero_iff.1 hl
    subst this
    exact ⟨[], .nil, fun b => by simp⟩
  | cons k ks ih =>
    intro xs j K hk h
    simp only [List.all_cons, Bool.and_eq_true] at hk
    simp only [shapes] at h
    obtain ⟨x, hx, h⟩ := aV_some h
    obtain ⟨y, h, gy⟩ := shape_some (Z := Z) hk.1 h
    obtain ⟨ys, h, gs⟩ := ih hk.2 h
    refine ⟨y :: ys, h, fun X w vs c hl hr => ?_⟩
    have hlt : j < xs.length := (List.getElem?_eq_some_iff.1 hx).1
    have e : xs.drop j = x :: xs.drop (j + 1) := by
      rw [List.drop_eq_getElem_cons hlt, (List.getElem?_eq_some_iff.1 hx).2]
    rw [e] at hr
    cases hr with
    | cons h1 h2 =>
      obtain ⟨c1, e1, e2⟩ := gy X w _ _ h1
      obtain ⟨c2, f1, f2⟩ := gs X w _ _ (by simpa using hl) h2
      exact ⟨c1 ++ c2, .cons e1 f1, fun b => by have := e2 b; have := f2 b; simp only [List.count_append]; omega⟩
theorem afterOf_ok {e : Ex} {exits : Exits} {l : List (Nat × AK)} (hx : exitsOk exits = true) (h : afterOf e exits = some l) : (seconds l).all akOk = true := by
  induction exits with
  | nil => simp [afterOf] at h
  | cons p r ih =>
    obtain ⟨x, l'⟩ := p
    simp only [exitsOk, List.all_cons, Bool.and_eq_true] at hx
    simp only [afterOf] at h
    cases hs : e.same x with
    | true =>
      simp only [hs, cond_true, Option.some.injEq] at h
      subst h
      exact hx.1
    | false =>
      simp only [hs, cond_false] at h
      exact ih hx.2 h
theorem firsts_length (l : List (Nat × AK)) : (firsts l).length = (seconds l).length := by
  induction l with
  | nil => rfl
  | cons p l ih => obtain ⟨i, k⟩ := p; simp [firsts, seconds, ih]
/-- Some rounds of a loop. -/
theorem loop_ok {k : Nat} {b : ACode} {code : Code} {live : List Nat} {exits : Exits}
    (hb : ∀ {st : St} {r : Ex × List AV} {K : Ex → St → Option (Ex × List AV)}, evalC C k b (Ex × List AV) st K = some r → ∃ e st', K e st' = some r ∧
      ∀ (hs : List Hd) (c : List Nat) (a : Act) (w : World), SInv sg.X C.keep N args w0 c0 Z hs c st a w → ∀ Q : Exit → Act → World → Prop, (∀ hs' c' a' w', SInv sg.X C.keep N args w0 c0 Z hs' c' st' a' w' → Q (exOf e) a' w') → code.wp P Q a w) (n : Nat) :
    ∀ {xs : List AV} {e : Ex} {ys : List AV}, loopN (evalC C k b (Ex × List AV)) live exits n xs = some (e, ys) → ∃ l, afterOf e exits = some l ∧
      ∀ (a : Act) (w : World), LInv sg C.keep N args w0 c0 Z live xs a w → ∀ Q : Exit → Act → World → Prop, (∀ a' w', LInv sg C.keep N args w0 c0 Z (firsts l) ys a' w' → Q (exOf e) a' w') → Code.rounds P code Q n a w := by
  induction n with
  | zero => intro xs e ys h; simp [loopN] at h
  | succ n ih =>
    intro xs e ys h
    simp only [loopN] at h
    obtain ⟨e1, st1, h1, g1⟩ := hb h
    have out : ∀ e', e1 = e' → e' ≠ .normal → (match afterOf e' exits with
        | some l => match restAVs st1.t st1.m (firsts l) with
          | some (ys, _) => some (e', ys)
          | none => none
        | none => none) = some (e, ys) → ∃ l, afterOf e exits = some l ∧
      ∀ (a : Act) (w : World), LInv sg C.keep N args w0 c0 Z live xs a w → ∀ Q : Exit → Act → World → Prop, (∀ a' w', LInv sg C.keep N args w0 c0 Z (firsts l) ys a' w' → Q (exOf e) a' w') → Code.rounds P code Q (n + 1) a w := by
      intro e' he hne h1
      subst he
      split at h1
      · rename_i l hl
        split at h1
        · rename_i ys' m' hr
          simp only [Option.some.injEq, Prod.mk.injEq] at h1
          obtain ⟨rfl, rfl⟩ := h1
          refine ⟨l, hl, fun a w hL Q hQ => ?_⟩
          obtain ⟨hs, c, hin⟩ := hL.wake
          rw [rounds_succ]
          refine g1 hs c a w hin _ fun hs' c' a' w' hin' => ?_
          have := hQ a' w' (LInv.of hin' hr)
          cases e1
          · exact absurd rfl hne
          · exact this
          · exact this
        · simp at h1
      · simp at h1
    cases e1 with
    | normal =>
      simp only at h1
      split at h1
      · rename_i ys1 m1 hr
        obtain ⟨l, hl, g2⟩ := ih h1
        refine ⟨l, hl, fun a w hL Q hQ => ?_⟩
        obtain ⟨hs, c, hin⟩ := hL.wake
        rw [rounds_succ]
        exact g1 hs c a w hin _ fun hs' c' a' w' hin' => g2 a' w' (LInv.of hin' hr) Q hQ
      · simp at h1
    | exit i => exact out _ rfl (by simp) h1
    | ret => exact out _ rfl (by simp) h1
theorem dstsOk_ok {ops : Array Oper} (h : dstsOk N ops.toList = true) : ∀ (j : Nat) (o : Oper), ops[j]? = some o → ∀ d, o.dst = some d → d < N := fun j o ho d hd => by
  simp only [dstsOk, List.all_eq_true] at h
  have := h o (List.mem_of_getElem? (by simpa using ho))
  rw [hd] at this
  exact Nat.blt_eq.mp this
theorem evalC_ok (hT : Good P sg C.T) {k : Nat} (ac : ACode) : ∀ {code : Code} {R : Type} {r : R} {st : St} {K : Ex → St → Option R}, chkCode P sg N ac code = true → evalC C k ac R st K = some r →
    ∃ e st', K e st' = some r ∧ ∀ (hs : List Hd) (c : List Nat) (a : Act) (w : World), SInv sg.X C.keep N args w0 c0 Z hs c st a w → ∀ Q : Exit → Act → World → Prop,
      (∀ hs' c' a' w', SInv sg.X C.keep N args w0 c0 Z hs' c' st' a' w' → Q (exOf e) a' w') → code.wp P Q a w := by
  induction ac with
  | skip =>
    intro code R r st K hc h
    cases code <;> simp only [chkCode] at hc <;> try (simp at hc; done)
    exact ⟨.normal, st, h, fun hs c a w hin Q hQ => wp_skip (hQ _ _ _ _ hin)⟩
  | reg draw aos =>
    intro code R r st K hc h
    simp only [evalC] at h
    cases code with
    | region id ops d =>
      cases draw with
      | false =>
        cases d with
        | true => simp [chkCode] at hc
        | false =>
          simp only [chkCode, Bool.and_eq_true] at hc
          obtain ⟨st', h1, g⟩ := evalOps_ok (args := args) (w0 := w0) (c0 := c0) (Z := Z) hT ops.toList hc.2 (dstsOk_ok hc.1) h
          exact ⟨.normal, st', h1, fun hs c a w hin Q hQ => wp_region_list (g hs c a w hin Q hQ)⟩
      | true => cases d <;> simp [chkCode] at hc
    | _ => cases draw <;> simp [chkCode] at hc
  | dreg pre head tail =>
    intro code R r st K hc h
    simp only [evalC] at h
    cases code with
    | region id ops d =>
      cases d with
      | false => simp [chkCode] at hc
      | true =>
        simp only [chkCode, Bool.and_eq_true] at hc
        obtain ⟨st', h1, g⟩ := draw_ok (args := args) (w0 := w0) (c0 := c0) (Z := Z) (id := id) hT hc.2 (dstsOk_ok hc.1) h
        exact ⟨.normal, st', h1, fun hs c a w hin Q hQ => g hs c a w hin Q hQ⟩
    | _ => simp [chkCode] at hc
  | seq x y ihx ihy =>
    intro code R r st K hc h
    cases code <;> simp only [chkCode] at hc <;> try (simp at hc; done)
    rename_i x' y'
    simp only [Bool.and_eq_true] at hc
    simp only [evalC] at h
    obtain ⟨e1, st1, h1, g1⟩ := ihx hc.1 h
    cases e1 with
    | normal =>
      simp only at h1
      obtain ⟨e2, st2, h2, g2⟩ := ihy hc.2 h1
      exact ⟨e2, st2, h2, fun hs c a w hin Q hQ => wp_seq (g1 hs c a w hin _ fun hs' c' a' w' hin' => g2 hs' c' a' w' hin' Q hQ)⟩
    | exit i => exact ⟨_, st1, h1, fun hs c a w hin Q hQ => wp_seq (g1 hs c a w hin _ fun hs' c' a' w' hin' => hQ hs' c' a' w' hin')⟩
    | ret => exact ⟨_, st1, h1, fun hs c a w hin Q hQ => wp_seq (g1 hs c a w hin _ fun hs' c' a' w' hin' => hQ hs' c' a' w' hin')⟩
  | cond x y z ihy ihz =>
    intro code R r st K hc h
    cases code <;> simp only [chkCode] at hc <;> try (simp at hc; done)
    rename_i x' y' z'
    simp only [Bool.and_eq_true] at hc
    simp only [evalC] at h
    split at h
    · rename_i b hb
      have hv : ∀ (hs : List Hd) (c : List Nat) (a : Act) (w : World), SInv sg.X C.keep N args w0 c0 Z hs c st a w → a.eval x' = .bool b := fun hs c a w hin => by
        have h1 := chkOpd_ok hc.1.1 hin
        rw [hb] at h1
        exact val_of h1
      cases b with
      | true =>
        obtain ⟨e1, st1, h1, g1⟩ := ihy hc.1.2 (by simpa using h)
        exact ⟨e1, st1, h1, fun hs c a w hin Q hQ => wp_cond_true (hv hs c a w hin) (g1 hs c a w hin Q hQ)⟩
      | false =>
        obtain ⟨e1, st1, h1, g1⟩ := ihz hc.2 (by simpa using h)
        exact ⟨e1, st1, h1, fun hs c a w hin Q hQ => wp_cond_false (hv hs c a w hin) (g1 hs c a w hin Q hQ)⟩
    · simp at h
  | block id b ih =>
    intro code R r st K hc h
    cases code <;> simp only [chkCode] at hc <;> try (simp at hc; done)
    rename_i id' b'
    simp only [Bool.and_eq_true, beq_iff_eq] at hc
    obtain ⟨rfl, hc⟩ := hc
    simp only [evalC] at h
    obtain ⟨e1, st1, h1, g1⟩ := ih hc h
    cases e1 with
    | normal => exact ⟨_, st1, h1, fun hs c a w hin Q hQ => wp_block (g1 hs c a w hin _ fun hs' c' a' w' hin' => hQ hs' c' a' w' hin')⟩
    | exit i =>
      simp only at h1
      cases hi : Nat.beq i id with
      | true =>
        have hi' := Nat.eq_of_beq_eq_true hi
        subst hi'
        simp only [hi, cond_true] at h1
        refine ⟨.normal, st1, h1, fun hs c a w hin Q hQ => wp_block (g1 hs c a w hin _ fun hs' c' a' w' hin' => ?_)⟩
        simp only [exOf, Exit.inBlock, if_true]
        exact hQ hs' c' a' w' hin'
      | false =>
        have hi' : i ≠ id := fun e => by subst e; simp at hi
        simp only [hi, cond_false] at h1
        refine ⟨.exit i, st1, h1, fun hs c a w hin Q hQ => wp_block (g1 hs c a w hin _ fun hs' c' a' w' hin' => ?_)⟩
        simp only [exOf, Exit.inBlock, hi', if_false]
        exact hQ hs' c' a' w' hin'
    | ret => exact ⟨_, st1, h1, fun hs c a w hin Q hQ => wp_block (g1 hs c a w hin _ fun hs' c' a' w' hin' => hQ hs' c' a' w' hin')⟩
  | loop live exits b ih =>
    intro code R r st K hc h
    cases code <;> simp only [chkCode] at hc <;> try (simp at hc; done)
    rename_i b'
    simp only [Bool.and_eq_true] at hc
    simp only [evalC] at h
    split at h
    · rename_i xs m1 hr
      unfold afterLoop aft at h
      split at h
      · rename_i e ys hl
        obtain ⟨l, h1, h2⟩ := onExit_some h
        obtain ⟨l', h3, g3⟩ := loop_ok (args := args) (w0 := w0) (c0 := c0) (Z := Z) (code := b') (fun {st r K} h => ih hc.2 h) k hl
        rw [h1] at h3
        cases h3
        obtain ⟨ys', h4, g4⟩ := shapes_some (Z := Z) (afterOf_ok hc.1 h1) h2
        refine ⟨e, wake (firsts l) ys', h4, fun hs c a w hin Q hQ => ?_⟩
        refine wp_loop_rounds k (g3 a w (LInv.of hin hr) Q fun a' w' hL => ?_)
        have hL' : LInv sg C.keep N args w0 c0 Z (firsts l) ys' a' w' := by
          obtain ⟨c', e1, e2⟩ := hL.rest
          obtain ⟨c2, f1, f2⟩ := g4 sg.X w' ((firsts l).map fun i => a'.tmps.getD i undef) c' (by simp [firsts_length]) e1
          exact ⟨⟨c2, f1, e2.less f2⟩, hL.defers, hL.size, hL.keep⟩
        obtain ⟨hs', c', hin'⟩ := hL'.wake
        exact hQ hs' c' a' w' hin'
      · simp at h
    · simp at h
  | exit i =>
    intro code R r st K hc h
    cases code <;> simp only [chkCode] at hc <;> try (simp at hc; done)
    rename_i i'
    simp only [beq_iff_eq] at hc
    subst hc
    exact ⟨.exit i, st, h, fun hs c a w hin Q hQ => wp_exit (hQ _ _ _ _ hin)⟩
  | ret =>
    intro code R r st K hc h
    cases code <;> simp only [chkCode] at hc <;> try (simp at hc; done)
    exact ⟨.ret, st, h, fun hs c a w hin Q hQ => wp_ret (hQ _ _ _ _ hin)⟩
end
end Go.Am
