/- AM: operations that leave the world alone. Nothing is assumed. -/
import Derived.Test.YtgnicnelpcndgaaAmInv
import Derived.Laws.Sem
import Derived.Laws.StructEq
set_option linter.unusedVariables false
set_option linter.unusedSimpArgs false
namespace Go.Am
def chkV : AV → Value → Bool
  | .v (.int k n), .int k' n' => k == k' && n == n'
  | .v (.bool b), .bool b' => b == b'
  | .v (.string s), .string s' => s.data.toList == s'.data.toList
  | .o _ [], .slice none 0 0 => true
  | _, _ => false
def chkVs : List AV → List Value → Bool
  | [], [] => true
  | x :: xs, v :: vs => chkV x v && chkVs xs vs
  | _, _ => false
def chkC (x : AV) (v : Value) : Bool := match x, v with
  | .g xs, .agg vs => chkVs xs vs.toList
  | x, v => chkV x v
def chkX (sg : Sigs) (fn : Nat) : Bool := (sg fn).isNone
def chkOpd (sg : Sigs) : Opd → Operand → Bool
  | .t i, .tmp j => i == j
  | .c x, .const v => chkC x v
  | .f fn, .func fn' => fn == fn' && chkX sg fn
  | _, _ => false
section
variable {X : Nat → Prop} {w : World} {Z : Nat → Prop} {hs : List Hd}
theorem chkV_ok {x : AV} {v : Value} (h : chkV x v = true) : ARel X w Z hs x v := by
  unfold chkV at h
  split at h
  · simp at h; obtain ⟨rfl, rfl⟩ := h; exact .v trivial
  · simp at h; subst h; exact .v trivial
  · rename_i s s'
    simp at h
    obtain rfl : s = s' := by cases s; cases s'; simp at h; simp [h]
    exact .v trivial
  · exact .o
  · simp at h
theorem chkVs_ok {xs : List AV} : ∀ {vs : List Value}, chkVs xs vs = true → ARelL X w Z hs xs vs := by
  induction xs with
  | nil => intro vs h; cases vs with
    | nil => exact .nil
    | cons => simp [chkVs] at h
  | cons x xs ih => intro vs h; cases vs with
    | nil => simp [chkVs] at h
    | cons v vs => simp [chkVs] at h; exact .cons (chkV_ok h.1) (ih h.2)
theorem chkC_ok {x : AV} {v : Value} (h : chkC x v = true) : ARel X w Z hs x v := by
  unfold chkC at h
  split at h
  · exact .g (chkVs_ok h)
  · exact chkV_ok h
end
section
variable {P : Program} {sg : Sigs} {T : Table} {keep : List Nat} {N : Nat} {args : Nat → Value} {w0 : World} {c0 : List Nat} {Z : Nat → Prop}
theorem chkOpd_ok {x : Opd} {y : Operand} (h : chkOpd sg x y = true) {hs : List Hd} {c : List Nat} {st : St} {a : Act} {w : World} (hi : SInv sg.X keep N args w0 c0 Z hs c st a w) :
    ARel sg.X w Z hs (ev st.t x) (a.eval y) := by
  unfold chkOpd at h
  split at h
  · simp at h; subst h; exact hi.tmp _
  · exact chkC_ok h
  · simp [chkX] at h
    obtain ⟨rfl, hx⟩ := h
    exact .f hx (by simpa using ARelL.nil)
  · simp at h
/-- What an operation leaves. -/
def OpPost (X : Nat → Prop) (w0 : World) (c0 : List Nat) (Z : Nat → Prop) (hs : List Hd) (av : AV) (m' : Mem) (v : Value) (w' : World) : Prop :=
  ∃ hs' c', Ext hs hs' ∧ MemL w' Z hs' hs' m' c' ∧ ARel X w' Z hs' av v ∧ WInv w0 c0 Z w' c'
def OpOk (P : Program) (sg : Sigs) (keep : List Nat) (N : Nat) (args : Nat → Value) (w0 : World) (c0 : List Nat) (Z : Nat → Prop) (o : Oper) (st : St) (av : AV) (m' : Mem) : Prop :=
  ∀ (hs : List Hd) (c : List Nat) (a : Act) (w : World), SInv sg.X keep N args w0 c0 Z hs c st a w → ∀ (next : Act → World → Prop) (Q : Exit → Act → World → Prop),
    (∀ v w', OpPost sg.X w0 c0 Z hs av m' v w' → next (a.put o.dst v) w') → o.wp P a w next Q
/-- An operation that yields a value in the world that it got, and leaves the memory. -/
theorem pure_ok {o : Oper} {st : St} {av : AV} (h : ∀ (hs : List Hd) (c : List Nat) (a : Act) (w : World), SInv sg.X keep N args w0 c0 Z hs c st a w →
    ∃ v, (execOp a.eval o).run P w = .ok (.value v) w ∧ ARel sg.X w Z hs av v) : OpOk P sg keep N args w0 c0 Z o st av st.m := by
  intro hs c a w hi next Q hn
  obtain ⟨v, h1, h2⟩ := h hs c a w hi
  unfold Oper.wp
  rw [h1]
  exact hn v w ⟨hs, c, Ext.refl _, hi.mem, h2, hi.win⟩
theorem mv_ok {o : Oper} {st : St} {x : Opd} {y : Operand} (hc : chkOpd sg x y = true) (ho : o.op = .move y ∨ o.op = .assign y) :
    OpOk P sg keep N args w0 c0 Z o st (ev st.t x) st.m :=
  pure_ok fun hs c a w hi => ⟨a.eval y, by rcases ho with ho | ho <;> simp [execOp, ho, Sem.run, pure], chkOpd_ok hc hi⟩
theorem sc_cases {x : Value} (h : Sc x) : (∃ k n, x = .int k n) ∨ (∃ b, x = .bool b) ∨ ∃ s, x = .string s := by
  cases x <;> simp [Sc] at h <;> simp
theorem run_eqGuard_sc {op : BinOp} {t : TypeId} {x y : Operand} {a b : Value} (h : Sc a) (w : World) : (eqGuard op t x y a b).run P w = .ok () w := by
  rcases sc_cases h with ⟨k, n, rfl⟩ | ⟨b', rfl⟩ | ⟨s, rfl⟩ <;> unfold eqGuard <;> split <;> simp
theorem val_of {X : Nat → Prop} {w : World} {hs : List Hd} {x v : Value} (h : ARel X w Z hs (.v x) v) : v = x := by cases h; rfl
theorem wrap_pure {α : Type} (a : α) (w : World) : (Pure.pure a : Sem α).run P w = .ok a w := rfl
/-- A scalar operation on what two operands hold. -/
theorem two_ok {o : Oper} {st : St} {x y : Opd} {x' y' : Operand} {a b z : Value} (hx : chkOpd sg x x' = true) (hy : chkOpd sg y y' = true)
    (ea : ev st.t x = .v a) (eb : ev st.t y = .v b) (hz : Sc z)
    (h : ∀ (ac : Act) (w : World), ac.eval x' = a → ac.eval y' = b → Sc a → Sc b → (execOp ac.eval o).run P w = .ok (.value z) w) : OpOk P sg keep N args w0 c0 Z o st (.v z) st.m :=
  pure_ok fun hs c ac w hi => by
    have h1 := chkOpd_ok hx hi
    have h2 := chkOpd_ok hy hi
    rw [ea] at h1
    rw [eb] at h2
    have sa : Sc a := by cases h1; assumption
    have sb : Sc b := by cases h2; assumption
    exact ⟨z, h ac w (val_of h1) (val_of h2) sa sb, .v hz⟩
theorem bytesEq_iff (a b : ByteArray) : bytesEq a b = (a.toList == b.toList) := rfl
theorem run_binI {R : Type} {r : R} {op : BinOp} {k : IntKind} {a b : Int} {t : TypeId} {K : Value → Option R} (h : binI op k a b K = some r) :
    ∃ z, K z = some r ∧ Sc z ∧ ∀ w, (binOp op t (.int k a) (.int k b)).run P w = .ok z w := by
  cases op <;> simp only [binI, tst] at h <;> try (simp at h; done)
  all_goals first
    | exact ⟨_, h, trivial, fun w => by simp [binOp, Op.intArith, Op.intCmp]⟩
    | (cases hb : decide (b ≠ 0) with
       | false => simp [hb] at h
       | true =>
         rw [hb] at h
         have : b ≠ 0 := by simpa using hb
         exact ⟨_, h, trivial, fun w => by simp [binOp, Op.intDiv, this]⟩)
theorem run_binS {R : Type} {r : R} {op : BinOp} {a b : ByteArray} {t : TypeId} {K : Value → Option R} (h : binS op a b K = some r) :
    ∃ z, K z = some r ∧ Sc z ∧ ∀ w, (binOp op t (.string a) (.string b)).run P w = .ok z w := by
  cases op <;> simp only [binS, tst] at h <;> try (simp at h; done)
  all_goals first
    | exact ⟨_, h, trivial, fun w => by simp [binOp, Op.stringOp, bytesEq, bytesLess]⟩
    | (cases hb : decide (a.size + b.size ≤ maxLen) with
       | false => simp [hb] at h
       | true =>
         rw [hb] at h
         have : a.size + b.size ≤ maxLen := by simpa using hb
         refine ⟨_, h, trivial, fun w => ?_⟩
         have h2 : ¬ (((a.size + b.size : Nat) : Int) > IntKind.i64.max) := by
           simp [maxLen] at this
           simp [IntKind.max, IntKind.bits, IntKind.signed]
           omega
         simp only [binOp, Op.stringOp]
         rw [if_neg h2]
         rfl)
theorem bin_ok {R : Type} {r : R} {o : Oper} {st : St} {op : BinOp} {t t' : TypeId} {x y : Opd} {x' y' : Operand} {a b : Value} {K : Value → Option R} (hx : chkOpd sg x x' = true) (hy : chkOpd sg y y' = true)
    (ho : o.op = .binOp op t x' y' t') (ea : ev st.t x = .v a) (eb : ev st.t y = .v b) (h : binV op a b K = some r) :
    ∃ z, K z = some r ∧ OpOk P sg keep N args w0 c0 Z o st (.v z) st.m := by
  have key : ∀ z, Sc z → (∀ w, (binOp op t a b).run P w = .ok z w) → OpOk P sg keep N args w0 c0 Z o st (.v z) st.m := by
    intro z hz h
    refine two_ok hx hy ea eb hz fun ac w e1 e2 sa sb => ?_
    simp [execOp, ho, e1, e2, run_eqGuard_sc sa, h]
  cases a <;> cases b <;> simp only [binV] at h <;> try (simp at h; done)
  · unfold sameKind at h
    split at h
    · rename_i e
      subst e
      obtain ⟨z, h1, h2, h3⟩ := run_binI (P := P) (t := t) h
      exact ⟨z, h1, key z h2 h3⟩
    · simp at h
  · obtain ⟨z, h1, h2, h3⟩ := run_binS (P := P) (t := t) h
    exact ⟨z, h1, key z h2 h3⟩
theorem beq_ok {o : Oper} {st : St} {op : BinOp} {t t' : TypeId} {x y : Opd} {x' y' : Operand} {a b neg : Bool} (hx : chkOpd sg x x' = true) (hy : chkOpd sg y y' = true)
    (hu : P.underlying t = some .bool) (hop : op = if neg then .neq else .eql)
    (ho : o.op = .binOp op t x' y' t') (ea : ev st.t x = .v (.bool a)) (eb : ev st.t y = .v (.bool b)) :
    OpOk P sg keep N args w0 c0 Z o st (.v (.bool (if neg then a != b else a == b))) st.m := by
  refine two_ok hx hy ea eb trivial fun ac w e1 e2 sa sb => ?_
  have h1 := run_equalIn_bool' (P := P) (w := w) 9999 t a b hu
  cases neg
  · simp only [Bool.false_eq_true, if_false] at hop
    subst hop
    simp [execOp, ho, e1, e2, run_eqGuard_sc sa, binOp, Op.equal, Op.maxDepth, h1]
  · simp only [if_true] at hop
    subst hop
    simp [execOp, ho, e1, e2, run_eqGuard_sc sa, binOp, Op.equal, Op.maxDepth, h1, bne]
end
end Go.Am
