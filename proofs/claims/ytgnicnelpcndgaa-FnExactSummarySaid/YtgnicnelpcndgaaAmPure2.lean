/- AM: more operations that leave the world alone. Nothing is assumed. -/
import Derived.Test.YtgnicnelpcndgaaAmPure
import Derived.Laws.Entries
set_option linter.unusedVariables false
set_option linter.unusedSimpArgs false
namespace Go.Am
section
variable {P : Program} {sg : Sigs} {T : Table} {keep : List Nat} {N : Nat} {args : Nat → Value} {w0 : World} {c0 : List Nat} {Z : Nat → Prop}
theorem run_sizeOf' {t : TypeId} {i : TypeInfo} (h : P.info? t = some i) (w : World) : (sizeOf t).run P w = .ok i.size w := by
  simp [sizeOf, typeInfo, h]
theorem un_ok {R : Type} {r : R} {o : Oper} {st : St} {op : UnOp} {t : TypeId} {x : Opd} {x' : Operand} {a : Value} {K : Value → Option R} (hx : chkOpd sg x x' = true)
    (ho : o.op = .unOp op t x') (ea : ev st.t x = .v a) (h : unV op a K = some r) : ∃ z, K z = some r ∧ OpOk P sg keep N args w0 c0 Z o st (.v z) st.m := by
  unfold unV at h
  split at h
  · rename_i k n
    exact ⟨_, h, two_ok hx hx ea ea trivial fun ac w e1 _ _ _ => by simp [execOp, ho, e1, Op.unary, Op.intArith]⟩
  · rename_i b
    exact ⟨_, h, two_ok hx hx ea ea trivial fun ac w e1 _ _ _ => by simp [execOp, ho, e1, Op.unary]⟩
  · simp at h
theorem pick_ok {o : Oper} {st : St} {c x y : Opd} {c' x' y' : Operand} {b : Bool} (hc : chkOpd sg c c' = true) (hx : chkOpd sg x x' = true) (hy : chkOpd sg y y' = true)
    (ho : o.op = .pick c' x' y') (ec : ev st.t c = .v (.bool b)) : OpOk P sg keep N args w0 c0 Z o st (if b then ev st.t x else ev st.t y) st.m :=
  pure_ok fun hs cc a w hi => by
    have h1 := chkOpd_ok hc hi
    rw [ec] at h1
    have h2 := chkOpd_ok hx hi
    have h3 := chkOpd_ok hy hi
    refine ⟨if b then a.eval x' else a.eval y', by simp [execOp, ho, val_of h1, asBool], ?_⟩
    cases b <;> simpa
theorem ARelL.get {X : Nat → Prop} {w : World} {hs : List Hd} {xs : List AV} {vs : List Value} (h : ARelL X w Z hs xs vs) {i : Nat} {x : AV} (hi : xs[i]? = some x) :
    ∃ v, vs[i]? = some v ∧ ARel X w Z hs x v := by
  induction xs generalizing vs i with
  | nil => simp at hi
  | cons y ys ih => cases h with
    | cons h h' => cases i with
      | zero => simp at hi; subst hi; exact ⟨_, rfl, h⟩
      | succ i => simpa using ih h' (by simpa using hi)
theorem ARelL.length {X : Nat → Prop} {w : World} {hs : List Hd} {xs : List AV} {vs : List Value} (h : ARelL X w Z hs xs vs) : vs.length = xs.length := by
  induction xs generalizing vs with
  | nil => cases h; rfl
  | cons y ys ih => cases h with | cons h h' => simp [ih h']
theorem ARelL.drop {X : Nat → Prop} {w : World} {hs : List Hd} {xs : List AV} {vs : List Value} (h : ARelL X w Z hs xs vs) (k : Nat) : ARelL X w Z hs (xs.drop k) (vs.drop k) := by
  induction k generalizing xs vs with
  | zero => simpa using h
  | succ k ih => cases h with
    | nil => simpa using ARelL.nil
    | cons h h' => simpa using ih h'
theorem ARelL.take {X : Nat → Prop} {w : World} {hs : List Hd} {xs : List AV} {vs : List Value} (h : ARelL X w Z hs xs vs) (k : Nat) : ARelL X w Z hs (xs.take k) (vs.take k) := by
  induction k generalizing xs vs with
  | zero => simpa using ARelL.nil
  | succ k ih => cases h with
    | nil => simpa using ARelL.nil
    | cons h h' => simpa using ARelL.cons h (ih h')
theorem ext_ok {o : Oper} {st : St} {x : Opd} {x' : Operand} {i : Nat} {xs : List AV} {y : AV} (hx : chkOpd sg x x' = true)
    (ho : o.op = .extract x' i) (ea : ev st.t x = .t xs) (hi : xs[i]? = some y) : OpOk P sg keep N args w0 c0 Z o st y st.m :=
  pure_ok fun hs cc a w hin => by
    have h1 := chkOpd_ok hx hin
    rw [ea] at h1
    generalize hv : a.eval x' = u at h1
    cases h1 with
    | @t _ vs h =>
      obtain ⟨v, h2, h3⟩ := h.get hi
      have h4 : vs[i]? = some v := by simpa using h2
      exact ⟨v, by simp [execOp, ho, hv, Instr.extract, h4], h3⟩
theorem fn_ok {o : Oper} {st : St} {f : Nat} {caps : List Opd} {first cs : Array Operand} (hc : chkX sg f = true)
    (hx : ∀ (hs : List Hd) (c : List Nat) (a : Act) (w : World), SInv sg.X keep N args w0 c0 Z hs c st a w → ARelL sg.X w Z hs (evs st.t caps) (cs.map a.eval).toList)
    (hf : first = #[]) (ho : o.op = .makeFunc (.func f) first cs) : OpOk P sg keep N args w0 c0 Z o st (.f f (evs st.t caps)) st.m :=
  pure_ok fun hs cc a w hin => ⟨_, by simp [execOp, ho, hf, Instr.makeFunc], .f (show sg f = none by simpa [chkX] using hc) (hx hs cc a w hin)⟩
theorem len_ok {o : Oper} {st : St} {x : Opd} {x' : Operand} {n : Nat} {str : Bool} {tys : Array TypeId} {t : TypeId} (hx : chkOpd sg x x' = true) (ht : tys[0]? = some t)
    (ho : o.op = .call { callee := .builtin .len, args := #[x'], argTypes := tys })
    (hu : (str = true ∧ P.underlying t = some .string) ∨ (str = false ∧ ∃ e, P.underlying t = some (.slice e)))
    (hn : lenAV str st.m (ev st.t x) = some n) : OpOk P sg keep N args w0 c0 Z o st (.v (.int .i64 n)) st.m :=
  pure_ok fun hs cc a w hin => by
    have h1 := chkOpd_ok hx hin
    refine ⟨.int .i64 n, ?_, .v trivial⟩
    generalize hu' : a.eval x' = u at h1
    generalize ev st.t x = av at h1 hn
    rcases hu with ⟨rfl, hu⟩ | ⟨rfl, e, hu⟩
    · unfold lenAV at hn
      split at hn
      · simp at hn
        subst hn
        cases h1 with
        | v _ => simp [execOp, ho, resolve, invoke, builtin, Builtin.len_, ht, hu', run_underlying hu, goInt]
      all_goals simp_all
    · have key : ∃ base cap, u = .slice base n cap := by
        unfold lenAV at hn
        split at hn
        · simp_all
        · cases h1 with
          | fz h => cases h with
            | z => simp at hn; subst hn; exact ⟨_, _, rfl⟩
            | s => simp at hn; subst hn; exact ⟨_, _, rfl⟩
        · cases h1 with | o => simp at hn; subst hn; exact ⟨_, _, rfl⟩
        · cases h1 with
          | r hh =>
            split at hn
            · rename_i nd hnd
              obtain ⟨hd, c1, cn, c2, e1, e2, e3, _, e5, _⟩ := hin.mem.at hnd
              rw [e1] at hh
              cases hh
              simp at hn
              subst hn
              rw [e3.len]
              exact ⟨_, _, rfl⟩
            · simp at hn
        · simp at hn
      obtain ⟨base, cap, e1⟩ := key
      subst e1
      simp [execOp, ho, resolve, invoke, builtin, Builtin.len_, ht, hu', run_underlying hu, goInt]
theorem mx_ok {o : Oper} {st : St} {x y : Opd} {x' y' : Operand} {k : IntKind} {a b : Int} {tys : Array TypeId} (hx : chkOpd sg x x' = true) (hy : chkOpd sg y y' = true)
    (ho : o.op = .call { callee := .builtin .max, args := #[x', y'], argTypes := tys }) (ea : ev st.t x = .v (.int k a)) (eb : ev st.t y = .v (.int k b)) :
    OpOk P sg keep N args w0 c0 Z o st (.v (.int k (bif decide (b > a) then b else a))) st.m :=
  two_ok hx hy ea eb trivial fun ac w e1 e2 _ _ => by
    simp [execOp, ho, resolve, invoke, builtin, Builtin.max_, e1, e2, Builtin.max2]
theorem conv_int_ok {o : Oper} {st : St} {x : Opd} {x' : Operand} {k k' : IntKind} {n : Int} {src dst : TypeId} {d : TypeDesc} (hx : chkOpd sg x x' = true)
    (hs : P.underlying src = some d) (hd : P.underlying dst = some (.int k)) (ho : o.op = .convert src dst x') (ea : ev st.t x = .v (.int k' n)) :
    OpOk P sg keep N args w0 c0 Z o st (.v (.int k (k.wrap n))) st.m :=
  two_ok hx hx ea ea trivial fun ac w e1 _ _ _ => by
    simp [execOp, ho, e1, convert, run_underlying hs, run_underlying hd, Conv.intToInt]
theorem conv_str_ok {o : Oper} {st : St} {x : Opd} {x' : Operand} {s : ByteArray} {src dst : TypeId} (hx : chkOpd sg x x' = true)
    (hs : P.underlying src = some .string) (hd : P.underlying dst = some .string) (ho : o.op = .convert src dst x') (ea : ev st.t x = .v (.string s)) :
    OpOk P sg keep N args w0 c0 Z o st (.v (.string s)) st.m :=
  two_ok hx hx ea ea trivial fun ac w e1 _ _ _ => by
    simp [execOp, ho, e1, convert, run_underlying hs, run_underlying hd]
theorem conv_intStr_ok {o : Oper} {st : St} {x : Opd} {x' : Operand} {k k' : IntKind} {n : Int} {src dst : TypeId} (hx : chkOpd sg x x' = true)
    (hs : P.underlying src = some (.int k')) (hd : P.underlying dst = some .string) (ho : o.op = .convert src dst x') (ea : ev st.t x = .v (.int k n)) :
    OpOk P sg keep N args w0 c0 Z o st (.v (.string (Utf8.encode n))) st.m :=
  two_ok hx hx ea ea trivial fun ac w e1 _ _ _ => by
    simp [execOp, ho, e1, convert, run_underlying hs, run_underlying hd, Conv.intToString]
theorem addr_add (b off n : Nat) : (⟨b, off, none⟩ : Addr).add n = ⟨b, off + n, none⟩ := by
  unfold Addr.add
  split
  · rename_i h; subst h; rfl
  · rfl
theorem Holds.drop {w : World} {b off : Nat} {vs : List Value} (h : Holds w b off vs) (k : Nat) : Holds w b (off + k) (vs.drop k) := by
  obtain ⟨cs, e, f, h1, h2⟩ := h
  refine ⟨cs, e, f, h1, fun j v hj => ?_⟩
  rw [List.getElem?_drop] at hj
  have := h2 _ _ hj
  rwa [show off + k + j = off + (k + j) by omega]
theorem fad_ok {o : Oper} {st : St} {x : Opd} {x' : Operand} {s : TypeId} {f off : Nat} {fs : Array Field} {fd : Field} {ti : TypeInfo} {av : AV} (hx : chkOpd sg x x' = true)
    (hu : P.underlying s = some (.struct fs)) (hf : fs[f]? = some fd) (hi : P.info? fd.type = some ti) (hz : ti.size ≠ 0) (hoff : fd.offset = off)
    (ho : o.op = .fieldAddr s x' f)
    (hav : (∃ id i c, ev st.t x = .a id i c ∧ av = .a id i (c + off)) ∨ (∃ row c, ev st.t x = .fa row c ∧ av = .fa row (c + off))) :
    OpOk P sg keep N args w0 c0 Z o st av st.m :=
  pure_ok fun hs cc a w hin => by
    have h1 := chkOpd_ok hx hin
    generalize hv : a.eval x' = u at h1
    have run : ∀ b o2, u = .pointer (some ⟨b, o2, none⟩) → (execOp a.eval o).run P w = .ok (.value (.pointer (some ⟨b, o2 + off, none⟩))) w := by
      intro b o2 e
      subst e
      simp [execOp, ho, hv, Instr.fieldAt, run_underlying hu, hf, Instr.sureAddr, fieldPlace, run_sizeOf' hi, hz, hoff, addr_add]
    rcases hav with ⟨id, i, c, e, rfl⟩ | ⟨row, c, e, rfl⟩
    · rw [e] at h1
      cases h1 with
      | @a _ _ _ b off' h hh hb hil =>
        refine ⟨_, run _ _ rfl, ?_⟩
        have := ARel.a (X := sg.X) (w := w) (Z := Z) (c := c + off) hh hb hil
        rwa [← Nat.add_assoc] at this
    · rw [e] at h1
      cases h1 with
      | @fa _ _ b off' vs hzb hh h =>
        refine ⟨_, run _ _ rfl, .fa hzb (hh.drop off) ?_⟩
        have := h.drop off
        rwa [List.drop_drop] at this
end
end Go.Am
