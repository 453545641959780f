/- AM: a call, whatever is called, in the middle of an activation. Nothing is assumed. -/
import Derived.Test.YtgnicnelpcndgaaAmBack
set_option linter.unusedVariables false
set_option linter.unusedSimpArgs false
namespace Go.Am
def chkOpds (sg : Sigs) : List Opd → List Operand → Bool
  | [], [] => true
  | x :: xs, y :: ys => chkOpd sg x y && chkOpds sg xs ys
  | _, _ => false
/-- The callee, and the modes of its arguments. -/
def chkCallee (sg : Sigs) (f : Opd) (f' : Operand) (modes : List Mode) (n : Nat) : Bool := match f, f' with
  | .f fn, .func fn' => fn == fn' && modes == sg.modes fn n
  | .t i, .tmp j => i == j && modes == List.replicate n .rd
  | _, _ => false
section
variable {X : Nat → Prop} {w w' : World} {Z Z' : Nat → Prop}
theorem ArgsRel.more {ms : List Mode} {is : List I} {vs : List Value} {cin : List Nat} (h : ArgsRel X w Z ms is vs cin) {js : List I} {us : List Value} (h' : IFroL X w Z js us) :
    ArgsRel X w Z (ms ++ List.replicate js.length .rd) (is ++ js) (vs ++ us) cin := by
  induction h with
  | nil =>
    induction js generalizing us with
    | nil => cases h'; exact .nil
    | cons j js ih => cases h' with | cons h h' => exact .rd h (ih h')
  | rd h _ ih => exact .rd h ih
  | own h _ ih => exact .own h ih
  | lent h _ ih => exact .lent h ih
theorem ArgsRel.lengths {ms : List Mode} {is : List I} {vs : List Value} {cin : List Nat} (h : ArgsRel X w Z ms is vs cin) : ms.length = is.length ∧ vs.length = is.length := by
  induction h with
  | nil => simp
  | rd _ _ ih => simp [ih]
  | own _ _ ih => simp [ih]
  | lent _ _ ih => simp [ih]
theorem BackRel.less {ms : List Mode} {k : Nat} {us : List Value} : ∀ {vs : List Value} {is : List I} {c : List Nat}, ms.length = vs.length → BackRel X w (ms ++ List.replicate k .rd) (vs ++ us) is c → BackRel X w ms vs is c := by
  induction ms with
  | nil =>
    intro vs is c hl h
    cases vs with
    | cons => simp at hl
    | nil =>
      suffices is = [] ∧ c = [] by obtain ⟨rfl, rfl⟩ := this; exact .nil
      simp only [List.nil_append] at h
      clear hl
      induction k generalizing us is c with
      | zero => cases h; simp
      | succ k ih => cases h with | rd h => exact ih h
  | cons m ms ih =>
    intro vs is c hl h
    cases vs with
    | nil => simp at hl
    | cons v vs =>
      simp only [List.length_cons, Nat.add_right_cancel_iff] at hl
      cases h with
      | rd h => exact .rd (ih hl h)
      | own h => exact .own (ih hl h)
      | lent h h' => exact .lent h (ih hl h')
end
section
variable {P : Program} {sg : Sigs} {T : Table} {keep : List Nat} {N : Nat} {args : Nat → Value} {w0 : World} {c0 : List Nat} {Z : Nat → Prop}
theorem chkOpds_ok {xs : List Opd} : ∀ {ys : List Operand}, chkOpds sg xs ys = true → ∀ {hs : List Hd} {c : List Nat} {st : St} {a : Act} {w : World}, SInv sg.X keep N args w0 c0 Z hs c st a w →
    ARelL sg.X w Z hs (evs st.t xs) (ys.map a.eval) := by
  induction xs with
  | nil => intro ys h hs c st a w hi; cases ys with
    | nil => exact .nil
    | cons => simp [chkOpds] at h
  | cons x xs ih => intro ys h hs c st a w hi; cases ys with
    | nil => simp [chkOpds] at h
    | cons y ys =>
      simp [chkOpds] at h
      exact .cons (chkOpd_ok h.1 hi) (ih h.2 hi)
/-- A function is run on what is handed over. -/
theorem callOp_ok {R : Type} {r : R} {st : St} {modes : List Mode} {res : List RK} {fn : Nat} {xs : List AV} {more : Mem → Option (List I)} {K : AV → Mem → Option R} (hT : Good P sg T)
    (h : callOp T st.m modes false res fn xs more K = some r) : ∃ av m', K av m' = some r ∧
    ∀ (hs : List Hd) (c : List Nat) (a : Act) (w : World), SInv sg.X keep N args w0 c0 Z hs c st a w → ∀ (vs us : List Value), ARelL sg.X w Z hs xs vs →
      (∀ m1 js, more m1 = some js → sg.modes fn (xs.length + js.length) = modes ++ List.replicate js.length .rd ∧
        ∀ (c' : List Nat) (Z' : Nat → Prop), MemL w Z hs hs m1 c' → (∀ b, Z b → Z' b) → (∀ b ∈ c', Z' b) → IFroL sg.X w Z' js us) →
      CallsF P fn (vs ++ us).toArray w fun e w' => ∃ v, e = .returned v ∧ OpPost sg.X w0 c0 Z hs av m' v w' := by
  unfold callOp at h
  split at h
  · rename_i is m1 hp
    split at h
    · simp at h
    · rename_i js hm
      obtain ⟨o, ho, h⟩ := callT_some h
      obtain ⟨m2, h, gb⟩ := backArgs_ok (X := sg.X) (Z := Z) _ h
      obtain ⟨av, m3, h, go⟩ := outAll_ok (X := sg.X) (Z := Z) h
      refine ⟨av, m3, h, fun hs c a w hin vs us hx hmore => ?_⟩
      obtain ⟨hmod, hmore⟩ := hmore m1 js hm
      obtain ⟨c', cin, q1, q2, q3⟩ := passArgs_ok hp hx hin.mem
      have hc' : ∀ b ∈ c', b ∈ c ∧ b ∉ cin := fun b hb => by
        have h1 := q2 b
        have h2 := hin.win.cnt b
        have h3 := List.count_pos_iff.2 hb
        simp only [List.count_append] at h1
        exact ⟨List.count_pos_iff.1 (by omega), fun h => by have := List.count_pos_iff.2 h; omega⟩
      have hci : ∀ b ∈ cin, b ∈ c := fun b hb => by
        have h1 := q2 b
        have h3 := List.count_pos_iff.2 hb
        simp only [List.count_append] at h1
        exact List.count_pos_iff.1 (by omega)
      let Z' : Nat → Prop := fun b => Z b ∨ b ∈ c'
      have hz : ∀ b, Z b → Z' b := fun b h => .inl h
      have hz' : ∀ b ∈ c', Z' b := fun b h => .inr h
      have ha := (q3 Z' hz hz').more (hmore c' Z' q1 hz hz')
      have hlen := (q3 Z' hz hz').lengths
      have hxl : vs.length = xs.length := hx.length
      have hZ' : ∀ b, Z' b → b < w.heap.size ∧ b ∉ cin := fun b hb => by
        rcases hb with hb | hb
        · have h1 := hin.win.zlt b hb
          have h2 := hin.win.size
          exact ⟨by omega, fun h => hin.win.dis b hb (hci b h)⟩
        · exact ⟨q1.lt b hb, (hc' b hb).2⟩
      have hw : WInv w cin Z' w cin := ⟨fun b => by have h1 := q2 b; have h2 := hin.win.cnt b; simp only [List.count_append] at h1; omega,
        fun b hb => (hZ' b hb).2, hZ', Nat.le_refl _, fun b hb => .inl hb, fun _ _ _ => rfl, Mute.refl w⟩
      have hmod' : sg.modes fn (is ++ js).length = modes ++ List.replicate js.length .rd := by
        rw [List.length_append, ← hlen.2, hxl]; exact hmod
      have hg := hT _ _ _ ho w Z' (vs ++ us) cin (by rw [hmod']; exact ha) hw
      rw [hmod'] at hg
      have post : ∀ e w', (∃ v cres cbk, e = Ending.returned v ∧ IOwn sg.X w' o.res v cres ∧ BackRel sg.X w' (modes ++ List.replicate js.length .rd) (vs ++ us) o.back cbk ∧ WInv w cin Z' w' (cres ++ cbk)) →
          ∃ v, e = Ending.returned v ∧ OpPost sg.X w0 c0 Z hs av m3 v w' := by
        rintro e w' ⟨v, cres, cbk, rfl, o1, o2, o3⟩
        refine ⟨v, rfl, ?_⟩
        have hsame : ∀ b, Z' b → w'.heap[b]? = w.heap[b]? := fun b hb => o3.frame b (hZ' b hb).1 (hZ' b hb).2
        have hm1 : MemL w' Z hs hs m1 c' := q1.frame (fun _ h => h) (fun b hb => hsame b (hz b hb)) (fun b hb => hsame b (hz' b hb)) (Ext.refl _)
        have hbk := BackRel.less (by omega) o2
        obtain ⟨c2, r1, r2⟩ := gb w w' hs c' cbk c vs hin.mem hm1 hx (by simpa using hbk)
        obtain ⟨hs', c3, s1, s2, s3, s4⟩ := go v w' hs c2 cres r1 o1
        have cnt3 : ∀ b, c3.count b ≤ c'.count b + (cres ++ cbk).count b := fun b => by
          have h1 := r2 b
          have h2 := s3 b
          simp only [List.count_append] at *
          omega
        have mem3 : ∀ b ∈ c3, b ∈ c' ∨ b ∈ cres ++ cbk := fun b hb => by
          have h1 := cnt3 b
          have h2 := List.count_pos_iff.2 hb
          by_cases h3 : b ∈ c'
          · exact .inl h3
          · have := List.count_eq_zero.2 h3
            exact .inr (List.count_pos_iff.1 (by omega))
        refine ⟨hs', c3, s1, s2, s4, ⟨fun b => ?_, fun b hb h => ?_, hin.win.zlt, Nat.le_trans hin.win.size o3.size, fun b hb => ?_, fun b hb hn => ?_, hin.win.mute.trans o3.mute⟩⟩
        · have h1 := cnt3 b
          have h2 := o3.cnt b
          have h3 := q2 b
          have h4 := hin.win.cnt b
          simp only [List.count_append] at h3
          by_cases hb : b ∈ c'
          · have := List.count_eq_zero.2 (o3.dis b (hz' b hb))
            omega
          · have := List.count_eq_zero.2 hb
            omega
        · rcases mem3 b h with h | h
          · exact hin.win.dis b hb (hc' b h).1
          · exact o3.dis b (hz b hb) h
        · rcases mem3 b hb with h | h
          · exact hin.win.own b (hc' b h).1
          · rcases o3.own b h with h | h
            · exact hin.win.own b (hci b h)
            · exact .inr (Nat.le_trans hin.win.size h)
        · have hni : b ∉ cin := fun h => by
            rcases hin.win.own b (hci b h) with h | h
            · exact hn h
            · omega
          rw [o3.frame b (Nat.lt_of_lt_of_le hb hin.win.size) hni, hin.win.frame b hb hn]
      rcases hg with ⟨e1, e2⟩ | ⟨v, w', e1, e2⟩
      · exact .inl ⟨e1, e2.mono post⟩
      · exact .inr ⟨v, w', e1, post _ _ e2⟩
  · simp at h
theorem call_run {o : Oper} {a : Act} {w : World} {fn : Nat} {vs : Array Value} {Rr : Value → World → Prop} {next : Act → World → Prop} {Q : Exit → Act → World → Prop}
    (he : (execOp a.eval o).run P w = (callFunc fn vs).run P w) (hc : CallsF P fn vs w fun e w' => ∃ v, e = .returned v ∧ Rr v w') (hn : ∀ v w', Rr v w' → next (a.put o.dst v) w') : o.wp P a w next Q := by
  unfold Oper.wp
  rw [he]
  rcases hc with ⟨e1, e2⟩ | ⟨v, w', e1, v', e2, e3⟩
  · rw [e1]
    rw [Oper.upon_enter]
    exact e2.mono fun e w' ⟨v, h1, h2⟩ => by subst h1; exact hn v w' h2
  · rw [e1]
    cases e2
    exact hn v w' e3
theorem evs_length (t : Tmps) (xs : List Opd) : (evs t xs).length = xs.length := by
  induction xs with
  | nil => rfl
  | cons x xs ih => simp [evs, ih]
theorem call_ok {R : Type} {r : R} {o : Oper} {st : St} {f : Opd} {modes : List Mode} {res : List RK} {xs : List Opd} {f' : Operand} {xs' : Array Operand} {ats : Array TypeId} {K : AV → Mem → Option R} (hT : Good P sg T)
    (hf : chkCallee sg f f' modes xs.length = true) (hx : chkOpds sg xs xs'.toList = true) (ho : o.op = .call ⟨.value f', xs', ats⟩)
    (h : evalOp T st.t st.m (.call f modes false res xs) K = some r) : ∃ av m', K av m' = some r ∧ OpOk P sg keep N args w0 c0 Z o st av m' := by
  unfold chkCallee at hf
  split at hf
  · rename_i fn fn'
    simp only [Bool.and_eq_true, beq_iff_eq] at hf
    obtain ⟨rfl, hf⟩ := hf
    simp only [evalOp, ev] at h
    obtain ⟨av, m', h1, g⟩ := callOp_ok (keep := keep) (N := N) (args := args) (w0 := w0) (c0 := c0) (Z := Z) hT h
    refine ⟨av, m', h1, fun hs c a w hin next Q hnext => ?_⟩
    have := g hs c a w hin _ [] (chkOpds_ok hx hin) (fun m1 js hj => by
      simp only [snapI1s, Option.some.injEq] at hj
      subst hj
      exact ⟨by simp [evs_length, hf], fun _ _ _ _ _ => .nil⟩)
    have e : (List.map a.eval xs'.toList ++ []).toArray = xs'.map a.eval := by apply Array.ext'; simp
    rw [e] at this
    refine call_run (vs := xs'.map a.eval) ?_ this hnext
    simp [execOp, ho, resolve, Act.eval, Deferred.ofValue, invoke]
  · rename_i i j
    simp only [Bool.and_eq_true, beq_iff_eq] at hf
    obtain ⟨rfl, hf⟩ := hf
    have run : ∀ {a : Act} {fn : Nat} {cs : Array Value} {w : World}, a.tmps.getD i undef = .func (.func fn) #[] cs → (execOp a.eval o).run P w = (callFunc fn (xs'.map a.eval ++ cs)).run P w := fun {a fn cs w} hv => by
      have e : a.eval (.tmp i) = .func (.func fn) #[] cs := hv
      simp [execOp, ho, resolve, e, Deferred.ofValue, invoke]
    have modes_eq : ∀ fn k, sg.X fn → sg.modes fn ((evs st.t xs).length + k) = modes ++ List.replicate k .rd := fun fn k hX => by
      have : sg fn = none := hX
      simp [Sigs.modes, this, hf, evs_length, List.replicate_append_replicate]
    simp only [evalOp] at h
    split at h
    · rename_i fn caps he
      obtain ⟨av, m', h1, g⟩ := callOp_ok (keep := keep) (N := N) (args := args) (w0 := w0) (c0 := c0) (Z := Z) hT h
      refine ⟨av, m', h1, fun hs c a w hin next Q hnext => ?_⟩
      have hp : ARel sg.X w Z hs (.f fn caps) (a.tmps.getD i undef) := by
        have := hin.tmp i
        rwa [show st.t i = .f fn caps from he] at this
      generalize hv : a.tmps.getD i undef = u at hp
      cases hp with
      | @f _ _ cs hX hl =>
        have := g hs c a w hin _ cs.toList (chkOpds_ok hx hin) (fun m1 js hj => ⟨modes_eq _ _ hX, fun c' Z' hm hz hc => snapI1s_ok hm hz hc hj hl⟩)
        have e : (List.map a.eval xs'.toList ++ cs.toList).toArray = xs'.map a.eval ++ cs := by apply Array.ext'; simp
        rw [e] at this
        exact call_run (vs := xs'.map a.eval ++ cs) (run hv) this hnext
    · rename_i fn caps he
      obtain ⟨av, m', h1, g⟩ := callOp_ok (keep := keep) (N := N) (args := args) (w0 := w0) (c0 := c0) (Z := Z) hT h
      refine ⟨av, m', h1, fun hs c a w hin next Q hnext => ?_⟩
      have hp : ARel sg.X w Z hs (.ff fn caps) (a.tmps.getD i undef) := by
        have := hin.tmp i
        rwa [show st.t i = .ff fn caps from he] at this
      generalize hv : a.tmps.getD i undef = u at hp
      cases hp with
      | @ff _ _ cs hX hl =>
        have := g hs c a w hin _ cs.toList (chkOpds_ok hx hin) (fun m1 js hj => by
          simp only [Option.some.injEq] at hj
          subst hj
          exact ⟨modes_eq _ _ hX, fun c' Z' hm hz hc => hl.frame hz fun _ _ => rfl⟩)
        have e : (List.map a.eval xs'.toList ++ cs.toList).toArray = xs'.map a.eval ++ cs := by apply Array.ext'; simp
        rw [e] at this
        exact call_run (vs := xs'.map a.eval ++ cs) (run hv) this hnext
    · simp at h
  · simp at hf
end
end Go.Am
