/- AM: structs and arrays of parts, slices of parts. Nothing is assumed. -/
import Derived.Test.YtgnicnelpcndgaaAmCall
set_option linter.unusedVariables false
set_option linter.unusedSimpArgs false
namespace Go.Am
theorem fold_set (off : Nat) (l : List Value) : ∀ (k : Nat) (cells : Array Value), off + k + l.length ≤ cells.size →
    ((l.zipIdx k).foldl (fun cs x => cs.setIfInBounds (off + x.2) x.1) cells).toList = cells.toList.take (off + k) ++ l ++ cells.toList.drop (off + k + l.length) := by
  induction l with
  | nil => intro k cells _; simp
  | cons v l ih =>
    intro k cells h
    simp only [List.zipIdx_cons, List.foldl_cons]
    simp only [List.length_cons] at h
    rw [ih (k + 1) _ (by simp; omega)]
    have hk : off + k < cells.toList.length := by simp; omega
    simp only [Array.toList_setIfInBounds]
    have e1 : (cells.toList.set (off + k) v).take (off + (k + 1)) = cells.toList.take (off + k) ++ [v] := by
      rw [← Nat.add_assoc, List.take_add_one, List.take_set_of_le (Nat.le_refl _)]
      rw [List.getElem?_set_self hk]
      rfl
    have e2 : (cells.toList.set (off + k) v).drop (off + (k + 1) + l.length) = cells.toList.drop (off + k + (v :: l).length) := by
      rw [List.drop_set_of_lt (by omega)]
      congr 1
      simp; omega
    rw [e1, e2]
    simp
theorem fill_one {place : Nat → Option (Nat × Nat)} {cells : Array Value} {i off size : Nat} {v : Value} {l : List (Nat × Value)} (hp : place i = some (off, size)) (hs : v.cells.size = size) (hb : off + size ≤ cells.size) :
    Instr.fill place cells ((i, v) :: l) = Instr.fill place (cells.toList.take off ++ v.cells.toList ++ cells.toList.drop (off + size)).toArray l := by
  have e : v.cells.zipIdx.foldl (fun cs x => cs.setIfInBounds (off + x.2) x.1) cells = (cells.toList.take off ++ v.cells.toList ++ cells.toList.drop (off + size)).toArray := by
    apply Array.ext'
    rw [← Array.foldl_toList, Array.toList_zipIdx, fold_set off v.cells.toList 0 cells (by simpa [hs] using hb)]
    simp [hs]
  have hn : ¬ ((decide (v.cells.size ≠ size) || decide (off + v.cells.size > cells.size)) = true) := by simp; omega
  simp only [Instr.fill, hp]
  rw [if_neg hn, ← e]
section
variable {P : Program} {sg : Sigs} {T : Table} {keep : List Nat} {N : Nat} {args : Nat → Value} {w0 : World} {c0 : List Nat} {Z : Nat → Prop}
/-- The parts, and where each goes. -/
def chkParts (sg : Sigs) (place : Nat → Option (Nat × Nat)) : List (Nat × Nat × Opd) → List (Nat × Operand) → Bool
  | [], [] => true
  | (off, size, x) :: l, (i, y) :: l' => place i == some (off, size) && chkOpd sg x y && chkParts sg place l l'
  | _, _ => false
theorem ARelL.append {X : Nat → Prop} {w : World} {hs : List Hd} {xs ys : List AV} {vs us : List Value} (h : ARelL X w Z hs xs vs) (h' : ARelL X w Z hs ys us) : ARelL X w Z hs (xs ++ ys) (vs ++ us) := by
  induction xs generalizing vs with
  | nil => cases h; simpa using h'
  | cons d ds ih => cases h with | cons h h1 => simpa using ARelL.cons h (ih h1)
theorem parts_ok {place : Nat → Option (Nat × Nat)} {hs : List Hd} {c : List Nat} {st : St} {a : Act} {w : World} (hin : SInv sg.X keep N args w0 c0 Z hs c st a w) (ps : List (Nat × Nat × Opd)) :
    ∀ {ps' : List (Nat × Operand)} {xs ys : List AV} {cells : Array Value}, chkParts sg place ps ps' = true → setParts xs st.t ps = some ys → ARelL sg.X w Z hs xs cells.toList →
    ∃ cells', Instr.fill place cells (ps'.map fun (i, x) => (i, a.eval x)) = some cells' ∧ ARelL sg.X w Z hs ys cells'.toList := by
  induction ps with
  | nil =>
    intro ps' xs ys cells hc h hx
    cases ps' with
    | cons => simp [chkParts] at hc
    | nil =>
      simp only [setParts, Option.some.injEq] at h
      subst h
      exact ⟨cells, rfl, hx⟩
  | cons p ps ih =>
    intro ps' xs ys cells hc h hx
    obtain ⟨off, size, x⟩ := p
    cases ps' with
    | nil => simp [chkParts] at hc
    | cons p' ps' =>
      obtain ⟨i, y⟩ := p'
      simp only [chkParts, Bool.and_eq_true, beq_iff_eq] at hc
      obtain ⟨⟨hp, hy⟩, hc⟩ := hc
      simp only [setParts] at h
      split at h
      · rename_i cs ec
        cases hb : (Nat.beq cs.length size && Nat.ble (off + cs.length) xs.length) with
        | false => simp [hb] at h
        | true =>
          simp only [hb, cond_true] at h
          simp only [Bool.and_eq_true] at hb
          have h1 := Nat.eq_of_beq_eq_true hb.1
          have h2 := Nat.le_of_ble_eq_true hb.2
          have hcs := cellsOf_ok ec (chkOpd_ok hy hin)
          have hl1 := hcs.length
          have hl2 := hx.length
          simp only [Array.length_toList] at hl1 hl2
          simp only [List.map_cons]
          rw [fill_one hp (by omega) (by omega)]
          refine ih hc h ?_
          unfold setL
          simp only [h1]
          exact ((hx.take off).append hcs).append (hx.drop (off + size))
      · simp at h
theorem chkZ_arel {X : Nat → Prop} {w : World} {hs : List Hd} {ds : List D} : ∀ {vs : List Value}, chkZ ds vs = true → ARelL X w Z hs (ds.map D.up) vs := by
  induction ds with
  | nil => intro vs h; cases vs with
    | nil => exact .nil
    | cons => simp [chkZ] at h
  | cons d ds ih =>
    intro vs h
    cases vs with
    | nil => cases d with
      | v x => simp [chkZ] at h
      | s wd rows => cases rows <;> simp [chkZ] at h
    | cons v vs => cases d with
      | v x => simp [chkZ] at h; exact .cons (chkV_ok h.1) (ih h.2)
      | s wd rows =>
        unfold chkZ at h
        split at h
        · simp at *
        · simp at *
        · rename_i e1 e2; cases e1; cases e2; exact .cons .o (ih h)
        · simp at h
/-- Where the fields of a struct go. -/
def fieldPlace (P : Program) (fs : Array Field) (i : Nat) : Option (Nat × Nat) := (fs[i]?).bind fun f => (P.info? f.type).map fun ti => (f.offset, ti.size)
theorem run_places {w : World} (fs : List Field) (h : fs.all (fun f => (P.info? f.type).isSome) = true) :
    ∃ l, (fs.mapM fun f => (do pure (f.offset, ← sizeOf f.type) : Sem (Nat × Nat))).run P w = .ok l w ∧ l = fs.map (fun f => (f.offset, ((P.info? f.type).map (·.size)).getD 0)) := by
  induction fs with
  | nil => exact ⟨[], by simp, rfl⟩
  | cons f fs ih =>
    simp only [List.all_cons, Bool.and_eq_true] at h
    obtain ⟨l, h1, h2⟩ := ih h.2
    obtain ⟨ti, hti⟩ := Option.isSome_iff_exists.1 h.1
    subst h2
    refine ⟨_, ?_, rfl⟩
    simp only [List.mapM_cons, Sem.run_bind, run_sizeOf' hti, Result.andThen_ok, h1, Sem.run_pure, List.map_cons, hti, Option.map_some, Option.getD_some]
theorem build_ok {R : Type} {r : R} {o : Oper} {st : St} {t : TypeId} {ti : TypeInfo} {z : Value} {zero : Row} {ps : List (Nat × Nat × Opd)} {ps' : Array (Nat × Operand)} {K : AV → Mem → Option R} {place : Nat → Option (Nat × Nat)}
    (hi : P.info? t = some ti) (hz : ti.zero = some z) (hc : chkZ zero z.cells.toList = true) (hp : chkParts sg place ps ps'.toList = true)
    (hu : (∃ fs, P.underlying t = some (.struct fs) ∧ fs.toList.all (fun f => (P.info? f.type).isSome) = true ∧ place = fieldPlace P fs) ∨
      ∃ n e te, P.underlying t = some (.array n e) ∧ P.info? e = some te ∧ place = fun i => some (i * te.size, te.size)) (ho : o.op = .build t ps')
    (h : evalOp T st.t st.m (.build zero ps) K = some r) : ∃ av m', K av m' = some r ∧ OpOk P sg keep N args w0 c0 Z o st av m' := by
  simp only [evalOp] at h
  split at h
  · rename_i xs hs'
    refine ⟨_, _, h, pure_ok fun hs c a w hin => ?_⟩
    obtain ⟨cells', e1, e2⟩ := parts_ok hin ps hp hs' (chkZ_arel hc)
    refine ⟨.agg cells', ?_, .g e2⟩
    have hrun : (Instr.build t (ps'.map fun (i, x) => (i, a.eval x))).run P w = .ok (.agg cells') w := by
      have e3 : (ps'.map fun (i, x) => (i, a.eval x)).toList = ps'.toList.map fun (i, x) => (i, a.eval x) := by simp
      rcases hu with ⟨fs, hu, hall, rfl⟩ | ⟨n, e, te, hu, he, rfl⟩
      · obtain ⟨l, h1, h2⟩ := run_places (P := P) (w := w) fs.toList hall
        have h3 : (fun i => (l.toArray)[i]?) = fieldPlace P fs := by
          funext i
          subst h2
          simp only [fieldPlace, List.getElem?_toArray, List.getElem?_map, Array.getElem?_toList]
          cases hf : fs[i]? with
          | none => rfl
          | some f =>
            have : f ∈ fs.toList := by
              rw [← Array.getElem?_toList] at hf
              exact List.mem_of_getElem? hf
            obtain ⟨ti, hti⟩ := Option.isSome_iff_exists.1 (List.all_eq_true.1 hall f this)
            simp [hti]
        have h4 : (fs.mapM fun f => (do pure (f.offset, ← sizeOf f.type) : Sem (Nat × Nat))).run P w = .ok l.toArray w := by
          have : fs = fs.toList.toArray := by simp
          rw [this, List.mapM_toArray]
          simp only [map_eq_pure_bind, Sem.run_bind, h1, Result.andThen_ok, Sem.run_pure]
        simp only [Instr.build, Sem.run_bind, run_zeroValue hi hz, Result.andThen_ok, run_underlying hu, h4, h3, e3, e1, Sem.run_pure]
      · simp only [Instr.build, Sem.run_bind, run_zeroValue hi hz, Result.andThen_ok, run_underlying hu, run_sizeOf' he, e3, e1, Sem.run_pure]
    simp [execOp, ho, hrun]
  · simp at h
end
end Go.Am
