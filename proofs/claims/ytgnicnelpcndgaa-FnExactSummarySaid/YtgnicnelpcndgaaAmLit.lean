/- AM: a slice of parts. Nothing is assumed. -/
import Derived.Test.YtgnicnelpcndgaaAmBuild
set_option linter.unusedVariables false
set_option linter.unusedSimpArgs false
namespace Go.Am
section
variable {P : Program} {sg : Sigs} {T : Table} {keep : List Nat} {N : Nat} {args : Nat → Value} {w0 : World} {c0 : List Nat} {Z : Nat → Prop}
structure NInv (n : Node) : Prop where
  rows : ∀ r ∈ n.rows, r.length = n.wd
  opens : ∀ e ∈ n.opens, e.1.1 < n.rows.length ∧ e.1.2 < n.wd
  keys : n.opens.Pairwise fun e e' => e.1 ≠ e'.1
  kind : ∀ e ∈ n.opens, (∃ id, e.2 = .r id) ∨ ∃ wd rows, e.2 = .fz wd rows
theorem set_take (vs us : List Value) (v : Value) (k : Nat) (hk : k < vs.length) : (vs.set k v).take (k + 1) ++ us ++ (vs.set k v).drop (k + 1 + us.length) = vs.take k ++ (v :: us) ++ vs.drop (k + (v :: us).length) := by
  have e1 : (vs.set k v).take (k + 1) = vs.take k ++ [v] := by
    rw [List.take_add_one, List.take_set_of_le (Nat.le_refl _), List.getElem?_set_self hk]
    rfl
  have e2 : (vs.set k v).drop (k + 1 + us.length) = vs.drop (k + (v :: us).length) := by
    rw [List.drop_set_of_lt (by omega)]
    congr 1
    simp; omega
  rw [e1, e2]
  simp
theorem setCells_pure {X : Nat → Prop} {w : World} {hs : List Hd} (xs : List AV) : ∀ {n n' : Node} {i c : Nat} {vs us : List Value}, setCells n i c xs = some n' → NInv n → i < n.rows.length →
    CRelL w Z hs n.view vs [] → ARelL X w Z hs xs us → NInv n' ∧ n'.wd = n.wd ∧ n'.rows.length = n.rows.length ∧ (CRelL w Z hs n'.view (vs.take (i * n.wd + c) ++ us ++ vs.drop (i * n.wd + c + us.length)) []) := by
  induction xs with
  | nil =>
    intro n n' i c vs us h hn hi hv hx
    simp only [setCells, Option.some.injEq] at h
    subst h
    cases hx
    exact ⟨hn, rfl, rfl, by simpa using hv⟩
  | cons x xs ih =>
    intro n n' i c vs us h hn hi hv hx
    cases hx with
    | @cons _ _ v us hx hx' =>
      simp only [setCells] at h
      split at h
      · rename_i d o hci
        cases hlt : Nat.blt c n.wd with
        | false => simp [hlt] at h
        | true =>
          simp only [hlt, cond_true] at h
          have hcw : c < n.wd := Nat.blt_eq.mp hlt
          obtain ⟨hcr, hkind⟩ := cellIn_ok hci hx
          have hrow : n.rows[i]? = some n.rows[i] := List.getElem?_eq_getElem hi
          have hlen : (n.rows[i]).length = n.wd := hn.rows _ (List.getElem_mem hi)
          have hcell : (n.rows[i])[c]? = some (n.rows[i])[c] := List.getElem?_eq_getElem (by rw [hlen]; exact hcw)
          obtain ⟨u, a1, ak, a2, g1, g2, g3, g4⟩ := hv.at (view_get hn.rows hcw hrow hcell)
          obtain ⟨e1, e2⟩ := List.append_eq_nil_iff.1 g3.symm
          obtain ⟨e1, _⟩ := List.append_eq_nil_iff.1 e1
          have g5 := g4 _ _ _ hcr
          rw [← view_set hn.rows hi hcw d o, e1, e2] at g5
          obtain ⟨r1, r2, r3, r4⟩ := ih (vs := vs.set (i * n.wd + c) v) h ⟨setD_wd hn.rows i c d, fun e he => by
              simp only [setD_length]
              rcases addO_mem he with ⟨h1, _⟩ | ⟨h1, _⟩
              · rw [h1]; exact ⟨hi, hcw⟩
              · exact hn.opens e h1, addO_keys hn.keys, fun e he => by
              rcases addO_mem he with ⟨_, h2⟩ | ⟨h1, _⟩
              · exact hkind _ h2
              · exact hn.kind e h1⟩ (by simpa [setD_length] using hi) (by simpa using g5) hx'
          refine ⟨r1, r2, by simpa [setD_length] using r3, ?_⟩
          have := set_take vs us v (i * n.wd + c) (List.getElem?_eq_some_iff.1 g1).1
          rw [← this]
          exact r4
      · simp at h
def chkLits (sg : Sigs) : List (Nat × Opd) → List (Nat × Operand) → Bool
  | [], [] => true
  | (i, x) :: l, (i', y) :: l' => i == i' && chkOpd sg x y && chkLits sg l l'
  | _, _ => false
theorem lits_ok {hs : List Hd} {c : List Nat} {st : St} {a : Act} {w : World} (hin : SInv sg.X keep N args w0 c0 Z hs c st a w) (ps : List (Nat × Opd)) :
    ∀ {ps' : List (Nat × Operand)} {n n' : Node} {cells : Array Value}, chkLits sg ps ps' = true → litParts n st.t ps = some n' → NInv n → CRelL w Z hs n.view cells.toList [] →
    ∃ cells', Instr.fill (fun i => some (i * n.wd, n.wd)) cells (ps'.map fun (i, x) => (i, a.eval x)) = some cells' ∧ NInv n' ∧ n'.wd = n.wd ∧ n'.rows.length = n.rows.length ∧ CRelL w Z hs n'.view cells'.toList [] := by
  induction ps with
  | nil =>
    intro ps' n n' cells hc h hn hv
    cases ps' with
    | cons => simp [chkLits] at hc
    | nil =>
      simp only [litParts, Option.some.injEq] at h
      subst h
      exact ⟨cells, rfl, hn, rfl, rfl, hv⟩
  | cons p ps ih =>
    intro ps' n n' cells hc h hn hv
    obtain ⟨i, x⟩ := p
    cases ps' with
    | nil => simp [chkLits] at hc
    | cons p' ps' =>
      obtain ⟨i', y⟩ := p'
      simp only [chkLits, Bool.and_eq_true, beq_iff_eq] at hc
      obtain ⟨⟨rfl, hy⟩, hc⟩ := hc
      simp only [litParts] at h
      split at h
      · rename_i cs ec
        cases hb : (Nat.beq cs.length n.wd && Nat.blt i n.rows.length) with
        | false => simp [hb] at h
        | true =>
          simp only [hb, cond_true] at h
          simp only [Bool.and_eq_true] at hb
          have h1 := Nat.eq_of_beq_eq_true hb.1
          have h2 : i < n.rows.length := Nat.blt_eq.mp hb.2
          split at h
          · rename_i n2 hn2
            have hcs := cellsOf_ok ec (chkOpd_ok hy hin)
            have hl1 := hcs.length
            have hl2 := hv.length
            simp only [Array.length_toList] at hl1 hl2
            unfold Node.view at hl2
            rw [viewRows_length _ n.wd _ hn.rows 0] at hl2
            have hle : i * n.wd + n.wd ≤ n.rows.length * n.wd := by rw [← Nat.succ_mul]; exact Nat.mul_le_mul_right _ h2
            obtain ⟨r1, r2, r3, r4⟩ := setCells_pure cs hn2 hn h2 hv hcs
            simp only [Nat.add_zero, Array.length_toList, hl1, h1] at r4
            have := ih (cells := (cells.toList.take (i * n.wd) ++ (a.eval y).cells.toList ++ cells.toList.drop (i * n.wd + n.wd)).toArray) hc h r1 (by simpa using r4)
            rw [r2, r3] at this
            obtain ⟨cells', s1, s2, s3, s4, s5⟩ := this
            refine ⟨cells', ?_, s2, s3, s4, s5⟩
            simp only [List.map_cons]
            rw [fill_one (off := i * n.wd) (size := n.wd) rfl (by omega) (by omega)]
            exact s1
          · simp at h
      · simp at h
theorem rep_array (len : Nat) (z : Array Value) (hz : len * z.size ≠ 0) : ((Array.range (len * z.size)).map (fun i => z[i % z.size]!)).toList = (List.replicate len z.toList).flatten := by
  apply List.ext_getElem?
  intro k
  by_cases hk : k < len * z.size
  · have hl : k < (List.replicate len z.toList).flatten.length := by simpa using hk
    have h1 := List.getElem?_eq_getElem hl
    rw [h1]
    have h2 := rep_get _ _ _ _ h1
    have hpos : 0 < z.size := Nat.pos_of_ne_zero fun h => by simp [h] at hz
    have h3 : k % z.size < z.size := Nat.mod_lt _ hpos
    simp only [Array.length_toList, Array.getElem?_toList] at h2
    simp only [Array.toList_map, List.getElem?_map, Array.getElem?_toList, Array.getElem?_range, hk, if_true, Option.map_some]
    rw [getElem!_def, h2]
  · have hl : ¬ k < (List.replicate len z.toList).flatten.length := by simpa using hk
    rw [List.getElem?_eq_none (by simpa using hk), List.getElem?_eq_none (by simpa using hk)]
theorem rows_rel {w : World} {hs : List Hd} {zs : List Value} {rows : Rows} (h : ∀ r ∈ rows, chkZ r zs = true) : CRelL w Z hs (rows.flatten.map D.up) (List.replicate rows.length zs).flatten [] := by
  induction rows with
  | nil => exact .nil
  | cons r rs ih => simpa [List.replicate_succ] using (chkZ_ok (h r (by simp))).append (ih fun r h' => h r (by simp [h']))
theorem lit_ok {R : Type} {r : R} {o : Oper} {st : St} {t e : TypeId} {ti : TypeInfo} {z : Value} {wd len : Nat} {rows : Rows} {ps : List (Nat × Opd)} {ps' : Array (Nat × Operand)} {K : AV → Mem → Option R}
    (hu : P.underlying t = some (.slice e)) (hi : P.info? e = some ti) (hz : ti.zero = some z) (hs : ti.size = wd) (hlen : z.cells.size = wd)
    (hr : ∀ r ∈ rows, chkZ r z.cells.toList = true ∧ r.length = wd) (hrl : rows.length = len) (hb : len * wd ≤ 2 ^ 24) (hp : chkLits sg ps ps'.toList = true) (ho : o.op = .buildSlice t len ps')
    (h : evalOp T st.t st.m (.lit wd rows ps) K = some r) : ∃ av m', K av m' = some r ∧ OpOk P sg keep N args w0 c0 Z o st av m' := by
  simp only [evalOp] at h
  split at h
  · subst hrl
    cases ps' with
    | mk l =>
      cases l with
      | cons x l => obtain ⟨i, y⟩ := x; simp [chkLits] at hp
      | nil =>
        refine ⟨_, _, h, fun hs' cc a w hin next Q hnext => ?_⟩
        have hrun : (execOp a.eval o).run P w = .ok (.value (.slice (some ⟨w.heap.size, 0, none⟩) 0 0)) { w with heap := w.heap.push (.cells #[] e) } := by
          have hmap : ∀ f : Nat → Value, Array.map f (Array.range 0) = #[] := fun f => by simp
          simp [execOp, ho, Instr.buildSlice, run_underlying hu, run_sizeOf' hi, Instr.fill, newRow, newObj, Sem.run]
          rw [hmap]
        unfold Oper.wp
        rw [hrun]
        have hlt := hin.mem.lt
        have hheap : ({ w with heap := w.heap.push (.cells #[] e) } : World).heap = w.heap.push (.cells #[] e) := rfl
        obtain ⟨p1, p2, p3⟩ := push_get hheap
        have hz : ∀ b, Z b → ({ w with heap := w.heap.push (.cells #[] e) } : World).heap[b]? = w.heap[b]? := fun b hb => p1 b (by have := hin.win.zlt b hb; have := hin.win.size; omega)
        refine hnext _ _ ⟨hs', cc, Ext.refl _, hin.mem.frame (fun _ h => h) hz (fun b hb => p1 b (hlt b hb)) (Ext.refl _), .o, (hin.win.push hlt hheap).less fun b => by simp only [List.count_append]; omega⟩
  split at h
  · rename_i n hn
    refine ⟨_, _, h, fun hs' cc a w hin next Q hnext => ?_⟩
    generalize hcells : (Array.range (len * wd)).map (fun i => (if len * wd = 0 then #[] else z.cells)[i % (if len * wd = 0 then (#[] : Array Value) else z.cells).size]!) = cells
    have hl : cells.toList = (List.replicate len z.cells.toList).flatten := by
      by_cases h0 : len * wd = 0
      · rw [← hcells]
        have : (List.replicate len z.cells.toList).flatten.length = 0 := by simp [hlen, h0]
        rw [List.length_eq_zero_iff.1 this]
        simp [h0]
      · rw [← hcells]
        simp only [h0, if_false]
        have := rep_array len z.cells (by rw [hlen]; exact h0)
        rw [hlen] at this
        rw [← this, hlen]
    have hinit : NInv ⟨wd, rows, []⟩ := ⟨fun r hr' => (hr r hr').2, by simp, by simp, by simp⟩
    have hview : CRelL w Z hs' (Node.mk wd rows []).view cells.toList [] := by
      rw [hl, ← hrl]
      show CRelL w Z hs' (viewRows [] 0 _) _ []
      rw [viewRows_nil]
      exact rows_rel fun r h => (hr r h).1
    obtain ⟨cells', f1, f2, f3, f4, f5⟩ := lits_ok hin ps hp hn hinit hview
    simp only at f1 f3 f4
    have hsz : cells'.size = len * wd := by
      have := f5.length
      unfold Node.view at this
      rw [viewRows_length _ _ _ f2.rows 0, f3, f4, hrl] at this
      simpa using this
    obtain ⟨hs2, c2, q1, q2, q3, q4⟩ := new_ok (w' := { w with heap := w.heap.push (.cells cells' e) }) (e := e) (cells := cells') (cap := len) hin (n := n)
      (vals := cells'.toList) rfl (by rw [hsz, f3]; exact Nat.le_refl _) (by rw [f4, hrl]; exact Nat.le_refl _) (fun k v h => by simpa using h) f2.rows f2.opens f2.keys f2.kind f5
    have hrun : (execOp a.eval o).run P w = .ok (.value (.slice (some ⟨w.heap.size, 0, none⟩) len len)) { w with heap := w.heap.push (.cells cells' e) } := by
      have hbig : ¬ (len * wd > 2 ^ 24) := by omega
      have e3 : (ps'.map fun (i, x) => (i, a.eval x)).toList = ps'.toList.map fun (i, x) => (i, a.eval x) := by simp
      by_cases h0 : len * wd = 0
      · have hce : cells = #[] := by
          rw [← hcells]
          simp [h0]
        rw [hce] at f1
        have hmap : ∀ f : Nat → Value, Array.map f (Array.range 0) = #[] := fun f => by simp
        simp only [execOp, ho, Instr.buildSlice, Sem.run_bind, run_underlying hu, Result.andThen_ok, run_sizeOf' hi, hs, hbig, h0, if_true, if_false, Sem.run_pure, e3, hmap, f1]
        simp [newRow, newObj, Sem.run, f1]
      · simp only [h0, if_false] at hcells
        simp only [execOp, ho, Instr.buildSlice, Sem.run_bind, run_underlying hu, Result.andThen_ok, run_sizeOf' hi, hs, hbig, h0, if_false, Sem.run_pure, run_zeroValue hi hz, e3]
        simp only [hcells, f1]
        simp [newRow, newObj, Sem.run]
    unfold Oper.wp
    rw [hrun]
    refine hnext _ _ ⟨hs2, c2, q1, q2, ?_, q4⟩
    have := ARel.r (X := sg.X) (w := { w with heap := w.heap.push (.cells cells' e) }) (Z := Z) q3
    simpa [f4, hrl] using this
  · simp at h
end
end Go.Am
