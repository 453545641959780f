/- AM: the operations that make new variables and arrays. Nothing is assumed. -/
import Derived.Test.YtgnicnelpcndgaaAmNew
set_option linter.unusedVariables false
set_option linter.unusedSimpArgs false
namespace Go.Am
section
variable {P : Program} {sg : Sigs} {T : Table} {keep : List Nat} {N : Nat} {args : Nat → Value} {w0 : World} {c0 : List Nat} {Z : Nat → Prop}
theorem boxable_ok {X : Nat → Prop} {w : World} {hs : List Hd} {xs : List AV} : ∀ {vs : List Value}, boxable xs = true → ARelL X w Z hs xs vs → (∀ x ∈ xs, CellK x) ∧ CRelL w Z hs xs vs [] := by
  induction xs with
  | nil => intro vs _ h; cases h; exact ⟨by simp, .nil⟩
  | cons x xs ih =>
    intro vs hb h
    cases h with
    | @cons _ _ v vs h h' =>
      have key : boxable xs = true → CellK x → CRel w Z hs x v [] → (∀ y ∈ x :: xs, CellK y) ∧ CRelL w Z hs (x :: xs) (v :: vs) [] := by
        intro h1 h2 h3
        obtain ⟨g1, g2⟩ := ih h1 h'
        refine ⟨fun y hy => ?_, by simpa using CRelL.cons h3 g2⟩
        rcases List.mem_cons.1 hy with rfl | hy
        · exact h2
        · exact g1 y hy
      cases h with
      | v h => exact key (by simpa [boxable] using hb) trivial (.v h)
      | o => exact key (by simpa [boxable] using hb) trivial (.o .z)
      | fz h => exact key (by simpa [boxable] using hb) trivial (.fz h)
      | r h => exact key (by simpa [boxable] using hb) trivial (.r h)
      | _ => simp [boxable] at hb
theorem box_ok {R : Type} {r : R} {o : Oper} {st : St} {x : Opd} {x' : Operand} {t : TypeId} {K : AV → Mem → Option R} (hx : chkOpd sg x x' = true) (ho : o.op = .box t x')
    (h : evalOp T st.t st.m (.box x) K = some r) : ∃ av m', K av m' = some r ∧ OpOk P sg keep N args w0 c0 Z o st av m' := by
  simp only [evalOp] at h
  split at h
  · rename_i cs ec
    cases hb : boxable cs with
    | false => simp [hb] at h
    | true =>
      simp only [hb, cond_true] at h
      refine ⟨_, _, h, fun hs c a w hin next Q hnext => ?_⟩
      have hq := chkOpd_ok hx hin
      generalize hv : a.eval x' = v at hq
      have hcs := cellsOf_ok ec hq
      obtain ⟨hk, hc⟩ := boxable_ok hb hcs
      have hlen : v.cells.size = cs.length := by rw [← Array.length_toList, hcs.length]
      obtain ⟨hs', c', e1, e2, e3, e4⟩ := new_ok (w' := { w with heap := w.heap.push (.cells v.cells t) }) (e := t) (cells := v.cells) (cap := 1) hin (n := ⟨cs.length, [wakeRow cs], wakeOpens 0 cs⟩) (vals := v.cells.toList) rfl
        (by simp [hlen]) (by simp) (fun k v h => by simpa using h) (by simp [wakeRow_length]) (fun e he => by
          have := wakeOpens_mem hk he
          simp only [List.length_singleton]
          exact ⟨by omega, by omega⟩) (wakeOpens_keys hk) (fun e he => (wakeOpens_mem hk he).2.2.2) (by rw [view_wake hk]; exact hc)
      have hrun : (execOp a.eval o).run P w = .ok (.value (.pointer (some ⟨w.heap.size, 0, none⟩))) { w with heap := w.heap.push (.cells v.cells t) } := by
        simp [execOp, ho, hv, Instr.box, newVar, newRow, newObj, Sem.run]
      unfold Oper.wp
      rw [hrun]
      refine hnext _ _ ⟨hs', c', e1, e2, ?_, e4⟩
      have := ARel.a (X := sg.X) (w := { w with heap := w.heap.push (.cells v.cells t) }) (Z := Z) (c := 0) (i := 0) e3 rfl (by simp)
      simpa using this
  · simp at h
/-- A type's zero, as data. -/
def chkZ : List D → List Value → Bool
  | [], [] => true
  | .v x :: ds, v :: vs => chkV (.v x) v && chkZ ds vs
  | .s _ [] :: ds, .slice none 0 0 :: vs => chkZ ds vs
  | _, _ => false
theorem chkZ_ok {w : World} {hs : List Hd} {ds : List D} : ∀ {vs : List Value}, chkZ ds vs = true → CRelL w Z hs (ds.map D.up) vs [] := by
  induction ds with
  | nil => intro vs h; cases vs with
    | nil => exact .nil
    | cons => simp [chkZ] at h
  | cons d ds ih =>
    intro vs h
    unfold chkZ at h
    split at h
    · rename_i heq; exact absurd heq (by simp)
    · rename_i x ds' v vs' heq
      simp at heq
      obtain ⟨rfl, rfl⟩ := heq
      simp at h
      have h1 : ARel (fun _ => False) w Z hs (.v x) v := chkV_ok h.1
      cases h1 with
      | v hs' => simpa [D.up] using CRelL.cons (CRel.v hs') (ih h.2)
    · rename_i wd ds' vs' heq
      simp at heq
      obtain ⟨rfl, rfl⟩ := heq
      simpa [D.up] using CRelL.cons (CRel.o .z) (ih h)
    · simp at h
theorem run_zeroValue {t : TypeId} {ti : TypeInfo} {z : Value} (hi : P.info? t = some ti) (hz : ti.zero = some z) (w : World) : (zeroValue t).run P w = .ok z w := by
  simp [zeroValue, typeInfo, hi, hz]
theorem alloc_ok {R : Type} {r : R} {o : Oper} {st : St} {zero : Row} {t : TypeId} {ti : TypeInfo} {z : Value} {K : AV → Mem → Option R} (hi : P.info? t = some ti) (hz : ti.zero = some z)
    (hc : chkZ zero z.cells.toList = true) (ho : o.op = .alloc t)
    (h : evalOp T st.t st.m (.alloc zero) K = some r) : ∃ av m', K av m' = some r ∧ OpOk P sg keep N args w0 c0 Z o st av m' := by
  simp only [evalOp] at h
  refine ⟨_, _, h, fun hs c a w hin next Q hnext => ?_⟩
  have hcr := chkZ_ok (w := w) (Z := Z) (hs := hs) hc
  have hlen : z.cells.size = zero.length := by
    have := hcr.length
    simpa using this
  obtain ⟨hs', c', e1, e2, e3, e4⟩ := new_ok (w' := { w with heap := w.heap.push (.cells z.cells t) }) (e := t) (cells := z.cells) (cap := 1) hin (n := ⟨zero.length, [zero], []⟩) (vals := z.cells.toList) rfl
    (by simp [hlen]) (by simp) (fun k v h => by simpa using h) (by simp) (by simp) (by simp) (by simp) (by
      show CRelL w Z hs (viewRows [] 0 [zero]) _ []
      rw [viewRows_nil]
      simpa using hcr)
  have hrun : (execOp a.eval o).run P w = .ok (.value (.pointer (some ⟨w.heap.size, 0, none⟩))) { w with heap := w.heap.push (.cells z.cells t) } := by
    simp [execOp, ho, Instr.alloc, run_zeroValue hi hz, newVar, newRow, newObj, Sem.run]
  unfold Oper.wp
  rw [hrun]
  refine hnext _ _ ⟨hs', c', e1, e2, ?_, e4⟩
  have := ARel.a (X := sg.X) (w := { w with heap := w.heap.push (.cells z.cells t) }) (Z := Z) (c := 0) (i := 0) e3 rfl (by simp)
  simpa using this
end
end Go.Am
