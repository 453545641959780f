/- AM: cuts of strings and of frozen slices. Nothing is assumed. -/
import Derived.Test.YtgnicnelpcndgaaAmNew3
set_option linter.unusedVariables false
set_option linter.unusedSimpArgs false
namespace Go.Am
section
variable {P : Program} {sg : Sigs} {T : Table} {keep : List Nat} {N : Nat} {args : Nat → Value} {w0 : World} {c0 : List Nat} {Z : Nat → Prop}
def chkOpt (sg : Sigs) : Option Opd → Option Operand → Bool
  | none, none => true
  | some x, some y => chkOpd sg x y
  | _, _ => false
theorem bound_ok {st : St} {hs : List Hd} {c : List Nat} {a : Act} {w : World} (hin : SInv sg.X keep N args w0 c0 Z hs c st a w) {x : Option Opd} {y : Option Operand} (h : chkOpt sg x y = true)
    {d i : Int} (hb : boundOf st.t d x = some i) : (y.map a.eval = none ∧ i = d) ∨ y.map a.eval = some (.int .i64 i) := by
  cases x with
  | none => cases y with
    | none => simp [boundOf] at hb; exact .inl ⟨rfl, hb.symm⟩
    | some => simp [chkOpt] at h
  | some x => cases y with
    | none => simp [chkOpt] at h
    | some y =>
      have h1 := chkOpd_ok (x := x) (y := y) h hin
      simp only [boundOf] at hb
      rw [intOf_ok hb] at h1
      exact .inr (by simp [val_of h1])
theorem run_sliceBounds {isS : Bool} {len cap : Nat} {lo hi : Option Value} {l h : Int} {w : World} (hl : (lo = none ∧ l = 0) ∨ lo = some (.int .i64 l)) (hh : (hi = none ∧ h = len) ∨ hi = some (.int .i64 h))
    (h0 : 0 ≤ l) (h1 : l ≤ h) (h2 : h ≤ len) (h3 : len ≤ cap) : (Instr.sliceBounds isS len cap lo hi none).run P w = .ok (l.toNat, h.toNat, cap) w := by
  have hc : 0 ≤ h ∧ h ≤ (cap : Int) := by omega
  have hb : ∀ (x : Int) (y : Nat) (code : BoundsCode), 0 ≤ x → x ≤ y → (Instr.sliceBound (.int .i64 x) y code).run P w = .ok x.toNat w := by
    intro x y code hx hy
    simp [Instr.sliceBound, asIntOf, hx, hy]
  have hln : l ≤ (h.toNat : Int) := by omega
  rcases hl with ⟨rfl, rfl⟩ | rfl <;> rcases hh with ⟨rfl, rfl⟩ | rfl
  · simp [Instr.sliceBounds]
  · simp [Instr.sliceBounds, hb h cap _ hc.1 hc.2]
  · simp [Instr.sliceBounds, hb l len _ h0 (by omega)]
  · simp [Instr.sliceBounds, hb h cap _ hc.1 hc.2, hb l h.toNat _ h0 hln]
theorem cutS_ok {o : Oper} {st : St} {x : Opd} {lo hi : Option Opd} {x' : Operand} {lo' hi' : Option Operand} {t : TypeId} {s : ByteArray} {l h : Int} (hx : chkOpd sg x x' = true) (hl : chkOpt sg lo lo' = true) (hh : chkOpt sg hi hi' = true)
    (hu : P.underlying t = some .string) (ho : o.op = .slice t x' lo' hi' none) (ex : ev st.t x = .v (.string s)) (el : boundOf st.t 0 lo = some l) (eh : boundOf st.t s.size hi = some h)
    (hc : cutOk l h s.size = true) : OpOk P sg keep N args w0 c0 Z o st (.v (.string (s.extract l.toNat h.toNat))) st.m :=
  pure_ok fun hs cc a w hin => by
    have h1 := chkOpd_ok hx hin
    rw [ex] at h1
    obtain ⟨g0, g1, g2⟩ := cutOk_iff hc
    have hr := run_sliceBounds (P := P) (isS := false) (len := s.size) (cap := s.size) (w := w) (bound_ok hin hl el) (bound_ok hin hh eh) g0 g1 g2 (Nat.le_refl _)
    refine ⟨_, ?_, .v (x := .string (s.extract l.toNat h.toNat)) trivial⟩
    simp [execOp, ho, val_of h1, Instr.sliceAt, Instr.slice, run_underlying hu, hr]
theorem flatten_drop {wd : Nat} {rows : Rows} (hw : ∀ r ∈ rows, r.length = wd) (l : Nat) : (rows.drop l).flatten = rows.flatten.drop (l * wd) := by
  induction l generalizing rows with
  | zero => simp
  | succ l ih => cases rows with
    | nil => simp
    | cons r rs =>
      have h1 := hw r (by simp)
      simp only [List.drop_succ_cons, List.flatten_cons]
      rw [ih fun r h => hw r (by simp [h]), Nat.succ_mul, List.drop_append, List.drop_of_length_le (l := r) (by omega)]
      simp only [List.nil_append]
      congr 1
      omega
theorem flatten_take {wd : Nat} {rows : Rows} (hw : ∀ r ∈ rows, r.length = wd) (l : Nat) : (rows.take l).flatten = rows.flatten.take (l * wd) := by
  induction l generalizing rows with
  | zero => simp
  | succ l ih => cases rows with
    | nil => simp
    | cons r rs =>
      have h1 := hw r (by simp)
      simp only [List.take_succ_cons, List.flatten_cons]
      rw [ih fun r h => hw r (by simp [h]), Nat.succ_mul, List.take_append, List.take_of_length_le (l := r) (by omega)]
      congr 2
      omega
theorem Holds.take {w : World} {b off : Nat} {vs : List Value} (h : Holds w b off vs) (k : Nat) : Holds w b off (vs.take k) := by
  obtain ⟨cs, e, f, h1, h2⟩ := h
  refine ⟨cs, e, f, h1, fun j v hj => h2 j v ?_⟩
  rw [List.getElem?_take] at hj
  split at hj
  · exact hj
  · simp at hj
theorem cutF_ok {o : Oper} {st : St} {x : Opd} {lo hi : Option Opd} {x' : Operand} {lo' hi' : Option Operand} {t e : TypeId} {ti : TypeInfo} {wd : Nat} {rows : Rows} {l h : Int} (hx : chkOpd sg x x' = true) (hl : chkOpt sg lo lo' = true) (hh : chkOpt sg hi hi' = true)
    (hu : P.underlying t = some (.slice e)) (hin' : P.info? e = some ti) (ho : o.op = .slice t x' lo' hi' none) (ex : ev st.t x = .fz wd rows) (hs : ti.size = wd) (el : boundOf st.t 0 lo = some l) (eh : boundOf st.t rows.length hi = some h)
    (hc : cutOk l h rows.length = true) : OpOk P sg keep N args w0 c0 Z o st (.fz wd ((rows.take h.toNat).drop l.toNat)) st.m :=
  pure_ok fun hs' cc a w hin => by
    have h1 := chkOpd_ok hx hin
    rw [ex] at h1
    generalize hv : a.eval x' = v at h1
    obtain ⟨g0, g1, g2⟩ := cutOk_iff hc
    have run : ∀ (base : Option Addr) (cap : Nat), rows.length ≤ cap → v = .slice base rows.length cap →
        (execOp a.eval o).run P w = .ok (.value (.slice (if cap = l.toNat then base else base.map (·.add (l.toNat * ti.size))) (h.toNat - l.toNat) (cap - l.toNat))) w := fun base cap hcap e => by
      subst e
      have hr := run_sliceBounds (P := P) (isS := true) (len := rows.length) (cap := cap) (w := w) (bound_ok hin hl el) (bound_ok hin hh eh) g0 g1 g2 hcap
      simp [execOp, ho, hv, Instr.sliceAt, Instr.slice, run_underlying hu, hr, run_sizeOf' hin']
    cases h1 with
    | fz h1 =>
      generalize hrows : ((rows.take h.toNat).drop l.toNat) = rows'
      have hlen : rows'.length = h.toNat - l.toNat := by rw [← hrows]; simp; omega
      cases h1 with
      | @z _ cap base =>
        refine ⟨_, run base cap (by simp) rfl, ?_⟩
        have : rows' = [] := by rw [← hrows]; simp
        subst this
        rw [← hlen]
        exact .fz .z
      | @s _ b off cap _ vs hw hc' hz hho hfl =>
        refine ⟨_, run _ cap hc' rfl, ?_⟩
        rw [← hlen]
        by_cases h0 : rows' = []
        · subst h0
          exact .fz .z
        · have hpos : 0 < rows'.length := List.length_pos_iff.2 h0
          have hne : ¬ (cap = l.toNat) := by omega
          have hw' : ∀ r ∈ rows.take h.toNat, r.length = wd := fun r hr => hw r (List.mem_of_mem_take hr)
          simp only [hne, if_false, Option.map_some, addr_add, hs]
          refine .fz (.s (vs := (vs.take (h.toNat * wd)).drop (l.toNat * wd)) (fun r hr => ?_) (by omega) hz ((hho.take _).drop _) ?_)
          · rw [← hrows] at hr
            exact hw' r (List.mem_of_mem_drop hr)
          · rw [← hrows, flatten_drop hw', flatten_take hw]
            exact (hfl.take _).drop _
end
end Go.Am
