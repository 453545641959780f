/- AM: fields, elements, cuts. Nothing is assumed. -/
import Derived.Test.YtgnicnelpcndgaaAmPure2
set_option linter.unusedVariables false
set_option linter.unusedSimpArgs false
namespace Go.Am
section
variable {P : Program} {sg : Sigs} {T : Table} {keep : List Nat} {N : Nat} {args : Nat → Value} {w0 : World} {c0 : List Nat} {Z : Nat → Prop}
/-- Whether values of a type are rows of cells. -/
def aggB (P : Program) (t : TypeId) : Option Bool := match P.underlying t with
  | some (.struct _) => some true
  | some (.array _ _) => some true
  | some _ => some false
  | none => none
theorem run_isAgg {t : TypeId} {b : Bool} (h : aggB P t = some b) (w : World) : (isAgg t).run P w = .ok b w := by
  unfold aggB at h
  split at h <;> simp at h <;> subst h
  · rename_i fs hu; simp [isAgg, run_underlying hu]
  · rename_i n e hu; simp [isAgg, run_underlying hu]
  · rename_i d h1 h2 hu
    simp only [isAgg, Sem.run_bind, run_underlying hu, Result.andThen_ok]
    simp
theorem fld_ok {o : Oper} {st : St} {x : Opd} {x' : Operand} {t : TypeId} {f off n : Nat} {agg : Bool} {fs : Array Field} {fd : Field} {ti : TypeInfo} {xs : List AV} {y : AV} (hx : chkOpd sg x x' = true)
    (hu : P.underlying t = some (.struct fs)) (hf : fs[f]? = some fd) (hi : P.info? fd.type = some ti) (hz : ti.size = n) (hoff : fd.offset = off) (hag : aggB P fd.type = some agg)
    (ho : o.op = .field t x' f) (ex : ev st.t x = .g xs) (hle : off + n ≤ xs.length) (hy : mkAgg agg ((xs.drop off).take n) = some y) :
    OpOk P sg keep N args w0 c0 Z o st y st.m :=
  pure_ok fun hs cc a w hin => by
    have h1 := chkOpd_ok hx hin
    rw [ex] at h1
    generalize hv : a.eval x' = u at h1
    cases h1 with
    | @g _ vs h =>
      have hl := h.length
      cases agg with
      | true =>
        simp only [mkAgg, Option.some.injEq] at hy
        subst hy
        refine ⟨.agg (vs.extract off (off + n)), by simp [execOp, ho, hv, Instr.field, run_underlying hu, hf, asAgg, part, run_isAgg hag, run_sizeOf' hi, hz, hoff], .g ?_⟩
        have := (h.drop off).take n
        have e : (vs.extract off (off + n)).toList = (vs.toList.drop off).take n := by
          simp [List.extract_eq_take_drop]
        rwa [e]
      | false =>
        have hd := (h.drop off).take n
        generalize hq : (xs.drop off).take n = q at *
        match q, hy with
        | [z], hy =>
          simp only [mkAgg, Option.some.injEq] at hy
          subst hy
          have hn : 0 < n := by
            rcases Nat.eq_zero_or_pos n with rfl | h
            · simp at hq
            · exact h
          have hg : xs[off]? = some z := by
            have : ((xs.drop off).take n)[0]? = some z := by rw [hq]; rfl
            rw [List.getElem?_take] at this
            simpa [hn, List.getElem?_drop] using this
          obtain ⟨v, e1, e2⟩ := h.get hg
          have e3 : vs[off]? = some v := by simpa using e1
          exact ⟨v, by simp [execOp, ho, hv, Instr.field, run_underlying hu, hf, asAgg, part, run_isAgg hag, hoff, e3], e2⟩
        | [], hy => simp [mkAgg] at hy
        | _ :: _ :: _, hy => simp [mkAgg] at hy
theorem intOf_ok {x : AV} {i : Int} (h : intOf x = some i) : x = .v (.int .i64 i) := by
  unfold intOf at h
  split at h
  · simp at h; subst h; rfl
  · simp at h
theorem idx_ok {o : Oper} {st : St} {x y : Opd} {x' y' : Operand} {t : TypeId} {i : Int} {s : ByteArray} {b : UInt8} (hx : chkOpd sg x x' = true) (hy : chkOpd sg y y' = true)
    (hu : P.underlying t = some .string) (ho : o.op = .index t x' y') (ei : intOf (ev st.t y) = some i) (ex : ev st.t x = .v (.string s)) (h0 : 0 ≤ i) (hb : s.toList[i.toNat]? = some b) :
    OpOk P sg keep N args w0 c0 Z o st (.v (.int .u8 b.toNat)) st.m :=
  two_ok hx hy ex (intOf_ok ei) trivial fun ac w e1 e2 _ _ => by
    have h1 : s[i.toNat]? = some b := by
      rw [ByteArray.toList_eq] at hb
      obtain ⟨hlt, he⟩ := List.getElem?_eq_some_iff.1 hb
      have hlt' : i.toNat < s.size := by simpa using hlt
      rw [getElem?_pos s i.toNat hlt']
      simp at he
      exact congrArg some he
    simp [execOp, ho, e1, e2, Instr.index, asIntOf, run_underlying hu, h0, h1]
/-- An element's place. -/
theorem iad_ok {o : Oper} {st : St} {x y : Opd} {x' y' : Operand} {t e : TypeId} {i : Int} {ti : TypeInfo} {av : AV} (hx : chkOpd sg x x' = true) (hy : chkOpd sg y y' = true)
    (hu : P.underlying t = some (.slice e)) (hi : P.info? e = some ti) (ho : o.op = .indexAddr t x' y') (ei : intOf (ev st.t y) = some i) (h0 : 0 ≤ i)
    (hav : (∃ id n, ev st.t x = .r id ∧ getNode st.m id = some n ∧ n.wd = ti.size ∧ i.toNat < n.rows.length ∧ av = .a id i.toNat 0) ∨
      (∃ rows row, ev st.t x = .fz ti.size rows ∧ rows[i.toNat]? = some row ∧ av = .fa row 0)) : OpOk P sg keep N args w0 c0 Z o st av st.m :=
  pure_ok fun hs cc a w hin => by
    have h1 := chkOpd_ok hx hin
    have h2 := chkOpd_ok hy hin
    rw [intOf_ok ei] at h2
    have h2 := val_of h2
    have run : ∀ b o2 len cap, a.eval x' = .slice (some ⟨b, o2, none⟩) len cap → i.toNat < len → (execOp a.eval o).run P w = .ok (.value (.pointer (some ⟨b, o2 + i.toNat * ti.size, none⟩))) w := by
      intro b o2 len cap e1 hlt
      have h3 : i < (len : Int) := by omega
      have h4 : 0 ≤ i ∧ i < (len : Int) := ⟨h0, h3⟩
      simp only [execOp, ho, h2, e1, Instr.indexAt, asIntOf, Sem.run_bind, Sem.run_pure, Result.andThen_ok, run_underlying hu]
      rw [if_pos h4]
      simp [run_sizeOf' hi, addr_add]
    rcases hav with ⟨id, n, ex, hn, hwd, hlt, rfl⟩ | ⟨rows, row, ex, hr, rfl⟩
    · rw [ex] at h1
      obtain ⟨hd, c1, cn, c2, e1, e2, e3, _, e5, _⟩ := hin.mem.at hn
      rcases e3.mem with ⟨z1, _⟩ | ⟨b, off, vs, c', f1, f2, f3, f4, f5, _⟩
      · simp [z1] at hlt
      · generalize hv : a.eval x' = u at h1
        cases h1 with
        | r hh =>
          rw [e1] at hh
          cases hh
          rw [f1] at hv
          refine ⟨_, run b off _ _ hv (by rw [e3.len]; exact hlt), ?_⟩
          have := ARel.a (X := sg.X) (w := w) (Z := Z) (c := 0) e1 f1 (i := i.toNat) (by rw [e3.len]; exact hlt)
          rwa [e3.wd, hwd, Nat.add_zero] at this
    · rw [ex] at h1
      generalize hv : a.eval x' = u at h1
      cases h1 with
      | fz h =>
        have hlt : i.toNat < rows.length := (List.getElem?_eq_some_iff.1 hr).1
        cases h with
        | z => simp at hlt
        | @s _ b off cap _ vs hw hc hz hh hl =>
          refine ⟨_, run b off _ _ hv hlt, .fa (vs := (vs.drop (i.toNat * ti.size)).take row.length) hz ?_ ?_⟩
          · obtain ⟨cs, el, fz, k1, k2⟩ := hh.drop (i.toNat * ti.size)
            refine ⟨cs, el, fz, k1, fun k v hk => k2 k v ?_⟩
            rw [List.getElem?_take] at hk
            split at hk
            · exact hk
            · simp at hk
          · have := (hl.drop (i.toNat * ti.size)).take row.length
            have e : (rows.flatten.drop (i.toNat * ti.size)).take row.length = row := by
              have key : ∀ (rows : Rows) (k : Nat), (∀ r ∈ rows, r.length = ti.size) → ∀ row, rows[k]? = some row → (rows.flatten.drop (k * ti.size)).take row.length = row := by
                intro rows
                induction rows with
                | nil => intro k _ row h; simp at h
                | cons r rs ih =>
                  intro k hw row h
                  cases k with
                  | zero => simp at h; subst h; simp
                  | succ k =>
                    have hr := hw r (by simp)
                    have : (k + 1) * ti.size = r.length + k * ti.size := by rw [hr, Nat.add_mul]; omega
                    rw [this, List.flatten_cons, ← List.drop_drop, List.drop_left]
                    exact ih k (fun r h => hw r (by simp [h])) row (by simpa using h)
              exact key rows _ hw row hr
            simpa [e] using this
end
end Go.Am
