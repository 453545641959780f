/- AM: made slices, structs built, cuts. Nothing is assumed. -/
import Derived.Test.YtgnicnelpcndgaaAmNew2
set_option linter.unusedVariables false
set_option linter.unusedSimpArgs false
namespace Go.Am
section
variable {P : Program} {sg : Sigs} {T : Table} {keep : List Nat} {N : Nat} {args : Nat → Value} {w0 : World} {c0 : List Nat} {Z : Nat → Prop}
theorem wrap64 {n : Int} (h0 : 0 ≤ n) (h1 : n ≤ maxLen) : IntKind.i64.wrap n = n := by
  simp only [maxLen] at h1
  have h2 : n ≤ 9223372036854775807 := by simpa using h1
  have hm : n % (18446744073709551616 : Int) = n := Int.emod_eq_of_lt h0 (by omega)
  simp [IntKind.wrap, IntKind.bits, IntKind.signed, hm]
  omega
theorem cutOk_iff {l h : Int} {n : Nat} (e : cutOk l h n = true) : 0 ≤ l ∧ l ≤ h ∧ h ≤ n := by
  simp [cutOk] at e
  exact ⟨e.1.1, e.1.2, e.2⟩
theorem rep_get (zs : List Value) : ∀ (k j : Nat) (v : Value), (List.replicate k zs).flatten[j]? = some v → zs[j % zs.length]? = some v := by
  intro k
  induction k with
  | zero => intro j v h; simp at h
  | succ k ih =>
    intro j v h
    rw [List.replicate_succ, List.flatten_cons, List.getElem?_append] at h
    split at h
    · rename_i hlt; rw [Nat.mod_eq_of_lt hlt]; exact h
    · rename_i hlt
      have := ih _ _ h
      rwa [← Nat.mod_eq_sub_mod (by omega)] at this
theorem rep_rel {w : World} {hs : List Hd} {zero : Row} {zs : List Value} (h : CRelL w Z hs (zero.map D.up) zs []) (k : Nat) :
    CRelL w Z hs ((List.replicate k zero).flatten.map D.up) (List.replicate k zs).flatten [] := by
  induction k with
  | zero => exact .nil
  | succ k ih => simpa [List.replicate_succ] using h.append ih
theorem mk_ok {R : Type} {r : R} {o : Oper} {st : St} {x y : Opd} {x' y' : Operand} {t e : TypeId} {ti : TypeInfo} {z : Value} {zero : Row} {bytes : Nat} {K : AV → Mem → Option R} (hx : chkOpd sg x x' = true) (hy : chkOpd sg y y' = true)
    (hu : P.underlying t = some (.slice e)) (hi : P.info? e = some ti) (hz : ti.zero = some z) (hc : chkZ zero z.cells.toList = true) (hs : ti.size = zero.length) (hb : ti.bytes = bytes)
    (ho : o.op = .makeSlice t x' y') (h : evalOp T st.t st.m (.mk zero bytes x y) K = some r) : ∃ av m', K av m' = some r ∧ OpOk P sg keep N args w0 c0 Z o st av m' := by
  simp only [evalOp] at h
  split at h
  · rename_i n c en ec
    obtain ⟨h1, h⟩ := tst_some h
    simp only [Bool.and_eq_true, decide_eq_true_eq] at h1
    obtain ⟨h2, h3⟩ := h1
    obtain ⟨g0, g1, g2⟩ := cutOk_iff h2
    refine ⟨_, _, h, fun hs' cc a w hin next Q hnext => ?_⟩
    have e1 := chkOpd_ok hx hin
    have e2 := chkOpd_ok hy hin
    rw [intOf_ok en] at e1
    rw [intOf_ok ec] at e2
    have e1 := val_of e1
    have e2 := val_of e2
    have hcr := chkZ_ok (w := w) (Z := Z) (hs := hs') hc
    have hlen : z.cells.size = zero.length := by
      have := hcr.length
      simpa using this
    generalize hcells : ((Array.range (c.toNat * ti.size)).map (fun i => (if c.toNat * ti.size = 0 then #[] else z.cells)[i % (if c.toNat * ti.size = 0 then #[] else z.cells).size]!)) = cells
    have hsize : cells.size = c.toNat * ti.size := by rw [← hcells]; simp
    have hval : ∀ (k : Nat) (v : Value), (List.replicate n.toNat z.cells.toList).flatten[k]? = some v → cells[k]? = some v := by
      intro k v hk
      have h4 := rep_get _ _ _ _ hk
      have hk2 : k < (List.replicate n.toNat z.cells.toList).flatten.length := (List.getElem?_eq_some_iff.1 hk).1
      simp only [List.length_flatten, List.map_replicate, List.sum_replicate_nat, Array.length_toList, hlen] at hk2
      have h5 : n.toNat * zero.length ≤ c.toNat * ti.size := by rw [hs]; exact Nat.mul_le_mul_right _ (by omega)
      have hk3 : k < c.toNat * ti.size := by omega
      have hne : ¬ (c.toNat * ti.size = 0) := by omega
      rw [← hcells]
      simp only [hne, if_false, Array.getElem?_map]
      rw [Array.getElem?_range]
      simp only [hk3, if_true, Option.map_some]
      simp only [Array.length_toList] at h4
      have h6 : z.cells[k % z.cells.size]? = some v := by simpa using h4
      simp [getElem!_def, h6]
    obtain ⟨hs2, c2, q1, q2, q3, q4⟩ := new_ok (w' := { w with heap := w.heap.push (.cells cells e) }) (e := e) (cells := cells) (cap := c.toNat) hin (n := ⟨zero.length, List.replicate n.toNat zero, []⟩)
      (vals := (List.replicate n.toNat z.cells.toList).flatten) rfl (by rw [hsize, hs]; exact Nat.le_refl _) (by simp; omega) hval (by simp) (by simp) (by simp) (by simp) (by
        show CRelL w Z hs' (viewRows [] 0 _) _ []
        rw [viewRows_nil]
        exact rep_rel hcr _)
    have hrun : (execOp a.eval o).run P w = .ok (.value (.slice (some ⟨w.heap.size, 0, none⟩) n.toNat c.toNat)) { w with heap := w.heap.push (.cells cells e) } := by
      have w1 : IntKind.i64.wrap n = n := wrap64 g0 (by omega)
      have w2 : IntKind.i64.wrap c = c := wrap64 (by omega) g2
      have hbig : ¬ ((bytes : Int) * c > 2 ^ 48) := by
        simp only [maxBytes] at h3
        have : (bytes : Int) * c = ((c.toNat * bytes : Nat) : Int) := by
          rw [Int.natCast_mul, Int.toNat_of_nonneg (by omega), Int.mul_comm]
        rw [this]
        omega
      have hroom : ¬ (c.toNat * bytes > roomBytes) := by
        simp only [maxBytes] at h3
        simp only [roomBytes]
        omega
      have n1 : ¬ (c < 0) := by omega
      have n2 : ¬ (n < 0) := by omega
      have n3 : ¬ (n > c) := by omega
      have hbig' : ¬ ((ti.bytes : Int) * c > 2 ^ 48) := by rw [hb]; exact hbig
      have hroom' : ¬ (c.toNat * ti.bytes > roomBytes) := by rw [hb]; exact hroom
      have hti : ∀ w, (typeInfo e).run P w = .ok ti w := fun w => by simp [typeInfo, hi]
      simp only [execOp, ho, e1, e2, Instr.makeSlice, Sem.run_bind, run_underlying hu, Result.andThen_ok, asInt, asIntOf, Sem.run_pure, hti, w1, w2, n1, n2, n3, hbig', decide_false, Bool.or_false, Bool.false_or, Bool.false_eq_true, if_false, askRoom, hroom', sizeOf, newRow, newObj]
      rw [← hcells]
      by_cases h0 : c.toNat * ti.size = 0
      · simp [h0, Sem.run]
      · simp [h0, run_zeroValue hi hz, Sem.run]
    unfold Oper.wp
    rw [hrun]
    refine hnext _ _ ⟨hs2, c2, q1, q2, ?_, q4⟩
    have := ARel.r (X := sg.X) (w := { w with heap := w.heap.push (.cells cells e) }) (Z := Z) q3
    simpa using this
  · simp at h
end
end Go.Am
