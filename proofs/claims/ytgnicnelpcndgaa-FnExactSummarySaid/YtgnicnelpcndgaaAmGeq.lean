/- AM: structs of scalars, compared. Nothing is assumed. -/
import Derived.Test.YtgnicnelpcndgaaAmBytes
set_option linter.unusedVariables false
set_option linter.unusedSimpArgs false
namespace Go.Am
/-- The fields of a struct are scalars of these kinds, one behind the other. -/
def chkFields (P : Program) : List Field → List Kd → Nat → Bool
  | [], [], _ => true
  | f :: fs, k :: ks, j => f.name != "_" && f.offset == j && (match k, P.underlying f.type with
      | .i _, some (.int _) => true
      | .b, some .bool => true
      | .s, some .string => true
      | _, _ => false) && aggB P f.type == some false && chkFields P fs ks (j + 1)
  | _, _, _ => false
section
variable {P : Program} {sg : Sigs} {T : Table} {keep : List Nat} {N : Nat} {args : Nat → Value} {w0 : World} {c0 : List Nat} {Z : Nat → Prop}
theorem run_part {w : World} {t : TypeId} {vs : Array Value} {j : Nat} {v : Value} (ha : aggB P t = some false) (hv : vs[j]? = some v) : (part t vs j).run P w = .ok v w := by
  simp [part, run_isAgg ha, hv]
theorem eqFields_ok {w : World} {hs : List Hd} {X : Nat → Prop} {us vs : Array Value} {d : Nat} (fs : List Field) : ∀ {ks : List Kd} {xs ys : List AV} {j : Nat} {z : Bool}, chkFields P fs ks j = true →
    eqCells ks xs ys = some z → ARelL X w Z hs xs (us.toList.drop j) → ARelL X w Z hs ys (vs.toList.drop j) → (Op.eqFields (d + 1) us vs fs).run P w = .ok z w := by
  induction fs with
  | nil =>
    intro ks xs ys j z hc h _ _
    cases ks with
    | cons => simp [chkFields] at hc
    | nil =>
      cases xs with
      | cons => simp [eqCells] at h
      | nil =>
        cases ys with
        | cons => simp [eqCells] at h
        | nil => simp [eqCells] at h; subst h; simp [Op.eqFields]
  | cons f fs ih =>
    intro ks xs ys j z hc h hx hy
    cases ks with
    | nil => simp [chkFields] at hc
    | cons k ks =>
      simp only [chkFields, Bool.and_eq_true, bne_iff_ne, ne_eq, beq_iff_eq] at hc
      obtain ⟨⟨⟨⟨hn, rfl⟩, hk⟩, ha⟩, hc⟩ := hc
      generalize e1 : us.toList.drop f.offset = us0 at hx
      generalize e2 : vs.toList.drop f.offset = vs0 at hy
      cases hx with
      | nil => cases k <;> simp [eqCells] at h
      | @cons x xs u us' hx hx' =>
        cases hy with
        | nil => cases k <;> cases x <;> simp [eqCells] at h
        | @cons y ys v vs' hy hy' =>
          have g1 : us[f.offset]? = some u := by
            have := congrArg (·[0]?) e1
            simpa using this
          have g2 : vs[f.offset]? = some v := by
            have := congrArg (·[0]?) e2
            simpa using this
          have t1 : us' = us.toList.drop (f.offset + 1) := by
            have := congrArg List.tail e1
            simpa using this.symm
          have t2 : vs' = vs.toList.drop (f.offset + 1) := by
            have := congrArg List.tail e2
            simpa using this.symm
          rw [t1] at hx'
          rw [t2] at hy'
          have step : ∀ (q r : Bool), (Op.equalIn (d + 1) f.type u v).run P w = .ok q w → eqCells ks xs ys = some r → z = (q && r) → (Op.eqFields (d + 1) us vs (f :: fs)).run P w = .ok z w := by
            intro q r hq hr hz
            have hrest := ih hc hr hx' hy'
            simp only [Op.eqFields, Sem.run_ite, Sem.run_bind, run_part ha g1, run_part ha g2, Result.andThen_ok, hq, hrest, hn, not_false_eq_true, if_true, ne_eq]
            subst hz
            cases q <;> simp
          clear e1 e2
          unfold eqCells at h
          split at h
          · simp at *
          · rename_i k1 ks1 k2 a xs1 k3 b ys1 q1 q2 q3
            cases q1; cases q2; cases q3
            split at h
            · rename_i r hr
              split at h
              · simp only [Option.some.injEq] at h
                rename_i hkk
                subst hkk
                split at hk
                · rename_i hu
                  cases hx; cases hy
                  exact step _ _ (run_equalIn_int w d f.type _ _ a b hu) hr h.symm
                all_goals simp_all
              · simp at h
            · simp at h
          · rename_i ks1 a xs1 b ys1 q1 q2 q3
            cases q1; cases q2; cases q3
            split at h
            · rename_i r hr
              simp only [Option.some.injEq] at h
              split at hk
              · simp_all
              · simp_all
              · rename_i hu
                cases hx; cases hy
                exact step _ _ (run_equalIn_string w d f.type a b hu) hr h.symm
              · simp_all
            · simp at h
          · rename_i ks1 a xs1 b ys1 q1 q2 q3
            cases q1; cases q2; cases q3
            split at h
            · rename_i r hr
              simp only [Option.some.injEq] at h
              split at hk
              · simp_all
              · rename_i hu
                cases hx; cases hy
                exact step _ _ (run_equalIn_bool' w d f.type a b hu) hr h.symm
              · simp_all
              · simp_all
            · simp at h
          · simp at h
theorem geq_ok {o : Oper} {st : St} {op : BinOp} {t t' : TypeId} {x y : Opd} {x' y' : Operand} {fs : Array Field} {neg z : Bool} {ks : List Kd} {xs ys : List AV} (hx : chkOpd sg x x' = true) (hy : chkOpd sg y y' = true)
    (hu : P.underlying t = some (.struct fs)) (hst : P.stoodInHeld t = false) (hg : P.eqGuardType P.depth t = false) (hc : chkFields P fs.toList ks 0 = true) (hop : op = if neg then .neq else .eql)
    (ho : o.op = .binOp op t x' y' t') (ea : ev st.t x = .g xs) (eb : ev st.t y = .g ys) (hz : eqCells ks xs ys = some z) :
    OpOk P sg keep N args w0 c0 Z o st (.v (.bool (if neg then !z else z))) st.m :=
  pure_ok fun hs cc a w hin => by
    have h1 := chkOpd_ok hx hin
    have h2 := chkOpd_ok hy hin
    rw [ea] at h1
    rw [eb] at h2
    generalize hv1 : a.eval x' = v1 at h1
    generalize hv2 : a.eval y' = v2 at h2
    cases h1 with
    | @g _ us h1 =>
      cases h2 with
      | @g _ vs h2 =>
        have hf : P.fieldsOf t = fs := by simp [Program.fieldsOf, hu]
        have key : (Op.equalIn 10000 t (.agg us) (.agg vs)).run P w = .ok z w := by
          rw [run_equalIn_struct w 9999 t us vs (by rw [hf]; exact hu) hst, hf]
          exact eqFields_ok fs.toList hc hz (by simpa using h1) (by simpa using h2)
        refine ⟨_, ?_, .v (x := .bool (if neg then !z else z)) trivial⟩
        cases neg
        · simp only [Bool.false_eq_true, if_false] at hop
          subst hop
          simp [execOp, ho, hv1, hv2, run_eqGuard_agg w _ t x' y' us vs hg, run_eql_struct, key]
        · simp only [if_true] at hop
          subst hop
          simp [execOp, ho, hv1, hv2, run_eqGuard_agg w _ t x' y' us vs hg, run_neq_struct, key]
end
end Go.Am
