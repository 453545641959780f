/- AM: heavy operations leave what is there and add to it. Nothing is assumed. -/
import Derived.Test.YtgnicnelpcndgaaAmLight
set_option linter.unusedVariables false
set_option linter.unusedSimpArgs false
namespace Go.Am
theorem outCell_app {k : Kd} {d : D} {m m' : Mem} {x : AV} (h : outCell false k d m mk2 = some (x, m')) : ∃ l, m' = m ++ l := by
  cases k with
  | i k =>
    simp only [outCell, dI_uni] at h
    obtain ⟨n, _, h⟩ := Option.bind_eq_some_iff.1 h
    simp only [mk2, Option.some.injEq, Prod.mk.injEq] at h
    exact ⟨[], by simp [h.2]⟩
  | b =>
    simp only [outCell, dB_uni] at h
    obtain ⟨n, _, h⟩ := Option.bind_eq_some_iff.1 h
    simp only [mk2, Option.some.injEq, Prod.mk.injEq] at h
    exact ⟨[], by simp [h.2]⟩
  | s =>
    simp only [outCell, dS_uni] at h
    obtain ⟨n, _, h⟩ := Option.bind_eq_some_iff.1 h
    simp only [mk2, Option.some.injEq, Prod.mk.injEq] at h
    exact ⟨[], by simp [h.2]⟩
  | sl wd =>
    simp only [outCell, dL_uni] at h
    obtain ⟨n, _, h⟩ := Option.bind_eq_some_iff.1 h
    simp only [mk2, Option.some.injEq, Prod.mk.injEq] at h
    exact ⟨_, h.2.symm⟩
theorem outCells_app {ks : List Kd} : ∀ {row : Row} {c : Nat} {m m' : Mem} {xs : List AV}, outCells false ks row c m mk2 = some (xs, m') → ∃ l, m' = m ++ l := by
  induction ks with
  | nil =>
    intro row c m m' xs h
    simp only [outCells, mk2, Option.some.injEq, Prod.mk.injEq] at h
    exact ⟨[], by simp [h.2]⟩
  | cons k ks ih =>
    intro row c m m' xs h
    simp only [outCells, cell_uni] at h
    obtain ⟨d, _, h⟩ := Option.bind_eq_some_iff.1 h
    rw [outCell_uni] at h
    obtain ⟨⟨x, m1⟩, h1, h⟩ := Option.bind_eq_some_iff.1 h
    simp only [pr] at h
    rw [outCells_uni] at h
    obtain ⟨⟨ys, m2⟩, h2, h⟩ := Option.bind_eq_some_iff.1 h
    simp only [pr, mk2, Option.some.injEq, Prod.mk.injEq] at h
    obtain ⟨l1, rfl⟩ := outCell_app h1
    obtain ⟨l2, rfl⟩ := ih h2
    exact ⟨l1 ++ l2, by rw [← h.2, List.append_assoc]⟩
theorem outOne_app {k : RK} {i : I} {m m' : Mem} {x : AV} (h : outOne false k i m mk2 = some (x, m')) : ∃ l, m' = m ++ l := by
  cases k with
  | c k =>
    simp only [outOne, oD_uni] at h
    obtain ⟨d, _, h⟩ := Option.bind_eq_some_iff.1 h
    exact outCell_app h
  | g ks =>
    simp only [outOne, oG_uni] at h
    obtain ⟨row, _, h⟩ := Option.bind_eq_some_iff.1 h
    obtain ⟨_, h⟩ := tst_some h
    rw [outCells_uni] at h
    obtain ⟨⟨ys, m2⟩, h2, h⟩ := Option.bind_eq_some_iff.1 h
    simp only [pr, mk2, Option.some.injEq, Prod.mk.injEq] at h
    obtain ⟨l, rfl⟩ := outCells_app h2
    exact ⟨l, h.2.symm⟩
theorem outMany_app {ks : List RK} : ∀ {is : List I} {j : Nat} {m m' : Mem} {xs : List AV}, outMany false ks is j m mk2 = some (xs, m') → ∃ l, m' = m ++ l := by
  induction ks with
  | nil =>
    intro is j m m' xs h
    simp only [outMany, mk2, Option.some.injEq, Prod.mk.injEq] at h
    exact ⟨[], by simp [h.2]⟩
  | cons k ks ih =>
    intro is j m m' xs h
    simp only [outMany, nth_uni] at h
    obtain ⟨d, _, h⟩ := Option.bind_eq_some_iff.1 h
    rw [outOne_uni] at h
    obtain ⟨⟨x, m1⟩, h1, h⟩ := Option.bind_eq_some_iff.1 h
    simp only [pr] at h
    rw [outMany_uni] at h
    obtain ⟨⟨ys, m2⟩, h2, h⟩ := Option.bind_eq_some_iff.1 h
    simp only [pr, mk2, Option.some.injEq, Prod.mk.injEq] at h
    obtain ⟨l1, rfl⟩ := outOne_app h1
    obtain ⟨l2, rfl⟩ := ih h2
    exact ⟨l1 ++ l2, by rw [← h.2, List.append_assoc]⟩
theorem outAll_app {ks : List RK} {i : I} {m m' : Mem} {x : AV} (h : outAll false ks i m mk2 = some (x, m')) : ∃ l, m' = m ++ l := by
  unfold outAll at h
  split at h
  · exact outOne_app h
  · simp only [oT_uni] at h
    obtain ⟨is, _, h⟩ := Option.bind_eq_some_iff.1 h
    obtain ⟨_, h⟩ := tst_some h
    rw [outMany_uni] at h
    obtain ⟨⟨ys, m2⟩, h2, h⟩ := Option.bind_eq_some_iff.1 h
    simp only [pr, mk2, Option.some.injEq, Prod.mk.injEq] at h
    obtain ⟨l, rfl⟩ := outMany_app h2
    exact ⟨l, h.2.symm⟩
def allRd (modes : List Mode) : Bool := modes.all fun md => match md with | .rd => true | _ => false
theorem passRd {ms : List Mode} : ∀ {m m' : Mem} {xs : List AV} {is : List I}, allRd ms = true → passArgs m ms xs = some (is, m') → m' = m := by
  induction ms with
  | nil =>
    intro m m' xs is _ h
    cases xs with
    | nil => simp only [passArgs, Option.some.injEq, Prod.mk.injEq] at h; exact h.2.symm
    | cons => simp [passArgs] at h
  | cons md ms ih =>
    intro m m' xs is hr h
    simp only [allRd, List.all_cons, Bool.and_eq_true] at hr
    cases md with
    | rd =>
      cases xs with
      | nil => simp [passArgs] at h
      | cons x xs =>
        simp only [passArgs] at h
        split at h
        · rename_i is1 m1 h1
          split at h
          · simp only [Option.some.injEq, Prod.mk.injEq] at h
            rw [← h.2]
            exact ih hr.2 h1
          · simp at h
        · simp at h
    | own => simp at hr
    | lent => simp at hr
theorem backRd {R : Type} {m0 m : Mem} {ms : List Mode} : ∀ {xs : List AV} {is : List I} {j : Nat} {K : Mem → Option R}, allRd ms = true → backArgs m0 m ms xs is j K = K m := by
  induction ms with
  | nil => intro xs is j K _; simp only [backArgs]
  | cons md ms ih =>
    intro xs is j K hr
    simp only [allRd, List.all_cons, Bool.and_eq_true] at hr
    cases md with
    | rd => cases xs with
      | nil => simp only [backArgs]
      | cons => simp only [backArgs]; exact ih hr.2
    | own => simp at hr
    | lent => simp at hr
theorem callOp_app {T : Table} {m m' : Mem} {modes : List Mode} {res : List RK} {fn : Nat} {xs : List AV} {more : Mem → Option (List I)} {x : AV} (hr : allRd modes = true) (h : callOp T m modes false res fn xs more mk2 = some (x, m')) : ∃ l, m' = m ++ l := by
  unfold callOp at h
  split at h
  · rename_i is m1 hp
    have := passRd hr hp
    subst this
    split at h
    · simp at h
    · rw [callT_uni] at h
      obtain ⟨o, _, h⟩ := Option.bind_eq_some_iff.1 h
      rw [backRd hr] at h
      exact outAll_app h
  · simp at h
/-- A heavy operation adds. -/
theorem heavy_ext {T : Table} {t : Tmps} {m m' : Mem} {op : AOp} {x : AV} (hk : hOk t op = true) (hf : ∀ f modes fz res xs, op = .call f modes fz res xs → fz = false) (h : EO T t m op = some (x, m')) : ∃ l, m' = m ++ l := by
  unfold EO at h
  cases op with
  | box y =>
    simp only [evalOp] at h
    split at h
    · rename_i cs _
      cases hb : boxable cs with
      | false => simp [hb] at h
      | true =>
        simp only [hb, cond_true, mk2, Option.some.injEq, Prod.mk.injEq] at h
        exact ⟨_, h.2.symm⟩
    · simp at h
  | lit wd rows ps =>
    simp only [evalOp] at h
    split at h
    · simp only [mk2, Option.some.injEq, Prod.mk.injEq] at h
      exact ⟨[], by simp [h.2]⟩
    · split at h
      · simp only [mk2, Option.some.injEq, Prod.mk.injEq] at h
        exact ⟨_, h.2.symm⟩
      · simp at h
  | mk zero bytes n c =>
    simp only [evalOp] at h
    split at h
    · obtain ⟨_, h⟩ := tst_some h
      simp only [mk2, Option.some.injEq, Prod.mk.injEq] at h
      exact ⟨_, h.2.symm⟩
    · simp at h
  | app wd bytes y z =>
    simp only [hOk] at hk
    split at hk
    · rename_i wd1 wd2 rows2 hy hz
      simp only [evalOp, hy, hz, rowsOf] at h
      cases hb : (true && Nat.beq wd2 wd) with
      | false => simp [hb] at h
      | true =>
        simp only [hb, cond_true] at h
        obtain ⟨_, h⟩ := tst_some h
        obtain ⟨_, h⟩ := tst_some h
        simp only [mk2, Option.some.injEq, Prod.mk.injEq] at h
        exact ⟨_, h.2.symm⟩
    · rename_i hy hz
      simp only [evalOp, hy, hz, rowsOf] at h
      obtain ⟨_, h⟩ := tst_some h
      simp only [mk2, Option.some.injEq, Prod.mk.injEq] at h
      exact ⟨_, h.2.symm⟩
    · simp at hk
  | call f modes fz res xs =>
    have := hf _ _ _ _ _ rfl
    subst this
    have hr : allRd modes = true := hk
    simp only [evalOp] at h
    split at h
    · exact callOp_app hr h
    · exact callOp_app hr h
    · simp at h
  | _ => simp [hOk] at hk
end Go.Am
