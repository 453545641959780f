/- AM: tables of functions, grown one by one, with recursion by a measure. Nothing is assumed. -/
import Derived.Test.YtgnicnelpcndgaaAmFun
set_option linter.unusedVariables false
set_option linter.unusedSimpArgs false
namespace Go.Am
section
variable {P : Program} {sg : Sigs} {T : Table}
theorem good_none : Good P sg fun _ _ => none := fun fn is o h => by simp at h
/-- A table with one more function. -/
def extT (T : Table) (fn : Nat) (S : List I → Option Out) : Table := fun f is => bif Nat.beq f fn then S is else T f is
theorem extT_self {fn : Nat} {S : List I → Option Out} {is : List I} : extT T fn S fn is = S is := by simp [extT]
theorem extT_other {fn f : Nat} {S : List I → Option Out} {is : List I} (h : Nat.beq f fn = false) : extT T fn S f is = T f is := by simp [extT, h]
/-- Below a measure. -/
def cutT (S : List I → Option Out) (μ : List I → Nat) (n : Nat) : List I → Option Out := fun is => if μ is < n then S is else none
theorem good_ext {fn : Nat} {af : AFun} {S : List I → Option Out} (hT : Good P sg T) (hc : chkFun P sg fn af = true)
    (hS : ∀ is o, S is = some o → is.length = af.modes.length ∧ ∃ k, evalF T k af is = some o) : Good P sg (extT T fn S) := fun f is o h => by
  unfold extT at h
  cases hf : Nat.beq f fn with
  | true =>
    have := Nat.eq_of_beq_eq_true hf
    subst this
    simp only [hf, cond_true] at h
    obtain ⟨h1, k, h2⟩ := hS is o h
    exact evalF_ok hT hc h1 h2
  | false =>
    simp only [hf, cond_false] at h
    exact hT f is o h
theorem good_rec {fn : Nat} {af : AFun} {S : List I → Option Out} (μ : List I → Nat) (hT : Good P sg T) (hc : chkFun P sg fn af = true)
    (hS : ∀ is o, S is = some o → is.length = af.modes.length ∧ ∃ k, evalF (extT T fn (cutT S μ (μ is))) k af is = some o) : Good P sg (extT T fn S) := by
  have key : ∀ n, Good P sg (extT T fn (cutT S μ n)) := by
    intro n
    induction n using Nat.strongRecOn with
    | _ n ih =>
      intro f is o h
      unfold extT at h
      cases hf : Nat.beq f fn with
      | true =>
        have := Nat.eq_of_beq_eq_true hf
        subst this
        simp only [hf, cond_true, cutT] at h
        split at h
        · rename_i hlt
          obtain ⟨h1, k, h2⟩ := hS is o h
          exact evalF_ok (ih _ hlt) hc h1 h2
        · simp at h
      | false =>
        simp only [hf, cond_false] at h
        exact hT f is o h
  intro f is o h
  unfold extT at h
  cases hf : Nat.beq f fn with
  | true =>
    have := Nat.eq_of_beq_eq_true hf
    subst this
    simp only [hf, cond_true] at h
    obtain ⟨h1, k, h2⟩ := hS is o h
    exact evalF_ok (key _) hc h1 h2
  | false =>
    simp only [hf, cond_false] at h
    exact hT f is o h
/-- Two functions that call each other. -/
theorem good_rec2 {fn gn : Nat} {af ag : AFun} {S U : List I → Option Out} (hne : Nat.beq gn fn = false) (μ ν : List I → Nat) (hT : Good P sg T) (hc : chkFun P sg fn af = true) (hd : chkFun P sg gn ag = true)
    (hS : ∀ is o, S is = some o → is.length = af.modes.length ∧ ∃ k, evalF (extT (extT T fn (cutT S μ (μ is))) gn (cutT U ν (μ is))) k af is = some o)
    (hU : ∀ is o, U is = some o → is.length = ag.modes.length ∧ ∃ k, evalF (extT (extT T fn (cutT S μ (ν is))) gn (cutT U ν (ν is))) k ag is = some o) : Good P sg (extT (extT T fn S) gn U) := by
  have step : ∀ {S' U' : List I → Option Out}, (∀ is o, S' is = some o → Sat P sg fn is o) → (∀ is o, U' is = some o → Sat P sg gn is o) → Good P sg (extT (extT T fn S') gn U') := by
    intro S' U' h1 h2 f is o h
    unfold extT at h
    cases hg : Nat.beq f gn with
    | true =>
      have := Nat.eq_of_beq_eq_true hg
      subst this
      simp only [hg, cond_true] at h
      exact h2 is o h
    | false =>
      simp only [hg, cond_false] at h
      cases hf : Nat.beq f fn with
      | true =>
        have := Nat.eq_of_beq_eq_true hf
        subst this
        simp only [hf, cond_true] at h
        exact h1 is o h
      | false =>
        simp only [hf, cond_false] at h
        exact hT f is o h
  have key : ∀ n, Good P sg (extT (extT T fn (cutT S μ n)) gn (cutT U ν n)) := by
    intro n
    induction n using Nat.strongRecOn with
    | _ n ih =>
      refine step (fun is o h => ?_) (fun is o h => ?_)
      · unfold cutT at h
        split at h
        · rename_i hlt
          obtain ⟨h1, k, h2⟩ := hS is o h
          exact evalF_ok (ih _ hlt) hc h1 h2
        · simp at h
      · unfold cutT at h
        split at h
        · rename_i hlt
          obtain ⟨h1, k, h2⟩ := hU is o h
          exact evalF_ok (ih _ hlt) hd h1 h2
        · simp at h
  refine step (fun is o h => ?_) (fun is o h => ?_)
  · obtain ⟨h1, k, h2⟩ := hS is o h
    exact evalF_ok (key _) hc h1 h2
  · obtain ⟨h1, k, h2⟩ := hU is o h
    exact evalF_ok (key _) hd h1 h2
end
end Go.Am
