/- FnExactSummary: called, it returns true, and its arguments read as they did. No conditions. -/
import Derived.Test.YtgnicnelpcndgaaRows
import Derived.WalkKit
import Derived.ProofKit
import Derived.OpenShut
import Derived.ChangeOld
import Derived.Below
import Derived.Test.YtgnicnelpcndgaaSmL
namespace Go.Am.Sm
set_option maxRecDepth 100000
def LT : List TypeId := [177, 183, 185, 9, 267, 269, 150, 257, 272, 282]
theorem fs_ok : ∀ p ∈ fs, chkFun Go.Proofs.Try.prog (fun _ => none) p.1 p.2 = true := List.all_eq_true.1 (show (fs.all fun p => chkFun Go.Proofs.Try.prog (fun _ => none) p.1 p.2) = true by kernel_rfl)
theorem closed : closedB Go.Proofs.Try.prog LT = true := by kernel_rfl
theorem laid : laidOutB Go.Proofs.Try.prog = true := by kernel_rfl
theorem pars : ([50] : List TypeId).all (parOk Go.Proofs.Try.prog LT) = true := by kernel_rfl
theorem agg50 : aggB Go.Proofs.Try.prog 50 = some true := by kernel_rfl
theorem par50 {i : I} (h : ParSh Go.Proofs.Try.prog 50 i) : ∃ r, i = .g r ∧ ShL E (E 50) r := by
  unfold E
  cases h with
  | g h ha => exact ⟨_, rfl, h⟩
  | d h hk ha => rw [agg50] at ha; cases ha
end Go.Am.Sm
namespace Go.Proofs.Ytgnicnelpcndgaa.fnExactSummary
open Go.ChangeShapes Go.WideShapes Go.ChangeAt Go.RowKit
set_option linter.unusedVariables false
set_option linter.unusedSimpArgs false

theorem own : ownKnob Try.prog.godebug = none := by kernel_rfl
theorem calls (W : World) (args : Array Value) (is : List Go.Am.I) (hi : Go.Am.IFroL (Go.Am.Sigs.X fun _ => none) W (Go.Am.Old W) is args.toList) (hs : Go.Am.ParShL Try.prog [50] is) : Calls Try.prog 6 args W fun e W' => e = .returned (.bool true) ∧ Below W.heap.size W W' := by
  obtain _ | ⟨h0, hs⟩ := hs
  cases hs
  obtain ⟨r0, rfl, g0⟩ := Go.Am.Sm.par50 h0
  obtain ⟨d, hd⟩ := Go.Am.Sm.f6 g0
  exact Go.Am.law_calls (sg := fun _ => none) (T := Go.Am.TabD Go.Am.Sm.fs d) (Go.Am.tabD_good Go.Am.Sm.fs_ok d) rfl Try.func6 rfl rfl hi (hd d d (Nat.le_refl _) (Nat.le_refl _))

set_option maxRecDepth 100000 in
theorem lifted (os : Os) (started : os.Started) (H : Type) (enc : TypeId × Value → H) :
    ReturnsInHanded {} Try.checked os 6 .any (Rows.fnExactSummarySpec.pre6 enc Try.prog Try.f6 Rows.fnExactSummaryRow.domain false) (Rows.fnExactSummarySpec.post enc Try.prog Try.f6 false true false false) := by
  refine returnsInHanded_of_change (C := Try.checked) own started (by kernel_rfl) Try.func6
    (ChangeSpec.witness6 (enc := enc) (C := Try.checked) false ⟨#[], #[.agg #[.int .i64 0, .int .i64 0, .int .i64 0, .slice none 0 0, .slice none 0 0, .slice none 0 0, .slice none 0 0]], []⟩ 8 (by kernel_rfl) (by kernel_rfl) (by kernel_rfl) (by kernel_rfl)) ?_
  intro W base args ds gs before hval0 hW hcnd _
  have hval : ∀ (j : Nat) t v, Try.f6.params[j]? = some t → args[j]? = some v → Value.okWide Try.prog W .any base t v := hval0
  have hW' := hW
  obtain ⟨p, q, hA0, hV, rfl, hfz, hnd⟩ := hW
  have hA : DataW.TrodAll enc Try.prog W 0 (fun _ => true) true Try.f6.params.toList args.toList ds p := hA0
  rw [Try.params6] at hA hval
  obtain ⟨rfl, rfl⟩ := trodVars_none hV
  clear hA0 hval0
  simp only [List.append_nil] at hW'
  have hlt : ∀ x ∈ p, x.block < W.heap.size := fun x hx => by simpa using hW'.lt x hx
  have hA1 : DataW.TrodAll enc Try.prog W 0 (fun _ => true) true [50] args.toList ds p := hA
  obtain ⟨is, hi, hs⟩ := Go.Am.pars_ok (X := Go.Am.Sigs.X fun _ => none) Go.Am.Sm.closed Go.Am.Sm.pars hA1 fun j t v h1 h2 => by
    have := hval j t v (by simpa using h1) (by simpa using h2)
    exact this
  refine (calls W args is hi hs).mono fun e W' ⟨he, bel⟩ => ?_
  subst he
  obtain ⟨v0, d0, hargs, rfl, h0⟩ := trodAll_one hA1
  have stay := Go.Am.pars_stay Go.Am.Sm.laid bel Go.Am.Sm.pars hA1 hlt
  exact ⟨_, rfl, _, _, _, [], _, [], hW', trodAll_mk1 (shut_bool Try.underlying4 _), stay, rfl, bel.frame _, fun h => by cases h⟩
end Go.Proofs.Ytgnicnelpcndgaa.fnExactSummary

namespace Go.Proofs.Ytgnicnelpcndgaa.fnExactSummary
theorem over : Rows.fnExactSummaryRow.holds Try.pinned (OpenSpec.ofChange Rows.fnExactSummarySpec) :=
  OpenClaim.holds_of_wide 6 Try.f6 rfl rfl rfl rfl rfl rfl rfl ⟨rfl, rfl, rfl, rfl, rfl⟩ rfl rfl rfl rfl rfl (by kernel_rfl) Try.func6 (by kernel_rfl)
    (of_decide_eq_true (by kernel_rfl)) (by unfold Func.isWrapper; first | (rw [if_pos (by decide +kernel)]; kernel_rfl) | (rw [if_neg (by decide +kernel)]; exact ⟨rfl, rfl⟩))
    (fun os started H enc _ => lifted os started H enc)
theorem proved : Rows.FnExactSummarySaid := over
end Go.Proofs.Ytgnicnelpcndgaa.fnExactSummary
namespace Go.Proofs.Ytgnicnelpcndgaa
theorem summary_holds : Rows.FnExactSummarySaid := fnExactSummary.proved
#print axioms summary_holds
end Go.Proofs.Ytgnicnelpcndgaa
