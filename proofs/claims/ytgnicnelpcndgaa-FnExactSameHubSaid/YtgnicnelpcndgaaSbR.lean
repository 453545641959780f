/- FnExactSameHub: called, it returns true, and its arguments read as they did. No conditions. -/
import Derived.Test.YtgnicnelpcndgaaRows
import Derived.WalkKit
import Derived.ProofKit
import Derived.OpenShut
import Derived.ChangeOld
import Derived.Below
import Derived.Test.YtgnicnelpcndgaaSbL
namespace Go.Am.Sb
set_option maxRecDepth 100000
def LT : List TypeId := [177, 183, 185, 9, 267, 269, 150, 257, 272, 282]
theorem fs_ok : ∀ p ∈ fs, chkFun Go.Proofs.Try.prog (fun _ => none) p.1 p.2 = true := List.all_eq_true.1 (show (fs.all fun p => chkFun Go.Proofs.Try.prog (fun _ => none) p.1 p.2) = true by kernel_rfl)
theorem closed : closedB Go.Proofs.Try.prog LT = true := by kernel_rfl
theorem laid : laidOutB Go.Proofs.Try.prog = true := by kernel_rfl
theorem pars : ([50, 50] : List TypeId).all (parOk Go.Proofs.Try.prog LT) = true := by kernel_rfl
theorem agg50 : aggB Go.Proofs.Try.prog 50 = some true := by kernel_rfl
theorem par50 {i : I} (h : ParSh Go.Proofs.Try.prog 50 i) : ∃ r, i = .g r ∧ ShL E (E 50) r := by
  unfold E
  cases h with
  | g h ha => exact ⟨_, rfl, h⟩
  | d h hk ha => rw [agg50] at ha; cases ha
end Go.Am.Sb
namespace Go.Proofs.Ytgnicnelpcndgaa.fnExactSameHub
open Go.ChangeShapes Go.WideShapes Go.ChangeAt Go.RowKit
set_option linter.unusedVariables false
set_option linter.unusedSimpArgs false

theorem own : ownKnob Try.prog.godebug = none := by kernel_rfl
theorem calls (W : World) (args : Array Value) (is : List Go.Am.I) (hi : Go.Am.IFroL (Go.Am.Sigs.X fun _ => none) W (Go.Am.Old W) is args.toList) (hs : Go.Am.ParShL Try.prog [50, 50] is) : Calls Try.prog 7 args W fun e W' => e = .returned (.bool true) ∧ Below W.heap.size W W' := by
  obtain _ | ⟨h0, hs⟩ := hs
  obtain _ | ⟨h1, hs⟩ := hs
  cases hs
  obtain ⟨r0, rfl, g0⟩ := Go.Am.Sb.par50 h0
  obtain ⟨r1, rfl, g1⟩ := Go.Am.Sb.par50 h1
  obtain ⟨d, hd⟩ := Go.Am.Sb.f7 g0 g1
  exact Go.Am.law_calls (sg := fun _ => none) (T := Go.Am.TabD Go.Am.Sb.fs d) (Go.Am.tabD_good Go.Am.Sb.fs_ok d) rfl Try.func7 rfl rfl hi (hd d d (Nat.le_refl _) (Nat.le_refl _))

set_option maxRecDepth 100000 in
theorem lifted (os : Os) (started : os.Started) (H : Type) (enc : TypeId × Value → H) :
    ReturnsInHanded {} Try.checked os 7 .any (Rows.fnExactSameHubSpec.pre6 enc Try.prog Try.f7 Rows.fnExactSameHubRow.domain false) (Rows.fnExactSameHubSpec.post enc Try.prog Try.f7 false true false false) := by
  refine returnsInHanded_of_change (C := Try.checked) own started (by kernel_rfl) Try.func7
    (ChangeSpec.witness6 (enc := enc) (C := Try.checked) false ⟨#[], #[.agg #[.int .i64 0, .int .i64 0, .int .i64 0, .slice none 0 0, .slice none 0 0, .slice none 0 0, .slice none 0 0], .agg #[.int .i64 0, .int .i64 0, .int .i64 0, .slice none 0 0, .slice none 0 0, .slice none 0 0, .slice none 0 0]], []⟩ 8 (by kernel_rfl) (by kernel_rfl) (by kernel_rfl) (by kernel_rfl)) ?_
  intro W base args ds gs before hval0 hW hcnd _
  have hval : ∀ (j : Nat) t v, Try.f7.params[j]? = some t → args[j]? = some v → Value.okWide Try.prog W .any base t v := hval0
  have hW' := hW
  obtain ⟨p, q, hA0, hV, rfl, hfz, hnd⟩ := hW
  have hA : DataW.TrodAll enc Try.prog W 0 (fun _ => true) true Try.f7.params.toList args.toList ds p := hA0
  rw [Try.params7] at hA hval
  obtain ⟨rfl, rfl⟩ := trodVars_none hV
  clear hA0 hval0
  simp only [List.append_nil] at hW'
  have hlt : ∀ x ∈ p, x.block < W.heap.size := fun x hx => by simpa using hW'.lt x hx
  have hA1 : DataW.TrodAll enc Try.prog W 0 (fun _ => true) true [50, 50] args.toList ds p := hA
  obtain ⟨is, hi, hs⟩ := Go.Am.pars_ok (X := Go.Am.Sigs.X fun _ => none) Go.Am.Sb.closed Go.Am.Sb.pars hA1 fun j t v h1 h2 => by
    have := hval j t v (by simpa using h1) (by simpa using h2)
    exact this
  refine (calls W args is hi hs).mono fun e W' ⟨he, bel⟩ => ?_
  subst he
  obtain ⟨v0, v1, d0, d1, p0, p1, hargs, rfl, rfl, h0, h1⟩ := trodAll_two hA1
  have stay := Go.Am.pars_stay Go.Am.Sb.laid bel Go.Am.Sb.pars hA1 hlt
  exact ⟨_, rfl, _, _, _, [], _, [], hW', trodAll_mk1 (shut_bool Try.underlying4 _), stay, rfl, bel.frame _, fun h => by cases h⟩
end Go.Proofs.Ytgnicnelpcndgaa.fnExactSameHub

namespace Go.Proofs.Ytgnicnelpcndgaa.fnExactSameHub
theorem over : Rows.fnExactSameHubRow.holds Try.pinned (OpenSpec.ofChange Rows.fnExactSameHubSpec) :=
  OpenClaim.holds_of_wide 7 Try.f7 rfl rfl rfl rfl rfl rfl rfl ⟨rfl, rfl, rfl, rfl, rfl⟩ rfl rfl rfl rfl rfl (by kernel_rfl) Try.func7 (by kernel_rfl)
    (of_decide_eq_true (by kernel_rfl)) (by unfold Func.isWrapper; first | (rw [if_pos (by decide +kernel)]; kernel_rfl) | (rw [if_neg (by decide +kernel)]; exact ⟨rfl, rfl⟩))
    (fun os started H enc _ => lifted os started H enc)
theorem proved : Rows.FnExactSameHubSaid := over
end Go.Proofs.Ytgnicnelpcndgaa.fnExactSameHub
namespace Go.Proofs.Ytgnicnelpcndgaa
theorem sameHub_holds : Rows.FnExactSameHubSaid := fnExactSameHub.proved
#print axioms sameHub_holds
end Go.Proofs.Ytgnicnelpcndgaa
