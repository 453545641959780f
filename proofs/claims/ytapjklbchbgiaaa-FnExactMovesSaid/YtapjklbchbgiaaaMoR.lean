/- FnExactMoves: called, it returns true, and its arguments read as they did. No conditions. -/
import Derived.Test.YtapjklbchbgiaaaRows
import Derived.WalkKit
import Derived.ProofKit
import Derived.OpenShut
import Derived.ChangeOld
import Derived.Below
import Derived.Test.YtapjklbchbgiaaaMoL
namespace Go.Am.Mo
set_option maxRecDepth 100000
set_option linter.unusedVariables false
def LT : List TypeId := [142, 148, 150, 9, 239, 241, 112, 223, 256, 244]
def sg : Sigs := fun _ => none
theorem fs_ok : ∀ p ∈ fs.funs, chkFun Go.Proofs.Try.prog sg p.1 p.2 = true := List.all_eq_true.1 (show (fs.funs.all fun p => chkFun Go.Proofs.Try.prog sg p.1 p.2) = true by kernel_rfl)
theorem nat_ok : ∀ T, Good Go.Proofs.Try.prog sg T → Good Go.Proofs.Try.prog sg (fs.nat T) := fun T _ => natCmp_good (n := 158) (fn := Go.Proofs.Try.f158) (by kernel_rfl) (by kernel_rfl) (by kernel_rfl) (by kernel_rfl) (by kernel_rfl) rfl
theorem closed : closedB Go.Proofs.Try.prog LT = true := by kernel_rfl
theorem laid : laidOutB Go.Proofs.Try.prog = true := by kernel_rfl
theorem pars : ([50, 50] : List TypeId).all (parOk Go.Proofs.Try.prog LT) = true := by kernel_rfl
theorem agg50 : aggB Go.Proofs.Try.prog 50 = some true := by kernel_rfl
theorem par50 {i : I} (h : ParSh Go.Proofs.Try.prog 50 i) : ∃ r, i = .g r ∧ ShL E (E 50) r := by
  unfold E
  cases h with
  | g h ha => exact ⟨_, rfl, h⟩
  | d h hk ha => rw [agg50] at ha; cases ha
end Go.Am.Mo
namespace Go.Proofs.Ytapjklbchbgiaaa.fnExactMoves
open Go.ChangeShapes Go.WideShapes Go.ChangeAt Go.RowKit
set_option linter.unusedVariables false
set_option linter.unusedSimpArgs false

theorem own : ownKnob Try.prog.godebug = none := by kernel_rfl
theorem calls (W : World) (args : Array Value) (is : List Go.Am.I) (hi : Go.Am.IFroL (Go.Am.Sigs.X Go.Am.Mo.sg) W (Go.Am.Old W) is args.toList) (hs : Go.Am.ParShL Try.prog [50, 50] is) : Calls Try.prog 4 args W fun e W' => e = .returned (.bool true) ∧ Below W.heap.size W W' := by
  obtain _ | ⟨h0, hs⟩ := hs
  obtain _ | ⟨h1, hs⟩ := hs
  cases hs
  obtain ⟨r0, rfl, g0⟩ := Go.Am.Mo.par50 h0
  obtain ⟨r1, rfl, g1⟩ := Go.Am.Mo.par50 h1
  obtain ⟨d, hd⟩ := Go.Am.Mo.f4 g0 g1
  exact Go.Am.law_calls (sg := Go.Am.Mo.sg) (T := Go.Am.TabD Go.Am.Mo.fs d) (Go.Am.tabD_good Go.Am.Mo.fs_ok Go.Am.Mo.nat_ok d) rfl Try.func4 rfl rfl hi (hd d d (Nat.le_refl _) (Nat.le_refl _))

set_option maxRecDepth 100000 in
theorem lifted (os : Os) (started : os.Started) (H : Type) (enc : TypeId × Value → H) :
    ReturnsInHanded {} Try.checked os 4 .any (Rows.fnExactMovesSpec.pre6 enc Try.prog Try.f4 Rows.fnExactMovesRow.domain false) (Rows.fnExactMovesSpec.post enc Try.prog Try.f4 false true false false) := by
  refine returnsInHanded_of_change (C := Try.checked) own started (by kernel_rfl) Try.func4
    (ChangeSpec.witness6 (enc := enc) (C := Try.checked) false ⟨#[], #[.agg #[.int .i64 0, .int .i64 0, .int .i64 0, .slice none 0 0, .slice none 0 0, .slice none 0 0, .slice none 0 0], .agg #[.int .i64 0, .int .i64 0, .int .i64 0, .slice none 0 0, .slice none 0 0, .slice none 0 0, .slice none 0 0]], []⟩ 8 (by kernel_rfl) (by kernel_rfl) (by kernel_rfl) (by kernel_rfl)) ?_
  intro W base args ds gs before hval0 hW hcnd _
  have hval : ∀ (j : Nat) t v, Try.f4.params[j]? = some t → args[j]? = some v → Value.okWide Try.prog W .any base t v := hval0
  have hW' := hW
  obtain ⟨p, q, hA0, hV, rfl, hfz, hnd⟩ := hW
  have hA : DataW.TrodAll enc Try.prog W 0 (fun _ => true) true Try.f4.params.toList args.toList ds p := hA0
  rw [Try.params4] at hA hval
  obtain ⟨rfl, rfl⟩ := trodVars_none hV
  clear hA0 hval0
  simp only [List.append_nil] at hW'
  have hlt : ∀ x ∈ p, x.block < W.heap.size := fun x hx => by simpa using hW'.lt x hx
  have hA1 : DataW.TrodAll enc Try.prog W 0 (fun _ => true) true [50, 50] args.toList ds p := hA
  obtain ⟨is, hi, hs⟩ := Go.Am.pars_ok (X := Go.Am.Sigs.X Go.Am.Mo.sg) Go.Am.Mo.closed Go.Am.Mo.pars hA1 fun j t v h1 h2 => by
    have := hval j t v (by simpa using h1) (by simpa using h2)
    exact this
  refine (calls W args is hi hs).mono fun e W' ⟨he, bel⟩ => ?_
  subst he
  obtain ⟨v0, v1, d0, d1, p0, p1, hargs, rfl, rfl, h0, h1⟩ := trodAll_two hA1
  have stay := Go.Am.pars_stay Go.Am.Mo.laid bel Go.Am.Mo.pars hA1 hlt
  exact ⟨_, rfl, _, _, _, [], _, [], hW', trodAll_mk1 (shut_bool Try.underlying4 _), stay, rfl, bel.frame _, fun h => by cases h⟩
end Go.Proofs.Ytapjklbchbgiaaa.fnExactMoves

namespace Go.Proofs.Ytapjklbchbgiaaa.fnExactMoves
theorem over : Rows.fnExactMovesRow.holds Try.pinned (OpenSpec.ofChange Rows.fnExactMovesSpec) :=
  OpenClaim.holds_of_wide 4 Try.f4 rfl rfl rfl rfl rfl rfl rfl ⟨rfl, rfl, rfl, rfl, rfl⟩ rfl rfl rfl rfl rfl (by kernel_rfl) Try.func4 (by kernel_rfl)
    (of_decide_eq_true (by kernel_rfl)) (by unfold Func.isWrapper; first | (rw [if_pos (by decide +kernel)]; kernel_rfl) | (rw [if_neg (by decide +kernel)]; exact ⟨rfl, rfl⟩))
    (fun os started H enc _ => lifted os started H enc)
theorem proved : Rows.FnExactMovesSaid := over
end Go.Proofs.Ytapjklbchbgiaaa.fnExactMoves
namespace Go.Proofs.Ytapjklbchbgiaaa
theorem moves_holds : Rows.FnExactMovesSaid := fnExactMoves.proved
#print axioms moves_holds
end Go.Proofs.Ytapjklbchbgiaaa
