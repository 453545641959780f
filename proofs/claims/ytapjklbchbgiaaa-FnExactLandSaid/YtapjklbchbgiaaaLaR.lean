/- FnExactLand: called, it returns true, and its arguments read as they did. No conditions. -/
import Derived.Test.YtapjklbchbgiaaaRows
import Derived.WalkKit
import Derived.ProofKit
import Derived.OpenShut
import Derived.ChangeOld
import Derived.Below
import Derived.Test.YtapjklbchbgiaaaLaL
namespace Go.Am.La
set_option maxRecDepth 100000
set_option linter.unusedVariables false
def LT : List TypeId := [114, 129, 9, 112]
def sg : Sigs := fun n => match n with
  | 15 => some [.lent, .rd]
  | 16 => some [.lent, .rd]
  | 44 => some [.lent, .rd]
  | 45 => some [.lent, .rd]
  | 74 => some [.lent, .rd]
  | 92 => some [.lent, .rd]
  | _ => none
theorem fs_ok : ∀ p ∈ fs.funs, chkFun Go.Proofs.Try.prog sg p.1 p.2 = true := List.all_eq_true.1 (show (fs.funs.all fun p => chkFun Go.Proofs.Try.prog sg p.1 p.2) = true by kernel_rfl)
theorem nat_ok : ∀ T, Good Go.Proofs.Try.prog sg T → Good Go.Proofs.Try.prog sg (fs.nat T) := fun T _ => good_none
theorem closed : closedB Go.Proofs.Try.prog LT = true := by kernel_rfl
theorem laid : laidOutB Go.Proofs.Try.prog = true := by kernel_rfl
theorem pars : ([25, 27] : List TypeId).all (parOk Go.Proofs.Try.prog LT) = true := by kernel_rfl
theorem agg25 : aggB Go.Proofs.Try.prog 25 = some true := by kernel_rfl
theorem par25 {i : I} (h : ParSh Go.Proofs.Try.prog 25 i) : ∃ r, i = .g r ∧ ShL E (E 25) r := by
  unfold E
  cases h with
  | g h ha => exact ⟨_, rfl, h⟩
  | d h hk ha => rw [agg25] at ha; cases ha
theorem agg27 : aggB Go.Proofs.Try.prog 27 = some true := by kernel_rfl
theorem par27 {i : I} (h : ParSh Go.Proofs.Try.prog 27 i) : ∃ r, i = .g r ∧ ShL E (E 27) r := by
  unfold E
  cases h with
  | g h ha => exact ⟨_, rfl, h⟩
  | d h hk ha => rw [agg27] at ha; cases ha
end Go.Am.La
namespace Go.Proofs.Ytapjklbchbgiaaa.fnExactLand
open Go.ChangeShapes Go.WideShapes Go.ChangeAt Go.RowKit
set_option linter.unusedVariables false
set_option linter.unusedSimpArgs false

theorem own : ownKnob Try.prog.godebug = none := by kernel_rfl
theorem calls (W : World) (args : Array Value) (is : List Go.Am.I) (hi : Go.Am.IFroL (Go.Am.Sigs.X Go.Am.La.sg) W (Go.Am.Old W) is args.toList) (hs : Go.Am.ParShL Try.prog [25, 27] is) : Calls Try.prog 3 args W fun e W' => e = .returned (.bool true) ∧ Below W.heap.size W W' := by
  obtain _ | ⟨h0, hs⟩ := hs
  obtain _ | ⟨h1, hs⟩ := hs
  cases hs
  obtain ⟨r0, rfl, g0⟩ := Go.Am.La.par25 h0
  obtain ⟨r1, rfl, g1⟩ := Go.Am.La.par27 h1
  obtain ⟨d, hd⟩ := Go.Am.La.f3 g0 g1
  exact Go.Am.law_calls (sg := Go.Am.La.sg) (T := Go.Am.TabD Go.Am.La.fs d) (Go.Am.tabD_good Go.Am.La.fs_ok Go.Am.La.nat_ok d) rfl Try.func3 rfl rfl hi (hd d d (Nat.le_refl _) (Nat.le_refl _))

set_option maxRecDepth 100000 in
theorem lifted (os : Os) (started : os.Started) (H : Type) (enc : TypeId × Value → H) :
    ReturnsInHanded {} Try.checked os 3 .any (Rows.fnExactLandSpec.pre6 enc Try.prog Try.f3 Rows.fnExactLandRow.domain false) (Rows.fnExactLandSpec.post enc Try.prog Try.f3 false true false false) := by
  refine returnsInHanded_of_change (C := Try.checked) own started (by kernel_rfl) Try.func3
    (ChangeSpec.witness6 (enc := enc) (C := Try.checked) false ⟨#[], #[.agg #[.string ByteArray.empty, .int .i64 0, .int .i64 0, .slice none 0 0, .slice none 0 0], .agg #[.int .i64 0, .string ByteArray.empty, .int .i64 0, .slice none 0 0, .slice none 0 0]], []⟩ 8 (by kernel_rfl) (by kernel_rfl) (by kernel_rfl) (by kernel_rfl)) ?_
  intro W base args ds gs before hval0 hW hcnd _
  have hval : ∀ (j : Nat) t v, Try.f3.params[j]? = some t → args[j]? = some v → Value.okWide Try.prog W .any base t v := hval0
  have hW' := hW
  obtain ⟨p, q, hA0, hV, rfl, hfz, hnd⟩ := hW
  have hA : DataW.TrodAll enc Try.prog W 0 (fun _ => true) true Try.f3.params.toList args.toList ds p := hA0
  rw [Try.params3] at hA hval
  obtain ⟨rfl, rfl⟩ := trodVars_none hV
  clear hA0 hval0
  simp only [List.append_nil] at hW'
  have hlt : ∀ x ∈ p, x.block < W.heap.size := fun x hx => by simpa using hW'.lt x hx
  have hA1 : DataW.TrodAll enc Try.prog W 0 (fun _ => true) true [25, 27] args.toList ds p := hA
  obtain ⟨is, hi, hs⟩ := Go.Am.pars_ok (X := Go.Am.Sigs.X Go.Am.La.sg) Go.Am.La.closed Go.Am.La.pars hA1 fun j t v h1 h2 => by
    have := hval j t v (by simpa using h1) (by simpa using h2)
    exact this
  refine (calls W args is hi hs).mono fun e W' ⟨he, bel⟩ => ?_
  subst he
  obtain ⟨v0, v1, d0, d1, p0, p1, hargs, rfl, rfl, h0, h1⟩ := trodAll_two hA1
  have stay := Go.Am.pars_stay Go.Am.La.laid bel Go.Am.La.pars hA1 hlt
  exact ⟨_, rfl, _, _, _, [], _, [], hW', trodAll_mk1 (shut_bool Try.underlying4 _), stay, rfl, bel.frame _, fun h => by cases h⟩
end Go.Proofs.Ytapjklbchbgiaaa.fnExactLand

namespace Go.Proofs.Ytapjklbchbgiaaa.fnExactLand
theorem over : Rows.fnExactLandRow.holds Try.pinned (OpenSpec.ofChange Rows.fnExactLandSpec) :=
  OpenClaim.holds_of_wide 3 Try.f3 rfl rfl rfl rfl rfl rfl rfl ⟨rfl, rfl, rfl, rfl, rfl⟩ rfl rfl rfl rfl rfl (by kernel_rfl) Try.func3 (by kernel_rfl)
    (of_decide_eq_true (by kernel_rfl)) (by unfold Func.isWrapper; first | (rw [if_pos (by decide +kernel)]; kernel_rfl) | (rw [if_neg (by decide +kernel)]; exact ⟨rfl, rfl⟩))
    (fun os started H enc _ => lifted os started H enc)
theorem proved : Rows.FnExactLandSaid := over
end Go.Proofs.Ytapjklbchbgiaaa.fnExactLand
namespace Go.Proofs.Ytapjklbchbgiaaa
theorem land_holds : Rows.FnExactLandSaid := fnExactLand.proved
#print axioms land_holds
end Go.Proofs.Ytapjklbchbgiaaa
