/- FnExactAsk: called, it returns true, and its arguments read as they did. No conditions. -/
import Derived.Test.YtapjklbchbgiaaaRows
import Derived.WalkKit
import Derived.ProofKit
import Derived.OpenShut
import Derived.ChangeOld
import Derived.Below
import Derived.Test.YtapjklbchbgiaaaAsL
namespace Go.Am.As
set_option maxRecDepth 100000
set_option linter.unusedVariables false
def LT : List TypeId := [114, 129, 9, 112]
def sg : Sigs := fun n => match n with
  | 15 => some [.lent, .rd]
  | 16 => some [.lent, .rd]
  | 44 => some [.lent, .rd]
  | 45 => some [.lent, .rd]
  | 74 => some [.lent, .rd]
  | 92 => some [.lent, .rd]
  | 112 => some [.lent, .rd]
  | 114 => some [.own, .rd]
  | 140 => some [.lent, .rd, .rd]
  | 163 => some [.lent, .rd, .rd, .rd]
  | 164 => some [.lent, .rd, .rd, .rd, .rd]
  | 181 => some [.lent, .rd, .rd, .rd, .rd]
  | 187 => some [.lent, .rd, .rd, .rd, .rd]
  | _ => none
theorem fs_ok : ∀ p ∈ fs.funs, chkFun Go.Proofs.Try.prog sg p.1 p.2 = true := List.all_eq_true.1 (show (fs.funs.all fun p => chkFun Go.Proofs.Try.prog sg p.1 p.2) = true by kernel_rfl)
theorem nat_ok : ∀ T, Good Go.Proofs.Try.prog sg T → Good Go.Proofs.Try.prog sg (fs.nat T) := fun T _ => good_none
theorem closed : closedB Go.Proofs.Try.prog LT = true := by kernel_rfl
theorem laid : laidOutB Go.Proofs.Try.prog = true := by kernel_rfl
theorem pars : ([25] : List TypeId).all (parOk Go.Proofs.Try.prog LT) = true := by kernel_rfl
theorem agg25 : aggB Go.Proofs.Try.prog 25 = some true := by kernel_rfl
theorem par25 {i : I} (h : ParSh Go.Proofs.Try.prog 25 i) : ∃ r, i = .g r ∧ ShL E (E 25) r := by
  unfold E
  cases h with
  | g h ha => exact ⟨_, rfl, h⟩
  | d h hk ha => rw [agg25] at ha; cases ha
end Go.Am.As
namespace Go.Proofs.Ytapjklbchbgiaaa.fnExactAsk
open Go.ChangeShapes Go.WideShapes Go.ChangeAt Go.RowKit
set_option linter.unusedVariables false
set_option linter.unusedSimpArgs false

theorem own : ownKnob Try.prog.godebug = none := by kernel_rfl
theorem calls (W : World) (args : Array Value) (is : List Go.Am.I) (hi : Go.Am.IFroL (Go.Am.Sigs.X Go.Am.As.sg) W (Go.Am.Old W) is args.toList) (hs : Go.Am.ParShL Try.prog [25] is) : Calls Try.prog 5 args W fun e W' => e = .returned (.bool true) ∧ Below W.heap.size W W' := by
  obtain _ | ⟨h0, hs⟩ := hs
  cases hs
  obtain ⟨r0, rfl, g0⟩ := Go.Am.As.par25 h0
  obtain ⟨d, hd⟩ := Go.Am.As.f5 g0
  exact Go.Am.law_calls (sg := Go.Am.As.sg) (T := Go.Am.TabD Go.Am.As.fs d) (Go.Am.tabD_good Go.Am.As.fs_ok Go.Am.As.nat_ok d) rfl Try.func5 rfl rfl hi (hd d d (Nat.le_refl _) (Nat.le_refl _))

set_option maxRecDepth 100000 in
theorem lifted (os : Os) (started : os.Started) (H : Type) (enc : TypeId × Value → H) :
    ReturnsInHanded {} Try.checked os 5 .any (Rows.fnExactAskSpec.pre6 enc Try.prog Try.f5 Rows.fnExactAskRow.domain false) (Rows.fnExactAskSpec.post enc Try.prog Try.f5 false true false false) := by
  refine returnsInHanded_of_change (C := Try.checked) own started (by kernel_rfl) Try.func5
    (ChangeSpec.witness6 (enc := enc) (C := Try.checked) false ⟨#[], #[.agg #[.string ByteArray.empty, .int .i64 0, .int .i64 0, .slice none 0 0, .slice none 0 0]], []⟩ 8 (by kernel_rfl) (by kernel_rfl) (by kernel_rfl) (by kernel_rfl)) ?_
  intro W base args ds gs before hval0 hW hcnd _
  have hval : ∀ (j : Nat) t v, Try.f5.params[j]? = some t → args[j]? = some v → Value.okWide Try.prog W .any base t v := hval0
  have hW' := hW
  obtain ⟨p, q, hA0, hV, rfl, hfz, hnd⟩ := hW
  have hA : DataW.TrodAll enc Try.prog W 0 (fun _ => true) true Try.f5.params.toList args.toList ds p := hA0
  rw [Try.params5] at hA hval
  obtain ⟨rfl, rfl⟩ := trodVars_none hV
  clear hA0 hval0
  simp only [List.append_nil] at hW'
  have hlt : ∀ x ∈ p, x.block < W.heap.size := fun x hx => by simpa using hW'.lt x hx
  have hA1 : DataW.TrodAll enc Try.prog W 0 (fun _ => true) true [25] args.toList ds p := hA
  obtain ⟨is, hi, hs⟩ := Go.Am.pars_ok (X := Go.Am.Sigs.X Go.Am.As.sg) Go.Am.As.closed Go.Am.As.pars hA1 fun j t v h1 h2 => by
    have := hval j t v (by simpa using h1) (by simpa using h2)
    exact this
  refine (calls W args is hi hs).mono fun e W' ⟨he, bel⟩ => ?_
  subst he
  obtain ⟨v0, d0, hargs, rfl, h0⟩ := trodAll_one hA1
  have stay := Go.Am.pars_stay Go.Am.As.laid bel Go.Am.As.pars hA1 hlt
  exact ⟨_, rfl, _, _, _, [], _, [], hW', trodAll_mk1 (shut_bool Try.underlying4 _), stay, rfl, bel.frame _, fun h => by cases h⟩
end Go.Proofs.Ytapjklbchbgiaaa.fnExactAsk

namespace Go.Proofs.Ytapjklbchbgiaaa.fnExactAsk
theorem and_t {a b : Bool} (h : a = true) (g : b = true) : (a && b) = true := by rw [h, g]; rfl
theorem fact0 : (Rows.fnExactAskRow.wf (OpenSpec.ofChange Rows.fnExactAskSpec)) = true := by kernel_rfl
theorem fact1 : (laidOutB Try.prog) = true := by kernel_rfl
theorem fact2 : (mapsRowed Try.prog) = true := by kernel_rfl
theorem fact3 : (Try.f5.params.all (Try.prog.readableRec ·)) = true := by kernel_rfl
theorem fact4 : (namedTie Try.prog Rows.fnExactAskRow.named Rows.fnExactAskSpec.vars) = true := by kernel_rfl
theorem fact5 : ((Rows.fnExactAskRow.stops == [])) = true := by kernel_rfl
theorem fact6 : ((Try.prog.stops == [])) = true := by kernel_rfl
theorem fact7 : ((Rows.fnExactAskRow.knobs == [])) = true := by kernel_rfl
theorem fact8 : ((Try.prog.stopKnobs == [])) = true := by kernel_rfl
theorem fact9 : ((Rows.fnExactAskRow.inPlace == Try.prog.inPlace 5)) = true := by kernel_rfl
theorem fact10 : ((Rows.fnExactAskRow.unfollowed == Try.prog.unfollowed 5)) = true := by kernel_rfl
theorem fact11 : ((Rows.fnExactAskRow.recurses == Try.prog.recurses 5)) = true := by kernel_rfl
theorem fact12 : ((Rows.fnExactAskRow.named == Try.prog.varsNamed 5)) = true := by kernel_rfl
theorem fact13 : ((Rows.fnExactAskRow.maps == (Try.f5.params.toList ++ Rows.fnExactAskSpec.plain.varTypes Try.prog).any (Try.prog.mapsRec ·))) = true := by kernel_rfl
theorem fact14 : ((Rows.fnExactAskRow.ifaces == (Try.f5.params.toList ++ Rows.fnExactAskSpec.plain.varTypes Try.prog).any (Try.prog.ifacesRec ·))) = true := by kernel_rfl
theorem fact15 : ((Rows.fnExactAskRow.mapsOut == Try.prog.mapsAmong Try.f5.resultTypes.toList)) = true := by kernel_rfl
theorem fact16 : ((Rows.fnExactAskRow.loops == (Try.f5.params.toList ++ Rows.fnExactAskSpec.plain.varTypes Try.prog).any (Try.prog.loopsFrom ·))) = true := by kernel_rfl
theorem fact17 : ((Rows.fnExactAskRow.wideKeys == (Try.f5.params.toList ++ Rows.fnExactAskSpec.plain.varTypes Try.prog ++ Try.f5.resultTypes.toList).any (Try.prog.wideKeysFrom ·))) = true := by kernel_rfl
theorem fact18 : (Rows.fnExactAskSpec.vars.all (Try.prog.varReadable ·)) = true := by kernel_rfl
theorem fact19 : (Try.f5.resultTypes.all (fun t => Try.prog.readableRec t && decide (t < Try.prog.types.size))) = true := by kernel_rfl
theorem fact20 : ((Rows.fnExactAskRow.ifacesOut == Try.f5.resultTypes.toList.any (Try.prog.ifacesRec ·))) = true := by kernel_rfl
theorem fact21 : ((Rows.fnExactAskRow.loopsOut == Try.f5.resultTypes.toList.any (Try.prog.loopsFrom ·))) = true := by kernel_rfl
theorem fact22 : ((Rows.fnExactAskRow.plainKeys == Try.prog.plainKeys)) = true := by kernel_rfl
theorem fact23 : (Rows.fnExactAskRow.shortTexts.isNone) = true := by kernel_rfl
theorem fact24 : (Try.prog.stopsHeard) = true := by kernel_rfl
theorem fact25 : (Try.prog.mayEnter) = true := by kernel_rfl
theorem fact26 : ((Rows.fnExactAskRow.lifted == Try.prog.liftsFinal)) = true := by kernel_rfl
theorem fact27 : ((Try.prog.make == some Rows.fnExactAskRow.make)) = true := by kernel_rfl
theorem fact29 : ((Rows.fnExactAskRow.pinned == Rows.fnExactAskRow.pinnedBy)) = true := by kernel_rfl
theorem fact30 : ((Rows.fnExactAskRow.veiled == (Try.f5.params.toList ++ Rows.fnExactAskSpec.plain.varTypes Try.prog ++ Try.f5.resultTypes.toList).any (Try.prog.veiledRec ·))) = true := by kernel_rfl
theorem fact31 : (Rows.fnExactAskRow.veiledFits Try.prog Try.f5.params.toList (Try.f5.params.toList ++ Rows.fnExactAskSpec.plain.varTypes Try.prog ++ Try.f5.resultTypes.toList)) = true := by kernel_rfl
theorem joined : joinedFacts Try.prog 5 Try.f5 Rows.fnExactAskSpec Rows.fnExactAskRow = true := by
  unfold joinedFacts
  exact (and_t (and_t (and_t (and_t (and_t (and_t (and_t (and_t (and_t (and_t (and_t (and_t (and_t (and_t (and_t (and_t (and_t (and_t (and_t (and_t (and_t (and_t (and_t (and_t (and_t (and_t (and_t (and_t (and_t (and_t (and_t fact0 fact1) fact2) fact3) fact4) fact5) fact6) fact7) fact8) fact9) fact10) fact11) fact12) fact13) fact14) fact15) fact16) fact17) fact18) fact19) fact20) fact21) fact22) fact23) fact24) fact25) fact26) fact27) (by kernel_rfl)) fact29) fact30) fact31)
theorem named : Try.pinned.checked.prog.funcNamed Rows.fnExactAskRow.func = some 5 := by kernel_rfl
theorem inst : Try.f5.isInstance Try.pinned.checked.prog Rows.fnExactAskRow.origin Rows.fnExactAskRow.targs := of_decide_eq_true (by kernel_rfl)
theorem wrap : Try.f5.isWrapper Try.pinned.checked.prog Rows.fnExactAskRow.wrapper Rows.fnExactAskRow.mainSum := by
  unfold Func.isWrapper; first | (rw [if_pos (by decide +kernel)]; kernel_rfl) | (rw [if_neg (by decide +kernel)]; exact ⟨rfl, rfl⟩)
theorem over : Rows.fnExactAskRow.holds Try.pinned (OpenSpec.ofChange Rows.fnExactAskSpec) :=
  OpenClaim.holds_of_wide 5 Try.f5 rfl rfl rfl rfl rfl rfl rfl ⟨rfl, rfl, rfl, rfl, rfl⟩ rfl rfl rfl rfl rfl named Try.func5 joined
    inst wrap
    (fun os started H enc _ => lifted os started H enc)
theorem proved : Rows.FnExactAskSaid := over
end Go.Proofs.Ytapjklbchbgiaaa.fnExactAsk
namespace Go.Proofs.Ytapjklbchbgiaaa
theorem ask_holds : Rows.FnExactAskSaid := fnExactAsk.proved
#print axioms ask_holds
end Go.Proofs.Ytapjklbchbgiaaa
