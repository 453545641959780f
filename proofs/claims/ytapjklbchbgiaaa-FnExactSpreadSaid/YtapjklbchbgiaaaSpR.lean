/- FnExactSpread: called, it returns true, and its arguments read as they did. No conditions. -/
import Derived.Test.YtapjklbchbgiaaaRows
import Derived.WalkKit
import Derived.ProofKit
import Derived.OpenShut
import Derived.ChangeOld
import Derived.Below
import Derived.Test.YtapjklbchbgiaaaSpL
namespace Go.Am.Sp
set_option maxRecDepth 100000
set_option linter.unusedVariables false
def LT : List TypeId := [142, 148, 150, 9, 239, 241, 112, 223, 256, 244]
def sg : Sigs := fun n => match n with
  | 29 => some [.lent, .rd]
  | 30 => some [.lent, .rd]
  | 68 => some [.lent, .rd]
  | 71 => some [.lent, .rd]
  | 72 => some [.lent, .rd]
  | 73 => some [.lent, .rd]
  | 74 => some [.lent, .rd]
  | 92 => some [.lent, .rd]
  | 116 => some [.lent, .rd, .rd]
  | 117 => some [.lent, .rd]
  | 118 => some [.lent, .rd]
  | 119 => some [.lent, .rd]
  | 120 => some [.lent, .rd]
  | 141 => some [.lent, .rd, .rd, .rd]
  | 142 => some [.lent, .rd, .rd, .rd, .rd]
  | 143 => some [.lent, .rd]
  | 165 => some [.lent, .rd, .rd, .rd, .rd]
  | 182 => some [.lent, .rd, .rd, .rd, .rd]
  | _ => none
theorem fs_ok : ∀ p ∈ fs.funs, chkFun Go.Proofs.Try.prog sg p.1 p.2 = true := List.all_eq_true.1 (show (fs.funs.all fun p => chkFun Go.Proofs.Try.prog sg p.1 p.2) = true by kernel_rfl)
theorem nat_ok : ∀ T, Good Go.Proofs.Try.prog sg T → Good Go.Proofs.Try.prog sg (fs.nat T) := fun T _ => good_none
theorem closed : closedB Go.Proofs.Try.prog LT = true := by kernel_rfl
theorem laid : laidOutB Go.Proofs.Try.prog = true := by kernel_rfl
theorem pars : ([50, 3] : List TypeId).all (parOk Go.Proofs.Try.prog LT) = true := by kernel_rfl
theorem agg3 : aggB Go.Proofs.Try.prog 3 = some false := by kernel_rfl
theorem sh3 : shE Go.Proofs.Try.prog 3 = [.i .i64] := by kernel_rfl
theorem par3 {i : I} (h : ParSh Go.Proofs.Try.prog 3 i) : ∃ u, i = .d (.v (.int .i64 u)) ∧ Fits u := by
  cases h with
  | g h ha => rw [agg3] at ha; cases ha
  | d h hk ha =>
    rw [sh3] at hk
    cases hk
    cases h with | i h0 h1 => exact ⟨_, rfl, h0, h1⟩
theorem agg50 : aggB Go.Proofs.Try.prog 50 = some true := by kernel_rfl
theorem par50 {i : I} (h : ParSh Go.Proofs.Try.prog 50 i) : ∃ r, i = .g r ∧ ShL E (E 50) r := by
  unfold E
  cases h with
  | g h ha => exact ⟨_, rfl, h⟩
  | d h hk ha => rw [agg50] at ha; cases ha
end Go.Am.Sp
namespace Go.Proofs.Ytapjklbchbgiaaa.fnExactSpread
open Go.ChangeShapes Go.WideShapes Go.ChangeAt Go.RowKit
set_option linter.unusedVariables false
set_option linter.unusedSimpArgs false

theorem own : ownKnob Try.prog.godebug = none := by kernel_rfl
theorem calls (W : World) (args : Array Value) (is : List Go.Am.I) (hi : Go.Am.IFroL (Go.Am.Sigs.X Go.Am.Sp.sg) W (Go.Am.Old W) is args.toList) (hs : Go.Am.ParShL Try.prog [50, 3] is) : Calls Try.prog 6 args W fun e W' => e = .returned (.bool true) ∧ Below W.heap.size W W' := by
  obtain _ | ⟨h0, hs⟩ := hs
  obtain _ | ⟨h1, hs⟩ := hs
  cases hs
  obtain ⟨r0, rfl, g0⟩ := Go.Am.Sp.par50 h0
  obtain ⟨r1, rfl, g1⟩ := Go.Am.Sp.par3 h1
  obtain ⟨d, hd⟩ := Go.Am.Sp.f6 g0 g1
  exact Go.Am.law_calls (sg := Go.Am.Sp.sg) (T := Go.Am.TabD Go.Am.Sp.fs d) (Go.Am.tabD_good Go.Am.Sp.fs_ok Go.Am.Sp.nat_ok d) rfl Try.func6 rfl rfl hi (hd d d (Nat.le_refl _) (Nat.le_refl _))

set_option maxRecDepth 100000 in
theorem lifted (os : Os) (started : os.Started) (H : Type) (enc : TypeId × Value → H) :
    ReturnsInHanded {} Try.checked os 6 .any (Rows.fnExactSpreadSpec.pre6 enc Try.prog Try.f6 Rows.fnExactSpreadRow.domain false) (Rows.fnExactSpreadSpec.post enc Try.prog Try.f6 false true false false) := by
  refine returnsInHanded_of_change (C := Try.checked) own started (by kernel_rfl) Try.func6
    (ChangeSpec.witness6 (enc := enc) (C := Try.checked) false ⟨#[], #[.agg #[.int .i64 0, .int .i64 0, .int .i64 0, .slice none 0 0, .slice none 0 0, .slice none 0 0, .slice none 0 0], .int .i64 0], []⟩ 8 (by kernel_rfl) (by kernel_rfl) (by kernel_rfl) (by kernel_rfl)) ?_
  intro W base args ds gs before hval0 hW hcnd _
  have hval : ∀ (j : Nat) t v, Try.f6.params[j]? = some t → args[j]? = some v → Value.okWide Try.prog W .any base t v := hval0
  have hW' := hW
  obtain ⟨p, q, hA0, hV, rfl, hfz, hnd⟩ := hW
  have hA : DataW.TrodAll enc Try.prog W 0 (fun _ => true) true Try.f6.params.toList args.toList ds p := hA0
  rw [Try.params6] at hA hval
  obtain ⟨rfl, rfl⟩ := trodVars_none hV
  clear hA0 hval0
  simp only [List.append_nil] at hW'
  have hlt : ∀ x ∈ p, x.block < W.heap.size := fun x hx => by simpa using hW'.lt x hx
  have hA1 : DataW.TrodAll enc Try.prog W 0 (fun _ => true) true [50, 3] args.toList ds p := hA
  obtain ⟨is, hi, hs⟩ := Go.Am.pars_ok (X := Go.Am.Sigs.X Go.Am.Sp.sg) Go.Am.Sp.closed Go.Am.Sp.pars hA1 fun j t v h1 h2 => by
    have := hval j t v (by simpa using h1) (by simpa using h2)
    exact this
  refine (calls W args is hi hs).mono fun e W' ⟨he, bel⟩ => ?_
  subst he
  obtain ⟨v0, v1, d0, d1, p0, p1, hargs, rfl, rfl, h0, h1⟩ := trodAll_two hA1
  have stay := Go.Am.pars_stay Go.Am.Sp.laid bel Go.Am.Sp.pars hA1 hlt
  exact ⟨_, rfl, _, _, _, [], _, [], hW', trodAll_mk1 (shut_bool Try.underlying4 _), stay, rfl, bel.frame _, fun h => by cases h⟩
end Go.Proofs.Ytapjklbchbgiaaa.fnExactSpread

namespace Go.Proofs.Ytapjklbchbgiaaa.fnExactSpread
theorem and_t {a b : Bool} (h : a = true) (g : b = true) : (a && b) = true := by rw [h, g]; rfl
theorem fact0 : (Rows.fnExactSpreadRow.wf (OpenSpec.ofChange Rows.fnExactSpreadSpec)) = true := by kernel_rfl
theorem fact1 : (laidOutB Try.prog) = true := by kernel_rfl
theorem fact2 : (mapsRowed Try.prog) = true := by kernel_rfl
theorem fact3 : (Try.f6.params.all (Try.prog.readableRec ·)) = true := by kernel_rfl
theorem fact4 : (namedTie Try.prog Rows.fnExactSpreadRow.named Rows.fnExactSpreadSpec.vars) = true := by kernel_rfl
theorem fact5 : ((Rows.fnExactSpreadRow.stops == [])) = true := by kernel_rfl
theorem fact6 : ((Try.prog.stops == [])) = true := by kernel_rfl
theorem fact7 : ((Rows.fnExactSpreadRow.knobs == [])) = true := by kernel_rfl
theorem fact8 : ((Try.prog.stopKnobs == [])) = true := by kernel_rfl
theorem fact9 : ((Rows.fnExactSpreadRow.inPlace == Try.prog.inPlace 6)) = true := by kernel_rfl
theorem fact10 : ((Rows.fnExactSpreadRow.unfollowed == Try.prog.unfollowed 6)) = true := by kernel_rfl
theorem fact11 : ((Rows.fnExactSpreadRow.recurses == Try.prog.recurses 6)) = true := by kernel_rfl
theorem fact12 : ((Rows.fnExactSpreadRow.named == Try.prog.varsNamed 6)) = true := by kernel_rfl
theorem fact13 : ((Rows.fnExactSpreadRow.maps == (Try.f6.params.toList ++ Rows.fnExactSpreadSpec.plain.varTypes Try.prog).any (Try.prog.mapsRec ·))) = true := by kernel_rfl
theorem fact14 : ((Rows.fnExactSpreadRow.ifaces == (Try.f6.params.toList ++ Rows.fnExactSpreadSpec.plain.varTypes Try.prog).any (Try.prog.ifacesRec ·))) = true := by kernel_rfl
theorem fact15 : ((Rows.fnExactSpreadRow.mapsOut == Try.prog.mapsAmong Try.f6.resultTypes.toList)) = true := by kernel_rfl
theorem fact16 : ((Rows.fnExactSpreadRow.loops == (Try.f6.params.toList ++ Rows.fnExactSpreadSpec.plain.varTypes Try.prog).any (Try.prog.loopsFrom ·))) = true := by kernel_rfl
theorem fact17 : ((Rows.fnExactSpreadRow.wideKeys == (Try.f6.params.toList ++ Rows.fnExactSpreadSpec.plain.varTypes Try.prog ++ Try.f6.resultTypes.toList).any (Try.prog.wideKeysFrom ·))) = true := by kernel_rfl
theorem fact18 : (Rows.fnExactSpreadSpec.vars.all (Try.prog.varReadable ·)) = true := by kernel_rfl
theorem fact19 : (Try.f6.resultTypes.all (fun t => Try.prog.readableRec t && decide (t < Try.prog.types.size))) = true := by kernel_rfl
theorem fact20 : ((Rows.fnExactSpreadRow.ifacesOut == Try.f6.resultTypes.toList.any (Try.prog.ifacesRec ·))) = true := by kernel_rfl
theorem fact21 : ((Rows.fnExactSpreadRow.loopsOut == Try.f6.resultTypes.toList.any (Try.prog.loopsFrom ·))) = true := by kernel_rfl
theorem fact22 : ((Rows.fnExactSpreadRow.plainKeys == Try.prog.plainKeys)) = true := by kernel_rfl
theorem fact23 : (Rows.fnExactSpreadRow.shortTexts.isNone) = true := by kernel_rfl
theorem fact24 : (Try.prog.stopsHeard) = true := by kernel_rfl
theorem fact25 : (Try.prog.mayEnter) = true := by kernel_rfl
theorem fact26 : ((Rows.fnExactSpreadRow.lifted == Try.prog.liftsFinal)) = true := by kernel_rfl
theorem fact27 : ((Try.prog.make == some Rows.fnExactSpreadRow.make)) = true := by kernel_rfl
theorem fact29 : ((Rows.fnExactSpreadRow.pinned == Rows.fnExactSpreadRow.pinnedBy)) = true := by kernel_rfl
theorem fact30 : ((Rows.fnExactSpreadRow.veiled == (Try.f6.params.toList ++ Rows.fnExactSpreadSpec.plain.varTypes Try.prog ++ Try.f6.resultTypes.toList).any (Try.prog.veiledRec ·))) = true := by kernel_rfl
theorem fact31 : (Rows.fnExactSpreadRow.veiledFits Try.prog Try.f6.params.toList (Try.f6.params.toList ++ Rows.fnExactSpreadSpec.plain.varTypes Try.prog ++ Try.f6.resultTypes.toList)) = true := by kernel_rfl
theorem joined : joinedFacts Try.prog 6 Try.f6 Rows.fnExactSpreadSpec Rows.fnExactSpreadRow = true := by
  unfold joinedFacts
  exact (and_t (and_t (and_t (and_t (and_t (and_t (and_t (and_t (and_t (and_t (and_t (and_t (and_t (and_t (and_t (and_t (and_t (and_t (and_t (and_t (and_t (and_t (and_t (and_t (and_t (and_t (and_t (and_t (and_t (and_t (and_t fact0 fact1) fact2) fact3) fact4) fact5) fact6) fact7) fact8) fact9) fact10) fact11) fact12) fact13) fact14) fact15) fact16) fact17) fact18) fact19) fact20) fact21) fact22) fact23) fact24) fact25) fact26) fact27) (by kernel_rfl)) fact29) fact30) fact31)
theorem named : Try.pinned.checked.prog.funcNamed Rows.fnExactSpreadRow.func = some 6 := by kernel_rfl
theorem inst : Try.f6.isInstance Try.pinned.checked.prog Rows.fnExactSpreadRow.origin Rows.fnExactSpreadRow.targs := of_decide_eq_true (by kernel_rfl)
theorem wrap : Try.f6.isWrapper Try.pinned.checked.prog Rows.fnExactSpreadRow.wrapper Rows.fnExactSpreadRow.mainSum := by
  unfold Func.isWrapper; first | (rw [if_pos (by decide +kernel)]; kernel_rfl) | (rw [if_neg (by decide +kernel)]; exact ⟨rfl, rfl⟩)
theorem over : Rows.fnExactSpreadRow.holds Try.pinned (OpenSpec.ofChange Rows.fnExactSpreadSpec) :=
  OpenClaim.holds_of_wide 6 Try.f6 rfl rfl rfl rfl rfl rfl rfl ⟨rfl, rfl, rfl, rfl, rfl⟩ rfl rfl rfl rfl rfl named Try.func6 joined
    inst wrap
    (fun os started H enc _ => lifted os started H enc)
theorem proved : Rows.FnExactSpreadSaid := over
end Go.Proofs.Ytapjklbchbgiaaa.fnExactSpread
namespace Go.Proofs.Ytapjklbchbgiaaa
theorem spread_holds : Rows.FnExactSpreadSaid := fnExactSpread.proved
#print axioms spread_holds
end Go.Proofs.Ytapjklbchbgiaaa
