/- FnExactIsleOf: called, it returns true, and its arguments read as they did. No conditions. -/
import Derived.Test.YtapjklbchbgiaaaGreatRows
import Derived.WalkKit
import Derived.ProofKit
import Derived.OpenShut
import Derived.ChangeOld
import Derived.Below
import Derived.Test.YtapjklbchbgiaaaGreatIsL
namespace Go.Am.Is
set_option maxRecDepth 100000
set_option linter.unusedVariables false
def LT : List TypeId := [201, 204, 206, 9, 5, 260, 263, 318, 320, 48, 225, 376, 323, 388, 245]
def sg : Sigs := fun n => match n with
  | 15 => some [.lent, .rd]
  | 29 => some [.lent, .rd]
  | 30 => some [.lent, .rd]
  | 63 => some [.lent, .rd]
  | 64 => some [.lent, .rd]
  | 65 => some [.lent, .rd]
  | 66 => some [.lent, .rd]
  | 112 => some [.lent, .rd]
  | 113 => some [.lent, .rd]
  | 114 => some [.lent, .rd]
  | 115 => some [.lent, .rd]
  | 116 => some [.lent, .rd]
  | 168 => some [.lent, .rd]
  | 169 => some [.lent, .rd]
  | 170 => some [.lent, .rd]
  | 171 => some [.lent, .rd]
  | 172 => some [.lent, .rd]
  | 274 => some [.lent, .rd]
  | _ => none
theorem fs_ok : ∀ p ∈ fs.funs, chkFun Go.Proofs.Tryz.prog sg p.1 p.2 = true := List.all_eq_true.1 (show (fs.funs.all fun p => chkFun Go.Proofs.Tryz.prog sg p.1 p.2) = true by kernel_rfl)
theorem nat_ok : ∀ T, Good Go.Proofs.Tryz.prog sg T → Good Go.Proofs.Tryz.prog sg (fs.nat T) := fun T _ => good_none
theorem closed : closedB Go.Proofs.Tryz.prog LT = true := by kernel_rfl
theorem laid : laidOutB Go.Proofs.Tryz.prog = true := by kernel_rfl
theorem pars : ([79, 9] : List TypeId).all (parOk Go.Proofs.Tryz.prog LT) = true := by kernel_rfl
theorem agg9 : aggB Go.Proofs.Tryz.prog 9 = some false := by kernel_rfl
theorem sh9 : shE Go.Proofs.Tryz.prog 9 = [.s] := by kernel_rfl
theorem par9 {i : I} (h : ParSh Go.Proofs.Tryz.prog 9 i) : ∃ u : ByteArray, i = .d (.v (.string u)) ∧ u.size ≤ maxLen := by
  cases h with
  | g h ha => rw [agg9] at ha; cases ha
  | d h hk ha =>
    rw [sh9] at hk
    cases hk
    cases h with | s h0 => exact ⟨_, rfl, h0⟩
theorem agg79 : aggB Go.Proofs.Tryz.prog 79 = some true := by kernel_rfl
theorem par79 {i : I} (h : ParSh Go.Proofs.Tryz.prog 79 i) : ∃ r, i = .g r ∧ ShL E (E 79) r := by
  unfold E
  cases h with
  | g h ha => exact ⟨_, rfl, h⟩
  | d h hk ha => rw [agg79] at ha; cases ha
end Go.Am.Is
namespace Go.Proofs.YtapjklbchbgiaaaGreat.fnExactIsleOf
open Go.ChangeShapes Go.WideShapes Go.ChangeAt Go.RowKit
set_option linter.unusedVariables false
set_option linter.unusedSimpArgs false

theorem own : ownKnob Tryz.prog.godebug = none := by kernel_rfl
theorem calls (W : World) (args : Array Value) (is : List Go.Am.I) (hi : Go.Am.IFroL (Go.Am.Sigs.X Go.Am.Is.sg) W (Go.Am.Old W) is args.toList) (hs : Go.Am.ParShL Tryz.prog [79, 9] is) : Calls Tryz.prog 5 args W fun e W' => e = .returned (.bool true) ∧ Below W.heap.size W W' := by
  obtain _ | ⟨h0, hs⟩ := hs
  obtain _ | ⟨h1, hs⟩ := hs
  cases hs
  obtain ⟨r0, rfl, g0⟩ := Go.Am.Is.par79 h0
  obtain ⟨r1, rfl, g1⟩ := Go.Am.Is.par9 h1
  obtain ⟨d, hd⟩ := Go.Am.Is.f5 g0 g1
  exact Go.Am.law_calls (sg := Go.Am.Is.sg) (T := Go.Am.TabD Go.Am.Is.fs d) (Go.Am.tabD_good Go.Am.Is.fs_ok Go.Am.Is.nat_ok d) rfl Tryz.func5 rfl rfl hi (hd d d (Nat.le_refl _) (Nat.le_refl _))

set_option maxRecDepth 100000 in
theorem lifted (os : Os) (started : os.Started) (H : Type) (enc : TypeId × Value → H) :
    ReturnsInHanded {} Tryz.checked os 5 .any (Rows.fnExactIsleOfSpec.pre6 enc Tryz.prog Tryz.f5 Rows.fnExactIsleOfRow.domain false) (Rows.fnExactIsleOfSpec.post enc Tryz.prog Tryz.f5 false true false false) := by
  refine returnsInHanded_of_change (C := Tryz.checked) own started (by kernel_rfl) Tryz.func5
    (ChangeSpec.witness6 (enc := enc) (C := Tryz.checked) false ⟨#[], #[.agg #[.int .i64 0, .int .i64 0, .int .i64 0, .slice none 0 0, .slice none 0 0, .slice none 0 0, .slice none 0 0, .bool false, .slice none 0 0, .slice none 0 0, .slice none 0 0, .slice none 0 0], .string ByteArray.empty], []⟩ 8 (by kernel_rfl) (by kernel_rfl) (by kernel_rfl) (by kernel_rfl)) ?_
  intro W base args ds gs before hval0 hW hcnd _
  have hval : ∀ (j : Nat) t v, Tryz.f5.params[j]? = some t → args[j]? = some v → Value.okWide Tryz.prog W .any base t v := hval0
  have hW' := hW
  obtain ⟨p, q, hA0, hV, rfl, hfz, hnd⟩ := hW
  have hA : DataW.TrodAll enc Tryz.prog W 0 (fun _ => true) true Tryz.f5.params.toList args.toList ds p := hA0
  rw [Tryz.params5] at hA hval
  obtain ⟨rfl, rfl⟩ := trodVars_none hV
  clear hA0 hval0
  simp only [List.append_nil] at hW'
  have hlt : ∀ x ∈ p, x.block < W.heap.size := fun x hx => by simpa using hW'.lt x hx
  have hA1 : DataW.TrodAll enc Tryz.prog W 0 (fun _ => true) true [79, 9] args.toList ds p := hA
  obtain ⟨is, hi, hs⟩ := Go.Am.pars_ok (X := Go.Am.Sigs.X Go.Am.Is.sg) Go.Am.Is.closed Go.Am.Is.pars hA1 fun j t v h1 h2 => by
    have := hval j t v (by simpa using h1) (by simpa using h2)
    exact this
  refine (calls W args is hi hs).mono fun e W' ⟨he, bel⟩ => ?_
  subst he
  obtain ⟨v0, v1, d0, d1, p0, p1, hargs, rfl, rfl, h0, h1⟩ := trodAll_two hA1
  have stay := Go.Am.pars_stay Go.Am.Is.laid bel Go.Am.Is.pars hA1 hlt
  exact ⟨_, rfl, _, _, _, [], _, [], hW', trodAll_mk1 (shut_bool Tryz.underlying4 _), stay, rfl, bel.frame _, fun h => by cases h⟩
end Go.Proofs.YtapjklbchbgiaaaGreat.fnExactIsleOf

namespace Go.Proofs.YtapjklbchbgiaaaGreat.fnExactIsleOf
theorem and_t {a b : Bool} (h : a = true) (g : b = true) : (a && b) = true := by rw [h, g]; rfl
theorem fact0 : (Rows.fnExactIsleOfRow.wf (OpenSpec.ofChange Rows.fnExactIsleOfSpec)) = true := by kernel_rfl
theorem fact1 : (laidOutB Tryz.prog) = true := by kernel_rfl
theorem fact2 : (mapsRowed Tryz.prog) = true := by kernel_rfl
theorem fact3 : (Tryz.f5.params.all (Tryz.prog.readableRec ·)) = true := by kernel_rfl
theorem fact4 : (namedTie Tryz.prog Rows.fnExactIsleOfRow.named Rows.fnExactIsleOfSpec.vars) = true := by kernel_rfl
theorem fact5 : ((Rows.fnExactIsleOfRow.stops == [])) = true := by kernel_rfl
theorem fact6 : ((Tryz.prog.stops == [])) = true := by kernel_rfl
theorem fact7 : ((Rows.fnExactIsleOfRow.knobs == [])) = true := by kernel_rfl
theorem fact8 : ((Tryz.prog.stopKnobs == [])) = true := by kernel_rfl
theorem fact9 : ((Rows.fnExactIsleOfRow.inPlace == Tryz.prog.inPlace 5)) = true := by kernel_rfl
theorem fact10 : ((Rows.fnExactIsleOfRow.unfollowed == Tryz.prog.unfollowed 5)) = true := by kernel_rfl
theorem fact11 : ((Rows.fnExactIsleOfRow.recurses == Tryz.prog.recurses 5)) = true := by kernel_rfl
theorem fact12 : ((Rows.fnExactIsleOfRow.named == Tryz.prog.varsNamed 5)) = true := by kernel_rfl
theorem fact13 : ((Rows.fnExactIsleOfRow.maps == (Tryz.f5.params.toList ++ Rows.fnExactIsleOfSpec.plain.varTypes Tryz.prog).any (Tryz.prog.mapsRec ·))) = true := by kernel_rfl
theorem fact14 : ((Rows.fnExactIsleOfRow.ifaces == (Tryz.f5.params.toList ++ Rows.fnExactIsleOfSpec.plain.varTypes Tryz.prog).any (Tryz.prog.ifacesRec ·))) = true := by kernel_rfl
theorem fact15 : ((Rows.fnExactIsleOfRow.mapsOut == Tryz.prog.mapsAmong Tryz.f5.resultTypes.toList)) = true := by kernel_rfl
theorem fact16 : ((Rows.fnExactIsleOfRow.loops == (Tryz.f5.params.toList ++ Rows.fnExactIsleOfSpec.plain.varTypes Tryz.prog).any (Tryz.prog.loopsFrom ·))) = true := by kernel_rfl
theorem fact17 : ((Rows.fnExactIsleOfRow.wideKeys == (Tryz.f5.params.toList ++ Rows.fnExactIsleOfSpec.plain.varTypes Tryz.prog ++ Tryz.f5.resultTypes.toList).any (Tryz.prog.wideKeysFrom ·))) = true := by kernel_rfl
theorem fact18 : (Rows.fnExactIsleOfSpec.vars.all (Tryz.prog.varReadable ·)) = true := by kernel_rfl
theorem fact19 : (Tryz.f5.resultTypes.all (fun t => Tryz.prog.readableRec t && decide (t < Tryz.prog.types.size))) = true := by kernel_rfl
theorem fact20 : ((Rows.fnExactIsleOfRow.ifacesOut == Tryz.f5.resultTypes.toList.any (Tryz.prog.ifacesRec ·))) = true := by kernel_rfl
theorem fact21 : ((Rows.fnExactIsleOfRow.loopsOut == Tryz.f5.resultTypes.toList.any (Tryz.prog.loopsFrom ·))) = true := by kernel_rfl
theorem fact22 : ((Rows.fnExactIsleOfRow.plainKeys == Tryz.prog.plainKeys)) = true := by kernel_rfl
theorem fact23 : (Rows.fnExactIsleOfRow.shortTexts.isNone) = true := by kernel_rfl
theorem fact24 : (Tryz.prog.stopsHeard) = true := by kernel_rfl
theorem fact25 : (Tryz.prog.mayEnter) = true := by kernel_rfl
theorem fact26 : ((Rows.fnExactIsleOfRow.lifted == Tryz.prog.liftsFinal)) = true := by kernel_rfl
theorem fact27 : ((Tryz.prog.make == some Rows.fnExactIsleOfRow.make)) = true := by kernel_rfl
theorem fact29 : ((Rows.fnExactIsleOfRow.pinned == Rows.fnExactIsleOfRow.pinnedBy)) = true := by kernel_rfl
theorem fact30 : ((Rows.fnExactIsleOfRow.veiled == (Tryz.f5.params.toList ++ Rows.fnExactIsleOfSpec.plain.varTypes Tryz.prog ++ Tryz.f5.resultTypes.toList).any (Tryz.prog.veiledRec ·))) = true := by kernel_rfl
theorem fact31 : (Rows.fnExactIsleOfRow.veiledFits Tryz.prog Tryz.f5.params.toList (Tryz.f5.params.toList ++ Rows.fnExactIsleOfSpec.plain.varTypes Tryz.prog ++ Tryz.f5.resultTypes.toList)) = true := by kernel_rfl
theorem joined : joinedFacts Tryz.prog 5 Tryz.f5 Rows.fnExactIsleOfSpec Rows.fnExactIsleOfRow = true := by
  unfold joinedFacts
  exact (and_t (and_t (and_t (and_t (and_t (and_t (and_t (and_t (and_t (and_t (and_t (and_t (and_t (and_t (and_t (and_t (and_t (and_t (and_t (and_t (and_t (and_t (and_t (and_t (and_t (and_t (and_t (and_t (and_t (and_t (and_t fact0 fact1) fact2) fact3) fact4) fact5) fact6) fact7) fact8) fact9) fact10) fact11) fact12) fact13) fact14) fact15) fact16) fact17) fact18) fact19) fact20) fact21) fact22) fact23) fact24) fact25) fact26) fact27) (by kernel_rfl)) fact29) fact30) fact31)
theorem named : Tryz.pinned.checked.prog.funcNamed Rows.fnExactIsleOfRow.func = some 5 := by kernel_rfl
theorem inst : Tryz.f5.isInstance Tryz.pinned.checked.prog Rows.fnExactIsleOfRow.origin Rows.fnExactIsleOfRow.targs := of_decide_eq_true (by kernel_rfl)
theorem wrap : Tryz.f5.isWrapper Tryz.pinned.checked.prog Rows.fnExactIsleOfRow.wrapper Rows.fnExactIsleOfRow.mainSum := by
  unfold Func.isWrapper; first | (rw [if_pos (by decide +kernel)]; kernel_rfl) | (rw [if_neg (by decide +kernel)]; exact ⟨rfl, rfl⟩)
theorem over : Rows.fnExactIsleOfRow.holds Tryz.pinned (OpenSpec.ofChange Rows.fnExactIsleOfSpec) :=
  OpenClaim.holds_of_wide 5 Tryz.f5 rfl rfl rfl rfl rfl rfl rfl ⟨rfl, rfl, rfl, rfl, rfl⟩ rfl rfl rfl rfl rfl named Tryz.func5 joined
    inst wrap
    (fun os started H enc _ => lifted os started H enc)
theorem proved : Rows.FnExactIsleOfSaid := over
end Go.Proofs.YtapjklbchbgiaaaGreat.fnExactIsleOf
namespace Go.Proofs.YtapjklbchbgiaaaGreat
theorem isleOf_holds : Rows.FnExactIsleOfSaid := fnExactIsleOf.proved
#print axioms isleOf_holds
end Go.Proofs.YtapjklbchbgiaaaGreat
