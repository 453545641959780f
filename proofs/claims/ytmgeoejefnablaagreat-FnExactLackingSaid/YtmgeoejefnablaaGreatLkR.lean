/- FnExactLacking: called, it returns true, and its arguments read as they did. No conditions. -/
import Derived.Test.YtmgeoejefnablaaGreatRows
import Derived.WalkKit
import Derived.ProofKit
import Derived.OpenShut
import Derived.ChangeOld
import Derived.Below
import Derived.Test.YtmgeoejefnablaaGreatLkL
namespace Go.Am.Lk
set_option maxRecDepth 100000
set_option linter.unusedVariables false
def LT : List TypeId := [174, 177, 180, 9, 264, 266, 62, 205, 304, 269]
def sg : Sigs := fun n => match n with
  | 18 => some [.lent, .rd]
  | 19 => some [.lent, .rd]
  | 53 => some [.lent]
  | 54 => some [.own]
  | 58 => some [.lent, .rd]
  | 59 => some [.lent, .rd]
  | 60 => some [.lent, .rd]
  | 61 => some [.lent, .rd]
  | 117 => some [.lent, .rd, .rd, .rd]
  | 123 => some [.lent, .rd]
  | 124 => some [.lent, .rd]
  | 125 => some [.lent, .rd]
  | 126 => some [.lent, .rd]
  | 127 => some [.lent, .rd]
  | 181 => some [.lent, .rd, .rd]
  | 182 => some [.lent, .rd, .rd]
  | 183 => some [.lent, .rd, .rd]
  | 185 => some [.lent, .rd, .rd]
  | 186 => some [.lent, .rd, .rd]
  | 188 => some [.lent, .rd, .rd, .rd]
  | 189 => some [.lent, .rd, .rd, .rd]
  | 192 => some [.lent, .rd]
  | 228 => some [.lent, .rd, .rd, .rd]
  | 230 => some [.lent]
  | 231 => some [.rd, .rd, .lent]
  | 232 => some [.rd, .rd, .rd, .rd, .lent]
  | 256 => some [.rd, .rd, .rd, .lent]
  | _ => none
theorem fs_ok : ∀ p ∈ fs.funs, chkFun Go.Proofs.Tryz.prog sg p.1 p.2 = true := List.all_eq_true.1 (show (fs.funs.all fun p => chkFun Go.Proofs.Tryz.prog sg p.1 p.2) = true by kernel_rfl)
theorem nat_ok : ∀ T, Good Go.Proofs.Tryz.prog sg T → Good Go.Proofs.Tryz.prog sg (fs.nat T) := fun T _ => good_none
theorem closed : closedB Go.Proofs.Tryz.prog LT = true := by kernel_rfl
theorem laid : laidOutB Go.Proofs.Tryz.prog = true := by kernel_rfl
theorem pars : ([27] : List TypeId).all (parOk Go.Proofs.Tryz.prog LT) = true := by kernel_rfl
theorem agg27 : aggB Go.Proofs.Tryz.prog 27 = some true := by kernel_rfl
theorem par27 {i : I} (h : ParSh Go.Proofs.Tryz.prog 27 i) : ∃ r, i = .g r ∧ ShL E (E 27) r := by
  unfold E
  cases h with
  | g h ha => exact ⟨_, rfl, h⟩
  | d h hk ha => rw [agg27] at ha; cases ha
end Go.Am.Lk
namespace Go.Proofs.YtmgeoejefnablaaGreat.fnExactLacking
open Go.ChangeShapes Go.WideShapes Go.ChangeAt Go.RowKit
set_option linter.unusedVariables false
set_option linter.unusedSimpArgs false

theorem own : ownKnob Tryz.prog.godebug = none := by kernel_rfl
theorem calls (W : World) (args : Array Value) (is : List Go.Am.I) (hi : Go.Am.IFroL (Go.Am.Sigs.X Go.Am.Lk.sg) W (Go.Am.Old W) is args.toList) (hs : Go.Am.ParShL Tryz.prog [27] is) : Calls Tryz.prog 4 args W fun e W' => e = .returned (.bool true) ∧ Below W.heap.size W W' := by
  obtain _ | ⟨h0, hs⟩ := hs
  cases hs
  obtain ⟨r0, rfl, g0⟩ := Go.Am.Lk.par27 h0
  obtain ⟨d, hd⟩ := Go.Am.Lk.f4 g0
  exact Go.Am.law_calls (sg := Go.Am.Lk.sg) (T := Go.Am.TabD Go.Am.Lk.fs d) (Go.Am.tabD_good Go.Am.Lk.fs_ok Go.Am.Lk.nat_ok d) rfl Tryz.func4 rfl rfl hi (hd d d (Nat.le_refl _) (Nat.le_refl _))

set_option maxRecDepth 100000 in
theorem lifted (os : Os) (started : os.Started) (H : Type) (enc : TypeId × Value → H) :
    ReturnsInHanded {} Tryz.checked os 4 .any (Rows.fnExactLackingSpec.pre6 enc Tryz.prog Tryz.f4 Rows.fnExactLackingRow.domain false) (Rows.fnExactLackingSpec.post enc Tryz.prog Tryz.f4 false true false false) := by
  refine returnsInHanded_of_change (C := Tryz.checked) own started (by kernel_rfl) Tryz.func4
    (ChangeSpec.witness6 (enc := enc) (C := Tryz.checked) false ⟨#[], #[.agg #[.int .i64 0, .int .i64 0, .int .i64 0, .slice none 0 0, .slice none 0 0, .slice none 0 0, .slice none 0 0]], []⟩ 8 (by kernel_rfl) (by kernel_rfl) (by kernel_rfl) (by kernel_rfl)) ?_
  intro W base args ds gs before hval0 hW hcnd _
  have hval : ∀ (j : Nat) t v, Tryz.f4.params[j]? = some t → args[j]? = some v → Value.okWide Tryz.prog W .any base t v := hval0
  have hW' := hW
  obtain ⟨p, q, hA0, hV, rfl, hfz, hnd⟩ := hW
  have hA : DataW.TrodAll enc Tryz.prog W 0 (fun _ => true) true Tryz.f4.params.toList args.toList ds p := hA0
  rw [Tryz.params4] at hA hval
  obtain ⟨rfl, rfl⟩ := trodVars_none hV
  clear hA0 hval0
  simp only [List.append_nil] at hW'
  have hlt : ∀ x ∈ p, x.block < W.heap.size := fun x hx => by simpa using hW'.lt x hx
  have hA1 : DataW.TrodAll enc Tryz.prog W 0 (fun _ => true) true [27] args.toList ds p := hA
  obtain ⟨is, hi, hs⟩ := Go.Am.pars_ok (X := Go.Am.Sigs.X Go.Am.Lk.sg) Go.Am.Lk.closed Go.Am.Lk.pars hA1 fun j t v h1 h2 => by
    have := hval j t v (by simpa using h1) (by simpa using h2)
    exact this
  refine (calls W args is hi hs).mono fun e W' ⟨he, bel⟩ => ?_
  subst he
  obtain ⟨v0, d0, hargs, rfl, h0⟩ := trodAll_one hA1
  have stay := Go.Am.pars_stay Go.Am.Lk.laid bel Go.Am.Lk.pars hA1 hlt
  exact ⟨_, rfl, _, _, _, [], _, [], hW', trodAll_mk1 (shut_bool Tryz.underlying4 _), stay, rfl, bel.frame _, fun h => by cases h⟩
end Go.Proofs.YtmgeoejefnablaaGreat.fnExactLacking

namespace Go.Proofs.YtmgeoejefnablaaGreat.fnExactLacking
theorem and_t {a b : Bool} (h : a = true) (g : b = true) : (a && b) = true := by rw [h, g]; rfl
theorem fact0 : (Rows.fnExactLackingRow.wf (OpenSpec.ofChange Rows.fnExactLackingSpec)) = true := by kernel_rfl
theorem fact1 : (laidOutB Tryz.prog) = true := by kernel_rfl
theorem fact2 : (mapsRowed Tryz.prog) = true := by kernel_rfl
theorem fact3 : (Tryz.f4.params.all (Tryz.prog.readableRec ·)) = true := by kernel_rfl
theorem fact4 : (namedTie Tryz.prog Rows.fnExactLackingRow.named Rows.fnExactLackingSpec.vars) = true := by kernel_rfl
theorem fact5 : ((Rows.fnExactLackingRow.stops == [])) = true := by kernel_rfl
theorem fact6 : ((Tryz.prog.stops == [])) = true := by kernel_rfl
theorem fact7 : ((Rows.fnExactLackingRow.knobs == [])) = true := by kernel_rfl
theorem fact8 : ((Tryz.prog.stopKnobs == [])) = true := by kernel_rfl
theorem fact9 : ((Rows.fnExactLackingRow.inPlace == Tryz.prog.inPlace 4)) = true := by kernel_rfl
theorem fact10 : ((Rows.fnExactLackingRow.unfollowed == Tryz.prog.unfollowed 4)) = true := by kernel_rfl
theorem fact11 : ((Rows.fnExactLackingRow.recurses == Tryz.prog.recurses 4)) = true := by kernel_rfl
theorem fact12 : ((Rows.fnExactLackingRow.named == Tryz.prog.varsNamed 4)) = true := by kernel_rfl
theorem fact13 : ((Rows.fnExactLackingRow.maps == (Tryz.f4.params.toList ++ Rows.fnExactLackingSpec.plain.varTypes Tryz.prog).any (Tryz.prog.mapsRec ·))) = true := by kernel_rfl
theorem fact14 : ((Rows.fnExactLackingRow.ifaces == (Tryz.f4.params.toList ++ Rows.fnExactLackingSpec.plain.varTypes Tryz.prog).any (Tryz.prog.ifacesRec ·))) = true := by kernel_rfl
theorem fact15 : ((Rows.fnExactLackingRow.mapsOut == Tryz.prog.mapsAmong Tryz.f4.resultTypes.toList)) = true := by kernel_rfl
theorem fact16 : ((Rows.fnExactLackingRow.loops == (Tryz.f4.params.toList ++ Rows.fnExactLackingSpec.plain.varTypes Tryz.prog).any (Tryz.prog.loopsFrom ·))) = true := by kernel_rfl
theorem fact17 : ((Rows.fnExactLackingRow.wideKeys == (Tryz.f4.params.toList ++ Rows.fnExactLackingSpec.plain.varTypes Tryz.prog ++ Tryz.f4.resultTypes.toList).any (Tryz.prog.wideKeysFrom ·))) = true := by kernel_rfl
theorem fact18 : (Rows.fnExactLackingSpec.vars.all (Tryz.prog.varReadable ·)) = true := by kernel_rfl
theorem fact19 : (Tryz.f4.resultTypes.all (fun t => Tryz.prog.readableRec t && decide (t < Tryz.prog.types.size))) = true := by kernel_rfl
theorem fact20 : ((Rows.fnExactLackingRow.ifacesOut == Tryz.f4.resultTypes.toList.any (Tryz.prog.ifacesRec ·))) = true := by kernel_rfl
theorem fact21 : ((Rows.fnExactLackingRow.loopsOut == Tryz.f4.resultTypes.toList.any (Tryz.prog.loopsFrom ·))) = true := by kernel_rfl
theorem fact22 : ((Rows.fnExactLackingRow.plainKeys == Tryz.prog.plainKeys)) = true := by kernel_rfl
theorem fact23 : (Rows.fnExactLackingRow.shortTexts.isNone) = true := by kernel_rfl
theorem fact24 : (Tryz.prog.stopsHeard) = true := by kernel_rfl
theorem fact25 : (Tryz.prog.mayEnter) = true := by kernel_rfl
theorem fact26 : ((Rows.fnExactLackingRow.lifted == Tryz.prog.liftsFinal)) = true := by kernel_rfl
theorem fact27 : ((Tryz.prog.make == some Rows.fnExactLackingRow.make)) = true := by kernel_rfl
theorem fact29 : ((Rows.fnExactLackingRow.pinned == Rows.fnExactLackingRow.pinnedBy)) = true := by kernel_rfl
theorem fact30 : ((Rows.fnExactLackingRow.veiled == (Tryz.f4.params.toList ++ Rows.fnExactLackingSpec.plain.varTypes Tryz.prog ++ Tryz.f4.resultTypes.toList).any (Tryz.prog.veiledRec ·))) = true := by kernel_rfl
theorem fact31 : (Rows.fnExactLackingRow.veiledFits Tryz.prog Tryz.f4.params.toList (Tryz.f4.params.toList ++ Rows.fnExactLackingSpec.plain.varTypes Tryz.prog ++ Tryz.f4.resultTypes.toList)) = true := by kernel_rfl
theorem joined : joinedFacts Tryz.prog 4 Tryz.f4 Rows.fnExactLackingSpec Rows.fnExactLackingRow = true := by
  unfold joinedFacts
  exact (and_t (and_t (and_t (and_t (and_t (and_t (and_t (and_t (and_t (and_t (and_t (and_t (and_t (and_t (and_t (and_t (and_t (and_t (and_t (and_t (and_t (and_t (and_t (and_t (and_t (and_t (and_t (and_t (and_t (and_t (and_t fact0 fact1) fact2) fact3) fact4) fact5) fact6) fact7) fact8) fact9) fact10) fact11) fact12) fact13) fact14) fact15) fact16) fact17) fact18) fact19) fact20) fact21) fact22) fact23) fact24) fact25) fact26) fact27) (by kernel_rfl)) fact29) fact30) fact31)
theorem named : Tryz.pinned.checked.prog.funcNamed Rows.fnExactLackingRow.func = some 4 := by kernel_rfl
theorem inst : Tryz.f4.isInstance Tryz.pinned.checked.prog Rows.fnExactLackingRow.origin Rows.fnExactLackingRow.targs := of_decide_eq_true (by kernel_rfl)
theorem wrap : Tryz.f4.isWrapper Tryz.pinned.checked.prog Rows.fnExactLackingRow.wrapper Rows.fnExactLackingRow.mainSum := by
  unfold Func.isWrapper; first | (rw [if_pos (by decide +kernel)]; kernel_rfl) | (rw [if_neg (by decide +kernel)]; exact ⟨rfl, rfl⟩)
theorem over : Rows.fnExactLackingRow.holds Tryz.pinned (OpenSpec.ofChange Rows.fnExactLackingSpec) :=
  OpenClaim.holds_of_wide 4 Tryz.f4 rfl rfl rfl rfl rfl rfl rfl ⟨rfl, rfl, rfl, rfl, rfl⟩ rfl rfl rfl rfl rfl named Tryz.func4 joined
    inst wrap
    (fun os started H enc _ => lifted os started H enc)
theorem proved : Rows.FnExactLackingSaid := over
end Go.Proofs.YtmgeoejefnablaaGreat.fnExactLacking
namespace Go.Proofs.YtmgeoejefnablaaGreat
theorem lacking_holds : Rows.FnExactLackingSaid := fnExactLacking.proved
#print axioms lacking_holds
end Go.Proofs.YtmgeoejefnablaaGreat
