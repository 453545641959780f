/- FnExactParseValue: called, it returns true, and its arguments read as they did. No conditions. -/
import Derived.Test.YtmgeoejefnablaaDoorRows
import Derived.WalkKit
import Derived.ProofKit
import Derived.OpenShut
import Derived.ChangeOld
import Derived.Below
import Derived.HandedShaped
import Derived.Lay
import Derived.LaidOnce
import Derived.SevenTiedAt
import Derived.Test.YtmgeoejefnablaaDoorTie
import Derived.Test.YtmgeoejefnablaaDoorCards
import Derived.Test.YtmgeoejefnablaaDoorPvF
import Derived.Test.YtmgeoejefnablaaDoorPvN
import Derived.Test.YtmgeoejefnablaaDoorPvL
namespace Go.Am.Pv
set_option maxRecDepth 100000
set_option linter.unusedVariables false
def LT : List TypeId := []
def sg : Sigs := fun n => match n with
  | 14 => some [.lent, .rd]
  | 34 => some [.lent, .rd]
  | 35 => some [.lent, .rd]
  | 39 => some [.lent, .rd]
  | 40 => some [.lent, .rd]
  | 64 => some [.lent, .rd]
  | 65 => some [.lent]
  | 66 => some [.lent, .rd, .rd, .rd]
  | 67 => some [.lent]
  | 68 => some [.lent, .rd]
  | 69 => some [.lent]
  | 70 => some [.lent, .rd, .rd, .rd]
  | 71 => some [.lent, .rd]
  | 86 => some [.lent]
  | 87 => some [.lent]
  | 89 => some [.lent, .rd]
  | _ => none
theorem fs_ok : ∀ p ∈ fs.funs, chkFun Go.Proofs.Tryd.prog sg p.1 p.2 = true := List.all_eq_true.1 (show (fs.funs.all fun p => chkFun Go.Proofs.Tryd.prog sg p.1 p.2) = true by kernel_rfl)
theorem nat_ok : ∀ T, Good Go.Proofs.Tryd.prog sg T → Good Go.Proofs.Tryd.prog sg (fs.nat T) := fun T _ =>
(good_or (good_or (good_or (good_or   (replace_good (g := 0) (n := 92) (f := Go.Proofs.Tryd.f92) rfl (by kernel_rfl) rfl (by kernel_rfl) (Nat.le_of_ble_eq_true (by kernel_rfl)) (fun wt h => Go.Proofs.Tryd.laysM155.s1_3 wt h) (fun s old new m w h1 h2 h3 h4 => Go.Proofs.Tryd.strings_ReplaceAll s old new m w h1 h2 h3 h4))
  (join_good (n := 74) (f := Go.Proofs.Tryd.f74) rfl (by kernel_rfl) rfl (by kernel_rfl) (fun a c sep w => Go.Proofs.Tryd.strings_Join_none a c sep w) (fun bk o c xs sep w h1 h2 h3 h4 h5 => Go.Proofs.Tryd.strings_Join bk o c xs sep w h1 h2 h3 h4 h5)))
  (cut_good (n := 88) (f := Go.Proofs.Tryd.f88) rfl (by kernel_rfl) rfl (by kernel_rfl) (fun s p w => Go.Proofs.Tryd.strings_CutPrefix s p w)))
  (trim_good (n := 91) (f := Go.Proofs.Tryd.f91) rfl (by kernel_rfl) rfl (by kernel_rfl) (fun s p w => Go.Proofs.Tryd.strings_TrimPrefix s p w)))
  (any_good (n := 90) (f := Go.Proofs.Tryd.f90) rfl (by kernel_rfl) rfl (by kernel_rfl) (fun s w => Go.Proofs.YtmgeoejefnablaaDoor.any_colon s w) (fun s w h => Go.Proofs.YtmgeoejefnablaaDoor.any_three s w h)))
theorem closed : closedB Go.Proofs.Tryd.prog LT = true := by kernel_rfl
theorem laid : laidOutB Go.Proofs.Tryd.prog = true := by kernel_rfl
theorem pars : ([9] : List TypeId).all (parOk Go.Proofs.Tryd.prog LT) = true := by kernel_rfl
theorem agg9 : aggB Go.Proofs.Tryd.prog 9 = some false := by kernel_rfl
theorem sh9 : shE Go.Proofs.Tryd.prog 9 = [.s] := by kernel_rfl
theorem par9 {i : I} (h : ParSh Go.Proofs.Tryd.prog 9 i) : ∃ u : ByteArray, i = .d (.v (.string u)) ∧ u.size ≤ maxLen := by
  cases h with
  | g h ha => rw [agg9] at ha; cases ha
  | d h hk ha =>
    rw [sh9] at hk
    cases hk
    cases h with | s h0 => exact ⟨_, rfl, h0⟩
end Go.Am.Pv
namespace Go.Proofs.YtmgeoejefnablaaDoor.fnExactParseValue
open Go.ChangeShapes Go.WideShapes Go.ChangeAt Go.RowKit
set_option linter.unusedVariables false
set_option linter.unusedSimpArgs false

theorem own : ownKnob Tryd.prog.godebug = none := by kernel_rfl
theorem calls (W : World) (args : Array Value) (is : List Go.Am.I) (hsh : W.ShapedOpen Tryd.prog) (hi : Go.Am.IFroL (Go.Am.Sigs.X Go.Am.Pv.sg) W (Go.Am.Old W) is args.toList) (hs : Go.Am.ParShL Tryd.prog [9] is) : Calls Tryd.prog 4 args W fun e W' => e = .returned (.bool true) ∧ Below W.heap.size W W' := by
  obtain _ | ⟨h0, hs⟩ := hs
  cases hs
  obtain ⟨r0, rfl, g0⟩ := Go.Am.Pv.par9 h0
  obtain ⟨d, hd⟩ := Go.Am.Pv.f4 g0
  exact Go.Am.law_calls (sg := Go.Am.Pv.sg) (T := Go.Am.TabD Go.Am.Pv.fs d) (Go.Am.tabD_good Go.Am.Pv.fs_ok Go.Am.Pv.nat_ok d) rfl Tryd.func4 rfl rfl hsh hi (hd d d (Nat.le_refl _) (Nat.le_refl _))

set_option maxRecDepth 100000 in
theorem lifted (os : Os) (started : os.Started) (H : Type) (enc : TypeId × Value → H) :
    ReturnsInHanded {} Tryd.checked os 4 .any (fun w args => (Rows.fnExactParseValueSpec.pre enc Tryd.prog Tryd.f4 [] false w args ∧ laidMetH Tryd.prog Rows.fnExactParseValueRow.laid w) ∧ sizedMet enc Tryd.prog Tryd.f4 (OpenSpec.ofChange Rows.fnExactParseValueSpec) false w args)
      (Rows.fnExactParseValueSpec.post enc Tryd.prog Tryd.f4 false true false false) := by
  refine returnsInHanded_of_calls own started (by kernel_rfl)
    (ChangeSpec.witness_shaped (enc := enc) (C := Tryd.checked) (os := os) (X := fun w _ => laidMetH Tryd.prog Rows.fnExactParseValueRow.laid w) false (World.laidAll Tryd.prog os Rows.fnExactParseValueRow.laid) #[.string ByteArray.empty] 8 (World.laidAll_os _ _ _)
      (World.shaped_of_ZipB (by kernel_rfl) (by kernel_rfl)) (by kernel_rfl) (by kernel_rfl) (by kernel_rfl)
      (by rw [MakeChecks.laidMetH_plain _ _ _ (by kernel_rfl)]; exact laidMet_laidAll _ (by kernel_rfl) (by kernel_rfl))) ?_
  intro w tape i _ hsh0 _ hok hpre hholds
  obtain ⟨_, _, _, fn', hfn', _, _, _, _, hval9⟩ := hok
  have e : fn' = Tryd.f4 := Option.some.inj (hfn'.symm.trans Tryd.func4)
  subst e
  obtain ⟨⟨⟨ds, gs, before, hw, hc⟩, hx⟩, hz⟩ := hpre
  have hw' := DataW.Whole.of_heap (w' := w.forCall tape i) (by rfl) hw
  suffices key : ∀ (W : World) (base : Nat) (args : Array Value), (∀ (j : Nat) t v, Tryd.f4.params[j]? = some t → args[j]? = some v → Value.okWide Tryd.prog W .any base t v) →
      DataW.Whole enc Tryd.prog Tryd.f4.params.toList Rows.fnExactParseValueSpec.vars false W args.toList ds gs before → W.ShapedOpen Tryd.prog →
      Calls Tryd.prog 4 args W fun e W' => ∃ v, e = .returned v ∧ Rows.fnExactParseValueSpec.post enc Tryd.prog Tryd.f4 false true false false W args v W' by
    refine (key (w.forCall tape i) w.heap.size i.args hval9 hw' hsh0).mono fun e W' ⟨v, he, hp⟩ => ?_
    subst he
    exact ChangeSpec.post_blind hp
  clear hw' hw hc hx hz hholds hval9 hsh0 hfn'
  intro W base args hval0 hW hsh
  have hval : ∀ (j : Nat) t v, Tryd.f4.params[j]? = some t → args[j]? = some v → Value.okWide Tryd.prog W .any base t v := hval0
  have hW' := hW
  obtain ⟨p, q, hA0, hV, rfl, hfz, hnd⟩ := hW
  have hA : DataW.TrodAll enc Tryd.prog W 0 (fun _ => true) true Tryd.f4.params.toList args.toList ds p := hA0
  rw [Tryd.params4] at hA hval
  obtain ⟨rfl, rfl⟩ := trodVars_none hV
  clear hA0 hval0
  simp only [List.append_nil] at hW'
  have hlt : ∀ x ∈ p, x.block < W.heap.size := fun x hx => by simpa using hW'.lt x hx
  have hA1 : DataW.TrodAll enc Tryd.prog W 0 (fun _ => true) true [9] args.toList ds p := hA
  obtain ⟨is, hi, hs⟩ := Go.Am.pars_ok (X := Go.Am.Sigs.X Go.Am.Pv.sg) Go.Am.Pv.closed Go.Am.Pv.pars hA1 fun j t v h1 h2 => by
    have := hval j t v (by simpa using h1) (by simpa using h2)
    exact this
  refine (calls W args is hsh hi hs).mono fun e W' ⟨he, bel⟩ => ?_
  subst he
  obtain ⟨v0, d0, hargs, rfl, h0⟩ := trodAll_one hA1
  have stay := Go.Am.pars_stay Go.Am.Pv.laid bel Go.Am.Pv.pars hA1 hlt
  exact ⟨_, rfl, _, _, _, [], _, [], hW', trodAll_mk1 (shut_bool Tryd.underlying4 _), stay, rfl, bel.frame _, fun h => by cases h⟩
end Go.Proofs.YtmgeoejefnablaaDoor.fnExactParseValue

namespace Go.Proofs.YtmgeoejefnablaaDoor.fnExactParseValue
theorem and_t {a b : Bool} (h : a = true) (g : b = true) : (a && b) = true := by rw [h, g]; rfl
theorem fact0 : (Rows.fnExactParseValueRow.wf (OpenSpec.ofChange Rows.fnExactParseValueSpec)) = true := by kernel_rfl
theorem fact1 : (laidOutB Tryd.prog) = true := by kernel_rfl
theorem fact2 : (mapsRowed Tryd.prog) = true := by kernel_rfl
theorem fact3 : (Tryd.f4.params.all (Tryd.prog.readableRec ·)) = true := by kernel_rfl
theorem fact4 : (namedTie Tryd.prog Rows.fnExactParseValueRow.named Rows.fnExactParseValueSpec.vars) = true := by kernel_rfl
theorem fact5 : ((Rows.fnExactParseValueRow.stops == [])) = true := by kernel_rfl
theorem fact6 : ((Tryd.prog.stops == [])) = true := by kernel_rfl
theorem fact7 : ((Rows.fnExactParseValueRow.knobs == [])) = true := by kernel_rfl
theorem fact8 : ((Tryd.prog.stopKnobs == [])) = true := by kernel_rfl
theorem fact9 : ((Rows.fnExactParseValueRow.inPlace == Tryd.prog.inPlace 4)) = true := by kernel_rfl
theorem fact10 : ((Rows.fnExactParseValueRow.unfollowed == Tryd.prog.unfollowed 4)) = true := by kernel_rfl
theorem fact11 : ((Rows.fnExactParseValueRow.recurses == Tryd.prog.recurses 4)) = true := by kernel_rfl
theorem fact12 : ((Rows.fnExactParseValueRow.named == Tryd.prog.varsNamed 4)) = true := by kernel_rfl
theorem fact13 : ((Rows.fnExactParseValueRow.maps == (Tryd.f4.params.toList ++ Rows.fnExactParseValueSpec.plain.varTypes Tryd.prog).any (Tryd.prog.mapsRec ·))) = true := by kernel_rfl
theorem fact14 : ((Rows.fnExactParseValueRow.ifaces == (Tryd.f4.params.toList ++ Rows.fnExactParseValueSpec.plain.varTypes Tryd.prog).any (Tryd.prog.ifacesRec ·))) = true := by kernel_rfl
theorem fact15 : ((Rows.fnExactParseValueRow.mapsOut == Tryd.prog.mapsAmong Tryd.f4.resultTypes.toList)) = true := by kernel_rfl
theorem fact16 : ((Rows.fnExactParseValueRow.loops == (Tryd.f4.params.toList ++ Rows.fnExactParseValueSpec.plain.varTypes Tryd.prog).any (Tryd.prog.loopsFrom ·))) = true := by kernel_rfl
theorem fact17 : ((Rows.fnExactParseValueRow.wideKeys == (Tryd.f4.params.toList ++ Rows.fnExactParseValueSpec.plain.varTypes Tryd.prog ++ Tryd.f4.resultTypes.toList).any (Tryd.prog.wideKeysFrom ·))) = true := by kernel_rfl
theorem fact18 : (Rows.fnExactParseValueSpec.vars.all (Tryd.prog.varReadable ·)) = true := by kernel_rfl
theorem fact19 : (Tryd.f4.resultTypes.all (fun t => Tryd.prog.readableRec t && decide (t < Tryd.prog.types.size))) = true := by kernel_rfl
theorem fact20 : ((Rows.fnExactParseValueRow.ifacesOut == Tryd.f4.resultTypes.toList.any (Tryd.prog.ifacesRec ·))) = true := by kernel_rfl
theorem fact21 : ((Rows.fnExactParseValueRow.loopsOut == Tryd.f4.resultTypes.toList.any (Tryd.prog.loopsFrom ·))) = true := by kernel_rfl
theorem fact22 : ((Rows.fnExactParseValueRow.plainKeys == Tryd.prog.plainKeys)) = true := by kernel_rfl
theorem fact23 : (Rows.fnExactParseValueRow.shortTexts.isNone) = true := by kernel_rfl
theorem fact24 : (Tryd.prog.stopsHeard) = true := by kernel_rfl
theorem fact25 : (Tryd.prog.mayEnter) = true := by kernel_rfl
theorem fact26 : ((Rows.fnExactParseValueRow.lifted == Tryd.prog.liftsFinal)) = true := by kernel_rfl
theorem fact27 : ((Tryd.prog.make == some Rows.fnExactParseValueRow.make)) = true := by kernel_rfl
theorem fact29 : ((Rows.fnExactParseValueRow.pinned == Rows.fnExactParseValueRow.pinnedBy)) = true := by kernel_rfl
theorem fact30 : ((Rows.fnExactParseValueRow.veiled == (Tryd.f4.params.toList ++ Rows.fnExactParseValueSpec.plain.varTypes Tryd.prog ++ Tryd.f4.resultTypes.toList).any (Tryd.prog.veiledRec ·))) = true := by kernel_rfl
theorem fact31 : (Rows.fnExactParseValueRow.veiledFits Tryd.prog Tryd.f4.params.toList (Tryd.f4.params.toList ++ Rows.fnExactParseValueSpec.plain.varTypes Tryd.prog ++ Tryd.f4.resultTypes.toList)) = true := by kernel_rfl
theorem joined : joinedFacts Tryd.prog 4 Tryd.f4 Rows.fnExactParseValueSpec Rows.fnExactParseValueRow = true := by
  unfold joinedFacts
  exact (and_t (and_t (and_t (and_t (and_t (and_t (and_t (and_t (and_t (and_t (and_t (and_t (and_t (and_t (and_t (and_t (and_t (and_t (and_t (and_t (and_t (and_t (and_t (and_t (and_t (and_t (and_t (and_t (and_t (and_t (and_t fact0 fact1) fact2) fact3) fact4) fact5) fact6) fact7) fact8) fact9) fact10) fact11) fact12) fact13) fact14) fact15) fact16) fact17) fact18) fact19) fact20) fact21) fact22) fact23) fact24) fact25) fact26) fact27) (by kernel_rfl)) fact29) fact30) fact31)
theorem named : Tryd.pinned.checked.prog.funcNamed Rows.fnExactParseValueRow.func = some 4 := by kernel_rfl
theorem inst : Tryd.f4.isInstance Tryd.pinned.checked.prog Rows.fnExactParseValueRow.origin Rows.fnExactParseValueRow.targs := of_decide_eq_true (by kernel_rfl)
theorem wrap : Tryd.f4.isWrapper Tryd.pinned.checked.prog Rows.fnExactParseValueRow.wrapper Rows.fnExactParseValueRow.mainSum := by
  unfold Func.isWrapper; first | (rw [if_pos (by decide +kernel)]; kernel_rfl) | (rw [if_neg (by decide +kernel)]; exact ⟨rfl, rfl⟩)
theorem over : Rows.fnExactParseValueRow.holds Tryd.pinned (OpenSpec.ofChange Rows.fnExactParseValueSpec) :=
  OpenClaim.holds_of_wide 4 Tryd.f4 rfl rfl rfl rfl rfl rfl rfl ⟨rfl, rfl, rfl, rfl, rfl⟩ rfl rfl rfl rfl rfl named Tryd.func4 joined
    inst wrap
    (fun os started H enc _ => lifted os started H enc)
theorem proved : Rows.FnExactParseValueSaid := over
theorem carded : Rows.FnExactParseValueCardSaid :=
  Claim7.holds_tied_plain_at .later [] Rows.fnExactParseValueCard.laidKinds true Rows.fnExactParseValueCard.stood.harness Rows.fnExactParseValueCard.stood.looks over (fun _ h => by cases h) (by kernel_rfl) (fun _ h => by cases h) fnExactParseValue_row_tie rfl ⟨rfl, rfl⟩ (by kernel_rfl) rfl
    (fun f fn hf hfn => by
      obtain rfl : f = 4 := Option.some.inj ((show Tryd.prog.funcNamed Rows.fnExactParseValueRow.func = some 4 by kernel_rfl).symm.trans hf) |>.symm
      obtain rfl : fn = Tryd.f4 := (Option.some.inj (Tryd.func4.symm.trans hfn)).symm
      exact ⟨by kernel_rfl, fun j t ht => by
        rw [Tryd.params4] at ht
        have hm : t ∈ [9] := by simpa using Array.mem_of_getElem? ht
        have hall : ([9].all fun u => !Tryd.prog.wantsStandIn u) = true := by kernel_rfl
        exact (show Tryd.prog.wantsStandIn t = false by simpa using List.all_eq_true.1 hall t hm)⟩)
    (by kernel_rfl)
end Go.Proofs.YtmgeoejefnablaaDoor.fnExactParseValue
namespace Go.Proofs.YtmgeoejefnablaaDoor
theorem parseValue_holds : Rows.FnExactParseValueCardSaid := fnExactParseValue.carded
#print axioms parseValue_holds
end Go.Proofs.YtmgeoejefnablaaDoor
