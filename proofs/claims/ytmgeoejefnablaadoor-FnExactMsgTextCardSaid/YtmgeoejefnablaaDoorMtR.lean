/- FnExactMsgText: called, it returns true, and its arguments read as they did. No conditions. -/
import Derived.Test.YtmgeoejefnablaaDoorRows
import Derived.WalkKit
import Derived.ProofKit
import Derived.OpenShut
import Derived.ChangeOld
import Derived.Below
import Derived.HandedShaped
import Derived.Lay
import Derived.LaidOnce
import Derived.SevenTiedAt
import Derived.Test.YtmgeoejefnablaaDoorTie
import Derived.Test.YtmgeoejefnablaaDoorCards
import Derived.Test.YtmgeoejefnablaaDoorSf
import Derived.Test.YtmgeoejefnablaaDoorMtL
namespace Go.Am.Mt
set_option maxRecDepth 100000
set_option linter.unusedVariables false
def LT : List TypeId := [83, 90, 9, 81]
def sg : Sigs := fun _ => none
theorem fs_ok : ∀ p ∈ fs.funs, chkFun Go.Proofs.Tryd.prog sg p.1 p.2 = true := List.all_eq_true.1 (show (fs.funs.all fun p => chkFun Go.Proofs.Tryd.prog sg p.1 p.2) = true by kernel_rfl)
theorem nat_ok : ∀ T, Good Go.Proofs.Tryd.prog sg T → Good Go.Proofs.Tryd.prog sg (fs.nat T) := fun T _ => good_or
  (replace_good (n := 92) (g := 0) (f := Go.Proofs.Tryd.f92) rfl (by kernel_rfl) rfl (by kernel_rfl) (Nat.le_of_ble_eq_true (by kernel_rfl)) (fun wt h => Go.Proofs.Tryd.laysM155.s1_3 wt h) (fun s old new m w h1 h2 h3 h4 => Go.Proofs.Tryd.strings_ReplaceAll s old new m w h1 h2 h3 h4))
  (join_good (n := 74) (f := Go.Proofs.Tryd.f74) rfl (by kernel_rfl) rfl (by kernel_rfl) (fun a c sep w => Go.Proofs.Tryd.strings_Join_none a c sep w) (fun bk o c xs sep w h1 h2 h3 h4 h5 => Go.Proofs.Tryd.strings_Join bk o c xs sep w h1 h2 h3 h4 h5))
theorem closed : closedB Go.Proofs.Tryd.prog LT = true := by kernel_rfl
theorem laid : laidOutB Go.Proofs.Tryd.prog = true := by kernel_rfl
theorem pars : ([25] : List TypeId).all (parOk Go.Proofs.Tryd.prog LT) = true := by kernel_rfl
theorem agg25 : aggB Go.Proofs.Tryd.prog 25 = some true := by kernel_rfl
theorem par25 {i : I} (h : ParSh Go.Proofs.Tryd.prog 25 i) : ∃ r, i = .g r ∧ ShL E (E 25) r := by
  unfold E
  cases h with
  | g h ha => exact ⟨_, rfl, h⟩
  | d h hk ha => rw [agg25] at ha; cases ha
end Go.Am.Mt
namespace Go.Proofs.YtmgeoejefnablaaDoor.fnExactMsgText
open Go.ChangeShapes Go.WideShapes Go.ChangeAt Go.RowKit
set_option linter.unusedVariables false
set_option linter.unusedSimpArgs false

theorem own : ownKnob Tryd.prog.godebug = none := by kernel_rfl
theorem calls (W : World) (args : Array Value) (is : List Go.Am.I) (hsh : W.ShapedOpen Tryd.prog) (hi : Go.Am.IFroL (Go.Am.Sigs.X Go.Am.Mt.sg) W (Go.Am.Old W) is args.toList) (hs : Go.Am.ParShL Tryd.prog [25] is) : Calls Tryd.prog 3 args W fun e W' => e = .returned (.bool true) ∧ Below W.heap.size W W' := by
  obtain _ | ⟨h0, hs⟩ := hs
  cases hs
  obtain ⟨r0, rfl, g0⟩ := Go.Am.Mt.par25 h0
  obtain ⟨d, hd⟩ := Go.Am.Mt.f3 g0
  exact Go.Am.law_calls (sg := Go.Am.Mt.sg) (T := Go.Am.TabD Go.Am.Mt.fs d) (Go.Am.tabD_good Go.Am.Mt.fs_ok Go.Am.Mt.nat_ok d) rfl Tryd.func3 rfl rfl hsh hi (hd d d (Nat.le_refl _) (Nat.le_refl _))

set_option maxRecDepth 100000 in
theorem lifted (os : Os) (started : os.Started) (H : Type) (enc : TypeId × Value → H) :
    ReturnsInHanded {} Tryd.checked os 3 .any (fun w args => (Rows.fnExactMsgTextSpec.pre enc Tryd.prog Tryd.f3 [] false w args ∧ laidMetH Tryd.prog Rows.fnExactMsgTextRow.laid w) ∧ sizedMet enc Tryd.prog Tryd.f3 (OpenSpec.ofChange Rows.fnExactMsgTextSpec) false w args)
      (Rows.fnExactMsgTextSpec.post enc Tryd.prog Tryd.f3 false true false false) := by
  refine returnsInHanded_of_calls own started (by kernel_rfl)
    (ChangeSpec.witness_shaped (enc := enc) (C := Tryd.checked) (os := os) (X := fun w _ => laidMetH Tryd.prog Rows.fnExactMsgTextRow.laid w) false (World.laidAll Tryd.prog os Rows.fnExactMsgTextRow.laid) #[.agg #[.int .i64 0, .string ByteArray.empty, .int .i64 0, .slice none 0 0, .slice none 0 0]] 8 (World.laidAll_os _ _ _)
      (World.shaped_of_ZipB (by kernel_rfl) (by kernel_rfl)) (by kernel_rfl) (by kernel_rfl) (by kernel_rfl)
      (by rw [MakeChecks.laidMetH_plain _ _ _ (by kernel_rfl)]; exact laidMet_laidAll _ (by kernel_rfl) (by kernel_rfl))) ?_
  intro w tape i _ hsh0 _ hok hpre hholds
  obtain ⟨_, _, _, fn', hfn', _, _, _, _, hval9⟩ := hok
  have e : fn' = Tryd.f3 := Option.some.inj (hfn'.symm.trans Tryd.func3)
  subst e
  obtain ⟨⟨⟨ds, gs, before, hw, hc⟩, hx⟩, hz⟩ := hpre
  have hw' := DataW.Whole.of_heap (w' := w.forCall tape i) (by rfl) hw
  suffices key : ∀ (W : World) (base : Nat) (args : Array Value), (∀ (j : Nat) t v, Tryd.f3.params[j]? = some t → args[j]? = some v → Value.okWide Tryd.prog W .any base t v) →
      DataW.Whole enc Tryd.prog Tryd.f3.params.toList Rows.fnExactMsgTextSpec.vars false W args.toList ds gs before → W.ShapedOpen Tryd.prog →
      Calls Tryd.prog 3 args W fun e W' => ∃ v, e = .returned v ∧ Rows.fnExactMsgTextSpec.post enc Tryd.prog Tryd.f3 false true false false W args v W' by
    refine (key (w.forCall tape i) w.heap.size i.args hval9 hw' hsh0).mono fun e W' ⟨v, he, hp⟩ => ?_
    subst he
    exact ChangeSpec.post_blind hp
  clear hw' hw hc hx hz hholds hval9 hsh0 hfn'
  intro W base args hval0 hW hsh
  have hval : ∀ (j : Nat) t v, Tryd.f3.params[j]? = some t → args[j]? = some v → Value.okWide Tryd.prog W .any base t v := hval0
  have hW' := hW
  obtain ⟨p, q, hA0, hV, rfl, hfz, hnd⟩ := hW
  have hA : DataW.TrodAll enc Tryd.prog W 0 (fun _ => true) true Tryd.f3.params.toList args.toList ds p := hA0
  rw [Tryd.params3] at hA hval
  obtain ⟨rfl, rfl⟩ := trodVars_none hV
  clear hA0 hval0
  simp only [List.append_nil] at hW'
  have hlt : ∀ x ∈ p, x.block < W.heap.size := fun x hx => by simpa using hW'.lt x hx
  have hA1 : DataW.TrodAll enc Tryd.prog W 0 (fun _ => true) true [25] args.toList ds p := hA
  obtain ⟨is, hi, hs⟩ := Go.Am.pars_ok (X := Go.Am.Sigs.X Go.Am.Mt.sg) Go.Am.Mt.closed Go.Am.Mt.pars hA1 fun j t v h1 h2 => by
    have := hval j t v (by simpa using h1) (by simpa using h2)
    exact this
  refine (calls W args is hsh hi hs).mono fun e W' ⟨he, bel⟩ => ?_
  subst he
  obtain ⟨v0, d0, hargs, rfl, h0⟩ := trodAll_one hA1
  have stay := Go.Am.pars_stay Go.Am.Mt.laid bel Go.Am.Mt.pars hA1 hlt
  exact ⟨_, rfl, _, _, _, [], _, [], hW', trodAll_mk1 (shut_bool Tryd.underlying4 _), stay, rfl, bel.frame _, fun h => by cases h⟩
end Go.Proofs.YtmgeoejefnablaaDoor.fnExactMsgText

namespace Go.Proofs.YtmgeoejefnablaaDoor.fnExactMsgText
theorem and_t {a b : Bool} (h : a = true) (g : b = true) : (a && b) = true := by rw [h, g]; rfl
theorem fact0 : (Rows.fnExactMsgTextRow.wf (OpenSpec.ofChange Rows.fnExactMsgTextSpec)) = true := by kernel_rfl
theorem fact1 : (laidOutB Tryd.prog) = true := by kernel_rfl
theorem fact2 : (mapsRowed Tryd.prog) = true := by kernel_rfl
theorem fact3 : (Tryd.f3.params.all (Tryd.prog.readableRec ·)) = true := by kernel_rfl
theorem fact4 : (namedTie Tryd.prog Rows.fnExactMsgTextRow.named Rows.fnExactMsgTextSpec.vars) = true := by kernel_rfl
theorem fact5 : ((Rows.fnExactMsgTextRow.stops == [])) = true := by kernel_rfl
theorem fact6 : ((Tryd.prog.stops == [])) = true := by kernel_rfl
theorem fact7 : ((Rows.fnExactMsgTextRow.knobs == [])) = true := by kernel_rfl
theorem fact8 : ((Tryd.prog.stopKnobs == [])) = true := by kernel_rfl
theorem fact9 : ((Rows.fnExactMsgTextRow.inPlace == Tryd.prog.inPlace 3)) = true := by kernel_rfl
theorem fact10 : ((Rows.fnExactMsgTextRow.unfollowed == Tryd.prog.unfollowed 3)) = true := by kernel_rfl
theorem fact11 : ((Rows.fnExactMsgTextRow.recurses == Tryd.prog.recurses 3)) = true := by kernel_rfl
theorem fact12 : ((Rows.fnExactMsgTextRow.named == Tryd.prog.varsNamed 3)) = true := by kernel_rfl
theorem fact13 : ((Rows.fnExactMsgTextRow.maps == (Tryd.f3.params.toList ++ Rows.fnExactMsgTextSpec.plain.varTypes Tryd.prog).any (Tryd.prog.mapsRec ·))) = true := by kernel_rfl
theorem fact14 : ((Rows.fnExactMsgTextRow.ifaces == (Tryd.f3.params.toList ++ Rows.fnExactMsgTextSpec.plain.varTypes Tryd.prog).any (Tryd.prog.ifacesRec ·))) = true := by kernel_rfl
theorem fact15 : ((Rows.fnExactMsgTextRow.mapsOut == Tryd.prog.mapsAmong Tryd.f3.resultTypes.toList)) = true := by kernel_rfl
theorem fact16 : ((Rows.fnExactMsgTextRow.loops == (Tryd.f3.params.toList ++ Rows.fnExactMsgTextSpec.plain.varTypes Tryd.prog).any (Tryd.prog.loopsFrom ·))) = true := by kernel_rfl
theorem fact17 : ((Rows.fnExactMsgTextRow.wideKeys == (Tryd.f3.params.toList ++ Rows.fnExactMsgTextSpec.plain.varTypes Tryd.prog ++ Tryd.f3.resultTypes.toList).any (Tryd.prog.wideKeysFrom ·))) = true := by kernel_rfl
theorem fact18 : (Rows.fnExactMsgTextSpec.vars.all (Tryd.prog.varReadable ·)) = true := by kernel_rfl
theorem fact19 : (Tryd.f3.resultTypes.all (fun t => Tryd.prog.readableRec t && decide (t < Tryd.prog.types.size))) = true := by kernel_rfl
theorem fact20 : ((Rows.fnExactMsgTextRow.ifacesOut == Tryd.f3.resultTypes.toList.any (Tryd.prog.ifacesRec ·))) = true := by kernel_rfl
theorem fact21 : ((Rows.fnExactMsgTextRow.loopsOut == Tryd.f3.resultTypes.toList.any (Tryd.prog.loopsFrom ·))) = true := by kernel_rfl
theorem fact22 : ((Rows.fnExactMsgTextRow.plainKeys == Tryd.prog.plainKeys)) = true := by kernel_rfl
theorem fact23 : (Rows.fnExactMsgTextRow.shortTexts.isNone) = true := by kernel_rfl
theorem fact24 : (Tryd.prog.stopsHeard) = true := by kernel_rfl
theorem fact25 : (Tryd.prog.mayEnter) = true := by kernel_rfl
theorem fact26 : ((Rows.fnExactMsgTextRow.lifted == Tryd.prog.liftsFinal)) = true := by kernel_rfl
theorem fact27 : ((Tryd.prog.make == some Rows.fnExactMsgTextRow.make)) = true := by kernel_rfl
theorem fact29 : ((Rows.fnExactMsgTextRow.pinned == Rows.fnExactMsgTextRow.pinnedBy)) = true := by kernel_rfl
theorem fact30 : ((Rows.fnExactMsgTextRow.veiled == (Tryd.f3.params.toList ++ Rows.fnExactMsgTextSpec.plain.varTypes Tryd.prog ++ Tryd.f3.resultTypes.toList).any (Tryd.prog.veiledRec ·))) = true := by kernel_rfl
theorem fact31 : (Rows.fnExactMsgTextRow.veiledFits Tryd.prog Tryd.f3.params.toList (Tryd.f3.params.toList ++ Rows.fnExactMsgTextSpec.plain.varTypes Tryd.prog ++ Tryd.f3.resultTypes.toList)) = true := by kernel_rfl
theorem joined : joinedFacts Tryd.prog 3 Tryd.f3 Rows.fnExactMsgTextSpec Rows.fnExactMsgTextRow = true := by
  unfold joinedFacts
  exact (and_t (and_t (and_t (and_t (and_t (and_t (and_t (and_t (and_t (and_t (and_t (and_t (and_t (and_t (and_t (and_t (and_t (and_t (and_t (and_t (and_t (and_t (and_t (and_t (and_t (and_t (and_t (and_t (and_t (and_t (and_t fact0 fact1) fact2) fact3) fact4) fact5) fact6) fact7) fact8) fact9) fact10) fact11) fact12) fact13) fact14) fact15) fact16) fact17) fact18) fact19) fact20) fact21) fact22) fact23) fact24) fact25) fact26) fact27) (by kernel_rfl)) fact29) fact30) fact31)
theorem named : Tryd.pinned.checked.prog.funcNamed Rows.fnExactMsgTextRow.func = some 3 := by kernel_rfl
theorem inst : Tryd.f3.isInstance Tryd.pinned.checked.prog Rows.fnExactMsgTextRow.origin Rows.fnExactMsgTextRow.targs := of_decide_eq_true (by kernel_rfl)
theorem wrap : Tryd.f3.isWrapper Tryd.pinned.checked.prog Rows.fnExactMsgTextRow.wrapper Rows.fnExactMsgTextRow.mainSum := by
  unfold Func.isWrapper; first | (rw [if_pos (by decide +kernel)]; kernel_rfl) | (rw [if_neg (by decide +kernel)]; exact ⟨rfl, rfl⟩)
theorem over : Rows.fnExactMsgTextRow.holds Tryd.pinned (OpenSpec.ofChange Rows.fnExactMsgTextSpec) :=
  OpenClaim.holds_of_wide 3 Tryd.f3 rfl rfl rfl rfl rfl rfl rfl ⟨rfl, rfl, rfl, rfl, rfl⟩ rfl rfl rfl rfl rfl named Tryd.func3 joined
    inst wrap
    (fun os started H enc _ => lifted os started H enc)
theorem proved : Rows.FnExactMsgTextSaid := over
theorem carded : Rows.FnExactMsgTextCardSaid :=
  Claim7.holds_tied_plain_at .later [] Rows.fnExactMsgTextCard.laidKinds true Rows.fnExactMsgTextCard.stood.harness Rows.fnExactMsgTextCard.stood.looks over (fun _ h => by cases h) (by kernel_rfl) (fun _ h => by cases h) fnExactMsgText_row_tie rfl ⟨rfl, rfl⟩ (by kernel_rfl) rfl
    (fun f fn hf hfn => by
      obtain rfl : f = 3 := Option.some.inj ((show Tryd.prog.funcNamed Rows.fnExactMsgTextRow.func = some 3 by kernel_rfl).symm.trans hf) |>.symm
      obtain rfl : fn = Tryd.f3 := (Option.some.inj (Tryd.func3.symm.trans hfn)).symm
      exact ⟨by kernel_rfl, fun j t ht => by
        rw [Tryd.params3] at ht
        have hm : t ∈ [25] := by simpa using Array.mem_of_getElem? ht
        have hall : ([25].all fun u => !Tryd.prog.wantsStandIn u) = true := by kernel_rfl
        exact (show Tryd.prog.wantsStandIn t = false by simpa using List.all_eq_true.1 hall t hm)⟩)
    (by kernel_rfl)
end Go.Proofs.YtmgeoejefnablaaDoor.fnExactMsgText
namespace Go.Proofs.YtmgeoejefnablaaDoor
theorem msgText_holds : Rows.FnExactMsgTextCardSaid := fnExactMsgText.carded
#print axioms msgText_holds
end Go.Proofs.YtmgeoejefnablaaDoor
