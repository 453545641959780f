/- FnExactParsePatch: called, it returns true, and its arguments read as they did. No conditions. -/
import Derived.Test.YtefdfdkkbbehiaaGreatDoorRows
import Derived.WalkKit
import Derived.ProofKit
import Derived.OpenShut
import Derived.ChangeOld
import Derived.Below
import Derived.HandedShaped
import Derived.Lay
import Derived.LaidOnce
import Derived.SevenTiedAt
import Derived.Test.YtefdfdkkbbehiaaGreatDoorTie
import Derived.Test.YtefdfdkkbbehiaaGreatDoorCards
import Derived.Test.YtefdfdkkbbehiaaGreatDoorPpF
import Derived.Test.YtefdfdkkbbehiaaGreatDoorPpN
import Derived.Test.YtefdfdkkbbehiaaGreatDoorPpL
namespace Go.Am.Pp
set_option maxRecDepth 100000
set_option linter.unusedVariables false
def LT : List TypeId := []
def sg : Sigs := fun n => match n with
 | 8 => some [.lent, .rd]
 | 26 => some [.lent, .rd]
 | 28 => some [.lent, .rd]
 | 86 => some [.lent, .rd]
 | 94 => some [.lent, .rd]
 | 118 => some [.lent, .rd]
 | 119 => some [.lent]
 | 120 => some [.lent, .rd, .rd, .rd]
 | 121 => some [.lent]
 | 126 => some [.lent, .rd]
 | 127 => some [.lent]
 | 128 => some [.lent, .rd, .rd, .rd]
 | 129 => some [.lent, .rd]
 | 144 => some [.lent]
 | 145 => some [.lent]
 | 152 => some [.lent, .rd]
 | _ => none
theorem fs_ok : ∀ p ∈ fs.funs, chkFun Go.Proofs.Tryz.prog sg p.1 p.2 = true := List.all_eq_true.1 (show (fs.funs.all fun p => chkFun Go.Proofs.Tryz.prog sg p.1 p.2) = true by kernel_rfl)
theorem nat_ok : ∀ T, Good Go.Proofs.Tryz.prog sg noSrc T → Good Go.Proofs.Tryz.prog sg noSrc (fs.nat T) := fun T _ =>
(good_or (good_or (good_or (good_or (good_or (good_or (good_or   (replace_good (g := 0) (n := 137) (f := Go.Proofs.Tryz.f137) rfl (by kernel_rfl) rfl (by kernel_rfl) (Nat.le_of_ble_eq_true (by kernel_rfl)) (fun wt h => Go.Proofs.Tryz.laysM155.s1_3 wt h) (fun s old new m w h1 h2 h3 h4 => Go.Proofs.Tryz.strings_ReplaceAll s old new m w h1 h2 h3 h4))
 (join_good (n := 36) (f := Go.Proofs.Tryz.f36) rfl (by kernel_rfl) rfl (by kernel_rfl) (fun a c sep w => Go.Proofs.Tryz.strings_Join_none a c sep w) (fun bk o c xs sep w h1 h2 h3 h4 h5 => Go.Proofs.Tryz.strings_Join bk o c xs sep w h1 h2 h3 h4 h5)))
 (cut_good (n := 151) (f := Go.Proofs.Tryz.f151) rfl (by kernel_rfl) rfl (by kernel_rfl) (fun s p w => Go.Proofs.Tryz.strings_CutPrefix s p w)))
 (trim_good (n := 154) (f := Go.Proofs.Tryz.f154) rfl (by kernel_rfl) rfl (by kernel_rfl) (fun s p w => Go.Proofs.Tryz.strings_TrimPrefix s p w)))
 (any_good (n := 153) (f := Go.Proofs.Tryz.f153) rfl (by kernel_rfl) rfl (by kernel_rfl) (fun s w => Go.Proofs.YtefdfdkkbbehiaaGreatDoor.any_colon s w) (fun s w h => Go.Proofs.YtefdfdkkbbehiaaGreatDoor.any_three s w h)))
 (split_good (g := 0) (n := 22) (f := Go.Proofs.Tryz.f22) rfl (by kernel_rfl) rfl (by kernel_rfl) (Nat.le_of_ble_eq_true (by kernel_rfl)) (fun wt h => Go.Proofs.Tryz.laysM155.s1_3 wt h) (fun s p m w h1 h2 h3 => (Go.Proofs.Tryz.strings_Split s p m w h1 h2 h3).mono fun e w' h => ⟨h.1, _, h.2⟩)))
 (cut3_good (g := 0) (n := 56) (f := Go.Proofs.Tryz.f56) rfl (by kernel_rfl) rfl (by kernel_rfl) (Nat.le_of_ble_eq_true (by kernel_rfl)) (fun wt h => Go.Proofs.Tryz.laysM155.s1_3 wt h) (fun s p m w h1 h2 => (Go.Proofs.Tryz.strings_Cut s p m w h1 h2).mono fun e w' h => ⟨h.1, by obtain ⟨n, rfl⟩ := h.2; exact ⟨rfl, rfl, rfl, Nat.le_refl _, fun _ _ => rfl⟩⟩)))
 (suf_good (n := 23) (f := Go.Proofs.Tryz.f23) rfl (by kernel_rfl) rfl (by kernel_rfl) (fun s p w h => Go.Proofs.Tryz.strings_TrimSuffix s p w h)))
theorem closed : closedB Go.Proofs.Tryz.prog LT = true := by kernel_rfl
theorem laid : laidOutB Go.Proofs.Tryz.prog = true := by kernel_rfl
theorem pars : ([9] : List TypeId).all (parOk Go.Proofs.Tryz.prog LT) = true := by kernel_rfl
theorem agg9 : aggB Go.Proofs.Tryz.prog 9 = some false := by kernel_rfl
theorem sh9 : shE Go.Proofs.Tryz.prog 9 = [.s] := by kernel_rfl
theorem par9 {i : I} (h : ParSh Go.Proofs.Tryz.prog 9 i) : ∃ u : ByteArray, i = .d (.v (.string u)) ∧ u.size ≤ maxLen := by
 cases h with
 | g h ha => rw [agg9] at ha; cases ha
 | d h hk ha =>
  rw [sh9] at hk
  cases hk
  cases h with | s h0 => exact ⟨_, rfl, h0⟩
end Go.Am.Pp
namespace Go.Proofs.YtefdfdkkbbehiaaGreatDoor.fnExactParsePatch
open Go.ChangeShapes Go.WideShapes Go.ChangeAt Go.RowKit
set_option linter.unusedVariables false
set_option linter.unusedSimpArgs false
theorem own : ownKnob Tryz.prog.godebug = none := by kernel_rfl
theorem calls (W : World) (args : Array Value) (is : List Go.Am.I) (hsh : W.ShapedOpen Tryz.prog) (hi : Go.Am.IFroL (Go.Am.Sigs.X Go.Am.Pp.sg) W (Go.Am.Old W) is args.toList) (hs : Go.Am.ParShL Tryz.prog [9] is) : Calls Tryz.prog 3 args W fun e W' => e = .returned (.bool true) ∧ Below W.heap.size W W' := by
 obtain _ | ⟨h0, hs⟩ := hs
 cases hs
 obtain ⟨r0, rfl, g0⟩ := Go.Am.Pp.par9 h0
 obtain ⟨d, hd⟩ := Go.Am.Pp.f3 g0
 exact Go.Am.law_calls (sg := Go.Am.Pp.sg) (T := Go.Am.TabD Go.Am.Pp.fs d) (Go.Am.tabD_good Go.Am.Pp.fs_ok Go.Am.Pp.nat_ok rfl d) rfl Tryz.func3 rfl rfl hsh Go.Am.noSrc_at hi (hd d d (Nat.le_refl _) (Nat.le_refl _))
set_option maxRecDepth 100000 in
theorem lifted (os : Os) (started : os.Started) (H : Type) (enc : TypeId × Value → H) :
  ReturnsInHanded {} Tryz.checked os 3 .any (fun w args => (Rows.fnExactParsePatchSpec.pre enc Tryz.prog Tryz.f3 [] false w args ∧ laidMetH Tryz.prog Rows.fnExactParsePatchRow.laid w) ∧ sizedMet enc Tryz.prog Tryz.f3 (OpenSpec.ofChange Rows.fnExactParsePatchSpec) false w args)
   (Rows.fnExactParsePatchSpec.post enc Tryz.prog Tryz.f3 false true false false) := by
 refine returnsInHanded_of_calls own started (by kernel_rfl)
  (ChangeSpec.witness_shaped (enc := enc) (C := Tryz.checked) (os := os) (X := fun w _ => laidMetH Tryz.prog Rows.fnExactParsePatchRow.laid w) false (World.laidAll Tryz.prog os Rows.fnExactParsePatchRow.laid) #[.string ByteArray.empty] 8 (World.laidAll_os _ _ _)
   (World.shaped_of_ZipB (by kernel_rfl) (by kernel_rfl)) (by kernel_rfl) (by kernel_rfl) (by kernel_rfl)
   (by rw [MakeChecks.laidMetH_plain _ _ _ (by kernel_rfl)]; exact laidMet_laidAll _ (by kernel_rfl) (by kernel_rfl))) ?_
 intro w tape i _ hsh0 _ hok hpre hholds
 obtain ⟨_, _, _, fn', hfn', _, _, _, _, hval9⟩ := hok
 have e : fn' = Tryz.f3 := Option.some.inj (hfn'.symm.trans Tryz.func3)
 subst e
 obtain ⟨⟨⟨ds, gs, before, hw, hc⟩, hx⟩, hz⟩ := hpre
 have hw' := DataW.Whole.of_heap (w' := w.forCall tape i) (by rfl) hw
 suffices key : ∀ (W : World) (base : Nat) (args : Array Value), (∀ (j : Nat) t v, Tryz.f3.params[j]? = some t → args[j]? = some v → Value.okWide Tryz.prog W .any base t v) →
   DataW.Whole enc Tryz.prog Tryz.f3.params.toList Rows.fnExactParsePatchSpec.vars false W args.toList ds gs before → W.ShapedOpen Tryz.prog →
   Calls Tryz.prog 3 args W fun e W' => ∃ v, e = .returned v ∧ Rows.fnExactParsePatchSpec.post enc Tryz.prog Tryz.f3 false true false false W args v W' by
  refine (key (w.forCall tape i) w.heap.size i.args hval9 hw' hsh0).mono fun e W' ⟨v, he, hp⟩ => ?_
  subst he
  exact ChangeSpec.post_blind hp
 clear hw' hw hc hx hz hholds hval9 hsh0 hfn'
 intro W base args hval0 hW hsh
 have hval : ∀ (j : Nat) t v, Tryz.f3.params[j]? = some t → args[j]? = some v → Value.okWide Tryz.prog W .any base t v := hval0
 have hW' := hW
 obtain ⟨p, q, hA0, hV, rfl, hfz, hnd⟩ := hW
 have hA : DataW.TrodAll enc Tryz.prog W 0 (fun _ => true) true Tryz.f3.params.toList args.toList ds p := hA0
 rw [Tryz.params3] at hA hval
 obtain ⟨rfl, rfl⟩ := trodVars_none hV
 clear hA0 hval0
 simp only [List.append_nil] at hW'
 have hlt : ∀ x ∈ p, x.block < W.heap.size := fun x hx => by simpa using hW'.lt x hx
 have hA1 : DataW.TrodAll enc Tryz.prog W 0 (fun _ => true) true [9] args.toList ds p := hA
 obtain ⟨is, hi, hs⟩ := Go.Am.pars_ok (X := Go.Am.Sigs.X Go.Am.Pp.sg) Go.Am.Pp.closed Go.Am.Pp.pars hA1 fun j t v h1 h2 => by
  have := hval j t v (by simpa using h1) (by simpa using h2)
  exact this
 refine (calls W args is hsh hi hs).mono fun e W' ⟨he, bel⟩ => ?_
 subst he
 obtain ⟨v0, d0, hargs, rfl, h0⟩ := trodAll_one hA1
 have stay := Go.Am.pars_stay Go.Am.Pp.laid bel Go.Am.Pp.pars hA1 hlt
 exact ⟨_, rfl, _, _, _, [], _, [], hW', trodAll_mk1 (shut_bool Tryz.underlying4 _), stay, rfl, bel.frame _, fun h => by cases h⟩
end Go.Proofs.YtefdfdkkbbehiaaGreatDoor.fnExactParsePatch
namespace Go.Proofs.YtefdfdkkbbehiaaGreatDoor.fnExactParsePatch
theorem and_t {a b : Bool} (h : a = true) (g : b = true) : (a && b) = true := by rw [h, g]; rfl
theorem fact0 : (Rows.fnExactParsePatchRow.wf (OpenSpec.ofChange Rows.fnExactParsePatchSpec)) = true := by kernel_rfl
theorem fact1 : (laidOutB Tryz.prog) = true := by kernel_rfl
theorem fact2 : (mapsRowed Tryz.prog) = true := by kernel_rfl
theorem fact3 : (Tryz.f3.params.all (Tryz.prog.readableRec ·)) = true := by kernel_rfl
theorem fact4 : (namedTie Tryz.prog Rows.fnExactParsePatchRow.named Rows.fnExactParsePatchSpec.vars) = true := by kernel_rfl
theorem fact5 : ((Rows.fnExactParsePatchRow.stops == [])) = true := by kernel_rfl
theorem fact6 : ((Tryz.prog.stops == [])) = true := by kernel_rfl
theorem fact7 : ((Rows.fnExactParsePatchRow.knobs == [])) = true := by kernel_rfl
theorem fact8 : ((Tryz.prog.stopKnobs == [])) = true := by kernel_rfl
theorem fact9 : ((Rows.fnExactParsePatchRow.inPlace == Tryz.prog.inPlace 3)) = true := by kernel_rfl
theorem fact10 : ((Rows.fnExactParsePatchRow.unfollowed == Tryz.prog.unfollowed 3)) = true := by kernel_rfl
theorem fact11 : ((Rows.fnExactParsePatchRow.recurses == Tryz.prog.recurses 3)) = true := by kernel_rfl
theorem fact12 : ((Rows.fnExactParsePatchRow.named == Tryz.prog.varsNamed 3)) = true := by kernel_rfl
theorem fact13 : ((Rows.fnExactParsePatchRow.maps == (Tryz.f3.params.toList ++ Rows.fnExactParsePatchSpec.plain.varTypes Tryz.prog).any (Tryz.prog.mapsRec ·))) = true := by kernel_rfl
theorem fact14 : ((Rows.fnExactParsePatchRow.ifaces == (Tryz.f3.params.toList ++ Rows.fnExactParsePatchSpec.plain.varTypes Tryz.prog).any (Tryz.prog.ifacesRec ·))) = true := by kernel_rfl
theorem fact15 : ((Rows.fnExactParsePatchRow.mapsOut == Tryz.prog.mapsAmong Tryz.f3.resultTypes.toList)) = true := by kernel_rfl
theorem fact16 : ((Rows.fnExactParsePatchRow.loops == (Tryz.f3.params.toList ++ Rows.fnExactParsePatchSpec.plain.varTypes Tryz.prog).any (Tryz.prog.loopsFrom ·))) = true := by kernel_rfl
theorem fact17 : ((Rows.fnExactParsePatchRow.wideKeys == (Tryz.f3.params.toList ++ Rows.fnExactParsePatchSpec.plain.varTypes Tryz.prog ++ Tryz.f3.resultTypes.toList).any (Tryz.prog.wideKeysFrom ·))) = true := by kernel_rfl
theorem fact18 : (Rows.fnExactParsePatchSpec.vars.all (Tryz.prog.varReadable ·)) = true := by kernel_rfl
theorem fact19 : (Tryz.f3.resultTypes.all (fun t => Tryz.prog.readableRec t && decide (t < Tryz.prog.types.size))) = true := by kernel_rfl
theorem fact20 : ((Rows.fnExactParsePatchRow.ifacesOut == Tryz.f3.resultTypes.toList.any (Tryz.prog.ifacesRec ·))) = true := by kernel_rfl
theorem fact21 : ((Rows.fnExactParsePatchRow.loopsOut == Tryz.f3.resultTypes.toList.any (Tryz.prog.loopsFrom ·))) = true := by kernel_rfl
theorem fact22 : ((Rows.fnExactParsePatchRow.plainKeys == Tryz.prog.plainKeys)) = true := by kernel_rfl
theorem fact23 : (Rows.fnExactParsePatchRow.shortTexts.isNone) = true := by kernel_rfl
theorem fact24 : (Tryz.prog.stopsHeard) = true := by kernel_rfl
theorem fact25 : (Tryz.prog.mayEnter) = true := by kernel_rfl
theorem fact26 : ((Rows.fnExactParsePatchRow.lifted == Tryz.prog.liftsFinal)) = true := by kernel_rfl
theorem fact27 : ((Tryz.prog.make == some Rows.fnExactParsePatchRow.make)) = true := by kernel_rfl
theorem fact29 : ((Rows.fnExactParsePatchRow.pinned == Rows.fnExactParsePatchRow.pinnedBy)) = true := by kernel_rfl
theorem fact30 : ((Rows.fnExactParsePatchRow.veiled == (Tryz.f3.params.toList ++ Rows.fnExactParsePatchSpec.plain.varTypes Tryz.prog ++ Tryz.f3.resultTypes.toList).any (Tryz.prog.veiledRec ·))) = true := by kernel_rfl
theorem fact31 : (Rows.fnExactParsePatchRow.veiledFits Tryz.prog Tryz.f3.params.toList (Tryz.f3.params.toList ++ Rows.fnExactParsePatchSpec.plain.varTypes Tryz.prog ++ Tryz.f3.resultTypes.toList)) = true := by kernel_rfl
theorem joined : joinedFacts Tryz.prog 3 Tryz.f3 Rows.fnExactParsePatchSpec Rows.fnExactParsePatchRow = true := by
 unfold joinedFacts
 exact (and_t (and_t (and_t (and_t (and_t (and_t (and_t (and_t (and_t (and_t (and_t (and_t (and_t (and_t (and_t (and_t (and_t (and_t (and_t (and_t (and_t (and_t (and_t (and_t (and_t (and_t (and_t (and_t (and_t (and_t (and_t fact0 fact1) fact2) fact3) fact4) fact5) fact6) fact7) fact8) fact9) fact10) fact11) fact12) fact13) fact14) fact15) fact16) fact17) fact18) fact19) fact20) fact21) fact22) fact23) fact24) fact25) fact26) fact27) (by kernel_rfl)) fact29) fact30) fact31)
theorem named : Tryz.pinned.checked.prog.funcNamed Rows.fnExactParsePatchRow.func = some 3 := by kernel_rfl
theorem inst : Tryz.f3.isInstance Tryz.pinned.checked.prog Rows.fnExactParsePatchRow.origin Rows.fnExactParsePatchRow.targs := of_decide_eq_true (by kernel_rfl)
theorem wrap : Tryz.f3.isWrapper Tryz.pinned.checked.prog Rows.fnExactParsePatchRow.wrapper Rows.fnExactParsePatchRow.mainSum := by
 unfold Func.isWrapper; first | (rw [if_pos (by decide +kernel)]; kernel_rfl) | (rw [if_neg (by decide +kernel)]; exact ⟨rfl, rfl⟩)
theorem over : Rows.fnExactParsePatchRow.holds Tryz.pinned (OpenSpec.ofChange Rows.fnExactParsePatchSpec) :=
 OpenClaim.holds_of_wide 3 Tryz.f3 rfl rfl rfl rfl rfl rfl rfl ⟨rfl, rfl, rfl, rfl, rfl⟩ rfl rfl rfl rfl rfl named Tryz.func3 joined
  inst wrap
  (fun os started H enc _ => lifted os started H enc)
theorem proved : Rows.FnExactParsePatchSaid := over
theorem carded : Rows.FnExactParsePatchCardSaid :=
 Claim7.holds_tied_plain_at .later [] Rows.fnExactParsePatchCard.laidKinds true Rows.fnExactParsePatchCard.stood.harness Rows.fnExactParsePatchCard.stood.looks over (fun _ h => by cases h) (by kernel_rfl) (fun _ h => by cases h) fnExactParsePatch_row_tie rfl ⟨rfl, rfl⟩ (by kernel_rfl) rfl
  (fun f fn hf hfn => by
   obtain rfl : f = 3 := Option.some.inj ((show Tryz.prog.funcNamed Rows.fnExactParsePatchRow.func = some 3 by kernel_rfl).symm.trans hf) |>.symm
   obtain rfl : fn = Tryz.f3 := (Option.some.inj (Tryz.func3.symm.trans hfn)).symm
   exact ⟨by kernel_rfl, fun j t ht => by
    rw [Tryz.params3] at ht
    have hm : t ∈ [9] := by simpa using Array.mem_of_getElem? ht
    have hall : ([9].all fun u => !Tryz.prog.wantsStandIn u) = true := by kernel_rfl
    exact (show Tryz.prog.wantsStandIn t = false by simpa using List.all_eq_true.1 hall t hm)⟩)
  (by kernel_rfl)
end Go.Proofs.YtefdfdkkbbehiaaGreatDoor.fnExactParsePatch
namespace Go.Proofs.YtefdfdkkbbehiaaGreatDoor
theorem parsePatch_holds : Rows.FnExactParsePatchCardSaid := fnExactParsePatch.carded
#print axioms parsePatch_holds
end Go.Proofs.YtefdfdkkbbehiaaGreatDoor
