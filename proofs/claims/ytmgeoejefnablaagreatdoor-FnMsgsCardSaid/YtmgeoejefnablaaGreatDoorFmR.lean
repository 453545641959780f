/- FnMsgs: called, it returns true, and its arguments read as they did. No conditions. -/
import Derived.Test.YtmgeoejefnablaaGreatDoorRows
import Derived.WalkKit
import Derived.ProofKit
import Derived.OpenShut
import Derived.ChangeOld
import Derived.Below
import Derived.HandedShaped
import Derived.Lay
import Derived.LaidOnce
import Derived.SevenTiedAt
import Derived.Test.YtmgeoejefnablaaGreatDoorTie
import Derived.Test.YtmgeoejefnablaaGreatDoorCards
import Derived.Test.YtmgeoejefnablaaGreatDoorFmF
import Derived.Test.YtmgeoejefnablaaGreatDoorFmN
import Derived.Test.YtmgeoejefnablaaGreatDoorFmL
namespace Go.Am.Fm
variable {SK : Src}
set_option maxRecDepth 100000
set_option linter.unusedVariables false
def LT : List TypeId := [5]
def sg : Sigs := fun n => match n with
 | 17 => some [.lent]
 | 43 => some [.lent]
 | 44 => some [.lent, .rd]
 | 45 => some [.lent]
 | 46 => some [.lent, .rd]
 | 48 => some [.lent]
 | 49 => some [.lent, .rd]
 | 50 => some [.lent]
 | 59 => some [.lent, .rd]
 | 70 => some [.lent, .rd]
 | 71 => some [.lent]
 | 72 => some [.lent, .rd]
 | 78 => some [.lent]
 | 88 => some [.lent, .rd]
 | 89 => some [.lent]
 | 90 => some [.lent, .rd, .rd, .rd]
 | 91 => some [.lent, .rd]
 | 100 => some [.lent, .rd]
 | 122 => some [.lent, .rd]
 | _ => none
theorem fs_ok0 : ∀ p ∈ (Go.Am.Fm.fs noSrc).funs, chkFun Go.Proofs.Tryz.prog sg p.1 p.2 = true := List.all_eq_true.1 (show ((Go.Am.Fm.fs noSrc).funs.all fun p => chkFun Go.Proofs.Tryz.prog sg p.1 p.2) = true by kernel_rfl)
theorem fs_ok {SK : Src} : ∀ p ∈ (Go.Am.Fm.fs SK).funs, chkFun Go.Proofs.Tryz.prog sg p.1 p.2 = true := fs_ok0
theorem nat_ok {SK : Src} : ∀ T, Good Go.Proofs.Tryz.prog sg SK T → Good Go.Proofs.Tryz.prog sg SK ((Go.Am.Fm.fs SK).nat T) := fun T _ =>
(good_or (good_or (good_or (good_or (good_or (good_or (good_or (good_or   (replace_good (g := 0) (n := 108) (f := Go.Proofs.Tryz.f108) rfl (by kernel_rfl) rfl (by kernel_rfl) (Nat.le_of_ble_eq_true (by kernel_rfl)) (fun wt h => Go.Proofs.Tryz.laysM155.s1_3 wt h) (fun s old new m w h1 h2 h3 h4 => Go.Proofs.Tryz.strings_ReplaceAll s old new m w h1 h2 h3 h4))
 (join_good (n := 81) (f := Go.Proofs.Tryz.f81) rfl (by kernel_rfl) rfl (by kernel_rfl) (fun a c sep w => Go.Proofs.Tryz.strings_Join_none a c sep w) (fun bk o c xs sep w h1 h2 h3 h4 h5 => Go.Proofs.Tryz.strings_Join bk o c xs sep w h1 h2 h3 h4 h5)))
 (cut_good (n := 121) (f := Go.Proofs.Tryz.f121) rfl (by kernel_rfl) rfl (by kernel_rfl) (fun s p w => Go.Proofs.Tryz.strings_CutPrefix s p w)))
 (trim_good (n := 124) (f := Go.Proofs.Tryz.f124) rfl (by kernel_rfl) rfl (by kernel_rfl) (fun s p w => Go.Proofs.Tryz.strings_TrimPrefix s p w)))
 (any_good (n := 123) (f := Go.Proofs.Tryz.f123) rfl (by kernel_rfl) rfl (by kernel_rfl) (fun s w => Go.Proofs.YtmgeoejefnablaaGreatDoor.any_colon s w) (fun s w h => Go.Proofs.YtmgeoejefnablaaGreatDoor.any_three s w h)))
 (split_good (g := 0) (n := 28) (f := Go.Proofs.Tryz.f28) rfl (by kernel_rfl) rfl (by kernel_rfl) (Nat.le_of_ble_eq_true (by kernel_rfl)) (fun wt h => Go.Proofs.Tryz.laysM155.s1_3 wt h) (fun s p m w h1 h2 h3 => (Go.Proofs.Tryz.strings_Split s p m w h1 h2 h3).mono fun e w' h => ⟨h.1, _, h.2⟩)))
 (cut3_good (g := 0) (n := 30) (f := Go.Proofs.Tryz.f30) rfl (by kernel_rfl) rfl (by kernel_rfl) (Nat.le_of_ble_eq_true (by kernel_rfl)) (fun wt h => Go.Proofs.Tryz.laysM155.s1_3 wt h) (fun s p m w h1 h2 => (Go.Proofs.Tryz.strings_Cut s p m w h1 h2).mono fun e w' h => ⟨h.1, by obtain ⟨n, rfl⟩ := h.2; exact ⟨rfl, rfl, rfl, Nat.le_refl _, fun _ _ => rfl⟩⟩)))
 (suf_good (n := 29) (f := Go.Proofs.Tryz.f29) rfl (by kernel_rfl) rfl (by kernel_rfl) (fun s p w h => Go.Proofs.Tryz.strings_TrimSuffix s p w h)))
 (code_good (mk := 71) (sg := sg) (by decide) rfl))
theorem closed : closedB Go.Proofs.Tryz.prog LT = true := by kernel_rfl
theorem laid : laidOutB Go.Proofs.Tryz.prog = true := by kernel_rfl
theorem pars : ([22] : List TypeId).all (parOk Go.Proofs.Tryz.prog LT) = true := by kernel_rfl
theorem agg22 : aggB Go.Proofs.Tryz.prog 22 = some false := by kernel_rfl
theorem sh22 : shE Go.Proofs.Tryz.prog 22 = [.sl 5] := by kernel_rfl
theorem shB5 : shE Go.Proofs.Tryz.prog 5 = [.i .u8] := by kernel_rfl
theorem par22 {i : I} (h : ParSh Go.Proofs.Tryz.prog 22 i) : ∃ wd l, i = .d (.s wd l) ∧ ShR (shE Go.Proofs.Tryz.prog) [.i .u8] l := by
 cases h with
 | g h ha => rw [agg22] at ha; cases ha
 | d h hk ha =>
  rw [sh22] at hk
  cases hk
  cases h with | sl h0 h1 => exact ⟨_, _, rfl, by rw [shB5] at h1; exact h1⟩
end Go.Am.Fm
namespace Go.Proofs.YtmgeoejefnablaaGreatDoor.fnMsgs
open Go.ChangeShapes Go.WideShapes Go.ChangeAt Go.RowKit
set_option linter.unusedVariables false
set_option linter.unusedSimpArgs false
theorem own : ownKnob Tryz.prog.godebug = none := by kernel_rfl
theorem calls (W : World) (args : Array Value) (is : List Go.Am.I) (hsh : W.ShapedOpen Tryz.prog) (hi : Go.Am.IFroL (Go.Am.Sigs.X Go.Am.Fm.sg) W (Go.Am.Old W) is args.toList) (hs : Go.Am.ParShL Tryz.prog [22] is) : Calls Tryz.prog 3 args W fun e W' => e = .returned (.bool true) ∧ Below W.heap.size W W' := by
 obtain _ | ⟨h0, hs⟩ := hs
 cases hs
 obtain ⟨wd, l, rfl, g0⟩ := Go.Am.Fm.par22 h0
 generalize hl : args.toList = vs at hi
 cases hi with
 | cons e1 e2 =>
  cases e2
  obtain ⟨K, a, n, c, rfl, hK, hn, ha⟩ := Go.Am.src_of g0 e1
  obtain ⟨d, hd⟩ := Go.Am.Fm.f3 (SK := K) (c := c) hn ha
  exact Go.Am.law_calls (sg := Go.Am.Fm.sg) (K := K) (T := Go.Am.TabD (Go.Am.Fm.fs K) d) (Go.Am.tabD_good Go.Am.Fm.fs_ok Go.Am.Fm.nat_ok rfl d) rfl Tryz.func3 rfl rfl hsh hK (by rw [hl]; exact .cons Go.Am.head_fro .nil) (hd d d (Nat.le_refl _) (Nat.le_refl _))
set_option maxRecDepth 100000 in
theorem lifted (os : Os) (started : os.Started) (H : Type) (enc : TypeId × Value → H) :
  ReturnsInHanded {} Tryz.checked os 3 .any (fun w args => (Rows.fnMsgsSpec.pre enc Tryz.prog Tryz.f3 [] false w args ∧ laidMetH Tryz.prog Rows.fnMsgsRow.laid w) ∧ sizedMet enc Tryz.prog Tryz.f3 (OpenSpec.ofChange Rows.fnMsgsSpec) false w args)
   (Rows.fnMsgsSpec.post enc Tryz.prog Tryz.f3 false true false false) := by
 refine returnsInHanded_of_calls own started (by kernel_rfl)
  (ChangeSpec.witness_shaped (enc := enc) (C := Tryz.checked) (os := os) (X := fun w _ => laidMetH Tryz.prog Rows.fnMsgsRow.laid w) false (World.laidAll Tryz.prog os Rows.fnMsgsRow.laid) #[.slice none 0 0] 8 (World.laidAll_os _ _ _)
   (World.shaped_of_ZipB (by kernel_rfl) (by kernel_rfl)) (by kernel_rfl) (by kernel_rfl) (by kernel_rfl)
   (by rw [MakeChecks.laidMetH_plain _ _ _ (by kernel_rfl)]; exact laidMet_laidAll _ (by kernel_rfl) (by kernel_rfl))) ?_
 intro w tape i _ hsh0 _ hok hpre hholds
 obtain ⟨_, _, _, fn', hfn', _, _, _, _, hval9⟩ := hok
 have e : fn' = Tryz.f3 := Option.some.inj (hfn'.symm.trans Tryz.func3)
 subst e
 obtain ⟨⟨⟨ds, gs, before, hw, hc⟩, hx⟩, hz⟩ := hpre
 have hw' := DataW.Whole.of_heap (w' := w.forCall tape i) (by rfl) hw
 suffices key : ∀ (W : World) (base : Nat) (args : Array Value), (∀ (j : Nat) t v, Tryz.f3.params[j]? = some t → args[j]? = some v → Value.okWide Tryz.prog W .any base t v) →
   DataW.Whole enc Tryz.prog Tryz.f3.params.toList Rows.fnMsgsSpec.vars false W args.toList ds gs before → W.ShapedOpen Tryz.prog →
   Calls Tryz.prog 3 args W fun e W' => ∃ v, e = .returned v ∧ Rows.fnMsgsSpec.post enc Tryz.prog Tryz.f3 false true false false W args v W' by
  refine (key (w.forCall tape i) w.heap.size i.args hval9 hw' hsh0).mono fun e W' ⟨v, he, hp⟩ => ?_
  subst he
  exact ChangeSpec.post_blind hp
 clear hw' hw hc hx hz hholds hval9 hsh0 hfn'
 intro W base args hval0 hW hsh
 have hval : ∀ (j : Nat) t v, Tryz.f3.params[j]? = some t → args[j]? = some v → Value.okWide Tryz.prog W .any base t v := hval0
 have hW' := hW
 obtain ⟨p, q, hA0, hV, rfl, hfz, hnd⟩ := hW
 have hA : DataW.TrodAll enc Tryz.prog W 0 (fun _ => true) true Tryz.f3.params.toList args.toList ds p := hA0
 rw [Tryz.params3] at hA hval
 obtain ⟨rfl, rfl⟩ := trodVars_none hV
 clear hA0 hval0
 simp only [List.append_nil] at hW'
 have hlt : ∀ x ∈ p, x.block < W.heap.size := fun x hx => by simpa using hW'.lt x hx
 have hA1 : DataW.TrodAll enc Tryz.prog W 0 (fun _ => true) true [22] args.toList ds p := hA
 obtain ⟨is, hi, hs⟩ := Go.Am.pars_ok (X := Go.Am.Sigs.X Go.Am.Fm.sg) Go.Am.Fm.closed Go.Am.Fm.pars hA1 fun j t v h1 h2 => by
  have := hval j t v (by simpa using h1) (by simpa using h2)
  exact this
 refine (calls W args is hsh hi hs).mono fun e W' ⟨he, bel⟩ => ?_
 subst he
 obtain ⟨v0, d0, hargs, rfl, h0⟩ := trodAll_one hA1
 have stay := Go.Am.pars_stay Go.Am.Fm.laid bel Go.Am.Fm.pars hA1 hlt
 exact ⟨_, rfl, _, _, _, [], _, [], hW', trodAll_mk1 (shut_bool Tryz.underlying4 _), stay, rfl, bel.frame _, fun h => by cases h⟩
end Go.Proofs.YtmgeoejefnablaaGreatDoor.fnMsgs
namespace Go.Proofs.YtmgeoejefnablaaGreatDoor.fnMsgs
theorem and_t {a b : Bool} (h : a = true) (g : b = true) : (a && b) = true := by rw [h, g]; rfl
theorem fact0 : (Rows.fnMsgsRow.wf (OpenSpec.ofChange Rows.fnMsgsSpec)) = true := by kernel_rfl
theorem fact1 : (laidOutB Tryz.prog) = true := by kernel_rfl
theorem fact2 : (mapsRowed Tryz.prog) = true := by kernel_rfl
theorem fact3 : (Tryz.f3.params.all (Tryz.prog.readableRec ·)) = true := by kernel_rfl
theorem fact4 : (namedTie Tryz.prog Rows.fnMsgsRow.named Rows.fnMsgsSpec.vars) = true := by kernel_rfl
theorem fact5 : ((Rows.fnMsgsRow.stops == [])) = true := by kernel_rfl
theorem fact6 : ((Tryz.prog.stops == [])) = true := by kernel_rfl
theorem fact7 : ((Rows.fnMsgsRow.knobs == [])) = true := by kernel_rfl
theorem fact8 : ((Tryz.prog.stopKnobs == [])) = true := by kernel_rfl
theorem fact9 : ((Rows.fnMsgsRow.inPlace == Tryz.prog.inPlace 3)) = true := by kernel_rfl
theorem fact10 : ((Rows.fnMsgsRow.unfollowed == Tryz.prog.unfollowed 3)) = true := by kernel_rfl
theorem fact11 : ((Rows.fnMsgsRow.recurses == Tryz.prog.recurses 3)) = true := by kernel_rfl
theorem fact12 : ((Rows.fnMsgsRow.named == Tryz.prog.varsNamed 3)) = true := by kernel_rfl
theorem fact13 : ((Rows.fnMsgsRow.maps == (Tryz.f3.params.toList ++ Rows.fnMsgsSpec.plain.varTypes Tryz.prog).any (Tryz.prog.mapsRec ·))) = true := by kernel_rfl
theorem fact14 : ((Rows.fnMsgsRow.ifaces == (Tryz.f3.params.toList ++ Rows.fnMsgsSpec.plain.varTypes Tryz.prog).any (Tryz.prog.ifacesRec ·))) = true := by kernel_rfl
theorem fact15 : ((Rows.fnMsgsRow.mapsOut == Tryz.prog.mapsAmong Tryz.f3.resultTypes.toList)) = true := by kernel_rfl
theorem fact16 : ((Rows.fnMsgsRow.loops == (Tryz.f3.params.toList ++ Rows.fnMsgsSpec.plain.varTypes Tryz.prog).any (Tryz.prog.loopsFrom ·))) = true := by kernel_rfl
theorem fact17 : ((Rows.fnMsgsRow.wideKeys == (Tryz.f3.params.toList ++ Rows.fnMsgsSpec.plain.varTypes Tryz.prog ++ Tryz.f3.resultTypes.toList).any (Tryz.prog.wideKeysFrom ·))) = true := by kernel_rfl
theorem fact18 : (Rows.fnMsgsSpec.vars.all (Tryz.prog.varReadable ·)) = true := by kernel_rfl
theorem fact19 : (Tryz.f3.resultTypes.all (fun t => Tryz.prog.readableRec t && decide (t < Tryz.prog.types.size))) = true := by kernel_rfl
theorem fact20 : ((Rows.fnMsgsRow.ifacesOut == Tryz.f3.resultTypes.toList.any (Tryz.prog.ifacesRec ·))) = true := by kernel_rfl
theorem fact21 : ((Rows.fnMsgsRow.loopsOut == Tryz.f3.resultTypes.toList.any (Tryz.prog.loopsFrom ·))) = true := by kernel_rfl
theorem fact22 : ((Rows.fnMsgsRow.plainKeys == Tryz.prog.plainKeys)) = true := by kernel_rfl
theorem fact23 : (Rows.fnMsgsRow.shortTexts.isNone) = true := by kernel_rfl
theorem fact24 : (Tryz.prog.stopsHeard) = true := by kernel_rfl
theorem fact25 : (Tryz.prog.mayEnter) = true := by kernel_rfl
theorem fact26 : ((Rows.fnMsgsRow.lifted == Tryz.prog.liftsFinal)) = true := by kernel_rfl
theorem fact27 : ((Tryz.prog.make == some Rows.fnMsgsRow.make)) = true := by kernel_rfl
theorem fact29 : ((Rows.fnMsgsRow.pinned == Rows.fnMsgsRow.pinnedBy)) = true := by kernel_rfl
theorem fact30 : ((Rows.fnMsgsRow.veiled == (Tryz.f3.params.toList ++ Rows.fnMsgsSpec.plain.varTypes Tryz.prog ++ Tryz.f3.resultTypes.toList).any (Tryz.prog.veiledRec ·))) = true := by kernel_rfl
theorem fact31 : (Rows.fnMsgsRow.veiledFits Tryz.prog Tryz.f3.params.toList (Tryz.f3.params.toList ++ Rows.fnMsgsSpec.plain.varTypes Tryz.prog ++ Tryz.f3.resultTypes.toList)) = true := by kernel_rfl
theorem joined : joinedFacts Tryz.prog 3 Tryz.f3 Rows.fnMsgsSpec Rows.fnMsgsRow = true := by
 unfold joinedFacts
 exact (and_t (and_t (and_t (and_t (and_t (and_t (and_t (and_t (and_t (and_t (and_t (and_t (and_t (and_t (and_t (and_t (and_t (and_t (and_t (and_t (and_t (and_t (and_t (and_t (and_t (and_t (and_t (and_t (and_t (and_t (and_t fact0 fact1) fact2) fact3) fact4) fact5) fact6) fact7) fact8) fact9) fact10) fact11) fact12) fact13) fact14) fact15) fact16) fact17) fact18) fact19) fact20) fact21) fact22) fact23) fact24) fact25) fact26) fact27) (by kernel_rfl)) fact29) fact30) fact31)
theorem named : Tryz.pinned.checked.prog.funcNamed Rows.fnMsgsRow.func = some 3 := by kernel_rfl
theorem inst : Tryz.f3.isInstance Tryz.pinned.checked.prog Rows.fnMsgsRow.origin Rows.fnMsgsRow.targs := of_decide_eq_true (by kernel_rfl)
theorem wrap : Tryz.f3.isWrapper Tryz.pinned.checked.prog Rows.fnMsgsRow.wrapper Rows.fnMsgsRow.mainSum := by
 unfold Func.isWrapper; first | (rw [if_pos (by decide +kernel)]; kernel_rfl) | (rw [if_neg (by decide +kernel)]; exact ⟨rfl, rfl⟩)
theorem over : Rows.fnMsgsRow.holds Tryz.pinned (OpenSpec.ofChange Rows.fnMsgsSpec) :=
 OpenClaim.holds_of_wide 3 Tryz.f3 rfl rfl rfl rfl rfl rfl rfl ⟨rfl, rfl, rfl, rfl, rfl⟩ rfl rfl rfl rfl rfl named Tryz.func3 joined
  inst wrap
  (fun os started H enc _ => lifted os started H enc)
theorem proved : Rows.FnMsgsSaid := over
theorem carded : Rows.FnMsgsCardSaid :=
 Claim7.holds_tied_plain_at .later [] Rows.fnMsgsCard.laidKinds true Rows.fnMsgsCard.stood.harness Rows.fnMsgsCard.stood.looks over (fun _ h => by cases h) (by kernel_rfl) (fun _ h => by cases h) fnMsgs_row_tie rfl ⟨rfl, rfl⟩ (by kernel_rfl) rfl
  (fun f fn hf hfn => by
   obtain rfl : f = 3 := Option.some.inj ((show Tryz.prog.funcNamed Rows.fnMsgsRow.func = some 3 by kernel_rfl).symm.trans hf) |>.symm
   obtain rfl : fn = Tryz.f3 := (Option.some.inj (Tryz.func3.symm.trans hfn)).symm
   exact ⟨by kernel_rfl, fun j t ht => by
    rw [Tryz.params3] at ht
    have hm : t ∈ [22] := by simpa using Array.mem_of_getElem? ht
    have hall : ([22].all fun u => !Tryz.prog.wantsStandIn u) = true := by kernel_rfl
    exact (show Tryz.prog.wantsStandIn t = false by simpa using List.all_eq_true.1 hall t hm)⟩)
  (by kernel_rfl)
end Go.Proofs.YtmgeoejefnablaaGreatDoor.fnMsgs
namespace Go.Proofs.YtmgeoejefnablaaGreatDoor
theorem msgs_holds : Rows.FnMsgsCardSaid := fnMsgs.carded
#print axioms msgs_holds
end Go.Proofs.YtmgeoejefnablaaGreatDoor
