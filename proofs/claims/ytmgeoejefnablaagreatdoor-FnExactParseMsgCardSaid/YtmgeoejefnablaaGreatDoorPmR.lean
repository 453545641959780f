/- FnExactParseMsg: called, it returns true, and its arguments read as they did. No conditions. -/
import Derived.Test.YtmgeoejefnablaaGreatDoorRows
import Derived.WalkKit
import Derived.ProofKit
import Derived.OpenShut
import Derived.ChangeOld
import Derived.Below
import Derived.HandedShaped
import Derived.Lay
import Derived.LaidOnce
import Derived.SevenTiedAt
import Derived.Test.YtmgeoejefnablaaGreatDoorTie
import Derived.Test.YtmgeoejefnablaaGreatDoorCards
import Derived.Test.YtmgeoejefnablaaGreatDoorPmF
import Derived.Test.YtmgeoejefnablaaGreatDoorPmN
import Derived.Test.YtmgeoejefnablaaGreatDoorPmL
namespace Go.Am.Pm
set_option maxRecDepth 100000
set_option linter.unusedVariables false
def LT : List TypeId := []
def sg : Sigs := fun n => match n with
 | 14 => some [.lent, .rd]
 | 39 => some [.lent, .rd]
 | 40 => some [.lent, .rd]
 | 59 => some [.lent, .rd]
 | 60 => some [.lent, .rd]
 | 66 => some [.lent, .rd]
 | 67 => some [.lent, .rd]
 | 88 => some [.lent, .rd]
 | 89 => some [.lent]
 | 90 => some [.lent, .rd, .rd, .rd]
 | 91 => some [.lent, .rd]
 | 93 => some [.lent, .rd]
 | 94 => some [.lent]
 | 95 => some [.lent, .rd, .rd, .rd]
 | 96 => some [.lent]
 | 122 => some [.lent, .rd]
 | 125 => some [.lent]
 | 126 => some [.lent]
 | _ => none
theorem fs_ok : ∀ p ∈ fs.funs, B0v Go.Proofs.Tryz.prog sg p.1 p.2 = true := List.all_eq_true.1 (show (fs.funs.all fun p => B0v Go.Proofs.Tryz.prog sg p.1 p.2) = true by kernel_rfl)
theorem nat_ok : ∀ T, Good Go.Proofs.Tryz.prog sg noSrc T → Good Go.Proofs.Tryz.prog sg noSrc (fs.nat T) := fun T _ =>
(A48 (A48 (A48 (A48 (A48 (A48 (A48   (B4c (g := 0) (n := 108) (f := Go.Proofs.Tryz.f108) rfl (by kernel_rfl) rfl (by kernel_rfl) (Nat.le_of_ble_eq_true (by kernel_rfl)) (fun wt h => Go.Proofs.Tryz.laysM155.s1_3 wt h) (fun s old new m w h1 h2 h3 h4 => Go.Proofs.Tryz.strings_ReplaceAll s old new m w h1 h2 h3 h4))
 (C1h (n := 81) (f := Go.Proofs.Tryz.f81) rfl (by kernel_rfl) rfl (by kernel_rfl) (fun a c sep w => Go.Proofs.Tryz.strings_Join_none a c sep w) (fun bk o c xs sep w h1 h2 h3 h4 h5 => Go.Proofs.Tryz.strings_Join bk o c xs sep w h1 h2 h3 h4 h5)))
 (C3h (n := 121) (f := Go.Proofs.Tryz.f121) rfl (by kernel_rfl) rfl (by kernel_rfl) (fun s p w => Go.Proofs.Tryz.strings_CutPrefix s p w)))
 (C1i (n := 124) (f := Go.Proofs.Tryz.f124) rfl (by kernel_rfl) rfl (by kernel_rfl) (fun s p w => Go.Proofs.Tryz.strings_TrimPrefix s p w)))
 (C3j (n := 123) (f := Go.Proofs.Tryz.f123) rfl (by kernel_rfl) rfl (by kernel_rfl) (fun s w => Go.Proofs.YtmgeoejefnablaaGreatDoor.any_colon s w) (fun s w h => Go.Proofs.YtmgeoejefnablaaGreatDoor.any_three s w h)))
 (B8v (g := 0) (n := 28) (f := Go.Proofs.Tryz.f28) rfl (by kernel_rfl) rfl (by kernel_rfl) (Nat.le_of_ble_eq_true (by kernel_rfl)) (fun wt h => Go.Proofs.Tryz.laysM155.s1_3 wt h) (fun s p m w h1 h2 h3 => (Go.Proofs.Tryz.strings_Split s p m w h1 h2 h3).mono fun e w' h => ⟨h.1, _, h.2⟩)))
 (C1r (g := 0) (n := 30) (f := Go.Proofs.Tryz.f30) rfl (by kernel_rfl) rfl (by kernel_rfl) (Nat.le_of_ble_eq_true (by kernel_rfl)) (fun wt h => Go.Proofs.Tryz.laysM155.s1_3 wt h) (fun s p m w h1 h2 => (Go.Proofs.Tryz.strings_Cut s p m w h1 h2).mono fun e w' h => ⟨h.1, by obtain ⟨n, rfl⟩ := h.2; exact ⟨rfl, rfl, rfl, Nat.le_refl _, fun _ _ => rfl⟩⟩)))
 (C3t (n := 29) (f := Go.Proofs.Tryz.f29) rfl (by kernel_rfl) rfl (by kernel_rfl) (fun s p w h => Go.Proofs.Tryz.strings_TrimSuffix s p w h)))
theorem closed : A9k Go.Proofs.Tryz.prog LT = true := by kernel_rfl
theorem laid : laidOutB Go.Proofs.Tryz.prog = true := by kernel_rfl
theorem pars : ([9] : List TypeId).all (B2t Go.Proofs.Tryz.prog LT) = true := by kernel_rfl
theorem D4k : A4o Go.Proofs.Tryz.prog 9 = some false := by kernel_rfl
theorem sh9 : shE Go.Proofs.Tryz.prog 9 = [.s] := by kernel_rfl
theorem par9 {i : I} (h : ParSh Go.Proofs.Tryz.prog 9 i) : ∃ u : ByteArray, i = .d (.v (.string u)) ∧ u.size ≤ maxLen := by
 cases h with
 | g h ha => rw [D4k] at ha; cases ha
 | d h hk ha =>
  rw [sh9] at hk
  cases hk
  cases h with | s h0 => exact ⟨_, rfl, h0⟩
end Go.Am.Pm
namespace Go.Proofs.YtmgeoejefnablaaGreatDoor.fnExactParseMsg
open Go.ChangeShapes Go.WideShapes Go.ChangeAt Go.RowKit
set_option linter.unusedVariables false
set_option linter.unusedSimpArgs false
theorem own : ownKnob Tryz.prog.godebug = none := by kernel_rfl
theorem calls (W : World) (args : Array Value) (is : List Go.Am.I) (hsh : W.ShapedOpen Tryz.prog) (hi : Go.Am.IFroL (Go.Am.Sigs.X Go.Am.Pm.sg) W (Go.Am.Old W) is args.toList) (hs : Go.Am.ParShL Tryz.prog [9] is) : Calls Tryz.prog 4 args W fun e W' => e = .returned (.bool true) ∧ Below W.heap.size W W' := by
 obtain _ | ⟨h0, hs⟩ := hs
 cases hs
 obtain ⟨r0, rfl, g0⟩ := Go.Am.Pm.par9 h0
 obtain ⟨d, hd⟩ := Go.Am.Pm.f4 g0
 exact Go.Am.law_calls (sg := Go.Am.Pm.sg) (T := Go.Am.TabD Go.Am.Pm.fs d) (Go.Am.tabD_good Go.Am.Pm.fs_ok Go.Am.Pm.nat_ok rfl d) rfl Tryz.func4 rfl rfl hsh Go.Am.noSrc_at hi (hd d d (Nat.le_refl _) (Nat.le_refl _))
set_option maxRecDepth 100000 in
theorem lifted (os : Os) (started : os.Started) (H : Type) (enc : TypeId × Value → H) :
  ReturnsInHanded {} Tryz.checked os 4 .any (fun w args => (Rows.fnExactParseMsgSpec.pre enc Tryz.prog Tryz.f4 [] false w args ∧ laidMetH Tryz.prog Rows.fnExactParseMsgRow.laid w) ∧ sizedMet enc Tryz.prog Tryz.f4 (OpenSpec.ofChange Rows.fnExactParseMsgSpec) false w args)
   (Rows.fnExactParseMsgSpec.post enc Tryz.prog Tryz.f4 false true false false) := by
 refine returnsInHanded_of_calls own started (by kernel_rfl)
  (ChangeSpec.witness_shaped (enc := enc) (C := Tryz.checked) (os := os) (X := fun w _ => laidMetH Tryz.prog Rows.fnExactParseMsgRow.laid w) false (World.laidAll Tryz.prog os Rows.fnExactParseMsgRow.laid) #[.string ByteArray.empty] 8 (World.laidAll_os _ _ _)
   (World.shaped_of_ZipB (by kernel_rfl) (by kernel_rfl)) (by kernel_rfl) (by kernel_rfl) (by kernel_rfl)
   (by rw [MakeChecks.laidMetH_plain _ _ _ (by kernel_rfl)]; exact laidMet_laidAll _ (by kernel_rfl) (by kernel_rfl))) ?_
 intro w tape i _ hsh0 _ hok hpre hholds
 obtain ⟨_, _, _, fn', hfn', _, _, _, _, hval9⟩ := hok
 have e : fn' = Tryz.f4 := Option.some.inj (hfn'.symm.trans Tryz.func4)
 subst e
 obtain ⟨⟨⟨ds, gs, before, hw, hc⟩, hx⟩, hz⟩ := hpre
 have hw' := DataW.Whole.of_heap (w' := w.forCall tape i) (by rfl) hw
 suffices key : ∀ (W : World) (base : Nat) (args : Array Value), (∀ (j : Nat) t v, Tryz.f4.params[j]? = some t → args[j]? = some v → Value.okWide Tryz.prog W .any base t v) →
   DataW.Whole enc Tryz.prog Tryz.f4.params.toList Rows.fnExactParseMsgSpec.vars false W args.toList ds gs before → W.ShapedOpen Tryz.prog →
   Calls Tryz.prog 4 args W fun e W' => ∃ v, e = .returned v ∧ Rows.fnExactParseMsgSpec.post enc Tryz.prog Tryz.f4 false true false false W args v W' by
  refine (key (w.forCall tape i) w.heap.size i.args hval9 hw' hsh0).mono fun e W' ⟨v, he, hp⟩ => ?_
  subst he
  exact ChangeSpec.post_blind hp
 clear hw' hw hc hx hz hholds hval9 hsh0 hfn'
 intro W base args hval0 hW hsh
 have hval : ∀ (j : Nat) t v, Tryz.f4.params[j]? = some t → args[j]? = some v → Value.okWide Tryz.prog W .any base t v := hval0
 have hW' := hW
 obtain ⟨p, q, hA0, hV, rfl, hfz, hnd⟩ := hW
 have hA : DataW.TrodAll enc Tryz.prog W 0 (fun _ => true) true Tryz.f4.params.toList args.toList ds p := hA0
 rw [Tryz.params4] at hA hval
 obtain ⟨rfl, rfl⟩ := trodVars_none hV
 clear hA0 hval0
 simp only [List.append_nil] at hW'
 have hlt : ∀ x ∈ p, x.block < W.heap.size := fun x hx => by simpa using hW'.lt x hx
 have hA1 : DataW.TrodAll enc Tryz.prog W 0 (fun _ => true) true [9] args.toList ds p := hA
 obtain ⟨is, hi, hs⟩ := Go.Am.pars_ok (X := Go.Am.Sigs.X Go.Am.Pm.sg) Go.Am.Pm.closed Go.Am.Pm.pars hA1 fun j t v h1 h2 => by
  have := hval j t v (by simpa using h1) (by simpa using h2)
  exact this
 refine (calls W args is hsh hi hs).mono fun e W' ⟨he, bel⟩ => ?_
 subst he
 obtain ⟨v0, d0, hargs, rfl, h0⟩ := trodAll_one hA1
 have stay := Go.Am.pars_stay Go.Am.Pm.laid bel Go.Am.Pm.pars hA1 hlt
 exact ⟨_, rfl, _, _, _, [], _, [], hW', trodAll_mk1 (shut_bool Tryz.underlying4 _), stay, rfl, bel.frame _, fun h => by cases h⟩
end Go.Proofs.YtmgeoejefnablaaGreatDoor.fnExactParseMsg
namespace Go.Proofs.YtmgeoejefnablaaGreatDoor.fnExactParseMsg
theorem Q9 {a b : Bool} (h : a = true) (g : b = true) : (a && b) = true := by rw [h, g]; rfl
theorem D31 : (Rows.fnExactParseMsgRow.wf (OpenSpec.ofChange Rows.fnExactParseMsgSpec)) = true := by kernel_rfl
theorem D32 : (laidOutB Tryz.prog) = true := by kernel_rfl
theorem D33 : (mapsRowed Tryz.prog) = true := by kernel_rfl
theorem D34 : (Tryz.f4.params.all (Tryz.prog.readableRec ·)) = true := by kernel_rfl
theorem D35 : (namedTie Tryz.prog Rows.fnExactParseMsgRow.named Rows.fnExactParseMsgSpec.vars) = true := by kernel_rfl
theorem D36 : ((Rows.fnExactParseMsgRow.stops == [])) = true := by kernel_rfl
theorem D37 : ((Tryz.prog.stops == [])) = true := by kernel_rfl
theorem D38 : ((Rows.fnExactParseMsgRow.knobs == [])) = true := by kernel_rfl
theorem D39 : ((Tryz.prog.stopKnobs == [])) = true := by kernel_rfl
theorem D3a : ((Rows.fnExactParseMsgRow.inPlace == Tryz.prog.inPlace 4)) = true := by kernel_rfl
theorem D13 : ((Rows.fnExactParseMsgRow.unfollowed == Tryz.prog.unfollowed 4)) = true := by kernel_rfl
theorem D14 : ((Rows.fnExactParseMsgRow.recurses == Tryz.prog.recurses 4)) = true := by kernel_rfl
theorem D15 : ((Rows.fnExactParseMsgRow.named == Tryz.prog.varsNamed 4)) = true := by kernel_rfl
theorem D16 : ((Rows.fnExactParseMsgRow.maps == (Tryz.f4.params.toList ++ Rows.fnExactParseMsgSpec.plain.varTypes Tryz.prog).any (Tryz.prog.mapsRec ·))) = true := by kernel_rfl
theorem D17 : ((Rows.fnExactParseMsgRow.ifaces == (Tryz.f4.params.toList ++ Rows.fnExactParseMsgSpec.plain.varTypes Tryz.prog).any (Tryz.prog.ifacesRec ·))) = true := by kernel_rfl
theorem D18 : ((Rows.fnExactParseMsgRow.mapsOut == Tryz.prog.mapsAmong Tryz.f4.resultTypes.toList)) = true := by kernel_rfl
theorem D19 : ((Rows.fnExactParseMsgRow.loops == (Tryz.f4.params.toList ++ Rows.fnExactParseMsgSpec.plain.varTypes Tryz.prog).any (Tryz.prog.loopsFrom ·))) = true := by kernel_rfl
theorem D1a : ((Rows.fnExactParseMsgRow.wideKeys == (Tryz.f4.params.toList ++ Rows.fnExactParseMsgSpec.plain.varTypes Tryz.prog ++ Tryz.f4.resultTypes.toList).any (Tryz.prog.wideKeysFrom ·))) = true := by kernel_rfl
theorem D1b : (Rows.fnExactParseMsgSpec.vars.all (Tryz.prog.varReadable ·)) = true := by kernel_rfl
theorem D1c : (Tryz.f4.resultTypes.all (fun t => Tryz.prog.readableRec t && decide (t < Tryz.prog.types.size))) = true := by kernel_rfl
theorem D1d : ((Rows.fnExactParseMsgRow.ifacesOut == Tryz.f4.resultTypes.toList.any (Tryz.prog.ifacesRec ·))) = true := by kernel_rfl
theorem D1e : ((Rows.fnExactParseMsgRow.loopsOut == Tryz.f4.resultTypes.toList.any (Tryz.prog.loopsFrom ·))) = true := by kernel_rfl
theorem D1f : ((Rows.fnExactParseMsgRow.plainKeys == Tryz.prog.plainKeys)) = true := by kernel_rfl
theorem D1g : (Rows.fnExactParseMsgRow.shortTexts.isNone) = true := by kernel_rfl
theorem D1h : (Tryz.prog.stopsHeard) = true := by kernel_rfl
theorem D1i : (Tryz.prog.mayEnter) = true := by kernel_rfl
theorem D1j : ((Rows.fnExactParseMsgRow.lifted == Tryz.prog.liftsFinal)) = true := by kernel_rfl
theorem D1k : ((Tryz.prog.make == some Rows.fnExactParseMsgRow.make)) = true := by kernel_rfl
theorem D1l : ((Rows.fnExactParseMsgRow.pinned == Rows.fnExactParseMsgRow.pinnedBy)) = true := by kernel_rfl
theorem D1m : ((Rows.fnExactParseMsgRow.veiled == (Tryz.f4.params.toList ++ Rows.fnExactParseMsgSpec.plain.varTypes Tryz.prog ++ Tryz.f4.resultTypes.toList).any (Tryz.prog.veiledRec ·))) = true := by kernel_rfl
theorem D1n : (Rows.fnExactParseMsgRow.veiledFits Tryz.prog Tryz.f4.params.toList (Tryz.f4.params.toList ++ Rows.fnExactParseMsgSpec.plain.varTypes Tryz.prog ++ Tryz.f4.resultTypes.toList)) = true := by kernel_rfl
theorem joined : joinedFacts Tryz.prog 4 Tryz.f4 Rows.fnExactParseMsgSpec Rows.fnExactParseMsgRow = true := by
 unfold joinedFacts
 exact (Q9 (Q9 (Q9 (Q9 (Q9 (Q9 (Q9 (Q9 (Q9 (Q9 (Q9 (Q9 (Q9 (Q9 (Q9 (Q9 (Q9 (Q9 (Q9 (Q9 (Q9 (Q9 (Q9 (Q9 (Q9 (Q9 (Q9 (Q9 (Q9 (Q9 (Q9 D31 D32) D33) D34) D35) D36) D37) D38) D39) D3a) D13) D14) D15) D16) D17) D18) D19) D1a) D1b) D1c) D1d) D1e) D1f) D1g) D1h) D1i) D1j) D1k) (by kernel_rfl)) D1l) D1m) D1n)
theorem named : Tryz.pinned.checked.prog.funcNamed Rows.fnExactParseMsgRow.func = some 4 := by kernel_rfl
theorem inst : Tryz.f4.isInstance Tryz.pinned.checked.prog Rows.fnExactParseMsgRow.origin Rows.fnExactParseMsgRow.targs := of_decide_eq_true (by kernel_rfl)
theorem wrap : Tryz.f4.isWrapper Tryz.pinned.checked.prog Rows.fnExactParseMsgRow.wrapper Rows.fnExactParseMsgRow.mainSum := by
 unfold Func.isWrapper; first | (rw [if_pos (by decide +kernel)]; kernel_rfl) | (rw [if_neg (by decide +kernel)]; exact ⟨rfl, rfl⟩)
theorem over : Rows.fnExactParseMsgRow.holds Tryz.pinned (OpenSpec.ofChange Rows.fnExactParseMsgSpec) :=
 OpenClaim.holds_of_wide 4 Tryz.f4 rfl rfl rfl rfl rfl rfl rfl ⟨rfl, rfl, rfl, rfl, rfl⟩ rfl rfl rfl rfl rfl named Tryz.func4 joined
  inst wrap
  (fun os started H enc _ => lifted os started H enc)
theorem proved : Rows.FnExactParseMsgSaid := over
theorem carded : Rows.FnExactParseMsgCardSaid :=
 Claim7.holds_tied_plain_at .later [] Rows.fnExactParseMsgCard.laidKinds true Rows.fnExactParseMsgCard.stood.harness Rows.fnExactParseMsgCard.stood.looks over (fun _ h => by cases h) (by kernel_rfl) (fun _ h => by cases h) fnExactParseMsg_row_tie rfl ⟨rfl, rfl⟩ (by kernel_rfl) rfl
  (fun f fn hf hfn => by
   obtain rfl : f = 4 := Option.some.inj ((show Tryz.prog.funcNamed Rows.fnExactParseMsgRow.func = some 4 by kernel_rfl).symm.trans hf) |>.symm
   obtain rfl : fn = Tryz.f4 := (Option.some.inj (Tryz.func4.symm.trans hfn)).symm
   exact ⟨by kernel_rfl, fun j t ht => by
    rw [Tryz.params4] at ht
    have hm : t ∈ [9] := by simpa using Array.mem_of_getElem? ht
    have hall : ([9].all fun u => !Tryz.prog.wantsStandIn u) = true := by kernel_rfl
    exact (show Tryz.prog.wantsStandIn t = false by simpa using List.all_eq_true.1 hall t hm)⟩)
  (by kernel_rfl)
end Go.Proofs.YtmgeoejefnablaaGreatDoor.fnExactParseMsg
namespace Go.Proofs.YtmgeoejefnablaaGreatDoor
theorem parseMsg_holds : Rows.FnExactParseMsgCardSaid := fnExactParseMsg.carded
#print axioms parseMsg_holds
end Go.Proofs.YtmgeoejefnablaaGreatDoor
