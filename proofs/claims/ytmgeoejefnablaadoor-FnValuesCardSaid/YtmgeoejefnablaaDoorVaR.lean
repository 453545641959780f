/- FnValues: called, it returns true, and its arguments read as they did. No conditions. -/
import Derived.Test.YtmgeoejefnablaaDoorRows
import Derived.WalkKit
import Derived.ProofKit
import Derived.OpenShut
import Derived.ChangeOld
import Derived.Below
import Derived.HandedShaped
import Derived.Lay
import Derived.LaidOnce
import Derived.SevenTiedAt
import Derived.Test.YtmgeoejefnablaaDoorTie
import Derived.Test.YtmgeoejefnablaaDoorCards
import Derived.Test.YtmgeoejefnablaaDoorVaF
import Derived.Test.YtmgeoejefnablaaDoorVaN
import Derived.Test.YtmgeoejefnablaaDoorVaL
namespace Go.Am.Va
variable {SK : Src}
set_option maxRecDepth 100000
set_option linter.unusedVariables false
def LT : List TypeId := [5]
def sg : Sigs := fun n => match n with
  | 35 => some [.lent, .rd]
  | 44 => some [.lent]
  | 68 => some [.lent, .rd]
  | 69 => some [.lent]
  | 70 => some [.lent, .rd, .rd, .rd]
  | 71 => some [.lent, .rd]
  | 76 => some [.lent, .rd]
  | 77 => some [.lent, .rd]
  | 78 => some [.lent, .rd]
  | 79 => some [.lent, .rd]
  | 89 => some [.lent, .rd]
  | 96 => some [.lent, .rd]
  | 97 => some [.lent, .rd]
  | 98 => some [.lent, .rd]
  | 100 => some [.lent]
  | 101 => some [.lent]
  | 117 => some [.lent]
  | _ => none
theorem fs_ok0 : ∀ p ∈ (Go.Am.Va.fs noSrc).funs, chkFun Go.Proofs.Tryd.prog sg p.1 p.2 = true := List.all_eq_true.1 (show ((Go.Am.Va.fs noSrc).funs.all fun p => chkFun Go.Proofs.Tryd.prog sg p.1 p.2) = true by kernel_rfl)
theorem fs_ok {SK : Src} : ∀ p ∈ (Go.Am.Va.fs SK).funs, chkFun Go.Proofs.Tryd.prog sg p.1 p.2 = true := fs_ok0
theorem nat_ok {SK : Src} : ∀ T, Good Go.Proofs.Tryd.prog sg SK T → Good Go.Proofs.Tryd.prog sg SK ((Go.Am.Va.fs SK).nat T) := fun T _ =>
(good_or (good_or (good_or (good_or (good_or   (replace_good (g := 0) (n := 92) (f := Go.Proofs.Tryd.f92) rfl (by kernel_rfl) rfl (by kernel_rfl) (Nat.le_of_ble_eq_true (by kernel_rfl)) (fun wt h => Go.Proofs.Tryd.laysM155.s1_3 wt h) (fun s old new m w h1 h2 h3 h4 => Go.Proofs.Tryd.strings_ReplaceAll s old new m w h1 h2 h3 h4))
  (join_good (n := 74) (f := Go.Proofs.Tryd.f74) rfl (by kernel_rfl) rfl (by kernel_rfl) (fun a c sep w => Go.Proofs.Tryd.strings_Join_none a c sep w) (fun bk o c xs sep w h1 h2 h3 h4 h5 => Go.Proofs.Tryd.strings_Join bk o c xs sep w h1 h2 h3 h4 h5)))
  (cut_good (n := 88) (f := Go.Proofs.Tryd.f88) rfl (by kernel_rfl) rfl (by kernel_rfl) (fun s p w => Go.Proofs.Tryd.strings_CutPrefix s p w)))
  (trim_good (n := 91) (f := Go.Proofs.Tryd.f91) rfl (by kernel_rfl) rfl (by kernel_rfl) (fun s p w => Go.Proofs.Tryd.strings_TrimPrefix s p w)))
  (any_good (n := 90) (f := Go.Proofs.Tryd.f90) rfl (by kernel_rfl) rfl (by kernel_rfl) (fun s w => Go.Proofs.YtmgeoejefnablaaDoor.any_colon s w) (fun s w h => Go.Proofs.YtmgeoejefnablaaDoor.any_three s w h)))
  (code_good (mk := 101) (sg := sg) (by decide) rfl))
theorem closed : closedB Go.Proofs.Tryd.prog LT = true := by kernel_rfl
theorem laid : laidOutB Go.Proofs.Tryd.prog = true := by kernel_rfl
theorem pars : ([44] : List TypeId).all (parOk Go.Proofs.Tryd.prog LT) = true := by kernel_rfl
theorem agg44 : aggB Go.Proofs.Tryd.prog 44 = some false := by kernel_rfl
theorem sh44 : shE Go.Proofs.Tryd.prog 44 = [.sl 5] := by kernel_rfl
theorem shB5 : shE Go.Proofs.Tryd.prog 5 = [.i .u8] := by kernel_rfl
theorem par44 {i : I} (h : ParSh Go.Proofs.Tryd.prog 44 i) : ∃ wd l, i = .d (.s wd l) ∧ ShR (shE Go.Proofs.Tryd.prog) [.i .u8] l := by
  cases h with
  | g h ha => rw [agg44] at ha; cases ha
  | d h hk ha =>
    rw [sh44] at hk
    cases hk
    cases h with | sl h0 h1 => exact ⟨_, _, rfl, by rw [shB5] at h1; exact h1⟩
end Go.Am.Va
namespace Go.Proofs.YtmgeoejefnablaaDoor.fnValues
open Go.ChangeShapes Go.WideShapes Go.ChangeAt Go.RowKit
set_option linter.unusedVariables false
set_option linter.unusedSimpArgs false

theorem own : ownKnob Tryd.prog.godebug = none := by kernel_rfl
theorem calls (W : World) (args : Array Value) (is : List Go.Am.I) (hsh : W.ShapedOpen Tryd.prog) (hi : Go.Am.IFroL (Go.Am.Sigs.X Go.Am.Va.sg) W (Go.Am.Old W) is args.toList) (hs : Go.Am.ParShL Tryd.prog [44] is) : Calls Tryd.prog 5 args W fun e W' => e = .returned (.bool true) ∧ Below W.heap.size W W' := by
  obtain _ | ⟨h0, hs⟩ := hs
  cases hs
  obtain ⟨wd, l, rfl, g0⟩ := Go.Am.Va.par44 h0
  generalize hl : args.toList = vs at hi
  cases hi with
  | cons e1 e2 =>
    cases e2
    obtain ⟨K, a, n, c, rfl, hK, hn, ha⟩ := Go.Am.src_of g0 e1
    obtain ⟨d, hd⟩ := Go.Am.Va.f5 (SK := K) (c := c) hn ha
    exact Go.Am.law_calls (sg := Go.Am.Va.sg) (K := K) (T := Go.Am.TabD (Go.Am.Va.fs K) d) (Go.Am.tabD_good Go.Am.Va.fs_ok Go.Am.Va.nat_ok rfl d) rfl Tryd.func5 rfl rfl hsh hK (by rw [hl]; exact .cons Go.Am.head_fro .nil) (hd d d (Nat.le_refl _) (Nat.le_refl _))

set_option maxRecDepth 100000 in
theorem lifted (os : Os) (started : os.Started) (H : Type) (enc : TypeId × Value → H) :
    ReturnsInHanded {} Tryd.checked os 5 .any (fun w args => (Rows.fnValuesSpec.pre enc Tryd.prog Tryd.f5 [] false w args ∧ laidMetH Tryd.prog Rows.fnValuesRow.laid w) ∧ sizedMet enc Tryd.prog Tryd.f5 (OpenSpec.ofChange Rows.fnValuesSpec) false w args)
      (Rows.fnValuesSpec.post enc Tryd.prog Tryd.f5 false true false false) := by
  refine returnsInHanded_of_calls own started (by kernel_rfl)
    (ChangeSpec.witness_shaped (enc := enc) (C := Tryd.checked) (os := os) (X := fun w _ => laidMetH Tryd.prog Rows.fnValuesRow.laid w) false (World.laidAll Tryd.prog os Rows.fnValuesRow.laid) #[.slice none 0 0] 8 (World.laidAll_os _ _ _)
      (World.shaped_of_ZipB (by kernel_rfl) (by kernel_rfl)) (by kernel_rfl) (by kernel_rfl) (by kernel_rfl)
      (by rw [MakeChecks.laidMetH_plain _ _ _ (by kernel_rfl)]; exact laidMet_laidAll _ (by kernel_rfl) (by kernel_rfl))) ?_
  intro w tape i _ hsh0 _ hok hpre hholds
  obtain ⟨_, _, _, fn', hfn', _, _, _, _, hval9⟩ := hok
  have e : fn' = Tryd.f5 := Option.some.inj (hfn'.symm.trans Tryd.func5)
  subst e
  obtain ⟨⟨⟨ds, gs, before, hw, hc⟩, hx⟩, hz⟩ := hpre
  have hw' := DataW.Whole.of_heap (w' := w.forCall tape i) (by rfl) hw
  suffices key : ∀ (W : World) (base : Nat) (args : Array Value), (∀ (j : Nat) t v, Tryd.f5.params[j]? = some t → args[j]? = some v → Value.okWide Tryd.prog W .any base t v) →
      DataW.Whole enc Tryd.prog Tryd.f5.params.toList Rows.fnValuesSpec.vars false W args.toList ds gs before → W.ShapedOpen Tryd.prog →
      Calls Tryd.prog 5 args W fun e W' => ∃ v, e = .returned v ∧ Rows.fnValuesSpec.post enc Tryd.prog Tryd.f5 false true false false W args v W' by
    refine (key (w.forCall tape i) w.heap.size i.args hval9 hw' hsh0).mono fun e W' ⟨v, he, hp⟩ => ?_
    subst he
    exact ChangeSpec.post_blind hp
  clear hw' hw hc hx hz hholds hval9 hsh0 hfn'
  intro W base args hval0 hW hsh
  have hval : ∀ (j : Nat) t v, Tryd.f5.params[j]? = some t → args[j]? = some v → Value.okWide Tryd.prog W .any base t v := hval0
  have hW' := hW
  obtain ⟨p, q, hA0, hV, rfl, hfz, hnd⟩ := hW
  have hA : DataW.TrodAll enc Tryd.prog W 0 (fun _ => true) true Tryd.f5.params.toList args.toList ds p := hA0
  rw [Tryd.params5] at hA hval
  obtain ⟨rfl, rfl⟩ := trodVars_none hV
  clear hA0 hval0
  simp only [List.append_nil] at hW'
  have hlt : ∀ x ∈ p, x.block < W.heap.size := fun x hx => by simpa using hW'.lt x hx
  have hA1 : DataW.TrodAll enc Tryd.prog W 0 (fun _ => true) true [44] args.toList ds p := hA
  obtain ⟨is, hi, hs⟩ := Go.Am.pars_ok (X := Go.Am.Sigs.X Go.Am.Va.sg) Go.Am.Va.closed Go.Am.Va.pars hA1 fun j t v h1 h2 => by
    have := hval j t v (by simpa using h1) (by simpa using h2)
    exact this
  refine (calls W args is hsh hi hs).mono fun e W' ⟨he, bel⟩ => ?_
  subst he
  obtain ⟨v0, d0, hargs, rfl, h0⟩ := trodAll_one hA1
  have stay := Go.Am.pars_stay Go.Am.Va.laid bel Go.Am.Va.pars hA1 hlt
  exact ⟨_, rfl, _, _, _, [], _, [], hW', trodAll_mk1 (shut_bool Tryd.underlying4 _), stay, rfl, bel.frame _, fun h => by cases h⟩
end Go.Proofs.YtmgeoejefnablaaDoor.fnValues

namespace Go.Proofs.YtmgeoejefnablaaDoor.fnValues
theorem and_t {a b : Bool} (h : a = true) (g : b = true) : (a && b) = true := by rw [h, g]; rfl
theorem fact0 : (Rows.fnValuesRow.wf (OpenSpec.ofChange Rows.fnValuesSpec)) = true := by kernel_rfl
theorem fact1 : (laidOutB Tryd.prog) = true := by kernel_rfl
theorem fact2 : (mapsRowed Tryd.prog) = true := by kernel_rfl
theorem fact3 : (Tryd.f5.params.all (Tryd.prog.readableRec ·)) = true := by kernel_rfl
theorem fact4 : (namedTie Tryd.prog Rows.fnValuesRow.named Rows.fnValuesSpec.vars) = true := by kernel_rfl
theorem fact5 : ((Rows.fnValuesRow.stops == [])) = true := by kernel_rfl
theorem fact6 : ((Tryd.prog.stops == [])) = true := by kernel_rfl
theorem fact7 : ((Rows.fnValuesRow.knobs == [])) = true := by kernel_rfl
theorem fact8 : ((Tryd.prog.stopKnobs == [])) = true := by kernel_rfl
theorem fact9 : ((Rows.fnValuesRow.inPlace == Tryd.prog.inPlace 5)) = true := by kernel_rfl
theorem fact10 : ((Rows.fnValuesRow.unfollowed == Tryd.prog.unfollowed 5)) = true := by kernel_rfl
theorem fact11 : ((Rows.fnValuesRow.recurses == Tryd.prog.recurses 5)) = true := by kernel_rfl
theorem fact12 : ((Rows.fnValuesRow.named == Tryd.prog.varsNamed 5)) = true := by kernel_rfl
theorem fact13 : ((Rows.fnValuesRow.maps == (Tryd.f5.params.toList ++ Rows.fnValuesSpec.plain.varTypes Tryd.prog).any (Tryd.prog.mapsRec ·))) = true := by kernel_rfl
theorem fact14 : ((Rows.fnValuesRow.ifaces == (Tryd.f5.params.toList ++ Rows.fnValuesSpec.plain.varTypes Tryd.prog).any (Tryd.prog.ifacesRec ·))) = true := by kernel_rfl
theorem fact15 : ((Rows.fnValuesRow.mapsOut == Tryd.prog.mapsAmong Tryd.f5.resultTypes.toList)) = true := by kernel_rfl
theorem fact16 : ((Rows.fnValuesRow.loops == (Tryd.f5.params.toList ++ Rows.fnValuesSpec.plain.varTypes Tryd.prog).any (Tryd.prog.loopsFrom ·))) = true := by kernel_rfl
theorem fact17 : ((Rows.fnValuesRow.wideKeys == (Tryd.f5.params.toList ++ Rows.fnValuesSpec.plain.varTypes Tryd.prog ++ Tryd.f5.resultTypes.toList).any (Tryd.prog.wideKeysFrom ·))) = true := by kernel_rfl
theorem fact18 : (Rows.fnValuesSpec.vars.all (Tryd.prog.varReadable ·)) = true := by kernel_rfl
theorem fact19 : (Tryd.f5.resultTypes.all (fun t => Tryd.prog.readableRec t && decide (t < Tryd.prog.types.size))) = true := by kernel_rfl
theorem fact20 : ((Rows.fnValuesRow.ifacesOut == Tryd.f5.resultTypes.toList.any (Tryd.prog.ifacesRec ·))) = true := by kernel_rfl
theorem fact21 : ((Rows.fnValuesRow.loopsOut == Tryd.f5.resultTypes.toList.any (Tryd.prog.loopsFrom ·))) = true := by kernel_rfl
theorem fact22 : ((Rows.fnValuesRow.plainKeys == Tryd.prog.plainKeys)) = true := by kernel_rfl
theorem fact23 : (Rows.fnValuesRow.shortTexts.isNone) = true := by kernel_rfl
theorem fact24 : (Tryd.prog.stopsHeard) = true := by kernel_rfl
theorem fact25 : (Tryd.prog.mayEnter) = true := by kernel_rfl
theorem fact26 : ((Rows.fnValuesRow.lifted == Tryd.prog.liftsFinal)) = true := by kernel_rfl
theorem fact27 : ((Tryd.prog.make == some Rows.fnValuesRow.make)) = true := by kernel_rfl
theorem fact29 : ((Rows.fnValuesRow.pinned == Rows.fnValuesRow.pinnedBy)) = true := by kernel_rfl
theorem fact30 : ((Rows.fnValuesRow.veiled == (Tryd.f5.params.toList ++ Rows.fnValuesSpec.plain.varTypes Tryd.prog ++ Tryd.f5.resultTypes.toList).any (Tryd.prog.veiledRec ·))) = true := by kernel_rfl
theorem fact31 : (Rows.fnValuesRow.veiledFits Tryd.prog Tryd.f5.params.toList (Tryd.f5.params.toList ++ Rows.fnValuesSpec.plain.varTypes Tryd.prog ++ Tryd.f5.resultTypes.toList)) = true := by kernel_rfl
theorem joined : joinedFacts Tryd.prog 5 Tryd.f5 Rows.fnValuesSpec Rows.fnValuesRow = true := by
  unfold joinedFacts
  exact (and_t (and_t (and_t (and_t (and_t (and_t (and_t (and_t (and_t (and_t (and_t (and_t (and_t (and_t (and_t (and_t (and_t (and_t (and_t (and_t (and_t (and_t (and_t (and_t (and_t (and_t (and_t (and_t (and_t (and_t (and_t fact0 fact1) fact2) fact3) fact4) fact5) fact6) fact7) fact8) fact9) fact10) fact11) fact12) fact13) fact14) fact15) fact16) fact17) fact18) fact19) fact20) fact21) fact22) fact23) fact24) fact25) fact26) fact27) (by kernel_rfl)) fact29) fact30) fact31)
theorem named : Tryd.pinned.checked.prog.funcNamed Rows.fnValuesRow.func = some 5 := by kernel_rfl
theorem inst : Tryd.f5.isInstance Tryd.pinned.checked.prog Rows.fnValuesRow.origin Rows.fnValuesRow.targs := of_decide_eq_true (by kernel_rfl)
theorem wrap : Tryd.f5.isWrapper Tryd.pinned.checked.prog Rows.fnValuesRow.wrapper Rows.fnValuesRow.mainSum := by
  unfold Func.isWrapper; first | (rw [if_pos (by decide +kernel)]; kernel_rfl) | (rw [if_neg (by decide +kernel)]; exact ⟨rfl, rfl⟩)
theorem over : Rows.fnValuesRow.holds Tryd.pinned (OpenSpec.ofChange Rows.fnValuesSpec) :=
  OpenClaim.holds_of_wide 5 Tryd.f5 rfl rfl rfl rfl rfl rfl rfl ⟨rfl, rfl, rfl, rfl, rfl⟩ rfl rfl rfl rfl rfl named Tryd.func5 joined
    inst wrap
    (fun os started H enc _ => lifted os started H enc)
theorem proved : Rows.FnValuesSaid := over
theorem carded : Rows.FnValuesCardSaid :=
  Claim7.holds_tied_plain_at .later [] Rows.fnValuesCard.laidKinds true Rows.fnValuesCard.stood.harness Rows.fnValuesCard.stood.looks over (fun _ h => by cases h) (by kernel_rfl) (fun _ h => by cases h) fnValues_row_tie rfl ⟨rfl, rfl⟩ (by kernel_rfl) rfl
    (fun f fn hf hfn => by
      obtain rfl : f = 5 := Option.some.inj ((show Tryd.prog.funcNamed Rows.fnValuesRow.func = some 5 by kernel_rfl).symm.trans hf) |>.symm
      obtain rfl : fn = Tryd.f5 := (Option.some.inj (Tryd.func5.symm.trans hfn)).symm
      exact ⟨by kernel_rfl, fun j t ht => by
        rw [Tryd.params5] at ht
        have hm : t ∈ [44] := by simpa using Array.mem_of_getElem? ht
        have hall : ([44].all fun u => !Tryd.prog.wantsStandIn u) = true := by kernel_rfl
        exact (show Tryd.prog.wantsStandIn t = false by simpa using List.all_eq_true.1 hall t hm)⟩)
    (by kernel_rfl)
end Go.Proofs.YtmgeoejefnablaaDoor.fnValues
namespace Go.Proofs.YtmgeoejefnablaaDoor
theorem values_holds : Rows.FnValuesCardSaid := fnValues.carded
#print axioms values_holds
end Go.Proofs.YtmgeoejefnablaaDoor
