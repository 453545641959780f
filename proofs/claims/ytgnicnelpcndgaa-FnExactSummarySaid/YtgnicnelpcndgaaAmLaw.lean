/- AM: a law, called. Nothing is assumed. -/
import Derived.Test.YtgnicnelpcndgaaAmTrod
set_option linter.unusedVariables false
set_option linter.unusedSimpArgs false
namespace Go.Am
inductive ParSh (P : Program) : TypeId → I → Prop
  | g {t : TypeId} {row : Row} (h : ShL (shE P) (shE P t) row) (ha : aggB P t = some true) : ParSh P t (.g row)
  | d {t : TypeId} {k : Sh} {x : D} (h : ShD (shE P) k x) (hk : shE P t = [k]) (ha : aggB P t = some false) : ParSh P t (.d x)
inductive ParShL (P : Program) : List TypeId → List I → Prop
  | nil : ParShL P [] []
  | cons {t : TypeId} {ts : List TypeId} {i : I} {is : List I} (h : ParSh P t i) (h' : ParShL P ts is) : ParShL P (t :: ts) (i :: is)
/-- Parameters that can be read. -/
def parOk (P : Program) (L : List TypeId) (t : TypeId) : Bool := P.readableRec t && decide (t < P.types.size) && (match shOf P 20 t, aggB P t with
  | some ks, some a => slIn L ks && (a || ks.length == 1)
  | _, _ => false)
section
variable {P : Program} {H : Type} {enc : TypeId × Value → H} {W : World} {X : Nat → Prop}
theorem par_ok {L : List TypeId} (hL : closedB P L = true) {t : TypeId} {v : Value} {d : DataW H} {ps : List MemPlace} (hp : parOk P L t = true) (h : DataW.Trod enc P W 0 (fun _ => true) true t v d ps)
    (hv : Value.okWide P W .any 0 t v) : ∃ i, IFro X W (Old W) i v ∧ ParSh P t i := by
  obtain ⟨fuel, h⟩ := h
  simp only [parOk, Bool.and_eq_true] at hp
  obtain ⟨_, hp⟩ := hp
  split at hp
  · rename_i ks a hk ha
    simp only [Bool.and_eq_true] at hp
    obtain ⟨ds, d1, d2⟩ := trod_ok (enc := enc) (W := W) (sp := fun _ => true) (held := true) hL fuel 20 t v.cells.toList ks ⟨d, ps, h⟩ hk hp.1
    have hE : shE P t = ks := by simp [shE, hk]
    unfold aggB at ha
    cases a with
    | true =>
      have : ∃ cs, v = .agg cs := by
        unfold Value.okWide at hv
        split at ha <;> simp at ha <;> simp_all
        all_goals (obtain ⟨cs, h1, _⟩ := hv; exact ⟨cs, h1⟩)
      obtain ⟨cs, rfl⟩ := this
      exact ⟨.g ds, .g d2, .g (by rw [hE]; exact d1) (by unfold aggB; exact ha)⟩
    | false =>
      have hl : ks.length = 1 := by simpa using hp.2
      match ks, hl with
      | [k], _ =>
        cases d1 with
        | @cons _ _ x _ d1 d1' =>
          cases d1'
          generalize hc : v.cells.toList = l at d2
          cases d2 with
          | cons d2 d2' =>
            cases d2'
            rename_i u
            have hvu : u = v := by
              have hone : ∀ cs, v ≠ .agg cs := by
                rintro cs rfl
                have hval := hv
                unfold Value.okWide at hval
                cases hu : P.underlying t with
                | none => rw [hu] at ha; simp at ha
                | some td =>
                  rw [hu] at ha hval
                  cases td <;> simp at ha <;> simp [Cell.okWide, Cell.ok, hu] at hval
              cases v <;> simp [Value.cells] at hc <;> first | exact hc.symm | exact absurd rfl (hone _)
            subst hvu
            exact ⟨.d x, .d d2, .d d1 hE (by unfold aggB; exact ha)⟩
  · simp at hp
theorem pars_ok {L : List TypeId} (hL : closedB P L = true) : ∀ {ts : List TypeId} {vs : List Value} {ds : List (DataW H)} {ps : List MemPlace}, (ts.all (parOk P L)) = true → DataW.TrodAll enc P W 0 (fun _ => true) true ts vs ds ps →
    (∀ (j : Nat) t v, ts[j]? = some t → vs[j]? = some v → Value.okWide P W .any 0 t v) → ∃ is, IFroL X W (Old W) is vs ∧ ParShL P ts is
  | [], [], [], _, _, _, _ => ⟨[], .nil, .nil⟩
  | t :: ts, v :: vs, d :: ds, _, hp, ⟨p, q, h1, h2, _⟩, hv => by
    simp only [List.all_cons, Bool.and_eq_true] at hp
    obtain ⟨i, e1, e2⟩ := par_ok (X := X) hL hp.1 h1 (hv 0 t v rfl rfl)
    obtain ⟨is, f1, f2⟩ := pars_ok hL hp.2 h2 fun j t' v' h3 h4 => hv (j + 1) t' v' (by simpa using h3) (by simpa using h4)
    exact ⟨i :: is, .cons e1 f1, .cons e2 f2⟩
theorem IFroL.args {w : World} {Z : Nat → Prop} {is : List I} : ∀ {vs : List Value}, IFroL X w Z is vs → ArgsRel X w Z (List.replicate is.length .rd) is vs [] := by
  induction is with
  | nil => intro vs h; cases h; exact .nil
  | cons i is ih => intro vs h; cases h with | cons h h' => exact .rd h (ih h')
/-- The arguments read behind the call as before. -/
theorem pars_stay (hl : laidOutB P = true) {L : List TypeId} {W' : World} (hb : RowKit.Below W.heap.size W W') : ∀ {ts : List TypeId} {vs : List Value} {ds : List (DataW H)} {ps : List MemPlace}, (ts.all (parOk P L)) = true →
    DataW.TrodAll enc P W 0 (fun _ => true) true ts vs ds ps → (∀ x ∈ ps, x.block < W.heap.size) → DataW.TrodAll enc P W' 0 (fun b => decide (b < W.heap.size)) true ts vs ds ps
  | [], [], [], _, _, h, _ => h
  | t :: ts, v :: vs, d :: ds, _, hp, ⟨p, q, h1, h2, h3⟩, hlt => by
    simp only [List.all_cons, Bool.and_eq_true] at hp
    have hp1 := hp.1
    simp only [parOk, Bool.and_eq_true, decide_eq_true_eq] at hp1
    subst h3
    exact ⟨p, q, hb.trod hl hp1.1.1 hp1.1.2 h1 (fun x hx => hlt x (by simp [hx])), pars_stay hl hb hp.2 h2 fun x hx => hlt x (by simp [hx]), rfl⟩
theorem law_calls {sg : Sigs} {T : Table} {fn : Nat} {f : Func} {c : Code} {is : List I} {args : Array Value} (hT : Good P sg T) (hsg : sg fn = none) (hf : P.funcs[fn]? = some f) (hb : f.body = some c) (hname : (f.name == "runtime.NumGoroutine") = false)
    (hi : IFroL sg.X W (Old W) is args.toList) (h : T fn is = some ⟨.d (.v (.bool true)), []⟩) : Calls P fn args W fun e W' => e = .returned (.bool true) ∧ RowKit.Below W.heap.size W W' := by
  have hm : sg.modes fn is.length = List.replicate is.length .rd := by simp [Sigs.modes, hsg]
  have henter : (callFunc fn args).run P W = .ok (.enter fn args) W := by
    have hname' : f.name ≠ "runtime.NumGoroutine" := by simpa using hname
    simp [callFunc, hf, hname', hb]
  have hs := hT fn is _ h W (Old W) args.toList [] (by rw [hm]; exact hi.args) ⟨by simp, by simp, fun b hb => ⟨hb, by simp⟩, Nat.le_refl _, by simp, fun _ _ _ => rfl, Mute.refl W⟩
  simp only [Array.toArray_toList] at hs
  rcases hs with ⟨_, hs⟩ | ⟨v, w', he, _⟩
  · refine hs.mono fun e W' ⟨v, cres, cbk, he, ho, _, hw⟩ => ?_
    subst he
    cases ho with
    | d ho =>
      cases ho with
      | v _ => exact ⟨rfl, hw.mute.os, hw.mute.tape, hw.mute.output, hw.size, fun k hk => hw.frame k hk (by simp)⟩
  · rw [henter] at he
    simp at he
end
end Go.Am
