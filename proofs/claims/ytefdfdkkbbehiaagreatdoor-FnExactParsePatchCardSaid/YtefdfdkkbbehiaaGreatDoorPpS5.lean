/- Whether patches are right, of both. Nothing is assumed. -/
import Derived.Test.YtefdfdkkbbehiaaGreatDoorPpS4
import Derived.Test.YtefdfdkkbbehiaaGreatDoorPpN2
namespace Go.Am.Pp
set_option linter.unusedVariables false
set_option linter.unusedSimpArgs false
set_option maxRecDepth 8000
theorem eq_zero {na0 na2 : Int} {sa1 : ByteArray} {la3 la4 : Rows} : eqRow [.v (.int .i64 na0), .v (.string sa1), .v (.int .i64 na2), .s 1 la3, .s 5 la4] ZV = zeroV [.v (.int .i64 na0), .v (.string sa1), .v (.int .i64 na2), .s 1 la3, .s 5 la4] := by
 have e : ∀ l : Rows, ((l.length == ([] : Rows).length) && eqRows l []) = (((l.length : Nat) : Int) == 0) := fun l => by
  cases l with
  | nil => simp [eqRows]
  | cons x l => simp [eqRows]; omega
 have z : zeroV [.v (.int .i64 na0), .v (.string sa1), .v (.int .i64 na2), .s 1 la3, .s 5 la4] = (na0 == 0 && (bytesEq sa1 ByteArray.empty && (na2 == 0 && ((((la3.length : Nat) : Int) == 0) && (((la4.length : Nat) : Int) == 0))))) := rfl
 rw [z, ← e la3, ← e la4]
 simp only [eqRow, eqD, Bool.and_true]
theorem f85 (s : ByteArray) : Ev fs 85 [.d (.v (.string s))] (bo (numL s.toList).isSome) := by
 have q := f117 s
 refine Ev.of (af := a85) rfl rfl (Evt.congr (fun d n => a85q ..) ?_)
 refine ev_call q ?_
 unfold numO
 cases numL s.toList with
 | some x => simp -implicitDefEqProofs only [rdl, Ex.same, Nat.beq]; exact Evt.ret
 | none => simp -implicitDefEqProofs only [rdl, Ex.same, Nat.beq]; exact Evt.ret
theorem f83 {s : ByteArray} (hs : s.size ≤ maxLen) : Ev fs 83 [.d (.v (.string s))] (bo (!stepOk s)) := by
 have q := f84 hs
 have q2 := f85 s
 refine Ev.of (af := a83) rfl rfl (Evt.congr (fun d n => a83q ..) ?_)
 refine ev_call q ?_
 unfold stepOk
 simp -implicitDefEqProofs only [rdl, Ex.same, Nat.beq]
 cases nameOk s with
 | true => exact Evt.ret
 | false =>
  simp -implicitDefEqProofs only [rdl, Ex.same, Nat.beq, Bool.not_false]
  refine ev_call q2 ?_
  simp -implicitDefEqProofs only [rdl, Ex.same, Nat.beq, Bool.false_or]
  exact Evt.ret
theorem f116 {l : Rows} (hl : SL E 9 l) {g : Nat} {cs : List I} {p : Row → Bool} (hg : ∀ (i : Nat) (a : ByteArray), l[i]? = some [.v (.string a)] → Ev fs g ([.d (.v (.string a))] ++ cs) (bo (p [.v (.string a)]))) : Ev fs 116 [.d (.s 1 l), .f g cs] (io (idxR p l)) := by
 refine Ev.of (af := a116) rfl rfl (Evt.congr (fun d n => a116q ..) ?_)
 refine idx_of (L := fun d n => l116x0 (TabD fs d) d n [.fz 1 l, .ff g cs, .v (.int .i64 (l.length : Int)), .v (.int .i64 0)]) (idx_loop (L := fun d n i => l116x0 (TabD fs d) d n [.fz 1 l, .ff g cs, .v (.int .i64 (l.length : Int)), .v (.int .i64 i)]) (fun d m => ?_) (fun i x hi hx => ?_))
 ·rw [l116x0s]
  simp -implicitDefEqProofs only [rdl, Ex.same, Nat.beq, Int.lt_irrefl, decide_false]
 ·have h := hl.at hx
  obtain ⟨sa0, rfl, pa0⟩ := I9 h
  simp only [l116x0s]
  simp -implicitDefEqProofs only [rdl, Ex.same, Nat.beq, decide_eq_true (Int.ofNat_lt.2 hi), dec_nn, look_at hx, wrap_succ hi hl.1]
  apply Stp.conv
  ·apply stp_call
   ·exact hg i _ hx
   ·apply stp_not
    intro _
    exact stp_end
  ·simp
theorem f82 {l : Rows} (hl : SL E 9 l) {g : Nat} {cs : List I} {p : Row → Bool} (hg : ∀ (i : Nat) (a : ByteArray), l[i]? = some [.v (.string a)] → Ev fs g ([.d (.v (.string a))] ++ cs) (bo (p [.v (.string a)]))) : Ev fs 82 [.d (.s 1 l), .f g cs] (bo (l.any p)) := by
 refine Ev.of (af := a82) rfl rfl (Evt.congr (fun d n => a82q ..) ?_)
 refine ev_call (f116 hl hg) ?_
 simp -implicitDefEqProofs only [rdl, Ex.same, Nat.beq, idxR_any]
 exact Evt.ret
theorem z82 {l : Rows} (hl : SL E 9 l) : Ev fs 82 [.d (.s 1 l), .f 83 []] (bo (l.any fun r => !stepOk (cT r 0))) :=
 f82 hl (p := fun r => !stepOk (cT r 0)) fun i a hx => by
  have w := hl.at hx
  rw [E9] at w
  obtain ⟨_, _, e0, p0, _⟩ := inv_s w
  cases e0
  exact f83 p0
theorem path_any {l : Rows} : pathOk l = (!(l.any fun r => !stepOk (cT r 0)) && inB (l.length : Int) 1 5) := by
 unfold pathOk
 rw [allN_any (f := fun r => stepOk (cT r 0))]
theorem op_is {k : Int} {ps v : Row} {pp : Rows} : opOk (.v (.int .i64 k) :: .s 1 pp :: v) = (inB k 1 3 && (pathOk pp && (if k = 2 then zeroV v else valueOk v))) := rfl
theorem f51 {x : Row} (h : ShL E (E 44) x) : Ev fs 51 [.g x] (bo (opOk x)) := by
 obtain ⟨na0, la1, na2, sa3, na4, la5, la6, rfl, pa0, pa1, pa2, pa3, pa4, pa5, pa6⟩ := I44 h
 have hv := val_row pa2 pa3 pa4 pa5 pa6
 have q1 := f16 hv
 have q2 := f15 hv zero_row
 have q3 := z82 pa1
 have e := path_any (l := la1)
 rw [op_is (ps := []), e]
 rw [eq_zero] at q2
 generalize zeroV [.v (.int .i64 na2), .v (.string sa3), .v (.int .i64 na4), .s 1 la5, .s 5 la6] = bz at *
 generalize valueOk [.v (.int .i64 na2), .v (.string sa3), .v (.int .i64 na4), .s 1 la5, .s 5 la6] = bv at *
 generalize (la1.any fun r => !stepOk (cT r 0)) = ba at *
 refine Ev.of (af := a51) rfl rfl (Evt.congr (fun d n => a51q ..) ?_)
 refine ev_call (f81 _ _ _) ?_
 generalize inB (la1.length : Int) 1 5 = bw at *
 simp -implicitDefEqProofs only [rdl, Ex.same, Nat.beq]
 cases bw with
 | false => exact Evt.ret' (by simp)
 | true =>
  simp -implicitDefEqProofs only [rdl, Ex.same, Nat.beq, Bool.not_true]
  refine ev_call q3 ?_
  simp -implicitDefEqProofs only [rdl, Ex.same, Nat.beq]
  cases ba with
  | true => exact Evt.ret' (by simp)
  | false =>
   rcases Int.lt_trichotomy na0 2 with h2 | h2 | h2
   ·by_cases h1 : na0 = 1
    ·subst h1
     simp -implicitDefEqProofs only [rdl, Ex.same, Nat.beq, show ((1 : Int) == 1) = true from rfl]
     refine ev_call q1 ?_
     simp -implicitDefEqProofs only [rdl, Ex.same, Nat.beq]
     exact Evt.ret' (by simp [inB])
    ·have e1 : (na0 == 1) = false := by simpa using h1
     have e2 : (na0 == 2) = false := by simp; omega
     have e3 : (na0 == 3) = false := by simp; omega
     simp -implicitDefEqProofs only [rdl, Ex.same, Nat.beq, e1, e2, e3]
     have hi3 : inB na0 1 3 = false := by (simp [inB]; omega)
     exact Evt.ret' (by simp [hi3])
   ·subst h2
    simp -implicitDefEqProofs only [rdl, Ex.same, Nat.beq, show ((2 : Int) == 1) = false from rfl, show ((2 : Int) == 3) = false from rfl, show ((2 : Int) == 2) = true from rfl]
    refine ev_call q2 ?_
    simp -implicitDefEqProofs only [rdl, Ex.same, Nat.beq]
    exact Evt.ret' (by simp [inB])
   ·by_cases h1 : na0 = 3
    ·subst h1
     simp -implicitDefEqProofs only [rdl, Ex.same, Nat.beq, show ((3 : Int) == 1) = false from rfl, show ((3 : Int) == 3) = true from rfl]
     refine ev_call q1 ?_
     simp -implicitDefEqProofs only [rdl, Ex.same, Nat.beq]
     exact Evt.ret' (by simp [inB])
    ·have e1 : (na0 == 1) = false := by simp; omega
     have e2 : (na0 == 2) = false := by simp; omega
     have e3 : (na0 == 3) = false := by simpa using h1
     simp -implicitDefEqProofs only [rdl, Ex.same, Nat.beq, e1, e2, e3]
     have hi3 : inB na0 1 3 = false := by (simp [inB]; omega)
     exact Evt.ret' (by simp [hi3])
theorem f50 {x : Row} (h : ShL E (E 44) x) : Ev fs 50 [.g x] (bo (!opOk x)) := by
 have q := f51 h
 obtain ⟨na0, la1, na2, sa3, na4, la5, la6, rfl, pa0, pa1, pa2, pa3, pa4, pa5, pa6⟩ := I44 h
 refine Ev.of (af := a50) rfl rfl (Evt.congr (fun d n => a50q ..) ?_)
 refine ev_call q ?_
 simp -implicitDefEqProofs only [rdl, Ex.same, Nat.beq]
 exact Evt.ret
theorem f80 {l : Rows} (hl : SL E 44 l) {g : Nat} {cs : List I} {p : Row → Bool} (hg : ∀ (i : Nat) (x : Row), l[i]? = some x → Ev fs g ([.g x] ++ cs) (bo (p x))) : Ev fs 80 [.d (.s 7 l), .f g cs] (io (idxR p l)) := by
 refine Ev.of (af := a80) rfl rfl (Evt.congr (fun d n => a80q ..) ?_)
 refine idx_of (L := fun d n => l80x0 (TabD fs d) d n [.fz 7 l, .ff g cs, .v (.int .i64 (l.length : Int)), .v (.int .i64 0)]) (idx_loop (L := fun d n i => l80x0 (TabD fs d) d n [.fz 7 l, .ff g cs, .v (.int .i64 (l.length : Int)), .v (.int .i64 i)]) (fun d m => ?_) (fun i x hi hx => ?_))
 ·rw [l80x0s]
  simp -implicitDefEqProofs only [rdl, Ex.same, Nat.beq, Int.lt_irrefl, decide_false]
 ·have h := hl.at hx
  obtain ⟨na0, la1, na2, sa3, na4, la5, la6, rfl, pa0, pa1, pa2, pa3, pa4, pa5, pa6⟩ := I44 h
  simp only [l80x0s]
  simp -implicitDefEqProofs only [rdl, Ex.same, Nat.beq, decide_eq_true (Int.ofNat_lt.2 hi), dec_nn, look_at hx, wrap_succ hi hl.1]
  apply Stp.conv
  ·apply stp_call
   ·exact hg i _ hx
   ·apply stp_not
    intro _
    exact stp_end
  ·simp
theorem f49 {l : Rows} (hl : SL E 44 l) {g : Nat} {cs : List I} {p : Row → Bool} (hg : ∀ (i : Nat) (x : Row), l[i]? = some x → Ev fs g ([.g x] ++ cs) (bo (p x))) : Ev fs 49 [.d (.s 7 l), .f g cs] (bo (l.any p)) := by
 refine Ev.of (af := a49) rfl rfl (Evt.congr (fun d n => a49q ..) ?_)
 refine ev_call (f80 hl hg) ?_
 simp -implicitDefEqProofs only [rdl, Ex.same, Nat.beq, idxR_any]
 exact Evt.ret
theorem ops_any {l : Rows} : opsOk l = (!(l.any fun r => !opOk r) && decide ((l.length : Int) ≤ 20)) := by
 unfold opsOk
 rw [allN_any (f := opOk)]
theorem f18 {l : Rows} (hl : SL E 44 l) : Ev fs 18 [.d (.s 7 l)] (bo (opsOk l)) := by
 have q : Ev fs 49 [.d (.s 7 l), .f 50 []] (bo (l.any fun r => !opOk r)) := f49 hl (p := fun r => !opOk r) fun i x hx => f50 (hl.at hx)
 rw [ops_any]
 refine Ev.of (af := a18) rfl rfl (Evt.congr (fun d n => a18q ..) ?_)
 generalize (l.any fun r => !opOk r) = ba at *
 cases decide ((l.length : Int) ≤ 20) with
 | false => exact Evt.ret' (by simp)
 | true =>
  simp -implicitDefEqProofs only [rdl, Ex.same, Nat.beq]
  refine ev_call q ?_
  simp -implicitDefEqProofs only [rdl, Ex.same, Nat.beq]
  exact Evt.ret' (by simp)
theorem f47 {l : Rows} (hl : SL E 9 l) : Ev fs 47 [.d (.s 1 l)] (bo (pathOk l)) := by
 unfold pathOk
 refine Ev.of (af := a47) rfl rfl (Evt.congr (fun d n => a47q ..) ?_)
 refine ev_aft (L := fun d n => l47x0 (TabD fs d) d n [.fz 1 l, .v (.int .i64 0)]) (all_loop (L := fun d n i => l47x0 (TabD fs d) d n [.fz 1 l, .v (.int .i64 i)]) (n := l.length) (p := fun i => stepOk (cT (row_ l i) 0)) (y := (.exit 0, [.fz 1 l])) (z := (.ret, [.v (.bool false)])) (fun d m => ?_) (fun i hi => ?_)) ?_
 ·rw [l47x0s]
  simp -implicitDefEqProofs only [rdl, Ex.same, Nat.beq, Int.lt_irrefl, decide_false]
 ·have hx := List.getElem?_eq_getElem hi
  generalize l[i] = x at hx
  have w := hl.at hx
  obtain ⟨sw0, rfl, pw0⟩ := I9 w
  have q1 := f78 pw0
  have q2 := f79 sw0
  have hw := wrap_succ hi hl.le
  simp only [row_, hx, Option.getD_some, cT, List.getElem?_cons_zero, stepOk]
  simp only [l47x0s]
  simp -implicitDefEqProofs only [rdl, Ex.same, Nat.beq, decide_eq_true (Int.ofNat_lt.2 hi), dec_nn, look_at hx, hw]
  intro res k k'
  refine ev_call q1 ?_
  simp -implicitDefEqProofs only [rdl, Ex.same, Nat.beq]
  cases hb : nameOk sw0 with
  | true =>
   simp -implicitDefEqProofs only [rdl, Ex.same, Nat.beq, Bool.not_true, hw]
   exact k (by simp [hb])
  | false =>
   simp -implicitDefEqProofs only [rdl, Ex.same, Nat.beq, Bool.not_false]
   refine ev_call q2 ?_
   cases hn : numL sw0.toList with
   | some y =>
    simp -implicitDefEqProofs only [rdl, Ex.same, Nat.beq, show decide (((y : Nat) : Int) < 0) = false from decide_eq_false (by omega)]
    exact k (by simp [hn])
   | none =>
    simp -implicitDefEqProofs only [rdl, Ex.same, Nat.beq, show decide ((-1 : Int) < 0) = true from rfl]
    exact Evt.ret' (k' (by simp [hb, hn]))
 ·generalize allN l.length (fun i => stepOk (cT (row_ l i) 0)) = bb
  cases bb with
  | false =>
   simp -implicitDefEqProofs only [rdl, Ex.same, Nat.beq]
   exact Evt.ret' (by simp)
  | true =>
   simp -implicitDefEqProofs only [rdl, Ex.same, Nat.beq]
   refine ev_call (f46 _ _ _) ?_
   simp -implicitDefEqProofs only [rdl, Ex.same, Nat.beq]
   exact Evt.ret' (by simp)
theorem f48 {v : Row} (hv : ShL E (E 33) v) : Ev fs 48 [.g v] (bo (zeroV v)) := by
 obtain ⟨na0, sa1, na2, la3, la4, rfl, pa0, pa1, pa2, pa3, pa4⟩ := I33 hv
 have z : zeroV [.v (.int .i64 na0), .v (.string sa1), .v (.int .i64 na2), .s 1 la3, .s 5 la4] = (na0 == 0 && (bytesEq sa1 ({ data := #[] } : ByteArray) && (na2 == 0 && ((((la3.length : Nat) : Int) == 0) && (((la4.length : Nat) : Int) == 0))))) := rfl
 rw [z]
 refine Ev.of (af := a48) rfl rfl (Evt.congr (fun d n => a48q ..) ?_)
 cases na0 == 0 with
 | false => exact Evt.ret
 | true =>
  cases bytesEq sa1 ({ data := #[] } : ByteArray) with
  | false => exact Evt.ret
  | true =>
   cases na2 == 0 with
   | false => exact Evt.ret
   | true =>
    cases (((la3.length : Nat) : Int) == 0) with
    | false => exact Evt.ret
    | true => exact Evt.ret
theorem f17 {l : Rows} (hl : SL E 44 l) : Ev fs 17 [.d (.s 7 l)] (bo (opsOk l)) := by
 unfold opsOk
 refine Ev.of (af := a17) rfl rfl (Evt.congr (fun d n => a17q ..) ?_)
 refine ev_aft (L := fun d n => l17x0 (TabD fs d) d n [.fz 7 l, .v (.int .i64 0)]) (all_loop (L := fun d n i => l17x0 (TabD fs d) d n [.fz 7 l, .v (.int .i64 i)]) (n := l.length) (p := fun i => opOk (row_ l i)) (y := (.exit 0, [.fz 7 l])) (z := (.ret, [.v (.bool false)])) (fun d m => ?_) (fun i hi => ?_)) ?_
 ·rw [l17x0s]
  simp -implicitDefEqProofs only [rdl, Ex.same, Nat.beq, Int.lt_irrefl, decide_false]
 ·have hx := List.getElem?_eq_getElem hi
  generalize l[i] = x at hx
  have w := hl.at hx
  obtain ⟨na0, la1, na2, sa3, na4, la5, la6, rfl, pa0, pa1, pa2, pa3, pa4, pa5, pa6⟩ := I44 w
  have hv := val_row pa2 pa3 pa4 pa5 pa6
  have q1 := f46 na0 1 3
  have q2 := f47 pa1
  have q3 := f48 hv
  have q4 := f40 hv
  have hw := wrap_succ hi hl.le
  simp only [row_, hx, Option.getD_some]
  rw [op_is (ps := [])]
  simp only [l17x0s]
  simp -implicitDefEqProofs only [rdl, Ex.same, Nat.beq, decide_eq_true (Int.ofNat_lt.2 hi), dec_nn, look_at hx, hw]
  generalize zeroV [.v (.int .i64 na2), .v (.string sa3), .v (.int .i64 na4), .s 1 la5, .s 5 la6] = bz at *
  generalize valueOk [.v (.int .i64 na2), .v (.string sa3), .v (.int .i64 na4), .s 1 la5, .s 5 la6] = bv at *
  generalize pathOk la1 = bp at *
  intro res k k'
  refine ev_call q1 ?_
  simp -implicitDefEqProofs only [rdl, Ex.same, Nat.beq]
  cases h3 : inB na0 1 3 with
  | false => exact Evt.ret' (k' (by simp [h3]))
  | true =>
   simp -implicitDefEqProofs only [rdl, Ex.same, Nat.beq, Bool.not_true]
   refine ev_call q2 ?_
   simp -implicitDefEqProofs only [rdl, Ex.same, Nat.beq]
   cases bp with
   | false => exact Evt.ret' (k' (by simp [h3]))
   | true =>
    by_cases h2 : na0 = 2
    ·subst h2
     simp -implicitDefEqProofs only [rdl, Ex.same, Nat.beq, Bool.not_true, show ((2 : Int) == 2) = true from rfl, show ((2 : Int) != 2) = false from rfl]
     refine ev_call q3 ?_
     simp -implicitDefEqProofs only [rdl, Ex.same, Nat.beq]
     cases bz with
     | false => exact Evt.ret' (k' (by simp))
     | true =>
      simp -implicitDefEqProofs only [rdl, Ex.same, Nat.beq, Bool.not_true, hw]
      exact k (by simp [h3])
    ·have e2 : (na0 == 2) = false := by simpa using h2
     have e3 : (na0 != 2) = true := by simpa using h2
     simp -implicitDefEqProofs only [rdl, Ex.same, Nat.beq, Bool.not_true, e2, e3]
     refine ev_call q4 ?_
     simp -implicitDefEqProofs only [rdl, Ex.same, Nat.beq]
     cases bv with
     | false => exact Evt.ret' (k' (by simp [h2]))
     | true =>
      simp -implicitDefEqProofs only [rdl, Ex.same, Nat.beq, Bool.not_true, hw]
      exact k (by simp [h3, h2])
 ·generalize allN l.length (fun i => opOk (row_ l i)) = bb
  cases bb with
  | false =>
   simp -implicitDefEqProofs only [rdl, Ex.same, Nat.beq]
   exact Evt.ret' (by simp)
  | true =>
   simp -implicitDefEqProofs only [rdl, Ex.same, Nat.beq]
   exact Evt.ret' (by simp)
end Go.Am.Pp
