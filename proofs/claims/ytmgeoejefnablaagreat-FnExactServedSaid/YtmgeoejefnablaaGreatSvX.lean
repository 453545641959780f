/- What Served's functions say in the end. Nothing is assumed. -/
import Derived.Test.YtmgeoejefnablaaGreatSvH
namespace Go.Am.Sv
set_option linter.unusedVariables false
set_option linter.unusedSimpArgs false
set_option maxRecDepth 8000
def runN (l : Rows) (u : Int) : Int := match l.find? fun y => cN y 0 == u with
  | some y => cN y 1
  | none => 0
def isIn (l : Rows) (s : ByteArray) : Bool := l.any fun y => bytesEq s (cT y 0)
def served (dead : Rows) (u : Int) (acc : Int) (x : Row) : Int := bif isIn dead (cT x 0) then acc else IntKind.i64.wrap (acc + runN (cR x 4) u)
theorem isIn_sym (l : Rows) (s : ByteArray) : (l.any fun y => bytesEq (cT y 0) s) = isIn l s := by
  unfold isIn
  congr 1
  funext y
  simp only [bytesEq]
  exact Bool.beq_comm ..
theorem f32 {l : Rows} (hl : SL E 166 l) (u : Int) : Ev fs 32 [.d (.s 2 l), .d (.v (.int .i64 u))] ⟨.t [.d (.v (.int .i64 (runN l u))), .d (.v (.bool (l.any fun y => cN y 0 == u)))], []⟩ := by
  have find := find_loop (L := fun d n i => l32x0 (TabD fs d) d n [.fz 2 l, .v (.int .i64 u), .v (.int .i64 i)]) (n := l.length) (p := fun i => cN (l[i]?.getD []) 0 == u) (g := fun i => (.ret, [.v (.int .i64 (cN (l[i]?.getD []) 1)), .v (.bool true)])) (y := (.exit 0, [])) (fun d m => by
      rw [l32x0s]
      simp -implicitDefEqProofs only [rdl, Ex.same, Nat.beq, Int.lt_irrefl, decide_false]) (fun i hi => by
      have hx := List.getElem?_eq_getElem hi
      generalize l[i] = x at hx
      have k := hl.at hx
      obtain ⟨nx0, nx1, rfl, px0, px1⟩ := I166 k
      simp only [l32x0s, hx, Option.getD_some, cN, List.getElem?_cons_zero, List.getElem?_cons_succ]
      simp -implicitDefEqProofs only [rdl, Ex.same, Nat.beq, decide_eq_true (Int.ofNat_lt.2 hi), dec_nn, look_at hx, wrap_succ hi hl.1]
      intro res k1 k2
      refine ev_if (fun hc => ?_) (fun hc => ?_)
      · rw [hc] at k2
        exact Evt.ret' (k2 rfl)
      · rw [hc] at k1
        exact k1 rfl)
  have hf := findN_find (p := fun y => cN y 0 == u) (l := l)
  have ha : (l.any fun y => cN y 0 == u) = (l.find? fun y => cN y 0 == u).isSome := by rw [Bool.eq_iff_iff]; simp
  refine Ev.of (af := a32) rfl rfl (Evt.congr (fun d n => a32q ..) ?_)
  refine ev_aft (L := fun d n => l32x0 (TabD fs d) d n [.fz 2 l, .v (.int .i64 u), .v (.int .i64 0)]) find ?_
  rw [ha]
  unfold runN
  rw [← hf]
  cases hq : findN l.length (fun i => cN (l[i]?.getD []) 0 == u) with
  | none =>
    simp -implicitDefEqProofs only [rdl, Ex.same, Nat.beq]
    exact Evt.ret
  | some i =>
    obtain ⟨hi, hp, _⟩ := findN_some.1 hq
    simp -implicitDefEqProofs only [rdl, Ex.same, Nat.beq]
    exact Evt.ret' (by simp [List.getElem?_eq_getElem hi])
theorem f38 {l : Rows} (hl : SL E 166 l) (u : Int) : Ev fs 38 [.d (.s 2 l), .d (.v (.int .i64 u))] ⟨.t [.d (.v (.int .i64 (runN l u))), .d (.v (.bool (l.any fun y => cN y 0 == u)))], []⟩ := by
  have find := find_loop (L := fun d n i => l38x0 (TabD fs d) d n [.v (.int .i64 u), .fz 2 l, .v (.int .i64 (l.length : Int)), .v (.int .i64 i)]) (n := l.length) (p := fun i => cN (l[i]?.getD []) 0 == u) (g := fun i => (.ret, [.v (.int .i64 (cN (l[i]?.getD []) 1)), .v (.bool true)])) (y := (.exit 0, [])) (fun d m => by
      rw [l38x0s]
      simp -implicitDefEqProofs only [rdl, Ex.same, Nat.beq, Int.lt_irrefl, decide_false]) (fun i hi => by
      have hx := List.getElem?_eq_getElem hi
      generalize l[i] = x at hx
      have k := hl.at hx
      obtain ⟨nx0, nx1, rfl, px0, px1⟩ := I166 k
      simp only [l38x0s, hx, Option.getD_some, cN, List.getElem?_cons_zero, List.getElem?_cons_succ]
      simp -implicitDefEqProofs only [rdl, Ex.same, Nat.beq, decide_eq_true (Int.ofNat_lt.2 hi), dec_nn, look_at hx, wrap_succ hi hl.1]
      intro res k1 k2
      refine ev_if (fun hc => ?_) (fun hc => ?_)
      · rw [hc] at k2
        exact Evt.ret' (k2 rfl)
      · rw [hc] at k1
        exact k1 rfl)
  have hf := findN_find (p := fun y => cN y 0 == u) (l := l)
  have ha : (l.any fun y => cN y 0 == u) = (l.find? fun y => cN y 0 == u).isSome := by rw [Bool.eq_iff_iff]; simp
  refine Ev.of (af := a38) rfl rfl (Evt.congr (fun d n => a38q ..) ?_)
  refine ev_aft (L := fun d n => l38x0 (TabD fs d) d n [.v (.int .i64 u), .fz 2 l, .v (.int .i64 (l.length : Int)), .v (.int .i64 0)]) find ?_
  rw [ha]
  unfold runN
  rw [← hf]
  cases hq : findN l.length (fun i => cN (l[i]?.getD []) 0 == u) with
  | none =>
    simp -implicitDefEqProofs only [rdl, Ex.same, Nat.beq]
    exact Evt.ret
  | some i =>
    obtain ⟨hi, hp, _⟩ := findN_some.1 hq
    simp -implicitDefEqProofs only [rdl, Ex.same, Nat.beq]
    exact Evt.ret' (by simp [List.getElem?_eq_getElem hi])
theorem f33 {l : Rows} (hl : SL E 9 l) (s : ByteArray) : Ev fs 33 [.d (.s 1 l), .d (.v (.string s))] (bo (isIn l s)) := by
  have find := find_loop (L := fun d n i => l33x0 (TabD fs d) d n [.fz 1 l, .v (.string s), .v (.int .i64 i)]) (n := l.length) (p := fun i => bytesEq (cT (l[i]?.getD []) 0) s) (g := fun i => (.ret, [.v (.bool true)])) (y := (.exit 0, [])) (fun d m => by
      rw [l33x0s]
      simp -implicitDefEqProofs only [rdl, Ex.same, Nat.beq, Int.lt_irrefl, decide_false]) (fun i hi => by
      have hx := List.getElem?_eq_getElem hi
      generalize l[i] = x at hx
      have k := hl.at hx
      obtain ⟨sx0, rfl, px0⟩ := I9 k
      simp only [l33x0s, hx, Option.getD_some, cT, List.getElem?_cons_zero, List.getElem?_cons_succ]
      simp -implicitDefEqProofs only [rdl, Ex.same, Nat.beq, decide_eq_true (Int.ofNat_lt.2 hi), dec_nn, look_at hx, wrap_succ hi hl.1]
      intro res k1 k2
      refine ev_if (fun hc => ?_) (fun hc => ?_)
      · rw [hc] at k2
        exact Evt.ret' (k2 rfl)
      · rw [hc] at k1
        exact k1 rfl)
  have hf := findN_find (p := fun y => bytesEq (cT y 0) s) (l := l)
  have ha : isIn l s = (l.find? fun y => bytesEq (cT y 0) s).isSome := by rw [← isIn_sym, Bool.eq_iff_iff]; simp
  refine Ev.of (af := a33) rfl rfl (Evt.congr (fun d n => a33q ..) ?_)
  refine ev_aft (L := fun d n => l33x0 (TabD fs d) d n [.fz 1 l, .v (.string s), .v (.int .i64 0)]) find ?_
  rw [ha, ← hf]
  cases hq : findN l.length (fun i => bytesEq (cT (l[i]?.getD []) 0) s) with
  | none =>
    simp -implicitDefEqProofs only [rdl, Ex.same, Nat.beq]
    exact Evt.ret
  | some i =>
    obtain ⟨hi, hp, _⟩ := findN_some.1 hq
    simp -implicitDefEqProofs only [rdl, Ex.same, Nat.beq]
    exact Evt.ret' (by simp [List.getElem?_eq_getElem hi])
theorem f108 {l : Rows} (hl : SL E 9 l) (s : ByteArray) : Ev fs 108 [.d (.s 1 l), .d (.v (.string s))] (io (idxR (fun y => bytesEq s (cT y 0)) l)) := by
  refine Ev.of (af := a108) rfl rfl (Evt.congr (fun d n => a108q ..) ?_)
  refine idx_of (p := fun y => bytesEq s (cT y 0)) (l := l) (L := fun d n => l108x0 (TabD fs d) d n [.fz 1 l, .v (.string s), .v (.int .i64 (l.length : Int)), .v (.int .i64 0)]) (idx_loop (p := fun y => bytesEq s (cT y 0)) (l := l) (L := fun d n i => l108x0 (TabD fs d) d n [.fz 1 l, .v (.string s), .v (.int .i64 (l.length : Int)), .v (.int .i64 i)]) (fun d m => ?_) (fun i x hi hx => ?_))
  · rw [l108x0s]
    simp -implicitDefEqProofs only [rdl, Ex.same, Nat.beq, Int.lt_irrefl, decide_false]
  · have k := hl.at hx
    obtain ⟨sx0, rfl, px0⟩ := I9 k
    simp only [l108x0s, cT, List.getElem?_cons_zero, List.getElem?_cons_succ]
    simp -implicitDefEqProofs only [rdl, Ex.same, Nat.beq, decide_eq_true (Int.ofNat_lt.2 hi), dec_nn, look_at hx, wrap_succ hi hl.1]
    apply Stp.conv
    · apply stp_not
      intro _
      exact stp_end
    · simp
theorem f39 {l : Rows} (hl : SL E 9 l) (s : ByteArray) : Ev fs 39 [.d (.s 1 l), .d (.v (.string s))] (bo (isIn l s)) := by
  refine Ev.of (af := a39) rfl rfl (Evt.congr (fun d n => a39q ..) ?_)
  refine ev_call (f108 hl s) ?_
  simp -implicitDefEqProofs only [rdl, Ex.same, Nat.beq, idxR_any]
  exact Evt.ret
theorem f8 {row : Row} (h : ShL E (E 43) row) (u : Int) : Ev fs 8 [.g row, .d (.v (.int .i64 u))] (io ((cR row 9).foldl (served (cR row 6) u) 0)) := by
  obtain ⟨na0, na1, na2, la3, la4, la5, la6, ba7, la8, la9, la10, la11, rfl, pa0, pa1, pa2, pa3, pa4, pa5, pa6, pa8, pa9, pa10, pa11⟩ := I43 h
  simp only [cN, cT, cR, cE, List.getElem?_cons_zero, List.getElem?_cons_succ]
  refine Ev.of (af := a8) rfl rfl (Evt.congr (fun d n => a8q ..) ?_)
  refine ev_aft (L := fun d n => l8x0 (TabD fs d) d n [.v (.int .i64 u), (.b [.v (.int .i64 na0), .v (.int .i64 na1), .v (.int .i64 na2), .fz 13 la3, .fz 6 la4, .fz 5 la5, .fz 1 la6, .v (.bool ba7), .fz 1 la8, .fz 5 la9, .fz 5 la10, .fz 1 la11]), .v (.int .i64 0), .v (.int .i64 0)]) (fold_loop (L := fun d n acc i => l8x0 (TabD fs d) d n [.v (.int .i64 u), (.b [.v (.int .i64 na0), .v (.int .i64 na1), .v (.int .i64 na2), .fz 13 la3, .fz 6 la4, .fz 5 la5, .fz 1 la6, .v (.bool ba7), .fz 1 la8, .fz 5 la9, .fz 5 la10, .fz 1 la11]), .v (.int .i64 acc), .v (.int .i64 i)]) (a := la9) (f := served la6 u) (acc := 0) (Y := fun acc => (.exit 0, [.v (.int .i64 acc)])) (fun _ _ => True) (fun d n acc => ?_) (fun i x acc res hi hx _ k => ?_) (fun _ _ _ _ _ _ => trivial) trivial).1 ?_
  · rw [l8x0s]
    simp -implicitDefEqProofs only [rdl, Ex.same, Nat.beq, Int.lt_irrefl, decide_false]
  · have w := pa9.at hx
    obtain ⟨sx0, nx1, nx2, lx3, lx4, rfl, px0, px1, px2, px3, px4⟩ := I99 w
    simp only [l8x0s]
    simp -implicitDefEqProofs only [rdl, Ex.same, Nat.beq, decide_eq_true (Int.ofNat_lt.2 hi), dec_nn, look_at hx, wrap_succ hi pa9.le]
    simp only [served, cN, cT, cR, cE, List.getElem?_cons_zero, List.getElem?_cons_succ] at k
    refine ev_call (f32 px4 u) ?_
    simp -implicitDefEqProofs only [rdl, Ex.same, Nat.beq]
    refine ev_call (f33 pa6 sx0) ?_
    simp -implicitDefEqProofs only [rdl, Ex.same, Nat.beq]
    refine ev_if (fun hc => ?_) (fun hc => ?_)
    · have hc : isIn la6 sx0 = false := by simpa using hc
      rw [hc] at k
      exact k
    · have hc : isIn la6 sx0 = true := by simpa using hc
      rw [hc] at k
      exact k
  · simp -implicitDefEqProofs only [rdl, Ex.same, Nat.beq]
    exact Evt.ret
theorem f10 {row : Row} (h : ShL E (E 43) row) (u : Int) : Ev fs 10 [.g row, .d (.v (.int .i64 u))] (io ((cR row 9).foldl (served (cR row 6) u) 0)) := by
  obtain ⟨na0, na1, na2, la3, la4, la5, la6, ba7, la8, la9, la10, la11, rfl, pa0, pa1, pa2, pa3, pa4, pa5, pa6, pa8, pa9, pa10, pa11⟩ := I43 h
  simp only [cN, cT, cR, cE, List.getElem?_cons_zero, List.getElem?_cons_succ]
  refine Ev.of (af := a10) rfl rfl (Evt.congr (fun d n => a10q ..) ?_)
  refine ev_aft (L := fun d n => l10x0 (TabD fs d) d n [.v (.int .i64 u), .fz 1 la6, .v (.int .i64 0), .fz 5 la9, .v (.int .i64 (la9.length : Int)), .v (.int .i64 0)]) (fold_loop (L := fun d n acc i => l10x0 (TabD fs d) d n [.v (.int .i64 u), .fz 1 la6, .v (.int .i64 acc), .fz 5 la9, .v (.int .i64 (la9.length : Int)), .v (.int .i64 i)]) (a := la9) (f := served la6 u) (acc := 0) (Y := fun acc => (.exit 0, [.v (.int .i64 acc)])) (fun _ _ => True) (fun d n acc => ?_) (fun i x acc res hi hx _ k => ?_) (fun _ _ _ _ _ _ => trivial) trivial).1 ?_
  · rw [l10x0s]
    simp -implicitDefEqProofs only [rdl, Ex.same, Nat.beq, Int.lt_irrefl, decide_false]
  · have w := pa9.at hx
    obtain ⟨sx0, nx1, nx2, lx3, lx4, rfl, px0, px1, px2, px3, px4⟩ := I99 w
    simp only [l10x0s]
    simp -implicitDefEqProofs only [rdl, Ex.same, Nat.beq, decide_eq_true (Int.ofNat_lt.2 hi), dec_nn, look_at hx, wrap_succ hi pa9.le]
    simp only [served, cN, cT, cR, cE, List.getElem?_cons_zero, List.getElem?_cons_succ] at k
    refine ev_call (f38 px4 u) ?_
    simp -implicitDefEqProofs only [rdl, Ex.same, Nat.beq]
    refine ev_call (f39 pa6 sx0) ?_
    simp -implicitDefEqProofs only [rdl, Ex.same, Nat.beq]
    refine ev_if (fun hc => ?_) (fun hc => ?_)
    · have hc : isIn la6 sx0 = false := by simpa using hc
      rw [hc] at k
      exact k
    · have hc : isIn la6 sx0 = true := by simpa using hc
      rw [hc] at k
      exact k
  · simp -implicitDefEqProofs only [rdl, Ex.same, Nat.beq]
    exact Evt.ret
end Go.Am.Sv
