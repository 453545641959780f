/- What the functions of one family say in the end. Nothing is assumed. -/
import Derived.Test.YtmgeoejefnablaaGreatDoorPmH
namespace Go.Am.Pm
set_option linter.unusedVariables false
set_option linter.unusedSimpArgs false
set_option maxRecDepth 8000
/- loop.example/g00119/laws.eqStringS -/
theorem f127 {l l' : Rows} (hl : SL E 9 l) (hl' : SL E 9 l') : Ev fs 127 [.d (.s 1 l), .d (.s 1 l')] (bo ((l.length == l'.length) && Y2 l l')) := by
 refine Ev.bo (af := a127) rfl rfl (fun d n => D2n ..) ?_
 simp only [A07, O6, P6, Bool.not_not, Bool.cond_not, A06, Bool.and_true]
 apply Stp.conv
 ·apply Q6; intro e1
  apply A7l (L := fun d n => B1i (TabD fs d) d n [(.fz 1 l), (.fz 1 l'), (.v (.int .i64 0))]) (c := Y2 l l') (y := ((.exit 0), []))
  ·refine A7m (L := fun d n i => B1i (TabD fs d) d n [(.fz 1 l), (.fz 1 l'), (.v (.int .i64 i))]) (B47 (by assumption)) (fun d n => ?_) (fun i x x' hi hi' hx hx' => ?_)
   rw [C09]
   simp -implicitDefEqProofs only [rdl, Ex.same, Nat.beq, Int.lt_irrefl, decide_false]
   have h := (SL.at (E := E) (t := 9) (by assumption) hx)
   have h' := (SL.at (E := E) (t := 9) (by assumption) hx')
   have k := h
   have k' := h'
   obtain ⟨sx0, rfl, px0⟩ := I9 h
   obtain ⟨sy0, rfl, py0⟩ := I9 h'
   simp only [C09]
   simp -implicitDefEqProofs only [rdl, Ex.same, Nat.beq, decide_eq_true (Int.ofNat_lt.2 hi), F3, C9 hx, C9 hx', G7 hi (SL.le (E := E) (t := 9) (by assumption)), List.append_nil]
   simp only [A07, O6, P6, Bool.not_not, Bool.cond_not, A06, Bool.and_true]
   apply Stp.conv
   ·apply Q6; intro g1
    exact A05
   ·first | (simp only [eqq]; done) | (simp only [eqq]; ac_rfl) | (rw [Bool.eq_iff_iff]; simp only [eqq, Bool.and_eq_true]; constructor <;> (intro hh; simp only [hh, and_self]))
  any_goals (intro d n; simp -implicitDefEqProofs only [rdl, Ex.same, Nat.beq]; done)
  simp -implicitDefEqProofs only [rdl, Ex.same, Nat.beq]
  first | exact A05 | exact A30
 ·first | (simp only [eqq]; done) | (simp only [eqq]; ac_rfl) | (rw [Bool.eq_iff_iff]; simp only [eqq, Bool.and_eq_true]; constructor <;> (intro hh; simp only [hh, and_self]))
/- loop.example/g00119/laws.eqValueS -/
mutual
theorem D2p {row row' : Row} (h : ShL E (E 46) row) (h' : ShL E (E 46) row') (W : Nat) (hW : 2 * A92 row + 1 = W) : Ev fs 99 [.g row, .g row'] (bo (A2e row row')) := by
 obtain ⟨na0, sa1, na2, la3, la4, rfl, pa0, pa1, pa2, pa3, pa4⟩ := I46 h
 obtain ⟨nc0, sc1, nc2, lc3, lc4, rfl, pc0, pc1, pc2, pc3, pc4⟩ := I46 h'
 refine Ev.bo (af := a99) rfl rfl (fun d n => D43 ..) ?_
 simp only [A07, O6, P6, Bool.not_not, Bool.cond_not, A06, Bool.and_true]
 apply Stp.conv
 ·apply Q6; intro e1
  apply Q6; intro e2
  apply Q6; intro e3
  apply A1e
  ·exact f127 (by assumption) (by assumption)
  apply Q6; intro e4
  apply A1e
  ·exact D2q (by assumption) (by assumption) _ rfl
  apply Q6; intro e5
  first | exact A05 | exact A30
 ·first | (simp only [eqq]; done) | (simp only [eqq]; ac_rfl) | (rw [Bool.eq_iff_iff]; simp only [eqq, Bool.and_eq_true]; constructor <;> (intro hh; simp only [hh, and_self]))
termination_by W
decreasing_by all_goals (try have := B9q hx); (try simp only [A92, wtD] at *); omega
theorem D2q {l l' : Rows} (hl : SL E 46 l) (hl' : SL E 46 l') (W : Nat) (hW : 2 * (l.length + A56 l) = W) : Ev fs 128 [.d (.s 5 l), .d (.s 5 l')] (bo ((l.length == l'.length) && Y2 l l')) := by
 refine Ev.bo (af := D0s) rfl rfl (fun d n => D2o ..) ?_
 simp only [A07, O6, P6, Bool.not_not, Bool.cond_not, A06, Bool.and_true]
 apply Stp.conv
 ·apply Q6; intro e1
  apply A7l (L := fun d n => B1j (TabD fs d) d n [(.fz 5 l), (.fz 5 l'), (.v (.int .i64 0))]) (c := Y2 l l') (y := ((.exit 0), []))
  ·refine A7m (L := fun d n i => B1j (TabD fs d) d n [(.fz 5 l), (.fz 5 l'), (.v (.int .i64 i))]) (B47 (by assumption)) (fun d n => ?_) (fun i x x' hi hi' hx hx' => ?_)
   rw [C0a]
   simp -implicitDefEqProofs only [rdl, Ex.same, Nat.beq, Int.lt_irrefl, decide_false]
   have h := (SL.at (E := E) (t := 46) (by assumption) hx)
   have h' := (SL.at (E := E) (t := 46) (by assumption) hx')
   have k := h
   have k' := h'
   obtain ⟨nx0, sx1, nx2, lx3, lx4, rfl, px0, px1, px2, px3, px4⟩ := I46 h
   obtain ⟨ny0, sy1, ny2, ly3, ly4, rfl, py0, py1, py2, py3, py4⟩ := I46 h'
   simp only [C0a]
   simp -implicitDefEqProofs only [rdl, Ex.same, Nat.beq, decide_eq_true (Int.ofNat_lt.2 hi), F3, C9 hx, C9 hx', G7 hi (SL.le (E := E) (t := 46) (by assumption)), List.append_nil]
   simp only [A07, O6, P6, Bool.not_not, Bool.cond_not, A06, Bool.and_true]
   apply Stp.conv
   ·apply A1e
    ·exact D2p (by assumption) (by assumption) _ rfl
    apply Q6; intro g1
    exact A05
   ·first | (simp only [eqq]; done) | (simp only [eqq]; ac_rfl) | (rw [Bool.eq_iff_iff]; simp only [eqq, Bool.and_eq_true]; constructor <;> (intro hh; simp only [hh, and_self]))
  any_goals (intro d n; simp -implicitDefEqProofs only [rdl, Ex.same, Nat.beq]; done)
  simp -implicitDefEqProofs only [rdl, Ex.same, Nat.beq]
  first | exact A05 | exact A30
 ·first | (simp only [eqq]; done) | (simp only [eqq]; ac_rfl) | (rw [Bool.eq_iff_iff]; simp only [eqq, Bool.and_eq_true]; constructor <;> (intro hh; simp only [hh, and_self]))
termination_by W
decreasing_by all_goals (try have := B9q hx); (try simp only [A92, wtD] at *); omega
end
theorem f99 {row row' : Row} (h : ShL E (E 46) row) (h' : ShL E (E 46) row') : Ev fs 99 [.g row, .g row'] (bo (A2e row row')) := D2p h h' _ rfl
/- loop.example/g00119/laws.eqWork -/
theorem f63 {row row' : Row} (h : ShL E (E 48) row) (h' : ShL E (E 48) row') : Ev fs 63 [.g row, .g row'] (bo (A2e row row')) := by
 obtain ⟨na0, na1, na2, sa3, na4, la5, la6, rfl, pa0, pa1, pa2, pa3, pa4, pa5, pa6⟩ := I48 h
 obtain ⟨nc0, nc1, nc2, sc3, nc4, lc5, lc6, rfl, pc0, pc1, pc2, pc3, pc4, pc5, pc6⟩ := I48 h'
 refine Ev.bo (af := a63) rfl rfl (fun d n => D44 ..) ?_
 simp only [A07, O6, P6, Bool.not_not, Bool.cond_not, A06, Bool.and_true]
 apply Stp.conv
 ·apply Q6; intro e1
  apply Q6; intro e2
  apply A1e
  ·exact f99 (by rw [E46]; exact A02 (by assumption) (A5x (by assumption) (A02 (by assumption) (R9 W9 (by assumption) (R9 W46 (by assumption) (ShL.nil)))))) (by rw [E46]; exact A02 (by assumption) (A5x (by assumption) (A02 (by assumption) (R9 W9 (by assumption) (R9 W46 (by assumption) (ShL.nil))))))
  apply Q6; intro e3
  first | exact A05 | exact A30
 ·first | (simp only [eqq]; done) | (simp only [eqq]; ac_rfl) | (rw [Bool.eq_iff_iff]; simp only [eqq, Bool.and_eq_true]; constructor <;> (intro hh; simp only [hh, and_self]))
/- loop.example/g00119/laws.eqWorkS -/
theorem f37 {l l' : Rows} (hl : SL E 48 l) (hl' : SL E 48 l') : Ev fs 37 [.d (.s 7 l), .d (.s 7 l')] (bo ((l.length == l'.length) && Y2 l l')) := by
 refine Ev.bo (af := a37) rfl rfl (fun d n => D45 ..) ?_
 simp only [A07, O6, P6, Bool.not_not, Bool.cond_not, A06, Bool.and_true]
 apply Stp.conv
 ·apply Q6; intro e1
  apply A7l (L := fun d n => B6y (TabD fs d) d n [(.fz 7 l), (.fz 7 l'), (.v (.int .i64 0))]) (c := Y2 l l') (y := ((.exit 0), []))
  ·refine A7m (L := fun d n i => B6y (TabD fs d) d n [(.fz 7 l), (.fz 7 l'), (.v (.int .i64 i))]) (B47 (by assumption)) (fun d n => ?_) (fun i x x' hi hi' hx hx' => ?_)
   rw [C4y]
   simp -implicitDefEqProofs only [rdl, Ex.same, Nat.beq, Int.lt_irrefl, decide_false]
   have h := (SL.at (E := E) (t := 48) (by assumption) hx)
   have h' := (SL.at (E := E) (t := 48) (by assumption) hx')
   have k := h
   have k' := h'
   obtain ⟨nx0, nx1, nx2, sx3, nx4, lx5, lx6, rfl, px0, px1, px2, px3, px4, px5, px6⟩ := I48 h
   obtain ⟨ny0, ny1, ny2, sy3, ny4, ly5, ly6, rfl, py0, py1, py2, py3, py4, py5, py6⟩ := I48 h'
   simp only [C4y]
   simp -implicitDefEqProofs only [rdl, Ex.same, Nat.beq, decide_eq_true (Int.ofNat_lt.2 hi), F3, C9 hx, C9 hx', G7 hi (SL.le (E := E) (t := 48) (by assumption)), List.append_nil]
   simp only [A07, O6, P6, Bool.not_not, Bool.cond_not, A06, Bool.and_true]
   apply Stp.conv
   ·apply A1e
    ·exact f63 (by assumption) (by assumption)
    apply Q6; intro g1
    exact A05
   ·first | (simp only [eqq]; done) | (simp only [eqq]; ac_rfl) | (rw [Bool.eq_iff_iff]; simp only [eqq, Bool.and_eq_true]; constructor <;> (intro hh; simp only [hh, and_self]))
  any_goals (intro d n; simp -implicitDefEqProofs only [rdl, Ex.same, Nat.beq]; done)
  simp -implicitDefEqProofs only [rdl, Ex.same, Nat.beq]
  first | exact A05 | exact A30
 ·first | (simp only [eqq]; done) | (simp only [eqq]; ac_rfl) | (rw [Bool.eq_iff_iff]; simp only [eqq, Bool.and_eq_true]; constructor <;> (intro hh; simp only [hh, and_self]))
/- loop.example/g00119/laws.eqRun -/
theorem f64 {row row' : Row} (h : ShL E (E 42) row) (h' : ShL E (E 42) row') : Ev fs 64 [.g row, .g row'] (bo (A2e row row')) := by
 obtain ⟨na0, na1, rfl, pa0, pa1⟩ := I42 h
 obtain ⟨nc0, nc1, rfl, pc0, pc1⟩ := I42 h'
 refine Ev.bo (af := a64) rfl rfl (fun d n => D46 ..) ?_
 simp only [A07, O6, P6, Bool.not_not, Bool.cond_not, A06, Bool.and_true]
 apply Stp.conv
 ·apply Q6; intro e1
  apply Q6; intro e2
  first | exact A05 | exact A30
 ·first | (simp only [eqq]; done) | (simp only [eqq]; ac_rfl) | (rw [Bool.eq_iff_iff]; simp only [eqq, Bool.and_eq_true]; constructor <;> (intro hh; simp only [hh, and_self]))
/- loop.example/g00119/laws.eqRunS -/
theorem f38 {l l' : Rows} (hl : SL E 42 l) (hl' : SL E 42 l') : Ev fs 38 [.d (.s 2 l), .d (.s 2 l')] (bo ((l.length == l'.length) && Y2 l l')) := by
 refine Ev.bo (af := a38) rfl rfl (fun d n => D47 ..) ?_
 simp only [A07, O6, P6, Bool.not_not, Bool.cond_not, A06, Bool.and_true]
 apply Stp.conv
 ·apply Q6; intro e1
  apply A7l (L := fun d n => B6z (TabD fs d) d n [(.fz 2 l), (.fz 2 l'), (.v (.int .i64 0))]) (c := Y2 l l') (y := ((.exit 0), []))
  ·refine A7m (L := fun d n i => B6z (TabD fs d) d n [(.fz 2 l), (.fz 2 l'), (.v (.int .i64 i))]) (B47 (by assumption)) (fun d n => ?_) (fun i x x' hi hi' hx hx' => ?_)
   rw [C4z]
   simp -implicitDefEqProofs only [rdl, Ex.same, Nat.beq, Int.lt_irrefl, decide_false]
   have h := (SL.at (E := E) (t := 42) (by assumption) hx)
   have h' := (SL.at (E := E) (t := 42) (by assumption) hx')
   have k := h
   have k' := h'
   obtain ⟨nx0, nx1, rfl, px0, px1⟩ := I42 h
   obtain ⟨ny0, ny1, rfl, py0, py1⟩ := I42 h'
   simp only [C4z]
   simp -implicitDefEqProofs only [rdl, Ex.same, Nat.beq, decide_eq_true (Int.ofNat_lt.2 hi), F3, C9 hx, C9 hx', G7 hi (SL.le (E := E) (t := 42) (by assumption)), List.append_nil]
   simp only [A07, O6, P6, Bool.not_not, Bool.cond_not, A06, Bool.and_true]
   apply Stp.conv
   ·apply A1e
    ·exact f64 (by assumption) (by assumption)
    apply Q6; intro g1
    exact A05
   ·first | (simp only [eqq]; done) | (simp only [eqq]; ac_rfl) | (rw [Bool.eq_iff_iff]; simp only [eqq, Bool.and_eq_true]; constructor <;> (intro hh; simp only [hh, and_self]))
  any_goals (intro d n; simp -implicitDefEqProofs only [rdl, Ex.same, Nat.beq]; done)
  simp -implicitDefEqProofs only [rdl, Ex.same, Nat.beq]
  first | exact A05 | exact A30
 ·first | (simp only [eqq]; done) | (simp only [eqq]; ac_rfl) | (rw [Bool.eq_iff_iff]; simp only [eqq, Bool.and_eq_true]; constructor <;> (intro hh; simp only [hh, and_self]))
/- loop.example/g00119/laws.eqMsg -/
theorem f13 {row row' : Row} (h : ShL E (E 27) row) (h' : ShL E (E 27) row') : Ev fs 13 [.g row, .g row'] (bo (A2e row row')) := by
 obtain ⟨na0, sa1, na2, la3, la4, rfl, pa0, pa1, pa2, pa3, pa4⟩ := I27 h
 obtain ⟨nc0, sc1, nc2, lc3, lc4, rfl, pc0, pc1, pc2, pc3, pc4⟩ := I27 h'
 refine Ev.bo (af := a13) rfl rfl (fun d n => D48 ..) ?_
 simp only [A07, O6, P6, Bool.not_not, Bool.cond_not, A06, Bool.and_true]
 apply Stp.conv
 ·apply Q6; intro e1
  apply Q6; intro e2
  apply Q6; intro e3
  apply A1e
  ·exact f37 (by assumption) (by assumption)
  apply Q6; intro e4
  apply A1e
  ·exact f38 (by assumption) (by assumption)
  apply Q6; intro e5
  first | exact A05 | exact A30
 ·first | (simp only [eqq]; done) | (simp only [eqq]; ac_rfl) | (rw [Bool.eq_iff_iff]; simp only [eqq, Bool.and_eq_true]; constructor <;> (intro hh; simp only [hh, and_self]))
end Go.Am.Pm
