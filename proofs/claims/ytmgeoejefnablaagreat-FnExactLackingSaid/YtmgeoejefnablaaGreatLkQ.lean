/- What the functions of one family say in the end. Nothing is assumed. -/
import Derived.Test.YtmgeoejefnablaaGreatLkH
namespace Go.Am.Lk
set_option linter.unusedVariables false
set_option linter.unusedSimpArgs false
set_option maxRecDepth 8000
/- loop.example/g00119/laws.eqIntS -/
theorem f16 {l l' : Rows} (hl : SL E 3 l) (hl' : SL E 3 l') : Ev fs 16 [.d (.s 1 l), .d (.s 1 l')] (bo ((l.length == l'.length) && eqRows l l')) := by
  refine Ev.bo (af := a16) rfl rfl (fun d n => a16q ..) ?_
  simp only [bne_not, beq_t, beq_f, Bool.not_not, Bool.cond_not, beq_nat, Bool.and_true]
  apply Stp.conv
  · apply stp_if; intro e1
    apply stp_loop (L := fun d n => l16x0 (TabD fs d) d n [(.fz 1 l), (.fz 1 l'), (.v (.int .i64 0))]) (c := eqRows l l') (y := ((.exit 0), []))
    · refine eq_loopE (L := fun d n i => l16x0 (TabD fs d) d n [(.fz 1 l), (.fz 1 l'), (.v (.int .i64 i))]) (len_of (by assumption)) (fun d n => ?_) (fun i x x' hi hi' hx hx' => ?_)
      rw [l16x0s]
      simp -implicitDefEqProofs only [rdl, Ex.same, Nat.beq, Int.lt_irrefl, decide_false]
      have h := (SL.at (E := E) (t := 3) (by assumption) hx)
      have h' := (SL.at (E := E) (t := 3) (by assumption) hx')
      have k := h
      have k' := h'
      obtain ⟨nx0, rfl, px0⟩ := I3 h
      obtain ⟨ny0, rfl, py0⟩ := I3 h'
      simp only [l16x0s]
      simp -implicitDefEqProofs only [rdl, Ex.same, Nat.beq, decide_eq_true (Int.ofNat_lt.2 hi), dec_nn, look_at hx, look_at hx', wrap_succ hi (SL.le (E := E) (t := 3) (by assumption)), List.append_nil]
      simp only [bne_not, beq_t, beq_f, Bool.not_not, Bool.cond_not, beq_nat, Bool.and_true]
      apply Stp.conv
      · apply stp_if; intro g1
        exact stp_end
      · first | (simp only [eqq]; done) | (simp only [eqq]; ac_rfl) | (rw [Bool.eq_iff_iff]; simp only [eqq, Bool.and_eq_true]; constructor <;> (intro hh; simp only [hh, and_self]))
    any_goals (intro d n; simp -implicitDefEqProofs only [rdl, Ex.same, Nat.beq]; done)
    simp -implicitDefEqProofs only [rdl, Ex.same, Nat.beq]
    first | exact stp_end | exact stp_ret
  · first | (simp only [eqq]; done) | (simp only [eqq]; ac_rfl) | (rw [Bool.eq_iff_iff]; simp only [eqq, Bool.and_eq_true]; constructor <;> (intro hh; simp only [hh, and_self]))
/- loop.example/g00119/laws.eqStringS -/
theorem f43 {l l' : Rows} (hl : SL E 9 l) (hl' : SL E 9 l') : Ev fs 43 [.d (.s 1 l), .d (.s 1 l')] (bo ((l.length == l'.length) && eqRows l l')) := by
  refine Ev.bo (af := a43) rfl rfl (fun d n => a43q ..) ?_
  simp only [bne_not, beq_t, beq_f, Bool.not_not, Bool.cond_not, beq_nat, Bool.and_true]
  apply Stp.conv
  · apply stp_if; intro e1
    apply stp_loop (L := fun d n => l43x0 (TabD fs d) d n [(.fz 1 l), (.fz 1 l'), (.v (.int .i64 0))]) (c := eqRows l l') (y := ((.exit 0), []))
    · refine eq_loopE (L := fun d n i => l43x0 (TabD fs d) d n [(.fz 1 l), (.fz 1 l'), (.v (.int .i64 i))]) (len_of (by assumption)) (fun d n => ?_) (fun i x x' hi hi' hx hx' => ?_)
      rw [l43x0s]
      simp -implicitDefEqProofs only [rdl, Ex.same, Nat.beq, Int.lt_irrefl, decide_false]
      have h := (SL.at (E := E) (t := 9) (by assumption) hx)
      have h' := (SL.at (E := E) (t := 9) (by assumption) hx')
      have k := h
      have k' := h'
      obtain ⟨sx0, rfl, px0⟩ := I9 h
      obtain ⟨sy0, rfl, py0⟩ := I9 h'
      simp only [l43x0s]
      simp -implicitDefEqProofs only [rdl, Ex.same, Nat.beq, decide_eq_true (Int.ofNat_lt.2 hi), dec_nn, look_at hx, look_at hx', wrap_succ hi (SL.le (E := E) (t := 9) (by assumption)), List.append_nil]
      simp only [bne_not, beq_t, beq_f, Bool.not_not, Bool.cond_not, beq_nat, Bool.and_true]
      apply Stp.conv
      · apply stp_if; intro g1
        exact stp_end
      · first | (simp only [eqq]; done) | (simp only [eqq]; ac_rfl) | (rw [Bool.eq_iff_iff]; simp only [eqq, Bool.and_eq_true]; constructor <;> (intro hh; simp only [hh, and_self]))
    any_goals (intro d n; simp -implicitDefEqProofs only [rdl, Ex.same, Nat.beq]; done)
    simp -implicitDefEqProofs only [rdl, Ex.same, Nat.beq]
    first | exact stp_end | exact stp_ret
  · first | (simp only [eqq]; done) | (simp only [eqq]; ac_rfl) | (rw [Bool.eq_iff_iff]; simp only [eqq, Bool.and_eq_true]; constructor <;> (intro hh; simp only [hh, and_self]))
/- loop.example/g00119/laws.eqTerm -/
theorem f215 {row row' : Row} (h : ShL E (E 259) row) (h' : ShL E (E 259) row') : Ev fs 215 [.g row, .g row'] (bo (eqRow row row')) := by
  obtain ⟨na0, sa1, la2, rfl, pa0, pa1, pa2⟩ := I259 h
  obtain ⟨nc0, sc1, lc2, rfl, pc0, pc1, pc2⟩ := I259 h'
  refine Ev.bo (af := a215) rfl rfl (fun d n => a215q ..) ?_
  simp only [bne_not, beq_t, beq_f, Bool.not_not, Bool.cond_not, beq_nat, Bool.and_true]
  apply Stp.conv
  · apply stp_if; intro e1
    apply stp_if; intro e2
    apply stp_call
    · exact f43 (by assumption) (by assumption)
    apply stp_if; intro e3
    first | exact stp_end | exact stp_ret
  · first | (simp only [eqq]; done) | (simp only [eqq]; ac_rfl) | (rw [Bool.eq_iff_iff]; simp only [eqq, Bool.and_eq_true]; constructor <;> (intro hh; simp only [hh, and_self]))
/- loop.example/g00119/laws.eqTermS -/
theorem f157 {l l' : Rows} (hl : SL E 259 l) (hl' : SL E 259 l') : Ev fs 157 [.d (.s 3 l), .d (.s 3 l')] (bo ((l.length == l'.length) && eqRows l l')) := by
  refine Ev.bo (af := a157) rfl rfl (fun d n => a157q ..) ?_
  simp only [bne_not, beq_t, beq_f, Bool.not_not, Bool.cond_not, beq_nat, Bool.and_true]
  apply Stp.conv
  · apply stp_if; intro e1
    apply stp_loop (L := fun d n => l157x0 (TabD fs d) d n [(.fz 3 l), (.fz 3 l'), (.v (.int .i64 0))]) (c := eqRows l l') (y := ((.exit 0), []))
    · refine eq_loopE (L := fun d n i => l157x0 (TabD fs d) d n [(.fz 3 l), (.fz 3 l'), (.v (.int .i64 i))]) (len_of (by assumption)) (fun d n => ?_) (fun i x x' hi hi' hx hx' => ?_)
      rw [l157x0s]
      simp -implicitDefEqProofs only [rdl, Ex.same, Nat.beq, Int.lt_irrefl, decide_false]
      have h := (SL.at (E := E) (t := 259) (by assumption) hx)
      have h' := (SL.at (E := E) (t := 259) (by assumption) hx')
      have k := h
      have k' := h'
      obtain ⟨nx0, sx1, lx2, rfl, px0, px1, px2⟩ := I259 h
      obtain ⟨ny0, sy1, ly2, rfl, py0, py1, py2⟩ := I259 h'
      simp only [l157x0s]
      simp -implicitDefEqProofs only [rdl, Ex.same, Nat.beq, decide_eq_true (Int.ofNat_lt.2 hi), dec_nn, look_at hx, look_at hx', wrap_succ hi (SL.le (E := E) (t := 259) (by assumption)), List.append_nil]
      simp only [bne_not, beq_t, beq_f, Bool.not_not, Bool.cond_not, beq_nat, Bool.and_true]
      apply Stp.conv
      · apply stp_call
        · exact f215 (by assumption) (by assumption)
        apply stp_if; intro g1
        exact stp_end
      · first | (simp only [eqq]; done) | (simp only [eqq]; ac_rfl) | (rw [Bool.eq_iff_iff]; simp only [eqq, Bool.and_eq_true]; constructor <;> (intro hh; simp only [hh, and_self]))
    any_goals (intro d n; simp -implicitDefEqProofs only [rdl, Ex.same, Nat.beq]; done)
    simp -implicitDefEqProofs only [rdl, Ex.same, Nat.beq]
    first | exact stp_end | exact stp_ret
  · first | (simp only [eqq]; done) | (simp only [eqq]; ac_rfl) | (rw [Bool.eq_iff_iff]; simp only [eqq, Bool.and_eq_true]; constructor <;> (intro hh; simp only [hh, and_self]))
/- loop.example/g00119/laws.eqWeigh -/
theorem f216 {row row' : Row} (h : ShL E (E 209) row) (h' : ShL E (E 209) row') : Ev fs 216 [.g row, .g row'] (bo (eqRow row row')) := by
  obtain ⟨sa0, na1, rfl, pa0, pa1⟩ := I209 h
  obtain ⟨sc0, nc1, rfl, pc0, pc1⟩ := I209 h'
  refine Ev.bo (af := a216) rfl rfl (fun d n => a216q ..) ?_
  simp only [bne_not, beq_t, beq_f, Bool.not_not, Bool.cond_not, beq_nat, Bool.and_true]
  apply Stp.conv
  · apply stp_if; intro e1
    apply stp_if; intro e2
    first | exact stp_end | exact stp_ret
  · first | (simp only [eqq]; done) | (simp only [eqq]; ac_rfl) | (rw [Bool.eq_iff_iff]; simp only [eqq, Bool.and_eq_true]; constructor <;> (intro hh; simp only [hh, and_self]))
/- loop.example/g00119/laws.eqWeighS -/
theorem f158 {l l' : Rows} (hl : SL E 209 l) (hl' : SL E 209 l') : Ev fs 158 [.d (.s 2 l), .d (.s 2 l')] (bo ((l.length == l'.length) && eqRows l l')) := by
  refine Ev.bo (af := a158) rfl rfl (fun d n => a158q ..) ?_
  simp only [bne_not, beq_t, beq_f, Bool.not_not, Bool.cond_not, beq_nat, Bool.and_true]
  apply Stp.conv
  · apply stp_if; intro e1
    apply stp_loop (L := fun d n => l158x0 (TabD fs d) d n [(.fz 2 l), (.fz 2 l'), (.v (.int .i64 0))]) (c := eqRows l l') (y := ((.exit 0), []))
    · refine eq_loopE (L := fun d n i => l158x0 (TabD fs d) d n [(.fz 2 l), (.fz 2 l'), (.v (.int .i64 i))]) (len_of (by assumption)) (fun d n => ?_) (fun i x x' hi hi' hx hx' => ?_)
      rw [l158x0s]
      simp -implicitDefEqProofs only [rdl, Ex.same, Nat.beq, Int.lt_irrefl, decide_false]
      have h := (SL.at (E := E) (t := 209) (by assumption) hx)
      have h' := (SL.at (E := E) (t := 209) (by assumption) hx')
      have k := h
      have k' := h'
      obtain ⟨sx0, nx1, rfl, px0, px1⟩ := I209 h
      obtain ⟨sy0, ny1, rfl, py0, py1⟩ := I209 h'
      simp only [l158x0s]
      simp -implicitDefEqProofs only [rdl, Ex.same, Nat.beq, decide_eq_true (Int.ofNat_lt.2 hi), dec_nn, look_at hx, look_at hx', wrap_succ hi (SL.le (E := E) (t := 209) (by assumption)), List.append_nil]
      simp only [bne_not, beq_t, beq_f, Bool.not_not, Bool.cond_not, beq_nat, Bool.and_true]
      apply Stp.conv
      · apply stp_call
        · exact f216 (by assumption) (by assumption)
        apply stp_if; intro g1
        exact stp_end
      · first | (simp only [eqq]; done) | (simp only [eqq]; ac_rfl) | (rw [Bool.eq_iff_iff]; simp only [eqq, Bool.and_eq_true]; constructor <;> (intro hh; simp only [hh, and_self]))
    any_goals (intro d n; simp -implicitDefEqProofs only [rdl, Ex.same, Nat.beq]; done)
    simp -implicitDefEqProofs only [rdl, Ex.same, Nat.beq]
    first | exact stp_end | exact stp_ret
  · first | (simp only [eqq]; done) | (simp only [eqq]; ac_rfl) | (rw [Bool.eq_iff_iff]; simp only [eqq, Bool.and_eq_true]; constructor <;> (intro hh; simp only [hh, and_self]))
/- loop.example/g00119/laws.eqWant -/
theorem f89 {row row' : Row} (h : ShL E (E 75) row) (h' : ShL E (E 75) row') : Ev fs 89 [.g row, .g row'] (bo (eqRow row row')) := by
  obtain ⟨na0, la1, la2, la3, rfl, pa0, pa1, pa2, pa3⟩ := I75 h
  obtain ⟨nc0, lc1, lc2, lc3, rfl, pc0, pc1, pc2, pc3⟩ := I75 h'
  refine Ev.bo (af := a89) rfl rfl (fun d n => a89q ..) ?_
  simp only [bne_not, beq_t, beq_f, Bool.not_not, Bool.cond_not, beq_nat, Bool.and_true]
  apply Stp.conv
  · apply stp_if; intro e1
    apply stp_call
    · exact f157 (by assumption) (by assumption)
    apply stp_if; intro e2
    apply stp_call
    · exact f43 (by assumption) (by assumption)
    apply stp_if; intro e3
    apply stp_call
    · exact f158 (by assumption) (by assumption)
    apply stp_if; intro e4
    first | exact stp_end | exact stp_ret
  · first | (simp only [eqq]; done) | (simp only [eqq]; ac_rfl) | (rw [Bool.eq_iff_iff]; simp only [eqq, Bool.and_eq_true]; constructor <;> (intro hh; simp only [hh, and_self]))
/- loop.example/g00119/laws.eqValueS -/
mutual
theorem fr90 {row row' : Row} (h : ShL E (E 78) row) (h' : ShL E (E 78) row') (W : Nat) (hW : 2 * wtRow row + 1 = W) : Ev fs 90 [.g row, .g row'] (bo (eqRow row row')) := by
  obtain ⟨na0, sa1, na2, la3, la4, rfl, pa0, pa1, pa2, pa3, pa4⟩ := I78 h
  obtain ⟨nc0, sc1, nc2, lc3, lc4, rfl, pc0, pc1, pc2, pc3, pc4⟩ := I78 h'
  refine Ev.bo (af := a90) rfl rfl (fun d n => a90q ..) ?_
  simp only [bne_not, beq_t, beq_f, Bool.not_not, Bool.cond_not, beq_nat, Bool.and_true]
  apply Stp.conv
  · apply stp_if; intro e1
    apply stp_if; intro e2
    apply stp_if; intro e3
    apply stp_call
    · exact f43 (by assumption) (by assumption)
    apply stp_if; intro e4
    apply stp_call
    · exact fr159 (by assumption) (by assumption) _ rfl
    apply stp_if; intro e5
    first | exact stp_end | exact stp_ret
  · first | (simp only [eqq]; done) | (simp only [eqq]; ac_rfl) | (rw [Bool.eq_iff_iff]; simp only [eqq, Bool.and_eq_true]; constructor <;> (intro hh; simp only [hh, and_self]))
termination_by W
decreasing_by all_goals (try have := wt_at hx); (try simp only [wtRow, wtD] at *); omega
theorem fr159 {l l' : Rows} (hl : SL E 78 l) (hl' : SL E 78 l') (W : Nat) (hW : 2 * (l.length + wtRows l) = W) : Ev fs 159 [.d (.s 5 l), .d (.s 5 l')] (bo ((l.length == l'.length) && eqRows l l')) := by
  refine Ev.bo (af := a159) rfl rfl (fun d n => a159q ..) ?_
  simp only [bne_not, beq_t, beq_f, Bool.not_not, Bool.cond_not, beq_nat, Bool.and_true]
  apply Stp.conv
  · apply stp_if; intro e1
    apply stp_loop (L := fun d n => l159x0 (TabD fs d) d n [(.fz 5 l), (.fz 5 l'), (.v (.int .i64 0))]) (c := eqRows l l') (y := ((.exit 0), []))
    · refine eq_loopE (L := fun d n i => l159x0 (TabD fs d) d n [(.fz 5 l), (.fz 5 l'), (.v (.int .i64 i))]) (len_of (by assumption)) (fun d n => ?_) (fun i x x' hi hi' hx hx' => ?_)
      rw [l159x0s]
      simp -implicitDefEqProofs only [rdl, Ex.same, Nat.beq, Int.lt_irrefl, decide_false]
      have h := (SL.at (E := E) (t := 78) (by assumption) hx)
      have h' := (SL.at (E := E) (t := 78) (by assumption) hx')
      have k := h
      have k' := h'
      obtain ⟨nx0, sx1, nx2, lx3, lx4, rfl, px0, px1, px2, px3, px4⟩ := I78 h
      obtain ⟨ny0, sy1, ny2, ly3, ly4, rfl, py0, py1, py2, py3, py4⟩ := I78 h'
      simp only [l159x0s]
      simp -implicitDefEqProofs only [rdl, Ex.same, Nat.beq, decide_eq_true (Int.ofNat_lt.2 hi), dec_nn, look_at hx, look_at hx', wrap_succ hi (SL.le (E := E) (t := 78) (by assumption)), List.append_nil]
      simp only [bne_not, beq_t, beq_f, Bool.not_not, Bool.cond_not, beq_nat, Bool.and_true]
      apply Stp.conv
      · apply stp_call
        · exact fr90 (by assumption) (by assumption) _ rfl
        apply stp_if; intro g1
        exact stp_end
      · first | (simp only [eqq]; done) | (simp only [eqq]; ac_rfl) | (rw [Bool.eq_iff_iff]; simp only [eqq, Bool.and_eq_true]; constructor <;> (intro hh; simp only [hh, and_self]))
    any_goals (intro d n; simp -implicitDefEqProofs only [rdl, Ex.same, Nat.beq]; done)
    simp -implicitDefEqProofs only [rdl, Ex.same, Nat.beq]
    first | exact stp_end | exact stp_ret
  · first | (simp only [eqq]; done) | (simp only [eqq]; ac_rfl) | (rw [Bool.eq_iff_iff]; simp only [eqq, Bool.and_eq_true]; constructor <;> (intro hh; simp only [hh, and_self]))
termination_by W
decreasing_by all_goals (try have := wt_at hx); (try simp only [wtRow, wtD] at *); omega
end
theorem f90 {row row' : Row} (h : ShL E (E 78) row) (h' : ShL E (E 78) row') : Ev fs 90 [.g row, .g row'] (bo (eqRow row row')) := fr90 h h' _ rfl
theorem f159 {l l' : Rows} (hl : SL E 78 l) (hl' : SL E 78 l') : Ev fs 159 [.d (.s 5 l), .d (.s 5 l')] (bo ((l.length == l'.length) && eqRows l l')) := fr159 hl hl' _ rfl
/- loop.example/g00119/laws.eqOp -/
theorem f248 {row row' : Row} (h : ShL E (E 276) row) (h' : ShL E (E 276) row') : Ev fs 248 [.g row, .g row'] (bo (eqRow row row')) := by
  obtain ⟨na0, la1, na2, sa3, na4, la5, la6, rfl, pa0, pa1, pa2, pa3, pa4, pa5, pa6⟩ := I276 h
  obtain ⟨nc0, lc1, nc2, sc3, nc4, lc5, lc6, rfl, pc0, pc1, pc2, pc3, pc4, pc5, pc6⟩ := I276 h'
  refine Ev.bo (af := a248) rfl rfl (fun d n => a248q ..) ?_
  simp only [bne_not, beq_t, beq_f, Bool.not_not, Bool.cond_not, beq_nat, Bool.and_true]
  apply Stp.conv
  · apply stp_if; intro e1
    apply stp_call
    · exact f43 (by assumption) (by assumption)
    apply stp_if; intro e2
    apply stp_call
    · exact f90 (by rw [E78]; exact mk_i (by assumption) (mk_s (by assumption) (mk_i (by assumption) (mk_sl W9 (by assumption) (mk_sl W78 (by assumption) (ShL.nil)))))) (by rw [E78]; exact mk_i (by assumption) (mk_s (by assumption) (mk_i (by assumption) (mk_sl W9 (by assumption) (mk_sl W78 (by assumption) (ShL.nil))))))
    apply stp_if; intro e3
    first | exact stp_end | exact stp_ret
  · first | (simp only [eqq]; done) | (simp only [eqq]; ac_rfl) | (rw [Bool.eq_iff_iff]; simp only [eqq, Bool.and_eq_true]; constructor <;> (intro hh; simp only [hh, and_self]))
/- loop.example/g00119/laws.eqOpS -/
theorem f217 {l l' : Rows} (hl : SL E 276 l) (hl' : SL E 276 l') : Ev fs 217 [.d (.s 7 l), .d (.s 7 l')] (bo ((l.length == l'.length) && eqRows l l')) := by
  refine Ev.bo (af := a217) rfl rfl (fun d n => a217q ..) ?_
  simp only [bne_not, beq_t, beq_f, Bool.not_not, Bool.cond_not, beq_nat, Bool.and_true]
  apply Stp.conv
  · apply stp_if; intro e1
    apply stp_loop (L := fun d n => l217x0 (TabD fs d) d n [(.fz 7 l), (.fz 7 l'), (.v (.int .i64 0))]) (c := eqRows l l') (y := ((.exit 0), []))
    · refine eq_loopE (L := fun d n i => l217x0 (TabD fs d) d n [(.fz 7 l), (.fz 7 l'), (.v (.int .i64 i))]) (len_of (by assumption)) (fun d n => ?_) (fun i x x' hi hi' hx hx' => ?_)
      rw [l217x0s]
      simp -implicitDefEqProofs only [rdl, Ex.same, Nat.beq, Int.lt_irrefl, decide_false]
      have h := (SL.at (E := E) (t := 276) (by assumption) hx)
      have h' := (SL.at (E := E) (t := 276) (by assumption) hx')
      have k := h
      have k' := h'
      obtain ⟨nx0, lx1, nx2, sx3, nx4, lx5, lx6, rfl, px0, px1, px2, px3, px4, px5, px6⟩ := I276 h
      obtain ⟨ny0, ly1, ny2, sy3, ny4, ly5, ly6, rfl, py0, py1, py2, py3, py4, py5, py6⟩ := I276 h'
      simp only [l217x0s]
      simp -implicitDefEqProofs only [rdl, Ex.same, Nat.beq, decide_eq_true (Int.ofNat_lt.2 hi), dec_nn, look_at hx, look_at hx', wrap_succ hi (SL.le (E := E) (t := 276) (by assumption)), List.append_nil]
      simp only [bne_not, beq_t, beq_f, Bool.not_not, Bool.cond_not, beq_nat, Bool.and_true]
      apply Stp.conv
      · apply stp_call
        · exact f248 (by assumption) (by assumption)
        apply stp_if; intro g1
        exact stp_end
      · first | (simp only [eqq]; done) | (simp only [eqq]; ac_rfl) | (rw [Bool.eq_iff_iff]; simp only [eqq, Bool.and_eq_true]; constructor <;> (intro hh; simp only [hh, and_self]))
    any_goals (intro d n; simp -implicitDefEqProofs only [rdl, Ex.same, Nat.beq]; done)
    simp -implicitDefEqProofs only [rdl, Ex.same, Nat.beq]
    first | exact stp_end | exact stp_ret
  · first | (simp only [eqq]; done) | (simp only [eqq]; ac_rfl) | (rw [Bool.eq_iff_iff]; simp only [eqq, Bool.and_eq_true]; constructor <;> (intro hh; simp only [hh, and_self]))
/- loop.example/g00119/laws.eqOver -/
theorem f160 {row row' : Row} (h : ShL E (E 216) row) (h' : ShL E (E 216) row') : Ev fs 160 [.g row, .g row'] (bo (eqRow row row')) := by
  obtain ⟨sa0, la1, rfl, pa0, pa1⟩ := I216 h
  obtain ⟨sc0, lc1, rfl, pc0, pc1⟩ := I216 h'
  refine Ev.bo (af := a160) rfl rfl (fun d n => a160q ..) ?_
  simp only [bne_not, beq_t, beq_f, Bool.not_not, Bool.cond_not, beq_nat, Bool.and_true]
  apply Stp.conv
  · apply stp_if; intro e1
    apply stp_call
    · exact f217 (by assumption) (by assumption)
    apply stp_if; intro e2
    first | exact stp_end | exact stp_ret
  · first | (simp only [eqq]; done) | (simp only [eqq]; ac_rfl) | (rw [Bool.eq_iff_iff]; simp only [eqq, Bool.and_eq_true]; constructor <;> (intro hh; simp only [hh, and_self]))
/- loop.example/g00119/laws.eqOverS -/
theorem f91 {l l' : Rows} (hl : SL E 216 l) (hl' : SL E 216 l') : Ev fs 91 [.d (.s 2 l), .d (.s 2 l')] (bo ((l.length == l'.length) && eqRows l l')) := by
  refine Ev.bo (af := a91) rfl rfl (fun d n => a91q ..) ?_
  simp only [bne_not, beq_t, beq_f, Bool.not_not, Bool.cond_not, beq_nat, Bool.and_true]
  apply Stp.conv
  · apply stp_if; intro e1
    apply stp_loop (L := fun d n => l91x0 (TabD fs d) d n [(.fz 2 l), (.fz 2 l'), (.v (.int .i64 0))]) (c := eqRows l l') (y := ((.exit 0), []))
    · refine eq_loopE (L := fun d n i => l91x0 (TabD fs d) d n [(.fz 2 l), (.fz 2 l'), (.v (.int .i64 i))]) (len_of (by assumption)) (fun d n => ?_) (fun i x x' hi hi' hx hx' => ?_)
      rw [l91x0s]
      simp -implicitDefEqProofs only [rdl, Ex.same, Nat.beq, Int.lt_irrefl, decide_false]
      have h := (SL.at (E := E) (t := 216) (by assumption) hx)
      have h' := (SL.at (E := E) (t := 216) (by assumption) hx')
      have k := h
      have k' := h'
      obtain ⟨sx0, lx1, rfl, px0, px1⟩ := I216 h
      obtain ⟨sy0, ly1, rfl, py0, py1⟩ := I216 h'
      simp only [l91x0s]
      simp -implicitDefEqProofs only [rdl, Ex.same, Nat.beq, decide_eq_true (Int.ofNat_lt.2 hi), dec_nn, look_at hx, look_at hx', wrap_succ hi (SL.le (E := E) (t := 216) (by assumption)), List.append_nil]
      simp only [bne_not, beq_t, beq_f, Bool.not_not, Bool.cond_not, beq_nat, Bool.and_true]
      apply Stp.conv
      · apply stp_call
        · exact f160 (by assumption) (by assumption)
        apply stp_if; intro g1
        exact stp_end
      · first | (simp only [eqq]; done) | (simp only [eqq]; ac_rfl) | (rw [Bool.eq_iff_iff]; simp only [eqq, Bool.and_eq_true]; constructor <;> (intro hh; simp only [hh, and_self]))
    any_goals (intro d n; simp -implicitDefEqProofs only [rdl, Ex.same, Nat.beq]; done)
    simp -implicitDefEqProofs only [rdl, Ex.same, Nat.beq]
    first | exact stp_end | exact stp_ret
  · first | (simp only [eqq]; done) | (simp only [eqq]; ac_rfl) | (rw [Bool.eq_iff_iff]; simp only [eqq, Bool.and_eq_true]; constructor <;> (intro hh; simp only [hh, and_self]))
/- loop.example/g00119/laws.eqJob -/
theorem f119 {row row' : Row} (h : ShL E (E 113) row) (h' : ShL E (E 113) row') : Ev fs 119 [.g row, .g row'] (bo (eqRow row row')) := by
  obtain ⟨na0, sa1, na2, la3, la4, la5, na6, sa7, na8, la9, la10, la11, ba12, rfl, pa0, pa1, pa2, pa3, pa4, pa5, pa6, pa7, pa8, pa9, pa10, pa11⟩ := I113 h
  obtain ⟨nc0, sc1, nc2, lc3, lc4, lc5, nc6, sc7, nc8, lc9, lc10, lc11, bc12, rfl, pc0, pc1, pc2, pc3, pc4, pc5, pc6, pc7, pc8, pc9, pc10, pc11⟩ := I113 h'
  refine Ev.bo (af := a119) rfl rfl (fun d n => a119q ..) ?_
  simp only [bne_not, beq_t, beq_f, Bool.not_not, Bool.cond_not, beq_nat, Bool.and_true]
  apply Stp.conv
  · apply stp_if; intro e1
    apply stp_if; intro e2
    apply stp_call
    · exact f89 (by rw [E75]; exact mk_i (by assumption) (mk_sl W259 (by assumption) (mk_sl W9 (by assumption) (mk_sl W209 (by assumption) (ShL.nil))))) (by rw [E75]; exact mk_i (by assumption) (mk_sl W259 (by assumption) (mk_sl W9 (by assumption) (mk_sl W209 (by assumption) (ShL.nil)))))
    apply stp_if; intro e3
    apply stp_call
    · exact f90 (by rw [E78]; exact mk_i (by assumption) (mk_s (by assumption) (mk_i (by assumption) (mk_sl W9 (by assumption) (mk_sl W78 (by assumption) (ShL.nil)))))) (by rw [E78]; exact mk_i (by assumption) (mk_s (by assumption) (mk_i (by assumption) (mk_sl W9 (by assumption) (mk_sl W78 (by assumption) (ShL.nil))))))
    apply stp_if; intro e4
    apply stp_call
    · exact f91 (by assumption) (by assumption)
    apply stp_if; intro e5
    apply stp_if; intro e6
    first | exact stp_end | exact stp_ret
  · first | (simp only [eqq]; done) | (simp only [eqq]; ac_rfl) | (rw [Bool.eq_iff_iff]; simp only [eqq, Bool.and_eq_true]; constructor <;> (intro hh; simp only [hh, and_self]))
/- loop.example/g00119/laws.eqJobS -/
theorem f55 {l l' : Rows} (hl : SL E 113 l) (hl' : SL E 113 l') : Ev fs 55 [.d (.s 13 l), .d (.s 13 l')] (bo ((l.length == l'.length) && eqRows l l')) := by
  refine Ev.bo (af := a55) rfl rfl (fun d n => a55q ..) ?_
  simp only [bne_not, beq_t, beq_f, Bool.not_not, Bool.cond_not, beq_nat, Bool.and_true]
  apply Stp.conv
  · apply stp_if; intro e1
    apply stp_loop (L := fun d n => l55x0 (TabD fs d) d n [(.fz 13 l), (.fz 13 l'), (.v (.int .i64 0))]) (c := eqRows l l') (y := ((.exit 0), []))
    · refine eq_loopE (L := fun d n i => l55x0 (TabD fs d) d n [(.fz 13 l), (.fz 13 l'), (.v (.int .i64 i))]) (len_of (by assumption)) (fun d n => ?_) (fun i x x' hi hi' hx hx' => ?_)
      rw [l55x0s]
      simp -implicitDefEqProofs only [rdl, Ex.same, Nat.beq, Int.lt_irrefl, decide_false]
      have h := (SL.at (E := E) (t := 113) (by assumption) hx)
      have h' := (SL.at (E := E) (t := 113) (by assumption) hx')
      have k := h
      have k' := h'
      obtain ⟨nx0, sx1, nx2, lx3, lx4, lx5, nx6, sx7, nx8, lx9, lx10, lx11, bx12, rfl, px0, px1, px2, px3, px4, px5, px6, px7, px8, px9, px10, px11⟩ := I113 h
      obtain ⟨ny0, sy1, ny2, ly3, ly4, ly5, ny6, sy7, ny8, ly9, ly10, ly11, by12, rfl, py0, py1, py2, py3, py4, py5, py6, py7, py8, py9, py10, py11⟩ := I113 h'
      simp only [l55x0s]
      simp -implicitDefEqProofs only [rdl, Ex.same, Nat.beq, decide_eq_true (Int.ofNat_lt.2 hi), dec_nn, look_at hx, look_at hx', wrap_succ hi (SL.le (E := E) (t := 113) (by assumption)), List.append_nil]
      simp only [bne_not, beq_t, beq_f, Bool.not_not, Bool.cond_not, beq_nat, Bool.and_true]
      apply Stp.conv
      · apply stp_call
        · exact f119 (by assumption) (by assumption)
        apply stp_if; intro g1
        exact stp_end
      · first | (simp only [eqq]; done) | (simp only [eqq]; ac_rfl) | (rw [Bool.eq_iff_iff]; simp only [eqq, Bool.and_eq_true]; constructor <;> (intro hh; simp only [hh, and_self]))
    any_goals (intro d n; simp -implicitDefEqProofs only [rdl, Ex.same, Nat.beq]; done)
    simp -implicitDefEqProofs only [rdl, Ex.same, Nat.beq]
    first | exact stp_end | exact stp_ret
  · first | (simp only [eqq]; done) | (simp only [eqq]; ac_rfl) | (rw [Bool.eq_iff_iff]; simp only [eqq, Bool.and_eq_true]; constructor <;> (intro hh; simp only [hh, and_self]))
/- loop.example/g00119/laws.eqLabel -/
theorem f218 {row row' : Row} (h : ShL E (E 262) row) (h' : ShL E (E 262) row') : Ev fs 218 [.g row, .g row'] (bo (eqRow row row')) := by
  obtain ⟨sa0, sa1, rfl, pa0, pa1⟩ := I262 h
  obtain ⟨sc0, sc1, rfl, pc0, pc1⟩ := I262 h'
  refine Ev.bo (af := a218) rfl rfl (fun d n => a218q ..) ?_
  simp only [bne_not, beq_t, beq_f, Bool.not_not, Bool.cond_not, beq_nat, Bool.and_true]
  apply Stp.conv
  · apply stp_if; intro e1
    apply stp_if; intro e2
    first | exact stp_end | exact stp_ret
  · first | (simp only [eqq]; done) | (simp only [eqq]; ac_rfl) | (rw [Bool.eq_iff_iff]; simp only [eqq, Bool.and_eq_true]; constructor <;> (intro hh; simp only [hh, and_self]))
/- loop.example/g00119/laws.eqLabelS -/
theorem f161 {l l' : Rows} (hl : SL E 262 l) (hl' : SL E 262 l') : Ev fs 161 [.d (.s 2 l), .d (.s 2 l')] (bo ((l.length == l'.length) && eqRows l l')) := by
  refine Ev.bo (af := a161) rfl rfl (fun d n => a161q ..) ?_
  simp only [bne_not, beq_t, beq_f, Bool.not_not, Bool.cond_not, beq_nat, Bool.and_true]
  apply Stp.conv
  · apply stp_if; intro e1
    apply stp_loop (L := fun d n => l161x0 (TabD fs d) d n [(.fz 2 l), (.fz 2 l'), (.v (.int .i64 0))]) (c := eqRows l l') (y := ((.exit 0), []))
    · refine eq_loopE (L := fun d n i => l161x0 (TabD fs d) d n [(.fz 2 l), (.fz 2 l'), (.v (.int .i64 i))]) (len_of (by assumption)) (fun d n => ?_) (fun i x x' hi hi' hx hx' => ?_)
      rw [l161x0s]
      simp -implicitDefEqProofs only [rdl, Ex.same, Nat.beq, Int.lt_irrefl, decide_false]
      have h := (SL.at (E := E) (t := 262) (by assumption) hx)
      have h' := (SL.at (E := E) (t := 262) (by assumption) hx')
      have k := h
      have k' := h'
      obtain ⟨sx0, sx1, rfl, px0, px1⟩ := I262 h
      obtain ⟨sy0, sy1, rfl, py0, py1⟩ := I262 h'
      simp only [l161x0s]
      simp -implicitDefEqProofs only [rdl, Ex.same, Nat.beq, decide_eq_true (Int.ofNat_lt.2 hi), dec_nn, look_at hx, look_at hx', wrap_succ hi (SL.le (E := E) (t := 262) (by assumption)), List.append_nil]
      simp only [bne_not, beq_t, beq_f, Bool.not_not, Bool.cond_not, beq_nat, Bool.and_true]
      apply Stp.conv
      · apply stp_call
        · exact f218 (by assumption) (by assumption)
        apply stp_if; intro g1
        exact stp_end
      · first | (simp only [eqq]; done) | (simp only [eqq]; ac_rfl) | (rw [Bool.eq_iff_iff]; simp only [eqq, Bool.and_eq_true]; constructor <;> (intro hh; simp only [hh, and_self]))
    any_goals (intro d n; simp -implicitDefEqProofs only [rdl, Ex.same, Nat.beq]; done)
    simp -implicitDefEqProofs only [rdl, Ex.same, Nat.beq]
    first | exact stp_end | exact stp_ret
  · first | (simp only [eqq]; done) | (simp only [eqq]; ac_rfl) | (rw [Bool.eq_iff_iff]; simp only [eqq, Bool.and_eq_true]; constructor <;> (intro hh; simp only [hh, and_self]))
/- loop.example/g00119/laws.eqIsland -/
theorem f92 {row row' : Row} (h : ShL E (E 82) row) (h' : ShL E (E 82) row') : Ev fs 92 [.g row, .g row'] (bo (eqRow row row')) := by
  obtain ⟨sa0, la1, la2, na3, rfl, pa0, pa1, pa2, pa3⟩ := I82 h
  obtain ⟨sc0, lc1, lc2, nc3, rfl, pc0, pc1, pc2, pc3⟩ := I82 h'
  refine Ev.bo (af := a92) rfl rfl (fun d n => a92q ..) ?_
  simp only [bne_not, beq_t, beq_f, Bool.not_not, Bool.cond_not, beq_nat, Bool.and_true]
  apply Stp.conv
  · apply stp_if; intro e1
    apply stp_call
    · exact f161 (by assumption) (by assumption)
    apply stp_if; intro e2
    apply stp_call
    · exact f43 (by assumption) (by assumption)
    apply stp_if; intro e3
    apply stp_if; intro e4
    first | exact stp_end | exact stp_ret
  · first | (simp only [eqq]; done) | (simp only [eqq]; ac_rfl) | (rw [Bool.eq_iff_iff]; simp only [eqq, Bool.and_eq_true]; constructor <;> (intro hh; simp only [hh, and_self]))
/- loop.example/g00119/laws.eqPost -/
theorem f120 {row row' : Row} (h : ShL E (E 184) row) (h' : ShL E (E 184) row') : Ev fs 120 [.g row, .g row'] (bo (eqRow row row')) := by
  obtain ⟨sa0, la1, la2, na3, na4, na5, rfl, pa0, pa1, pa2, pa3, pa4, pa5⟩ := I184 h
  obtain ⟨sc0, lc1, lc2, nc3, nc4, nc5, rfl, pc0, pc1, pc2, pc3, pc4, pc5⟩ := I184 h'
  refine Ev.bo (af := a120) rfl rfl (fun d n => a120q ..) ?_
  simp only [bne_not, beq_t, beq_f, Bool.not_not, Bool.cond_not, beq_nat, Bool.and_true]
  apply Stp.conv
  · apply stp_call
    · exact f92 (by rw [E82]; exact mk_s (by assumption) (mk_sl W262 (by assumption) (mk_sl W9 (by assumption) (mk_i (by assumption) (ShL.nil))))) (by rw [E82]; exact mk_s (by assumption) (mk_sl W262 (by assumption) (mk_sl W9 (by assumption) (mk_i (by assumption) (ShL.nil)))))
    apply stp_if; intro e1
    apply stp_if; intro e2
    apply stp_if; intro e3
    first | exact stp_end | exact stp_ret
  · first | (simp only [eqq]; done) | (simp only [eqq]; ac_rfl) | (rw [Bool.eq_iff_iff]; simp only [eqq, Bool.and_eq_true]; constructor <;> (intro hh; simp only [hh, and_self]))
/- loop.example/g00119/laws.eqPostS -/
theorem f56 {l l' : Rows} (hl : SL E 184 l) (hl' : SL E 184 l') : Ev fs 56 [.d (.s 6 l), .d (.s 6 l')] (bo ((l.length == l'.length) && eqRows l l')) := by
  refine Ev.bo (af := a56) rfl rfl (fun d n => a56q ..) ?_
  simp only [bne_not, beq_t, beq_f, Bool.not_not, Bool.cond_not, beq_nat, Bool.and_true]
  apply Stp.conv
  · apply stp_if; intro e1
    apply stp_loop (L := fun d n => l56x0 (TabD fs d) d n [(.fz 6 l), (.fz 6 l'), (.v (.int .i64 0))]) (c := eqRows l l') (y := ((.exit 0), []))
    · refine eq_loopE (L := fun d n i => l56x0 (TabD fs d) d n [(.fz 6 l), (.fz 6 l'), (.v (.int .i64 i))]) (len_of (by assumption)) (fun d n => ?_) (fun i x x' hi hi' hx hx' => ?_)
      rw [l56x0s]
      simp -implicitDefEqProofs only [rdl, Ex.same, Nat.beq, Int.lt_irrefl, decide_false]
      have h := (SL.at (E := E) (t := 184) (by assumption) hx)
      have h' := (SL.at (E := E) (t := 184) (by assumption) hx')
      have k := h
      have k' := h'
      obtain ⟨sx0, lx1, lx2, nx3, nx4, nx5, rfl, px0, px1, px2, px3, px4, px5⟩ := I184 h
      obtain ⟨sy0, ly1, ly2, ny3, ny4, ny5, rfl, py0, py1, py2, py3, py4, py5⟩ := I184 h'
      simp only [l56x0s]
      simp -implicitDefEqProofs only [rdl, Ex.same, Nat.beq, decide_eq_true (Int.ofNat_lt.2 hi), dec_nn, look_at hx, look_at hx', wrap_succ hi (SL.le (E := E) (t := 184) (by assumption)), List.append_nil]
      simp only [bne_not, beq_t, beq_f, Bool.not_not, Bool.cond_not, beq_nat, Bool.and_true]
      apply Stp.conv
      · apply stp_call
        · exact f120 (by assumption) (by assumption)
        apply stp_if; intro g1
        exact stp_end
      · first | (simp only [eqq]; done) | (simp only [eqq]; ac_rfl) | (rw [Bool.eq_iff_iff]; simp only [eqq, Bool.and_eq_true]; constructor <;> (intro hh; simp only [hh, and_self]))
    any_goals (intro d n; simp -implicitDefEqProofs only [rdl, Ex.same, Nat.beq]; done)
    simp -implicitDefEqProofs only [rdl, Ex.same, Nat.beq]
    first | exact stp_end | exact stp_ret
  · first | (simp only [eqq]; done) | (simp only [eqq]; ac_rfl) | (rw [Bool.eq_iff_iff]; simp only [eqq, Bool.and_eq_true]; constructor <;> (intro hh; simp only [hh, and_self]))
/- loop.example/g00119/laws.eqHold -/
theorem f121 {row row' : Row} (h : ShL E (E 181) row) (h' : ShL E (E 181) row') : Ev fs 121 [.g row, .g row'] (bo (eqRow row row')) := by
  obtain ⟨na0, sa1, na2, na3, na4, rfl, pa0, pa1, pa2, pa3, pa4⟩ := I181 h
  obtain ⟨nc0, sc1, nc2, nc3, nc4, rfl, pc0, pc1, pc2, pc3, pc4⟩ := I181 h'
  refine Ev.bo (af := a121) rfl rfl (fun d n => a121q ..) ?_
  simp only [bne_not, beq_t, beq_f, Bool.not_not, Bool.cond_not, beq_nat, Bool.and_true]
  apply Stp.conv
  · apply stp_if; intro e1
    apply stp_if; intro e2
    apply stp_if; intro e3
    apply stp_if; intro e4
    apply stp_if; intro e5
    first | exact stp_end | exact stp_ret
  · first | (simp only [eqq]; done) | (simp only [eqq]; ac_rfl) | (rw [Bool.eq_iff_iff]; simp only [eqq, Bool.and_eq_true]; constructor <;> (intro hh; simp only [hh, and_self]))
/- loop.example/g00119/laws.eqHoldS -/
theorem f57 {l l' : Rows} (hl : SL E 181 l) (hl' : SL E 181 l') : Ev fs 57 [.d (.s 5 l), .d (.s 5 l')] (bo ((l.length == l'.length) && eqRows l l')) := by
  refine Ev.bo (af := a57) rfl rfl (fun d n => a57q ..) ?_
  simp only [bne_not, beq_t, beq_f, Bool.not_not, Bool.cond_not, beq_nat, Bool.and_true]
  apply Stp.conv
  · apply stp_if; intro e1
    apply stp_loop (L := fun d n => l57x0 (TabD fs d) d n [(.fz 5 l), (.fz 5 l'), (.v (.int .i64 0))]) (c := eqRows l l') (y := ((.exit 0), []))
    · refine eq_loopE (L := fun d n i => l57x0 (TabD fs d) d n [(.fz 5 l), (.fz 5 l'), (.v (.int .i64 i))]) (len_of (by assumption)) (fun d n => ?_) (fun i x x' hi hi' hx hx' => ?_)
      rw [l57x0s]
      simp -implicitDefEqProofs only [rdl, Ex.same, Nat.beq, Int.lt_irrefl, decide_false]
      have h := (SL.at (E := E) (t := 181) (by assumption) hx)
      have h' := (SL.at (E := E) (t := 181) (by assumption) hx')
      have k := h
      have k' := h'
      obtain ⟨nx0, sx1, nx2, nx3, nx4, rfl, px0, px1, px2, px3, px4⟩ := I181 h
      obtain ⟨ny0, sy1, ny2, ny3, ny4, rfl, py0, py1, py2, py3, py4⟩ := I181 h'
      simp only [l57x0s]
      simp -implicitDefEqProofs only [rdl, Ex.same, Nat.beq, decide_eq_true (Int.ofNat_lt.2 hi), dec_nn, look_at hx, look_at hx', wrap_succ hi (SL.le (E := E) (t := 181) (by assumption)), List.append_nil]
      simp only [bne_not, beq_t, beq_f, Bool.not_not, Bool.cond_not, beq_nat, Bool.and_true]
      apply Stp.conv
      · apply stp_call
        · exact f121 (by assumption) (by assumption)
        apply stp_if; intro g1
        exact stp_end
      · first | (simp only [eqq]; done) | (simp only [eqq]; ac_rfl) | (rw [Bool.eq_iff_iff]; simp only [eqq, Bool.and_eq_true]; constructor <;> (intro hh; simp only [hh, and_self]))
    any_goals (intro d n; simp -implicitDefEqProofs only [rdl, Ex.same, Nat.beq]; done)
    simp -implicitDefEqProofs only [rdl, Ex.same, Nat.beq]
    first | exact stp_end | exact stp_ret
  · first | (simp only [eqq]; done) | (simp only [eqq]; ac_rfl) | (rw [Bool.eq_iff_iff]; simp only [eqq, Bool.and_eq_true]; constructor <;> (intro hh; simp only [hh, and_self]))
/- loop.example/g00119/laws.eqHub -/
theorem f17 {row row' : Row} (h : ShL E (E 39) row) (h' : ShL E (E 39) row') : Ev fs 17 [.g row, .g row'] (bo (eqRow row row')) := by
  obtain ⟨na0, na1, na2, la3, la4, la5, la6, rfl, pa0, pa1, pa2, pa3, pa4, pa5, pa6⟩ := I39 h
  obtain ⟨nc0, nc1, nc2, lc3, lc4, lc5, lc6, rfl, pc0, pc1, pc2, pc3, pc4, pc5, pc6⟩ := I39 h'
  refine Ev.bo (af := a17) rfl rfl (fun d n => a17q ..) ?_
  simp only [bne_not, beq_t, beq_f, Bool.not_not, Bool.cond_not, beq_nat, Bool.and_true]
  apply Stp.conv
  · apply stp_if; intro e1
    apply stp_if; intro e2
    apply stp_if; intro e3
    apply stp_call
    · exact f55 (by assumption) (by assumption)
    apply stp_if; intro e4
    apply stp_call
    · exact f56 (by assumption) (by assumption)
    apply stp_if; intro e5
    apply stp_call
    · exact f57 (by assumption) (by assumption)
    apply stp_if; intro e6
    apply stp_call
    · exact f43 (by assumption) (by assumption)
    apply stp_if; intro e7
    first | exact stp_end | exact stp_ret
  · first | (simp only [eqq]; done) | (simp only [eqq]; ac_rfl) | (rw [Bool.eq_iff_iff]; simp only [eqq, Bool.and_eq_true]; constructor <;> (intro hh; simp only [hh, and_self]))
end Go.Am.Lk
