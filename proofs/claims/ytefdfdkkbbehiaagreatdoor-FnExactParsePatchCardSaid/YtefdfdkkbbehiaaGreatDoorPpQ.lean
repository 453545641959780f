/- What the functions of one family say in the end. Nothing is assumed. -/
import Derived.Test.YtefdfdkkbbehiaaGreatDoorPpH
namespace Go.Am.Pp
set_option linter.unusedVariables false
set_option linter.unusedSimpArgs false
set_option maxRecDepth 8000
/- loop.example/g00119/laws.eqStringS -/
theorem f59 {l l' : Rows} (hl : SL E 9 l) (hl' : SL E 9 l') : Ev fs 59 [.d (.s 1 l), .d (.s 1 l')] (bo ((l.length == l'.length) && eqRows l l')) := by
 refine Ev.bo (af := a59) rfl rfl (fun d n => a59q ..) ?_
 simp only [bne_not, beq_t, beq_f, Bool.not_not, Bool.cond_not, beq_nat, Bool.and_true]
 apply Stp.conv
 ·apply stp_if; intro e1
  apply stp_loop (L := fun d n => l59x0 (TabD fs d) d n [(.fz 1 l), (.fz 1 l'), (.v (.int .i64 0))]) (c := eqRows l l') (y := ((.exit 0), []))
  ·refine eq_loopE (L := fun d n i => l59x0 (TabD fs d) d n [(.fz 1 l), (.fz 1 l'), (.v (.int .i64 i))]) (len_of (by assumption)) (fun d n => ?_) (fun i x x' hi hi' hx hx' => ?_)
   rw [l59x0s]
   simp -implicitDefEqProofs only [rdl, Ex.same, Nat.beq, Int.lt_irrefl, decide_false]
   have h := (SL.at (E := E) (t := 9) (by assumption) hx)
   have h' := (SL.at (E := E) (t := 9) (by assumption) hx')
   have k := h
   have k' := h'
   obtain ⟨sx0, rfl, px0⟩ := I9 h
   obtain ⟨sy0, rfl, py0⟩ := I9 h'
   simp only [l59x0s]
   simp -implicitDefEqProofs only [rdl, Ex.same, Nat.beq, decide_eq_true (Int.ofNat_lt.2 hi), dec_nn, look_at hx, look_at hx', wrap_succ hi (SL.le (E := E) (t := 9) (by assumption)), List.append_nil]
   simp only [bne_not, beq_t, beq_f, Bool.not_not, Bool.cond_not, beq_nat, Bool.and_true]
   apply Stp.conv
   ·apply stp_if; intro g1
    exact stp_end
   ·first | (simp only [eqq]; done) | (simp only [eqq]; ac_rfl) | (rw [Bool.eq_iff_iff]; simp only [eqq, Bool.and_eq_true]; constructor <;> (intro hh; simp only [hh, and_self]))
  any_goals (intro d n; simp -implicitDefEqProofs only [rdl, Ex.same, Nat.beq]; done)
  simp -implicitDefEqProofs only [rdl, Ex.same, Nat.beq]
  first | exact stp_end | exact stp_ret
 ·first | (simp only [eqq]; done) | (simp only [eqq]; ac_rfl) | (rw [Bool.eq_iff_iff]; simp only [eqq, Bool.and_eq_true]; constructor <;> (intro hh; simp only [hh, and_self]))
/- loop.example/g00119/laws.eqValueS -/
mutual
theorem fr60 {row row' : Row} (h : ShL E (E 33) row) (h' : ShL E (E 33) row') (W : Nat) (hW : 2 * wtRow row + 1 = W) : Ev fs 60 [.g row, .g row'] (bo (eqRow row row')) := by
 obtain ⟨na0, sa1, na2, la3, la4, rfl, pa0, pa1, pa2, pa3, pa4⟩ := I33 h
 obtain ⟨nc0, sc1, nc2, lc3, lc4, rfl, pc0, pc1, pc2, pc3, pc4⟩ := I33 h'
 refine Ev.bo (af := a60) rfl rfl (fun d n => a60q ..) ?_
 simp only [bne_not, beq_t, beq_f, Bool.not_not, Bool.cond_not, beq_nat, Bool.and_true]
 apply Stp.conv
 ·apply stp_if; intro e1
  apply stp_if; intro e2
  apply stp_if; intro e3
  apply stp_call
  ·exact f59 (by assumption) (by assumption)
  apply stp_if; intro e4
  apply stp_call
  ·exact fr95 (by assumption) (by assumption) _ rfl
  apply stp_if; intro e5
  first | exact stp_end | exact stp_ret
 ·first | (simp only [eqq]; done) | (simp only [eqq]; ac_rfl) | (rw [Bool.eq_iff_iff]; simp only [eqq, Bool.and_eq_true]; constructor <;> (intro hh; simp only [hh, and_self]))
termination_by W
decreasing_by all_goals (try have := wt_at hx); (try simp only [wtRow, wtD] at *); omega
theorem fr95 {l l' : Rows} (hl : SL E 33 l) (hl' : SL E 33 l') (W : Nat) (hW : 2 * (l.length + wtRows l) = W) : Ev fs 95 [.d (.s 5 l), .d (.s 5 l')] (bo ((l.length == l'.length) && eqRows l l')) := by
 refine Ev.bo (af := a95) rfl rfl (fun d n => a95q ..) ?_
 simp only [bne_not, beq_t, beq_f, Bool.not_not, Bool.cond_not, beq_nat, Bool.and_true]
 apply Stp.conv
 ·apply stp_if; intro e1
  apply stp_loop (L := fun d n => l95x0 (TabD fs d) d n [(.fz 5 l), (.fz 5 l'), (.v (.int .i64 0))]) (c := eqRows l l') (y := ((.exit 0), []))
  ·refine eq_loopE (L := fun d n i => l95x0 (TabD fs d) d n [(.fz 5 l), (.fz 5 l'), (.v (.int .i64 i))]) (len_of (by assumption)) (fun d n => ?_) (fun i x x' hi hi' hx hx' => ?_)
   rw [l95x0s]
   simp -implicitDefEqProofs only [rdl, Ex.same, Nat.beq, Int.lt_irrefl, decide_false]
   have h := (SL.at (E := E) (t := 33) (by assumption) hx)
   have h' := (SL.at (E := E) (t := 33) (by assumption) hx')
   have k := h
   have k' := h'
   obtain ⟨nx0, sx1, nx2, lx3, lx4, rfl, px0, px1, px2, px3, px4⟩ := I33 h
   obtain ⟨ny0, sy1, ny2, ly3, ly4, rfl, py0, py1, py2, py3, py4⟩ := I33 h'
   simp only [l95x0s]
   simp -implicitDefEqProofs only [rdl, Ex.same, Nat.beq, decide_eq_true (Int.ofNat_lt.2 hi), dec_nn, look_at hx, look_at hx', wrap_succ hi (SL.le (E := E) (t := 33) (by assumption)), List.append_nil]
   simp only [bne_not, beq_t, beq_f, Bool.not_not, Bool.cond_not, beq_nat, Bool.and_true]
   apply Stp.conv
   ·apply stp_call
    ·exact fr60 (by assumption) (by assumption) _ rfl
    apply stp_if; intro g1
    exact stp_end
   ·first | (simp only [eqq]; done) | (simp only [eqq]; ac_rfl) | (rw [Bool.eq_iff_iff]; simp only [eqq, Bool.and_eq_true]; constructor <;> (intro hh; simp only [hh, and_self]))
  any_goals (intro d n; simp -implicitDefEqProofs only [rdl, Ex.same, Nat.beq]; done)
  simp -implicitDefEqProofs only [rdl, Ex.same, Nat.beq]
  first | exact stp_end | exact stp_ret
 ·first | (simp only [eqq]; done) | (simp only [eqq]; ac_rfl) | (rw [Bool.eq_iff_iff]; simp only [eqq, Bool.and_eq_true]; constructor <;> (intro hh; simp only [hh, and_self]))
termination_by W
decreasing_by all_goals (try have := wt_at hx); (try simp only [wtRow, wtD] at *); omega
end
theorem f60 {row row' : Row} (h : ShL E (E 33) row) (h' : ShL E (E 33) row') : Ev fs 60 [.g row, .g row'] (bo (eqRow row row')) := fr60 h h' _ rfl
/- loop.example/g00119/laws.eqOp -/
theorem f25 {row row' : Row} (h : ShL E (E 44) row) (h' : ShL E (E 44) row') : Ev fs 25 [.g row, .g row'] (bo (eqRow row row')) := by
 obtain ⟨na0, la1, na2, sa3, na4, la5, la6, rfl, pa0, pa1, pa2, pa3, pa4, pa5, pa6⟩ := I44 h
 obtain ⟨nc0, lc1, nc2, sc3, nc4, lc5, lc6, rfl, pc0, pc1, pc2, pc3, pc4, pc5, pc6⟩ := I44 h'
 refine Ev.bo (af := a25) rfl rfl (fun d n => a25q ..) ?_
 simp only [bne_not, beq_t, beq_f, Bool.not_not, Bool.cond_not, beq_nat, Bool.and_true]
 apply Stp.conv
 ·apply stp_if; intro e1
  apply stp_call
  ·exact f59 (by assumption) (by assumption)
  apply stp_if; intro e2
  apply stp_call
  ·exact f60 (by rw [E33]; exact mk_i (by assumption) (mk_s (by assumption) (mk_i (by assumption) (mk_sl W9 (by assumption) (mk_sl W33 (by assumption) (ShL.nil)))))) (by rw [E33]; exact mk_i (by assumption) (mk_s (by assumption) (mk_i (by assumption) (mk_sl W9 (by assumption) (mk_sl W33 (by assumption) (ShL.nil))))))
  apply stp_if; intro e3
  first | exact stp_end | exact stp_ret
 ·first | (simp only [eqq]; done) | (simp only [eqq]; ac_rfl) | (rw [Bool.eq_iff_iff]; simp only [eqq, Bool.and_eq_true]; constructor <;> (intro hh; simp only [hh, and_self]))
/- loop.example/g00119/laws.eqOpS -/
theorem f7 {l l' : Rows} (hl : SL E 44 l) (hl' : SL E 44 l') : Ev fs 7 [.d (.s 7 l), .d (.s 7 l')] (bo ((l.length == l'.length) && eqRows l l')) := by
 refine Ev.bo (af := a7) rfl rfl (fun d n => a7q ..) ?_
 simp only [bne_not, beq_t, beq_f, Bool.not_not, Bool.cond_not, beq_nat, Bool.and_true]
 apply Stp.conv
 ·apply stp_if; intro e1
  apply stp_loop (L := fun d n => l7x0 (TabD fs d) d n [(.fz 7 l), (.fz 7 l'), (.v (.int .i64 0))]) (c := eqRows l l') (y := ((.exit 0), []))
  ·refine eq_loopE (L := fun d n i => l7x0 (TabD fs d) d n [(.fz 7 l), (.fz 7 l'), (.v (.int .i64 i))]) (len_of (by assumption)) (fun d n => ?_) (fun i x x' hi hi' hx hx' => ?_)
   rw [l7x0s]
   simp -implicitDefEqProofs only [rdl, Ex.same, Nat.beq, Int.lt_irrefl, decide_false]
   have h := (SL.at (E := E) (t := 44) (by assumption) hx)
   have h' := (SL.at (E := E) (t := 44) (by assumption) hx')
   have k := h
   have k' := h'
   obtain ⟨nx0, lx1, nx2, sx3, nx4, lx5, lx6, rfl, px0, px1, px2, px3, px4, px5, px6⟩ := I44 h
   obtain ⟨ny0, ly1, ny2, sy3, ny4, ly5, ly6, rfl, py0, py1, py2, py3, py4, py5, py6⟩ := I44 h'
   simp only [l7x0s]
   simp -implicitDefEqProofs only [rdl, Ex.same, Nat.beq, decide_eq_true (Int.ofNat_lt.2 hi), dec_nn, look_at hx, look_at hx', wrap_succ hi (SL.le (E := E) (t := 44) (by assumption)), List.append_nil]
   simp only [bne_not, beq_t, beq_f, Bool.not_not, Bool.cond_not, beq_nat, Bool.and_true]
   apply Stp.conv
   ·apply stp_call
    ·exact f25 (by assumption) (by assumption)
    apply stp_if; intro g1
    exact stp_end
   ·first | (simp only [eqq]; done) | (simp only [eqq]; ac_rfl) | (rw [Bool.eq_iff_iff]; simp only [eqq, Bool.and_eq_true]; constructor <;> (intro hh; simp only [hh, and_self]))
  any_goals (intro d n; simp -implicitDefEqProofs only [rdl, Ex.same, Nat.beq]; done)
  simp -implicitDefEqProofs only [rdl, Ex.same, Nat.beq]
  first | exact stp_end | exact stp_ret
 ·first | (simp only [eqq]; done) | (simp only [eqq]; ac_rfl) | (rw [Bool.eq_iff_iff]; simp only [eqq, Bool.and_eq_true]; constructor <;> (intro hh; simp only [hh, and_self]))
end Go.Am.Pp
