/- What the functions of one family say in the end. Nothing is assumed. -/
import Derived.Test.YtefdfdkkbbehiaaGreatDoorPpH
namespace Go.Am.Pp
set_option linter.unusedVariables false
set_option linter.unusedSimpArgs false
set_option maxRecDepth 8000
/- slices.Equal[[]string,string] -/
theorem f43 {l l' : Rows} (hl : SL E 9 l) (hl' : SL E 9 l') : Ev fs 43 [.d (.s 1 l), .d (.s 1 l')] (bo ((l.length == l'.length) && eqRows l l')) := by
 refine Ev.bo (af := a43) rfl rfl (fun d n => a43q ..) ?_
 simp only [bne_not, beq_t, beq_f, Bool.not_not, Bool.cond_not, beq_nat, Bool.and_true]
 apply Stp.conv
 ·apply stp_if; intro e1
  apply stp_loop (L := fun d n => l43x0 (TabD fs d) d n [(.fz 1 l), (.fz 1 l'), (.v (.int .i64 (l.length : Int))), (.v (.int .i64 0))]) (c := eqRows l l') (y := ((.exit 0), []))
  ·refine eq_loopE (L := fun d n i => l43x0 (TabD fs d) d n [(.fz 1 l), (.fz 1 l'), (.v (.int .i64 (l.length : Int))), (.v (.int .i64 i))]) (len_of (by assumption)) (fun d n => ?_) (fun i x x' hi hi' hx hx' => ?_)
   rw [l43x0s]
   simp -implicitDefEqProofs only [rdl, Ex.same, Nat.beq, Int.lt_irrefl, decide_false]
   have h := (SL.at (E := E) (t := 9) (by assumption) hx)
   have h' := (SL.at (E := E) (t := 9) (by assumption) hx')
   have k := h
   have k' := h'
   obtain ⟨sx0, rfl, px0⟩ := I9 h
   obtain ⟨sy0, rfl, py0⟩ := I9 h'
   simp only [l43x0s]
   simp -implicitDefEqProofs only [rdl, Ex.same, Nat.beq, decide_eq_true (Int.ofNat_lt.2 hi), dec_nn, look_at hx, look_at hx', wrap_succ hi (SL.le (E := E) (t := 9) (by assumption)), List.append_nil]
   simp only [bne_not, beq_t, beq_f, Bool.not_not, Bool.cond_not, beq_nat, Bool.and_true]
   apply Stp.conv
   ·apply stp_if; intro g1
    exact stp_end
   ·first | (simp only [eqq]; done) | (simp only [eqq]; ac_rfl) | (rw [Bool.eq_iff_iff]; simp only [eqq, Bool.and_eq_true]; constructor <;> (intro hh; simp only [hh, and_self]))
  any_goals (intro d n; simp -implicitDefEqProofs only [rdl, Ex.same, Nat.beq]; done)
  simp -implicitDefEqProofs only [rdl, Ex.same, Nat.beq]
  first | exact stp_end | exact stp_ret
 ·first | (simp only [eqq]; done) | (simp only [eqq]; ac_rfl) | (rw [Bool.eq_iff_iff]; simp only [eqq, Bool.and_eq_true]; constructor <;> (intro hh; simp only [hh, and_self]))
/- slices.EqualFunc[[]loop.example/g00119/impl.Value,[]loop.example/g00119/impl.Value,loop.example/g00119/impl.Value,loop.example/g00119/impl.Value] -/
theorem f44 {l l' : Rows} (hl : SL E 33 l) (hl' : SL E 33 l') {g : Nat} (hg : ∀ (i : Nat) (x x' : Row), l[i]? = some x → l'[i]? = some x' → Ev fs g [.g x, .g x'] (bo (eqRow x x'))) : Ev fs 44 [.d (.s 5 l), .d (.s 5 l'), .f g []] (bo ((l.length == l'.length) && eqRows l l')) := by
 refine Ev.bo (af := a44) rfl rfl (fun d n => a44q ..) ?_
 simp only [bne_not, beq_t, beq_f, Bool.not_not, Bool.cond_not, beq_nat, Bool.and_true]
 apply Stp.conv
 ·apply stp_if; intro e1
  apply stp_loop (L := fun d n => l44x0 (TabD fs d) d n [(.fz 5 l'), (.ff g []), (.fz 5 l), (.v (.int .i64 (l.length : Int))), (.v (.int .i64 0))]) (c := eqRows l l') (y := ((.exit 0), []))
  ·refine eq_loopE (L := fun d n i => l44x0 (TabD fs d) d n [(.fz 5 l'), (.ff g []), (.fz 5 l), (.v (.int .i64 (l.length : Int))), (.v (.int .i64 i))]) (len_of (by assumption)) (fun d n => ?_) (fun i x x' hi hi' hx hx' => ?_)
   rw [l44x0s]
   simp -implicitDefEqProofs only [rdl, Ex.same, Nat.beq, Int.lt_irrefl, decide_false]
   have h := (SL.at (E := E) (t := 33) (by assumption) hx)
   have h' := (SL.at (E := E) (t := 33) (by assumption) hx')
   have k := h
   have k' := h'
   obtain ⟨nx0, sx1, nx2, lx3, lx4, rfl, px0, px1, px2, px3, px4⟩ := I33 h
   obtain ⟨ny0, sy1, ny2, ly3, ly4, rfl, py0, py1, py2, py3, py4⟩ := I33 h'
   simp only [l44x0s]
   simp -implicitDefEqProofs only [rdl, Ex.same, Nat.beq, decide_eq_true (Int.ofNat_lt.2 hi), dec_nn, look_at hx, look_at hx', wrap_succ hi (SL.le (E := E) (t := 33) (by assumption)), List.append_nil]
   simp only [bne_not, beq_t, beq_f, Bool.not_not, Bool.cond_not, beq_nat, Bool.and_true]
   apply Stp.conv
   ·apply stp_call
    ·exact hg i _ _ hx hx'
    apply stp_if; intro g1
    exact stp_end
   ·first | (simp only [eqq]; done) | (simp only [eqq]; ac_rfl) | (rw [Bool.eq_iff_iff]; simp only [eqq, Bool.and_eq_true]; constructor <;> (intro hh; simp only [hh, and_self]))
  any_goals (intro d n; simp -implicitDefEqProofs only [rdl, Ex.same, Nat.beq]; done)
  simp -implicitDefEqProofs only [rdl, Ex.same, Nat.beq]
  first | exact stp_end | exact stp_ret
 ·first | (simp only [eqq]; done) | (simp only [eqq]; ac_rfl) | (rw [Bool.eq_iff_iff]; simp only [eqq, Bool.and_eq_true]; constructor <;> (intro hh; simp only [hh, and_self]))
/- loop.example/g00119/impl.SameValue -/
theorem fr15 {row row' : Row} (h : ShL E (E 33) row) (h' : ShL E (E 33) row') (W : Nat) (hW : 2 * wtRow row + 1 = W) : Ev fs 15 [.g row, .g row'] (bo (eqRow row row')) := by
 obtain ⟨na0, sa1, na2, la3, la4, rfl, pa0, pa1, pa2, pa3, pa4⟩ := I33 h
 obtain ⟨nc0, sc1, nc2, lc3, lc4, rfl, pc0, pc1, pc2, pc3, pc4⟩ := I33 h'
 refine Ev.bo (af := a15) rfl rfl (fun d n => a15q ..) ?_
 simp only [bne_not, beq_t, beq_f, Bool.not_not, Bool.cond_not, beq_nat, Bool.and_true]
 apply Stp.conv
 ·apply stp_if; intro e1
  apply stp_if; intro e2
  apply stp_if; intro e3
  apply stp_call
  ·exact f43 (by assumption) (by assumption)
  apply stp_if; intro e4
  apply stp_call
  ·exact f44 (by assumption) (by assumption) (fun i x x' hx hx' => fr15 (SL.at (by assumption) hx) (SL.at (by assumption) hx') _ rfl)
  first | exact stp_end | exact stp_ret
 ·first | (simp only [eqq]; done) | (simp only [eqq]; ac_rfl) | (rw [Bool.eq_iff_iff]; simp only [eqq, Bool.and_eq_true]; constructor <;> (intro hh; simp only [hh, and_self]))
termination_by W
decreasing_by all_goals (try have := wt_at hx); (try simp only [wtRow, wtD] at *); omega
theorem f15 {row row' : Row} (h : ShL E (E 33) row) (h' : ShL E (E 33) row') : Ev fs 15 [.g row, .g row'] (bo (eqRow row row')) := fr15 h h' _ rfl
end Go.Am.Pp
