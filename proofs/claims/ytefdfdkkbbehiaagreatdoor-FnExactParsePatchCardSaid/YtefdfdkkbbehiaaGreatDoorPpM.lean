/- What the functions of one family say in the end. Nothing is assumed. -/
import Derived.Test.YtefdfdkkbbehiaaGreatDoorPpH
namespace Go.Am.Pp
set_option linter.unusedVariables false
set_option linter.unusedSimpArgs false
set_option maxRecDepth 8000
/- loop.example/g00119/laws.markText -/
theorem f27 (k : Int) (h0 : 0 ≤ k) (h1 : k < K62) : Ev fs 27 [.d (.v (.int .i64 k))] ⟨.d (.v (.string (mkText k))), []⟩ := by
 obtain ⟨x, rfl⟩ : ∃ x : Nat, k = (x : Int) := ⟨k.toNat, by omega⟩
 have h62 : x < 2 ^ 62 := by simp only [K62] at h1; omega
 refine Ev.of (af := a27) rfl rfl (Evt.congr (fun d n => a27q ..) ?_)
 refine ev_if (fun hc => ?_) (fun hc => ?_)
 ·have : x = 0 := by have := of_decide_eq_true hc; omega
  subst this
  exact Evt.ret' (by simp [mkText])
 ·have hpos : 0 < x := by have := of_decide_eq_false hc; omega
  refine ev_aft (L := fun d n => l27x0 (TabD fs d) d n [.v (.int .i64 (x : Int)), .v (.string ⟨#[]⟩)]) (mark_text (L := fun d n v s => l27x0 (TabD fs d) d n [.v (.int .i64 v), .v (.string s)]) (fun d n s => ?_) (fun x s res hp hx hs k => ?_) 19 x (Nat.lt_of_lt_of_le h62 (by decide)) h62 (by omega) ⟨#[]⟩ (by decide)) ?_
  ·rw [l27x0s]
   simp -implicitDefEqProofs only [rdl, Ex.same, Nat.beq, show decide ((0 : Int) > 0) = false from rfl]
  ·have hm : x % 10 < 10 := Nat.mod_lt _ (by omega)
   have e1 : Int.tmod (x : Int) 10 = ((x % 10 : Nat) : Int) := by rw [Int.tmod_eq_emod_of_nonneg (by omega)]; omega
   have e2 : IntKind.i64.wrap (Int.tdiv (x : Int) 10) = ((x / 10 : Nat) : Int) := by
    rw [Int.tdiv_eq_ediv_of_nonneg (by omega), wrap_i64 (by omega) (by omega)]
    omega
   have e3 : IntKind.u8.wrap (IntKind.i64.wrap (48 + ((x % 10 : Nat) : Int))) = ((48 + x % 10 : Nat) : Int) := by
    rw [wrap_i64 (by omega) (by omega), wrap_u8 (by omega) (by omega)]
    omega
   simp only [l27x0s, e1, e2, e3]
   simp -implicitDefEqProofs only [rdl, Ex.same, Nat.beq, show decide ((x : Int) > 0) = true from decide_eq_true (by omega), show decide ((10 : Int) ≠ 0) = true from rfl, show decide ((10 : Nat) ≠ 0) = true from rfl, all_one, bytes_one]
   refine ev_tst (sz_le (by have h1 := one_size (48 + x % 10); simp only [maxLen]; omega)) ?_
   exact k
  ·simp -implicitDefEqProofs only [rdl, Ex.same, Nat.beq]
   have hne : ¬ (x = 0) := by omega
   have hz : (⟨#[109]⟩ : ByteArray).size = 1 := rfl
   have hd := dg_size 20 x (by omega)
   have he : (⟨#[]⟩ : ByteArray) = ByteArray.empty := rfl
   simp only [hne, if_false, he, ByteArray.append_empty]
   refine ev_tst (sz_le (by rw [hz]; simp only [maxLen]; omega)) ?_
   refine Evt.ret' ?_
   have hk : ¬ ((x : Int) ≤ 0) := by omega
   simp only [mkText, hk, if_false, Int.toNat_natCast]
   rfl
/- loop.example/g00119/laws.markStringS -/
theorem f26 {l : Rows} (hl : SL E 9 l) (k : Int) (h0 : 0 ≤ k) (hk : k + (cnRows l : Nat) < K62) : Ev fs 26 [.d (.s 1 l), .d (.v (.int .i64 k))] ⟨.d (.v (.int .i64 (k + (cnRows l : Nat)))), [.d (.s 1 (mkRows l k))]⟩ := by
 refine Ev.of (af := a26) rfl rfl (Evt.congr (fun d n => a26q ..) ?_)
 refine ev_aft (L := fun d n => l26x0 (TabD fs d) d n [.o 1 l, .v (.int .i64 k), .v (.int .i64 0)]) (mark_loop (L := fun d n l k i => l26x0 (TabD fs d) d n [.o 1 l, .v (.int .i64 k), .v (.int .i64 i)]) (Y := fun l k => (.exit 0, [.o 1 l, .v (.int .i64 k)])) h0 hk (fun d n l' k' hl' => ?_) (fun pre x post k res hx hp k0 k1 hk => ?_)) ?_
 ·rw [l26x0s]
  simp -implicitDefEqProofs only [rdl, Ex.same, Nat.beq, hl', Int.lt_irrefl, decide_false]
 ·have h := hl.at hx
  have h' := h
  obtain ⟨sa0, rfl, pa0⟩ := I9 h
  have hw : IntKind.i64.wrap ((pre.length : Int) + 1) = ((pre.length + 1 : Nat) : Int) := wrap_succ (m := l.length) (by omega) hl.1
  simp only [mkRow, mkV, cnRow, Nat.add_zero, Int.natCast_add, Int.cast_ofNat_Int, ← Int.add_assoc] at k1 hk
  simp only [l26x0s]
  simp -implicitDefEqProofs only [rdl, Ex.same, Nat.beq, mid_go, mid_ok, look_mid, set_mid, List.set_cons_zero, List.set_cons_succ, hw, tst3]
  try simp (disch := omega) only [wrap_k]
  refine ev_call (f27 _ (by omega) (by omega)) ?_
  simp -implicitDefEqProofs only [rdl, Ex.same, Nat.beq, mid_go, mid_ok, look_mid, set_mid, List.set_cons_zero, List.set_cons_succ, hw, tst3]
  try simp (disch := omega) only [wrap_k]
  try simp (disch := omega) only [wrap_v] at hk
  exact hk
 ·simp -implicitDefEqProofs only [rdl, Ex.same, Nat.beq]
  exact Evt.ret
/- loop.example/g00119/laws.markValueS -/
theorem fr28 {l : Rows} (hl : SL E 33 l) (k : Int) (h0 : 0 ≤ k) (hk : k + (cnRows l : Nat) < K62) (W : Nat) (hW : 2 * (l.length + wtRows l) = W) : Ev fs 28 [.d (.s 5 l), .d (.v (.int .i64 k))] ⟨.d (.v (.int .i64 (k + (cnRows l : Nat)))), [.d (.s 5 (mkRows l k))]⟩ := by
 refine Ev.of (af := a28) rfl rfl (Evt.congr (fun d n => a28q ..) ?_)
 refine ev_aft (L := fun d n => l28x0 (TabD fs d) d n [.o 5 l, .v (.int .i64 k), .v (.int .i64 0)]) (mark_loop (L := fun d n l k i => l28x0 (TabD fs d) d n [.o 5 l, .v (.int .i64 k), .v (.int .i64 i)]) (Y := fun l k => (.exit 0, [.o 5 l, .v (.int .i64 k)])) h0 hk (fun d n l' k' hl' => ?_) (fun pre x post k res hx hp k0 k1 hk => ?_)) ?_
 ·rw [l28x0s]
  simp -implicitDefEqProofs only [rdl, Ex.same, Nat.beq, hl', Int.lt_irrefl, decide_false]
 ·have h := hl.at hx
  have h' := h
  obtain ⟨na0, sa1, na2, la3, la4, rfl, pa0, pa1, pa2, pa3, pa4⟩ := I33 h
  have hw : IntKind.i64.wrap ((pre.length : Int) + 1) = ((pre.length + 1 : Nat) : Int) := wrap_succ (m := l.length) (by omega) hl.1
  simp only [mkRow, mkV, cnRow, Nat.add_zero, Int.natCast_add, Int.cast_ofNat_Int, ← Int.add_assoc] at k1 hk
  simp only [l28x0s]
  simp -implicitDefEqProofs only [rdl, Ex.same, Nat.beq, mid_go, mid_ok, look_mid, set_mid, List.set_cons_zero, List.set_cons_succ, hw, tst3]
  try simp (disch := omega) only [wrap_k]
  refine ev_call (f27 _ (by omega) (by omega)) ?_
  simp -implicitDefEqProofs only [rdl, Ex.same, Nat.beq, mid_go, mid_ok, look_mid, set_mid, List.set_cons_zero, List.set_cons_succ, hw, tst3]
  try simp (disch := omega) only [wrap_k]
  refine ev_call (f26 (by assumption) _ (by omega) (by omega)) ?_
  simp -implicitDefEqProofs only [rdl, Ex.same, Nat.beq, mid_go, mid_ok, look_mid, set_mid, List.set_cons_zero, List.set_cons_succ, hw, tst3]
  try simp (disch := omega) only [wrap_k]
  refine ev_call (fr28 (by assumption) _ (by omega) (by omega) _ rfl) ?_
  simp -implicitDefEqProofs only [rdl, Ex.same, Nat.beq, mid_go, mid_ok, look_mid, set_mid, List.set_cons_zero, List.set_cons_succ, hw, tst3]
  try simp (disch := omega) only [wrap_k]
  try simp (disch := omega) only [wrap_v] at hk
  exact hk
 ·simp -implicitDefEqProofs only [rdl, Ex.same, Nat.beq]
  exact Evt.ret
termination_by W
decreasing_by all_goals (try have := wt_at hx); (try simp only [wtRow, wtD] at *); omega
theorem f28 {l : Rows} (hl : SL E 33 l) (k : Int) (h0 : 0 ≤ k) (hk : k + (cnRows l : Nat) < K62) : Ev fs 28 [.d (.s 5 l), .d (.v (.int .i64 k))] ⟨.d (.v (.int .i64 (k + (cnRows l : Nat)))), [.d (.s 5 (mkRows l k))]⟩ := fr28 hl k h0 hk _ rfl
/- loop.example/g00119/laws.markOpS -/
theorem f8 {l : Rows} (hl : SL E 44 l) (k : Int) (h0 : 0 ≤ k) (hk : k + (cnRows l : Nat) < K62) : Ev fs 8 [.d (.s 7 l), .d (.v (.int .i64 k))] ⟨.d (.v (.int .i64 (k + (cnRows l : Nat)))), [.d (.s 7 (mkRows l k))]⟩ := by
 refine Ev.of (af := a8) rfl rfl (Evt.congr (fun d n => a8q ..) ?_)
 refine ev_aft (L := fun d n => l8x0 (TabD fs d) d n [.o 7 l, .v (.int .i64 k), .v (.int .i64 0)]) (mark_loop (L := fun d n l k i => l8x0 (TabD fs d) d n [.o 7 l, .v (.int .i64 k), .v (.int .i64 i)]) (Y := fun l k => (.exit 0, [.o 7 l, .v (.int .i64 k)])) h0 hk (fun d n l' k' hl' => ?_) (fun pre x post k res hx hp k0 k1 hk => ?_)) ?_
 ·rw [l8x0s]
  simp -implicitDefEqProofs only [rdl, Ex.same, Nat.beq, hl', Int.lt_irrefl, decide_false]
 ·have h := hl.at hx
  have h' := h
  obtain ⟨na0, la1, na2, sa3, na4, la5, la6, rfl, pa0, pa1, pa2, pa3, pa4, pa5, pa6⟩ := I44 h
  have hw : IntKind.i64.wrap ((pre.length : Int) + 1) = ((pre.length + 1 : Nat) : Int) := wrap_succ (m := l.length) (by omega) hl.1
  simp only [mkRow, mkV, cnRow, Nat.add_zero, Int.natCast_add, Int.cast_ofNat_Int, ← Int.add_assoc] at k1 hk
  simp only [l8x0s]
  simp -implicitDefEqProofs only [rdl, Ex.same, Nat.beq, mid_go, mid_ok, look_mid, set_mid, List.set_cons_zero, List.set_cons_succ, hw, tst3]
  try simp (disch := omega) only [wrap_k]
  refine ev_call (f26 (by assumption) _ (by omega) (by omega)) ?_
  simp -implicitDefEqProofs only [rdl, Ex.same, Nat.beq, mid_go, mid_ok, look_mid, set_mid, List.set_cons_zero, List.set_cons_succ, hw, tst3]
  try simp (disch := omega) only [wrap_k]
  refine ev_call (f27 _ (by omega) (by omega)) ?_
  simp -implicitDefEqProofs only [rdl, Ex.same, Nat.beq, mid_go, mid_ok, look_mid, set_mid, List.set_cons_zero, List.set_cons_succ, hw, tst3]
  try simp (disch := omega) only [wrap_k]
  refine ev_call (f26 (by assumption) _ (by omega) (by omega)) ?_
  simp -implicitDefEqProofs only [rdl, Ex.same, Nat.beq, mid_go, mid_ok, look_mid, set_mid, List.set_cons_zero, List.set_cons_succ, hw, tst3]
  try simp (disch := omega) only [wrap_k]
  refine ev_call (f28 (by assumption) _ (by omega) (by omega)) ?_
  simp -implicitDefEqProofs only [rdl, Ex.same, Nat.beq, mid_go, mid_ok, look_mid, set_mid, List.set_cons_zero, List.set_cons_succ, hw, tst3]
  try simp (disch := omega) only [wrap_k]
  try simp (disch := omega) only [wrap_v] at hk
  exact hk
 ·simp -implicitDefEqProofs only [rdl, Ex.same, Nat.beq]
  exact Evt.ret
end Go.Am.Pp
