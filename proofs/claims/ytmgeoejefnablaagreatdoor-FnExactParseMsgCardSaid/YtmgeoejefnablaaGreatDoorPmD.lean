/- What the functions of one family say in the end. Nothing is assumed. -/
import Derived.Test.YtmgeoejefnablaaGreatDoorPmM
namespace Go.Am.Pm
set_option linter.unusedVariables false
set_option linter.unusedSimpArgs false
set_option maxRecDepth 8000
/- loop.example/g00119/laws.heldStringS -/
theorem f68 {l : Rows} (hl : SL E 9 l) (k : Int) (h0 : 0 ≤ k) (hk : k + (H6 l : Nat) < K62) : Ev fs 68 [.d (.s 1 (O0 l k)), .d (.v (.int .i64 k))] (io (k + (H6 l : Nat))) := by
 refine Ev.of (af := a68) rfl rfl (Evt.congr (fun d n => D4f ..) ?_)
 refine I4 (L := fun d n => B75 (TabD fs d) d n [.fz 1 (O0 l k), .v (.int .i64 k), .v (.int .i64 0)]) (A5s (L := fun d n k' i => B75 (TabD fs d) d n [.fz 1 (O0 l k), .v (.int .i64 k'), .v (.int .i64 i)]) (Y := fun k' => (.exit 0, [.v (.int .i64 k')])) h0 hk (fun d n k' => ?_) (fun i x k' res hi hx hm k0 k1 hk => ?_)) ?_
 ·rw [C55]
  simp -implicitDefEqProofs only [rdl, Ex.same, Nat.beq, F4, Int.lt_irrefl, decide_false]
 ·have h := hl.at hx
  have h' := h
  obtain ⟨sa0, rfl, pa0⟩ := I9 h
  have hw := G7 hi hl.1
  simp only [A2h, mkV, U6, Nat.add_zero, Int.natCast_add, Int.cast_ofNat_Int, ← Int.add_assoc] at k1 hk hm
  try simp (disch := omega) only [A57] at hm
  simp only [C55]
  simp -implicitDefEqProofs only [rdl, Ex.same, Nat.beq, F4, decide_eq_true (Int.ofNat_lt.2 hi), F3, C9 hm, hw, bne_self_eq_false, E8, Bool.not_true, U2]
  try simp (disch := omega) only [P8, bne_self_eq_false, cond_false]
  try simp -implicitDefEqProofs only [rdl, Ex.same, Nat.beq, F4, decide_eq_true (Int.ofNat_lt.2 hi), F3, C9 hm, hw, bne_self_eq_false, E8, Bool.not_true, U2]
  refine A7 (f65 _ (by omega) (by omega)) ?_
  simp -implicitDefEqProofs only [rdl, Ex.same, Nat.beq, F4, decide_eq_true (Int.ofNat_lt.2 hi), F3, C9 hm, hw, bne_self_eq_false, E8, Bool.not_true, U2]
  try simp (disch := omega) only [P8, bne_self_eq_false, cond_false]
  try simp -implicitDefEqProofs only [rdl, Ex.same, Nat.beq, F4, decide_eq_true (Int.ofNat_lt.2 hi), F3, C9 hm, hw, bne_self_eq_false, E8, Bool.not_true, U2]
  exact hk
 ·simp -implicitDefEqProofs only [rdl, Ex.same, Nat.beq]
  exact Evt.ret
/- loop.example/g00119/laws.heldValueS -/
theorem D2s {l : Rows} (hl : SL E 46 l) (k : Int) (h0 : 0 ≤ k) (hk : k + (H6 l : Nat) < K62) (W : Nat) (hW : 2 * (l.length + A56 l) = W) : Ev fs 69 [.d (.s 5 (O0 l k)), .d (.v (.int .i64 k))] (io (k + (H6 l : Nat))) := by
 refine Ev.of (af := a69) rfl rfl (Evt.congr (fun d n => D4g ..) ?_)
 refine I4 (L := fun d n => B76 (TabD fs d) d n [.fz 5 (O0 l k), .v (.int .i64 k), .v (.int .i64 0)]) (A5s (L := fun d n k' i => B76 (TabD fs d) d n [.fz 5 (O0 l k), .v (.int .i64 k'), .v (.int .i64 i)]) (Y := fun k' => (.exit 0, [.v (.int .i64 k')])) h0 hk (fun d n k' => ?_) (fun i x k' res hi hx hm k0 k1 hk => ?_)) ?_
 ·rw [C56]
  simp -implicitDefEqProofs only [rdl, Ex.same, Nat.beq, F4, Int.lt_irrefl, decide_false]
 ·have h := hl.at hx
  have h' := h
  obtain ⟨na0, sa1, na2, la3, la4, rfl, pa0, pa1, pa2, pa3, pa4⟩ := I46 h
  have hw := G7 hi hl.1
  simp only [A2h, mkV, U6, Nat.add_zero, Int.natCast_add, Int.cast_ofNat_Int, ← Int.add_assoc] at k1 hk hm
  try simp (disch := omega) only [A57] at hm
  simp only [C56]
  simp -implicitDefEqProofs only [rdl, Ex.same, Nat.beq, F4, decide_eq_true (Int.ofNat_lt.2 hi), F3, C9 hm, hw, bne_self_eq_false, E8, Bool.not_true, U2]
  try simp (disch := omega) only [P8, bne_self_eq_false, cond_false]
  try simp -implicitDefEqProofs only [rdl, Ex.same, Nat.beq, F4, decide_eq_true (Int.ofNat_lt.2 hi), F3, C9 hm, hw, bne_self_eq_false, E8, Bool.not_true, U2]
  refine A7 (f65 _ (by omega) (by omega)) ?_
  simp -implicitDefEqProofs only [rdl, Ex.same, Nat.beq, F4, decide_eq_true (Int.ofNat_lt.2 hi), F3, C9 hm, hw, bne_self_eq_false, E8, Bool.not_true, U2]
  try simp (disch := omega) only [P8, bne_self_eq_false, cond_false]
  try simp -implicitDefEqProofs only [rdl, Ex.same, Nat.beq, F4, decide_eq_true (Int.ofNat_lt.2 hi), F3, C9 hm, hw, bne_self_eq_false, E8, Bool.not_true, U2]
  refine A7 (f68 (by assumption) _ (by omega) (by omega)) ?_
  simp -implicitDefEqProofs only [rdl, Ex.same, Nat.beq, F4, decide_eq_true (Int.ofNat_lt.2 hi), F3, C9 hm, hw, bne_self_eq_false, E8, Bool.not_true, U2]
  try simp (disch := omega) only [P8, bne_self_eq_false, cond_false]
  try simp -implicitDefEqProofs only [rdl, Ex.same, Nat.beq, F4, decide_eq_true (Int.ofNat_lt.2 hi), F3, C9 hm, hw, bne_self_eq_false, E8, Bool.not_true, U2]
  refine D6 (fun hc => absurd (of_decide_eq_true hc) (by omega)) (fun _ => ?_)
  try simp -implicitDefEqProofs only [rdl, Ex.same, Nat.beq, F4, decide_eq_true (Int.ofNat_lt.2 hi), F3, C9 hm, hw, bne_self_eq_false, E8, Bool.not_true, U2]
  try simp (disch := omega) only [P8, bne_self_eq_false, cond_false]
  try simp -implicitDefEqProofs only [rdl, Ex.same, Nat.beq, F4, decide_eq_true (Int.ofNat_lt.2 hi), F3, C9 hm, hw, bne_self_eq_false, E8, Bool.not_true, U2]
  refine A7 (D2s (by assumption) _ (by omega) (by omega) _ rfl) ?_
  simp -implicitDefEqProofs only [rdl, Ex.same, Nat.beq, F4, decide_eq_true (Int.ofNat_lt.2 hi), F3, C9 hm, hw, bne_self_eq_false, E8, Bool.not_true, U2]
  try simp (disch := omega) only [P8, bne_self_eq_false, cond_false]
  try simp -implicitDefEqProofs only [rdl, Ex.same, Nat.beq, F4, decide_eq_true (Int.ofNat_lt.2 hi), F3, C9 hm, hw, bne_self_eq_false, E8, Bool.not_true, U2]
  refine D6 (fun hc => absurd (of_decide_eq_true hc) (by omega)) (fun _ => ?_)
  try simp -implicitDefEqProofs only [rdl, Ex.same, Nat.beq, F4, decide_eq_true (Int.ofNat_lt.2 hi), F3, C9 hm, hw, bne_self_eq_false, E8, Bool.not_true, U2]
  try simp (disch := omega) only [P8, bne_self_eq_false, cond_false]
  try simp -implicitDefEqProofs only [rdl, Ex.same, Nat.beq, F4, decide_eq_true (Int.ofNat_lt.2 hi), F3, C9 hm, hw, bne_self_eq_false, E8, Bool.not_true, U2]
  exact hk
 ·simp -implicitDefEqProofs only [rdl, Ex.same, Nat.beq]
  exact Evt.ret
termination_by W
decreasing_by all_goals (try have := B9q hx); (try simp only [A92, wtD] at *); omega
theorem f69 {l : Rows} (hl : SL E 46 l) (k : Int) (h0 : 0 ≤ k) (hk : k + (H6 l : Nat) < K62) : Ev fs 69 [.d (.s 5 (O0 l k)), .d (.v (.int .i64 k))] (io (k + (H6 l : Nat))) := D2s hl k h0 hk _ rfl
/- loop.example/g00119/laws.heldWorkS -/
theorem f41 {l : Rows} (hl : SL E 48 l) (k : Int) (h0 : 0 ≤ k) (hk : k + (H6 l : Nat) < K62) : Ev fs 41 [.d (.s 7 (O0 l k)), .d (.v (.int .i64 k))] (io (k + (H6 l : Nat))) := by
 refine Ev.of (af := a41) rfl rfl (Evt.congr (fun d n => D4h ..) ?_)
 refine I4 (L := fun d n => B77 (TabD fs d) d n [.fz 7 (O0 l k), .v (.int .i64 k), .v (.int .i64 0)]) (A5s (L := fun d n k' i => B77 (TabD fs d) d n [.fz 7 (O0 l k), .v (.int .i64 k'), .v (.int .i64 i)]) (Y := fun k' => (.exit 0, [.v (.int .i64 k')])) h0 hk (fun d n k' => ?_) (fun i x k' res hi hx hm k0 k1 hk => ?_)) ?_
 ·rw [C57]
  simp -implicitDefEqProofs only [rdl, Ex.same, Nat.beq, F4, Int.lt_irrefl, decide_false]
 ·have h := hl.at hx
  have h' := h
  obtain ⟨na0, na1, na2, sa3, na4, la5, la6, rfl, pa0, pa1, pa2, pa3, pa4, pa5, pa6⟩ := I48 h
  have hw := G7 hi hl.1
  simp only [A2h, mkV, U6, Nat.add_zero, Int.natCast_add, Int.cast_ofNat_Int, ← Int.add_assoc] at k1 hk hm
  try simp (disch := omega) only [A57] at hm
  simp only [C57]
  simp -implicitDefEqProofs only [rdl, Ex.same, Nat.beq, F4, decide_eq_true (Int.ofNat_lt.2 hi), F3, C9 hm, hw, bne_self_eq_false, E8, Bool.not_true, U2]
  try simp (disch := omega) only [P8, bne_self_eq_false, cond_false]
  try simp -implicitDefEqProofs only [rdl, Ex.same, Nat.beq, F4, decide_eq_true (Int.ofNat_lt.2 hi), F3, C9 hm, hw, bne_self_eq_false, E8, Bool.not_true, U2]
  refine A7 (f65 _ (by omega) (by omega)) ?_
  simp -implicitDefEqProofs only [rdl, Ex.same, Nat.beq, F4, decide_eq_true (Int.ofNat_lt.2 hi), F3, C9 hm, hw, bne_self_eq_false, E8, Bool.not_true, U2]
  try simp (disch := omega) only [P8, bne_self_eq_false, cond_false]
  try simp -implicitDefEqProofs only [rdl, Ex.same, Nat.beq, F4, decide_eq_true (Int.ofNat_lt.2 hi), F3, C9 hm, hw, bne_self_eq_false, E8, Bool.not_true, U2]
  refine A7 (f68 (by assumption) _ (by omega) (by omega)) ?_
  simp -implicitDefEqProofs only [rdl, Ex.same, Nat.beq, F4, decide_eq_true (Int.ofNat_lt.2 hi), F3, C9 hm, hw, bne_self_eq_false, E8, Bool.not_true, U2]
  try simp (disch := omega) only [P8, bne_self_eq_false, cond_false]
  try simp -implicitDefEqProofs only [rdl, Ex.same, Nat.beq, F4, decide_eq_true (Int.ofNat_lt.2 hi), F3, C9 hm, hw, bne_self_eq_false, E8, Bool.not_true, U2]
  refine D6 (fun hc => absurd (of_decide_eq_true hc) (by omega)) (fun _ => ?_)
  try simp -implicitDefEqProofs only [rdl, Ex.same, Nat.beq, F4, decide_eq_true (Int.ofNat_lt.2 hi), F3, C9 hm, hw, bne_self_eq_false, E8, Bool.not_true, U2]
  try simp (disch := omega) only [P8, bne_self_eq_false, cond_false]
  try simp -implicitDefEqProofs only [rdl, Ex.same, Nat.beq, F4, decide_eq_true (Int.ofNat_lt.2 hi), F3, C9 hm, hw, bne_self_eq_false, E8, Bool.not_true, U2]
  refine A7 (f69 (by assumption) _ (by omega) (by omega)) ?_
  simp -implicitDefEqProofs only [rdl, Ex.same, Nat.beq, F4, decide_eq_true (Int.ofNat_lt.2 hi), F3, C9 hm, hw, bne_self_eq_false, E8, Bool.not_true, U2]
  try simp (disch := omega) only [P8, bne_self_eq_false, cond_false]
  try simp -implicitDefEqProofs only [rdl, Ex.same, Nat.beq, F4, decide_eq_true (Int.ofNat_lt.2 hi), F3, C9 hm, hw, bne_self_eq_false, E8, Bool.not_true, U2]
  refine D6 (fun hc => absurd (of_decide_eq_true hc) (by omega)) (fun _ => ?_)
  try simp -implicitDefEqProofs only [rdl, Ex.same, Nat.beq, F4, decide_eq_true (Int.ofNat_lt.2 hi), F3, C9 hm, hw, bne_self_eq_false, E8, Bool.not_true, U2]
  try simp (disch := omega) only [P8, bne_self_eq_false, cond_false]
  try simp -implicitDefEqProofs only [rdl, Ex.same, Nat.beq, F4, decide_eq_true (Int.ofNat_lt.2 hi), F3, C9 hm, hw, bne_self_eq_false, E8, Bool.not_true, U2]
  exact hk
 ·simp -implicitDefEqProofs only [rdl, Ex.same, Nat.beq]
  exact Evt.ret
/- loop.example/g00119/laws.heldRunS -/
theorem f42 {l : Rows} (hl : SL E 42 l) (k : Int) (h0 : 0 ≤ k) (hk : k + (H6 l : Nat) < K62) : Ev fs 42 [.d (.s 2 (O0 l k)), .d (.v (.int .i64 k))] (io (k + (H6 l : Nat))) := by
 refine Ev.of (af := a42) rfl rfl (Evt.congr (fun d n => D4i ..) ?_)
 refine I4 (L := fun d n => B78 (TabD fs d) d n [.fz 2 (O0 l k), .v (.int .i64 k), .v (.int .i64 0)]) (A5s (L := fun d n k' i => B78 (TabD fs d) d n [.fz 2 (O0 l k), .v (.int .i64 k'), .v (.int .i64 i)]) (Y := fun k' => (.exit 0, [.v (.int .i64 k')])) h0 hk (fun d n k' => ?_) (fun i x k' res hi hx hm k0 k1 hk => ?_)) ?_
 ·rw [C58]
  simp -implicitDefEqProofs only [rdl, Ex.same, Nat.beq, F4, Int.lt_irrefl, decide_false]
 ·have h := hl.at hx
  have h' := h
  obtain ⟨na0, na1, rfl, pa0, pa1⟩ := I42 h
  have hw := G7 hi hl.1
  simp only [A2h, mkV, U6, Nat.add_zero, Int.natCast_add, Int.cast_ofNat_Int, ← Int.add_assoc] at k1 hk hm
  try simp (disch := omega) only [A57] at hm
  simp only [C58]
  simp -implicitDefEqProofs only [rdl, Ex.same, Nat.beq, F4, decide_eq_true (Int.ofNat_lt.2 hi), F3, C9 hm, hw, bne_self_eq_false, E8, Bool.not_true, U2]
  try simp (disch := omega) only [P8, bne_self_eq_false, cond_false]
  try simp -implicitDefEqProofs only [rdl, Ex.same, Nat.beq, F4, decide_eq_true (Int.ofNat_lt.2 hi), F3, C9 hm, hw, bne_self_eq_false, E8, Bool.not_true, U2]
  exact hk
 ·simp -implicitDefEqProofs only [rdl, Ex.same, Nat.beq]
  exact Evt.ret
/- loop.example/g00119/laws.heldMsg -/
theorem f15 {row : Row} (h : ShL E (E 27) row) (k : Int) (h0 : 0 ≤ k) (hk : k + (A1l row : Nat) < K62) : Ev fs 15 [.g (Z5 row k), .d (.v (.int .i64 k))] (io (k + (A1l row : Nat))) := by
 obtain ⟨na0, sa1, na2, la3, la4, rfl, pa0, pa1, pa2, pa3, pa4⟩ := I27 h
 simp only [Z5, A1l, Nat.add_zero, Int.natCast_add, ← Int.add_assoc] at hk ⊢
 refine Ev.of (af := a15) rfl rfl (Evt.congr (fun d n => D4j ..) ?_)
 refine A7 (f41 (by assumption) _ (by omega) (by omega)) ?_
 simp -implicitDefEqProofs only [rdl, Ex.same, Nat.beq]
 refine D6 (fun hc => absurd (of_decide_eq_true hc) (by omega)) (fun _ => ?_)
 refine A7 (f42 (by assumption) _ (by omega) (by omega)) ?_
 simp -implicitDefEqProofs only [rdl, Ex.same, Nat.beq]
 refine D6 (fun hc => absurd (of_decide_eq_true hc) (by omega)) (fun _ => ?_)
 exact Evt.ret
end Go.Am.Pm
