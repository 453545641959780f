/- What the functions of one family say in the end. Nothing is assumed. -/
import Derived.Test.YtmgeoejefnablaaGreatDoorPmH
namespace Go.Am.Pm
set_option linter.unusedVariables false
set_option linter.unusedSimpArgs false
set_option maxRecDepth 8000
/- loop.example/g00119/laws.markText -/
theorem f65 (k : Int) (h0 : 0 ≤ k) (h1 : k < K62) : Ev fs 65 [.d (.v (.int .i64 k))] ⟨.d (.v (.string (B4a k))), []⟩ := by
 obtain ⟨x, rfl⟩ : ∃ x : Nat, k = (x : Int) := ⟨k.toNat, by omega⟩
 have h62 : x < 2 ^ 62 := by simp only [K62] at h1; omega
 refine Ev.of (af := a65) rfl rfl (Evt.congr (fun d n => D49 ..) ?_)
 refine D6 (fun hc => ?_) (fun hc => ?_)
 ·have : x = 0 := by have := of_decide_eq_true hc; omega
  subst this
  exact Evt.ret' (by simp [B4a])
 ·have hpos : 0 < x := by have := of_decide_eq_false hc; omega
  refine I4 (L := fun d n => B70 (TabD fs d) d n [.v (.int .i64 (x : Int)), .v (.string ⟨#[]⟩)]) (C1f (L := fun d n v s => B70 (TabD fs d) d n [.v (.int .i64 v), .v (.string s)]) (fun d n s => ?_) (fun x s res hp hx hs k => ?_) 19 x (Nat.lt_of_lt_of_le h62 (by decide)) h62 (by omega) ⟨#[]⟩ (by decide)) ?_
  ·rw [C50]
   simp -implicitDefEqProofs only [rdl, Ex.same, Nat.beq, show decide ((0 : Int) > 0) = false from rfl]
  ·have hm : x % 10 < 10 := Nat.mod_lt _ (by omega)
   have e1 : Int.tmod (x : Int) 10 = ((x % 10 : Nat) : Int) := by rw [Int.tmod_eq_emod_of_nonneg (by omega)]; omega
   have e2 : IntKind.i64.wrap (Int.tdiv (x : Int) 10) = ((x / 10 : Nat) : Int) := by
    rw [Int.tdiv_eq_ediv_of_nonneg (by omega), wrap_i64 (by omega) (by omega)]
    omega
   have e3 : IntKind.u8.wrap (IntKind.i64.wrap (48 + ((x % 10 : Nat) : Int))) = ((48 + x % 10 : Nat) : Int) := by
    rw [wrap_i64 (by omega) (by omega), wrap_u8 (by omega) (by omega)]
    omega
   simp only [C50, e1, e2, e3]
   simp -implicitDefEqProofs only [rdl, Ex.same, Nat.beq, show decide ((x : Int) > 0) = true from decide_eq_true (by omega), show decide ((10 : Int) ≠ 0) = true from rfl, show decide ((10 : Nat) ≠ 0) = true from rfl, A46, A11]
   refine D8 (I7 (by have h1 := Q3 (48 + x % 10); simp only [maxLen]; omega)) ?_
   exact k
  ·simp -implicitDefEqProofs only [rdl, Ex.same, Nat.beq]
   have hne : ¬ (x = 0) := by omega
   have hz : (⟨#[109]⟩ : ByteArray).size = 1 := rfl
   have hd := A45 20 x (by omega)
   have he : (⟨#[]⟩ : ByteArray) = ByteArray.empty := rfl
   simp only [hne, if_false, he, ByteArray.append_empty]
   refine D8 (I7 (by rw [hz]; simp only [maxLen]; omega)) ?_
   refine Evt.ret' ?_
   have hk : ¬ ((x : Int) ≤ 0) := by omega
   simp only [B4a, hk, if_false, Int.toNat_natCast]
   rfl
/- loop.example/g00119/laws.markStringS -/
theorem f66 {l : Rows} (hl : SL E 9 l) (k : Int) (h0 : 0 ≤ k) (hk : k + (H6 l : Nat) < K62) : Ev fs 66 [.d (.s 1 l), .d (.v (.int .i64 k))] ⟨.d (.v (.int .i64 (k + (H6 l : Nat)))), [.d (.s 1 (O0 l k))]⟩ := by
 refine Ev.of (af := a66) rfl rfl (Evt.congr (fun d n => D4a ..) ?_)
 refine I4 (L := fun d n => B71 (TabD fs d) d n [.o 1 l, .v (.int .i64 k), .v (.int .i64 0)]) (A5r (L := fun d n l k i => B71 (TabD fs d) d n [.o 1 l, .v (.int .i64 k), .v (.int .i64 i)]) (Y := fun l k => (.exit 0, [.o 1 l, .v (.int .i64 k)])) h0 hk (fun d n l' k' hl' => ?_) (fun pre x post k res hx hp k0 k1 hk => ?_)) ?_
 ·rw [C51]
  simp -implicitDefEqProofs only [rdl, Ex.same, Nat.beq, hl', Int.lt_irrefl, decide_false]
 ·have h := hl.at hx
  have h' := h
  obtain ⟨sa0, rfl, pa0⟩ := I9 h
  have hw : IntKind.i64.wrap ((pre.length : Int) + 1) = ((pre.length + 1 : Nat) : Int) := G7 (m := l.length) (by omega) hl.1
  simp only [A2h, mkV, U6, Nat.add_zero, Int.natCast_add, Int.cast_ofNat_Int, ← Int.add_assoc] at k1 hk
  simp only [C51]
  simp -implicitDefEqProofs only [rdl, Ex.same, Nat.beq, A2j, A2i, Y3, set_mid, List.set_cons_zero, List.set_cons_succ, hw, U2]
  try simp (disch := omega) only [P8]
  refine A7 (f65 _ (by omega) (by omega)) ?_
  simp -implicitDefEqProofs only [rdl, Ex.same, Nat.beq, A2j, A2i, Y3, set_mid, List.set_cons_zero, List.set_cons_succ, hw, U2]
  try simp (disch := omega) only [P8]
  try simp (disch := omega) only [A57] at hk
  exact hk
 ·simp -implicitDefEqProofs only [rdl, Ex.same, Nat.beq]
  exact Evt.ret
/- loop.example/g00119/laws.markValueS -/
theorem D2r {l : Rows} (hl : SL E 46 l) (k : Int) (h0 : 0 ≤ k) (hk : k + (H6 l : Nat) < K62) (W : Nat) (hW : 2 * (l.length + A56 l) = W) : Ev fs 67 [.d (.s 5 l), .d (.v (.int .i64 k))] ⟨.d (.v (.int .i64 (k + (H6 l : Nat)))), [.d (.s 5 (O0 l k))]⟩ := by
 refine Ev.of (af := a67) rfl rfl (Evt.congr (fun d n => D4b ..) ?_)
 refine I4 (L := fun d n => B72 (TabD fs d) d n [.o 5 l, .v (.int .i64 k), .v (.int .i64 0)]) (A5r (L := fun d n l k i => B72 (TabD fs d) d n [.o 5 l, .v (.int .i64 k), .v (.int .i64 i)]) (Y := fun l k => (.exit 0, [.o 5 l, .v (.int .i64 k)])) h0 hk (fun d n l' k' hl' => ?_) (fun pre x post k res hx hp k0 k1 hk => ?_)) ?_
 ·rw [C52]
  simp -implicitDefEqProofs only [rdl, Ex.same, Nat.beq, hl', Int.lt_irrefl, decide_false]
 ·have h := hl.at hx
  have h' := h
  obtain ⟨na0, sa1, na2, la3, la4, rfl, pa0, pa1, pa2, pa3, pa4⟩ := I46 h
  have hw : IntKind.i64.wrap ((pre.length : Int) + 1) = ((pre.length + 1 : Nat) : Int) := G7 (m := l.length) (by omega) hl.1
  simp only [A2h, mkV, U6, Nat.add_zero, Int.natCast_add, Int.cast_ofNat_Int, ← Int.add_assoc] at k1 hk
  simp only [C52]
  simp -implicitDefEqProofs only [rdl, Ex.same, Nat.beq, A2j, A2i, Y3, set_mid, List.set_cons_zero, List.set_cons_succ, hw, U2]
  try simp (disch := omega) only [P8]
  refine A7 (f65 _ (by omega) (by omega)) ?_
  simp -implicitDefEqProofs only [rdl, Ex.same, Nat.beq, A2j, A2i, Y3, set_mid, List.set_cons_zero, List.set_cons_succ, hw, U2]
  try simp (disch := omega) only [P8]
  refine A7 (f66 (by assumption) _ (by omega) (by omega)) ?_
  simp -implicitDefEqProofs only [rdl, Ex.same, Nat.beq, A2j, A2i, Y3, set_mid, List.set_cons_zero, List.set_cons_succ, hw, U2]
  try simp (disch := omega) only [P8]
  refine A7 (D2r (by assumption) _ (by omega) (by omega) _ rfl) ?_
  simp -implicitDefEqProofs only [rdl, Ex.same, Nat.beq, A2j, A2i, Y3, set_mid, List.set_cons_zero, List.set_cons_succ, hw, U2]
  try simp (disch := omega) only [P8]
  try simp (disch := omega) only [A57] at hk
  exact hk
 ·simp -implicitDefEqProofs only [rdl, Ex.same, Nat.beq]
  exact Evt.ret
termination_by W
decreasing_by all_goals (try have := B9q hx); (try simp only [A92, wtD] at *); omega
theorem f67 {l : Rows} (hl : SL E 46 l) (k : Int) (h0 : 0 ≤ k) (hk : k + (H6 l : Nat) < K62) : Ev fs 67 [.d (.s 5 l), .d (.v (.int .i64 k))] ⟨.d (.v (.int .i64 (k + (H6 l : Nat)))), [.d (.s 5 (O0 l k))]⟩ := D2r hl k h0 hk _ rfl
/- loop.example/g00119/laws.markWorkS -/
theorem f39 {l : Rows} (hl : SL E 48 l) (k : Int) (h0 : 0 ≤ k) (hk : k + (H6 l : Nat) < K62) : Ev fs 39 [.d (.s 7 l), .d (.v (.int .i64 k))] ⟨.d (.v (.int .i64 (k + (H6 l : Nat)))), [.d (.s 7 (O0 l k))]⟩ := by
 refine Ev.of (af := a39) rfl rfl (Evt.congr (fun d n => D4c ..) ?_)
 refine I4 (L := fun d n => B73 (TabD fs d) d n [.o 7 l, .v (.int .i64 k), .v (.int .i64 0)]) (A5r (L := fun d n l k i => B73 (TabD fs d) d n [.o 7 l, .v (.int .i64 k), .v (.int .i64 i)]) (Y := fun l k => (.exit 0, [.o 7 l, .v (.int .i64 k)])) h0 hk (fun d n l' k' hl' => ?_) (fun pre x post k res hx hp k0 k1 hk => ?_)) ?_
 ·rw [C53]
  simp -implicitDefEqProofs only [rdl, Ex.same, Nat.beq, hl', Int.lt_irrefl, decide_false]
 ·have h := hl.at hx
  have h' := h
  obtain ⟨na0, na1, na2, sa3, na4, la5, la6, rfl, pa0, pa1, pa2, pa3, pa4, pa5, pa6⟩ := I48 h
  have hw : IntKind.i64.wrap ((pre.length : Int) + 1) = ((pre.length + 1 : Nat) : Int) := G7 (m := l.length) (by omega) hl.1
  simp only [A2h, mkV, U6, Nat.add_zero, Int.natCast_add, Int.cast_ofNat_Int, ← Int.add_assoc] at k1 hk
  simp only [C53]
  simp -implicitDefEqProofs only [rdl, Ex.same, Nat.beq, A2j, A2i, Y3, set_mid, List.set_cons_zero, List.set_cons_succ, hw, U2]
  try simp (disch := omega) only [P8]
  refine A7 (f65 _ (by omega) (by omega)) ?_
  simp -implicitDefEqProofs only [rdl, Ex.same, Nat.beq, A2j, A2i, Y3, set_mid, List.set_cons_zero, List.set_cons_succ, hw, U2]
  try simp (disch := omega) only [P8]
  refine A7 (f66 (by assumption) _ (by omega) (by omega)) ?_
  simp -implicitDefEqProofs only [rdl, Ex.same, Nat.beq, A2j, A2i, Y3, set_mid, List.set_cons_zero, List.set_cons_succ, hw, U2]
  try simp (disch := omega) only [P8]
  refine A7 (f67 (by assumption) _ (by omega) (by omega)) ?_
  simp -implicitDefEqProofs only [rdl, Ex.same, Nat.beq, A2j, A2i, Y3, set_mid, List.set_cons_zero, List.set_cons_succ, hw, U2]
  try simp (disch := omega) only [P8]
  try simp (disch := omega) only [A57] at hk
  exact hk
 ·simp -implicitDefEqProofs only [rdl, Ex.same, Nat.beq]
  exact Evt.ret
/- loop.example/g00119/laws.markRunS -/
theorem f40 {l : Rows} (hl : SL E 42 l) (k : Int) (h0 : 0 ≤ k) (hk : k + (H6 l : Nat) < K62) : Ev fs 40 [.d (.s 2 l), .d (.v (.int .i64 k))] ⟨.d (.v (.int .i64 (k + (H6 l : Nat)))), [.d (.s 2 (O0 l k))]⟩ := by
 refine Ev.of (af := a40) rfl rfl (Evt.congr (fun d n => D4d ..) ?_)
 refine I4 (L := fun d n => B74 (TabD fs d) d n [.o 2 l, .v (.int .i64 k), .v (.int .i64 0)]) (A5r (L := fun d n l k i => B74 (TabD fs d) d n [.o 2 l, .v (.int .i64 k), .v (.int .i64 i)]) (Y := fun l k => (.exit 0, [.o 2 l, .v (.int .i64 k)])) h0 hk (fun d n l' k' hl' => ?_) (fun pre x post k res hx hp k0 k1 hk => ?_)) ?_
 ·rw [C54]
  simp -implicitDefEqProofs only [rdl, Ex.same, Nat.beq, hl', Int.lt_irrefl, decide_false]
 ·have h := hl.at hx
  have h' := h
  obtain ⟨na0, na1, rfl, pa0, pa1⟩ := I42 h
  have hw : IntKind.i64.wrap ((pre.length : Int) + 1) = ((pre.length + 1 : Nat) : Int) := G7 (m := l.length) (by omega) hl.1
  simp only [A2h, mkV, U6, Nat.add_zero, Int.natCast_add, Int.cast_ofNat_Int, ← Int.add_assoc] at k1 hk
  simp only [C54]
  simp -implicitDefEqProofs only [rdl, Ex.same, Nat.beq, A2j, A2i, Y3, set_mid, List.set_cons_zero, List.set_cons_succ, hw, U2]
  try simp (disch := omega) only [P8]
  try simp (disch := omega) only [A57] at hk
  exact hk
 ·simp -implicitDefEqProofs only [rdl, Ex.same, Nat.beq]
  exact Evt.ret
/- loop.example/g00119/laws.markMsg -/
theorem f14 {row : Row} (h : ShL E (E 27) row) (k : Int) (h0 : 0 ≤ k) (hk : k + (A1l row : Nat) < K62) : Ev fs 14 [.g row, .d (.v (.int .i64 k))] ⟨.d (.v (.int .i64 (k + (A1l row : Nat)))), [.g (Z5 row k)]⟩ := by
 obtain ⟨na0, sa1, na2, la3, la4, rfl, pa0, pa1, pa2, pa3, pa4⟩ := I27 h
 simp only [Z5, A1l, Nat.add_zero, Int.natCast_add, ← Int.add_assoc] at hk ⊢
 refine Ev.of (af := a14) rfl rfl (Evt.congr (fun d n => D4e ..) ?_)
 refine A7 (f39 (by assumption) _ (by omega) (by first | omega | (simp only [A1l, Nat.add_zero, Int.natCast_add, ← Int.add_assoc]; omega))) ?_
 simp -implicitDefEqProofs only [rdl, Ex.same, Nat.beq, Z5]
 try simp only [Z5, A1l, Nat.add_zero, Int.natCast_add, ← Int.add_assoc]
 refine A7 (f40 (by assumption) _ (by omega) (by first | omega | (simp only [A1l, Nat.add_zero, Int.natCast_add, ← Int.add_assoc]; omega))) ?_
 simp -implicitDefEqProofs only [rdl, Ex.same, Nat.beq, Z5]
 try simp only [Z5, A1l, Nat.add_zero, Int.natCast_add, ← Int.add_assoc]
 exact Evt.ret
end Go.Am.Pm
