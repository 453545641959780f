/- What the functions of one family say in the end. Nothing is assumed. -/
import Derived.Test.YtmgeoejefnablaaGreatLkH
namespace Go.Am.Lk
set_option linter.unusedVariables false
set_option linter.unusedSimpArgs false
set_option maxRecDepth 8000
/- loop.example/g00119/laws.markText -/
theorem f122 (k : Int) (h0 : 0 ≤ k) (h1 : k < K62) : Ev fs 122 [.d (.v (.int .i64 k))] ⟨.d (.v (.string (mkText k))), []⟩ := by
  obtain ⟨x, rfl⟩ : ∃ x : Nat, k = (x : Int) := ⟨k.toNat, by omega⟩
  have h62 : x < 2 ^ 62 := by simp only [K62] at h1; omega
  refine Ev.of (af := a122) rfl rfl (Evt.congr (fun d n => a122q ..) ?_)
  refine ev_if (fun hc => ?_) (fun hc => ?_)
  · have : x = 0 := by have := of_decide_eq_true hc; omega
    subst this
    exact Evt.ret' (by simp [mkText])
  · have hpos : 0 < x := by have := of_decide_eq_false hc; omega
    refine ev_aft (L := fun d n => l122x0 (TabD fs d) d n [.v (.int .i64 (x : Int)), .v (.string ⟨#[]⟩)]) (mark_text (L := fun d n v s => l122x0 (TabD fs d) d n [.v (.int .i64 v), .v (.string s)]) (fun d n s => ?_) (fun x s res hp hx hs k => ?_) 19 x (Nat.lt_of_lt_of_le h62 (by decide)) h62 (by omega) ⟨#[]⟩ (by decide)) ?_
    · rw [l122x0s]
      simp -implicitDefEqProofs only [rdl, Ex.same, Nat.beq, show decide ((0 : Int) > 0) = false from rfl]
    · have hm : x % 10 < 10 := Nat.mod_lt _ (by omega)
      have e1 : Int.tmod (x : Int) 10 = ((x % 10 : Nat) : Int) := by rw [Int.tmod_eq_emod_of_nonneg (by omega)]; omega
      have e2 : IntKind.i64.wrap (Int.tdiv (x : Int) 10) = ((x / 10 : Nat) : Int) := by
        rw [Int.tdiv_eq_ediv_of_nonneg (by omega), wrap_i64 (by omega) (by omega)]
        omega
      have e3 : IntKind.u8.wrap (IntKind.i64.wrap (48 + ((x % 10 : Nat) : Int))) = ((48 + x % 10 : Nat) : Int) := by
        rw [wrap_i64 (by omega) (by omega), wrap_u8 (by omega) (by omega)]
        omega
      simp only [l122x0s, e1, e2, e3]
      simp -implicitDefEqProofs only [rdl, Ex.same, Nat.beq, show decide ((x : Int) > 0) = true from decide_eq_true (by omega), show decide ((10 : Int) ≠ 0) = true from rfl, show decide ((10 : Nat) ≠ 0) = true from rfl, all_one, bytes_one]
      refine ev_tst (sz_le (by have h1 := one_size (48 + x % 10); simp only [maxLen]; omega)) ?_
      exact k
    · simp -implicitDefEqProofs only [rdl, Ex.same, Nat.beq]
      have hne : ¬ (x = 0) := by omega
      have hz : (⟨#[109]⟩ : ByteArray).size = 1 := rfl
      have hd := dg_size 20 x (by omega)
      have he : (⟨#[]⟩ : ByteArray) = ByteArray.empty := rfl
      simp only [hne, if_false, he, ByteArray.append_empty]
      refine ev_tst (sz_le (by rw [hz]; simp only [maxLen]; omega)) ?_
      refine Evt.ret' ?_
      have hk : ¬ ((x : Int) ≤ 0) := by omega
      simp only [mkText, hk, if_false, Int.toNat_natCast]
      rfl
/- loop.example/g00119/laws.markStringS -/
theorem f61 {l : Rows} (hl : SL E 9 l) (k : Int) (h0 : 0 ≤ k) (hk : k + (cnRows l : Nat) < K62) : Ev fs 61 [.d (.s 1 l), .d (.v (.int .i64 k))] ⟨.d (.v (.int .i64 (k + (cnRows l : Nat)))), [.d (.s 1 (mkRows l k))]⟩ := by
  refine Ev.of (af := a61) rfl rfl (Evt.congr (fun d n => a61q ..) ?_)
  refine ev_aft (L := fun d n => l61x0 (TabD fs d) d n [.o 1 l, .v (.int .i64 k), .v (.int .i64 0)]) (mark_loop (L := fun d n l k i => l61x0 (TabD fs d) d n [.o 1 l, .v (.int .i64 k), .v (.int .i64 i)]) (Y := fun l k => (.exit 0, [.o 1 l, .v (.int .i64 k)])) h0 hk (fun d n l' k' hl' => ?_) (fun pre x post k res hx hp k0 k1 hk => ?_)) ?_
  · rw [l61x0s]
    simp -implicitDefEqProofs only [rdl, Ex.same, Nat.beq, hl', Int.lt_irrefl, decide_false]
  · have h := hl.at hx
    have h' := h
    obtain ⟨sa0, rfl, pa0⟩ := I9 h
    have hw : IntKind.i64.wrap ((pre.length : Int) + 1) = ((pre.length + 1 : Nat) : Int) := wrap_succ (m := l.length) (by omega) hl.1
    simp only [mkRow, mkV, cnRow, Nat.add_zero, Int.natCast_add, Int.cast_ofNat_Int, ← Int.add_assoc] at k1 hk
    simp only [l61x0s]
    simp -implicitDefEqProofs only [rdl, Ex.same, Nat.beq, mid_go, mid_ok, look_mid, set_mid, List.set_cons_zero, List.set_cons_succ, hw, tst3]
    try simp (disch := omega) only [wrap_k]
    refine ev_call (f122 _ (by omega) (by omega)) ?_
    simp -implicitDefEqProofs only [rdl, Ex.same, Nat.beq, mid_go, mid_ok, look_mid, set_mid, List.set_cons_zero, List.set_cons_succ, hw, tst3]
    try simp (disch := omega) only [wrap_k]
    try simp (disch := omega) only [wrap_v] at hk
    exact hk
  · simp -implicitDefEqProofs only [rdl, Ex.same, Nat.beq]
    exact Evt.ret
/- loop.example/g00119/laws.markTermS -/
theorem f123 {l : Rows} (hl : SL E 259 l) (k : Int) (h0 : 0 ≤ k) (hk : k + (cnRows l : Nat) < K62) : Ev fs 123 [.d (.s 3 l), .d (.v (.int .i64 k))] ⟨.d (.v (.int .i64 (k + (cnRows l : Nat)))), [.d (.s 3 (mkRows l k))]⟩ := by
  refine Ev.of (af := a123) rfl rfl (Evt.congr (fun d n => a123q ..) ?_)
  refine ev_aft (L := fun d n => l123x0 (TabD fs d) d n [.o 3 l, .v (.int .i64 k), .v (.int .i64 0)]) (mark_loop (L := fun d n l k i => l123x0 (TabD fs d) d n [.o 3 l, .v (.int .i64 k), .v (.int .i64 i)]) (Y := fun l k => (.exit 0, [.o 3 l, .v (.int .i64 k)])) h0 hk (fun d n l' k' hl' => ?_) (fun pre x post k res hx hp k0 k1 hk => ?_)) ?_
  · rw [l123x0s]
    simp -implicitDefEqProofs only [rdl, Ex.same, Nat.beq, hl', Int.lt_irrefl, decide_false]
  · have h := hl.at hx
    have h' := h
    obtain ⟨na0, sa1, la2, rfl, pa0, pa1, pa2⟩ := I259 h
    have hw : IntKind.i64.wrap ((pre.length : Int) + 1) = ((pre.length + 1 : Nat) : Int) := wrap_succ (m := l.length) (by omega) hl.1
    simp only [mkRow, mkV, cnRow, Nat.add_zero, Int.natCast_add, Int.cast_ofNat_Int, ← Int.add_assoc] at k1 hk
    simp only [l123x0s]
    simp -implicitDefEqProofs only [rdl, Ex.same, Nat.beq, mid_go, mid_ok, look_mid, set_mid, List.set_cons_zero, List.set_cons_succ, hw, tst3]
    try simp (disch := omega) only [wrap_k]
    refine ev_call (f122 _ (by omega) (by omega)) ?_
    simp -implicitDefEqProofs only [rdl, Ex.same, Nat.beq, mid_go, mid_ok, look_mid, set_mid, List.set_cons_zero, List.set_cons_succ, hw, tst3]
    try simp (disch := omega) only [wrap_k]
    refine ev_call (f61 (by assumption) _ (by omega) (by omega)) ?_
    simp -implicitDefEqProofs only [rdl, Ex.same, Nat.beq, mid_go, mid_ok, look_mid, set_mid, List.set_cons_zero, List.set_cons_succ, hw, tst3]
    try simp (disch := omega) only [wrap_k]
    try simp (disch := omega) only [wrap_v] at hk
    exact hk
  · simp -implicitDefEqProofs only [rdl, Ex.same, Nat.beq]
    exact Evt.ret
/- loop.example/g00119/laws.markWeighS -/
theorem f124 {l : Rows} (hl : SL E 209 l) (k : Int) (h0 : 0 ≤ k) (hk : k + (cnRows l : Nat) < K62) : Ev fs 124 [.d (.s 2 l), .d (.v (.int .i64 k))] ⟨.d (.v (.int .i64 (k + (cnRows l : Nat)))), [.d (.s 2 (mkRows l k))]⟩ := by
  refine Ev.of (af := a124) rfl rfl (Evt.congr (fun d n => a124q ..) ?_)
  refine ev_aft (L := fun d n => l124x0 (TabD fs d) d n [.o 2 l, .v (.int .i64 k), .v (.int .i64 0)]) (mark_loop (L := fun d n l k i => l124x0 (TabD fs d) d n [.o 2 l, .v (.int .i64 k), .v (.int .i64 i)]) (Y := fun l k => (.exit 0, [.o 2 l, .v (.int .i64 k)])) h0 hk (fun d n l' k' hl' => ?_) (fun pre x post k res hx hp k0 k1 hk => ?_)) ?_
  · rw [l124x0s]
    simp -implicitDefEqProofs only [rdl, Ex.same, Nat.beq, hl', Int.lt_irrefl, decide_false]
  · have h := hl.at hx
    have h' := h
    obtain ⟨sa0, na1, rfl, pa0, pa1⟩ := I209 h
    have hw : IntKind.i64.wrap ((pre.length : Int) + 1) = ((pre.length + 1 : Nat) : Int) := wrap_succ (m := l.length) (by omega) hl.1
    simp only [mkRow, mkV, cnRow, Nat.add_zero, Int.natCast_add, Int.cast_ofNat_Int, ← Int.add_assoc] at k1 hk
    simp only [l124x0s]
    simp -implicitDefEqProofs only [rdl, Ex.same, Nat.beq, mid_go, mid_ok, look_mid, set_mid, List.set_cons_zero, List.set_cons_succ, hw, tst3]
    try simp (disch := omega) only [wrap_k]
    refine ev_call (f122 _ (by omega) (by omega)) ?_
    simp -implicitDefEqProofs only [rdl, Ex.same, Nat.beq, mid_go, mid_ok, look_mid, set_mid, List.set_cons_zero, List.set_cons_succ, hw, tst3]
    try simp (disch := omega) only [wrap_k]
    try simp (disch := omega) only [wrap_v] at hk
    exact hk
  · simp -implicitDefEqProofs only [rdl, Ex.same, Nat.beq]
    exact Evt.ret
/- loop.example/g00119/laws.markValueS -/
theorem fr125 {l : Rows} (hl : SL E 78 l) (k : Int) (h0 : 0 ≤ k) (hk : k + (cnRows l : Nat) < K62) (W : Nat) (hW : 2 * (l.length + wtRows l) = W) : Ev fs 125 [.d (.s 5 l), .d (.v (.int .i64 k))] ⟨.d (.v (.int .i64 (k + (cnRows l : Nat)))), [.d (.s 5 (mkRows l k))]⟩ := by
  refine Ev.of (af := a125) rfl rfl (Evt.congr (fun d n => a125q ..) ?_)
  refine ev_aft (L := fun d n => l125x0 (TabD fs d) d n [.o 5 l, .v (.int .i64 k), .v (.int .i64 0)]) (mark_loop (L := fun d n l k i => l125x0 (TabD fs d) d n [.o 5 l, .v (.int .i64 k), .v (.int .i64 i)]) (Y := fun l k => (.exit 0, [.o 5 l, .v (.int .i64 k)])) h0 hk (fun d n l' k' hl' => ?_) (fun pre x post k res hx hp k0 k1 hk => ?_)) ?_
  · rw [l125x0s]
    simp -implicitDefEqProofs only [rdl, Ex.same, Nat.beq, hl', Int.lt_irrefl, decide_false]
  · have h := hl.at hx
    have h' := h
    obtain ⟨na0, sa1, na2, la3, la4, rfl, pa0, pa1, pa2, pa3, pa4⟩ := I78 h
    have hw : IntKind.i64.wrap ((pre.length : Int) + 1) = ((pre.length + 1 : Nat) : Int) := wrap_succ (m := l.length) (by omega) hl.1
    simp only [mkRow, mkV, cnRow, Nat.add_zero, Int.natCast_add, Int.cast_ofNat_Int, ← Int.add_assoc] at k1 hk
    simp only [l125x0s]
    simp -implicitDefEqProofs only [rdl, Ex.same, Nat.beq, mid_go, mid_ok, look_mid, set_mid, List.set_cons_zero, List.set_cons_succ, hw, tst3]
    try simp (disch := omega) only [wrap_k]
    refine ev_call (f122 _ (by omega) (by omega)) ?_
    simp -implicitDefEqProofs only [rdl, Ex.same, Nat.beq, mid_go, mid_ok, look_mid, set_mid, List.set_cons_zero, List.set_cons_succ, hw, tst3]
    try simp (disch := omega) only [wrap_k]
    refine ev_call (f61 (by assumption) _ (by omega) (by omega)) ?_
    simp -implicitDefEqProofs only [rdl, Ex.same, Nat.beq, mid_go, mid_ok, look_mid, set_mid, List.set_cons_zero, List.set_cons_succ, hw, tst3]
    try simp (disch := omega) only [wrap_k]
    refine ev_call (fr125 (by assumption) _ (by omega) (by omega) _ rfl) ?_
    simp -implicitDefEqProofs only [rdl, Ex.same, Nat.beq, mid_go, mid_ok, look_mid, set_mid, List.set_cons_zero, List.set_cons_succ, hw, tst3]
    try simp (disch := omega) only [wrap_k]
    try simp (disch := omega) only [wrap_v] at hk
    exact hk
  · simp -implicitDefEqProofs only [rdl, Ex.same, Nat.beq]
    exact Evt.ret
termination_by W
decreasing_by all_goals (try have := wt_at hx); (try simp only [wtRow, wtD] at *); omega
theorem f125 {l : Rows} (hl : SL E 78 l) (k : Int) (h0 : 0 ≤ k) (hk : k + (cnRows l : Nat) < K62) : Ev fs 125 [.d (.s 5 l), .d (.v (.int .i64 k))] ⟨.d (.v (.int .i64 (k + (cnRows l : Nat)))), [.d (.s 5 (mkRows l k))]⟩ := fr125 hl k h0 hk _ rfl
/- loop.example/g00119/laws.markOpS -/
theorem f192 {l : Rows} (hl : SL E 276 l) (k : Int) (h0 : 0 ≤ k) (hk : k + (cnRows l : Nat) < K62) : Ev fs 192 [.d (.s 7 l), .d (.v (.int .i64 k))] ⟨.d (.v (.int .i64 (k + (cnRows l : Nat)))), [.d (.s 7 (mkRows l k))]⟩ := by
  refine Ev.of (af := a192) rfl rfl (Evt.congr (fun d n => a192q ..) ?_)
  refine ev_aft (L := fun d n => l192x0 (TabD fs d) d n [.o 7 l, .v (.int .i64 k), .v (.int .i64 0)]) (mark_loop (L := fun d n l k i => l192x0 (TabD fs d) d n [.o 7 l, .v (.int .i64 k), .v (.int .i64 i)]) (Y := fun l k => (.exit 0, [.o 7 l, .v (.int .i64 k)])) h0 hk (fun d n l' k' hl' => ?_) (fun pre x post k res hx hp k0 k1 hk => ?_)) ?_
  · rw [l192x0s]
    simp -implicitDefEqProofs only [rdl, Ex.same, Nat.beq, hl', Int.lt_irrefl, decide_false]
  · have h := hl.at hx
    have h' := h
    obtain ⟨na0, la1, na2, sa3, na4, la5, la6, rfl, pa0, pa1, pa2, pa3, pa4, pa5, pa6⟩ := I276 h
    have hw : IntKind.i64.wrap ((pre.length : Int) + 1) = ((pre.length + 1 : Nat) : Int) := wrap_succ (m := l.length) (by omega) hl.1
    simp only [mkRow, mkV, cnRow, Nat.add_zero, Int.natCast_add, Int.cast_ofNat_Int, ← Int.add_assoc] at k1 hk
    simp only [l192x0s]
    simp -implicitDefEqProofs only [rdl, Ex.same, Nat.beq, mid_go, mid_ok, look_mid, set_mid, List.set_cons_zero, List.set_cons_succ, hw, tst3]
    try simp (disch := omega) only [wrap_k]
    refine ev_call (f61 (by assumption) _ (by omega) (by omega)) ?_
    simp -implicitDefEqProofs only [rdl, Ex.same, Nat.beq, mid_go, mid_ok, look_mid, set_mid, List.set_cons_zero, List.set_cons_succ, hw, tst3]
    try simp (disch := omega) only [wrap_k]
    refine ev_call (f122 _ (by omega) (by omega)) ?_
    simp -implicitDefEqProofs only [rdl, Ex.same, Nat.beq, mid_go, mid_ok, look_mid, set_mid, List.set_cons_zero, List.set_cons_succ, hw, tst3]
    try simp (disch := omega) only [wrap_k]
    refine ev_call (f61 (by assumption) _ (by omega) (by omega)) ?_
    simp -implicitDefEqProofs only [rdl, Ex.same, Nat.beq, mid_go, mid_ok, look_mid, set_mid, List.set_cons_zero, List.set_cons_succ, hw, tst3]
    try simp (disch := omega) only [wrap_k]
    refine ev_call (f125 (by assumption) _ (by omega) (by omega)) ?_
    simp -implicitDefEqProofs only [rdl, Ex.same, Nat.beq, mid_go, mid_ok, look_mid, set_mid, List.set_cons_zero, List.set_cons_succ, hw, tst3]
    try simp (disch := omega) only [wrap_k]
    try simp (disch := omega) only [wrap_v] at hk
    exact hk
  · simp -implicitDefEqProofs only [rdl, Ex.same, Nat.beq]
    exact Evt.ret
/- loop.example/g00119/laws.markOverS -/
theorem f126 {l : Rows} (hl : SL E 216 l) (k : Int) (h0 : 0 ≤ k) (hk : k + (cnRows l : Nat) < K62) : Ev fs 126 [.d (.s 2 l), .d (.v (.int .i64 k))] ⟨.d (.v (.int .i64 (k + (cnRows l : Nat)))), [.d (.s 2 (mkRows l k))]⟩ := by
  refine Ev.of (af := a126) rfl rfl (Evt.congr (fun d n => a126q ..) ?_)
  refine ev_aft (L := fun d n => l126x0 (TabD fs d) d n [.o 2 l, .v (.int .i64 k), .v (.int .i64 0)]) (mark_loop (L := fun d n l k i => l126x0 (TabD fs d) d n [.o 2 l, .v (.int .i64 k), .v (.int .i64 i)]) (Y := fun l k => (.exit 0, [.o 2 l, .v (.int .i64 k)])) h0 hk (fun d n l' k' hl' => ?_) (fun pre x post k res hx hp k0 k1 hk => ?_)) ?_
  · rw [l126x0s]
    simp -implicitDefEqProofs only [rdl, Ex.same, Nat.beq, hl', Int.lt_irrefl, decide_false]
  · have h := hl.at hx
    have h' := h
    obtain ⟨sa0, la1, rfl, pa0, pa1⟩ := I216 h
    have hw : IntKind.i64.wrap ((pre.length : Int) + 1) = ((pre.length + 1 : Nat) : Int) := wrap_succ (m := l.length) (by omega) hl.1
    simp only [mkRow, mkV, cnRow, Nat.add_zero, Int.natCast_add, Int.cast_ofNat_Int, ← Int.add_assoc] at k1 hk
    simp only [l126x0s]
    simp -implicitDefEqProofs only [rdl, Ex.same, Nat.beq, mid_go, mid_ok, look_mid, set_mid, List.set_cons_zero, List.set_cons_succ, hw, tst3]
    try simp (disch := omega) only [wrap_k]
    refine ev_call (f122 _ (by omega) (by omega)) ?_
    simp -implicitDefEqProofs only [rdl, Ex.same, Nat.beq, mid_go, mid_ok, look_mid, set_mid, List.set_cons_zero, List.set_cons_succ, hw, tst3]
    try simp (disch := omega) only [wrap_k]
    refine ev_call (f192 (by assumption) _ (by omega) (by omega)) ?_
    simp -implicitDefEqProofs only [rdl, Ex.same, Nat.beq, mid_go, mid_ok, look_mid, set_mid, List.set_cons_zero, List.set_cons_succ, hw, tst3]
    try simp (disch := omega) only [wrap_k]
    try simp (disch := omega) only [wrap_v] at hk
    exact hk
  · simp -implicitDefEqProofs only [rdl, Ex.same, Nat.beq]
    exact Evt.ret
/- loop.example/g00119/laws.markJobS -/
theorem f58 {l : Rows} (hl : SL E 113 l) (k : Int) (h0 : 0 ≤ k) (hk : k + (cnRows l : Nat) < K62) : Ev fs 58 [.d (.s 13 l), .d (.v (.int .i64 k))] ⟨.d (.v (.int .i64 (k + (cnRows l : Nat)))), [.d (.s 13 (mkRows l k))]⟩ := by
  refine Ev.of (af := a58) rfl rfl (Evt.congr (fun d n => a58q ..) ?_)
  refine ev_aft (L := fun d n => l58x0 (TabD fs d) d n [.o 13 l, .v (.int .i64 k), .v (.int .i64 0)]) (mark_loop (L := fun d n l k i => l58x0 (TabD fs d) d n [.o 13 l, .v (.int .i64 k), .v (.int .i64 i)]) (Y := fun l k => (.exit 0, [.o 13 l, .v (.int .i64 k)])) h0 hk (fun d n l' k' hl' => ?_) (fun pre x post k res hx hp k0 k1 hk => ?_)) ?_
  · rw [l58x0s]
    simp -implicitDefEqProofs only [rdl, Ex.same, Nat.beq, hl', Int.lt_irrefl, decide_false]
  · have h := hl.at hx
    have h' := h
    obtain ⟨na0, sa1, na2, la3, la4, la5, na6, sa7, na8, la9, la10, la11, ba12, rfl, pa0, pa1, pa2, pa3, pa4, pa5, pa6, pa7, pa8, pa9, pa10, pa11⟩ := I113 h
    have hw : IntKind.i64.wrap ((pre.length : Int) + 1) = ((pre.length + 1 : Nat) : Int) := wrap_succ (m := l.length) (by omega) hl.1
    simp only [mkRow, mkV, cnRow, Nat.add_zero, Int.natCast_add, Int.cast_ofNat_Int, ← Int.add_assoc] at k1 hk
    simp only [l58x0s]
    simp -implicitDefEqProofs only [rdl, Ex.same, Nat.beq, mid_go, mid_ok, look_mid, set_mid, List.set_cons_zero, List.set_cons_succ, hw, tst3]
    try simp (disch := omega) only [wrap_k]
    refine ev_call (f122 _ (by omega) (by omega)) ?_
    simp -implicitDefEqProofs only [rdl, Ex.same, Nat.beq, mid_go, mid_ok, look_mid, set_mid, List.set_cons_zero, List.set_cons_succ, hw, tst3]
    try simp (disch := omega) only [wrap_k]
    refine ev_call (f123 (by assumption) _ (by omega) (by omega)) ?_
    simp -implicitDefEqProofs only [rdl, Ex.same, Nat.beq, mid_go, mid_ok, look_mid, set_mid, List.set_cons_zero, List.set_cons_succ, hw, tst3]
    try simp (disch := omega) only [wrap_k]
    refine ev_call (f61 (by assumption) _ (by omega) (by omega)) ?_
    simp -implicitDefEqProofs only [rdl, Ex.same, Nat.beq, mid_go, mid_ok, look_mid, set_mid, List.set_cons_zero, List.set_cons_succ, hw, tst3]
    try simp (disch := omega) only [wrap_k]
    refine ev_call (f124 (by assumption) _ (by omega) (by omega)) ?_
    simp -implicitDefEqProofs only [rdl, Ex.same, Nat.beq, mid_go, mid_ok, look_mid, set_mid, List.set_cons_zero, List.set_cons_succ, hw, tst3]
    try simp (disch := omega) only [wrap_k]
    refine ev_call (f122 _ (by omega) (by omega)) ?_
    simp -implicitDefEqProofs only [rdl, Ex.same, Nat.beq, mid_go, mid_ok, look_mid, set_mid, List.set_cons_zero, List.set_cons_succ, hw, tst3]
    try simp (disch := omega) only [wrap_k]
    refine ev_call (f61 (by assumption) _ (by omega) (by omega)) ?_
    simp -implicitDefEqProofs only [rdl, Ex.same, Nat.beq, mid_go, mid_ok, look_mid, set_mid, List.set_cons_zero, List.set_cons_succ, hw, tst3]
    try simp (disch := omega) only [wrap_k]
    refine ev_call (f125 (by assumption) _ (by omega) (by omega)) ?_
    simp -implicitDefEqProofs only [rdl, Ex.same, Nat.beq, mid_go, mid_ok, look_mid, set_mid, List.set_cons_zero, List.set_cons_succ, hw, tst3]
    try simp (disch := omega) only [wrap_k]
    refine ev_call (f126 (by assumption) _ (by omega) (by omega)) ?_
    simp -implicitDefEqProofs only [rdl, Ex.same, Nat.beq, mid_go, mid_ok, look_mid, set_mid, List.set_cons_zero, List.set_cons_succ, hw, tst3]
    try simp (disch := omega) only [wrap_k]
    try simp (disch := omega) only [wrap_v] at hk
    exact hk
  · simp -implicitDefEqProofs only [rdl, Ex.same, Nat.beq]
    exact Evt.ret
/- loop.example/g00119/laws.markLabelS -/
theorem f127 {l : Rows} (hl : SL E 262 l) (k : Int) (h0 : 0 ≤ k) (hk : k + (cnRows l : Nat) < K62) : Ev fs 127 [.d (.s 2 l), .d (.v (.int .i64 k))] ⟨.d (.v (.int .i64 (k + (cnRows l : Nat)))), [.d (.s 2 (mkRows l k))]⟩ := by
  refine Ev.of (af := a127) rfl rfl (Evt.congr (fun d n => a127q ..) ?_)
  refine ev_aft (L := fun d n => l127x0 (TabD fs d) d n [.o 2 l, .v (.int .i64 k), .v (.int .i64 0)]) (mark_loop (L := fun d n l k i => l127x0 (TabD fs d) d n [.o 2 l, .v (.int .i64 k), .v (.int .i64 i)]) (Y := fun l k => (.exit 0, [.o 2 l, .v (.int .i64 k)])) h0 hk (fun d n l' k' hl' => ?_) (fun pre x post k res hx hp k0 k1 hk => ?_)) ?_
  · rw [l127x0s]
    simp -implicitDefEqProofs only [rdl, Ex.same, Nat.beq, hl', Int.lt_irrefl, decide_false]
  · have h := hl.at hx
    have h' := h
    obtain ⟨sa0, sa1, rfl, pa0, pa1⟩ := I262 h
    have hw : IntKind.i64.wrap ((pre.length : Int) + 1) = ((pre.length + 1 : Nat) : Int) := wrap_succ (m := l.length) (by omega) hl.1
    simp only [mkRow, mkV, cnRow, Nat.add_zero, Int.natCast_add, Int.cast_ofNat_Int, ← Int.add_assoc] at k1 hk
    simp only [l127x0s]
    simp -implicitDefEqProofs only [rdl, Ex.same, Nat.beq, mid_go, mid_ok, look_mid, set_mid, List.set_cons_zero, List.set_cons_succ, hw, tst3]
    try simp (disch := omega) only [wrap_k]
    refine ev_call (f122 _ (by omega) (by omega)) ?_
    simp -implicitDefEqProofs only [rdl, Ex.same, Nat.beq, mid_go, mid_ok, look_mid, set_mid, List.set_cons_zero, List.set_cons_succ, hw, tst3]
    try simp (disch := omega) only [wrap_k]
    refine ev_call (f122 _ (by omega) (by omega)) ?_
    simp -implicitDefEqProofs only [rdl, Ex.same, Nat.beq, mid_go, mid_ok, look_mid, set_mid, List.set_cons_zero, List.set_cons_succ, hw, tst3]
    try simp (disch := omega) only [wrap_k]
    try simp (disch := omega) only [wrap_v] at hk
    exact hk
  · simp -implicitDefEqProofs only [rdl, Ex.same, Nat.beq]
    exact Evt.ret
/- loop.example/g00119/laws.markPostS -/
theorem f59 {l : Rows} (hl : SL E 184 l) (k : Int) (h0 : 0 ≤ k) (hk : k + (cnRows l : Nat) < K62) : Ev fs 59 [.d (.s 6 l), .d (.v (.int .i64 k))] ⟨.d (.v (.int .i64 (k + (cnRows l : Nat)))), [.d (.s 6 (mkRows l k))]⟩ := by
  refine Ev.of (af := a59) rfl rfl (Evt.congr (fun d n => a59q ..) ?_)
  refine ev_aft (L := fun d n => l59x0 (TabD fs d) d n [.o 6 l, .v (.int .i64 k), .v (.int .i64 0)]) (mark_loop (L := fun d n l k i => l59x0 (TabD fs d) d n [.o 6 l, .v (.int .i64 k), .v (.int .i64 i)]) (Y := fun l k => (.exit 0, [.o 6 l, .v (.int .i64 k)])) h0 hk (fun d n l' k' hl' => ?_) (fun pre x post k res hx hp k0 k1 hk => ?_)) ?_
  · rw [l59x0s]
    simp -implicitDefEqProofs only [rdl, Ex.same, Nat.beq, hl', Int.lt_irrefl, decide_false]
  · have h := hl.at hx
    have h' := h
    obtain ⟨sa0, la1, la2, na3, na4, na5, rfl, pa0, pa1, pa2, pa3, pa4, pa5⟩ := I184 h
    have hw : IntKind.i64.wrap ((pre.length : Int) + 1) = ((pre.length + 1 : Nat) : Int) := wrap_succ (m := l.length) (by omega) hl.1
    simp only [mkRow, mkV, cnRow, Nat.add_zero, Int.natCast_add, Int.cast_ofNat_Int, ← Int.add_assoc] at k1 hk
    simp only [l59x0s]
    simp -implicitDefEqProofs only [rdl, Ex.same, Nat.beq, mid_go, mid_ok, look_mid, set_mid, List.set_cons_zero, List.set_cons_succ, hw, tst3]
    try simp (disch := omega) only [wrap_k]
    refine ev_call (f122 _ (by omega) (by omega)) ?_
    simp -implicitDefEqProofs only [rdl, Ex.same, Nat.beq, mid_go, mid_ok, look_mid, set_mid, List.set_cons_zero, List.set_cons_succ, hw, tst3]
    try simp (disch := omega) only [wrap_k]
    refine ev_call (f127 (by assumption) _ (by omega) (by omega)) ?_
    simp -implicitDefEqProofs only [rdl, Ex.same, Nat.beq, mid_go, mid_ok, look_mid, set_mid, List.set_cons_zero, List.set_cons_succ, hw, tst3]
    try simp (disch := omega) only [wrap_k]
    refine ev_call (f61 (by assumption) _ (by omega) (by omega)) ?_
    simp -implicitDefEqProofs only [rdl, Ex.same, Nat.beq, mid_go, mid_ok, look_mid, set_mid, List.set_cons_zero, List.set_cons_succ, hw, tst3]
    try simp (disch := omega) only [wrap_k]
    try simp (disch := omega) only [wrap_v] at hk
    exact hk
  · simp -implicitDefEqProofs only [rdl, Ex.same, Nat.beq]
    exact Evt.ret
/- loop.example/g00119/laws.markHoldS -/
theorem f60 {l : Rows} (hl : SL E 181 l) (k : Int) (h0 : 0 ≤ k) (hk : k + (cnRows l : Nat) < K62) : Ev fs 60 [.d (.s 5 l), .d (.v (.int .i64 k))] ⟨.d (.v (.int .i64 (k + (cnRows l : Nat)))), [.d (.s 5 (mkRows l k))]⟩ := by
  refine Ev.of (af := a60) rfl rfl (Evt.congr (fun d n => a60q ..) ?_)
  refine ev_aft (L := fun d n => l60x0 (TabD fs d) d n [.o 5 l, .v (.int .i64 k), .v (.int .i64 0)]) (mark_loop (L := fun d n l k i => l60x0 (TabD fs d) d n [.o 5 l, .v (.int .i64 k), .v (.int .i64 i)]) (Y := fun l k => (.exit 0, [.o 5 l, .v (.int .i64 k)])) h0 hk (fun d n l' k' hl' => ?_) (fun pre x post k res hx hp k0 k1 hk => ?_)) ?_
  · rw [l60x0s]
    simp -implicitDefEqProofs only [rdl, Ex.same, Nat.beq, hl', Int.lt_irrefl, decide_false]
  · have h := hl.at hx
    have h' := h
    obtain ⟨na0, sa1, na2, na3, na4, rfl, pa0, pa1, pa2, pa3, pa4⟩ := I181 h
    have hw : IntKind.i64.wrap ((pre.length : Int) + 1) = ((pre.length + 1 : Nat) : Int) := wrap_succ (m := l.length) (by omega) hl.1
    simp only [mkRow, mkV, cnRow, Nat.add_zero, Int.natCast_add, Int.cast_ofNat_Int, ← Int.add_assoc] at k1 hk
    simp only [l60x0s]
    simp -implicitDefEqProofs only [rdl, Ex.same, Nat.beq, mid_go, mid_ok, look_mid, set_mid, List.set_cons_zero, List.set_cons_succ, hw, tst3]
    try simp (disch := omega) only [wrap_k]
    refine ev_call (f122 _ (by omega) (by omega)) ?_
    simp -implicitDefEqProofs only [rdl, Ex.same, Nat.beq, mid_go, mid_ok, look_mid, set_mid, List.set_cons_zero, List.set_cons_succ, hw, tst3]
    try simp (disch := omega) only [wrap_k]
    try simp (disch := omega) only [wrap_v] at hk
    exact hk
  · simp -implicitDefEqProofs only [rdl, Ex.same, Nat.beq]
    exact Evt.ret
/- loop.example/g00119/laws.markHub -/
theorem f18 {row : Row} (h : ShL E (E 39) row) (k : Int) (h0 : 0 ≤ k) (hk : k + (cnTop row : Nat) < K62) : Ev fs 18 [.g row, .d (.v (.int .i64 k))] ⟨.d (.v (.int .i64 (k + (cnTop row : Nat)))), [.g (mkTop row k)]⟩ := by
  obtain ⟨na0, na1, na2, la3, la4, la5, la6, rfl, pa0, pa1, pa2, pa3, pa4, pa5, pa6⟩ := I39 h
  simp only [mkTop, cnTop, Nat.add_zero, Int.natCast_add, ← Int.add_assoc] at hk ⊢
  refine Ev.of (af := a18) rfl rfl (Evt.congr (fun d n => a18q ..) ?_)
  refine ev_call (f58 (by assumption) _ (by omega) (by first | omega | (simp only [cnTop, Nat.add_zero, Int.natCast_add, ← Int.add_assoc]; omega))) ?_
  simp -implicitDefEqProofs only [rdl, Ex.same, Nat.beq, mkTop]
  try simp only [mkTop, cnTop, Nat.add_zero, Int.natCast_add, ← Int.add_assoc]
  refine ev_call (f59 (by assumption) _ (by omega) (by first | omega | (simp only [cnTop, Nat.add_zero, Int.natCast_add, ← Int.add_assoc]; omega))) ?_
  simp -implicitDefEqProofs only [rdl, Ex.same, Nat.beq, mkTop]
  try simp only [mkTop, cnTop, Nat.add_zero, Int.natCast_add, ← Int.add_assoc]
  refine ev_call (f60 (by assumption) _ (by omega) (by first | omega | (simp only [cnTop, Nat.add_zero, Int.natCast_add, ← Int.add_assoc]; omega))) ?_
  simp -implicitDefEqProofs only [rdl, Ex.same, Nat.beq, mkTop]
  try simp only [mkTop, cnTop, Nat.add_zero, Int.natCast_add, ← Int.add_assoc]
  refine ev_call (f61 (by assumption) _ (by omega) (by first | omega | (simp only [cnTop, Nat.add_zero, Int.natCast_add, ← Int.add_assoc]; omega))) ?_
  simp -implicitDefEqProofs only [rdl, Ex.same, Nat.beq, mkTop]
  try simp only [mkTop, cnTop, Nat.add_zero, Int.natCast_add, ← Int.add_assoc]
  exact Evt.ret
/- loop.example/g00119/laws.markIntS -/
theorem f19 {l : Rows} (hl : SL E 3 l) (k : Int) (h0 : 0 ≤ k) (hk : k + (cnRows l : Nat) < K62) : Ev fs 19 [.d (.s 1 l), .d (.v (.int .i64 k))] ⟨.d (.v (.int .i64 (k + (cnRows l : Nat)))), [.d (.s 1 (mkRows l k))]⟩ := by
  refine Ev.of (af := a19) rfl rfl (Evt.congr (fun d n => a19q ..) ?_)
  refine ev_aft (L := fun d n => l19x0 (TabD fs d) d n [.o 1 l, .v (.int .i64 k), .v (.int .i64 0)]) (mark_loop (L := fun d n l k i => l19x0 (TabD fs d) d n [.o 1 l, .v (.int .i64 k), .v (.int .i64 i)]) (Y := fun l k => (.exit 0, [.o 1 l, .v (.int .i64 k)])) h0 hk (fun d n l' k' hl' => ?_) (fun pre x post k res hx hp k0 k1 hk => ?_)) ?_
  · rw [l19x0s]
    simp -implicitDefEqProofs only [rdl, Ex.same, Nat.beq, hl', Int.lt_irrefl, decide_false]
  · have h := hl.at hx
    have h' := h
    obtain ⟨na0, rfl, pa0⟩ := I3 h
    have hw : IntKind.i64.wrap ((pre.length : Int) + 1) = ((pre.length + 1 : Nat) : Int) := wrap_succ (m := l.length) (by omega) hl.1
    simp only [mkRow, mkV, cnRow, Nat.add_zero, Int.natCast_add, Int.cast_ofNat_Int, ← Int.add_assoc] at k1 hk
    simp only [l19x0s]
    simp -implicitDefEqProofs only [rdl, Ex.same, Nat.beq, mid_go, mid_ok, look_mid, set_mid, List.set_cons_zero, List.set_cons_succ, hw, tst3]
    try simp (disch := omega) only [wrap_k]
    try simp (disch := omega) only [wrap_v] at hk
    exact hk
  · simp -implicitDefEqProofs only [rdl, Ex.same, Nat.beq]
    exact Evt.ret
end Go.Am.Lk
