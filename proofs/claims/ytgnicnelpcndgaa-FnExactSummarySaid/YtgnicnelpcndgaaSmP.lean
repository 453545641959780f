/- What Summary's own functions say in the end: numbers as text, sums over what is held, the lines. Nothing is assumed. -/
import Derived.Test.YtgnicnelpcndgaaSmH
import Derived.Test.YtgnicnelpcndgaaAmText
namespace Go.Am.Sm
set_option linter.unusedVariables false
set_option linter.unusedSimpArgs false
set_option maxRecDepth 8000
def cN (x : Row) (c : Nat) : Int := match x[c]? with
  | some (.v (.int _ n)) => n
  | _ => 0
def cT (x : Row) (c : Nat) : ByteArray := match x[c]? with
  | some (.v (.string s)) => s
  | _ => ByteArray.empty
def cE (x : Row) (c : Nat) : Bool := match x[c]? with
  | some (.v (.bool b)) => b
  | _ => false
def addIf (b : Row → Bool) (f : Row → Int) (acc : Int) (x : Row) : Int := bif b x then IntKind.i64.wrap (acc + f x) else acc
def sumIf (b : Row → Bool) (f : Row → Int) (l : Rows) : Int := l.foldl (addIf b f) 0
abbrev Fits (n : Int) : Prop := IntKind.i64.min ≤ n ∧ n ≤ IntKind.i64.max
theorem wrap_fits (n : Int) : Fits (IntKind.i64.wrap n) := by
  simp only [Fits, IntKind.min, IntKind.max, IntKind.wrap, IntKind.signed, IntKind.bits]
  simp
  omega
theorem sum_fits (b : Row → Bool) (f : Row → Int) (l : Rows) : Fits (sumIf b f l) := by
  have key : ∀ (l : Rows) (acc : Int), Fits acc → Fits (l.foldl (addIf b f) acc) := by
    intro l
    induction l with
    | nil => intro acc h; exact h
    | cons x l ih =>
      intro acc h
      refine ih _ ?_
      unfold addIf
      cases b x with
      | true => exact wrap_fits _
      | false => exact h
  exact key l 0 (by simp [Fits, IntKind.min, IntKind.max, IntKind.signed, IntKind.bits])
theorem fold_pair {b b' : Row → Bool} {f f' : Row → Int} (l : Rows) : ∀ (u v : Int), l.foldl (fun p x => (addIf b f p.1 x, addIf b' f' p.2 x)) (u, v) = (l.foldl (addIf b f) u, l.foldl (addIf b' f') v) := by
  induction l with
  | nil => intro u v; rfl
  | cons x l ih => intro u v; exact ih _ _
def ofUid (u : Int) (x : Row) : Bool := cN x 0 == u
def ofName (s : ByteArray) (x : Row) : Bool := bytesEq (cT x 1) s
def isGone (s : ByteArray) (x : Row) : Bool := bytesEq (cT x 1) s && decide (cN x 4 > 0)
/-! ### numbers as text -/
theorem int_loop (s : ByteArray) : ∀ (k x : Nat), x < 10 ^ (k + 1) → x < 2 ^ 64 → k ≤ 40 → ∀ dd : ByteArray, dd.size + k ≤ 40 →
    ∃ (x' : Nat) (dd' : ByteArray), x' < 10 ∧ one (48 + x') ++ dd' = dg x ++ dd ∧ dd'.size ≤ 40 ∧
      Evt (fun d n => l80x0 (TabD fs d) d n [.v (.int .u64 x), .v (.string s), .v (.string dd)]) (.exit 0, [.v (.int .u64 x'), .v (.string s), .v (.string dd')]) := by
  intro k
  induction k with
  | zero =>
    intro x hx _ _ dd hdd
    have hx' : x < 10 := by omega
    refine ⟨x, dd, hx', by rw [dg_small hx'], by omega, ev_succ ?_⟩
    simp only [l80x0s]
    simp only [cI, cB, cS, cL, oD_d, oG_g, oT_t, oP_p, dI_v, dB_v, dS_v, dL_s, cell_z, cell_s, nth_z, nth_s, aV_z, aV_s, aI_v, aB_v, aS_v, aL_f, aO_o, aX_b, tst_t, cond_true, cond_false, Ex.same, Nat.beq, List.length_cons, List.length_nil, Int.toNat_natCast, show decide ((x : Int) ≥ 10) = false from by simp; omega]
    exact Evt.ret
  | succ k ih =>
    intro x hx h64 hk dd hdd
    rcases Nat.lt_or_ge x 10 with hx' | hx'
    · refine ⟨x, dd, hx', by rw [dg_small hx'], by omega, ev_succ ?_⟩
      simp only [l80x0s]
      simp only [cI, cB, cS, cL, oD_d, oG_g, oT_t, oP_p, dI_v, dB_v, dS_v, dL_s, cell_z, cell_s, nth_z, nth_s, aV_z, aV_s, aI_v, aB_v, aS_v, aL_f, aO_o, aX_b, tst_t, cond_true, cond_false, Ex.same, Nat.beq, List.length_cons, List.length_nil, Int.toNat_natCast, show decide ((x : Int) ≥ 10) = false from by simp; omega]
      exact Evt.ret
    · have hm : x % 10 < 10 := Nat.mod_lt _ (by omega)
      obtain ⟨x', dd', h1, h2, h3, h4⟩ := ih (x / 10) (by rw [Nat.pow_succ] at hx; omega) (by omega) (by omega) (one (48 + x % 10) ++ dd) (by rw [ByteArray.size_append, one_size]; omega)
      refine ⟨x', dd', h1, by rw [h2, dg_big hx', ByteArray.append_assoc], h3, ev_succ ?_⟩
      have e1 : Int.tmod (x : Int) 10 = ((x % 10 : Nat) : Int) := by rw [Int.tmod_eq_emod_of_nonneg (by omega)]; omega
      have e2 : IntKind.u64.wrap (Int.tdiv (x : Int) 10) = ((x / 10 : Nat) : Int) := by
        rw [Int.tdiv_eq_ediv_of_nonneg (by omega)]
        rw [wrap_u64 (by omega) (by omega)]
        omega
      simp only [l80x0s, e1, e2, dig_u8 hm]
      simp only [cI, cB, cS, cL, oD_d, oG_g, oT_t, oP_p, dI_v, dB_v, dS_v, dL_s, cell_z, cell_s, nth_z, nth_s, aV_z, aV_s, aI_v, aB_v, aS_v, aL_f, aO_o, aX_b, tst_t, cond_true, cond_false, Ex.same, Nat.beq, List.length_cons, List.length_nil, Int.toNat_natCast, show decide ((x : Int) ≥ 10) = true from by simp; omega, show decide ((10 : Nat) ≠ 0) = true from rfl, all_one, bytes_one]
      refine ev_tst (sz_le (by have h1 := one_size (48 + x % 10); have h2 : maxLen = 9223372036854775807 := rfl; omega)) ?_
      exact h4
theorem f80 {n : Int} (h : Fits n) : Ev fs 80 [.d (.v (.int .i64 n))] ⟨.d (.v (.string (decS n))), []⟩ := by
  have h' := h
  simp only [Fits, IntKind.min, IntKind.max, IntKind.signed, IntKind.bits] at h'
  simp at h'
  refine Ev.of (af := a80) rfl rfl (Evt.congr (fun d n => a80q ..) ?_)
  refine ev_if (fun hc => ?_) (fun hc => ?_)
  · have hn : n < 0 := by simpa using hc
    have e1 : IntKind.u64.wrap (IntKind.u64.wrap (IntKind.i64.wrap (0 - IntKind.i64.wrap (n + 1))) + 1) = ((n.natAbs : Nat) : Int) := by
      rw [wrap_i64 (n := n + 1) (by omega) (by omega), wrap_i64 (by omega) (by omega), wrap_u64 (n := 0 - (n + 1)) (by omega) (by omega), wrap_u64 (by omega) (by omega)]
      omega
    obtain ⟨x', dd', h1, h2, h3, h4⟩ := int_loop ⟨#[45]⟩ 20 n.natAbs (by omega) (by omega) (by omega) ⟨#[]⟩ (by decide)
    rw [e1]
    refine ev_aft (L := fun d m => l80x0 (TabD fs d) d m [.v (.int .u64 (n.natAbs : Nat)), .v (.string ⟨#[45]⟩), .v (.string ⟨#[]⟩)]) h4 ?_
    simp only [cI, cB, cS, cL, oD_d, oG_g, oT_t, oP_p, dI_v, dB_v, dS_v, dL_s, cell_z, cell_s, nth_z, nth_s, aV_z, aV_s, aI_v, aB_v, aS_v, aL_f, aO_o, aX_b, tst_t, cond_true, cond_false, Ex.same, Nat.beq, List.length_cons, List.length_nil, Int.toNat_natCast, dig_u8 h1, all_one, bytes_one]
    have hz : (⟨#[45]⟩ : ByteArray).size = 1 := rfl
    refine ev_tst (sz_le (by rw [hz, one_size]; decide)) ?_
    refine ev_tst (sz_le (by rw [ByteArray.size_append, hz, one_size]; simp only [maxLen]; omega)) ?_
    refine Evt.ret' ?_
    have he : (⟨#[]⟩ : ByteArray) = ByteArray.empty := rfl
    simp only [decS, hn, if_true]
    rw [ByteArray.append_assoc, h2, he, ByteArray.append_empty]
    rfl
  · have hn : ¬ n < 0 := by simpa using hc
    have e1 : IntKind.u64.wrap n = ((n.natAbs : Nat) : Int) := by
      rw [wrap_u64 (by omega) (by omega)]
      omega
    obtain ⟨x', dd', h1, h2, h3, h4⟩ := int_loop ⟨#[]⟩ 20 n.natAbs (by omega) (by omega) (by omega) ⟨#[]⟩ (by decide)
    rw [e1]
    refine ev_aft (L := fun d m => l80x0 (TabD fs d) d m [.v (.int .u64 (n.natAbs : Nat)), .v (.string ⟨#[]⟩), .v (.string ⟨#[]⟩)]) h4 ?_
    simp only [cI, cB, cS, cL, oD_d, oG_g, oT_t, oP_p, dI_v, dB_v, dS_v, dL_s, cell_z, cell_s, nth_z, nth_s, aV_z, aV_s, aI_v, aB_v, aS_v, aL_f, aO_o, aX_b, tst_t, cond_true, cond_false, Ex.same, Nat.beq, List.length_cons, List.length_nil, Int.toNat_natCast, dig_u8 h1, all_one, bytes_one]
    have hz : (⟨#[]⟩ : ByteArray).size = 0 := rfl
    refine ev_tst (sz_le (by rw [hz, one_size]; decide)) ?_
    refine ev_tst (sz_le (by rw [ByteArray.size_append, hz, one_size]; simp only [maxLen]; omega)) ?_
    refine Evt.ret' ?_
    have he : (⟨#[]⟩ : ByteArray) = ByteArray.empty := rfl
    simp only [decS, hn, if_false]
    rw [he, ByteArray.empty_append, h2, he, ByteArray.append_empty]
theorem dec_pos : ∀ (k n : Nat), n ≤ k → n < 2 ^ 63 → Ev fs 83 [.d (.v (.int .i64 (n : Int)))] ⟨.d (.v (.string (dg n))), []⟩ := by
  intro k
  induction k with
  | zero =>
    intro n hn h63
    have hn0 : n = 0 := by omega
    subst hn0
    refine Ev.of (af := a83) rfl rfl (Evt.congr (fun d n => a83q ..) ?_)
    simp only [cI, cB, cS, cL, oD_d, oG_g, oT_t, oP_p, dI_v, dB_v, dS_v, dL_s, cell_z, cell_s, nth_z, nth_s, aV_z, aV_s, aI_v, aB_v, aS_v, aL_f, aO_o, aX_b, tst_t, cond_true, cond_false, Ex.same, Nat.beq, List.length_cons, List.length_nil, Int.toNat_natCast, beq_t, show decide (((0 : Nat) : Int) < 0) = false from rfl, show decide (((0 : Nat) : Int) < 10) = true from rfl, dig_i32 (m := 0) (by omega), enc_one (c := 48 + 0) (by omega)]
    rw [dg_small (by omega)]
    exact Evt.ret
  | succ k ih =>
    intro n hn h63
    refine Ev.of (af := a83) rfl rfl (Evt.congr (fun d n => a83q ..) ?_)
    have c0 : decide ((n : Int) < 0) = false := by simp
    rcases Nat.lt_or_ge n 10 with h | h
    · simp only [cI, cB, cS, cL, oD_d, oG_g, oT_t, oP_p, dI_v, dB_v, dS_v, dL_s, cell_z, cell_s, nth_z, nth_s, aV_z, aV_s, aI_v, aB_v, aS_v, aL_f, aO_o, aX_b, tst_t, cond_true, cond_false, Ex.same, Nat.beq, List.length_cons, List.length_nil, Int.toNat_natCast, beq_t, c0, show decide ((n : Int) < 10) = true from by simp; omega, dig_i32 h, enc_one (c := 48 + n) (by omega)]
      rw [dg_small h]
      exact Evt.ret
    · have hm : n % 10 < 10 := Nat.mod_lt _ (by omega)
      have e1 : Int.tmod (n : Int) 10 = ((n % 10 : Nat) : Int) := by rw [Int.tmod_eq_emod_of_nonneg (by omega)]; omega
      have e2 : IntKind.i64.wrap (Int.tdiv (n : Int) 10) = ((n / 10 : Nat) : Int) := by
        rw [Int.tdiv_eq_ediv_of_nonneg (by omega)]
        rw [wrap_i64 (by omega) (by omega)]
        omega
      simp only [cI, cB, cS, cL, oD_d, oG_g, oT_t, oP_p, dI_v, dB_v, dS_v, dL_s, cell_z, cell_s, nth_z, nth_s, aV_z, aV_s, aI_v, aB_v, aS_v, aL_f, aO_o, aX_b, tst_t, cond_true, cond_false, Ex.same, Nat.beq, List.length_cons, List.length_nil, Int.toNat_natCast, beq_t, c0, show decide ((n : Int) < 10) = false from by simp; omega, e1, e2, dig_i32 hm, enc_one (c := 48 + n % 10) (by omega), show decide ((10 : Nat) ≠ 0) = true from rfl]
      refine ev_call (ih (n / 10) (by omega) (by omega)) ?_
      simp only [cI, cB, cS, cL, oD_d, oG_g, oT_t, oP_p, dI_v, dB_v, dS_v, dL_s, cell_z, cell_s, nth_z, nth_s, aV_z, aV_s, aI_v, aB_v, aS_v, aL_f, aO_o, aX_b, tst_t, cond_true, cond_false, Ex.same, Nat.beq, List.length_cons, List.length_nil, Int.toNat_natCast]
      refine ev_tst (sz_le (by have h1 := one_size (48 + n % 10); have h3 := dg_size 20 (n / 10) (by omega); have h2 : maxLen = 9223372036854775807 := rfl; omega)) ?_
      rw [dg_big h]
      exact Evt.ret
theorem dec_neg : ∀ (k n : Nat), n ≤ k → 0 < n → n ≤ 2 ^ 63 → Ev fs 83 [.d (.v (.int .i64 (-(n : Int))))] ⟨.d (.v (.string (one 45 ++ dg n))), []⟩ := by
  intro k
  induction k with
  | zero => intro n hn h0; omega
  | succ k ih =>
    intro n hn h0 h63
    refine Ev.of (af := a83) rfl rfl (Evt.congr (fun d n => a83q ..) ?_)
    have c0 : decide (-(n : Int) < 0) = true := by simp; omega
    have hz : (⟨#[45]⟩ : ByteArray) = one 45 := rfl
    rcases Nat.lt_or_ge n 10 with h | h
    · have e1 : IntKind.i64.wrap (0 - -(n : Int)) = (n : Int) := by rw [wrap_i64 (by omega) (by omega)]; omega
      simp only [cI, cB, cS, cL, oD_d, oG_g, oT_t, oP_p, dI_v, dB_v, dS_v, dL_s, cell_z, cell_s, nth_z, nth_s, aV_z, aV_s, aI_v, aB_v, aS_v, aL_f, aO_o, aX_b, tst_t, cond_true, cond_false, Ex.same, Nat.beq, List.length_cons, List.length_nil, Int.toNat_natCast, beq_t, c0, show decide (-(n : Int) > (-10)) = true from by simp; omega, e1, hz]
      refine ev_call (dec_pos n n (by omega) (by omega)) ?_
      simp only [cI, cB, cS, cL, oD_d, oG_g, oT_t, oP_p, dI_v, dB_v, dS_v, dL_s, cell_z, cell_s, nth_z, nth_s, aV_z, aV_s, aI_v, aB_v, aS_v, aL_f, aO_o, aX_b, tst_t, cond_true, cond_false, Ex.same, Nat.beq, List.length_cons, List.length_nil, Int.toNat_natCast]
      refine ev_tst (sz_le (by rw [one_size]; have := dg_size 20 n (by omega); simp only [maxLen]; omega)) ?_
      exact Evt.ret
    · have hm : n % 10 < 10 := Nat.mod_lt _ (by omega)
      have e1 : IntKind.i64.wrap (0 - Int.tmod (-(n : Int)) 10) = ((n % 10 : Nat) : Int) := by
        rw [Int.neg_tmod, Int.tmod_eq_emod_of_nonneg (by omega), wrap_i64 (by omega) (by omega)]
        omega
      have e2 : IntKind.i64.wrap (Int.tdiv (-(n : Int)) 10) = -((n / 10 : Nat) : Int) := by
        rw [Int.neg_tdiv, Int.tdiv_eq_ediv_of_nonneg (by omega)]
        rw [wrap_i64 (by omega) (by omega)]
        omega
      simp only [cI, cB, cS, cL, oD_d, oG_g, oT_t, oP_p, dI_v, dB_v, dS_v, dL_s, cell_z, cell_s, nth_z, nth_s, aV_z, aV_s, aI_v, aB_v, aS_v, aL_f, aO_o, aX_b, tst_t, cond_true, cond_false, Ex.same, Nat.beq, List.length_cons, List.length_nil, Int.toNat_natCast, beq_t, c0, show decide (-(n : Int) > (-10)) = false from by simp; omega, e1, e2, show decide ((10 : Nat) ≠ 0) = true from rfl]
      refine ev_call (ih (n / 10) (by omega) (by omega) (by omega)) ?_
      simp only [cI, cB, cS, cL, oD_d, oG_g, oT_t, oP_p, dI_v, dB_v, dS_v, dL_s, cell_z, cell_s, nth_z, nth_s, aV_z, aV_s, aI_v, aB_v, aS_v, aL_f, aO_o, aX_b, tst_t, cond_true, cond_false, Ex.same, Nat.beq, List.length_cons, List.length_nil, Int.toNat_natCast]
      refine ev_call (dec_pos (n % 10) (n % 10) (by omega) (by omega)) ?_
      simp only [cI, cB, cS, cL, oD_d, oG_g, oT_t, oP_p, dI_v, dB_v, dS_v, dL_s, cell_z, cell_s, nth_z, nth_s, aV_z, aV_s, aI_v, aB_v, aS_v, aL_f, aO_o, aX_b, tst_t, cond_true, cond_false, Ex.same, Nat.beq, List.length_cons, List.length_nil, Int.toNat_natCast]
      have q1 := dg_size 20 (n / 10) (by omega)
      have q2 := dg_size 20 (n % 10) (by omega)
      refine ev_tst (sz_le (by rw [ByteArray.size_append, one_size]; simp only [maxLen]; omega)) ?_
      rw [dg_big h, dg_small hm, ByteArray.append_assoc]
      exact Evt.ret
theorem f83 {n : Int} (h : Fits n) : Ev fs 83 [.d (.v (.int .i64 n))] ⟨.d (.v (.string (decS n))), []⟩ := by
  have h' := h
  simp only [Fits, IntKind.min, IntKind.max, IntKind.signed, IntKind.bits] at h'
  simp at h'
  unfold decS
  by_cases hn : n < 0
  · obtain ⟨m, rfl⟩ : ∃ m : Nat, n = -(m : Int) := ⟨n.natAbs, by omega⟩
    have e : (-(m : Int)).natAbs = m := by omega
    simp only [hn, if_true, e]
    exact dec_neg m m (by omega) (by omega) (by omega)
  · obtain ⟨m, rfl⟩ : ∃ m : Nat, n = (m : Int) := ⟨n.natAbs, by omega⟩
    have e : (m : Int).natAbs = m := by omega
    simp only [hn, if_false, e]
    exact dec_pos m m (by omega) (by omega)
/-! ### sums -/
theorem f81 {row : Row} (h : ShL E (E 57) row) (u : Int) {l : Rows} (hl : row[5]? = some (.s 5 l)) : Ev fs 81 [.g row, .d (.v (.int .i64 u))] (io (sumIf (ofUid u) (fun x => cN x 2) l)) := by
  rw [E57] at h
  obtain ⟨na0, ra0, rfl, pa0, h_a0⟩ := inv_i h
  obtain ⟨na1, ra1, rfl, pa1, h_a1⟩ := inv_i h_a0
  obtain ⟨na2, ra2, rfl, pa2, h_a2⟩ := inv_i h_a1
  obtain ⟨la3, ra3, rfl, pa3, h_a3⟩ := inv_sl W120 h_a2
  obtain ⟨la4, ra4, rfl, pa4, h_a4⟩ := inv_sl W126 h_a3
  obtain ⟨la5, ra5, rfl, pa5, h_a5⟩ := inv_sl W96 h_a4
  obtain ⟨la6, ra6, rfl, pa6, h_a6⟩ := inv_sl W9 h_a5
  cases inv_nil h_a6
  have el : la5 = l := by simpa using hl
  subst el
  refine Ev.of (af := a81) rfl rfl (Evt.congr (fun d n => a81q ..) ?_)
  refine ev_aft (L := fun d n => l81x0 (TabD fs d) d n [(.v (.int .i64 u)), (.b [.v (.int .i64 na0), .v (.int .i64 na1), .v (.int .i64 na2), .fz 13 la3, .fz 6 la4, .fz 5 la5, .fz 1 la6]), .v (.int .i64 0), .v (.int .i64 0)]) (fold_loop (L := fun d n acc i => l81x0 (TabD fs d) d n [(.v (.int .i64 u)), (.b [.v (.int .i64 na0), .v (.int .i64 na1), .v (.int .i64 na2), .fz 13 la3, .fz 6 la4, .fz 5 la5, .fz 1 la6]), .v (.int .i64 acc), .v (.int .i64 i)]) (a := la5) (f := addIf (ofUid u) (fun x => cN x 2)) (acc := 0) (Y := fun acc => (.exit 0, [.v (.int .i64 acc)])) (fun _ _ => True) (fun d n acc => ?_) (fun i x acc res hi hx _ k => ?_) (fun _ _ _ _ _ _ => trivial) trivial).1 ?_
  · rw [l81x0s]
    simp only [cI, cB, cS, cL, oD_d, oG_g, oT_t, oP_p, dI_v, dB_v, dS_v, dL_s, cell_z, cell_s, nth_z, nth_s, aV_z, aV_s, aI_v, aB_v, aS_v, aL_f, aO_o, aX_b, tst_t, cond_true, cond_false, Ex.same, Nat.beq, List.length_cons, List.length_nil, Int.toNat_natCast, Int.lt_irrefl, decide_false]
  · have g := pa5.at hx
    rw [E96] at g
    obtain ⟨nx0, rx0, rfl, px0, g_x0⟩ := inv_i g
    obtain ⟨sx1, rx1, rfl, px1, g_x1⟩ := inv_s g_x0
    obtain ⟨nx2, rx2, rfl, px2, g_x2⟩ := inv_i g_x1
    obtain ⟨nx3, rx3, rfl, px3, g_x3⟩ := inv_i g_x2
    obtain ⟨nx4, rx4, rfl, px4, g_x4⟩ := inv_i g_x3
    cases inv_nil g_x4
    simp only [l81x0s]
    simp only [cI, cB, cS, cL, oD_d, oG_g, oT_t, oP_p, dI_v, dB_v, dS_v, dL_s, cell_z, cell_s, nth_z, nth_s, aV_z, aV_s, aI_v, aB_v, aS_v, aL_f, aO_o, aX_b, tst_t, cond_true, cond_false, Ex.same, Nat.beq, List.length_cons, List.length_nil, Int.toNat_natCast, decide_eq_true (Int.ofNat_lt.2 hi), dec_nn, look_at hx, wrap_succ hi pa5.le, beq_t]
    simp only [addIf, ofUid, cN, cT, List.getElem?_cons_zero, List.getElem?_cons_succ] at k
    refine ev_if (fun hc => ?_) (fun hc => ?_)
    · rw [hc] at k; exact k
    · rw [hc] at k; exact k
  · simp only [cI, cB, cS, cL, oD_d, oG_g, oT_t, oP_p, dI_v, dB_v, dS_v, dL_s, cell_z, cell_s, nth_z, nth_s, aV_z, aV_s, aI_v, aB_v, aS_v, aL_f, aO_o, aX_b, tst_t, cond_true, cond_false, Ex.same, Nat.beq, List.length_cons, List.length_nil, Int.toNat_natCast]
    exact Evt.ret
theorem f82 {row : Row} (h : ShL E (E 57) row) (u : Int) {l : Rows} (hl : row[5]? = some (.s 5 l)) : Ev fs 82 [.g row, .d (.v (.int .i64 u))] (io (sumIf (ofUid u) (fun x => cN x 3) l)) := by
  rw [E57] at h
  obtain ⟨na0, ra0, rfl, pa0, h_a0⟩ := inv_i h
  obtain ⟨na1, ra1, rfl, pa1, h_a1⟩ := inv_i h_a0
  obtain ⟨na2, ra2, rfl, pa2, h_a2⟩ := inv_i h_a1
  obtain ⟨la3, ra3, rfl, pa3, h_a3⟩ := inv_sl W120 h_a2
  obtain ⟨la4, ra4, rfl, pa4, h_a4⟩ := inv_sl W126 h_a3
  obtain ⟨la5, ra5, rfl, pa5, h_a5⟩ := inv_sl W96 h_a4
  obtain ⟨la6, ra6, rfl, pa6, h_a6⟩ := inv_sl W9 h_a5
  cases inv_nil h_a6
  have el : la5 = l := by simpa using hl
  subst el
  refine Ev.of (af := a82) rfl rfl (Evt.congr (fun d n => a82q ..) ?_)
  refine ev_aft (L := fun d n => l82x0 (TabD fs d) d n [(.v (.int .i64 u)), (.b [.v (.int .i64 na0), .v (.int .i64 na1), .v (.int .i64 na2), .fz 13 la3, .fz 6 la4, .fz 5 la5, .fz 1 la6]), .v (.int .i64 0), .v (.int .i64 0)]) (fold_loop (L := fun d n acc i => l82x0 (TabD fs d) d n [(.v (.int .i64 u)), (.b [.v (.int .i64 na0), .v (.int .i64 na1), .v (.int .i64 na2), .fz 13 la3, .fz 6 la4, .fz 5 la5, .fz 1 la6]), .v (.int .i64 acc), .v (.int .i64 i)]) (a := la5) (f := addIf (ofUid u) (fun x => cN x 3)) (acc := 0) (Y := fun acc => (.exit 0, [.v (.int .i64 acc)])) (fun _ _ => True) (fun d n acc => ?_) (fun i x acc res hi hx _ k => ?_) (fun _ _ _ _ _ _ => trivial) trivial).1 ?_
  · rw [l82x0s]
    simp only [cI, cB, cS, cL, oD_d, oG_g, oT_t, oP_p, dI_v, dB_v, dS_v, dL_s, cell_z, cell_s, nth_z, nth_s, aV_z, aV_s, aI_v, aB_v, aS_v, aL_f, aO_o, aX_b, tst_t, cond_true, cond_false, Ex.same, Nat.beq, List.length_cons, List.length_nil, Int.toNat_natCast, Int.lt_irrefl, decide_false]
  · have g := pa5.at hx
    rw [E96] at g
    obtain ⟨nx0, rx0, rfl, px0, g_x0⟩ := inv_i g
    obtain ⟨sx1, rx1, rfl, px1, g_x1⟩ := inv_s g_x0
    obtain ⟨nx2, rx2, rfl, px2, g_x2⟩ := inv_i g_x1
    obtain ⟨nx3, rx3, rfl, px3, g_x3⟩ := inv_i g_x2
    obtain ⟨nx4, rx4, rfl, px4, g_x4⟩ := inv_i g_x3
    cases inv_nil g_x4
    simp only [l82x0s]
    simp only [cI, cB, cS, cL, oD_d, oG_g, oT_t, oP_p, dI_v, dB_v, dS_v, dL_s, cell_z, cell_s, nth_z, nth_s, aV_z, aV_s, aI_v, aB_v, aS_v, aL_f, aO_o, aX_b, tst_t, cond_true, cond_false, Ex.same, Nat.beq, List.length_cons, List.length_nil, Int.toNat_natCast, decide_eq_true (Int.ofNat_lt.2 hi), dec_nn, look_at hx, wrap_succ hi pa5.le, beq_t]
    simp only [addIf, ofUid, cN, cT, List.getElem?_cons_zero, List.getElem?_cons_succ] at k
    refine ev_if (fun hc => ?_) (fun hc => ?_)
    · rw [hc] at k; exact k
    · rw [hc] at k; exact k
  · simp only [cI, cB, cS, cL, oD_d, oG_g, oT_t, oP_p, dI_v, dB_v, dS_v, dL_s, cell_z, cell_s, nth_z, nth_s, aV_z, aV_s, aI_v, aB_v, aS_v, aL_f, aO_o, aX_b, tst_t, cond_true, cond_false, Ex.same, Nat.beq, List.length_cons, List.length_nil, Int.toNat_natCast]
    exact Evt.ret
theorem f84 {row : Row} (h : ShL E (E 57) row) (u : Int) {l : Rows} (hl : row[5]? = some (.s 5 l)) : Ev fs 84 [.g row, .d (.v (.int .i64 u))] (io (sumIf (ofUid u) (fun x => cN x 2) l)) := by
  rw [E57] at h
  obtain ⟨na0, ra0, rfl, pa0, h_a0⟩ := inv_i h
  obtain ⟨na1, ra1, rfl, pa1, h_a1⟩ := inv_i h_a0
  obtain ⟨na2, ra2, rfl, pa2, h_a2⟩ := inv_i h_a1
  obtain ⟨la3, ra3, rfl, pa3, h_a3⟩ := inv_sl W120 h_a2
  obtain ⟨la4, ra4, rfl, pa4, h_a4⟩ := inv_sl W126 h_a3
  obtain ⟨la5, ra5, rfl, pa5, h_a5⟩ := inv_sl W96 h_a4
  obtain ⟨la6, ra6, rfl, pa6, h_a6⟩ := inv_sl W9 h_a5
  cases inv_nil h_a6
  have el : la5 = l := by simpa using hl
  subst el
  refine Ev.of (af := a84) rfl rfl (Evt.congr (fun d n => a84q ..) ?_)
  refine ev_aft (L := fun d n => l84x0 (TabD fs d) d n [(.v (.int .i64 u)), .v (.int .i64 0), .fz 5 la5, .v (.int .i64 (la5.length : Int)), .v (.int .i64 0)]) (fold_loop (L := fun d n acc i => l84x0 (TabD fs d) d n [(.v (.int .i64 u)), .v (.int .i64 acc), .fz 5 la5, .v (.int .i64 (la5.length : Int)), .v (.int .i64 i)]) (a := la5) (f := addIf (ofUid u) (fun x => cN x 2)) (acc := 0) (Y := fun acc => (.exit 0, [.v (.int .i64 acc)])) (fun _ _ => True) (fun d n acc => ?_) (fun i x acc res hi hx _ k => ?_) (fun _ _ _ _ _ _ => trivial) trivial).1 ?_
  · rw [l84x0s]
    simp only [cI, cB, cS, cL, oD_d, oG_g, oT_t, oP_p, dI_v, dB_v, dS_v, dL_s, cell_z, cell_s, nth_z, nth_s, aV_z, aV_s, aI_v, aB_v, aS_v, aL_f, aO_o, aX_b, tst_t, cond_true, cond_false, Ex.same, Nat.beq, List.length_cons, List.length_nil, Int.toNat_natCast, Int.lt_irrefl, decide_false]
  · have g := pa5.at hx
    rw [E96] at g
    obtain ⟨nx0, rx0, rfl, px0, g_x0⟩ := inv_i g
    obtain ⟨sx1, rx1, rfl, px1, g_x1⟩ := inv_s g_x0
    obtain ⟨nx2, rx2, rfl, px2, g_x2⟩ := inv_i g_x1
    obtain ⟨nx3, rx3, rfl, px3, g_x3⟩ := inv_i g_x2
    obtain ⟨nx4, rx4, rfl, px4, g_x4⟩ := inv_i g_x3
    cases inv_nil g_x4
    simp only [l84x0s]
    simp only [cI, cB, cS, cL, oD_d, oG_g, oT_t, oP_p, dI_v, dB_v, dS_v, dL_s, cell_z, cell_s, nth_z, nth_s, aV_z, aV_s, aI_v, aB_v, aS_v, aL_f, aO_o, aX_b, tst_t, cond_true, cond_false, Ex.same, Nat.beq, List.length_cons, List.length_nil, Int.toNat_natCast, decide_eq_true (Int.ofNat_lt.2 hi), dec_nn, look_at hx, wrap_succ hi pa5.le, beq_t]
    simp only [addIf, ofUid, cN, cT, List.getElem?_cons_zero, List.getElem?_cons_succ] at k
    refine ev_if (fun hc => ?_) (fun hc => ?_)
    · rw [hc] at k; exact k
    · rw [hc] at k; exact k
  · simp only [cI, cB, cS, cL, oD_d, oG_g, oT_t, oP_p, dI_v, dB_v, dS_v, dL_s, cell_z, cell_s, nth_z, nth_s, aV_z, aV_s, aI_v, aB_v, aS_v, aL_f, aO_o, aX_b, tst_t, cond_true, cond_false, Ex.same, Nat.beq, List.length_cons, List.length_nil, Int.toNat_natCast]
    exact Evt.ret
theorem f85 {row : Row} (h : ShL E (E 57) row) (u : Int) {l : Rows} (hl : row[5]? = some (.s 5 l)) : Ev fs 85 [.g row, .d (.v (.int .i64 u))] (io (sumIf (ofUid u) (fun x => cN x 3) l)) := by
  rw [E57] at h
  obtain ⟨na0, ra0, rfl, pa0, h_a0⟩ := inv_i h
  obtain ⟨na1, ra1, rfl, pa1, h_a1⟩ := inv_i h_a0
  obtain ⟨na2, ra2, rfl, pa2, h_a2⟩ := inv_i h_a1
  obtain ⟨la3, ra3, rfl, pa3, h_a3⟩ := inv_sl W120 h_a2
  obtain ⟨la4, ra4, rfl, pa4, h_a4⟩ := inv_sl W126 h_a3
  obtain ⟨la5, ra5, rfl, pa5, h_a5⟩ := inv_sl W96 h_a4
  obtain ⟨la6, ra6, rfl, pa6, h_a6⟩ := inv_sl W9 h_a5
  cases inv_nil h_a6
  have el : la5 = l := by simpa using hl
  subst el
  refine Ev.of (af := a85) rfl rfl (Evt.congr (fun d n => a85q ..) ?_)
  refine ev_aft (L := fun d n => l85x0 (TabD fs d) d n [(.v (.int .i64 u)), .v (.int .i64 0), .fz 5 la5, .v (.int .i64 (la5.length : Int)), .v (.int .i64 0)]) (fold_loop (L := fun d n acc i => l85x0 (TabD fs d) d n [(.v (.int .i64 u)), .v (.int .i64 acc), .fz 5 la5, .v (.int .i64 (la5.length : Int)), .v (.int .i64 i)]) (a := la5) (f := addIf (ofUid u) (fun x => cN x 3)) (acc := 0) (Y := fun acc => (.exit 0, [.v (.int .i64 acc)])) (fun _ _ => True) (fun d n acc => ?_) (fun i x acc res hi hx _ k => ?_) (fun _ _ _ _ _ _ => trivial) trivial).1 ?_
  · rw [l85x0s]
    simp only [cI, cB, cS, cL, oD_d, oG_g, oT_t, oP_p, dI_v, dB_v, dS_v, dL_s, cell_z, cell_s, nth_z, nth_s, aV_z, aV_s, aI_v, aB_v, aS_v, aL_f, aO_o, aX_b, tst_t, cond_true, cond_false, Ex.same, Nat.beq, List.length_cons, List.length_nil, Int.toNat_natCast, Int.lt_irrefl, decide_false]
  · have g := pa5.at hx
    rw [E96] at g
    obtain ⟨nx0, rx0, rfl, px0, g_x0⟩ := inv_i g
    obtain ⟨sx1, rx1, rfl, px1, g_x1⟩ := inv_s g_x0
    obtain ⟨nx2, rx2, rfl, px2, g_x2⟩ := inv_i g_x1
    obtain ⟨nx3, rx3, rfl, px3, g_x3⟩ := inv_i g_x2
    obtain ⟨nx4, rx4, rfl, px4, g_x4⟩ := inv_i g_x3
    cases inv_nil g_x4
    simp only [l85x0s]
    simp only [cI, cB, cS, cL, oD_d, oG_g, oT_t, oP_p, dI_v, dB_v, dS_v, dL_s, cell_z, cell_s, nth_z, nth_s, aV_z, aV_s, aI_v, aB_v, aS_v, aL_f, aO_o, aX_b, tst_t, cond_true, cond_false, Ex.same, Nat.beq, List.length_cons, List.length_nil, Int.toNat_natCast, decide_eq_true (Int.ofNat_lt.2 hi), dec_nn, look_at hx, wrap_succ hi pa5.le, beq_t]
    simp only [addIf, ofUid, cN, cT, List.getElem?_cons_zero, List.getElem?_cons_succ] at k
    refine ev_if (fun hc => ?_) (fun hc => ?_)
    · rw [hc] at k; exact k
    · rw [hc] at k; exact k
  · simp only [cI, cB, cS, cL, oD_d, oG_g, oT_t, oP_p, dI_v, dB_v, dS_v, dL_s, cell_z, cell_s, nth_z, nth_s, aV_z, aV_s, aI_v, aB_v, aS_v, aL_f, aO_o, aX_b, tst_t, cond_true, cond_false, Ex.same, Nat.beq, List.length_cons, List.length_nil, Int.toNat_natCast]
    exact Evt.ret
theorem f86 {row : Row} (h : ShL E (E 57) row) (u : ByteArray) {l : Rows} (hl : row[5]? = some (.s 5 l)) : Ev fs 86 [.g row, .d (.v (.string u))] (io (sumIf (ofName u) (fun x => cN x 2) l)) := by
  rw [E57] at h
  obtain ⟨na0, ra0, rfl, pa0, h_a0⟩ := inv_i h
  obtain ⟨na1, ra1, rfl, pa1, h_a1⟩ := inv_i h_a0
  obtain ⟨na2, ra2, rfl, pa2, h_a2⟩ := inv_i h_a1
  obtain ⟨la3, ra3, rfl, pa3, h_a3⟩ := inv_sl W120 h_a2
  obtain ⟨la4, ra4, rfl, pa4, h_a4⟩ := inv_sl W126 h_a3
  obtain ⟨la5, ra5, rfl, pa5, h_a5⟩ := inv_sl W96 h_a4
  obtain ⟨la6, ra6, rfl, pa6, h_a6⟩ := inv_sl W9 h_a5
  cases inv_nil h_a6
  have el : la5 = l := by simpa using hl
  subst el
  refine Ev.of (af := a86) rfl rfl (Evt.congr (fun d n => a86q ..) ?_)
  refine ev_aft (L := fun d n => l86x0 (TabD fs d) d n [(.v (.string u)), .v (.int .i64 0), .fz 5 la5, .v (.int .i64 (la5.length : Int)), .v (.int .i64 0)]) (fold_loop (L := fun d n acc i => l86x0 (TabD fs d) d n [(.v (.string u)), .v (.int .i64 acc), .fz 5 la5, .v (.int .i64 (la5.length : Int)), .v (.int .i64 i)]) (a := la5) (f := addIf (ofName u) (fun x => cN x 2)) (acc := 0) (Y := fun acc => (.exit 0, [.v (.int .i64 acc)])) (fun _ _ => True) (fun d n acc => ?_) (fun i x acc res hi hx _ k => ?_) (fun _ _ _ _ _ _ => trivial) trivial).1 ?_
  · rw [l86x0s]
    simp only [cI, cB, cS, cL, oD_d, oG_g, oT_t, oP_p, dI_v, dB_v, dS_v, dL_s, cell_z, cell_s, nth_z, nth_s, aV_z, aV_s, aI_v, aB_v, aS_v, aL_f, aO_o, aX_b, tst_t, cond_true, cond_false, Ex.same, Nat.beq, List.length_cons, List.length_nil, Int.toNat_natCast, Int.lt_irrefl, decide_false]
  · have g := pa5.at hx
    rw [E96] at g
    obtain ⟨nx0, rx0, rfl, px0, g_x0⟩ := inv_i g
    obtain ⟨sx1, rx1, rfl, px1, g_x1⟩ := inv_s g_x0
    obtain ⟨nx2, rx2, rfl, px2, g_x2⟩ := inv_i g_x1
    obtain ⟨nx3, rx3, rfl, px3, g_x3⟩ := inv_i g_x2
    obtain ⟨nx4, rx4, rfl, px4, g_x4⟩ := inv_i g_x3
    cases inv_nil g_x4
    simp only [l86x0s]
    simp only [cI, cB, cS, cL, oD_d, oG_g, oT_t, oP_p, dI_v, dB_v, dS_v, dL_s, cell_z, cell_s, nth_z, nth_s, aV_z, aV_s, aI_v, aB_v, aS_v, aL_f, aO_o, aX_b, tst_t, cond_true, cond_false, Ex.same, Nat.beq, List.length_cons, List.length_nil, Int.toNat_natCast, decide_eq_true (Int.ofNat_lt.2 hi), dec_nn, look_at hx, wrap_succ hi pa5.le, beq_t]
    simp only [addIf, ofName, cN, cT, List.getElem?_cons_zero, List.getElem?_cons_succ] at k
    refine ev_if (fun hc => ?_) (fun hc => ?_)
    · rw [hc] at k; exact k
    · rw [hc] at k; exact k
  · simp only [cI, cB, cS, cL, oD_d, oG_g, oT_t, oP_p, dI_v, dB_v, dS_v, dL_s, cell_z, cell_s, nth_z, nth_s, aV_z, aV_s, aI_v, aB_v, aS_v, aL_f, aO_o, aX_b, tst_t, cond_true, cond_false, Ex.same, Nat.beq, List.length_cons, List.length_nil, Int.toNat_natCast]
    exact Evt.ret
theorem f87 {row : Row} (h : ShL E (E 57) row) (u : ByteArray) {l : Rows} (hl : row[5]? = some (.s 5 l)) : Ev fs 87 [.g row, .d (.v (.string u))] (io (sumIf (isGone u) (fun _ => 1) l)) := by
  rw [E57] at h
  obtain ⟨na0, ra0, rfl, pa0, h_a0⟩ := inv_i h
  obtain ⟨na1, ra1, rfl, pa1, h_a1⟩ := inv_i h_a0
  obtain ⟨na2, ra2, rfl, pa2, h_a2⟩ := inv_i h_a1
  obtain ⟨la3, ra3, rfl, pa3, h_a3⟩ := inv_sl W120 h_a2
  obtain ⟨la4, ra4, rfl, pa4, h_a4⟩ := inv_sl W126 h_a3
  obtain ⟨la5, ra5, rfl, pa5, h_a5⟩ := inv_sl W96 h_a4
  obtain ⟨la6, ra6, rfl, pa6, h_a6⟩ := inv_sl W9 h_a5
  cases inv_nil h_a6
  have el : la5 = l := by simpa using hl
  subst el
  refine Ev.of (af := a87) rfl rfl (Evt.congr (fun d n => a87q ..) ?_)
  refine ev_aft (L := fun d n => l87x0 (TabD fs d) d n [(.v (.string u)), .v (.int .i64 0), .fz 5 la5, .v (.int .i64 (la5.length : Int)), .v (.int .i64 0)]) (fold_loop (L := fun d n acc i => l87x0 (TabD fs d) d n [(.v (.string u)), .v (.int .i64 acc), .fz 5 la5, .v (.int .i64 (la5.length : Int)), .v (.int .i64 i)]) (a := la5) (f := addIf (isGone u) (fun _ => 1)) (acc := 0) (Y := fun acc => (.exit 0, [.v (.int .i64 acc)])) (fun _ _ => True) (fun d n acc => ?_) (fun i x acc res hi hx _ k => ?_) (fun _ _ _ _ _ _ => trivial) trivial).1 ?_
  · rw [l87x0s]
    simp only [cI, cB, cS, cL, oD_d, oG_g, oT_t, oP_p, dI_v, dB_v, dS_v, dL_s, cell_z, cell_s, nth_z, nth_s, aV_z, aV_s, aI_v, aB_v, aS_v, aL_f, aO_o, aX_b, tst_t, cond_true, cond_false, Ex.same, Nat.beq, List.length_cons, List.length_nil, Int.toNat_natCast, Int.lt_irrefl, decide_false]
  · have g := pa5.at hx
    rw [E96] at g
    obtain ⟨nx0, rx0, rfl, px0, g_x0⟩ := inv_i g
    obtain ⟨sx1, rx1, rfl, px1, g_x1⟩ := inv_s g_x0
    obtain ⟨nx2, rx2, rfl, px2, g_x2⟩ := inv_i g_x1
    obtain ⟨nx3, rx3, rfl, px3, g_x3⟩ := inv_i g_x2
    obtain ⟨nx4, rx4, rfl, px4, g_x4⟩ := inv_i g_x3
    cases inv_nil g_x4
    simp only [l87x0s]
    simp only [cI, cB, cS, cL, oD_d, oG_g, oT_t, oP_p, dI_v, dB_v, dS_v, dL_s, cell_z, cell_s, nth_z, nth_s, aV_z, aV_s, aI_v, aB_v, aS_v, aL_f, aO_o, aX_b, tst_t, cond_true, cond_false, Ex.same, Nat.beq, List.length_cons, List.length_nil, Int.toNat_natCast, decide_eq_true (Int.ofNat_lt.2 hi), dec_nn, look_at hx, wrap_succ hi pa5.le, beq_t]
    simp only [addIf, isGone, cN, cT, List.getElem?_cons_zero, List.getElem?_cons_succ] at k
    refine ev_if (fun hc => ?_) (fun hc => ?_)
    · refine ev_if (fun hd => ?_) (fun hd => ?_)
      · have hd' : nx4 > 0 := by simpa using hd
        simp only [hc, hd', decide_true, Bool.and_self, cond_true] at k; exact k
      · have hd' : ¬ nx4 > 0 := by simpa using hd
        simp only [hc, hd', decide_false, Bool.and_false, cond_false] at k; exact k
    · simp only [hc, Bool.false_and, cond_false] at k; exact k
  · simp only [cI, cB, cS, cL, oD_d, oG_g, oT_t, oP_p, dI_v, dB_v, dS_v, dL_s, cell_z, cell_s, nth_z, nth_s, aV_z, aV_s, aI_v, aB_v, aS_v, aL_f, aO_o, aX_b, tst_t, cond_true, cond_false, Ex.same, Nat.beq, List.length_cons, List.length_nil, Int.toNat_natCast]
    exact Evt.ret
/-! ### the lines -/
def twant : ByteArray := ⟨#[32, 119, 97, 110, 116, 32]⟩
theorem zwant : twant.size ≤ 10 := by decide
def tplaced : ByteArray := ⟨#[32, 112, 108, 97, 99, 101, 100, 32]⟩
theorem zplaced : tplaced.size ≤ 10 := by decide
def trunning : ByteArray := ⟨#[32, 114, 117, 110, 110, 105, 110, 103, 32]⟩
theorem zrunning : trunning.size ≤ 10 := by decide
def tends : ByteArray := ⟨#[32, 101, 110, 100, 115]⟩
theorem zends : tends.size ≤ 10 := by decide
def tnl : ByteArray := ⟨#[10]⟩
theorem znl : tnl.size ≤ 10 := by decide
def tisland : ByteArray := ⟨#[105, 115, 108, 97, 110, 100, 32]⟩
theorem zisland : tisland.size ≤ 10 := by decide
def troom : ByteArray := ⟨#[32, 114, 111, 111, 109, 32]⟩
theorem zroom : troom.size ≤ 10 := by decide
def tused : ByteArray := ⟨#[32, 117, 115, 101, 100, 32]⟩
theorem zused : tused.size ≤ 10 := by decide
def tgone : ByteArray := ⟨#[32, 103, 111, 110, 101, 32]⟩
theorem zgone : tgone.size ≤ 10 := by decide
def jobLine (hs : Rows) (x : Row) : ByteArray := cT x 1 ++ (twant ++ (decS (cN x 2) ++ (tplaced ++ (decS (sumIf (ofUid (cN x 0)) (fun x => cN x 2) hs) ++ (trunning ++ (decS (sumIf (ofUid (cN x 0)) (fun x => cN x 3) hs) ++ (bif cE x 12 then tends ++ tnl else tnl)))))))
def postLine (hs : Rows) (x : Row) : ByteArray := tisland ++ (cT x 0 ++ (troom ++ (decS (cN x 3) ++ (tused ++ (decS (sumIf (ofName (cT x 0)) (fun x => cN x 2) hs) ++ (tgone ++ (decS (sumIf (isGone (cT x 0)) (fun _ => 1) hs) ++ tnl)))))))
def summary (hs js ps : Rows) : ByteArray := ps.foldl (fun acc x => acc ++ postLine hs x) (js.foldl (fun acc x => acc ++ jobLine hs x) ⟨#[]⟩)
theorem wt_le {l : Rows} {i : Nat} {x : Row} (h : l[i]? = some x) : wtRow x ≤ wtRows l := by
  induction l generalizing i with
  | nil => simp at h
  | cons y l ih =>
    cases i with
    | zero => simp at h; subst h; simp only [wtRows]; omega
    | succ i => have := ih (by simpa using h); simp only [wtRows]; omega
theorem jobs29 {na0 na1 na2 : Int} {la3 la4 la5 la6 : Rows} (kk : ShL E (E 57) [.v (.int .i64 na0), .v (.int .i64 na1), .v (.int .i64 na2), .s 13 la3, .s 6 la4, .s 5 la5, .s 1 la6]) (pa3 : SL E 120 la3) (hw : wtRows la3 ≤ 1048576) (hm : la3.length ≤ 1048576) :
    Evt (fun d n => l29x0 (TabD fs d) d n [(.b [.v (.int .i64 na0), .v (.int .i64 na1), .v (.int .i64 na2), .fz 13 la3, .fz 6 la4, .fz 5 la5, .fz 1 la6]), .v (.string ⟨#[]⟩), .v (.int .i64 0)]) (.exit 0, [(.b [.v (.int .i64 na0), .v (.int .i64 na1), .v (.int .i64 na2), .fz 13 la3, .fz 6 la4, .fz 5 la5, .fz 1 la6]), .v (.string (la3.foldl (fun acc x => acc ++ jobLine la5 x) ⟨#[]⟩))]) ∧ (la3.foldl (fun acc x => acc ++ jobLine la5 x) (⟨#[]⟩ : ByteArray)).size ≤ la3.length * 2000000 := by
  refine fold_loop (L := fun d n acc i => l29x0 (TabD fs d) d n [(.b [.v (.int .i64 na0), .v (.int .i64 na1), .v (.int .i64 na2), .fz 13 la3, .fz 6 la4, .fz 5 la5, .fz 1 la6]), .v (.string acc), .v (.int .i64 i)]) (f := fun acc x => acc ++ jobLine la5 x) (Y := fun acc => (.exit 0, [(.b [.v (.int .i64 na0), .v (.int .i64 na1), .v (.int .i64 na2), .fz 13 la3, .fz 6 la4, .fz 5 la5, .fz 1 la6]), .v (.string acc)])) (fun i acc => acc.size ≤ i * 2000000) (fun d n acc => ?_) (fun i x acc res hi hx hI k => ?_) (fun i x acc hi hx hI => ?_) (by decide)
  · rw [l29x0s]
    simp only [cI, cB, cS, cL, oD_d, oG_g, oT_t, oP_p, dI_v, dB_v, dS_v, dL_s, cell_z, cell_s, nth_z, nth_s, aV_z, aV_s, aI_v, aB_v, aS_v, aL_f, aO_o, aX_b, tst_t, cond_true, cond_false, Ex.same, Nat.beq, List.length_cons, List.length_nil, Int.toNat_natCast, Int.lt_irrefl, decide_false]
  · have g := pa3.at hx
    have hn := wt_at hx
    rw [E120] at g
    obtain ⟨nx0, rx0, rfl, px0, g_x0⟩ := inv_i g
    obtain ⟨sx1, rx1, rfl, px1, g_x1⟩ := inv_s g_x0
    obtain ⟨nx2, rx2, rfl, px2, g_x2⟩ := inv_i g_x1
    obtain ⟨lx3, rx3, rfl, px3, g_x3⟩ := inv_sl W239 g_x2
    obtain ⟨lx4, rx4, rfl, px4, g_x4⟩ := inv_sl W9 g_x3
    obtain ⟨lx5, rx5, rfl, px5, g_x5⟩ := inv_sl W234 g_x4
    obtain ⟨nx6, rx6, rfl, px6, g_x6⟩ := inv_i g_x5
    obtain ⟨sx7, rx7, rfl, px7, g_x7⟩ := inv_s g_x6
    obtain ⟨nx8, rx8, rfl, px8, g_x8⟩ := inv_i g_x7
    obtain ⟨lx9, rx9, rfl, px9, g_x9⟩ := inv_sl W9 g_x8
    obtain ⟨lx10, rx10, rfl, px10, g_x10⟩ := inv_sl W117 g_x9
    obtain ⟨lx11, rx11, rfl, px11, g_x11⟩ := inv_sl W207 g_x10
    obtain ⟨bx12, rx12, rfl, g_x12⟩ := inv_b g_x11
    cases inv_nil g_x12
    have s1 : sx1.size ≤ 1048576 := by simp only [wtRow, wtD] at hn; have := wt_le hx; simp only [wtRow, wtD] at this; omega
    have d2 := decS_size px2.1 px2.2
    have g1 := sum_fits (ofUid nx0) (fun x => cN x 2) la5
    have g2 := sum_fits (ofUid nx0) (fun x => cN x 3) la5
    have d3 := decS_size g1.1 g1.2
    have d4 := decS_size g2.1 g2.2
    have ywant := zwant
    have yplaced := zplaced
    have yrunning := zrunning
    have yends := zends
    have ynl := znl
    simp only [l29x0s]
    simp only [cI, cB, cS, cL, oD_d, oG_g, oT_t, oP_p, dI_v, dB_v, dS_v, dL_s, cell_z, cell_s, nth_z, nth_s, aV_z, aV_s, aI_v, aB_v, aS_v, aL_f, aO_o, aX_b, tst_t, cond_true, cond_false, Ex.same, Nat.beq, List.length_cons, List.length_nil, Int.toNat_natCast, decide_eq_true (Int.ofNat_lt.2 hi), dec_nn, look_at hx, wrap_succ hi pa3.le, beq_t, show (⟨#[32, 119, 97, 110, 116, 32]⟩ : ByteArray) = twant from rfl, show (⟨#[32, 112, 108, 97, 99, 101, 100, 32]⟩ : ByteArray) = tplaced from rfl, show (⟨#[32, 114, 117, 110, 110, 105, 110, 103, 32]⟩ : ByteArray) = trunning from rfl, show (⟨#[32, 101, 110, 100, 115]⟩ : ByteArray) = tends from rfl, show (⟨#[10]⟩ : ByteArray) = tnl from rfl, show (⟨#[105, 115, 108, 97, 110, 100, 32]⟩ : ByteArray) = tisland from rfl, show (⟨#[32, 114, 111, 111, 109, 32]⟩ : ByteArray) = troom from rfl, show (⟨#[32, 117, 115, 101, 100, 32]⟩ : ByteArray) = tused from rfl, show (⟨#[32, 103, 111, 110, 101, 32]⟩ : ByteArray) = tgone from rfl]
    simp only [jobLine, cN, cT, cE, List.getElem?_cons_zero, List.getElem?_cons_succ] at k
    refine ev_tst (sz_le (by simp only [ByteArray.size_append, maxLen]; omega)) ?_
    refine ev_tst (sz_le (by simp only [ByteArray.size_append, maxLen]; omega)) ?_
    refine ev_call (f80 px2) ?_
    simp only [cI, cB, cS, cL, oD_d, oG_g, oT_t, oP_p, dI_v, dB_v, dS_v, dL_s, cell_z, cell_s, nth_z, nth_s, aV_z, aV_s, aI_v, aB_v, aS_v, aL_f, aO_o, aX_b, tst_t, cond_true, cond_false, Ex.same, Nat.beq, List.length_cons, List.length_nil, Int.toNat_natCast]
    refine ev_tst (sz_le (by simp only [ByteArray.size_append, maxLen]; omega)) ?_
    refine ev_tst (sz_le (by simp only [ByteArray.size_append, maxLen]; omega)) ?_
    refine ev_call (f81 kk nx0 rfl) ?_
    simp only [cI, cB, cS, cL, oD_d, oG_g, oT_t, oP_p, dI_v, dB_v, dS_v, dL_s, cell_z, cell_s, nth_z, nth_s, aV_z, aV_s, aI_v, aB_v, aS_v, aL_f, aO_o, aX_b, tst_t, cond_true, cond_false, Ex.same, Nat.beq, List.length_cons, List.length_nil, Int.toNat_natCast]
    refine ev_call (f80 g1) ?_
    simp only [cI, cB, cS, cL, oD_d, oG_g, oT_t, oP_p, dI_v, dB_v, dS_v, dL_s, cell_z, cell_s, nth_z, nth_s, aV_z, aV_s, aI_v, aB_v, aS_v, aL_f, aO_o, aX_b, tst_t, cond_true, cond_false, Ex.same, Nat.beq, List.length_cons, List.length_nil, Int.toNat_natCast]
    refine ev_tst (sz_le (by simp only [ByteArray.size_append, maxLen]; omega)) ?_
    refine ev_tst (sz_le (by simp only [ByteArray.size_append, maxLen]; omega)) ?_
    refine ev_call (f82 kk nx0 rfl) ?_
    simp only [cI, cB, cS, cL, oD_d, oG_g, oT_t, oP_p, dI_v, dB_v, dS_v, dL_s, cell_z, cell_s, nth_z, nth_s, aV_z, aV_s, aI_v, aB_v, aS_v, aL_f, aO_o, aX_b, tst_t, cond_true, cond_false, Ex.same, Nat.beq, List.length_cons, List.length_nil, Int.toNat_natCast]
    refine ev_call (f80 g2) ?_
    simp only [cI, cB, cS, cL, oD_d, oG_g, oT_t, oP_p, dI_v, dB_v, dS_v, dL_s, cell_z, cell_s, nth_z, nth_s, aV_z, aV_s, aI_v, aB_v, aS_v, aL_f, aO_o, aX_b, tst_t, cond_true, cond_false, Ex.same, Nat.beq, List.length_cons, List.length_nil, Int.toNat_natCast]
    refine ev_tst (sz_le (by simp only [ByteArray.size_append, maxLen]; omega)) ?_
    refine ev_if (fun hc => ?_) (fun hc => ?_)
    · refine ev_tst (sz_le (by simp only [ByteArray.size_append, maxLen]; omega)) ?_
      refine ev_tst (sz_le (by simp only [ByteArray.size_append, maxLen]; omega)) ?_
      rw [hc] at k
      simp only [cond_true, ByteArray.append_assoc] at k ⊢
      exact k
    · refine ev_tst (sz_le (by simp only [ByteArray.size_append, maxLen]; omega)) ?_
      rw [hc] at k
      simp only [cond_false, ByteArray.append_assoc] at k ⊢
      exact k
  · have g := pa3.at hx
    have hn := wt_at hx
    rw [E120] at g
    obtain ⟨nx0, rx0, rfl, px0, g_x0⟩ := inv_i g
    obtain ⟨sx1, rx1, rfl, px1, g_x1⟩ := inv_s g_x0
    obtain ⟨nx2, rx2, rfl, px2, g_x2⟩ := inv_i g_x1
    obtain ⟨lx3, rx3, rfl, px3, g_x3⟩ := inv_sl W239 g_x2
    obtain ⟨lx4, rx4, rfl, px4, g_x4⟩ := inv_sl W9 g_x3
    obtain ⟨lx5, rx5, rfl, px5, g_x5⟩ := inv_sl W234 g_x4
    obtain ⟨nx6, rx6, rfl, px6, g_x6⟩ := inv_i g_x5
    obtain ⟨sx7, rx7, rfl, px7, g_x7⟩ := inv_s g_x6
    obtain ⟨nx8, rx8, rfl, px8, g_x8⟩ := inv_i g_x7
    obtain ⟨lx9, rx9, rfl, px9, g_x9⟩ := inv_sl W9 g_x8
    obtain ⟨lx10, rx10, rfl, px10, g_x10⟩ := inv_sl W117 g_x9
    obtain ⟨lx11, rx11, rfl, px11, g_x11⟩ := inv_sl W207 g_x10
    obtain ⟨bx12, rx12, rfl, g_x12⟩ := inv_b g_x11
    cases inv_nil g_x12
    have s1 : sx1.size ≤ 1048576 := by simp only [wtRow, wtD] at hn; have := wt_le hx; simp only [wtRow, wtD] at this; omega
    have d2 := decS_size px2.1 px2.2
    have g1 := sum_fits (ofUid nx0) (fun x => cN x 2) la5
    have g2 := sum_fits (ofUid nx0) (fun x => cN x 3) la5
    have d3 := decS_size g1.1 g1.2
    have d4 := decS_size g2.1 g2.2
    have ywant := zwant
    have yplaced := zplaced
    have yrunning := zrunning
    have yends := zends
    have ynl := znl
    simp only [jobLine, cN, cT, cE, List.getElem?_cons_zero, List.getElem?_cons_succ, ByteArray.size_append]
    have ye : (bif bx12 then tends ++ tnl else tnl).size ≤ 20 := by cases bx12 <;> simp only [cond_true, cond_false, ByteArray.size_append] <;> omega
    rw [Nat.add_mul]
    have q1 := d3
    have q2 := d4
    simp only [cN, cT] at q1 q2
    omega
theorem jobs30 {na0 na1 na2 : Int} {la3 la4 la5 la6 : Rows} (kk : ShL E (E 57) [.v (.int .i64 na0), .v (.int .i64 na1), .v (.int .i64 na2), .s 13 la3, .s 6 la4, .s 5 la5, .s 1 la6]) (pa3 : SL E 120 la3) (hw : wtRows la3 ≤ 1048576) (hm : la3.length ≤ 1048576) :
    Evt (fun d n => l30x0 (TabD fs d) d n [(.b [.v (.int .i64 na0), .v (.int .i64 na1), .v (.int .i64 na2), .fz 13 la3, .fz 6 la4, .fz 5 la5, .fz 1 la6]), .v (.string ⟨#[]⟩), .fz 13 la3, .v (.int .i64 (la3.length : Int)), .v (.int .i64 0)]) (.exit 0, [(.b [.v (.int .i64 na0), .v (.int .i64 na1), .v (.int .i64 na2), .fz 13 la3, .fz 6 la4, .fz 5 la5, .fz 1 la6]), .v (.string (la3.foldl (fun acc x => acc ++ jobLine la5 x) ⟨#[]⟩))]) ∧ (la3.foldl (fun acc x => acc ++ jobLine la5 x) (⟨#[]⟩ : ByteArray)).size ≤ la3.length * 2000000 := by
  refine fold_loop (L := fun d n acc i => l30x0 (TabD fs d) d n [(.b [.v (.int .i64 na0), .v (.int .i64 na1), .v (.int .i64 na2), .fz 13 la3, .fz 6 la4, .fz 5 la5, .fz 1 la6]), .v (.string acc), .fz 13 la3, .v (.int .i64 (la3.length : Int)), .v (.int .i64 i)]) (f := fun acc x => acc ++ jobLine la5 x) (Y := fun acc => (.exit 0, [(.b [.v (.int .i64 na0), .v (.int .i64 na1), .v (.int .i64 na2), .fz 13 la3, .fz 6 la4, .fz 5 la5, .fz 1 la6]), .v (.string acc)])) (fun i acc => acc.size ≤ i * 2000000) (fun d n acc => ?_) (fun i x acc res hi hx hI k => ?_) (fun i x acc hi hx hI => ?_) (by decide)
  · rw [l30x0s]
    simp only [cI, cB, cS, cL, oD_d, oG_g, oT_t, oP_p, dI_v, dB_v, dS_v, dL_s, cell_z, cell_s, nth_z, nth_s, aV_z, aV_s, aI_v, aB_v, aS_v, aL_f, aO_o, aX_b, tst_t, cond_true, cond_false, Ex.same, Nat.beq, List.length_cons, List.length_nil, Int.toNat_natCast, Int.lt_irrefl, decide_false]
  · have g := pa3.at hx
    have hn := wt_at hx
    rw [E120] at g
    obtain ⟨nx0, rx0, rfl, px0, g_x0⟩ := inv_i g
    obtain ⟨sx1, rx1, rfl, px1, g_x1⟩ := inv_s g_x0
    obtain ⟨nx2, rx2, rfl, px2, g_x2⟩ := inv_i g_x1
    obtain ⟨lx3, rx3, rfl, px3, g_x3⟩ := inv_sl W239 g_x2
    obtain ⟨lx4, rx4, rfl, px4, g_x4⟩ := inv_sl W9 g_x3
    obtain ⟨lx5, rx5, rfl, px5, g_x5⟩ := inv_sl W234 g_x4
    obtain ⟨nx6, rx6, rfl, px6, g_x6⟩ := inv_i g_x5
    obtain ⟨sx7, rx7, rfl, px7, g_x7⟩ := inv_s g_x6
    obtain ⟨nx8, rx8, rfl, px8, g_x8⟩ := inv_i g_x7
    obtain ⟨lx9, rx9, rfl, px9, g_x9⟩ := inv_sl W9 g_x8
    obtain ⟨lx10, rx10, rfl, px10, g_x10⟩ := inv_sl W117 g_x9
    obtain ⟨lx11, rx11, rfl, px11, g_x11⟩ := inv_sl W207 g_x10
    obtain ⟨bx12, rx12, rfl, g_x12⟩ := inv_b g_x11
    cases inv_nil g_x12
    have s1 : sx1.size ≤ 1048576 := by simp only [wtRow, wtD] at hn; have := wt_le hx; simp only [wtRow, wtD] at this; omega
    have d2 := decS_size px2.1 px2.2
    have g1 := sum_fits (ofUid nx0) (fun x => cN x 2) la5
    have g2 := sum_fits (ofUid nx0) (fun x => cN x 3) la5
    have d3 := decS_size g1.1 g1.2
    have d4 := decS_size g2.1 g2.2
    have ywant := zwant
    have yplaced := zplaced
    have yrunning := zrunning
    have yends := zends
    have ynl := znl
    simp only [l30x0s]
    simp only [cI, cB, cS, cL, oD_d, oG_g, oT_t, oP_p, dI_v, dB_v, dS_v, dL_s, cell_z, cell_s, nth_z, nth_s, aV_z, aV_s, aI_v, aB_v, aS_v, aL_f, aO_o, aX_b, tst_t, cond_true, cond_false, Ex.same, Nat.beq, List.length_cons, List.length_nil, Int.toNat_natCast, decide_eq_true (Int.ofNat_lt.2 hi), dec_nn, look_at hx, wrap_succ hi pa3.le, beq_t, show (⟨#[32, 119, 97, 110, 116, 32]⟩ : ByteArray) = twant from rfl, show (⟨#[32, 112, 108, 97, 99, 101, 100, 32]⟩ : ByteArray) = tplaced from rfl, show (⟨#[32, 114, 117, 110, 110, 105, 110, 103, 32]⟩ : ByteArray) = trunning from rfl, show (⟨#[32, 101, 110, 100, 115]⟩ : ByteArray) = tends from rfl, show (⟨#[10]⟩ : ByteArray) = tnl from rfl, show (⟨#[105, 115, 108, 97, 110, 100, 32]⟩ : ByteArray) = tisland from rfl, show (⟨#[32, 114, 111, 111, 109, 32]⟩ : ByteArray) = troom from rfl, show (⟨#[32, 117, 115, 101, 100, 32]⟩ : ByteArray) = tused from rfl, show (⟨#[32, 103, 111, 110, 101, 32]⟩ : ByteArray) = tgone from rfl]
    simp only [jobLine, cN, cT, cE, List.getElem?_cons_zero, List.getElem?_cons_succ] at k
    refine ev_tst (sz_le (by simp only [ByteArray.size_append, maxLen]; omega)) ?_
    refine ev_call (f83 px2) ?_
    simp only [cI, cB, cS, cL, oD_d, oG_g, oT_t, oP_p, dI_v, dB_v, dS_v, dL_s, cell_z, cell_s, nth_z, nth_s, aV_z, aV_s, aI_v, aB_v, aS_v, aL_f, aO_o, aX_b, tst_t, cond_true, cond_false, Ex.same, Nat.beq, List.length_cons, List.length_nil, Int.toNat_natCast]
    refine ev_tst (sz_le (by simp only [ByteArray.size_append, maxLen]; omega)) ?_
    refine ev_tst (sz_le (by simp only [ByteArray.size_append, maxLen]; omega)) ?_
    refine ev_call (f84 kk nx0 rfl) ?_
    simp only [cI, cB, cS, cL, oD_d, oG_g, oT_t, oP_p, dI_v, dB_v, dS_v, dL_s, cell_z, cell_s, nth_z, nth_s, aV_z, aV_s, aI_v, aB_v, aS_v, aL_f, aO_o, aX_b, tst_t, cond_true, cond_false, Ex.same, Nat.beq, List.length_cons, List.length_nil, Int.toNat_natCast]
    refine ev_call (f83 g1) ?_
    simp only [cI, cB, cS, cL, oD_d, oG_g, oT_t, oP_p, dI_v, dB_v, dS_v, dL_s, cell_z, cell_s, nth_z, nth_s, aV_z, aV_s, aI_v, aB_v, aS_v, aL_f, aO_o, aX_b, tst_t, cond_true, cond_false, Ex.same, Nat.beq, List.length_cons, List.length_nil, Int.toNat_natCast]
    refine ev_tst (sz_le (by simp only [ByteArray.size_append, maxLen]; omega)) ?_
    refine ev_tst (sz_le (by simp only [ByteArray.size_append, maxLen]; omega)) ?_
    refine ev_call (f85 kk nx0 rfl) ?_
    simp only [cI, cB, cS, cL, oD_d, oG_g, oT_t, oP_p, dI_v, dB_v, dS_v, dL_s, cell_z, cell_s, nth_z, nth_s, aV_z, aV_s, aI_v, aB_v, aS_v, aL_f, aO_o, aX_b, tst_t, cond_true, cond_false, Ex.same, Nat.beq, List.length_cons, List.length_nil, Int.toNat_natCast]
    refine ev_call (f83 g2) ?_
    simp only [cI, cB, cS, cL, oD_d, oG_g, oT_t, oP_p, dI_v, dB_v, dS_v, dL_s, cell_z, cell_s, nth_z, nth_s, aV_z, aV_s, aI_v, aB_v, aS_v, aL_f, aO_o, aX_b, tst_t, cond_true, cond_false, Ex.same, Nat.beq, List.length_cons, List.length_nil, Int.toNat_natCast]
    refine ev_tst (sz_le (by simp only [ByteArray.size_append, maxLen]; omega)) ?_
    refine ev_tst (sz_le (by simp only [ByteArray.size_append, maxLen]; omega)) ?_
    refine ev_if (fun hc => ?_) (fun hc => ?_)
    · refine ev_tst (sz_le (by simp only [ByteArray.size_append, maxLen]; omega)) ?_
      refine ev_tst (sz_le (by simp only [ByteArray.size_append, maxLen]; omega)) ?_
      rw [hc] at k
      simp only [cond_true, ByteArray.append_assoc] at k ⊢
      exact k
    · refine ev_tst (sz_le (by simp only [ByteArray.size_append, maxLen]; omega)) ?_
      rw [hc] at k
      simp only [cond_false, ByteArray.append_assoc] at k ⊢
      exact k
  · have g := pa3.at hx
    have hn := wt_at hx
    rw [E120] at g
    obtain ⟨nx0, rx0, rfl, px0, g_x0⟩ := inv_i g
    obtain ⟨sx1, rx1, rfl, px1, g_x1⟩ := inv_s g_x0
    obtain ⟨nx2, rx2, rfl, px2, g_x2⟩ := inv_i g_x1
    obtain ⟨lx3, rx3, rfl, px3, g_x3⟩ := inv_sl W239 g_x2
    obtain ⟨lx4, rx4, rfl, px4, g_x4⟩ := inv_sl W9 g_x3
    obtain ⟨lx5, rx5, rfl, px5, g_x5⟩ := inv_sl W234 g_x4
    obtain ⟨nx6, rx6, rfl, px6, g_x6⟩ := inv_i g_x5
    obtain ⟨sx7, rx7, rfl, px7, g_x7⟩ := inv_s g_x6
    obtain ⟨nx8, rx8, rfl, px8, g_x8⟩ := inv_i g_x7
    obtain ⟨lx9, rx9, rfl, px9, g_x9⟩ := inv_sl W9 g_x8
    obtain ⟨lx10, rx10, rfl, px10, g_x10⟩ := inv_sl W117 g_x9
    obtain ⟨lx11, rx11, rfl, px11, g_x11⟩ := inv_sl W207 g_x10
    obtain ⟨bx12, rx12, rfl, g_x12⟩ := inv_b g_x11
    cases inv_nil g_x12
    have s1 : sx1.size ≤ 1048576 := by simp only [wtRow, wtD] at hn; have := wt_le hx; simp only [wtRow, wtD] at this; omega
    have d2 := decS_size px2.1 px2.2
    have g1 := sum_fits (ofUid nx0) (fun x => cN x 2) la5
    have g2 := sum_fits (ofUid nx0) (fun x => cN x 3) la5
    have d3 := decS_size g1.1 g1.2
    have d4 := decS_size g2.1 g2.2
    have ywant := zwant
    have yplaced := zplaced
    have yrunning := zrunning
    have yends := zends
    have ynl := znl
    simp only [jobLine, cN, cT, cE, List.getElem?_cons_zero, List.getElem?_cons_succ, ByteArray.size_append]
    have ye : (bif bx12 then tends ++ tnl else tnl).size ≤ 20 := by cases bx12 <;> simp only [cond_true, cond_false, ByteArray.size_append] <;> omega
    rw [Nat.add_mul]
    have q1 := d3
    have q2 := d4
    simp only [cN, cT] at q1 q2
    omega
theorem posts29 {na0 na1 na2 : Int} {la3 la4 la5 la6 : Rows} (kk : ShL E (E 57) [.v (.int .i64 na0), .v (.int .i64 na1), .v (.int .i64 na2), .s 13 la3, .s 6 la4, .s 5 la5, .s 1 la6]) (pa4 : SL E 126 la4) (pa5 : SL E 96 la5) (hw : wtRows la4 ≤ 1048576) (hm : la4.length ≤ 1048576) (s0 : ByteArray) (hs : s0.size ≤ 3000000000000) :
    Evt (fun d n => l29x1 (TabD fs d) d n [(.b [.v (.int .i64 na0), .v (.int .i64 na1), .v (.int .i64 na2), .fz 13 la3, .fz 6 la4, .fz 5 la5, .fz 1 la6]), .v (.string s0), .v (.int .i64 0)]) (.exit 2, [.v (.string (la4.foldl (fun acc x => acc ++ postLine la5 x) s0))]) := by
  refine (fold_loop (L := fun d n acc i => l29x1 (TabD fs d) d n [(.b [.v (.int .i64 na0), .v (.int .i64 na1), .v (.int .i64 na2), .fz 13 la3, .fz 6 la4, .fz 5 la5, .fz 1 la6]), .v (.string acc), .v (.int .i64 i)]) (f := fun acc x => acc ++ postLine la5 x) (Y := fun acc => (.exit 2, [.v (.string acc)])) (fun i acc => acc.size ≤ 3000000000000 + i * 2000000) (fun d n acc => ?_) (fun i x acc res hi hx hI k => ?_) (fun i x acc hi hx hI => ?_) (by omega)).1
  · rw [l29x1s]
    simp only [cI, cB, cS, cL, oD_d, oG_g, oT_t, oP_p, dI_v, dB_v, dS_v, dL_s, cell_z, cell_s, nth_z, nth_s, aV_z, aV_s, aI_v, aB_v, aS_v, aL_f, aO_o, aX_b, tst_t, cond_true, cond_false, Ex.same, Nat.beq, List.length_cons, List.length_nil, Int.toNat_natCast, Int.lt_irrefl, decide_false]
  · have g := pa4.at hx
    have hn := wt_le hx
    rw [E126] at g
    obtain ⟨sx0, rx0, rfl, px0, g_x0⟩ := inv_s g
    obtain ⟨lx1, rx1, rfl, px1, g_x1⟩ := inv_sl W210 g_x0
    obtain ⟨lx2, rx2, rfl, px2, g_x2⟩ := inv_sl W9 g_x1
    obtain ⟨nx3, rx3, rfl, px3, g_x3⟩ := inv_i g_x2
    obtain ⟨nx4, rx4, rfl, px4, g_x4⟩ := inv_i g_x3
    obtain ⟨nx5, rx5, rfl, px5, g_x5⟩ := inv_i g_x4
    cases inv_nil g_x5
    have s1 : sx0.size ≤ 1048576 := by simp only [wtRow, wtD] at hn; omega
    have d2 := decS_size px3.1 px3.2
    have g1 := sum_fits (ofName sx0) (fun x => cN x 2) la5
    have g2 := sum_fits (isGone sx0) (fun _ => 1) la5
    have d3 := decS_size g1.1 g1.2
    have d4 := decS_size g2.1 g2.2
    have yisland := zisland
    have yroom := zroom
    have yused := zused
    have ygone := zgone
    have ynl := znl
    simp only [l29x1s]
    simp only [cI, cB, cS, cL, oD_d, oG_g, oT_t, oP_p, dI_v, dB_v, dS_v, dL_s, cell_z, cell_s, nth_z, nth_s, aV_z, aV_s, aI_v, aB_v, aS_v, aL_f, aO_o, aX_b, tst_t, cond_true, cond_false, Ex.same, Nat.beq, List.length_cons, List.length_nil, Int.toNat_natCast, decide_eq_true (Int.ofNat_lt.2 hi), dec_nn, look_at hx, wrap_succ hi pa4.le, beq_t, show (⟨#[32, 119, 97, 110, 116, 32]⟩ : ByteArray) = twant from rfl, show (⟨#[32, 112, 108, 97, 99, 101, 100, 32]⟩ : ByteArray) = tplaced from rfl, show (⟨#[32, 114, 117, 110, 110, 105, 110, 103, 32]⟩ : ByteArray) = trunning from rfl, show (⟨#[32, 101, 110, 100, 115]⟩ : ByteArray) = tends from rfl, show (⟨#[10]⟩ : ByteArray) = tnl from rfl, show (⟨#[105, 115, 108, 97, 110, 100, 32]⟩ : ByteArray) = tisland from rfl, show (⟨#[32, 114, 111, 111, 109, 32]⟩ : ByteArray) = troom from rfl, show (⟨#[32, 117, 115, 101, 100, 32]⟩ : ByteArray) = tused from rfl, show (⟨#[32, 103, 111, 110, 101, 32]⟩ : ByteArray) = tgone from rfl]
    simp only [postLine, cN, cT, cE, List.getElem?_cons_zero, List.getElem?_cons_succ] at k
    refine ev_aft (L := fun d m => l29x2 (TabD fs d) d m [(.b [.v (.int .i64 na0), .v (.int .i64 na1), .v (.int .i64 na2), .fz 13 la3, .fz 6 la4, .fz 5 la5, .fz 1 la6]), .v (.string acc), .v (.int .i64 i), (.b [.v (.string sx0), .fz 2 lx1, .fz 1 lx2, .v (.int .i64 nx3)]), .v (.int .i64 0), .v (.int .i64 0), .v (.int .i64 0)]) (y := (.exit 4, [(.b [.v (.int .i64 na0), .v (.int .i64 na1), .v (.int .i64 na2), .fz 13 la3, .fz 6 la4, .fz 5 la5, .fz 1 la6]), .v (.string acc), .v (.int .i64 i), (.b [.v (.string sx0), .fz 2 lx1, .fz 1 lx2, .v (.int .i64 nx3)]), .v (.int .i64 (sumIf (ofName sx0) (fun x => cN x 2) la5)), .v (.int .i64 (sumIf (isGone sx0) (fun _ => 1) la5))])) ?_ ?_
    · have := (fold_loop (L := fun d n (q : Int × Int) j => l29x2 (TabD fs d) d n [(.b [.v (.int .i64 na0), .v (.int .i64 na1), .v (.int .i64 na2), .fz 13 la3, .fz 6 la4, .fz 5 la5, .fz 1 la6]), .v (.string acc), .v (.int .i64 i), (.b [.v (.string sx0), .fz 2 lx1, .fz 1 lx2, .v (.int .i64 nx3)]), .v (.int .i64 q.1), .v (.int .i64 q.2), .v (.int .i64 j)]) (a := la5) (f := fun q x => (addIf (ofName sx0) (fun x => cN x 2) q.1 x, addIf (isGone sx0) (fun _ => 1) q.2 x)) (acc := (0, 0)) (Y := fun q => (.exit 4, [(.b [.v (.int .i64 na0), .v (.int .i64 na1), .v (.int .i64 na2), .fz 13 la3, .fz 6 la4, .fz 5 la5, .fz 1 la6]), .v (.string acc), .v (.int .i64 i), (.b [.v (.string sx0), .fz 2 lx1, .fz 1 lx2, .v (.int .i64 nx3)]), .v (.int .i64 q.1), .v (.int .i64 q.2)])) (fun _ _ => True) (fun d n q => ?_) (fun j y q res hj hy _ k => ?_) (fun _ _ _ _ _ _ => trivial) trivial).1
      · rw [fold_pair] at this
        exact this
      · simp only [l29x2s]
        simp only [cI, cB, cS, cL, oD_d, oG_g, oT_t, oP_p, dI_v, dB_v, dS_v, dL_s, cell_z, cell_s, nth_z, nth_s, aV_z, aV_s, aI_v, aB_v, aS_v, aL_f, aO_o, aX_b, tst_t, cond_true, cond_false, Ex.same, Nat.beq, List.length_cons, List.length_nil, Int.toNat_natCast, Int.lt_irrefl, decide_false]
      · have w := pa5.at hy
        rw [E96] at w
        obtain ⟨ny0, ry0, rfl, py0, w_y0⟩ := inv_i w
        obtain ⟨sy1, ry1, rfl, py1, w_y1⟩ := inv_s w_y0
        obtain ⟨ny2, ry2, rfl, py2, w_y2⟩ := inv_i w_y1
        obtain ⟨ny3, ry3, rfl, py3, w_y3⟩ := inv_i w_y2
        obtain ⟨ny4, ry4, rfl, py4, w_y4⟩ := inv_i w_y3
        cases inv_nil w_y4
        simp only [l29x2s]
        simp only [cI, cB, cS, cL, oD_d, oG_g, oT_t, oP_p, dI_v, dB_v, dS_v, dL_s, cell_z, cell_s, nth_z, nth_s, aV_z, aV_s, aI_v, aB_v, aS_v, aL_f, aO_o, aX_b, tst_t, cond_true, cond_false, Ex.same, Nat.beq, List.length_cons, List.length_nil, Int.toNat_natCast, decide_eq_true (Int.ofNat_lt.2 hj), dec_nn, look_at hy, wrap_succ hj pa5.le, beq_t]
        simp only [addIf, ofName, isGone, cN, cT, List.getElem?_cons_zero, List.getElem?_cons_succ] at k
        refine ev_if (fun hc => ?_) (fun hc => ?_)
        · refine ev_if (fun hd => ?_) (fun hd => ?_)
          · have hd' : ny4 > 0 := by simpa using hd
            simp only [hc, hd', decide_true, Bool.and_self, cond_true] at k; exact k
          · have hd' : ¬ ny4 > 0 := by simpa using hd
            simp only [hc, hd', decide_false, Bool.and_false, cond_true, cond_false] at k; exact k
        · simp only [hc, Bool.false_and, cond_false] at k; exact k
    simp only [cI, cB, cS, cL, oD_d, oG_g, oT_t, oP_p, dI_v, dB_v, dS_v, dL_s, cell_z, cell_s, nth_z, nth_s, aV_z, aV_s, aI_v, aB_v, aS_v, aL_f, aO_o, aX_b, tst_t, cond_true, cond_false, Ex.same, Nat.beq, List.length_cons, List.length_nil, Int.toNat_natCast, wrap_succ hi pa4.le, show (⟨#[32, 119, 97, 110, 116, 32]⟩ : ByteArray) = twant from rfl, show (⟨#[32, 112, 108, 97, 99, 101, 100, 32]⟩ : ByteArray) = tplaced from rfl, show (⟨#[32, 114, 117, 110, 110, 105, 110, 103, 32]⟩ : ByteArray) = trunning from rfl, show (⟨#[32, 101, 110, 100, 115]⟩ : ByteArray) = tends from rfl, show (⟨#[10]⟩ : ByteArray) = tnl from rfl, show (⟨#[105, 115, 108, 97, 110, 100, 32]⟩ : ByteArray) = tisland from rfl, show (⟨#[32, 114, 111, 111, 109, 32]⟩ : ByteArray) = troom from rfl, show (⟨#[32, 117, 115, 101, 100, 32]⟩ : ByteArray) = tused from rfl, show (⟨#[32, 103, 111, 110, 101, 32]⟩ : ByteArray) = tgone from rfl]
    refine ev_tst (sz_le (by simp only [ByteArray.size_append, maxLen]; omega)) ?_
    refine ev_tst (sz_le (by simp only [ByteArray.size_append, maxLen]; omega)) ?_
    refine ev_tst (sz_le (by simp only [ByteArray.size_append, maxLen]; omega)) ?_
    refine ev_call (f80 px3) ?_
    simp only [cI, cB, cS, cL, oD_d, oG_g, oT_t, oP_p, dI_v, dB_v, dS_v, dL_s, cell_z, cell_s, nth_z, nth_s, aV_z, aV_s, aI_v, aB_v, aS_v, aL_f, aO_o, aX_b, tst_t, cond_true, cond_false, Ex.same, Nat.beq, List.length_cons, List.length_nil, Int.toNat_natCast]
    refine ev_tst (sz_le (by simp only [ByteArray.size_append, maxLen]; omega)) ?_
    refine ev_tst (sz_le (by simp only [ByteArray.size_append, maxLen]; omega)) ?_
    refine ev_call (f80 g1) ?_
    simp only [cI, cB, cS, cL, oD_d, oG_g, oT_t, oP_p, dI_v, dB_v, dS_v, dL_s, cell_z, cell_s, nth_z, nth_s, aV_z, aV_s, aI_v, aB_v, aS_v, aL_f, aO_o, aX_b, tst_t, cond_true, cond_false, Ex.same, Nat.beq, List.length_cons, List.length_nil, Int.toNat_natCast]
    refine ev_tst (sz_le (by simp only [ByteArray.size_append, maxLen]; omega)) ?_
    refine ev_tst (sz_le (by simp only [ByteArray.size_append, maxLen]; omega)) ?_
    refine ev_call (f80 g2) ?_
    simp only [cI, cB, cS, cL, oD_d, oG_g, oT_t, oP_p, dI_v, dB_v, dS_v, dL_s, cell_z, cell_s, nth_z, nth_s, aV_z, aV_s, aI_v, aB_v, aS_v, aL_f, aO_o, aX_b, tst_t, cond_true, cond_false, Ex.same, Nat.beq, List.length_cons, List.length_nil, Int.toNat_natCast]
    refine ev_tst (sz_le (by simp only [ByteArray.size_append, maxLen]; omega)) ?_
    refine ev_tst (sz_le (by simp only [ByteArray.size_append, maxLen]; omega)) ?_
    simp only [ByteArray.append_assoc] at k ⊢
    exact k
  · have g := pa4.at hx
    have hn := wt_le hx
    rw [E126] at g
    obtain ⟨sx0, rx0, rfl, px0, g_x0⟩ := inv_s g
    obtain ⟨lx1, rx1, rfl, px1, g_x1⟩ := inv_sl W210 g_x0
    obtain ⟨lx2, rx2, rfl, px2, g_x2⟩ := inv_sl W9 g_x1
    obtain ⟨nx3, rx3, rfl, px3, g_x3⟩ := inv_i g_x2
    obtain ⟨nx4, rx4, rfl, px4, g_x4⟩ := inv_i g_x3
    obtain ⟨nx5, rx5, rfl, px5, g_x5⟩ := inv_i g_x4
    cases inv_nil g_x5
    have s1 : sx0.size ≤ 1048576 := by simp only [wtRow, wtD] at hn; omega
    have d2 := decS_size px3.1 px3.2
    have g1 := sum_fits (ofName sx0) (fun x => cN x 2) la5
    have g2 := sum_fits (isGone sx0) (fun _ => 1) la5
    have d3 := decS_size g1.1 g1.2
    have d4 := decS_size g2.1 g2.2
    have yisland := zisland
    have yroom := zroom
    have yused := zused
    have ygone := zgone
    have ynl := znl
    simp only [postLine, cN, cT, cE, List.getElem?_cons_zero, List.getElem?_cons_succ, ByteArray.size_append]
    rw [Nat.add_mul]
    have q1 := d3
    have q2 := d4
    simp only [cN, cT] at q1 q2
    omega
theorem posts30 {na0 na1 na2 : Int} {la3 la4 la5 la6 : Rows} (kk : ShL E (E 57) [.v (.int .i64 na0), .v (.int .i64 na1), .v (.int .i64 na2), .s 13 la3, .s 6 la4, .s 5 la5, .s 1 la6]) (pa4 : SL E 126 la4) (pa5 : SL E 96 la5) (hw : wtRows la4 ≤ 1048576) (hm : la4.length ≤ 1048576) (s0 : ByteArray) (hs : s0.size ≤ 3000000000000) :
    Evt (fun d n => l30x1 (TabD fs d) d n [(.b [.v (.int .i64 na0), .v (.int .i64 na1), .v (.int .i64 na2), .fz 13 la3, .fz 6 la4, .fz 5 la5, .fz 1 la6]), .v (.string s0), .fz 6 la4, .v (.int .i64 (la4.length : Int)), .v (.int .i64 0)]) (.exit 2, [.v (.string (la4.foldl (fun acc x => acc ++ postLine la5 x) s0))]) := by
  refine (fold_loop (L := fun d n acc i => l30x1 (TabD fs d) d n [(.b [.v (.int .i64 na0), .v (.int .i64 na1), .v (.int .i64 na2), .fz 13 la3, .fz 6 la4, .fz 5 la5, .fz 1 la6]), .v (.string acc), .fz 6 la4, .v (.int .i64 (la4.length : Int)), .v (.int .i64 i)]) (f := fun acc x => acc ++ postLine la5 x) (Y := fun acc => (.exit 2, [.v (.string acc)])) (fun i acc => acc.size ≤ 3000000000000 + i * 2000000) (fun d n acc => ?_) (fun i x acc res hi hx hI k => ?_) (fun i x acc hi hx hI => ?_) (by omega)).1
  · rw [l30x1s]
    simp only [cI, cB, cS, cL, oD_d, oG_g, oT_t, oP_p, dI_v, dB_v, dS_v, dL_s, cell_z, cell_s, nth_z, nth_s, aV_z, aV_s, aI_v, aB_v, aS_v, aL_f, aO_o, aX_b, tst_t, cond_true, cond_false, Ex.same, Nat.beq, List.length_cons, List.length_nil, Int.toNat_natCast, Int.lt_irrefl, decide_false]
  · have g := pa4.at hx
    have hn := wt_le hx
    rw [E126] at g
    obtain ⟨sx0, rx0, rfl, px0, g_x0⟩ := inv_s g
    obtain ⟨lx1, rx1, rfl, px1, g_x1⟩ := inv_sl W210 g_x0
    obtain ⟨lx2, rx2, rfl, px2, g_x2⟩ := inv_sl W9 g_x1
    obtain ⟨nx3, rx3, rfl, px3, g_x3⟩ := inv_i g_x2
    obtain ⟨nx4, rx4, rfl, px4, g_x4⟩ := inv_i g_x3
    obtain ⟨nx5, rx5, rfl, px5, g_x5⟩ := inv_i g_x4
    cases inv_nil g_x5
    have s1 : sx0.size ≤ 1048576 := by simp only [wtRow, wtD] at hn; omega
    have d2 := decS_size px3.1 px3.2
    have g1 := sum_fits (ofName sx0) (fun x => cN x 2) la5
    have g2 := sum_fits (isGone sx0) (fun _ => 1) la5
    have d3 := decS_size g1.1 g1.2
    have d4 := decS_size g2.1 g2.2
    have yisland := zisland
    have yroom := zroom
    have yused := zused
    have ygone := zgone
    have ynl := znl
    simp only [l30x1s]
    simp only [cI, cB, cS, cL, oD_d, oG_g, oT_t, oP_p, dI_v, dB_v, dS_v, dL_s, cell_z, cell_s, nth_z, nth_s, aV_z, aV_s, aI_v, aB_v, aS_v, aL_f, aO_o, aX_b, tst_t, cond_true, cond_false, Ex.same, Nat.beq, List.length_cons, List.length_nil, Int.toNat_natCast, decide_eq_true (Int.ofNat_lt.2 hi), dec_nn, look_at hx, wrap_succ hi pa4.le, beq_t, show (⟨#[32, 119, 97, 110, 116, 32]⟩ : ByteArray) = twant from rfl, show (⟨#[32, 112, 108, 97, 99, 101, 100, 32]⟩ : ByteArray) = tplaced from rfl, show (⟨#[32, 114, 117, 110, 110, 105, 110, 103, 32]⟩ : ByteArray) = trunning from rfl, show (⟨#[32, 101, 110, 100, 115]⟩ : ByteArray) = tends from rfl, show (⟨#[10]⟩ : ByteArray) = tnl from rfl, show (⟨#[105, 115, 108, 97, 110, 100, 32]⟩ : ByteArray) = tisland from rfl, show (⟨#[32, 114, 111, 111, 109, 32]⟩ : ByteArray) = troom from rfl, show (⟨#[32, 117, 115, 101, 100, 32]⟩ : ByteArray) = tused from rfl, show (⟨#[32, 103, 111, 110, 101, 32]⟩ : ByteArray) = tgone from rfl]
    simp only [postLine, cN, cT, cE, List.getElem?_cons_zero, List.getElem?_cons_succ] at k
    refine ev_tst (sz_le (by simp only [ByteArray.size_append, maxLen]; omega)) ?_
    refine ev_tst (sz_le (by simp only [ByteArray.size_append, maxLen]; omega)) ?_
    refine ev_call (f83 px3) ?_
    simp only [cI, cB, cS, cL, oD_d, oG_g, oT_t, oP_p, dI_v, dB_v, dS_v, dL_s, cell_z, cell_s, nth_z, nth_s, aV_z, aV_s, aI_v, aB_v, aS_v, aL_f, aO_o, aX_b, tst_t, cond_true, cond_false, Ex.same, Nat.beq, List.length_cons, List.length_nil, Int.toNat_natCast]
    refine ev_tst (sz_le (by simp only [ByteArray.size_append, maxLen]; omega)) ?_
    refine ev_tst (sz_le (by simp only [ByteArray.size_append, maxLen]; omega)) ?_
    refine ev_call (f86 kk sx0 rfl) ?_
    simp only [cI, cB, cS, cL, oD_d, oG_g, oT_t, oP_p, dI_v, dB_v, dS_v, dL_s, cell_z, cell_s, nth_z, nth_s, aV_z, aV_s, aI_v, aB_v, aS_v, aL_f, aO_o, aX_b, tst_t, cond_true, cond_false, Ex.same, Nat.beq, List.length_cons, List.length_nil, Int.toNat_natCast]
    refine ev_call (f83 g1) ?_
    simp only [cI, cB, cS, cL, oD_d, oG_g, oT_t, oP_p, dI_v, dB_v, dS_v, dL_s, cell_z, cell_s, nth_z, nth_s, aV_z, aV_s, aI_v, aB_v, aS_v, aL_f, aO_o, aX_b, tst_t, cond_true, cond_false, Ex.same, Nat.beq, List.length_cons, List.length_nil, Int.toNat_natCast]
    refine ev_tst (sz_le (by simp only [ByteArray.size_append, maxLen]; omega)) ?_
    refine ev_tst (sz_le (by simp only [ByteArray.size_append, maxLen]; omega)) ?_
    refine ev_call (f87 kk sx0 rfl) ?_
    simp only [cI, cB, cS, cL, oD_d, oG_g, oT_t, oP_p, dI_v, dB_v, dS_v, dL_s, cell_z, cell_s, nth_z, nth_s, aV_z, aV_s, aI_v, aB_v, aS_v, aL_f, aO_o, aX_b, tst_t, cond_true, cond_false, Ex.same, Nat.beq, List.length_cons, List.length_nil, Int.toNat_natCast]
    refine ev_call (f83 g2) ?_
    simp only [cI, cB, cS, cL, oD_d, oG_g, oT_t, oP_p, dI_v, dB_v, dS_v, dL_s, cell_z, cell_s, nth_z, nth_s, aV_z, aV_s, aI_v, aB_v, aS_v, aL_f, aO_o, aX_b, tst_t, cond_true, cond_false, Ex.same, Nat.beq, List.length_cons, List.length_nil, Int.toNat_natCast]
    refine ev_tst (sz_le (by simp only [ByteArray.size_append, maxLen]; omega)) ?_
    refine ev_tst (sz_le (by simp only [ByteArray.size_append, maxLen]; omega)) ?_
    refine ev_tst (sz_le (by simp only [ByteArray.size_append, maxLen]; omega)) ?_
    simp only [ByteArray.append_assoc] at k ⊢
    exact k
  · have g := pa4.at hx
    have hn := wt_le hx
    rw [E126] at g
    obtain ⟨sx0, rx0, rfl, px0, g_x0⟩ := inv_s g
    obtain ⟨lx1, rx1, rfl, px1, g_x1⟩ := inv_sl W210 g_x0
    obtain ⟨lx2, rx2, rfl, px2, g_x2⟩ := inv_sl W9 g_x1
    obtain ⟨nx3, rx3, rfl, px3, g_x3⟩ := inv_i g_x2
    obtain ⟨nx4, rx4, rfl, px4, g_x4⟩ := inv_i g_x3
    obtain ⟨nx5, rx5, rfl, px5, g_x5⟩ := inv_i g_x4
    cases inv_nil g_x5
    have s1 : sx0.size ≤ 1048576 := by simp only [wtRow, wtD] at hn; omega
    have d2 := decS_size px3.1 px3.2
    have g1 := sum_fits (ofName sx0) (fun x => cN x 2) la5
    have g2 := sum_fits (isGone sx0) (fun _ => 1) la5
    have d3 := decS_size g1.1 g1.2
    have d4 := decS_size g2.1 g2.2
    have yisland := zisland
    have yroom := zroom
    have yused := zused
    have ygone := zgone
    have ynl := znl
    simp only [postLine, cN, cT, cE, List.getElem?_cons_zero, List.getElem?_cons_succ, ByteArray.size_append]
    rw [Nat.add_mul]
    have q1 := d3
    have q2 := d4
    simp only [cN, cT] at q1 q2
    omega
theorem f29 {row : Row} (h : ShL E (E 57) row) (hw : wtRow row ≤ 1048576) {js ps hs : Rows} (e3 : row[3]? = some (.s 13 js)) (e4 : row[4]? = some (.s 6 ps)) (e5 : row[5]? = some (.s 5 hs)) : Ev fs 29 [.g row] ⟨.d (.v (.string (summary hs js ps))), []⟩ := by
  have kk := h
  rw [E57] at h
  obtain ⟨na0, ra0, rfl, pa0, h_a0⟩ := inv_i h
  obtain ⟨na1, ra1, rfl, pa1, h_a1⟩ := inv_i h_a0
  obtain ⟨na2, ra2, rfl, pa2, h_a2⟩ := inv_i h_a1
  obtain ⟨la3, ra3, rfl, pa3, h_a3⟩ := inv_sl W120 h_a2
  obtain ⟨la4, ra4, rfl, pa4, h_a4⟩ := inv_sl W126 h_a3
  obtain ⟨la5, ra5, rfl, pa5, h_a5⟩ := inv_sl W96 h_a4
  obtain ⟨la6, ra6, rfl, pa6, h_a6⟩ := inv_sl W9 h_a5
  cases inv_nil h_a6
  have q3 : la3 = js := by simpa using e3
  have q4 : la4 = ps := by simpa using e4
  have q5 : la5 = hs := by simpa using e5
  subst q3 q4 q5
  simp only [wtRow, wtD] at hw
  obtain ⟨j1, j2⟩ := jobs29 kk pa3 (by omega) (by omega)
  have j3 := posts29 kk pa4 pa5 (by omega) (by omega) _ (Nat.le_trans j2 (by omega))
  refine Ev.of (af := a29) rfl rfl (Evt.congr (fun d n => a29q ..) ?_)
  refine ev_aft (L := fun d m => l29x0 (TabD fs d) d m [(.b [.v (.int .i64 na0), .v (.int .i64 na1), .v (.int .i64 na2), .fz 13 la3, .fz 6 la4, .fz 5 la5, .fz 1 la6]), .v (.string ⟨#[]⟩), .v (.int .i64 0)]) j1 ?_
  simp only [cI, cB, cS, cL, oD_d, oG_g, oT_t, oP_p, dI_v, dB_v, dS_v, dL_s, cell_z, cell_s, nth_z, nth_s, aV_z, aV_s, aI_v, aB_v, aS_v, aL_f, aO_o, aX_b, tst_t, cond_true, cond_false, Ex.same, Nat.beq, List.length_cons, List.length_nil, Int.toNat_natCast]
  refine ev_aft (L := fun d m => l29x1 (TabD fs d) d m [(.b [.v (.int .i64 na0), .v (.int .i64 na1), .v (.int .i64 na2), .fz 13 la3, .fz 6 la4, .fz 5 la5, .fz 1 la6]), .v (.string (la3.foldl (fun acc x => acc ++ jobLine la5 x) ⟨#[]⟩)), .v (.int .i64 0)]) j3 ?_
  simp only [cI, cB, cS, cL, oD_d, oG_g, oT_t, oP_p, dI_v, dB_v, dS_v, dL_s, cell_z, cell_s, nth_z, nth_s, aV_z, aV_s, aI_v, aB_v, aS_v, aL_f, aO_o, aX_b, tst_t, cond_true, cond_false, Ex.same, Nat.beq, List.length_cons, List.length_nil, Int.toNat_natCast]
  exact Evt.ret
theorem f30 {row : Row} (h : ShL E (E 57) row) (hw : wtRow row ≤ 1048576) {js ps hs : Rows} (e3 : row[3]? = some (.s 13 js)) (e4 : row[4]? = some (.s 6 ps)) (e5 : row[5]? = some (.s 5 hs)) : Ev fs 30 [.g row] ⟨.d (.v (.string (summary hs js ps))), []⟩ := by
  have kk := h
  rw [E57] at h
  obtain ⟨na0, ra0, rfl, pa0, h_a0⟩ := inv_i h
  obtain ⟨na1, ra1, rfl, pa1, h_a1⟩ := inv_i h_a0
  obtain ⟨na2, ra2, rfl, pa2, h_a2⟩ := inv_i h_a1
  obtain ⟨la3, ra3, rfl, pa3, h_a3⟩ := inv_sl W120 h_a2
  obtain ⟨la4, ra4, rfl, pa4, h_a4⟩ := inv_sl W126 h_a3
  obtain ⟨la5, ra5, rfl, pa5, h_a5⟩ := inv_sl W96 h_a4
  obtain ⟨la6, ra6, rfl, pa6, h_a6⟩ := inv_sl W9 h_a5
  cases inv_nil h_a6
  have q3 : la3 = js := by simpa using e3
  have q4 : la4 = ps := by simpa using e4
  have q5 : la5 = hs := by simpa using e5
  subst q3 q4 q5
  simp only [wtRow, wtD] at hw
  obtain ⟨j1, j2⟩ := jobs30 kk pa3 (by omega) (by omega)
  have j3 := posts30 kk pa4 pa5 (by omega) (by omega) _ (Nat.le_trans j2 (by omega))
  refine Ev.of (af := a30) rfl rfl (Evt.congr (fun d n => a30q ..) ?_)
  refine ev_aft (L := fun d m => l30x0 (TabD fs d) d m [(.b [.v (.int .i64 na0), .v (.int .i64 na1), .v (.int .i64 na2), .fz 13 la3, .fz 6 la4, .fz 5 la5, .fz 1 la6]), .v (.string ⟨#[]⟩), .fz 13 la3, .v (.int .i64 (la3.length : Int)), .v (.int .i64 0)]) j1 ?_
  simp only [cI, cB, cS, cL, oD_d, oG_g, oT_t, oP_p, dI_v, dB_v, dS_v, dL_s, cell_z, cell_s, nth_z, nth_s, aV_z, aV_s, aI_v, aB_v, aS_v, aL_f, aO_o, aX_b, tst_t, cond_true, cond_false, Ex.same, Nat.beq, List.length_cons, List.length_nil, Int.toNat_natCast]
  refine ev_aft (L := fun d m => l30x1 (TabD fs d) d m [(.b [.v (.int .i64 na0), .v (.int .i64 na1), .v (.int .i64 na2), .fz 13 la3, .fz 6 la4, .fz 5 la5, .fz 1 la6]), .v (.string (la3.foldl (fun acc x => acc ++ jobLine la5 x) ⟨#[]⟩)), .fz 6 la4, .v (.int .i64 (la4.length : Int)), .v (.int .i64 0)]) j3 ?_
  simp only [cI, cB, cS, cL, oD_d, oG_g, oT_t, oP_p, dI_v, dB_v, dS_v, dL_s, cell_z, cell_s, nth_z, nth_s, aV_z, aV_s, aI_v, aB_v, aS_v, aL_f, aO_o, aX_b, tst_t, cond_true, cond_false, Ex.same, Nat.beq, List.length_cons, List.length_nil, Int.toNat_natCast]
  exact Evt.ret
end Go.Am.Sm
