/- Numbers, quotes and values as text. Nothing is assumed. -/
import Derived.Test.YtefdfdkkbbehiaaGreatDoorPpP
namespace Go.Am.Pp
set_option linter.unusedVariables false
set_option linter.unusedSimpArgs false
set_option maxRecDepth 8000
theorem int_loop (s : ByteArray) : ∀ (k x : Nat), x < 10 ^ (k + 1) → x < 2 ^ 64 → k ≤ 40 → ∀ dd : ByteArray, dd.size + k ≤ 40 →
  ∃ (x' : Nat) (dd' : ByteArray), x' < 10 ∧ one (48 + x') ++ dd' = dg x ++ dd ∧ dd'.size ≤ 40 ∧
   Evt (fun d n => l88x0 (TabD fs d) d n [.v (.int .u64 x), .v (.string s), .v (.string dd)]) (.exit 0, [.v (.int .u64 x'), .v (.string s), .v (.string dd')]) := by
 intro k
 induction k with
 | zero =>
  intro x hx _ _ dd hdd
  have hx' : x < 10 := by omega
  refine ⟨x, dd, hx', by rw [dg_small hx'], by omega, ev_succ ?_⟩
  simp only [l88x0s]
  simp -implicitDefEqProofs only [rdl, Ex.same, Nat.beq, show decide ((x : Int) ≥ 10) = false from by simp; omega]
  exact Evt.ret
 | succ k ih =>
  intro x hx h64 hk dd hdd
  rcases Nat.lt_or_ge x 10 with hx' | hx'
  ·refine ⟨x, dd, hx', by rw [dg_small hx'], by omega, ev_succ ?_⟩
   simp only [l88x0s]
   simp -implicitDefEqProofs only [rdl, Ex.same, Nat.beq, show decide ((x : Int) ≥ 10) = false from by simp; omega]
   exact Evt.ret
  ·have hm : x % 10 < 10 := Nat.mod_lt _ (by omega)
   obtain ⟨x', dd', h1, h2, h3, h4⟩ := ih (x / 10) (by rw [Nat.pow_succ] at hx; omega) (by omega) (by omega) (one (48 + x % 10) ++ dd) (by rw [ByteArray.size_append, one_size]; omega)
   refine ⟨x', dd', h1, by rw [h2, dg_big hx', ByteArray.append_assoc], h3, ev_succ ?_⟩
   have e1 : Int.tmod (x : Int) 10 = ((x % 10 : Nat) : Int) := by rw [Int.tmod_eq_emod_of_nonneg (by omega)]; omega
   have e2 : IntKind.u64.wrap (Int.tdiv (x : Int) 10) = ((x / 10 : Nat) : Int) := by
    rw [Int.tdiv_eq_ediv_of_nonneg (by omega)]
    rw [wrap_u64 (by omega) (by omega)]
    omega
   simp only [l88x0s, e1, e2, dig_u8 hm]
   simp -implicitDefEqProofs only [rdl, Ex.same, Nat.beq, show decide ((x : Int) ≥ 10) = true from by simp; omega, show decide ((10 : Nat) ≠ 0) = true from rfl, all_one, bytes_one]
   refine ev_tst (sz_le (by have h1 := one_size (48 + x % 10); have h2 : maxLen = 9223372036854775807 := rfl; omega)) ?_
   exact h4
theorem f88 {n : Int} (h : Fits n) : Ev fs 88 [.d (.v (.int .i64 n))] ⟨.d (.v (.string (decS n))), []⟩ := by
 have h' := h
 simp only [Fits, IntKind.min, IntKind.max, IntKind.signed, IntKind.bits] at h'
 simp at h'
 refine Ev.of (af := a88) rfl rfl (Evt.congr (fun d n => a88q ..) ?_)
 refine ev_if (fun hc => ?_) (fun hc => ?_)
 ·have hn : n < 0 := by simpa using hc
  have e1 : IntKind.u64.wrap (IntKind.u64.wrap (IntKind.i64.wrap (0 - IntKind.i64.wrap (n + 1))) + 1) = ((n.natAbs : Nat) : Int) := by
   rw [wrap_i64 (n := n + 1) (by omega) (by omega), wrap_i64 (by omega) (by omega), wrap_u64 (n := 0 - (n + 1)) (by omega) (by omega), wrap_u64 (by omega) (by omega)]
   omega
  obtain ⟨x', dd', h1, h2, h3, h4⟩ := int_loop ⟨#[45]⟩ 20 n.natAbs (by omega) (by omega) (by omega) ⟨#[]⟩ (by decide)
  rw [e1]
  refine ev_aft (L := fun d m => l88x0 (TabD fs d) d m [.v (.int .u64 (n.natAbs : Nat)), .v (.string ⟨#[45]⟩), .v (.string ⟨#[]⟩)]) h4 ?_
  simp -implicitDefEqProofs only [rdl, Ex.same, Nat.beq, dig_u8 h1, all_one, bytes_one]
  have hz : (⟨#[45]⟩ : ByteArray).size = 1 := rfl
  refine ev_tst (sz_le (by rw [hz, one_size]; decide)) ?_
  refine ev_tst (sz_le (by rw [ByteArray.size_append, hz, one_size]; simp only [maxLen]; omega)) ?_
  refine Evt.ret' ?_
  have he : (⟨#[]⟩ : ByteArray) = ByteArray.empty := rfl
  simp only [decS, hn, if_true]
  rw [ByteArray.append_assoc, h2, he, ByteArray.append_empty]
  rfl
 ·have hn : ¬ n < 0 := by simpa using hc
  have e1 : IntKind.u64.wrap n = ((n.natAbs : Nat) : Int) := by
   rw [wrap_u64 (by omega) (by omega)]
   omega
  obtain ⟨x', dd', h1, h2, h3, h4⟩ := int_loop ⟨#[]⟩ 20 n.natAbs (by omega) (by omega) (by omega) ⟨#[]⟩ (by decide)
  rw [e1]
  refine ev_aft (L := fun d m => l88x0 (TabD fs d) d m [.v (.int .u64 (n.natAbs : Nat)), .v (.string ⟨#[]⟩), .v (.string ⟨#[]⟩)]) h4 ?_
  simp -implicitDefEqProofs only [rdl, Ex.same, Nat.beq, dig_u8 h1, all_one, bytes_one]
  have hz : (⟨#[]⟩ : ByteArray).size = 0 := rfl
  refine ev_tst (sz_le (by rw [hz, one_size]; decide)) ?_
  refine ev_tst (sz_le (by rw [ByteArray.size_append, hz, one_size]; simp only [maxLen]; omega)) ?_
  refine Evt.ret' ?_
  have he : (⟨#[]⟩ : ByteArray) = ByteArray.empty := rfl
  simp only [decS, hn, if_false]
  rw [he, ByteArray.empty_append, h2, he, ByteArray.append_empty]
theorem dec_pos : ∀ (k n : Nat), n ≤ k → n < 2 ^ 63 → Ev fs 106 [.d (.v (.int .i64 (n : Int)))] ⟨.d (.v (.string (dg n))), []⟩ := by
 intro k
 induction k with
 | zero =>
  intro n hn h63
  have hn0 : n = 0 := by omega
  subst hn0
  refine Ev.of (af := a106) rfl rfl (Evt.congr (fun d n => a106q ..) ?_)
  simp -implicitDefEqProofs only [rdl, Ex.same, Nat.beq, beq_t, show decide (((0 : Nat) : Int) < 0) = false from rfl, show decide (((0 : Nat) : Int) < 10) = true from rfl, dig_i32 (m := 0) (by omega), enc_one (c := 48 + 0) (by omega)]
  rw [dg_small (by omega)]
  exact Evt.ret
 | succ k ih =>
  intro n hn h63
  refine Ev.of (af := a106) rfl rfl (Evt.congr (fun d n => a106q ..) ?_)
  have c0 : decide ((n : Int) < 0) = false := by simp
  rcases Nat.lt_or_ge n 10 with h | h
  ·simp -implicitDefEqProofs only [rdl, Ex.same, Nat.beq, beq_t, c0, show decide ((n : Int) < 10) = true from by simp; omega, dig_i32 h, enc_one (c := 48 + n) (by omega)]
   rw [dg_small h]
   exact Evt.ret
  ·have hm : n % 10 < 10 := Nat.mod_lt _ (by omega)
   have e1 : Int.tmod (n : Int) 10 = ((n % 10 : Nat) : Int) := by rw [Int.tmod_eq_emod_of_nonneg (by omega)]; omega
   have e2 : IntKind.i64.wrap (Int.tdiv (n : Int) 10) = ((n / 10 : Nat) : Int) := by
    rw [Int.tdiv_eq_ediv_of_nonneg (by omega)]
    rw [wrap_i64 (by omega) (by omega)]
    omega
   simp -implicitDefEqProofs only [rdl, Ex.same, Nat.beq, beq_t, c0, show decide ((n : Int) < 10) = false from by simp; omega, e1, e2, dig_i32 hm, enc_one (c := 48 + n % 10) (by omega), show decide ((10 : Nat) ≠ 0) = true from rfl]
   refine ev_call (ih (n / 10) (by omega) (by omega)) ?_
   simp -implicitDefEqProofs only [rdl, Ex.same, Nat.beq]
   refine ev_tst (sz_le (by have h1 := one_size (48 + n % 10); have h3 := dg_size 20 (n / 10) (by omega); have h2 : maxLen = 9223372036854775807 := rfl; omega)) ?_
   rw [dg_big h]
   exact Evt.ret
theorem dec_neg : ∀ (k n : Nat), n ≤ k → 0 < n → n ≤ 2 ^ 63 → Ev fs 106 [.d (.v (.int .i64 (-(n : Int))))] ⟨.d (.v (.string (one 45 ++ dg n))), []⟩ := by
 intro k
 induction k with
 | zero => intro n hn h0; omega
 | succ k ih =>
  intro n hn h0 h63
  refine Ev.of (af := a106) rfl rfl (Evt.congr (fun d n => a106q ..) ?_)
  have c0 : decide (-(n : Int) < 0) = true := by simp; omega
  have hz : (⟨#[45]⟩ : ByteArray) = one 45 := rfl
  rcases Nat.lt_or_ge n 10 with h | h
  ·have e1 : IntKind.i64.wrap (0 - -(n : Int)) = (n : Int) := by rw [wrap_i64 (by omega) (by omega)]; omega
   simp -implicitDefEqProofs only [rdl, Ex.same, Nat.beq, beq_t, c0, show decide (-(n : Int) > (-10)) = true from by simp; omega, e1, hz]
   refine ev_call (dec_pos n n (by omega) (by omega)) ?_
   simp -implicitDefEqProofs only [rdl, Ex.same, Nat.beq]
   refine ev_tst (sz_le (by rw [one_size]; have := dg_size 20 n (by omega); simp only [maxLen]; omega)) ?_
   exact Evt.ret
  ·have hm : n % 10 < 10 := Nat.mod_lt _ (by omega)
   have e1 : IntKind.i64.wrap (0 - Int.tmod (-(n : Int)) 10) = ((n % 10 : Nat) : Int) := by
    rw [Int.neg_tmod, Int.tmod_eq_emod_of_nonneg (by omega), wrap_i64 (by omega) (by omega)]
    omega
   have e2 : IntKind.i64.wrap (Int.tdiv (-(n : Int)) 10) = -((n / 10 : Nat) : Int) := by
    rw [Int.neg_tdiv, Int.tdiv_eq_ediv_of_nonneg (by omega)]
    rw [wrap_i64 (by omega) (by omega)]
    omega
   simp -implicitDefEqProofs only [rdl, Ex.same, Nat.beq, beq_t, c0, show decide (-(n : Int) > (-10)) = false from by simp; omega, e1, e2, show decide ((10 : Nat) ≠ 0) = true from rfl]
   refine ev_call (ih (n / 10) (by omega) (by omega) (by omega)) ?_
   simp -implicitDefEqProofs only [rdl, Ex.same, Nat.beq]
   refine ev_call (dec_pos (n % 10) (n % 10) (by omega) (by omega)) ?_
   simp -implicitDefEqProofs only [rdl, Ex.same, Nat.beq]
   have q1 := dg_size 20 (n / 10) (by omega)
   have q2 := dg_size 20 (n % 10) (by omega)
   refine ev_tst (sz_le (by rw [ByteArray.size_append, one_size]; simp only [maxLen]; omega)) ?_
   rw [dg_big h, dg_small hm, ByteArray.append_assoc]
   exact Evt.ret
theorem f106 {n : Int} (h : Fits n) : Ev fs 106 [.d (.v (.int .i64 n))] ⟨.d (.v (.string (decS n))), []⟩ := by
 have h' := h
 simp only [Fits, IntKind.min, IntKind.max, IntKind.signed, IntKind.bits] at h'
 simp at h'
 unfold decS
 by_cases hn : n < 0
 ·obtain ⟨m, rfl⟩ : ∃ m : Nat, n = -(m : Int) := ⟨n.natAbs, by omega⟩
  have e : (-(m : Int)).natAbs = m := by omega
  simp only [hn, if_true, e]
  exact dec_neg m m (by omega) (by omega) (by omega)
 ·obtain ⟨m, rfl⟩ : ∃ m : Nat, n = (m : Int) := ⟨n.natAbs, by omega⟩
  have e : (m : Int).natAbs = m := by omega
  simp only [hn, if_false, e]
  exact dec_pos m m (by omega) (by omega)
def rowsB (l : List UInt8) : Rows := l.map fun b => [.v (.int .u8 b.toNat)]
theorem rowsB_one (b : UInt8) : ([[(.v (.int .u8 (b.toNat : Int)))]] : Rows) = rowsB [b] := rfl
theorem rowsB_app (a b : List UInt8) : rowsB a ++ rowsB b = rowsB (a ++ b) := by simp [rowsB]
theorem rowsB_len (l : List UInt8) : (rowsB l).length = l.length := by simp [rowsB]
theorem byte_row (b : UInt8) : byteOfRow [.v (.int .u8 b.toNat)] = some b := by simp [byteOfRow]
theorem rowsB_all (l : List UInt8) : allBytes (rowsB l) = true := by simp [allBytes, rowsB, byte_row]
theorem rowsB_str (l : List UInt8) : bytesOfRows (rowsB l) = bOf l := by
 have : (rowsB l).filterMap byteOfRow = l := by
  induction l with
  | nil => rfl
  | cons b l ih => simp only [rowsB, List.map_cons, List.filterMap_cons, byte_row]; exact congrArg _ ih
 simp [bytesOfRows, this]
theorem quo_loop {s : ByteArray} (hs : s.size ≤ 1000000) : ∀ (k i : Nat), s.size - i = k → i ≤ s.size → ∀ acc : List UInt8, acc.length ≤ 2 * i + 1 →
  Evt (fun d n => l87x0 (TabD fs d) d n [.v (.string s), .o 1 (rowsB acc), .v (.int .i64 (i : Int))]) (.exit 0, [.o 1 (rowsB (acc ++ (s.toList.drop i).flatMap esc))]) := by
 intro k
 induction k with
 | zero =>
  intro i hk hi acc ha
  have : i = s.size := by omega
  subst this
  refine ev_succ ?_
  simp only [l87x0s]
  simp -implicitDefEqProofs only [rdl, Ex.same, Nat.beq, Int.lt_irrefl, decide_false]
  refine Evt.ret' ?_
  rw [List.drop_of_length_le (by rw [ByteArray.toList_eq, Array.length_toList]; exact Nat.le_refl _)]
  simp
 | succ k ih =>
  intro i hk hi acc ha
  have hlt : i < s.size := by omega
  obtain ⟨b, hb⟩ := byte_get hlt
  have hd : s.toList.drop i = b :: s.toList.drop (i + 1) := by
   obtain ⟨h1, h2⟩ := List.getElem?_eq_some_iff.1 hb
   rw [List.drop_eq_getElem_cons h1, h2]
  have hw := wrap_succ hlt (show s.size ≤ maxLen by simp only [maxLen]; omega)
  refine ev_succ ?_
  simp only [l87x0s]
  simp -implicitDefEqProofs only [rdl, Ex.same, Nat.beq, decide_eq_true (Int.ofNat_lt.2 hlt), dec_nn, byteAt_at hb, hw]
  have e92 : ([[(.v (.int .u8 92))]] : Rows) = rowsB [92] := rfl
  have nx := fun acc' h => ih (i + 1) (by omega) (by omega) acc' h
  have m1 : decide (((rowsB acc).length + ([[(.v (.int .u8 92))]] : Rows).length) * 1 ≤ maxBytes) = true := decide_eq_true (by simp only [rowsB_len, maxBytes, List.length_cons, List.length_nil]; omega)
  have m2 : decide (((rowsB acc ++ ([[(.v (.int .u8 92))]] : Rows)).length + ([[(.v (.int .u8 (b.toNat : Int)))]] : Rows).length) * 1 ≤ maxBytes) = true := decide_eq_true (by simp only [List.length_append, rowsB_len, maxBytes, List.length_cons, List.length_nil]; omega)
  have m3 : decide (((rowsB acc).length + ([[(.v (.int .u8 (b.toNat : Int)))]] : Rows).length) * 1 ≤ maxBytes) = true := decide_eq_true (by simp only [rowsB_len, maxBytes, List.length_cons, List.length_nil]; omega)
  have two : b.toNat = 34 ∨ b.toNat = 92 → Evt (fun d n => l87x0 (TabD fs d) d n [.v (.string s), .o 1 (rowsB acc ++ ([[(.v (.int .u8 92))]] : Rows) ++ ([[(.v (.int .u8 (b.toNat : Int)))]] : Rows)), .v (.int .i64 ((i + 1 : Nat) : Int))]) (.exit 0, [.o 1 (rowsB (acc ++ (s.toList.drop i).flatMap esc))]) := fun hc => by
   have he : esc b = [92, b] := by
    unfold esc
    rcases hc with hc | hc
    ·have : b = 34 := UInt8.toNat_inj.1 hc
     simp [this]
    ·have : b = 92 := UInt8.toNat_inj.1 hc
     simp [this]
   have := nx (acc ++ [92] ++ [b]) (by simp; omega)
   rw [rowsB_one, e92, rowsB_app, rowsB_app, hd]
   simpa [he] using this
  have onee : ¬ (b.toNat = 34 ∨ b.toNat = 92) → Evt (fun d n => l87x0 (TabD fs d) d n [.v (.string s), .o 1 (rowsB acc ++ ([[(.v (.int .u8 (b.toNat : Int)))]] : Rows)), .v (.int .i64 ((i + 1 : Nat) : Int))]) (.exit 0, [.o 1 (rowsB (acc ++ (s.toList.drop i).flatMap esc))]) := fun hc => by
   have he : esc b = [b] := by
    unfold esc
    refine if_neg fun h => hc ?_
    rcases h with h | h
    ·exact .inl (by rw [h]; rfl)
    ·exact .inr (by rw [h]; rfl)
   have := nx (acc ++ [b]) (by simp; omega)
   rw [rowsB_one, rowsB_app, hd]
   simpa [he] using this
  refine ev_if (fun c1 => ?_) (fun c1 => ?_)
  ·have c1 : ¬ b.toNat = 34 := by simp at c1; omega
   refine ev_if (fun c2 => ?_) (fun c2 => ?_)
   ·have c2 : b.toNat = 92 := by simp at c2; omega
    refine ev_tst m1 ?_
    refine ev_tst m2 ?_
    exact two (.inr c2)
   ·have c2 : ¬ b.toNat = 92 := by simp at c2; omega
    refine ev_tst m3 ?_
    exact onee (by omega)
  ·have c1 : b.toNat = 34 := by simp at c1; omega
   refine ev_tst m1 ?_
   refine ev_tst m2 ?_
   exact two (.inl c1)
theorem f87 {s : ByteArray} (hs : s.size ≤ 1000000) : Ev fs 87 [.d (.v (.string s))] ⟨.d (.v (.string (quoS s))), []⟩ := by
 refine Ev.of (af := a87) rfl rfl (Evt.congr (fun d n => a87q ..) ?_)
 have e34 : ([[(.v (.int .u8 34))]] : Rows) = rowsB [34] := rfl
 refine ev_aft (L := fun d n => l87x0 (TabD fs d) d n [.v (.string s), .o 1 (rowsB [34]), .v (.int .i64 ((0 : Nat) : Int))]) (quo_loop hs _ 0 rfl (by omega) [34] (by simp)) ?_
 have hl := flat_len esc_len s.toList
 have e : s.toList.length = s.size := by rw [ByteArray.toList_eq, Array.length_toList]; rfl
 simp -implicitDefEqProofs only [rdl, Ex.same, Nat.beq, e34, rowsB_app, rowsB_all, rowsB_str]
 refine ev_tst (decide_eq_true (by simp only [rowsB_len, List.length_append, List.length_cons, List.length_nil, List.drop_zero, maxBytes]; omega)) ?_
 refine Evt.ret' ?_
 simp [quoS, quoL, ByteArray.toList_eq]
theorem f137 {s old new : ByteArray} (h : repOk s old new = true) : Ev fs 137 [.d (.v (.string s)), .d (.v (.string old)), .d (.v (.string new))] ⟨.d (.v (.string (repS s old new))), []⟩ :=
 Ev.nat rfl ⟨0, fun _ _ _ _ => by show (((((((natF 137 fReplace 137 [.d (.v (.string s)), .d (.v (.string old)), .d (.v (.string new))]).or (natF 36 fJoin 137 [.d (.v (.string s)), .d (.v (.string old)), .d (.v (.string new))])).or (natF 151 fCut 137 [.d (.v (.string s)), .d (.v (.string old)), .d (.v (.string new))])).or (natF 154 fTrim 137 [.d (.v (.string s)), .d (.v (.string old)), .d (.v (.string new))])).or (natF 153 fAny 137 [.d (.v (.string s)), .d (.v (.string old)), .d (.v (.string new))])).or (natF 22 fSplit 137 [.d (.v (.string s)), .d (.v (.string old)), .d (.v (.string new))])).or (natF 56 fCut3 137 [.d (.v (.string s)), .d (.v (.string old)), .d (.v (.string new))])).or (natF 23 fSuf 137 [.d (.v (.string s)), .d (.v (.string old)), .d (.v (.string new))]) = _; simp [natF, fReplace, h, show Nat.beq 137 36 = false from rfl, show Nat.beq 137 151 = false from rfl, show Nat.beq 137 154 = false from rfl, show Nat.beq 137 153 = false from rfl, show Nat.beq 137 22 = false from rfl, show Nat.beq 137 56 = false from rfl, show Nat.beq 137 23 = false from rfl]⟩
theorem f105 {s : ByteArray} (hs : s.size ≤ 100000) : Ev fs 105 [.d (.v (.string s))] ⟨.d (.v (.string (quoS s))), []⟩ := by
 refine Ev.of (af := a105) rfl rfl (Evt.congr (fun d n => a105q ..) ?_)
 have h1 := rep_size (s := s) (old := ⟨#[92]⟩) (new := ⟨#[92, 92]⟩) (c := 92) (l := [92, 92]) rfl rfl rfl
 have h2 := rep_size (s := repS s ⟨#[92]⟩ ⟨#[92, 92]⟩) (old := ⟨#[34]⟩) (new := ⟨#[92, 34]⟩) (c := 34) (l := [92, 34]) rfl rfl rfl
 refine ev_call (f137 (rep_ok rfl rfl (by omega))) ?_
 simp -implicitDefEqProofs only [rdl, Ex.same, Nat.beq]
 refine ev_call (f137 (rep_ok rfl rfl (by omega))) ?_
 simp -implicitDefEqProofs only [rdl, Ex.same, Nat.beq]
 have e1 : (⟨#[34]⟩ : ByteArray).size = 1 := rfl
 refine ev_tst (sz_le (by rw [e1]; simp only [maxLen]; omega)) ?_
 refine ev_tst (sz_le (by rw [ByteArray.size_append, e1]; simp only [maxLen]; omega)) ?_
 exact Evt.ret' (by rw [quo_two])
theorem num_ok : ∀ (d : Nat) {v : Row}, ShL E (E 33) v → numOk d v := by
 intro d
 induction d with
 | zero => intro v _; trivial
 | succ d ih =>
  intro v h
  obtain ⟨na0, sa1, na2, la3, la4, rfl, pa0, pa1, pa2, pa3, pa4⟩ := I33 h
  refine ⟨pa2, fun x hx => ?_⟩
  obtain ⟨i, hi⟩ := List.getElem?_of_mem hx
  exact ih (pa4.at hi)
theorem strs_row {x : Row} (h : ShL E (E 9) x) : ∃ u : ByteArray, x = [.v (.string u)] := by
 obtain ⟨sa0, rfl, pa0⟩ := I9 h
 exact ⟨_, rfl⟩
theorem f53 : ∀ (d : Nat) {v : Row}, ShL E (E 33) v → 0 < valSz d v → Ev fs 53 [.g v] ⟨.d (.v (.string (vTxt d v))), []⟩ := by
 intro d
 induction d with
 | zero => intro v _ h; simp [valSz] at h
 | succ d ih =>
  intro v h hs
  have hn := num_ok (d + 1) h
  have hv := valAt hs
  have hk : ∀ x ∈ cR v 4, ((vTxt d x).size : Int) + 22 ≤ 272 * valSz d x := fun x hx => vTxt_size d x (hv.kids x hx) (hn.2 x hx)
  have hfit := fun i hi => kids_fit (i := i) hs hk hi
  have hrng := valSz_rng (d + 1) v
  have hshape := hv.shape
  have hkids := hv.kids
  obtain ⟨na0, sa1, na2, la3, la4, rfl, pa0, pa1, pa2, pa3, pa4⟩ := I33 h
  have hlen := pa4.le
  have ks : ∀ i, i < la4.length → ∃ x, la4[i]? = some x ∧ ShL E (E 33) x ∧ 0 < valSz d x ∧ row_ la4 i = x ∧ (vTxt d x).size ≤ 81600 := fun i hi => by
   have hx := List.getElem?_eq_getElem hi
   have hm : la4[i] ∈ cR ([.v (.int .i64 na0), .v (.string sa1), .v (.int .i64 na2), .s 1 la3, .s 5 la4] : Row) 4 := List.getElem_mem hi
   have q1 := hkids _ hm
   have q2 := hk _ hm
   have q3 := (valSz_rng d la4[i]).2
   exact ⟨_, hx, pa4.at hx, q1, row_at hi, by omega⟩
  have kk : na0 = 5 → ∀ i, i < la4.length → ∃ u : ByteArray, la3[i]? = some [.v (.string u)] ∧ cT (row_ la3 i) 0 = u ∧ u.size ≤ 20 := fun h5 i hi => by
   obtain ⟨q1, q2⟩ := shape_keys hshape (by simpa [cN] using h5)
   have hi3 : i < la3.length := by have q1 : la3.length = la4.length := q1; omega
   have hx := List.getElem?_eq_getElem hi3
   obtain ⟨u, hu⟩ := strs_row (pa3.at hx)
   have q3 := key_size q2 (i := i) hi3
   have e : row_ la3 i = [.v (.string u)] := by rw [row_at hi3, hu]
   refine ⟨u, by rw [hx, hu], by rw [e]; rfl, ?_⟩
   have q4 : (cT (row_ la3 i) 0).size ≤ 20 := q3
   rw [e] at q4
   exact q4
  have hJ : ∀ i, i ≤ la4.length → (J (kidsTxt (vTxt d) ([.v (.int .i64 na0), .v (.string sa1), .v (.int .i64 na2), .s 1 la3, .s 5 la4] : Row) i)).size ≤ 81600 := fun i hi => by have := hfit i hi; omega
  have c44 : comma = ({ data := #[44] } : ByteArray) := rfl
  have c58 : colon = ({ data := #[58] } : ByteArray) := rfl
  have z1 : ∀ b : UInt8, (⟨#[b]⟩ : ByteArray).size = 1 := fun _ => rfl
  have key : ∀ (k i : Nat), la4.length - i = k → i ≤ la4.length → ∀ b0 s1 : ByteArray, b0.size = 1 →
    Evt (fun d' n => l53x0 (TabD fs d') d' n [.b [.v (.int .i64 na0), .v (.string sa1), .v (.int .i64 na2), .fz 1 la3, .fz 5 la4], .v (.string (b0 ++ J (kidsTxt (vTxt d) ([.v (.int .i64 na0), .v (.string sa1), .v (.int .i64 na2), .s 1 la3, .s 5 la4] : Row) i))), .v (.string s1), .v (.int .i64 (i : Int))]) (.exit 1, [.v (.string (b0 ++ J (kidsTxt (vTxt d) ([.v (.int .i64 na0), .v (.string sa1), .v (.int .i64 na2), .s 1 la3, .s 5 la4] : Row) la4.length))), .v (.string s1)]) := by
   intro k
   induction k with
   | zero =>
    intro i hk' hi b0 s1 hb
    have : i = la4.length := by omega
    subst this
    refine ev_succ ?_
    simp only [l53x0s]
    simp -implicitDefEqProofs only [rdl, Ex.same, Nat.beq, Int.lt_irrefl, decide_false]
    exact Evt.ret
   | succ k ihk =>
    intro i hk' hi b0 s1 hb
    have hlt : i < la4.length := by omega
    obtain ⟨x, hx, hx2, hx3, hx4, hx5⟩ := ks i hlt
    have call := ih hx2 hx3
    have nx := ihk (i + 1) (by omega) (by omega) b0 s1 hb
    rw [J_step] at nx
    have hji := hJ i hi
    have hw := wrap_succ hlt hlen
    have hkt : kidTxt (vTxt d) ([.v (.int .i64 na0), .v (.string sa1), .v (.int .i64 na2), .s 1 la3, .s 5 la4] : Row) i = bif na0 == 5 then cT (row_ la3 i) 0 ++ colon ++ vTxt d x else vTxt d x := by
     show (bif na0 == 5 then _ else _) = _
     rw [← hx4]; rfl
    rw [hkt] at nx
    generalize J (kidsTxt (vTxt d) ([.v (.int .i64 na0), .v (.string sa1), .v (.int .i64 na2), .s 1 la3, .s 5 la4] : Row) i) = acc at nx hji
    generalize vTxt d x = tx at nx call hx5
    obtain ⟨nx0, sx1, nx2, lx3, lx4, rfl, px0, px1, px2, px3, px4⟩ := I33 hx2
    refine ev_succ ?_
    simp only [l53x0s]
    simp -implicitDefEqProofs only [rdl, Ex.same, Nat.beq, decide_eq_true (Int.ofNat_lt.2 hlt), dec_nn, look_at hx, hw]
    cases i with
    | zero =>
     simp -implicitDefEqProofs only [rdl, Ex.same, Nat.beq, pos_zero]
     simp only [show ((0 : Nat) == 0) = true from rfl, cond_true] at nx
     refine ev_if (fun c5 => ?_) (fun c5 => ?_)
     ·obtain ⟨u, hu, hu2, hu3⟩ := kk (by simpa using c5) 0 hlt
      rw [c5, hu2, c58] at nx
      simp only [cond_true, ← ByteArray.append_assoc] at nx
      simp -implicitDefEqProofs only [rdl, Ex.same, Nat.beq, look_at hu]
      refine ev_tst (sz_le (by simp only [ByteArray.size_append, z1, maxLen]; omega)) ?_
      refine ev_tst (sz_le (by simp only [ByteArray.size_append, z1, maxLen]; omega)) ?_
      refine ev_call call ?_
      simp -implicitDefEqProofs only [rdl, Ex.same, Nat.beq]
      refine ev_tst (sz_le (by simp only [ByteArray.size_append, z1, maxLen]; omega)) ?_
      exact nx
     ·rw [c5] at nx
      simp only [cond_false] at nx
      refine ev_call call ?_
      simp -implicitDefEqProofs only [rdl, Ex.same, Nat.beq]
      refine ev_tst (sz_le (by simp only [ByteArray.size_append, z1, maxLen]; omega)) ?_
      exact nx
    | succ i =>
     simp -implicitDefEqProofs only [rdl, Ex.same, Nat.beq, pos_succ]
     simp only [show ((i + 1 : Nat) == 0) = false from rfl, cond_false, c44] at nx
     refine ev_tst (sz_le (by simp only [ByteArray.size_append, z1, maxLen]; omega)) ?_
     refine ev_if (fun c5 => ?_) (fun c5 => ?_)
     ·obtain ⟨u, hu, hu2, hu3⟩ := kk (by simpa using c5) (i + 1) hlt
      rw [c5, hu2, c58] at nx
      simp only [cond_true, ← ByteArray.append_assoc] at nx
      simp -implicitDefEqProofs only [rdl, Ex.same, Nat.beq, look_at hu]
      refine ev_tst (sz_le (by simp only [ByteArray.size_append, z1, maxLen]; omega)) ?_
      refine ev_tst (sz_le (by simp only [ByteArray.size_append, z1, maxLen]; omega)) ?_
      refine ev_call call ?_
      simp -implicitDefEqProofs only [rdl, Ex.same, Nat.beq]
      refine ev_tst (sz_le (by simp only [ByteArray.size_append, z1, maxLen]; omega)) ?_
      exact nx
     ·rw [c5] at nx
      simp only [cond_false] at nx
      refine ev_call call ?_
      simp -implicitDefEqProofs only [rdl, Ex.same, Nat.beq]
      refine ev_tst (sz_le (by simp only [ByteArray.size_append, z1, maxLen]; omega)) ?_
      exact nx
  have e0 : ∀ b0 : ByteArray, b0 ++ J (kidsTxt (vTxt d) ([.v (.int .i64 na0), .v (.string sa1), .v (.int .i64 na2), .s 1 la3, .s 5 la4] : Row) 0) = b0 := fun b0 => ByteArray.append_empty
  have hJl := hJ la4.length (Nat.le_refl _)
  simp only [vTxt, cN, cT, cR, cE, List.getElem?_cons_zero, List.getElem?_cons_succ]
  refine Ev.of (af := a53) rfl rfl (Evt.congr (fun d n => a53q ..) ?_)
  refine ev_if (fun c1 => ?_) (fun c1 => ?_)
  ·have q := (shape_text hshape (by simpa [cN] using c1)).1
   have q : sa1.size ≤ 100 := q
   refine ev_call (f87 (by omega)) ?_
   simp -implicitDefEqProofs only [rdl, Ex.same, Nat.beq]
   exact Evt.ret' (by rw [c1]; rfl)
  ·rw [c1]
   refine ev_if (fun c2 => ?_) (fun c2 => ?_)
   ·refine ev_call (f88 pa2) ?_
    simp -implicitDefEqProofs only [rdl, Ex.same, Nat.beq]
    exact Evt.ret' (by rw [c2]; rfl)
   ·rw [c2]
    refine ev_if (fun c3 => ?_) (fun c3 => ?_)
    ·rw [c3]
     refine ev_if (fun c4 => ?_) (fun c4 => ?_)
     ·exact Evt.ret' (by rw [c4]; rfl)
     ·exact Evt.ret' (by rw [c4]; rfl)
    ·rw [c3]
     refine ev_if (fun c5 => ?_) (fun c5 => ?_)
     ·have q := key _ 0 rfl (by omega) ({ data := #[123] } : ByteArray) ({ data := #[125] } : ByteArray) rfl
      rw [e0] at q
      refine ev_aft (L := fun d' n => l53x0 (TabD fs d') d' n [.b [.v (.int .i64 na0), .v (.string sa1), .v (.int .i64 na2), .fz 1 la3, .fz 5 la4], .v (.string ({ data := #[123] } : ByteArray)), .v (.string ({ data := #[125] } : ByteArray)), .v (.int .i64 0)]) q ?_
      simp -implicitDefEqProofs only [rdl, Ex.same, Nat.beq]
      refine ev_tst (sz_le (by simp only [ByteArray.size_append, z1, maxLen]; omega)) ?_
      exact Evt.ret' (by rw [c5]; rfl)
     ·have q := key _ 0 rfl (by omega) ({ data := #[91] } : ByteArray) ({ data := #[93] } : ByteArray) rfl
      rw [e0] at q
      refine ev_aft (L := fun d' n => l53x0 (TabD fs d') d' n [.b [.v (.int .i64 na0), .v (.string sa1), .v (.int .i64 na2), .fz 1 la3, .fz 5 la4], .v (.string ({ data := #[91] } : ByteArray)), .v (.string ({ data := #[93] } : ByteArray)), .v (.int .i64 0)]) q ?_
      simp -implicitDefEqProofs only [rdl, Ex.same, Nat.beq]
      refine ev_tst (sz_le (by simp only [ByteArray.size_append, z1, maxLen]; omega)) ?_
      exact Evt.ret' (by rw [c5]; rfl)
def rowsS (l : List ByteArray) : Rows := l.map fun s => [D.v (.string s)]
theorem rowsS_snoc (l : List ByteArray) (s : ByteArray) : rowsS l ++ ([[(.v (.string s))]] : Rows) = rowsS (l ++ [s]) := by simp [rowsS]
theorem rowsS_len (l : List ByteArray) : (rowsS l).length = l.length := by simp [rowsS]
theorem f36 {l : List ByteArray} (h1 : l.length ≤ 1000000) (h2 : (J l).size ≤ 1000000) : Ev fs 36 [.d (.s 1 (rowsS l)), .d (.v (.string ({ data := #[44] } : ByteArray)))] ⟨.d (.v (.string (J l))), []⟩ :=
 Ev.nat rfl ⟨0, fun _ _ _ _ => by
  have h3 : strsOf (rowsS l) = some l := strsOf_map l
  have h4 : (joinS l ({ data := #[44] } : ByteArray)).size ≤ 1000000 := h2
  have h5 : joinOk l ({ data := #[44] } : ByteArray) = true := by simp [joinOk]; omega
  show (((((((natF 137 fReplace 36 [.d (.s 1 (rowsS l)), .d (.v (.string ({ data := #[44] } : ByteArray)))]).or (natF 36 fJoin 36 [.d (.s 1 (rowsS l)), .d (.v (.string ({ data := #[44] } : ByteArray)))])).or (natF 151 fCut 36 [.d (.s 1 (rowsS l)), .d (.v (.string ({ data := #[44] } : ByteArray)))])).or (natF 154 fTrim 36 [.d (.s 1 (rowsS l)), .d (.v (.string ({ data := #[44] } : ByteArray)))])).or (natF 153 fAny 36 [.d (.s 1 (rowsS l)), .d (.v (.string ({ data := #[44] } : ByteArray)))])).or (natF 22 fSplit 36 [.d (.s 1 (rowsS l)), .d (.v (.string ({ data := #[44] } : ByteArray)))])).or (natF 56 fCut3 36 [.d (.s 1 (rowsS l)), .d (.v (.string ({ data := #[44] } : ByteArray)))])).or (natF 23 fSuf 36 [.d (.s 1 (rowsS l)), .d (.v (.string ({ data := #[44] } : ByteArray)))]) = _
  simp [natF, fJoin, h3, h5, J, comma, show Nat.beq 36 137 = false from rfl, show Nat.beq 36 151 = false from rfl, show Nat.beq 36 154 = false from rfl, show Nat.beq 36 153 = false from rfl, show Nat.beq 36 22 = false from rfl, show Nat.beq 36 56 = false from rfl, show Nat.beq 36 23 = false from rfl]⟩
theorem f69 : ∀ (d : Nat) {v : Row}, ShL E (E 33) v → 0 < valSz d v → Ev fs 69 [.g v] ⟨.d (.v (.string (vTxt d v))), []⟩ := by
 intro d
 induction d with
 | zero => intro v _ h; simp [valSz] at h
 | succ d ih =>
  intro v h hs
  have hn := num_ok (d + 1) h
  have hv := valAt hs
  have hk : ∀ x ∈ cR v 4, ((vTxt d x).size : Int) + 22 ≤ 272 * valSz d x := fun x hx => vTxt_size d x (hv.kids x hx) (hn.2 x hx)
  have hfit := fun i hi => kids_fit (i := i) hs hk hi
  have hrng := valSz_rng (d + 1) v
  have hshape := hv.shape
  have hkids := hv.kids
  obtain ⟨na0, sa1, na2, la3, la4, rfl, pa0, pa1, pa2, pa3, pa4⟩ := I33 h
  have hlen := pa4.le
  have ks : ∀ i, i < la4.length → ∃ x, la4[i]? = some x ∧ ShL E (E 33) x ∧ 0 < valSz d x ∧ row_ la4 i = x ∧ (vTxt d x).size ≤ 81600 := fun i hi => by
   have hx := List.getElem?_eq_getElem hi
   have hm : la4[i] ∈ cR ([.v (.int .i64 na0), .v (.string sa1), .v (.int .i64 na2), .s 1 la3, .s 5 la4] : Row) 4 := List.getElem_mem hi
   have q1 := hkids _ hm
   have q2 := hk _ hm
   have q3 := (valSz_rng d la4[i]).2
   exact ⟨_, hx, pa4.at hx, q1, row_at hi, by omega⟩
  have kk : na0 = 5 → ∀ i, i < la4.length → ∃ u : ByteArray, la3[i]? = some [.v (.string u)] ∧ cT (row_ la3 i) 0 = u ∧ u.size ≤ 20 := fun h5 i hi => by
   obtain ⟨q1, q2⟩ := shape_keys hshape (by simpa [cN] using h5)
   have hi3 : i < la3.length := by have q1 : la3.length = la4.length := q1; omega
   have hx := List.getElem?_eq_getElem hi3
   obtain ⟨u, hu⟩ := strs_row (pa3.at hx)
   have q3 := key_size q2 (i := i) hi3
   have e : row_ la3 i = [.v (.string u)] := by rw [row_at hi3, hu]
   refine ⟨u, by rw [hx, hu], by rw [e]; rfl, ?_⟩
   have q4 : (cT (row_ la3 i) 0).size ≤ 20 := q3
   rw [e] at q4
   exact q4
  have hJ : ∀ i, i ≤ la4.length → (J (kidsTxt (vTxt d) ([.v (.int .i64 na0), .v (.string sa1), .v (.int .i64 na2), .s 1 la3, .s 5 la4] : Row) i)).size ≤ 81600 := fun i hi => by have := hfit i hi; omega
  have c44 : comma = ({ data := #[44] } : ByteArray) := rfl
  have c58 : colon = ({ data := #[58] } : ByteArray) := rfl
  have z1 : ∀ b : UInt8, (⟨#[b]⟩ : ByteArray).size = 1 := fun _ => rfl
  have key : ∀ (k i : Nat), la4.length - i = k → i ≤ la4.length →
    Evt (fun d' n => l69x0 (TabD fs d') d' n [.b [.v (.int .i64 na0), .v (.string sa1), .v (.int .i64 na2), .fz 1 la3, .fz 5 la4], .o 1 (rowsS (kidsTxt (vTxt d) ([.v (.int .i64 na0), .v (.string sa1), .v (.int .i64 na2), .s 1 la3, .s 5 la4] : Row) i)), .fz 5 la4, .v (.int .i64 (la4.length : Int)), .v (.int .i64 (i : Int))]) (.exit 1, [.b [.v (.int .i64 na0), .v (.string sa1), .v (.int .i64 na2), .fz 1 la3, .fz 5 la4], .o 1 (rowsS (kidsTxt (vTxt d) ([.v (.int .i64 na0), .v (.string sa1), .v (.int .i64 na2), .s 1 la3, .s 5 la4] : Row) la4.length))]) := by
   intro k
   induction k with
   | zero =>
    intro i hk' hi
    have : i = la4.length := by omega
    subst this
    refine ev_succ ?_
    simp only [l69x0s]
    simp -implicitDefEqProofs only [rdl, Ex.same, Nat.beq, Int.lt_irrefl, decide_false]
    exact Evt.ret
   | succ k ihk =>
    intro i hk' hi
    have hlt : i < la4.length := by omega
    obtain ⟨x, hx, hx2, hx3, hx4, hx5⟩ := ks i hlt
    have call := ih hx2 hx3
    have nx := ihk (i + 1) (by omega) (by omega)
    rw [kidsTxt_succ, ← rowsS_snoc] at nx
    have hw := wrap_succ hlt hlen
    have hkt : kidTxt (vTxt d) ([.v (.int .i64 na0), .v (.string sa1), .v (.int .i64 na2), .s 1 la3, .s 5 la4] : Row) i = bif na0 == 5 then cT (row_ la3 i) 0 ++ colon ++ vTxt d x else vTxt d x := by
     show (bif na0 == 5 then _ else _) = _
     rw [← hx4]; rfl
    rw [hkt] at nx
    have hkl : (rowsS (kidsTxt (vTxt d) ([.v (.int .i64 na0), .v (.string sa1), .v (.int .i64 na2), .s 1 la3, .s 5 la4] : Row) i)).length = i := by simp [rowsS_len, kidsTxt]
    have hn3 := shape_few hs
    have hn3 : la4.length ≤ 300 := hn3
    have hap : ∀ y : ByteArray, decide (((rowsS (kidsTxt (vTxt d) ([.v (.int .i64 na0), .v (.string sa1), .v (.int .i64 na2), .s 1 la3, .s 5 la4] : Row) i)).length + ([[(.v (.string y))]] : Rows).length) * 16 ≤ maxBytes) = true := fun y => decide_eq_true (by rw [hkl]; simp only [List.length_cons, List.length_nil, maxBytes]; omega)
    generalize rowsS (kidsTxt (vTxt d) ([.v (.int .i64 na0), .v (.string sa1), .v (.int .i64 na2), .s 1 la3, .s 5 la4] : Row) i) = acc at nx hap
    generalize vTxt d x = tx at nx call hx5
    obtain ⟨nx0, sx1, nx2, lx3, lx4, rfl, px0, px1, px2, px3, px4⟩ := I33 hx2
    refine ev_succ ?_
    simp only [l69x0s]
    simp -implicitDefEqProofs only [rdl, Ex.same, Nat.beq, decide_eq_true (Int.ofNat_lt.2 hlt), dec_nn, look_at hx, hw]
    refine ev_call call ?_
    simp -implicitDefEqProofs only [rdl, Ex.same, Nat.beq]
    refine ev_if (fun c5 => ?_) (fun c5 => ?_)
    ·obtain ⟨u, hu, hu2, hu3⟩ := kk (by simpa using c5) i hlt
     rw [c5, hu2, c58] at nx
     simp only [cond_true] at nx
     simp -implicitDefEqProofs only [rdl, Ex.same, Nat.beq, look_at hu]
     refine ev_tst (sz_le (by simp only [ByteArray.size_append, z1, maxLen]; omega)) ?_
     refine ev_tst (sz_le (by simp only [ByteArray.size_append, z1, maxLen]; omega)) ?_
     refine ev_tst (hap ByteArray.empty) ?_
     exact nx
    ·rw [c5] at nx
     simp only [cond_false] at nx
     refine ev_tst (hap ByteArray.empty) ?_
     exact nx
  have hJl := hJ la4.length (Nat.le_refl _)
  have hn3 := shape_few hs
  have hn3 : la4.length ≤ 300 := hn3
  simp only [vTxt, cN, cT, cR, cE, List.getElem?_cons_zero, List.getElem?_cons_succ]
  refine Ev.of (af := a69) rfl rfl (Evt.congr (fun d n => a69q ..) ?_)
  refine ev_if (fun c1 => ?_) (fun c1 => ?_)
  ·have q := (shape_text hshape (by simpa [cN] using c1)).1
   have q : sa1.size ≤ 100 := q
   refine ev_call (f105 (by omega)) ?_
   simp -implicitDefEqProofs only [rdl, Ex.same, Nat.beq]
   exact Evt.ret' (by rw [c1]; rfl)
  ·rw [c1]
   refine ev_if (fun c2 => ?_) (fun c2 => ?_)
   ·refine ev_call (f106 pa2) ?_
    simp -implicitDefEqProofs only [rdl, Ex.same, Nat.beq]
    exact Evt.ret' (by rw [c2]; rfl)
   ·rw [c2]
    refine ev_if (fun c3 => ?_) (fun c3 => ?_)
    ·rw [c3]
     refine ev_if (fun c4 => ?_) (fun c4 => ?_)
     ·exact Evt.ret' (by rw [c4]; rfl)
     ·exact Evt.ret' (by rw [c4]; rfl)
    ·rw [c3]
     refine ev_aft (L := fun d' n => l69x0 (TabD fs d') d' n [.b [.v (.int .i64 na0), .v (.string sa1), .v (.int .i64 na2), .fz 1 la3, .fz 5 la4], .o 1 [], .fz 5 la4, .v (.int .i64 (la4.length : Int)), .v (.int .i64 0)]) (key _ 0 rfl (by omega)) ?_
     simp -implicitDefEqProofs only [rdl, Ex.same, Nat.beq]
     refine ev_call (f36 (by simp [kidsTxt]; omega) (by omega)) ?_
     simp -implicitDefEqProofs only [rdl, Ex.same, Nat.beq]
     refine ev_if (fun c5 => ?_) (fun c5 => ?_)
     ·refine ev_tst (sz_le (by simp only [ByteArray.size_append, z1, maxLen]; omega)) ?_
      refine ev_tst (sz_le (by simp only [ByteArray.size_append, z1, maxLen]; omega)) ?_
      exact Evt.ret' (by rw [c5]; rfl)
     ·refine ev_tst (sz_le (by simp only [ByteArray.size_append, z1, maxLen]; omega)) ?_
      refine ev_tst (sz_le (by simp only [ByteArray.size_append, z1, maxLen]; omega)) ?_
      exact Evt.ret' (by rw [c5]; rfl)
end Go.Am.Pp
