/- Numbers, quotes and values as text. Nothing is assumed. -/
import Derived.Test.YtmgeoejefnablaaGreatDoorPmP
namespace Go.Am.Pm
set_option linter.unusedVariables false
set_option linter.unusedSimpArgs false
set_option maxRecDepth 8000
theorem B79 (s : ByteArray) : ∀ (k x : Nat), x < 10 ^ (k + 1) → x < 2 ^ 64 → k ≤ 40 → ∀ dd : ByteArray, dd.size + k ≤ 40 →
  ∃ (x' : Nat) (dd' : ByteArray), x' < 10 ∧ one (48 + x') ++ dd' = dg x ++ dd ∧ dd'.size ≤ 40 ∧
   Evt (fun d n => B1h (TabD fs d) d n [.v (.int .u64 x), .v (.string s), .v (.string dd)]) (.exit 0, [.v (.int .u64 x'), .v (.string s), .v (.string dd')]) := by
 intro k
 induction k with
 | zero =>
  intro x hx _ _ dd hdd
  have hx' : x < 10 := by omega
  refine ⟨x, dd, hx', by rw [Y4 hx'], by omega, F7 ?_⟩
  simp only [B90]
  simp -implicitDefEqProofs only [rdl, Ex.same, Nat.beq, show decide ((x : Int) ≥ 10) = false from by simp; omega]
  exact Evt.ret
 | succ k ih =>
  intro x hx h64 hk dd hdd
  rcases Nat.lt_or_ge x 10 with hx' | hx'
  ·refine ⟨x, dd, hx', by rw [Y4 hx'], by omega, F7 ?_⟩
   simp only [B90]
   simp -implicitDefEqProofs only [rdl, Ex.same, Nat.beq, show decide ((x : Int) ≥ 10) = false from by simp; omega]
   exact Evt.ret
  ·have hm : x % 10 < 10 := Nat.mod_lt _ (by omega)
   obtain ⟨x', dd', h1, h2, h3, h4⟩ := ih (x / 10) (by rw [Nat.pow_succ] at hx; omega) (by omega) (by omega) (one (48 + x % 10) ++ dd) (by rw [ByteArray.size_append, Q3]; omega)
   refine ⟨x', dd', h1, by rw [h2, A6i hx', ByteArray.append_assoc], h3, F7 ?_⟩
   have e1 : Int.tmod (x : Int) 10 = ((x % 10 : Nat) : Int) := by rw [Int.tmod_eq_emod_of_nonneg (by omega)]; omega
   have e2 : IntKind.u64.wrap (Int.tdiv (x : Int) 10) = ((x / 10 : Nat) : Int) := by
    rw [Int.tdiv_eq_ediv_of_nonneg (by omega)]
    rw [wrap_u64 (by omega) (by omega)]
    omega
   simp only [B90, e1, e2, B8n hm]
   simp -implicitDefEqProofs only [rdl, Ex.same, Nat.beq, show decide ((x : Int) ≥ 10) = true from by simp; omega, show decide ((10 : Nat) ≠ 0) = true from rfl, A46, A11]
   refine D8 (I7 (by have h1 := Q3 (48 + x % 10); have h2 : maxLen = 9223372036854775807 := rfl; omega)) ?_
   exact h4
theorem f98 {n : Int} (h : Fits n) : Ev fs 98 [.d (.v (.int .i64 n))] ⟨.d (.v (.string (J3 n))), []⟩ := by
 have h' := h
 simp only [Fits, IntKind.min, IntKind.max, IntKind.signed, IntKind.bits] at h'
 simp at h'
 refine Ev.of (af := a98) rfl rfl (Evt.congr (fun d n => D3z ..) ?_)
 refine D6 (fun hc => ?_) (fun hc => ?_)
 ·have hn : n < 0 := by simpa using hc
  have e1 : IntKind.u64.wrap (IntKind.u64.wrap (IntKind.i64.wrap (0 - IntKind.i64.wrap (n + 1))) + 1) = ((n.natAbs : Nat) : Int) := by
   rw [wrap_i64 (n := n + 1) (by omega) (by omega), wrap_i64 (by omega) (by omega), wrap_u64 (n := 0 - (n + 1)) (by omega) (by omega), wrap_u64 (by omega) (by omega)]
   omega
  obtain ⟨x', dd', h1, h2, h3, h4⟩ := B79 ⟨#[45]⟩ 20 n.natAbs (by omega) (by omega) (by omega) ⟨#[]⟩ (by decide)
  rw [e1]
  refine I4 (L := fun d m => B1h (TabD fs d) d m [.v (.int .u64 (n.natAbs : Nat)), .v (.string ⟨#[45]⟩), .v (.string ⟨#[]⟩)]) h4 ?_
  simp -implicitDefEqProofs only [rdl, Ex.same, Nat.beq, B8n h1, A46, A11]
  have hz : (⟨#[45]⟩ : ByteArray).size = 1 := rfl
  refine D8 (I7 (by rw [hz, Q3]; decide)) ?_
  refine D8 (I7 (by rw [ByteArray.size_append, hz, Q3]; simp only [maxLen]; omega)) ?_
  refine Evt.ret' ?_
  have he : (⟨#[]⟩ : ByteArray) = ByteArray.empty := rfl
  simp only [J3, hn, if_true]
  rw [ByteArray.append_assoc, h2, he, ByteArray.append_empty]
  rfl
 ·have hn : ¬ n < 0 := by simpa using hc
  have e1 : IntKind.u64.wrap n = ((n.natAbs : Nat) : Int) := by
   rw [wrap_u64 (by omega) (by omega)]
   omega
  obtain ⟨x', dd', h1, h2, h3, h4⟩ := B79 ⟨#[]⟩ 20 n.natAbs (by omega) (by omega) (by omega) ⟨#[]⟩ (by decide)
  rw [e1]
  refine I4 (L := fun d m => B1h (TabD fs d) d m [.v (.int .u64 (n.natAbs : Nat)), .v (.string ⟨#[]⟩), .v (.string ⟨#[]⟩)]) h4 ?_
  simp -implicitDefEqProofs only [rdl, Ex.same, Nat.beq, B8n h1, A46, A11]
  have hz : (⟨#[]⟩ : ByteArray).size = 0 := rfl
  refine D8 (I7 (by rw [hz, Q3]; decide)) ?_
  refine D8 (I7 (by rw [ByteArray.size_append, hz, Q3]; simp only [maxLen]; omega)) ?_
  refine Evt.ret' ?_
  have he : (⟨#[]⟩ : ByteArray) = ByteArray.empty := rfl
  simp only [J3, hn, if_false]
  rw [he, ByteArray.empty_append, h2, he, ByteArray.append_empty]
theorem B4s : ∀ (k n : Nat), n ≤ k → n < 2 ^ 63 → Ev fs 18 [.d (.v (.int .i64 (n : Int)))] ⟨.d (.v (.string (dg n))), []⟩ := by
 intro k
 induction k with
 | zero =>
  intro n hn h63
  have hn0 : n = 0 := by omega
  subst hn0
  refine Ev.of (af := a18) rfl rfl (Evt.congr (fun d n => D0l ..) ?_)
  simp -implicitDefEqProofs only [rdl, Ex.same, Nat.beq, O6, show decide (((0 : Nat) : Int) < 0) = false from rfl, show decide (((0 : Nat) : Int) < 10) = true from rfl, B49 (m := 0) (by omega), B48 (c := 48 + 0) (by omega)]
  rw [Y4 (by omega)]
  exact Evt.ret
 | succ k ih =>
  intro n hn h63
  refine Ev.of (af := a18) rfl rfl (Evt.congr (fun d n => D0l ..) ?_)
  have c0 : decide ((n : Int) < 0) = false := by simp
  rcases Nat.lt_or_ge n 10 with h | h
  ·simp -implicitDefEqProofs only [rdl, Ex.same, Nat.beq, O6, c0, show decide ((n : Int) < 10) = true from by simp; omega, B49 h, B48 (c := 48 + n) (by omega)]
   rw [Y4 h]
   exact Evt.ret
  ·have hm : n % 10 < 10 := Nat.mod_lt _ (by omega)
   have e1 : Int.tmod (n : Int) 10 = ((n % 10 : Nat) : Int) := by rw [Int.tmod_eq_emod_of_nonneg (by omega)]; omega
   have e2 : IntKind.i64.wrap (Int.tdiv (n : Int) 10) = ((n / 10 : Nat) : Int) := by
    rw [Int.tdiv_eq_ediv_of_nonneg (by omega)]
    rw [wrap_i64 (by omega) (by omega)]
    omega
   simp -implicitDefEqProofs only [rdl, Ex.same, Nat.beq, O6, c0, show decide ((n : Int) < 10) = false from by simp; omega, e1, e2, B49 hm, B48 (c := 48 + n % 10) (by omega), show decide ((10 : Nat) ≠ 0) = true from rfl]
   refine A7 (ih (n / 10) (by omega) (by omega)) ?_
   simp -implicitDefEqProofs only [rdl, Ex.same, Nat.beq]
   refine D8 (I7 (by have h1 := Q3 (48 + n % 10); have h3 := A45 20 (n / 10) (by omega); have h2 : maxLen = 9223372036854775807 := rfl; omega)) ?_
   rw [A6i h]
   exact Evt.ret
theorem C6z : ∀ (k n : Nat), n ≤ k → 0 < n → n ≤ 2 ^ 63 → Ev fs 18 [.d (.v (.int .i64 (-(n : Int))))] ⟨.d (.v (.string (one 45 ++ dg n))), []⟩ := by
 intro k
 induction k with
 | zero => intro n hn h0; omega
 | succ k ih =>
  intro n hn h0 h63
  refine Ev.of (af := a18) rfl rfl (Evt.congr (fun d n => D0l ..) ?_)
  have c0 : decide (-(n : Int) < 0) = true := by simp; omega
  have hz : (⟨#[45]⟩ : ByteArray) = one 45 := rfl
  rcases Nat.lt_or_ge n 10 with h | h
  ·have e1 : IntKind.i64.wrap (0 - -(n : Int)) = (n : Int) := by rw [wrap_i64 (by omega) (by omega)]; omega
   simp -implicitDefEqProofs only [rdl, Ex.same, Nat.beq, O6, c0, show decide (-(n : Int) > (-10)) = true from by simp; omega, e1, hz]
   refine A7 (B4s n n (by omega) (by omega)) ?_
   simp -implicitDefEqProofs only [rdl, Ex.same, Nat.beq]
   refine D8 (I7 (by rw [Q3]; have := A45 20 n (by omega); simp only [maxLen]; omega)) ?_
   exact Evt.ret
  ·have hm : n % 10 < 10 := Nat.mod_lt _ (by omega)
   have e1 : IntKind.i64.wrap (0 - Int.tmod (-(n : Int)) 10) = ((n % 10 : Nat) : Int) := by
    rw [Int.neg_tmod, Int.tmod_eq_emod_of_nonneg (by omega), wrap_i64 (by omega) (by omega)]
    omega
   have e2 : IntKind.i64.wrap (Int.tdiv (-(n : Int)) 10) = -((n / 10 : Nat) : Int) := by
    rw [Int.neg_tdiv, Int.tdiv_eq_ediv_of_nonneg (by omega)]
    rw [wrap_i64 (by omega) (by omega)]
    omega
   simp -implicitDefEqProofs only [rdl, Ex.same, Nat.beq, O6, c0, show decide (-(n : Int) > (-10)) = false from by simp; omega, e1, e2, show decide ((10 : Nat) ≠ 0) = true from rfl]
   refine A7 (ih (n / 10) (by omega) (by omega) (by omega)) ?_
   simp -implicitDefEqProofs only [rdl, Ex.same, Nat.beq]
   refine A7 (B4s (n % 10) (n % 10) (by omega) (by omega)) ?_
   simp -implicitDefEqProofs only [rdl, Ex.same, Nat.beq]
   have q1 := A45 20 (n / 10) (by omega)
   have q2 := A45 20 (n % 10) (by omega)
   refine D8 (I7 (by rw [ByteArray.size_append, Q3]; simp only [maxLen]; omega)) ?_
   rw [A6i h, Y4 hm, ByteArray.append_assoc]
   exact Evt.ret
theorem f18 {n : Int} (h : Fits n) : Ev fs 18 [.d (.v (.int .i64 n))] ⟨.d (.v (.string (J3 n))), []⟩ := by
 have h' := h
 simp only [Fits, IntKind.min, IntKind.max, IntKind.signed, IntKind.bits] at h'
 simp at h'
 unfold J3
 by_cases hn : n < 0
 ·obtain ⟨m, rfl⟩ : ∃ m : Nat, n = -(m : Int) := ⟨n.natAbs, by omega⟩
  have e : (-(m : Int)).natAbs = m := by omega
  simp only [hn, if_true, e]
  exact C6z m m (by omega) (by omega) (by omega)
 ·obtain ⟨m, rfl⟩ : ∃ m : Nat, n = (m : Int) := ⟨n.natAbs, by omega⟩
  have e : (m : Int).natAbs = m := by omega
  simp only [hn, if_false, e]
  exact B4s m m (by omega) (by omega)
theorem C70 : ∀ (k n : Nat), n ≤ k → n < 2 ^ 63 → Ev fs 62 [.d (.v (.int .i64 (n : Int)))] ⟨.d (.v (.string (dg n))), []⟩ := by
 intro k
 induction k with
 | zero =>
  intro n hn h63
  have hn0 : n = 0 := by omega
  subst hn0
  refine Ev.of (af := a62) rfl rfl (Evt.congr (fun d n => D2m ..) ?_)
  simp -implicitDefEqProofs only [rdl, Ex.same, Nat.beq, show decide (((0 : Nat) : Int) < 0) = false from rfl, show decide (((0 : Nat) : Int) < 10) = true from rfl, B4f (m := 0) (by omega), A46, A11]
  rw [Y4 (by omega)]
  exact Evt.ret
 | succ k ih =>
  intro n hn h63
  refine Ev.of (af := a62) rfl rfl (Evt.congr (fun d n => D2m ..) ?_)
  have c0 : decide ((n : Int) < 0) = false := by simp
  rcases Nat.lt_or_ge n 10 with h | h
  ·simp -implicitDefEqProofs only [rdl, Ex.same, Nat.beq, c0, show decide ((n : Int) < 10) = true from by simp; omega, B4f h, A46, A11]
   rw [Y4 h]
   exact Evt.ret
  ·have hm : n % 10 < 10 := Nat.mod_lt _ (by omega)
   have e1 : Int.tmod (n : Int) 10 = ((n % 10 : Nat) : Int) := by rw [Int.tmod_eq_emod_of_nonneg (by omega)]; omega
   have e2 : IntKind.i64.wrap (Int.tdiv (n : Int) 10) = ((n / 10 : Nat) : Int) := by
    rw [Int.tdiv_eq_ediv_of_nonneg (by omega)]
    rw [wrap_i64 (by omega) (by omega)]
    omega
   simp -implicitDefEqProofs only [rdl, Ex.same, Nat.beq, c0, show decide ((n : Int) < 10) = false from by simp; omega, e1, e2, B4f hm, A46, A11, show decide ((10 : Nat) ≠ 0) = true from rfl]
   refine A7 (ih (n / 10) (by omega) (by omega)) ?_
   simp -implicitDefEqProofs only [rdl, Ex.same, Nat.beq]
   refine D8 (I7 (by have h1 := Q3 (48 + n % 10); have h3 := A45 20 (n / 10) (by omega); have h2 : maxLen = 9223372036854775807 := rfl; omega)) ?_
   rw [A6i h]
   exact Evt.ret
theorem f62 {n : Int} (h0 : 0 ≤ n) (h1 : n ≤ 9223372036854775807) : Ev fs 62 [.d (.v (.int .i64 n))] ⟨.d (.v (.string (J3 n))), []⟩ := by
 obtain ⟨m, rfl⟩ : ∃ m : Nat, n = (m : Int) := ⟨n.natAbs, by omega⟩
 have e : (m : Int).natAbs = m := by omega
 have hn : ¬ (m : Int) < 0 := by omega
 unfold J3
 simp only [hn, if_false, e]
 exact C70 m m (by omega) (by omega)
def M6 (l : List UInt8) : Rows := l.map fun b => [.v (.int .u8 b.toNat)]
theorem A15 (b : UInt8) : ([[(.v (.int .u8 (b.toNat : Int)))]] : Rows) = M6 [b] := rfl
theorem Z4 (a b : List UInt8) : M6 a ++ M6 b = M6 (a ++ b) := by simp [M6]
theorem A1z (l : List UInt8) : (M6 l).length = l.length := by simp [M6]
theorem B7a (b : UInt8) : V9 [.v (.int .u8 b.toNat)] = some b := by simp [V9]
theorem A8n (l : List UInt8) : P7 (M6 l) = true := by simp [P7, M6, B7a]
theorem A8o (l : List UInt8) : H7 (M6 l) = bOf l := by
 have : (M6 l).filterMap V9 = l := by
  induction l with
  | nil => rfl
  | cons b l ih => simp only [M6, List.map_cons, List.filterMap_cons, B7a]; exact congrArg _ ih
 simp [H7, this]
theorem C5a {s : ByteArray} (hs : s.size ≤ 1000000) : ∀ (k i : Nat), s.size - i = k → i ≤ s.size → ∀ acc : List UInt8, acc.length ≤ 2 * i + 1 →
  Evt (fun d n => A7u (TabD fs d) d n [.v (.string s), .o 1 (M6 acc), .v (.int .i64 (i : Int))]) (.exit 0, [.o 1 (M6 (acc ++ (s.toList.drop i).flatMap esc))]) := by
 intro k
 induction k with
 | zero =>
  intro i hk hi acc ha
  have : i = s.size := by omega
  subst this
  refine F7 ?_
  simp only [C4p]
  simp -implicitDefEqProofs only [rdl, Ex.same, Nat.beq, Int.lt_irrefl, decide_false]
  refine Evt.ret' ?_
  rw [List.drop_of_length_le (by rw [ByteArray.toList_eq, Array.length_toList]; exact Nat.le_refl _)]
  simp
 | succ k ih =>
  intro i hk hi acc ha
  have hlt : i < s.size := by omega
  obtain ⟨b, hb⟩ := Q7 hlt
  have hd : s.toList.drop i = b :: s.toList.drop (i + 1) := by
   obtain ⟨h1, h2⟩ := List.getElem?_eq_some_iff.1 hb
   rw [List.drop_eq_getElem_cons h1, h2]
  have hw := G7 hlt (show s.size ≤ maxLen by simp only [maxLen]; omega)
  refine F7 ?_
  simp only [C4p]
  simp -implicitDefEqProofs only [rdl, Ex.same, Nat.beq, decide_eq_true (Int.ofNat_lt.2 hlt), F3, I1 hb, hw]
  have e92 : ([[(.v (.int .u8 92))]] : Rows) = M6 [92] := rfl
  have nx := fun acc' h => ih (i + 1) (by omega) (by omega) acc' h
  have m1 : decide (((M6 acc).length + ([[(.v (.int .u8 92))]] : Rows).length) * 1 ≤ D7) = true := decide_eq_true (by simp only [A1z, D7, List.length_cons, List.length_nil]; omega)
  have m2 : decide (((M6 acc ++ ([[(.v (.int .u8 92))]] : Rows)).length + ([[(.v (.int .u8 (b.toNat : Int)))]] : Rows).length) * 1 ≤ D7) = true := decide_eq_true (by simp only [List.length_append, A1z, D7, List.length_cons, List.length_nil]; omega)
  have m3 : decide (((M6 acc).length + ([[(.v (.int .u8 (b.toNat : Int)))]] : Rows).length) * 1 ≤ D7) = true := decide_eq_true (by simp only [A1z, D7, List.length_cons, List.length_nil]; omega)
  have two : b.toNat = 34 ∨ b.toNat = 92 → Evt (fun d n => A7u (TabD fs d) d n [.v (.string s), .o 1 (M6 acc ++ ([[(.v (.int .u8 92))]] : Rows) ++ ([[(.v (.int .u8 (b.toNat : Int)))]] : Rows)), .v (.int .i64 ((i + 1 : Nat) : Int))]) (.exit 0, [.o 1 (M6 (acc ++ (s.toList.drop i).flatMap esc))]) := fun hc => by
   have he : esc b = [92, b] := by
    unfold esc
    rcases hc with hc | hc
    ·have : b = 34 := UInt8.toNat_inj.1 hc
     simp [this]
    ·have : b = 92 := UInt8.toNat_inj.1 hc
     simp [this]
   have := nx (acc ++ [92] ++ [b]) (by simp; omega)
   rw [A15, e92, Z4, Z4, hd]
   simpa [he] using this
  have onee : ¬ (b.toNat = 34 ∨ b.toNat = 92) → Evt (fun d n => A7u (TabD fs d) d n [.v (.string s), .o 1 (M6 acc ++ ([[(.v (.int .u8 (b.toNat : Int)))]] : Rows)), .v (.int .i64 ((i + 1 : Nat) : Int))]) (.exit 0, [.o 1 (M6 (acc ++ (s.toList.drop i).flatMap esc))]) := fun hc => by
   have he : esc b = [b] := by
    unfold esc
    refine if_neg fun h => hc ?_
    rcases h with h | h
    ·exact .inl (by rw [h]; rfl)
    ·exact .inr (by rw [h]; rfl)
   have := nx (acc ++ [b]) (by simp; omega)
   rw [A15, Z4, hd]
   simpa [he] using this
  refine D6 (fun c1 => ?_) (fun c1 => ?_)
  ·have c1 : ¬ b.toNat = 34 := by simp at c1; omega
   refine D6 (fun c2 => ?_) (fun c2 => ?_)
   ·have c2 : b.toNat = 92 := by simp at c2; omega
    refine D8 m1 ?_
    refine D8 m2 ?_
    exact two (.inr c2)
   ·have c2 : ¬ b.toNat = 92 := by simp at c2; omega
    refine D8 m3 ?_
    exact onee (by omega)
  ·have c1 : b.toNat = 34 := by simp at c1; omega
   refine D8 m1 ?_
   refine D8 m2 ?_
   exact two (.inl c1)
theorem f97 {s : ByteArray} (hs : s.size ≤ 1000000) : Ev fs 97 [.d (.v (.string s))] ⟨.d (.v (.string (B4e s))), []⟩ := by
 refine Ev.of (af := a97) rfl rfl (Evt.congr (fun d n => D3y ..) ?_)
 have e34 : ([[(.v (.int .u8 34))]] : Rows) = M6 [34] := rfl
 refine I4 (L := fun d n => A7u (TabD fs d) d n [.v (.string s), .o 1 (M6 [34]), .v (.int .i64 ((0 : Nat) : Int))]) (C5a hs _ 0 rfl (by omega) [34] (by simp)) ?_
 have hl := A7o B9s s.toList
 have e : s.toList.length = s.size := by rw [ByteArray.toList_eq, Array.length_toList]; rfl
 simp -implicitDefEqProofs only [rdl, Ex.same, Nat.beq, e34, Z4, A8n, A8o]
 refine D8 (decide_eq_true (by simp only [A1z, List.length_append, List.length_cons, List.length_nil, List.drop_zero, D7]; omega)) ?_
 refine Evt.ret' ?_
 simp [B4e, C3k, ByteArray.toList_eq]
theorem f108 {s old new : ByteArray} (h : B2v s old new = true) : Ev fs 108 [.d (.v (.string s)), .d (.v (.string old)), .d (.v (.string new))] ⟨.d (.v (.string (B4b s old new))), []⟩ :=
 Ev.nat rfl ⟨0, fun _ _ _ _ => by show (((((((J6 108 V4 108 [.d (.v (.string s)), .d (.v (.string old)), .d (.v (.string new))]).or (J6 81 A4j 108 [.d (.v (.string s)), .d (.v (.string old)), .d (.v (.string new))])).or (J6 121 A9e 108 [.d (.v (.string s)), .d (.v (.string old)), .d (.v (.string new))])).or (J6 124 A4k 108 [.d (.v (.string s)), .d (.v (.string old)), .d (.v (.string new))])).or (J6 123 A9f 108 [.d (.v (.string s)), .d (.v (.string old)), .d (.v (.string new))])).or (J6 28 A1k 108 [.d (.v (.string s)), .d (.v (.string old)), .d (.v (.string new))])).or (J6 30 A4l 108 [.d (.v (.string s)), .d (.v (.string old)), .d (.v (.string new))])).or (J6 29 A9g 108 [.d (.v (.string s)), .d (.v (.string old)), .d (.v (.string new))]) = _; simp [J6, V4, h, show Nat.beq 108 81 = false from rfl, show Nat.beq 108 121 = false from rfl, show Nat.beq 108 124 = false from rfl, show Nat.beq 108 123 = false from rfl, show Nat.beq 108 28 = false from rfl, show Nat.beq 108 30 = false from rfl, show Nat.beq 108 29 = false from rfl]⟩
theorem f80 {s : ByteArray} (hs : s.size ≤ 100000) : Ev fs 80 [.d (.v (.string s))] ⟨.d (.v (.string (B4e s))), []⟩ := by
 refine Ev.of (af := a80) rfl rfl (Evt.congr (fun d n => D3h ..) ?_)
 have h1 := B6j (s := s) (old := ⟨#[92]⟩) (new := ⟨#[92, 92]⟩) (c := 92) (l := [92, 92]) rfl rfl rfl
 have h2 := B6j (s := B4b s ⟨#[92]⟩ ⟨#[92, 92]⟩) (old := ⟨#[34]⟩) (new := ⟨#[92, 34]⟩) (c := 34) (l := [92, 34]) rfl rfl rfl
 refine A7 (f108 (C3q rfl rfl (by omega))) ?_
 simp -implicitDefEqProofs only [rdl, Ex.same, Nat.beq]
 refine A7 (f108 (C3q rfl rfl (by omega))) ?_
 simp -implicitDefEqProofs only [rdl, Ex.same, Nat.beq]
 have e1 : (⟨#[34]⟩ : ByteArray).size = 1 := rfl
 refine D8 (I7 (by rw [e1]; simp only [maxLen]; omega)) ?_
 refine D8 (I7 (by rw [ByteArray.size_append, e1]; simp only [maxLen]; omega)) ?_
 exact Evt.ret' (by rw [C6r])
theorem A6q : ∀ (d : Nat) {v : Row}, ShL E (E 46) v → C3o d v := by
 intro d
 induction d with
 | zero => intro v _; trivial
 | succ d ih =>
  intro v h
  obtain ⟨na0, sa1, na2, la3, la4, rfl, pa0, pa1, pa2, pa3, pa4⟩ := I46 h
  refine ⟨pa2, fun x hx => ?_⟩
  obtain ⟨i, hi⟩ := List.getElem?_of_mem hx
  exact ih (pa4.at hi)
theorem B7e {x : Row} (h : ShL E (E 9) x) : ∃ u : ByteArray, x = [.v (.string u)] := by
 obtain ⟨sa0, rfl, pa0⟩ := I9 h
 exact ⟨_, rfl⟩
theorem f61 : ∀ (d : Nat) {v : Row}, ShL E (E 46) v → 0 < G9 d v → Ev fs 61 [.g v] ⟨.d (.v (.string (I6 d v))), []⟩ := by
 intro d
 induction d with
 | zero => intro v _ h; simp [G9] at h
 | succ d ih =>
  intro v h hs
  have hn := A6q (d + 1) h
  have hv := A0n hs
  have hk : ∀ x ∈ cR v 4, ((I6 d x).size : Int) + 22 ≤ 272 * G9 d x := fun x hx => A13 d x (hv.kids x hx) (hn.2 x hx)
  have hfit := fun i hi => B14 (i := i) hs hk hi
  have hrng := N8 (d + 1) v
  have hshape := hv.shape
  have hkids := hv.kids
  obtain ⟨na0, sa1, na2, la3, la4, rfl, pa0, pa1, pa2, pa3, pa4⟩ := I46 h
  have hlen := pa4.le
  have ks : ∀ i, i < la4.length → ∃ x, la4[i]? = some x ∧ ShL E (E 46) x ∧ 0 < G9 d x ∧ J4 la4 i = x ∧ (I6 d x).size ≤ 81600 := fun i hi => by
   have hx := List.getElem?_eq_getElem hi
   have hm : la4[i] ∈ cR ([.v (.int .i64 na0), .v (.string sa1), .v (.int .i64 na2), .s 1 la3, .s 5 la4] : Row) 4 := List.getElem_mem hi
   have q1 := hkids _ hm
   have q2 := hk _ hm
   have q3 := (N8 d la4[i]).2
   exact ⟨_, hx, pa4.at hx, q1, A4a hi, by omega⟩
  have kk : na0 = 5 → ∀ i, i < la4.length → ∃ u : ByteArray, la3[i]? = some [.v (.string u)] ∧ cT (J4 la3 i) 0 = u ∧ u.size ≤ 20 := fun h5 i hi => by
   obtain ⟨q1, q2⟩ := A2m hshape (by simpa [cN] using h5)
   have hi3 : i < la3.length := by have q1 : la3.length = la4.length := q1; omega
   have hx := List.getElem?_eq_getElem hi3
   obtain ⟨u, hu⟩ := B7e (pa3.at hx)
   have q3 := B13 q2 (i := i) hi3
   have e : J4 la3 i = [.v (.string u)] := by rw [A4a hi3, hu]
   refine ⟨u, by rw [hx, hu], by rw [e]; rfl, ?_⟩
   have q4 : (cT (J4 la3 i) 0).size ≤ 20 := q3
   rw [e] at q4
   exact q4
  have hJ : ∀ i, i ≤ la4.length → (J (L9 (I6 d) ([.v (.int .i64 na0), .v (.string sa1), .v (.int .i64 na2), .s 1 la3, .s 5 la4] : Row) i)).size ≤ 81600 := fun i hi => by have := hfit i hi; omega
  have c44 : comma = ({ data := #[44] } : ByteArray) := rfl
  have c58 : colon = ({ data := #[58] } : ByteArray) := rfl
  have z1 : ∀ b : UInt8, (⟨#[b]⟩ : ByteArray).size = 1 := fun _ => rfl
  have key : ∀ (k i : Nat), la4.length - i = k → i ≤ la4.length → ∀ b0 s1 : ByteArray, b0.size = 1 →
    Evt (fun d' n => A6a (TabD fs d') d' n [.b [.v (.int .i64 na0), .v (.string sa1), .v (.int .i64 na2), .fz 1 la3, .fz 5 la4], .v (.string (b0 ++ J (L9 (I6 d) ([.v (.int .i64 na0), .v (.string sa1), .v (.int .i64 na2), .s 1 la3, .s 5 la4] : Row) i))), .v (.string s1), .v (.int .i64 (i : Int))]) (.exit 1, [.v (.string (b0 ++ J (L9 (I6 d) ([.v (.int .i64 na0), .v (.string sa1), .v (.int .i64 na2), .s 1 la3, .s 5 la4] : Row) la4.length))), .v (.string s1)]) := by
   intro k
   induction k with
   | zero =>
    intro i hk' hi b0 s1 hb
    have : i = la4.length := by omega
    subst this
    refine F7 ?_
    simp only [C4q]
    simp -implicitDefEqProofs only [rdl, Ex.same, Nat.beq, Int.lt_irrefl, decide_false]
    exact Evt.ret
   | succ k ihk =>
    intro i hk' hi b0 s1 hb
    have hlt : i < la4.length := by omega
    obtain ⟨x, hx, hx2, hx3, hx4, hx5⟩ := ks i hlt
    have call := ih hx2 hx3
    have nx := ihk (i + 1) (by omega) (by omega) b0 s1 hb
    rw [D0g] at nx
    have hji := hJ i hi
    have hw := G7 hlt hlen
    have hkt : A3b (I6 d) ([.v (.int .i64 na0), .v (.string sa1), .v (.int .i64 na2), .s 1 la3, .s 5 la4] : Row) i = bif na0 == 5 then cT (J4 la3 i) 0 ++ colon ++ I6 d x else I6 d x := by
     show (bif na0 == 5 then _ else _) = _
     rw [← hx4]; rfl
    rw [hkt] at nx
    generalize J (L9 (I6 d) ([.v (.int .i64 na0), .v (.string sa1), .v (.int .i64 na2), .s 1 la3, .s 5 la4] : Row) i) = acc at nx hji
    generalize I6 d x = tx at nx call hx5
    obtain ⟨nx0, sx1, nx2, lx3, lx4, rfl, px0, px1, px2, px3, px4⟩ := I46 hx2
    refine F7 ?_
    simp only [C4q]
    simp -implicitDefEqProofs only [rdl, Ex.same, Nat.beq, decide_eq_true (Int.ofNat_lt.2 hlt), F3, C9 hx, hw]
    cases i with
    | zero =>
     simp -implicitDefEqProofs only [rdl, Ex.same, Nat.beq, O5]
     simp only [show ((0 : Nat) == 0) = true from rfl, cond_true] at nx
     refine D6 (fun c5 => ?_) (fun c5 => ?_)
     ·obtain ⟨u, hu, hu2, hu3⟩ := kk (by simpa using c5) 0 hlt
      rw [c5, hu2, c58] at nx
      simp only [cond_true, ← ByteArray.append_assoc] at nx
      simp -implicitDefEqProofs only [rdl, Ex.same, Nat.beq, C9 hu]
      refine D8 (I7 (by simp only [ByteArray.size_append, z1, maxLen]; omega)) ?_
      refine D8 (I7 (by simp only [ByteArray.size_append, z1, maxLen]; omega)) ?_
      refine A7 call ?_
      simp -implicitDefEqProofs only [rdl, Ex.same, Nat.beq]
      refine D8 (I7 (by simp only [ByteArray.size_append, z1, maxLen]; omega)) ?_
      exact nx
     ·rw [c5] at nx
      simp only [cond_false] at nx
      refine A7 call ?_
      simp -implicitDefEqProofs only [rdl, Ex.same, Nat.beq]
      refine D8 (I7 (by simp only [ByteArray.size_append, z1, maxLen]; omega)) ?_
      exact nx
    | succ i =>
     simp -implicitDefEqProofs only [rdl, Ex.same, Nat.beq, O4]
     simp only [show ((i + 1 : Nat) == 0) = false from rfl, cond_false, c44] at nx
     refine D8 (I7 (by simp only [ByteArray.size_append, z1, maxLen]; omega)) ?_
     refine D6 (fun c5 => ?_) (fun c5 => ?_)
     ·obtain ⟨u, hu, hu2, hu3⟩ := kk (by simpa using c5) (i + 1) hlt
      rw [c5, hu2, c58] at nx
      simp only [cond_true, ← ByteArray.append_assoc] at nx
      simp -implicitDefEqProofs only [rdl, Ex.same, Nat.beq, C9 hu]
      refine D8 (I7 (by simp only [ByteArray.size_append, z1, maxLen]; omega)) ?_
      refine D8 (I7 (by simp only [ByteArray.size_append, z1, maxLen]; omega)) ?_
      refine A7 call ?_
      simp -implicitDefEqProofs only [rdl, Ex.same, Nat.beq]
      refine D8 (I7 (by simp only [ByteArray.size_append, z1, maxLen]; omega)) ?_
      exact nx
     ·rw [c5] at nx
      simp only [cond_false] at nx
      refine A7 call ?_
      simp -implicitDefEqProofs only [rdl, Ex.same, Nat.beq]
      refine D8 (I7 (by simp only [ByteArray.size_append, z1, maxLen]; omega)) ?_
      exact nx
  have e0 : ∀ b0 : ByteArray, b0 ++ J (L9 (I6 d) ([.v (.int .i64 na0), .v (.string sa1), .v (.int .i64 na2), .s 1 la3, .s 5 la4] : Row) 0) = b0 := fun b0 => ByteArray.append_empty
  have hJl := hJ la4.length (Nat.le_refl _)
  simp only [I6, cN, cT, cR, cE, List.getElem?_cons_zero, List.getElem?_cons_succ]
  refine Ev.of (af := a61) rfl rfl (Evt.congr (fun d n => D40 ..) ?_)
  refine D6 (fun c1 => ?_) (fun c1 => ?_)
  ·have q := (A4c hshape (by simpa [cN] using c1)).1
   have q : sa1.size ≤ 100 := q
   refine A7 (f97 (by omega)) ?_
   simp -implicitDefEqProofs only [rdl, Ex.same, Nat.beq]
   exact Evt.ret' (by rw [c1]; rfl)
  ·rw [c1]
   refine D6 (fun c2 => ?_) (fun c2 => ?_)
   ·refine A7 (f98 pa2) ?_
    simp -implicitDefEqProofs only [rdl, Ex.same, Nat.beq]
    exact Evt.ret' (by rw [c2]; rfl)
   ·rw [c2]
    refine D6 (fun c3 => ?_) (fun c3 => ?_)
    ·rw [c3]
     refine D6 (fun c4 => ?_) (fun c4 => ?_)
     ·exact Evt.ret' (by rw [c4]; rfl)
     ·exact Evt.ret' (by rw [c4]; rfl)
    ·rw [c3]
     refine D6 (fun c5 => ?_) (fun c5 => ?_)
     ·have q := key _ 0 rfl (by omega) ({ data := #[123] } : ByteArray) ({ data := #[125] } : ByteArray) rfl
      rw [e0] at q
      refine I4 (L := fun d' n => A6a (TabD fs d') d' n [.b [.v (.int .i64 na0), .v (.string sa1), .v (.int .i64 na2), .fz 1 la3, .fz 5 la4], .v (.string ({ data := #[123] } : ByteArray)), .v (.string ({ data := #[125] } : ByteArray)), .v (.int .i64 0)]) q ?_
      simp -implicitDefEqProofs only [rdl, Ex.same, Nat.beq]
      refine D8 (I7 (by simp only [ByteArray.size_append, z1, maxLen]; omega)) ?_
      exact Evt.ret' (by rw [c5]; rfl)
     ·have q := key _ 0 rfl (by omega) ({ data := #[91] } : ByteArray) ({ data := #[93] } : ByteArray) rfl
      rw [e0] at q
      refine I4 (L := fun d' n => A6a (TabD fs d') d' n [.b [.v (.int .i64 na0), .v (.string sa1), .v (.int .i64 na2), .fz 1 la3, .fz 5 la4], .v (.string ({ data := #[91] } : ByteArray)), .v (.string ({ data := #[93] } : ByteArray)), .v (.int .i64 0)]) q ?_
      simp -implicitDefEqProofs only [rdl, Ex.same, Nat.beq]
      refine D8 (I7 (by simp only [ByteArray.size_append, z1, maxLen]; omega)) ?_
      exact Evt.ret' (by rw [c5]; rfl)
def A0f (l : List ByteArray) : Rows := l.map fun s => [D.v (.string s)]
theorem B91 (l : List ByteArray) (s : ByteArray) : A0f l ++ ([[(.v (.string s))]] : Rows) = A0f (l ++ [s]) := by simp [A0f]
theorem C1v (l : List ByteArray) : (A0f l).length = l.length := by simp [A0f]
theorem f81 {l : List ByteArray} (h1 : l.length ≤ 1000000) (h2 : (J l).size ≤ 1000000) : Ev fs 81 [.d (.s 1 (A0f l)), .d (.v (.string ({ data := #[44] } : ByteArray)))] ⟨.d (.v (.string (J l))), []⟩ :=
 Ev.nat rfl ⟨0, fun _ _ _ _ => by
  have h3 : strsOf (A0f l) = some l := B15 l
  have h4 : (B0x l ({ data := #[44] } : ByteArray)).size ≤ 1000000 := h2
  have h5 : B0y l ({ data := #[44] } : ByteArray) = true := by simp [B0y]; omega
  show (((((((J6 108 V4 81 [.d (.s 1 (A0f l)), .d (.v (.string ({ data := #[44] } : ByteArray)))]).or (J6 81 A4j 81 [.d (.s 1 (A0f l)), .d (.v (.string ({ data := #[44] } : ByteArray)))])).or (J6 121 A9e 81 [.d (.s 1 (A0f l)), .d (.v (.string ({ data := #[44] } : ByteArray)))])).or (J6 124 A4k 81 [.d (.s 1 (A0f l)), .d (.v (.string ({ data := #[44] } : ByteArray)))])).or (J6 123 A9f 81 [.d (.s 1 (A0f l)), .d (.v (.string ({ data := #[44] } : ByteArray)))])).or (J6 28 A1k 81 [.d (.s 1 (A0f l)), .d (.v (.string ({ data := #[44] } : ByteArray)))])).or (J6 30 A4l 81 [.d (.s 1 (A0f l)), .d (.v (.string ({ data := #[44] } : ByteArray)))])).or (J6 29 A9g 81 [.d (.s 1 (A0f l)), .d (.v (.string ({ data := #[44] } : ByteArray)))]) = _
  simp [J6, A4j, h3, h5, J, comma, show Nat.beq 81 108 = false from rfl, show Nat.beq 81 121 = false from rfl, show Nat.beq 81 124 = false from rfl, show Nat.beq 81 123 = false from rfl, show Nat.beq 81 28 = false from rfl, show Nat.beq 81 30 = false from rfl, show Nat.beq 81 29 = false from rfl]⟩
theorem f52 : ∀ (d : Nat) {v : Row}, ShL E (E 46) v → 0 < G9 d v → Ev fs 52 [.g v] ⟨.d (.v (.string (I6 d v))), []⟩ := by
 intro d
 induction d with
 | zero => intro v _ h; simp [G9] at h
 | succ d ih =>
  intro v h hs
  have hn := A6q (d + 1) h
  have hv := A0n hs
  have hk : ∀ x ∈ cR v 4, ((I6 d x).size : Int) + 22 ≤ 272 * G9 d x := fun x hx => A13 d x (hv.kids x hx) (hn.2 x hx)
  have hfit := fun i hi => B14 (i := i) hs hk hi
  have hrng := N8 (d + 1) v
  have hshape := hv.shape
  have hkids := hv.kids
  obtain ⟨na0, sa1, na2, la3, la4, rfl, pa0, pa1, pa2, pa3, pa4⟩ := I46 h
  have hlen := pa4.le
  have ks : ∀ i, i < la4.length → ∃ x, la4[i]? = some x ∧ ShL E (E 46) x ∧ 0 < G9 d x ∧ J4 la4 i = x ∧ (I6 d x).size ≤ 81600 := fun i hi => by
   have hx := List.getElem?_eq_getElem hi
   have hm : la4[i] ∈ cR ([.v (.int .i64 na0), .v (.string sa1), .v (.int .i64 na2), .s 1 la3, .s 5 la4] : Row) 4 := List.getElem_mem hi
   have q1 := hkids _ hm
   have q2 := hk _ hm
   have q3 := (N8 d la4[i]).2
   exact ⟨_, hx, pa4.at hx, q1, A4a hi, by omega⟩
  have kk : na0 = 5 → ∀ i, i < la4.length → ∃ u : ByteArray, la3[i]? = some [.v (.string u)] ∧ cT (J4 la3 i) 0 = u ∧ u.size ≤ 20 := fun h5 i hi => by
   obtain ⟨q1, q2⟩ := A2m hshape (by simpa [cN] using h5)
   have hi3 : i < la3.length := by have q1 : la3.length = la4.length := q1; omega
   have hx := List.getElem?_eq_getElem hi3
   obtain ⟨u, hu⟩ := B7e (pa3.at hx)
   have q3 := B13 q2 (i := i) hi3
   have e : J4 la3 i = [.v (.string u)] := by rw [A4a hi3, hu]
   refine ⟨u, by rw [hx, hu], by rw [e]; rfl, ?_⟩
   have q4 : (cT (J4 la3 i) 0).size ≤ 20 := q3
   rw [e] at q4
   exact q4
  have hJ : ∀ i, i ≤ la4.length → (J (L9 (I6 d) ([.v (.int .i64 na0), .v (.string sa1), .v (.int .i64 na2), .s 1 la3, .s 5 la4] : Row) i)).size ≤ 81600 := fun i hi => by have := hfit i hi; omega
  have c44 : comma = ({ data := #[44] } : ByteArray) := rfl
  have c58 : colon = ({ data := #[58] } : ByteArray) := rfl
  have z1 : ∀ b : UInt8, (⟨#[b]⟩ : ByteArray).size = 1 := fun _ => rfl
  have key : ∀ (k i : Nat), la4.length - i = k → i ≤ la4.length →
    Evt (fun d' n => B32 (TabD fs d') d' n [.b [.v (.int .i64 na0), .v (.string sa1), .v (.int .i64 na2), .fz 1 la3, .fz 5 la4], .o 1 (A0f (L9 (I6 d) ([.v (.int .i64 na0), .v (.string sa1), .v (.int .i64 na2), .s 1 la3, .s 5 la4] : Row) i)), .fz 5 la4, .v (.int .i64 (la4.length : Int)), .v (.int .i64 (i : Int))]) (.exit 1, [.b [.v (.int .i64 na0), .v (.string sa1), .v (.int .i64 na2), .fz 1 la3, .fz 5 la4], .o 1 (A0f (L9 (I6 d) ([.v (.int .i64 na0), .v (.string sa1), .v (.int .i64 na2), .s 1 la3, .s 5 la4] : Row) la4.length))]) := by
   intro k
   induction k with
   | zero =>
    intro i hk' hi
    have : i = la4.length := by omega
    subst this
    refine F7 ?_
    simp only [C4a]
    simp -implicitDefEqProofs only [rdl, Ex.same, Nat.beq, Int.lt_irrefl, decide_false]
    exact Evt.ret
   | succ k ihk =>
    intro i hk' hi
    have hlt : i < la4.length := by omega
    obtain ⟨x, hx, hx2, hx3, hx4, hx5⟩ := ks i hlt
    have call := ih hx2 hx3
    have nx := ihk (i + 1) (by omega) (by omega)
    rw [A1u, ← B91] at nx
    have hw := G7 hlt hlen
    have hkt : A3b (I6 d) ([.v (.int .i64 na0), .v (.string sa1), .v (.int .i64 na2), .s 1 la3, .s 5 la4] : Row) i = bif na0 == 5 then cT (J4 la3 i) 0 ++ colon ++ I6 d x else I6 d x := by
     show (bif na0 == 5 then _ else _) = _
     rw [← hx4]; rfl
    rw [hkt] at nx
    have hkl : (A0f (L9 (I6 d) ([.v (.int .i64 na0), .v (.string sa1), .v (.int .i64 na2), .s 1 la3, .s 5 la4] : Row) i)).length = i := by simp [C1v, L9]
    have hn3 := A5t hs
    have hn3 : la4.length ≤ 300 := hn3
    have hap : ∀ y : ByteArray, decide (((A0f (L9 (I6 d) ([.v (.int .i64 na0), .v (.string sa1), .v (.int .i64 na2), .s 1 la3, .s 5 la4] : Row) i)).length + ([[(.v (.string y))]] : Rows).length) * 16 ≤ D7) = true := fun y => decide_eq_true (by rw [hkl]; simp only [List.length_cons, List.length_nil, D7]; omega)
    generalize A0f (L9 (I6 d) ([.v (.int .i64 na0), .v (.string sa1), .v (.int .i64 na2), .s 1 la3, .s 5 la4] : Row) i) = acc at nx hap
    generalize I6 d x = tx at nx call hx5
    obtain ⟨nx0, sx1, nx2, lx3, lx4, rfl, px0, px1, px2, px3, px4⟩ := I46 hx2
    refine F7 ?_
    simp only [C4a]
    simp -implicitDefEqProofs only [rdl, Ex.same, Nat.beq, decide_eq_true (Int.ofNat_lt.2 hlt), F3, C9 hx, hw]
    refine A7 call ?_
    simp -implicitDefEqProofs only [rdl, Ex.same, Nat.beq]
    refine D6 (fun c5 => ?_) (fun c5 => ?_)
    ·obtain ⟨u, hu, hu2, hu3⟩ := kk (by simpa using c5) i hlt
     rw [c5, hu2, c58] at nx
     simp only [cond_true] at nx
     simp -implicitDefEqProofs only [rdl, Ex.same, Nat.beq, C9 hu]
     refine D8 (I7 (by simp only [ByteArray.size_append, z1, maxLen]; omega)) ?_
     refine D8 (I7 (by simp only [ByteArray.size_append, z1, maxLen]; omega)) ?_
     refine D8 (hap ByteArray.empty) ?_
     exact nx
    ·rw [c5] at nx
     simp only [cond_false] at nx
     refine D8 (hap ByteArray.empty) ?_
     exact nx
  have hJl := hJ la4.length (Nat.le_refl _)
  have hn3 := A5t hs
  have hn3 : la4.length ≤ 300 := hn3
  simp only [I6, cN, cT, cR, cE, List.getElem?_cons_zero, List.getElem?_cons_succ]
  refine Ev.of (af := a52) rfl rfl (Evt.congr (fun d n => D3i ..) ?_)
  refine D6 (fun c1 => ?_) (fun c1 => ?_)
  ·have q := (A4c hshape (by simpa [cN] using c1)).1
   have q : sa1.size ≤ 100 := q
   refine A7 (f80 (by omega)) ?_
   simp -implicitDefEqProofs only [rdl, Ex.same, Nat.beq]
   exact Evt.ret' (by rw [c1]; rfl)
  ·rw [c1]
   refine D6 (fun c2 => ?_) (fun c2 => ?_)
   ·refine A7 (f18 pa2) ?_
    simp -implicitDefEqProofs only [rdl, Ex.same, Nat.beq]
    exact Evt.ret' (by rw [c2]; rfl)
   ·rw [c2]
    refine D6 (fun c3 => ?_) (fun c3 => ?_)
    ·rw [c3]
     refine D6 (fun c4 => ?_) (fun c4 => ?_)
     ·exact Evt.ret' (by rw [c4]; rfl)
     ·exact Evt.ret' (by rw [c4]; rfl)
    ·rw [c3]
     refine I4 (L := fun d' n => B32 (TabD fs d') d' n [.b [.v (.int .i64 na0), .v (.string sa1), .v (.int .i64 na2), .fz 1 la3, .fz 5 la4], .o 1 [], .fz 5 la4, .v (.int .i64 (la4.length : Int)), .v (.int .i64 0)]) (key _ 0 rfl (by omega)) ?_
     simp -implicitDefEqProofs only [rdl, Ex.same, Nat.beq]
     refine A7 (f81 (by simp [L9]; omega) (by omega)) ?_
     simp -implicitDefEqProofs only [rdl, Ex.same, Nat.beq]
     refine D6 (fun c5 => ?_) (fun c5 => ?_)
     ·refine D8 (I7 (by simp only [ByteArray.size_append, z1, maxLen]; omega)) ?_
      refine D8 (I7 (by simp only [ByteArray.size_append, z1, maxLen]; omega)) ?_
      exact Evt.ret' (by rw [c5]; rfl)
     ·refine D8 (I7 (by simp only [ByteArray.size_append, z1, maxLen]; omega)) ?_
      refine D8 (I7 (by simp only [ByteArray.size_append, z1, maxLen]; omega)) ?_
      exact Evt.ret' (by rw [c5]; rfl)
end Go.Am.Pm
