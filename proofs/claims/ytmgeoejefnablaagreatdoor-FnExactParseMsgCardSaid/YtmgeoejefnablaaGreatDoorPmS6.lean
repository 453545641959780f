/- Of the text of a right message both read that message; so both say the same of each text. Nothing is assumed. -/
import Derived.Test.YtmgeoejefnablaaGreatDoorPmS5
namespace Go.Am.Pm
set_option linter.unusedVariables false
set_option linter.unusedSimpArgs false
set_option maxRecDepth 8000
theorem A4h {n : Int} (h : 0 ≤ n) : (32 : UInt8) ∉ (J3 n).toList := fun hc => by
 rw [U3, if_neg (by omega)] at hc
 exact (C3v hc).2.1 rfl
theorem A5d {n : Int} (h0 : 0 ≤ n) (h1 : n ≤ 1000000) : A3v (J3 n).toList = n := by
 rw [A3v, B6u h0 h1]
 show ((n.natAbs : Nat) : Int) = n
 omega
theorem A5e {n : Int} (h0 : 0 ≤ n) (h1 : n ≤ 1000000) : A2p (J3 n).toList = n := by
 rw [A2p, B6u h0 h1]
 show ((n.natAbs : Nat) : Int) = n
 omega
def D0z (x : Row) : Prop := ∃ a c : Int, x = [.v (.int .i64 a), .v (.int .i64 c)] ∧ (0 ≤ a ∧ a ≤ 1000000) ∧ (0 ≤ c ∧ c ≤ 1000000)
def C5m (x : Row) : Prop := ∃ (a c : Int) (v : Row), x = .v (.int .i64 a) :: .v (.int .i64 c) :: v ∧ (0 ≤ a ∧ a ≤ 1000000) ∧ (0 ≤ c ∧ c ≤ 1000000) ∧ ShL E (E 46) v ∧ O9 v = true
theorem C5n {v : Row} (hv : ShL E (E 46) v) (ho : O9 v = true) : (pvR (bOf (I6 6 v).toList)).1 = v := by
 rw [M7]
 have h1 := A13 6 v (A7y ho) (A6q 6 hv)
 have h2 := (N8 6 v).2
 exact C77 hv ho (by omega)
theorem C5o {k : Int} (hk : (k == 1) = true) : ∀ (l ws rs : Rows), (∀ x ∈ l, D0z x) → goS k (l.map A6n) ws rs = some (ws, rs ++ l)
 | [], ws, rs, _ => by simp [goS]
 | x :: l, ws, rs, h => by
  have ih := fun rs => C5o hk l ws rs fun y hy => h y (by simp [hy])
  obtain ⟨a, c, rfl, ha, hc⟩ := h x (by simp)
  have e : spl 32 (A6n [.v (.int .i64 a), .v (.int .i64 c)]) = [(J3 a).toList, (J3 c).toList] := by
   show spl 32 ((J3 a).toList ++ 32 :: (J3 c).toList) = _
   rw [A1v (A4h ha.1), A7q (A4h hc.1)]
  rw [List.map_cons, goS, e]
  simp only [hk, cond_true, A5d ha.1 ha.2, A5d hc.1 hc.2, ih, List.append_assoc, List.cons_append, List.nil_append]
theorem C5p {k : Int} (hk : (k == 1) = true) : ∀ (l ws rs : Rows), (∀ x ∈ l, D0z x) → goI k (l.map A6n) ws rs = (ws, rs ++ l)
 | [], ws, rs, _ => by simp [goI]
 | x :: l, ws, rs, h => by
  have ih := fun rs => C5p hk l ws rs fun y hy => h y (by simp [hy])
  obtain ⟨a, c, rfl, ha, hc⟩ := h x (by simp)
  have e : Lib.cut (A6n [.v (.int .i64 a), .v (.int .i64 c)]) [32] = ((J3 a).toList, (J3 c).toList, true) := A5u (A4h ha.1)
  have e2 : Lib.cut (J3 c).toList [32] = ((J3 c).toList, [], false) := B6q (A4h hc.1)
  rw [List.map_cons, goI, e]
  simp only [e2, hk, cond_true, A5e ha.1 ha.2, A5e hc.1 hc.2, ih, List.append_assoc, List.cons_append, List.nil_append]
theorem C5q (a c t : List UInt8) : (a ++ 32 :: (c ++ 32 :: t)).drop (a.length + c.length + 2) = t := by
 rw [show a ++ 32 :: (c ++ 32 :: t) = (a ++ 32 :: (c ++ [32])) ++ t from by simp, List.drop_append_of_le_length (by simp; omega)]
 rw [List.drop_of_length_le (by simp; omega)]
 rfl
theorem C0h {k : Int} (hk : (k == 1) = false) : ∀ (l ws rs : Rows), (∀ x ∈ l, C5m x) → goS k (l.map A2o) ws rs = some (ws ++ l, rs)
 | [], ws, rs, _ => by simp [goS]
 | x :: l, ws, rs, h => by
  have ih := fun ws => C0h hk l ws rs fun y hy => h y (by simp [hy])
  obtain ⟨a, c, v, rfl, ha, hc, hv, ho⟩ := h x (by simp)
  have e0 : A2o (.v (.int .i64 a) :: .v (.int .i64 c) :: v) = (J3 a).toList ++ 32 :: ((J3 c).toList ++ 32 :: (I6 6 v).toList) := rfl
  have e : spl 32 ((J3 a).toList ++ 32 :: ((J3 c).toList ++ 32 :: (I6 6 v).toList)) = (J3 a).toList :: (J3 c).toList :: spl 32 (I6 6 v).toList := by
   rw [A1v (A4h ha.1), A1v (A4h hc.1)]
  have hd : decide ((((J3 a).toList ++ 32 :: ((J3 c).toList ++ 32 :: (I6 6 v).toList)).length : Int) < (((J3 a).toList.length + (J3 c).toList.length + 2 : Nat) : Int)) = false := decide_eq_false (by simp only [List.length_append, List.length_cons]; omega)
  rw [List.map_cons, goS, e0, e]
  simp only [hk, cond_false, hd, C5q, C5n hv ho, A5d ha.1 ha.2, A5d hc.1 hc.2, ih, List.append_assoc, List.cons_append, List.nil_append]
theorem C0i {k : Int} (hk : (k == 1) = false) : ∀ (l ws rs : Rows), (∀ x ∈ l, C5m x) → goI k (l.map A2o) ws rs = (ws ++ l, rs)
 | [], ws, rs, _ => by simp [goI]
 | x :: l, ws, rs, h => by
  have ih := fun ws => C0i hk l ws rs fun y hy => h y (by simp [hy])
  obtain ⟨a, c, v, rfl, ha, hc, hv, ho⟩ := h x (by simp)
  have e : Lib.cut (A2o (.v (.int .i64 a) :: .v (.int .i64 c) :: v)) [32] = ((J3 a).toList, (J3 c).toList ++ 32 :: (I6 6 v).toList, true) := A5u (A4h ha.1)
  have e2 : Lib.cut ((J3 c).toList ++ 32 :: (I6 6 v).toList) [32] = ((J3 c).toList, (I6 6 v).toList, true) := A5u (A4h hc.1)
  rw [List.map_cons, goI, e]
  simp only [e2, hk, cond_false, C5n hv ho, A5e ha.1 ha.2, A5e hc.1 hc.2, ih, List.append_assoc, List.cons_append, List.nil_append]
theorem D10 {x : Row} : (10 : UInt8) ∉ A6n x := fun h => by
 rcases List.mem_append.1 h with h | h
 ·exact A8h h rfl
 ·rcases List.mem_cons.1 h with h | h
  ·exact absurd h (by decide)
  ·exact A8h h rfl
theorem C79 {x : Row} (hx : 0 < G9 6 (x.drop 2)) : (10 : UInt8) ∉ A2o x := fun h => by
 rcases List.mem_append.1 h with h | h
 ·exact A8h h rfl
 ·rcases List.mem_cons.1 h with h | h
  ·exact absurd h (by decide)
  ·rcases List.mem_append.1 h with h | h
   ·exact A8h h rfl
   ·rcases List.mem_cons.1 h with h | h
    ·exact absurd h (by decide)
    ·exact C3x 6 _ hx _ h rfl
theorem B1o (k : Int) : (32 : UInt8) ∉ headW k ∧ (10 : UInt8) ∉ headW k := by
 unfold headW
 cases k == 2 <;> decide
theorem B50 {u : ByteArray} (h : O3 u = true) : (32 : UInt8) ∉ u.toList ∧ (10 : UInt8) ∉ u.toList :=
 ⟨fun hc => (A0d ((A32 h).1 _ hc)).2.2.2.2.2.1 rfl, fun hc => (A0d ((A32 h).1 _ hc)).2.2.2.2.2.2.1 rfl⟩
theorem C7a {k r : Int} {u : ByteArray} (h : O3 u = true) : (10 : UInt8) ∉ A7s k u r := fun hc => by
 rcases List.mem_append.1 hc with hc | hc
 ·exact (B1o k).2 hc
 ·rcases List.mem_cons.1 hc with hc | hc
  ·exact absurd hc (by decide)
  ·rcases List.mem_append.1 hc with hc | hc
   ·exact (B50 h).2 hc
   ·rcases List.mem_cons.1 hc with hc | hc
    ·exact absurd hc (by decide)
    ·exact A8h hc rfl
theorem B38 {k : Int} (h : k = 1 ∨ k = 2) : U4 (headW k) = k := by
 rcases h with rfl | rfl
 ·show (bif D9 (bOf [116, 101, 108, 108]) ({ data := #[108, 105, 115, 116] } : ByteArray) then (2 : Int) else 1) = 1
  rw [show D9 (bOf [116, 101, 108, 108]) ({ data := #[108, 105, 115, 116] } : ByteArray) = false from by simp [D9, ByteArray.toList_eq, bOf]]
  rfl
 ·show (bif D9 (bOf [108, 105, 115, 116]) ({ data := #[108, 105, 115, 116] } : ByteArray) then (2 : Int) else 1) = 2
  rw [show D9 (bOf [108, 105, 115, 116]) ({ data := #[108, 105, 115, 116] } : ByteArray) = true from A1i _]
  rfl
theorem B39 {k r : Int} {u : ByteArray} {ws rs : Rows} (h : X6 [.v (.int .i64 k), .v (.string u), .v (.int .i64 r), .s 7 ws, .s 2 rs] = true) (hw : SL E 48 ws) (hr : SL E 42 rs) :
  B9b (R8 [.v (.int .i64 k), .v (.string u), .v (.int .i64 r), .s 7 ws, .s 2 rs]).toList = some [.v (.int .i64 k), .v (.string u), .v (.int .i64 r), .s 7 ws, .s 2 rs] ∧
  B7s (R8 [.v (.int .i64 k), .v (.string u), .v (.int .i64 r), .s 7 ws, .s 2 rs]).toList = [.v (.int .i64 k), .v (.string u), .v (.int .i64 r), .s 7 ws, .s 2 rs] := by
 have hl := B2z h
 obtain ⟨_, r0, r1, hwo, hro⟩ := A5w h
 have h : (O3 u && (if k = 1 then inB r 0 1000000 && (Z7 0 rs && ((ws.length : Int) == 0)) else if k = 2 then inB r 1 1000000 && (U0 ws && ((rs.length : Int) == 0)) else false)) = true := h
 rw [Bool.and_eq_true] at h
 obtain ⟨hn, h⟩ := h
 have hk : k = 1 ∧ ws = [] ∨ k = 2 ∧ rs = [] := by
  by_cases h1 : k = 1
  ·rw [if_pos h1] at h
   simp only [Bool.and_eq_true, beq_iff_eq] at h
   exact .inl ⟨h1, List.length_eq_zero_iff.1 (by omega)⟩
  ·rw [if_neg h1] at h
   by_cases h2 : k = 2
   ·rw [if_pos h2] at h
    simp only [Bool.and_eq_true, beq_iff_eq] at h
    exact .inr ⟨h2, List.length_eq_zero_iff.1 (by omega)⟩
   ·rw [if_neg h2] at h
    cases h
 have hkk : k = 1 ∨ k = 2 := hk.imp And.left And.left
 have hruns : ∀ x ∈ rs, D0z x := fun x hx => by
  obtain ⟨i, hx⟩ := List.mem_iff_getElem?.1 hx
  have hb := A81 hro hx
  have hs := hr.at hx
  obtain ⟨na0, na1, rfl, pa0, pa1⟩ := I42 hs
  simp only [cN, List.getElem?_cons_zero, List.getElem?_cons_succ] at hb
  exact ⟨_, _, rfl, by omega, by omega⟩
 have hworks : ∀ x ∈ ws, C5m x := fun x hx => by
  obtain ⟨i, hx⟩ := List.mem_iff_getElem?.1 hx
  have hb := A3t hwo hx
  have hs := hw.at hx
  obtain ⟨na0, na1, na2, sa3, na4, la5, la6, rfl, pa0, pa1, pa2, pa3, pa4, pa5, pa6⟩ := I48 hs
  simp only [cN, List.getElem?_cons_zero, List.getElem?_cons_succ] at hb
  exact ⟨_, _, _, rfl, by omega, by omega, U9 pa2 pa3 pa4 pa5 pa6, by simpa [O9] using hb.2.2.2.2⟩
 have hno : ∀ l ∈ A7s k u r :: (rs.map A6n ++ ws.map A2o), (10 : UInt8) ∉ l := fun l hl => by
  rcases List.mem_cons.1 hl with rfl | hl
  ·exact C7a hn
  ·rcases List.mem_append.1 hl with hl | hl
   ·obtain ⟨x, _, rfl⟩ := List.mem_map.1 hl
    exact D10
   ·obtain ⟨x, hx, rfl⟩ := List.mem_map.1 hl
    obtain ⟨a, c, v, rfl, _, _, hv, ho⟩ := hworks x hx
    exact C79 (A7y ho)
 have e1 := A8i hno
 have e2 := C6x (by simp) hno
 have e3 : spl 32 (A7s k u r) = [headW k, u.toList, (J3 r).toList] := by
  unfold A7s
  rw [A1v (B1o k).1, A1v (B50 hn).1, A7q (A4h r0)]
 have e4 : Lib.cut (A7s k u r) [32] = (headW k, u.toList ++ 32 :: (J3 r).toList, true) := A5u (B1o k).1
 have e5 : Lib.cut (u.toList ++ 32 :: (J3 r).toList) [32] = (u.toList, (J3 r).toList, true) := A5u (B50 hn).1
 have hfw := A5v hwo
 have hfr := A3u hro
 have hlen : (rs.map A6n ++ ws.map A2o).length ≤ 80 := by
  rcases hk with ⟨_, rfl⟩ | ⟨_, rfl⟩ <;> simp <;> omega
 have e6 : goS k (rs.map A6n ++ ws.map A2o) [] [] = some (ws, rs) := by
  rcases hk with ⟨rfl, rfl⟩ | ⟨rfl, rfl⟩
  ·simpa using C5o (k := 1) rfl rs [] [] hruns
  ·simpa using C0h (k := 2) rfl ws [] [] hworks
 have e7 : goI k (rs.map A6n ++ ws.map A2o) [] [] = (ws, rs) := by
  rcases hk with ⟨rfl, rfl⟩ | ⟨rfl, rfl⟩
  ·simpa using C5p (k := 1) rfl rs [] [] hruns
  ·simpa using C0i (k := 2) rfl ws [] [] hworks
 have hl : (R8 [.v (.int .i64 k), .v (.string u), .v (.int .i64 r), .s 7 ws, .s 2 rs]).toList = Y5 (A7s k u r :: (rs.map A6n ++ ws.map A2o)) := hl
 constructor
 ·unfold B9b
  rw [hl, e1, List.cons_append]
  dsimp only
  rw [e3]
  dsimp only
  rw [show decide (90 < (rs.map A6n ++ ws.map A2o ++ ([[]] : List (List UInt8))).length + 1) = false from decide_eq_false (by simp only [List.length_append, List.length_cons, List.length_nil] at *; omega), cond_false, List.dropLast_concat, B38 hkk, e6, A5d r0 r1, M7]
  rfl
 ·unfold B7s
  rw [hl, e2]
  dsimp only
  rw [e4]
  dsimp only
  rw [e5]
  dsimp only
  rw [B38 hkk, e7, A5e r0 r1, M7]
theorem C5r {s : ByteArray} {x y : Option Row} (h1 : ∀ m, x = some m → X6 m = true → s = R8 m → y = some m) (h2 : ∀ m, y = some m → X6 m = true → s = R8 m → x = some m) : ans s x = ans s y := by
 have good : ∀ z : Option Row, (∃ m, z = some m ∧ X6 m = true ∧ s = R8 m) ∨ ans s z = bad := fun z => by
  cases z with
  | none => exact .inr rfl
  | some m =>
   cases h : X6 m && D9 (R8 m) s with
   | false => exact .inr (by simp only [ans, h, cond_false])
   | true =>
    rw [Bool.and_eq_true] at h
    exact .inl ⟨m, rfl, h.1, (A3s h.2).symm⟩
 rcases good x with ⟨m, e, g1, g2⟩ | hx
 ·rw [e, h1 m e g1 g2]
 ·rcases good y with ⟨m, e, g1, g2⟩ | hy
  ·rw [e, h2 m e g1 g2]
  ·rw [hx, hy]
end Go.Am.Pm
