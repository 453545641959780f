/- Both say the same of each text, and what they say is small. Nothing is assumed. -/
import Derived.Test.YtmgeoejefnablaaGreatDoorPmS6
namespace Go.Am.Pm
set_option linter.unusedVariables false
set_option linter.unusedSimpArgs false
set_option maxRecDepth 8000
theorem C7b {s : ByteArray} (hs : s.size ≤ 1048576) {m : Row} (h : B9b s.toList = some m) : ∃ (k r : Int) (u : ByteArray) (ws rs : Rows), m = [.v (.int .i64 k), .v (.string u), .v (.int .i64 r), .s 7 ws, .s 2 rs] ∧ SL E 48 ws ∧ SL E 42 rs ∧ ShL E (E 27) m := by
 have hsz := A1g 10 s.toList
 rw [F9] at hsz
 unfold B9b at h
 obtain ⟨l, t, he⟩ := A4d 10 s.toList
 rw [he] at h hsz
 have hl : l.length ≤ 1048576 := by have := hsz l (by simp); omega
 have h3 := A1g 32 l
 dsimp only at h
 split at h
 ·rename_i w nm rv e
  rw [e] at h3
  cases h9 : decide (90 < t.length + 1) with
  | true => rw [h9] at h; cases h
  | false =>
   have h9' := of_decide_eq_false h9
   rw [h9, cond_false, Option.map_eq_some_iff] at h
   obtain ⟨p, hp, rfl⟩ := h
   obtain ⟨q1, q2⟩ := B4y t.dropLast [] [] p hp K6 K6 (by simp; omega) (by simp; omega)
   exact ⟨_, _, _, _, _, rfl, q1, q2, A6s (A3w w) (by rw [J8]; have := h3 nm (by simp); simp only [maxLen]; omega) (A4f rv) q1 q2⟩
 ·cases h
theorem C0j {s : ByteArray} (hs : s.size ≤ 1048576) : ∃ (k r : Int) (u : ByteArray) (ws rs : Rows), B7s s.toList = [.v (.int .i64 k), .v (.string u), .v (.int .i64 r), .s 7 ws, .s 2 rs] ∧ SL E 48 ws ∧ SL E 42 rs ∧ ShL E (E 27) (B7s s.toList) := by
 have hsuf := B6r 10 s.toList
 rw [F9] at hsuf
 unfold B7s
 generalize Lib.trimSuffix s.toList [10] = b at *
 have hsz := A1g 10 b
 have hln := B4k 10 b
 obtain ⟨l, t, he⟩ := A4d 10 b
 rw [he] at hsz hln ⊢
 have hl : l.length ≤ 1048576 := by have := hsz l (by simp); omega
 have s1 := A3q 32 l
 have s2 := A3q 32 (Lib.cut l [32]).2.1
 obtain ⟨q1, q2⟩ := B4z (k := U4 (Lib.cut l [32]).1) t [] [] K6 K6 (by simp only [List.length_cons, List.length_nil] at *; omega) (by simp only [List.length_cons, List.length_nil] at *; omega)
 exact ⟨_, _, _, _, _, rfl, q1, q2, A6s (A3w _) (by rw [J8]; simp only [maxLen]; omega) (A4g _) q1 q2⟩
theorem D11 {s : ByteArray} (hs : s.size ≤ 1048576) : ans s (B9b s.toList) = ans s (some (B7s s.toList)) := by
 refine C5r (fun m e ho ht => ?_) (fun m e ho ht => ?_)
 ·obtain ⟨k, r, u, ws, rs, rfl, q1, q2, _⟩ := C7b hs e
  have := (B39 ho q1 q2).2
  rw [← ht] at this
  rw [this]
 ·obtain ⟨k, r, u, ws, rs, e2, q1, q2, _⟩ := C0j hs
  have e := Option.some.inj e
  subst e
  rw [e2] at ho ht ⊢
  have := (B39 ho q1 q2).1
  rw [← ht] at this
  exact this
theorem B51 {B : Nat} : ∀ l : Rows, (∀ x ∈ l, U6 x ≤ B) → H6 l ≤ B * l.length
 | [], _ => by simp [H6]
 | x :: l, h => by
  have h1 := h x (by simp)
  have h2 := B51 l fun y hy => h y (by simp [hy])
  simp only [H6, List.length_cons, Nat.mul_add, Nat.mul_one]
  omega
theorem D12 {k r : Int} {u : ByteArray} {ws rs : Rows} (h : X6 [.v (.int .i64 k), .v (.string u), .v (.int .i64 r), .s 7 ws, .s 2 rs] = true) (hw : SL E 48 ws) (hr : SL E 42 rs) : A1l ([.v (.int .i64 k), .v (.string u), .v (.int .i64 r), .s 7 ws, .s 2 rs] : Row) ≤ 100000 := by
 obtain ⟨_, _, _, hwo, hro⟩ := A5w h
 have hfw := A5v hwo
 have hfr := A3u hro
 have h1 := B51 (B := 1502) ws fun x hx => by
  obtain ⟨i, hx⟩ := List.mem_iff_getElem?.1 hx
  have hb := A3t hwo hx
  have hs := hw.at hx
  obtain ⟨na0, na1, na2, sa3, na4, la5, la6, rfl, pa0, pa1, pa2, pa3, pa4, pa5, pa6⟩ := I48 hs
  have hv := U9 pa2 pa3 pa4 pa5 pa6
  have hz : 0 < G9 6 [.v (.int .i64 na2), .v (.string sa3), .v (.int .i64 na4), .s 1 la5, .s 5 la6] := hb.2.2.2.2
  have e1 := C1x 6 hv hz
  have e2 := (N8 6 [.v (.int .i64 na2), .v (.string sa3), .v (.int .i64 na4), .s 1 la5, .s 5 la6]).2
  simp only [U6] at e1 ⊢
  omega
 have h2 := B51 (B := 2) rs fun x hx => by
  obtain ⟨i, hx⟩ := List.mem_iff_getElem?.1 hx
  have hs := hr.at hx
  obtain ⟨na0, na1, rfl, pa0, pa1⟩ := I42 hs
  simp [U6]
 have h3 : 1502 * ws.length ≤ 1502 * 40 := Nat.mul_le_mul_left _ hfw
 have h4 : 2 * rs.length ≤ 2 * 80 := Nat.mul_le_mul_left _ hfr
 simp only [A1l]
 omega
theorem D30 {s : ByteArray} (hs : s.size ≤ 1048576) : ∃ (o0 : Int) (o1 : ByteArray) (o2 : Int) (o3 o4 : Rows) (bb : Bool), ShL E (E 27) [.v (.int .i64 o0), .v (.string o1), .v (.int .i64 o2), .s 7 o3, .s 2 o4] ∧ A1l ([.v (.int .i64 o0), .v (.string o1), .v (.int .i64 o2), .s 7 o3, .s 2 o4] : Row) ≤ 100000 ∧
  Ev fs 12 [.d (.v (.string s))] ⟨.t [.g [.v (.int .i64 o0), .v (.string o1), .v (.int .i64 o2), .s 7 o3, .s 2 o4], .d (.v (.bool bb))], []⟩ ∧ Ev fs 10 [.d (.v (.string s))] ⟨.t [.g [.v (.int .i64 o0), .v (.string o1), .v (.int .i64 o2), .s 7 o3, .s 2 o4], .d (.v (.bool bb))], []⟩ := by
 have e1 := f12 hs
 have e2 := f10 hs
 rw [D11 hs] at e1
 obtain ⟨k, r, u, ws, rs, e, q1, q2, q3⟩ := C0j hs
 rw [e] at e1 e2 q3
 cases h : X6 [.v (.int .i64 k), .v (.string u), .v (.int .i64 r), .s 7 ws, .s 2 rs] && D9 (R8 [.v (.int .i64 k), .v (.string u), .v (.int .i64 r), .s 7 ws, .s 2 rs]) s with
 | true =>
  have ea : ans s (some [.v (.int .i64 k), .v (.string u), .v (.int .i64 r), .s 7 ws, .s 2 rs]) = ⟨.t [.g [.v (.int .i64 k), .v (.string u), .v (.int .i64 r), .s 7 ws, .s 2 rs], .d (.v (.bool true))], []⟩ := by simp only [ans, h, cond_true]
  rw [ea] at e1 e2
  rw [Bool.and_eq_true] at h
  exact ⟨_, _, _, _, _, true, q3, D12 h.1 q1 q2, e1, e2⟩
 | false =>
  have ea : ans s (some [.v (.int .i64 k), .v (.string u), .v (.int .i64 r), .s 7 ws, .s 2 rs]) = bad := by simp only [ans, h, cond_false]
  rw [ea] at e1 e2
  exact ⟨_, _, _, _, _, false, A6s (by decide) (by decide) (by decide) K6 K6, by simp [A1l, H6], e1, e2⟩
end Go.Am.Pm
