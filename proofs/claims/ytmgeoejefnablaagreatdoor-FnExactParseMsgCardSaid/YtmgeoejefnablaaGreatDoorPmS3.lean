/- What is read of a value, of both; the reference's messages, read line by line. Nothing is assumed. -/
import Derived.Test.YtmgeoejefnablaaGreatDoorPmS2
namespace Go.Am.Pm
set_option linter.unusedVariables false
set_option linter.unusedSimpArgs false
set_option maxRecDepth 8000
theorem C76 {fn : Nat} {is : List I} {o o' : Out} (h : Ev fs fn is o) (h' : Ev fs fn is o') : o = o' := by
 obtain ⟨r, h⟩ := h
 obtain ⟨r', h'⟩ := h'
 have e1 := h (max r r') (max r r') (Nat.le_max_left ..) (Nat.le_max_left ..)
 have e2 := h' (max r r') (max r r') (Nat.le_max_right ..) (Nat.le_max_right ..)
 rw [e1] at e2
 exact Option.some.inj e2
abbrev ZV : Row := [.v (.int .i64 0), .v (.string ByteArray.empty), .v (.int .i64 0), .s 1 [], .s 5 []]
open Classical in
noncomputable def pvR (s : ByteArray) : Row × Bool := if h : ∃ v, B7g s v then (h.choose, true) else (ZV, false)
theorem B1n {s : ByteArray} (hs : s.size ≤ 1048576) : Ev fs 35 [.d (.v (.string s))] ⟨.t [.g (pvR s).1, .d (.v (.bool (pvR s).2))], []⟩ ∧ Ev fs 32 [.d (.v (.string s))] ⟨.t [.g (pvR s).1, .d (.v (.bool (pvR s).2))], []⟩ := by
 by_cases h : ∃ v, B7g s v
 ·rw [pvR, dif_pos h]
  exact B7m hs h.choose_spec
 ·rw [pvR, dif_neg h]
  exact C75 hs h
theorem B4x (s : ByteArray) : ShL E (E 46) (pvR s).1 := by
 by_cases h : ∃ v, B7g s v
 ·rw [pvR, dif_pos h]; exact h.choose_spec.1
 ·rw [pvR, dif_neg h]; exact A7w
theorem C77 {v : Row} (hv : ShL E (E 46) v) (ho : O9 v = true) (hs : (I6 6 v).size ≤ 1048576) : (pvR (I6 6 v)).1 = v := by
 have h1 := (B7m hs ⟨hv, ho, rfl⟩).1
 have h2 := (B1n hs).1
 have e := C76 h1 h2
 injection e with e1 e2
 injection e1 with e1
 injection e1 with e1 e2
 injection e1 with e1
 exact e1.symm
def A3v (l : List UInt8) : Int := match A4q l with
 | some x => (x : Int)
 | none => -1
def A2p (l : List UInt8) : Int := match A4q l with
 | some x => (x : Int)
 | none => 0
def D0y (l : List UInt8) : Bool := (A4q l).isSome
theorem B7p (l : List UInt8) : -1 ≤ A3v l ∧ A3v l < 1000000000 := by
 unfold A3v
 split
 ·rename_i x h; have := C04 h; omega
 ·omega
theorem B7q (l : List UInt8) : 0 ≤ A2p l ∧ A2p l < 1000000000 := by
 unfold A2p
 split
 ·rename_i x h; have := C04 h; omega
 ·omega
theorem g34 (l : List UInt8) : Ev fs 34 [.d (.v (.string (bOf l)))] ⟨.d (.v (.int .i64 (A3v l))), []⟩ := by
 have h := f34 (bOf l)
 rw [R6] at h
 exact h
theorem g31 (l : List UInt8) : Ev fs 31 [.d (.v (.string (bOf l)))] ⟨.t [.d (.v (.int .i64 (A2p l))), .d (.v (.bool (D0y l)))], []⟩ := by
 have h := f31 (bOf l)
 rw [R6] at h
 have e : B4w l = ⟨.t [.d (.v (.int .i64 (A2p l))), .d (.v (.bool (D0y l)))], []⟩ := by
  unfold B4w A2p D0y
  cases A4q l <;> rfl
 rw [e] at h
 exact h
theorem J8 (l : List UInt8) : (bOf l).size = l.length := by
 have := F9 (bOf l)
 rw [R6] at this
 exact this.symm
theorem g33 {l : List UInt8} (h : l.length ≤ 1048576) (c : UInt8) : Ev fs 33 [.d (.v (.string (bOf l))), .d (.v (.int .u8 (c.toNat : Int)))] ⟨.d (.s 1 (S9 ((spl c l).map bOf))), []⟩ := by
 have h := f33 (s := bOf l) (by rw [J8]; exact h) c
 rw [R6] at h
 exact h
theorem g30 {l : List UInt8} (h : l.length ≤ 1048576) (c : UInt8) : Ev fs 30 [.d (.v (.string (bOf l))), .d (.v (.string ({ data := #[c] } : ByteArray)))] ⟨.t [.d (.v (.string (bOf (Lib.cut l [c]).1))), .d (.v (.string (bOf (Lib.cut l [c]).2.1))), .d (.v (.bool (Lib.cut l [c]).2.2))], []⟩ := by
 have h := f30 (s := bOf l) (by rw [J8]; exact h) c
 rw [R6] at h
 exact h
theorem A9n {l : List (List UInt8)} {i : Nat} {x : List UInt8} (h : l[i]? = some x) : (S9 (l.map bOf))[i]? = some [.v (.string (bOf x))] := by simp [S9, h]
theorem A1x (l : List (List UInt8)) : (S9 (l.map bOf)).length = l.length := by simp [S9]
noncomputable def goS (k : Int) : List (List UInt8) → Rows → Rows → Option (Rows × Rows)
 | [], ws, rs => some (ws, rs)
 | l :: t, ws, rs => match spl 32 l with
  | w0 :: w1 :: _ => bif k == 1 then goS k t ws (rs ++ [[.v (.int .i64 (A3v w0)), .v (.int .i64 (A3v w1))]])
   else (bif decide ((l.length : Int) < ((w0.length + w1.length + 2 : Nat) : Int)) then none else goS k t (ws ++ [.v (.int .i64 (A3v w0)) :: .v (.int .i64 (A3v w1)) :: (pvR (bOf (l.drop (w0.length + w1.length + 2)))).1]) rs)
  | _ => none
theorem B7r {l : Rows} {a c d s u ks vs : D} : G8 (G8 (l ++ ([[a, c, d, s, u, hole, hole]] : Rows)) (0 + l.length) 6 vs) (0 + l.length) 5 ks = l ++ [[a, c, d, s, u, ks, vs]] := by
 rw [Nat.zero_add, A7j, A7j]
 rfl
theorem D2y {s : ByteArray} {L : List (List UInt8)} (hL : ∀ l ∈ L, l.length ≤ 1048576) (h90 : L.length ≤ 90) {z0 z2 : Int} {z1 : ByteArray} {z3 z4 : Rows} {k r : Int} {nm : ByteArray} :
  ∀ (t : List (List UInt8)) (i : Nat) (ws rs : Rows), (∃ z, L.drop i = t ++ [z]) ∨ t = [] ∧ L.length ≤ i + 1 → ws.length ≤ i → rs.length ≤ i → i ≤ 90 →
  Evt (fun d n => A9a (TabD fs d) d n [.v (.string s), .b [.v (.int .i64 z0), .v (.string z1), .v (.int .i64 z2), .o 7 z3, .o 2 z4], .o 1 (S9 (L.map bOf)), .b [.v (.int .i64 k), .v (.string nm), .v (.int .i64 r), .o 7 ws, .o 2 rs], .v (.int .i64 (i : Int))])
   (match goS k t ws rs with
    | some p => (.exit 0, [.v (.string s), .b [.v (.int .i64 z0), .v (.string z1), .v (.int .i64 z2), .o 7 z3, .o 2 z4], .b [.v (.int .i64 k), .v (.string nm), .v (.int .i64 r), .o 7 p.1, .o 2 p.2]])
    | none => (.ret, [.b [.v (.int .i64 0), .v (.string ByteArray.empty), .v (.int .i64 0), .o 7 [], .o 2 []], .v (.bool false)])) := by
 intro t
 induction t with
 | nil =>
  intro i ws rs h hw hr hi
  have hlen : L.length ≤ i + 1 := by
   rcases h with ⟨z, h⟩ | ⟨_, h⟩
   ·have := congrArg List.length h
    simp at this
    omega
   ·exact h
  have hwr : IntKind.i64.wrap ((i : Int) + 1) = ((i + 1 : Nat) : Int) := by rw [wrap_i64 (by omega) (by omega)]; omega
  refine F7 ?_
  simp only [C4t]
  simp -implicitDefEqProofs only [rdl, Ex.same, Nat.beq, hwr, A1x, show decide (((i + 1 : Nat) : Int) < (L.length : Int)) = false from decide_eq_false (by omega)]
  exact Evt.ret
 | cons l t ih =>
  intro i ws rs h hw hr hi
  obtain ⟨z, h⟩ : ∃ z, L.drop i = (l :: t) ++ [z] := by
   rcases h with h | ⟨h, _⟩
   ·exact h
   ·cases h
  have hlen : i + 1 < L.length := by
   have := congrArg List.length h
   simp at this
   omega
  have hl : L[i]? = some l := by
   have := congrArg (fun x => x[0]?) h
   simpa using this
  have hd : L.drop (i + 1) = t ++ [z] := by
   have := congrArg List.tail h
   simpa using this
  have hm := hL l (List.mem_of_getElem? hl)
  have hwr : IntKind.i64.wrap ((i : Int) + 1) = ((i + 1 : Nat) : Int) := by rw [wrap_i64 (by omega) (by omega)]; omega
  refine F7 ?_
  simp only [C4t]
  simp -implicitDefEqProofs only [rdl, Ex.same, Nat.beq, hwr, A1x, show decide (((i + 1 : Nat) : Int) < (L.length : Int)) = true from decide_eq_true (by omega)]
  refine D8 (by simp; omega) ?_
  simp -implicitDefEqProofs only [rdl, Ex.same, Nat.beq, C9 (A9n hl)]
  refine A7 (g33 hm 32) ?_
  simp -implicitDefEqProofs only [rdl, Ex.same, Nat.beq, A1x]
  obtain ⟨w0, xs, he⟩ := A4d 32 l
  have hsz := A1g 32 l
  rw [he] at hsz ⊢
  cases xs with
  | nil =>
   rw [goS, he]
   simp -implicitDefEqProofs only [rdl, Ex.same, Nat.beq, show decide (((1 : Nat) : Int) < 2) = true from rfl]
   exact Evt.ret
  | cons w1 ws2 =>
   have s0 := hsz w0 (by simp)
   have s1 := hsz w1 (by simp)
   rw [goS, he]
   have c2 : decide ((((w0 :: w1 :: ws2).length : Nat) : Int) < 2) = false := decide_eq_false (by simp only [List.length_cons]; omega)
   have t0 : (decide ((0 : Int) ≤ 0) && decide (Int.toNat 0 < (S9 ((w0 :: w1 :: ws2).map bOf)).length)) = true := by simp [S9]
   have t1 : (decide ((0 : Int) ≤ 1) && decide (Int.toNat 1 < (S9 ((w0 :: w1 :: ws2).map bOf)).length)) = true := by simp [S9]
   have l0 : (S9 ((w0 :: w1 :: ws2).map bOf))[0]? = some [.v (.string (bOf w0))] := rfl
   have l1 : (S9 ((w0 :: w1 :: ws2).map bOf))[1]? = some [.v (.string (bOf w1))] := rfl
   generalize S9 ((w0 :: w1 :: ws2).map bOf) = RR at *
   refine D6 (fun h => absurd h (by rw [c2]; decide)) (fun _ => ?_)
   refine D8 (by first | exact t0 | simp) ?_
   simp -implicitDefEqProofs only [rdl, Ex.same, Nat.beq, C9 l0]
   refine A7 (g34 w0) ?_
   simp -implicitDefEqProofs only [rdl, Ex.same, Nat.beq]
   refine D8 (by first | exact t1 | simp) ?_
   simp -implicitDefEqProofs only [rdl, Ex.same, Nat.beq, show Int.toNat 1 = 1 from rfl, C9 l1]
   refine A7 (g34 w1) ?_
   simp -implicitDefEqProofs only [rdl, Ex.same, Nat.beq]
   cases hk : (k == 1) with
   | true =>
    simp -implicitDefEqProofs only [rdl, Ex.same, Nat.beq]
    refine D8 (decide_eq_true (by simp only [List.length_cons, List.length_nil, D7]; omega)) ?_
    exact ih (i + 1) ws _ (.inl ⟨z, hd⟩) (by omega) (by simp; omega) (by omega)
   | false =>
    simp -implicitDefEqProofs only [rdl, Ex.same, Nat.beq]
    refine D8 (by first | exact t0 | simp) ?_
    try simp -implicitDefEqProofs only [rdl, Ex.same, Nat.beq, C9 l0]
    refine D8 (by first | exact t1 | simp) ?_
    try simp -implicitDefEqProofs only [rdl, Ex.same, Nat.beq, show Int.toNat 1 = 1 from rfl, C9 l1]
    refine D8 (by simp; omega) ?_
    have hw2 : IntKind.i64.wrap (IntKind.i64.wrap ((w0.length : Int) + (w1.length : Int)) + 2) = ((w0.length + w1.length + 2 : Nat) : Int) := by
     rw [wrap_i64 (n := (w0.length : Int) + (w1.length : Int)) (by omega) (by omega), wrap_i64 (by omega) (by omega)]
     omega
    simp -implicitDefEqProofs only [rdl, Ex.same, Nat.beq, C9 (A9n hl), J8, hw2]
    cases hc : decide ((l.length : Int) < ((w0.length + w1.length + 2 : Nat) : Int)) with
    | true => exact Evt.ret
    | false =>
     have hc' := of_decide_eq_false hc
     simp -implicitDefEqProofs only [rdl, Ex.same, Nat.beq]
     refine D8 (by simp; omega) ?_
     try simp -implicitDefEqProofs only [rdl, Ex.same, Nat.beq, C9 (A9n hl), J8]
     refine D8 (by simp [N9]; omega) ?_
     have hx : (bOf l).extract (w0.length + w1.length + 2) l.length = bOf (l.drop (w0.length + w1.length + 2)) := by
      rw [B4v, R6, List.take_of_length_le (by rw [List.length_drop]; exact Nat.le_refl _)]
     rw [hx]
     have hp := (B1n (s := bOf (l.drop (w0.length + w1.length + 2))) (by rw [J8, List.length_drop]; omega)).1
     have hsv := B4x (bOf (l.drop (w0.length + w1.length + 2)))
     have nx := fun w hw' => ih (i + 1) (ws ++ [w]) rs (.inl ⟨z, hd⟩) hw' (by omega) (by omega)
     generalize pvR (bOf (l.drop (w0.length + w1.length + 2))) = pp at *
     obtain ⟨pv, pb⟩ := pp
     obtain ⟨na0, sa1, na2, la3, la4, rfl, pa0, pa1, pa2, pa3, pa4⟩ := I46 hsv
     refine A7 hp ?_
     simp -implicitDefEqProofs only [rdl, Ex.same, Nat.beq]
     refine D8 (decide_eq_true (by simp only [List.length_cons, List.length_nil, D7]; omega)) ?_
     rw [B7r]
     exact nx _ (by simp; omega)
end Go.Am.Pm
