/- The reference's ParseMsg, exactly. Nothing is assumed. -/
import Derived.Test.YtmgeoejefnablaaGreatDoorPmS3
namespace Go.Am.Pm
set_option linter.unusedVariables false
set_option linter.unusedSimpArgs false
set_option maxRecDepth 8000
theorem A9o {t : TypeId} {l : Rows} {x : Row} (hl : SL E t l) (hx : ShL E (E t) x) (hn : l.length ≤ 2000000) : SL E t (l ++ [x]) := by
 refine ⟨by simp [maxLen]; omega, ?_⟩
 have key : ∀ {l : Rows}, ShR E (E t) l → ShR E (E t) (l ++ [x]) := by
  intro l
  induction l with
  | nil => intro _; exact .cons hx .nil
  | cons r l ih => intro h; cases h with | cons h h' => exact .cons h (ih h')
 exact key hl.2
theorem C9p {n : Int} (h0 : -1 ≤ n) (h1 : n < 1000000000) : Fits n := by
 simp only [Fits, IntKind.min, IntKind.max, IntKind.signed, IntKind.bits]
 simp
 omega
theorem C5k {a c : Int} (ha : Fits a) (hc : Fits c) : ShL E (E 42) [.v (.int .i64 a), .v (.int .i64 c)] := by
 rw [E42]
 exact A02 ha (A02 hc .nil)
theorem C0g {a c : Int} {v : Row} (ha : Fits a) (hc : Fits c) (hv : ShL E (E 46) v) : ShL E (E 48) (.v (.int .i64 a) :: .v (.int .i64 c) :: v) := by
 rw [E46] at hv
 rw [E48]
 exact A02 ha (A02 hc hv)
theorem A4f (l : List UInt8) : Fits (A3v l) := C9p (B7p l).1 (B7p l).2
theorem A4g (l : List UInt8) : Fits (A2p l) := C9p (by have := (B7q l).1; omega) (B7q l).2
theorem B4y {k : Int} : ∀ (t : List (List UInt8)) (ws rs : Rows) (p : Rows × Rows), goS k t ws rs = some p → SL E 48 ws → SL E 42 rs → ws.length + t.length ≤ 1000 → rs.length + t.length ≤ 1000 → SL E 48 p.1 ∧ SL E 42 p.2
 | [], ws, rs, p, h, h1, h2, _, _ => by
  simp only [goS, Option.some.injEq] at h
  subst h
  exact ⟨h1, h2⟩
 | l :: t, ws, rs, p, h, h1, h2, h3, h4 => by
  rw [goS] at h
  simp only [List.length_cons] at h3 h4
  split at h
  ·rename_i w0 w1 _ e
   cases hk : (k == 1) with
   | true =>
    simp only [hk, cond_true] at h
    exact B4y t _ _ p h h1 (A9o h2 (C5k (A4f w0) (A4f w1)) (by omega)) (by omega) (by simp; omega)
   | false =>
    simp only [hk, cond_false] at h
    cases hc : decide ((l.length : Int) < ((w0.length + w1.length + 2 : Nat) : Int)) with
    | true => rw [hc, cond_true] at h; cases h
    | false =>
     rw [hc, cond_false] at h
     exact B4y t _ _ p h (A9o h1 (C0g (A4f w0) (A4f w1) (B4x _)) (by omega)) h2 (by simp; omega) (by omega)
  ·simp at h
theorem A6s {k r : Int} {u : ByteArray} {ws rs : Rows} (hk : Fits k) (hu : u.size ≤ maxLen) (hr : Fits r) (hw : SL E 48 ws) (hs : SL E 42 rs) : ShL E (E 27) [.v (.int .i64 k), .v (.string u), .v (.int .i64 r), .s 7 ws, .s 2 rs] := by
 rw [E27]
 exact A02 hk (A5x hu (A02 hr (R9 W48 hw (R9 W42 hs .nil))))
abbrev ZM : Row := [.v (.int .i64 0), .v (.string ByteArray.empty), .v (.int .i64 0), .s 7 [], .s 2 []]
def bad : Out := ⟨.t [.g ZM, .d (.v (.bool false))], []⟩
def U4 (w : List UInt8) : Int := bif D9 (bOf w) ({ data := #[108, 105, 115, 116] } : ByteArray) then 2 else 1
theorem A3w (w : List UInt8) : Fits (U4 w) := by
 unfold U4
 cases D9 (bOf w) ({ data := #[108, 105, 115, 116] } : ByteArray) <;> decide
noncomputable def B9b (s : List UInt8) : Option Row := match spl 10 s with
 | h :: t => match spl 32 h with
  | [w, nm, rv] => bif decide (90 < t.length + 1) then none else (goS (U4 w) t.dropLast [] []).map fun p => [.v (.int .i64 (U4 w)), .v (.string (bOf nm)), .v (.int .i64 (A3v rv)), .s 7 p.1, .s 2 p.2]
  | _ => none
 | [] => none
def ans (s : ByteArray) (m : Option Row) : Out := match m with
 | some m => bif X6 m && D9 (R8 m) s then ⟨.t [.g m, .d (.v (.bool true))], []⟩ else bad
 | none => bad
theorem three {α : Type} : ∀ {l : List α}, l.length = 3 → ∃ a b c, l = [a, b, c]
 | [a, b, c], _ => ⟨a, b, c, rfl⟩
theorem C78 (t : List (List UInt8)) : (∃ z, t = t.dropLast ++ [z]) ∨ t.dropLast = [] ∧ t.length ≤ 1 := by
 by_cases h : t = []
 ·exact .inr (by subst h; simp)
 ·exact .inl ⟨t.getLast h, (List.dropLast_concat_getLast h).symm⟩
theorem f12 {s : ByteArray} (hs : s.size ≤ 1048576) : Ev fs 12 [.d (.v (.string s))] (ans s (B9b s.toList)) := by
 refine Ev.of (af := a12) rfl rfl (Evt.congr (fun d n => D42 ..) ?_)
 refine A7 (f33 hs 10) ?_
 simp -implicitDefEqProofs only [rdl, Ex.same, Nat.beq, A1x]
 have hsz := A1g 10 s.toList
 rw [F9] at hsz
 obtain ⟨h, t, he⟩ := A4d 10 s.toList
 unfold B9b
 rw [he] at hsz ⊢
 have hh : h.length ≤ 1048576 := by have := hsz h (by simp); omega
 have hL : ∀ l ∈ h :: t, l.length ≤ 1048576 := fun l hl => by have := hsz l hl; omega
 have l0 : (S9 ((h :: t).map bOf))[0]? = some [.v (.string (bOf h))] := rfl
 refine D8 (by simp) ?_
 simp -implicitDefEqProofs only [rdl, Ex.same, Nat.beq, C9 l0]
 refine A7 (g33 hh 32) ?_
 simp -implicitDefEqProofs only [rdl, Ex.same, Nat.beq, A1x]
 by_cases h3 : ∃ w nm rv, spl 32 h = [w, nm, rv]
 ·obtain ⟨w, nm, rv, e3⟩ := h3
  have hs3 := A1g 32 h
  rw [e3] at hs3 ⊢
  have k0 : (S9 (([w, nm, rv] : List (List UInt8)).map bOf))[0]? = some [.v (.string (bOf w))] := rfl
  have k1 : (S9 (([w, nm, rv] : List (List UInt8)).map bOf))[1]? = some [.v (.string (bOf nm))] := rfl
  have k2 : (S9 (([w, nm, rv] : List (List UInt8)).map bOf))[2]? = some [.v (.string (bOf rv))] := rfl
  have kl : (S9 (([w, nm, rv] : List (List UInt8)).map bOf)).length = 3 := rfl
  generalize S9 (([w, nm, rv] : List (List UInt8)).map bOf) = RR at *
  simp -implicitDefEqProofs only [rdl, Ex.same, Nat.beq, show (((3 : Nat) : Int) != 3) = false from rfl]
  have hnm : (bOf nm).size ≤ maxLen := by rw [J8]; have := hs3 nm (by simp); simp only [maxLen]; omega
  cases h9 : decide ((((h :: t).length : Nat) : Int) > 90) with
  | true =>
   have h9' : decide (90 < t.length + 1) = true := decide_eq_true (by have := of_decide_eq_true h9; simp at this; omega)
   rw [h9']
   simp only [List.length_cons] at h9
   try simp -implicitDefEqProofs only [rdl, Ex.same, Nat.beq, h9]
   exact Evt.ret
  | false =>
   have h90 : t.length + 1 ≤ 90 := by have := of_decide_eq_false h9; simp at this; omega
   have h9' : decide (90 < t.length + 1) = false := decide_eq_false (by omega)
   rw [h9']
   simp only [List.length_cons] at h9
   try simp -implicitDefEqProofs only [rdl, Ex.same, Nat.beq, h9]
   try simp only [cond_false]
   refine D8 (by simp [kl]) ?_
   simp -implicitDefEqProofs only [rdl, Ex.same, Nat.beq, show Int.toNat 1 = 1 from rfl, C9 k1]
   refine D8 (by simp [kl]) ?_
   simp -implicitDefEqProofs only [rdl, Ex.same, Nat.beq, show Int.toNat 2 = 2 from rfl, C9 k2]
   refine A7 (g34 rv) ?_
   simp -implicitDefEqProofs only [rdl, Ex.same, Nat.beq]
   refine D8 (by simp [kl]) ?_
   simp -implicitDefEqProofs only [rdl, Ex.same, Nat.beq, C9 k0]
   have lp := fun k => D2y (s := s) (L := h :: t) hL (by simp; omega) (z0 := 0) (z1 := ByteArray.empty) (z2 := 0) (z3 := []) (z4 := []) (k := k) (r := A3v rv) (nm := bOf nm) t.dropLast 1 [] []
    ((C78 t).imp id fun h => ⟨h.1, by have := h.2; simp; omega⟩) (by simp) (by simp) (by omega)
   have hsh := fun p hp => B4y (k := U4 w) t.dropLast [] [] p hp K6 K6 (by simp; omega) (by simp; omega)
   cases hk : D9 (bOf w) ({ data := #[108, 105, 115, 116] } : ByteArray) with
   | true =>
    have ek : U4 w = 2 := by rw [U4, hk]; rfl
    rw [ek] at hsh ⊢
    simp -implicitDefEqProofs only [rdl, Ex.same, Nat.beq, hk]
    refine I4 (L := fun d n => A9a (TabD fs d) d n [.v (.string s), .b [.v (.int .i64 0), .v (.string ByteArray.empty), .v (.int .i64 0), .o 7 [], .o 2 []], .o 1 (S9 ((h :: t).map bOf)), .b [.v (.int .i64 2), .v (.string (bOf nm)), .v (.int .i64 (A3v rv)), .o 7 [], .o 2 []], .v (.int .i64 1)]) (lp 2) ?_
    cases hg : goS (U4 w) t.dropLast [] [] with
    | none =>
     rw [ek] at hg
     rw [hg]
     simp -implicitDefEqProofs only [rdl, Ex.same, Nat.beq]
     exact Evt.ret
    | some p =>
     rw [ek] at hg
     rw [hg]
     obtain ⟨ws, rs⟩ := p
     obtain ⟨q1, q2⟩ := hsh _ hg
     have hm := A6s (k := U4 w) (A3w w) hnm (A4f rv) q1 q2
     rw [ek] at hm
     have c1 := f8 hm
     have c2 := f36 hm
     simp only [Option.map_some, ans]
     generalize R8 [.v (.int .i64 _), .v (.string (bOf nm)), .v (.int .i64 (A3v rv)), .s 7 ws, .s 2 rs] = tx at *
     simp -implicitDefEqProofs only [rdl, Ex.same, Nat.beq]
     refine A7 c1 ?_
     simp -implicitDefEqProofs only [rdl, Ex.same, Nat.beq]
     generalize X6 [.v (.int .i64 _), .v (.string (bOf nm)), .v (.int .i64 (A3v rv)), .s 7 ws, .s 2 rs] = ok at *
     cases ok with
     | false => exact Evt.ret
     | true =>
      simp -implicitDefEqProofs only [rdl, Ex.same, Nat.beq, Bool.not_true]
      refine A7 c2 ?_
      simp -implicitDefEqProofs only [rdl, Ex.same, Nat.beq, Bool.true_and]
      cases D9 tx s with
      | true => simp -implicitDefEqProofs only [rdl, Ex.same, Nat.beq, Bool.not_true]; exact Evt.ret
      | false => simp -implicitDefEqProofs only [rdl, Ex.same, Nat.beq, Bool.not_false]; exact Evt.ret
   | false =>
    have ek : U4 w = 1 := by rw [U4, hk]; rfl
    rw [ek] at hsh ⊢
    simp -implicitDefEqProofs only [rdl, Ex.same, Nat.beq, hk]
    refine I4 (L := fun d n => A9a (TabD fs d) d n [.v (.string s), .b [.v (.int .i64 0), .v (.string ByteArray.empty), .v (.int .i64 0), .o 7 [], .o 2 []], .o 1 (S9 ((h :: t).map bOf)), .b [.v (.int .i64 1), .v (.string (bOf nm)), .v (.int .i64 (A3v rv)), .o 7 [], .o 2 []], .v (.int .i64 1)]) (lp 1) ?_
    cases hg : goS (U4 w) t.dropLast [] [] with
    | none =>
     rw [ek] at hg
     rw [hg]
     simp -implicitDefEqProofs only [rdl, Ex.same, Nat.beq]
     exact Evt.ret
    | some p =>
     rw [ek] at hg
     rw [hg]
     obtain ⟨ws, rs⟩ := p
     obtain ⟨q1, q2⟩ := hsh _ hg
     have hm := A6s (k := U4 w) (A3w w) hnm (A4f rv) q1 q2
     rw [ek] at hm
     have c1 := f8 hm
     have c2 := f36 hm
     simp only [Option.map_some, ans]
     generalize R8 [.v (.int .i64 _), .v (.string (bOf nm)), .v (.int .i64 (A3v rv)), .s 7 ws, .s 2 rs] = tx at *
     simp -implicitDefEqProofs only [rdl, Ex.same, Nat.beq]
     refine A7 c1 ?_
     simp -implicitDefEqProofs only [rdl, Ex.same, Nat.beq]
     generalize X6 [.v (.int .i64 _), .v (.string (bOf nm)), .v (.int .i64 (A3v rv)), .s 7 ws, .s 2 rs] = ok at *
     cases ok with
     | false => exact Evt.ret
     | true =>
      simp -implicitDefEqProofs only [rdl, Ex.same, Nat.beq, Bool.not_true]
      refine A7 c2 ?_
      simp -implicitDefEqProofs only [rdl, Ex.same, Nat.beq, Bool.true_and]
      cases D9 tx s with
      | true => simp -implicitDefEqProofs only [rdl, Ex.same, Nat.beq, Bool.not_true]; exact Evt.ret
      | false => simp -implicitDefEqProofs only [rdl, Ex.same, Nat.beq, Bool.not_false]; exact Evt.ret
 ·have h4 : (spl 32 h).length ≠ 3 := fun e => h3 (three e)
  have e4 : (match spl 32 h with
   | [w, nm, rv] => bif decide (90 < t.length + 1) then none else (goS (U4 w) t.dropLast [] []).map fun p => ([.v (.int .i64 (U4 w)), .v (.string (bOf nm)), .v (.int .i64 (A3v rv)), .s 7 p.1, .s 2 p.2] : Row)
   | _ => none) = none := by
   split
   ·rename_i e; exact absurd ⟨_, _, _, e⟩ h3
   ·rfl
  simp only [e4]
  simp -implicitDefEqProofs only [rdl, Ex.same, Nat.beq, show ((((spl 32 h).length : Nat) : Int) != 3) = true from by simp; omega]
  exact Evt.ret
end Go.Am.Pm
