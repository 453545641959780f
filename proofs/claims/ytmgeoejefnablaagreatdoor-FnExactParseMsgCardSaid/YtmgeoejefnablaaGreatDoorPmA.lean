/- The reference's reader: what comes next, what is taken, a text in quotes. Nothing is assumed. -/
import Derived.Test.YtmgeoejefnablaaGreatDoorPmU
namespace Go.Am.Pm
set_option linter.unusedVariables false
set_option linter.unusedSimpArgs false
set_option maxRecDepth 8000
abbrev PS (s : ByteArray) (i : Nat) (b : Bool) : Row := [.v (.string s), .v (.int .i64 (i : Int)), .v (.bool b)]
def A4m (s : ByteArray) (i : Nat) (b : Bool) : Nat := bif b then 0 else (s.toList[i]?.getD 0).toNat
theorem f125 (s : ByteArray) (i : Nat) (b : Bool) : Ev fs 125 [.p (PS s i b)] ⟨.d (.v (.int .u8 (A4m s i b))), [.p (PS s i b)]⟩ := by
 refine Ev.of (af := D0q) rfl rfl (Evt.congr (fun d n => D2g ..) ?_)
 cases b with
 | true =>
  simp -implicitDefEqProofs only [rdl, Ex.same, Nat.beq, O6, P6, Bool.not_true, Bool.not_false]
  exact Evt.ret
 | false =>
  simp -implicitDefEqProofs only [rdl, Ex.same, Nat.beq, O6, P6, Bool.not_true, Bool.not_false]
  refine D6 (fun h => ?_) (fun h => ?_)
  ·have h : s.size ≤ i := by have := of_decide_eq_true h; omega
   refine Evt.ret' ?_
   simp only [A4m, cond_false]
   rw [List.getElem?_eq_none (by rw [F9]; exact h)]
   rfl
  ·have h : i < s.size := by have := of_decide_eq_false h; omega
   obtain ⟨c, hc⟩ := Q7 h
   simp -implicitDefEqProofs only [rdl, Ex.same, Nat.beq, F3, I1 hc]
   refine Evt.ret' ?_
   simp [A4m, hc]
def takeB (s : ByteArray) (i : Nat) (b : Bool) (t : ByteArray) : Bool := !b && t.toList.isPrefixOf (s.toList.drop i)
theorem f93 {s : ByteArray} (hs : s.size ≤ 1048576) {i : Nat} (hi : i ≤ s.size) (b : Bool) {t : ByteArray} (ht : t.size ≤ 100) : Ev fs 93 [.p (PS s i b), .d (.v (.string t))] ⟨.d (.v (.bool (takeB s i b t))), [.p (PS s (bif takeB s i b t then i + t.size else i) b)]⟩ := by
 refine Ev.of (af := a93) rfl rfl (Evt.congr (fun d n => D3w ..) ?_)
 have e1 : IntKind.i64.wrap ((s.size : Int) - (i : Int)) = (s.size : Int) - (i : Int) := wrap_i64 (by omega) (by omega)
 have e2 : IntKind.i64.wrap ((i : Int) + (t.size : Int)) = ((i + t.size : Nat) : Int) := by rw [wrap_i64 (by omega) (by omega)]; omega
 cases b with
 | true =>
  simp -implicitDefEqProofs only [rdl, Ex.same, Nat.beq, O6, P6, Bool.not_true, Bool.not_false]
  exact Evt.ret' (by simp [takeB])
 | false =>
  simp -implicitDefEqProofs only [rdl, Ex.same, Nat.beq, O6, P6, Bool.not_true, Bool.not_false, e1, e2]
  have hp : takeB s i false t = (((s.toList.drop i).take t.toList.length) == t.toList) := by simp [takeB, B1k]
  refine D6 (fun h => ?_) (fun h => ?_)
  ·have h : i + t.size ≤ s.size := by simp at h; omega
   have hc : N9 (i : Int) ((i + t.size : Nat) : Int) s.size = true := by simp [N9]; omega
   simp -implicitDefEqProofs only [rdl, Ex.same, Nat.beq, hc]
   have hx : D9 (s.extract i (i + t.size)) t = takeB s i false t := by
    rw [hp, D9, ext_list, Nat.add_sub_cancel_left, F9]
   rw [hx]
   refine D6 (fun h2 => ?_) (fun h2 => ?_)
   ·have h2 : takeB s i false t = false := by simpa using h2
    exact Evt.ret' (by rw [h2]; rfl)
   ·have h2 : takeB s i false t = true := by simpa using h2
    exact Evt.ret' (by rw [h2]; rfl)
  ·have h : s.size < i + t.size := by simp at h; omega
   have h2 : takeB s i false t = false := by
    rw [hp, beq_eq_false_iff_ne]
    intro e
    have := congrArg List.length e
    rw [List.length_take, List.length_drop, F9, F9] at this
    omega
   exact Evt.ret' (by rw [h2]; rfl)
theorem C0b : ∀ (k : Nat) (l : List UInt8) (p : List UInt8 × Nat), l.length ≤ k → rdT l = some p → 1 ≤ p.2 ∧ p.2 ≤ l.length ∧ p.1.length < p.2 := by
 intro k
 induction k with
 | zero => intro l p hl h; cases l with | nil => simp [rdT] at h | cons => simp at hl
 | succ k ih =>
  intro l p hl h
  cases l with
  | nil => simp [rdT] at h
  | cons b l =>
   simp only [List.length_cons] at hl ⊢
   unfold rdT at h
   by_cases h1 : b = 34
   ·rw [if_pos h1] at h
    cases h
    simp
   ·rw [if_neg h1] at h
    by_cases h2 : b = 92
    ·rw [if_pos h2] at h
     cases l with
     | nil => simp at h
     | cons c l =>
      simp only at h
      by_cases h3 : c = 0
      ·rw [if_pos h3] at h; cases h
      ·rw [if_neg h3, Option.map_eq_some_iff] at h
       obtain ⟨q, hq, rfl⟩ := h
       have := ih l q (by simp at hl; omega) hq
       simp only [List.length_cons]
       omega
    ·rw [if_neg h2] at h
     by_cases h3 : b = 0
     ·rw [if_pos h3] at h; cases h
     ·rw [if_neg h3, Option.map_eq_some_iff] at h
      obtain ⟨q, hq, rfl⟩ := h
      have := ih l q (by omega) hq
      simp only [List.length_cons]
      omega
theorem A9m {s : ByteArray} {i : Nat} {c : UInt8} (h : s.toList[i]? = some c) : A4m s i false = c.toNat := by simp [A4m, h]
theorem A7z {s : ByteArray} {i : Nat} (h : s.size ≤ i) : A4m s i false = 0 := by
 simp only [A4m, cond_false]
 rw [List.getElem?_eq_none (by rw [F9]; exact h)]
 rfl
abbrev PB (s : ByteArray) (i : Nat) (b : Bool) : List AV := [.v (.string s), .v (.int .i64 (i : Int)), .v (.bool b)]
theorem C1y {s : ByteArray} (hs : s.size ≤ 1048576) : ∀ (k i : Nat), s.size - i ≤ k → i ≤ s.size → ∀ acc : List UInt8, acc.length ≤ i →
  match rdT (s.toList.drop i) with
  | some (u, n) => Evt (fun d m => A3r (TabD fs d) d m [.b (PB s i false), .o 1 (M6 acc)]) (.exit 0, [.b (PB s (i + n - 1) false), .o 1 (M6 (acc ++ u))])
  | none => ∃ i', i' ≤ s.size ∧ Evt (fun d m => A3r (TabD fs d) d m [.b (PB s i false), .o 1 (M6 acc)]) (.ret, [.b (PB s i' true), .v (.string ({ data := #[] } : ByteArray))]) := by
 have fin : ∀ i, i = s.size → ∀ acc : List UInt8, Evt (fun d m => A3r (TabD fs d) d m [.b (PB s i false), .o 1 (M6 acc)]) (.ret, [.b (PB s i true), .v (.string ({ data := #[] } : ByteArray))]) := fun i hi acc => by
  have hp := A7z (s := s) (i := i) (by omega)
  refine F7 ?_
  simp only [A6p]
  refine A7 (f125 s i false) ?_
  simp -implicitDefEqProofs only [rdl, Ex.same, Nat.beq, hp, show (((0 : Nat) : Int) != 34) = true from rfl]
  refine A7 (f125 s i false) ?_
  simp -implicitDefEqProofs only [rdl, Ex.same, Nat.beq, hp, show (((0 : Nat) : Int) == 92) = false from rfl]
  refine A7 (f125 s i false) ?_
  simp -implicitDefEqProofs only [rdl, Ex.same, Nat.beq, hp, show (((0 : Nat) : Int) == 0) = true from rfl]
  exact Evt.ret
 intro k
 induction k with
 | zero =>
  intro i hk hi acc ha
  have e : s.toList.drop i = [] := List.drop_of_length_le (by rw [F9]; omega)
  rw [e]
  exact ⟨i, hi, fin i (by omega) acc⟩
 | succ k ih =>
  intro i hk hi acc ha
  by_cases hlt : i < s.size
  ·obtain ⟨c, hc, hd⟩ := drop_at hlt
   have hp := A9m hc
   have hw1 : IntKind.i64.wrap ((i : Int) + 1) = ((i + 1 : Nat) : Int) := G7 hlt (by simp only [maxLen]; omega)
   have m1 : ∀ b : UInt8, decide (((M6 acc).length + ([[(.v (.int .u8 (b.toNat : Int)))]] : Rows).length) * 1 ≤ D7) = true := fun b => decide_eq_true (by simp only [A1z, D7, List.length_cons, List.length_nil]; omega)
   rw [hd]
   unfold rdT
   by_cases h34 : c = 34
   ·rw [if_pos h34]
    refine F7 ?_
    simp only [A6p]
    refine A7 (f125 s i false) ?_
    simp -implicitDefEqProofs only [rdl, Ex.same, Nat.beq, hp, show ((c.toNat : Int) != 34) = false from by rw [h34]; rfl]
    exact Evt.ret' (by simp)
   ·rw [if_neg h34]
    have n34 : ((c.toNat : Int) != 34) = true := by have := A9b (n := 34) (by omega) h34; simp; omega
    by_cases h92 : c = 92
    ·rw [if_pos h92]
     have y92 : ((c.toNat : Int) == 92) = true := by rw [h92]; rfl
     by_cases hlt2 : i + 1 < s.size
     ·obtain ⟨c2, hc2, hd2⟩ := drop_at hlt2
      have hp2 := A9m hc2
      have hw2 : IntKind.i64.wrap (((i + 1 : Nat) : Int) + 1) = ((i + 2 : Nat) : Int) := G7 hlt2 (by simp only [maxLen]; omega)
      rw [hd2]
      simp only
      by_cases hz : c2 = 0
      ·rw [if_pos hz]
       refine ⟨i + 1, by omega, F7 ?_⟩
       simp only [A6p]
       refine A7 (f125 s i false) ?_
       simp -implicitDefEqProofs only [rdl, Ex.same, Nat.beq, hp, n34]
       refine A7 (f125 s i false) ?_
       simp -implicitDefEqProofs only [rdl, Ex.same, Nat.beq, hp, y92, hw1]
       refine A7 (f125 s (i + 1) false) ?_
       simp -implicitDefEqProofs only [rdl, Ex.same, Nat.beq, hp2, show ((c2.toNat : Int) == 0) = true from by rw [hz]; rfl]
       exact Evt.ret
      ·rw [if_neg hz]
       have nz : ((c2.toNat : Int) == 0) = false := by have := A9b (n := 0) (by omega) hz; simp; omega
       have pre : ∀ res, Evt (fun d m => A3r (TabD fs d) d m [.b (PB s (i + 2) false), .o 1 (M6 (acc ++ [c2]))]) res → Evt (fun d m => A3r (TabD fs d) d m [.b (PB s i false), .o 1 (M6 acc)]) res := fun res k => by
        rw [← Z4, ← A15] at k
        refine F7 ?_
        simp only [A6p]
        refine A7 (f125 s i false) ?_
        simp -implicitDefEqProofs only [rdl, Ex.same, Nat.beq, hp, n34]
        refine A7 (f125 s i false) ?_
        simp -implicitDefEqProofs only [rdl, Ex.same, Nat.beq, hp, y92, hw1]
        refine A7 (f125 s (i + 1) false) ?_
        simp -implicitDefEqProofs only [rdl, Ex.same, Nat.beq, hp2, nz, F3, I1 hc2, hw2]
        refine D8 (m1 c2) ?_
        exact k
       have nx := ih (i + 2) (by omega) (by omega) (acc ++ [c2]) (by simp; omega)
       cases hq : rdT (s.toList.drop (i + 1 + 1)) with
       | none =>
        rw [show i + 2 = i + 1 + 1 from rfl, hq] at nx
        obtain ⟨i', h1, h2⟩ := nx
        exact ⟨i', h1, pre _ h2⟩
       | some q =>
        obtain ⟨u, n⟩ := q
        rw [show i + 2 = i + 1 + 1 from rfl, hq] at nx
        have := pre _ nx
        simp only [Option.map_some]
        rw [show i + (n + 2) - 1 = i + 1 + 1 + n - 1 from by omega, show acc ++ c2 :: u = acc ++ [c2] ++ u from by simp]
        exact this
     ·have e : s.toList.drop (i + 1) = [] := List.drop_of_length_le (by rw [F9]; omega)
      have hp2 := A7z (s := s) (i := i + 1) (by omega)
      rw [e]
      simp only
      refine ⟨i + 1, by omega, F7 ?_⟩
      simp only [A6p]
      refine A7 (f125 s i false) ?_
      simp -implicitDefEqProofs only [rdl, Ex.same, Nat.beq, hp, n34]
      refine A7 (f125 s i false) ?_
      simp -implicitDefEqProofs only [rdl, Ex.same, Nat.beq, hp, y92, hw1]
      refine A7 (f125 s (i + 1) false) ?_
      simp -implicitDefEqProofs only [rdl, Ex.same, Nat.beq, hp2, show (((0 : Nat) : Int) == 0) = true from rfl]
      exact Evt.ret
    ·rw [if_neg h92]
     have n92 : ((c.toNat : Int) == 92) = false := by have := A9b (n := 92) (by omega) h92; simp; omega
     by_cases hz : c = 0
     ·rw [if_pos hz]
      refine ⟨i, by omega, F7 ?_⟩
      simp only [A6p]
      refine A7 (f125 s i false) ?_
      simp -implicitDefEqProofs only [rdl, Ex.same, Nat.beq, hp, n34]
      refine A7 (f125 s i false) ?_
      simp -implicitDefEqProofs only [rdl, Ex.same, Nat.beq, hp, n92]
      refine A7 (f125 s i false) ?_
      simp -implicitDefEqProofs only [rdl, Ex.same, Nat.beq, hp, show ((c.toNat : Int) == 0) = true from by rw [hz]; rfl]
      exact Evt.ret
     ·rw [if_neg hz]
      have nz : ((c.toNat : Int) == 0) = false := by have := A9b (n := 0) (by omega) hz; simp; omega
      have pre : ∀ res, Evt (fun d m => A3r (TabD fs d) d m [.b (PB s (i + 1) false), .o 1 (M6 (acc ++ [c]))]) res → Evt (fun d m => A3r (TabD fs d) d m [.b (PB s i false), .o 1 (M6 acc)]) res := fun res k => by
       rw [← Z4, ← A15] at k
       refine F7 ?_
       simp only [A6p]
       refine A7 (f125 s i false) ?_
       simp -implicitDefEqProofs only [rdl, Ex.same, Nat.beq, hp, n34]
       refine A7 (f125 s i false) ?_
       simp -implicitDefEqProofs only [rdl, Ex.same, Nat.beq, hp, n92]
       refine A7 (f125 s i false) ?_
       simp -implicitDefEqProofs only [rdl, Ex.same, Nat.beq, hp, nz, F3, I1 hc, hw1]
       refine D8 (m1 c) ?_
       exact k
      have nx := ih (i + 1) (by omega) (by omega) (acc ++ [c]) (by simp; omega)
      cases hq : rdT (s.toList.drop (i + 1)) with
      | none =>
       rw [hq] at nx
       obtain ⟨i', h1, h2⟩ := nx
       exact ⟨i', h1, pre _ h2⟩
      | some q =>
       obtain ⟨u, n⟩ := q
       rw [hq] at nx
       have := pre _ nx
       simp only [Option.map_some]
       rw [show i + (n + 1) - 1 = i + 1 + n - 1 from by omega, show acc ++ c :: u = acc ++ [c] ++ u from by simp]
       exact this
  ·have e : s.toList.drop i = [] := List.drop_of_length_le (by rw [F9]; omega)
   rw [e]
   exact ⟨i, hi, fin i (by omega) acc⟩
theorem f94 {s : ByteArray} (hs : s.size ≤ 1048576) {i : Nat} (hi : i ≤ s.size) :
  match rdT (s.toList.drop i) with
  | some (u, n) => Ev fs 94 [.p (PS s i false)] ⟨.d (.v (.string (bOf u))), [.p (PS s (i + n) false)]⟩
  | none => ∃ i', i' ≤ s.size ∧ Ev fs 94 [.p (PS s i false)] ⟨.d (.v (.string ({ data := #[] } : ByteArray))), [.p (PS s i' true)]⟩ := by
 have key := C1y hs _ i (Nat.le_refl _) hi [] (by simp)
 cases hq : rdT (s.toList.drop i) with
 | none =>
  rw [hq] at key
  obtain ⟨i', h1, h2⟩ := key
  refine ⟨i', h1, ?_⟩
  refine Ev.of (af := a94) rfl rfl (Evt.congr (fun d n => D2h ..) ?_)
  refine I4 (L := fun d n => A3r (TabD fs d) d n [.b (PB s i false), .o 1 (M6 [])]) h2 ?_
  simp -implicitDefEqProofs only [rdl, Ex.same, Nat.beq]
  exact Evt.ret
 | some q =>
  obtain ⟨u, n⟩ := q
  rw [hq] at key
  obtain ⟨r1, r2, r3⟩ := C0b _ _ _ (Nat.le_refl _) hq
  simp only [List.length_drop, F9] at r1 r2
  refine Ev.of (af := a94) rfl rfl (Evt.congr (fun d n => D2h ..) ?_)
  refine I4 (L := fun d n => A3r (TabD fs d) d n [.b (PB s i false), .o 1 (M6 [])]) key ?_
  have hw : IntKind.i64.wrap (((i + n - 1 : Nat) : Int) + 1) = ((i + n : Nat) : Int) := by rw [wrap_i64 (by omega) (by omega)]; omega
  simp -implicitDefEqProofs only [rdl, Ex.same, Nat.beq, List.nil_append, A8n, A8o, hw]
  exact Evt.ret
theorem B7h (l : List UInt8) : A1m l ≤ l.length := by
 unfold A1m
 induction l with
 | nil => simp
 | cons c l ih => simp only [List.takeWhile_cons]; split <;> simp <;> omega
def B7i (s : ByteArray) (i : Nat) (b : Bool) : Nat := bif b then 0 else A1m (s.toList.drop i)
theorem C1z {s : ByteArray} (hs : s.size ≤ 1048576) (u : Int) : ∀ (k i : Nat), s.size - i ≤ k → i ≤ s.size →
  Evt (fun d m => A5b (TabD fs d) d m [.b (PB s i false), .v (.int .i64 u)]) (.exit 0, [.b (PB s (i + A1m (s.toList.drop i)) false), .v (.int .i64 u)]) := by
 have fin : ∀ i, i = s.size → Evt (fun d m => A5b (TabD fs d) d m [.b (PB s i false), .v (.int .i64 u)]) (.exit 0, [.b (PB s i false), .v (.int .i64 u)]) := fun i hi => by
  have hp := A7z (s := s) (i := i) (by omega)
  refine F7 ?_
  simp only [B4q]
  simp -implicitDefEqProofs only [rdl, Ex.same, Nat.beq, Bool.not_false, O6]
  refine A7 (f125 s i false) ?_
  simp -implicitDefEqProofs only [rdl, Ex.same, Nat.beq, hp, show ((((0 : Nat) : Int) != 58) == true) = true from rfl]
  refine A7 (f125 s i false) ?_
  simp -implicitDefEqProofs only [rdl, Ex.same, Nat.beq, hp, show (((0 : Nat) : Int) != 0) = false from rfl]
  exact Evt.ret
 have e0 : ∀ i, i = s.size → A1m (s.toList.drop i) = 0 := fun i hi => by rw [List.drop_of_length_le (by rw [F9]; omega)]; rfl
 intro k
 induction k with
 | zero =>
  intro i hk hi
  have := fin i (by omega)
  rw [e0 i (by omega)]
  exact this
 | succ k ih =>
  intro i hk hi
  by_cases hlt : i < s.size
  ·obtain ⟨c, hc, hd⟩ := drop_at hlt
   have hp := A9m hc
   have hw1 : IntKind.i64.wrap ((i : Int) + 1) = ((i + 1 : Nat) : Int) := G7 hlt (by simp only [maxLen]; omega)
   rw [hd]
   refine F7 ?_
   simp only [B4q]
   simp -implicitDefEqProofs only [rdl, Ex.same, Nat.beq, Bool.not_false, O6]
   refine A7 (f125 s i false) ?_
   simp -implicitDefEqProofs only [rdl, Ex.same, Nat.beq, hp]
   by_cases h58 : c = 58
   ·simp -implicitDefEqProofs only [rdl, Ex.same, Nat.beq, show ((c.toNat : Int) != 58) = false from by rw [h58]; rfl, show (false == true) = false from rfl]
    refine Evt.ret' ?_
    simp [A1m, h58]
   ·have n58 : ((c.toNat : Int) != 58) = true := by have := A9b (n := 58) (by omega) h58; simp; omega
    simp -implicitDefEqProofs only [rdl, Ex.same, Nat.beq, n58, show (true == true) = true from rfl]
    refine A7 (f125 s i false) ?_
    simp -implicitDefEqProofs only [rdl, Ex.same, Nat.beq, hp]
    by_cases hz : c = 0
    ·simp -implicitDefEqProofs only [rdl, Ex.same, Nat.beq, show ((c.toNat : Int) != 0) = false from by rw [hz]; rfl]
     refine Evt.ret' ?_
     simp [A1m, hz]
    ·have nz : ((c.toNat : Int) != 0) = true := by have := A9b (n := 0) (by omega) hz; simp; omega
     simp -implicitDefEqProofs only [rdl, Ex.same, Nat.beq, nz, hw1]
     have nx := ih (i + 1) (by omega) (by omega)
     have e : A1m (c :: s.toList.drop (i + 1)) = A1m (s.toList.drop (i + 1)) + 1 := by simp [A1m, h58, hz]
     rw [e, show i + (A1m (s.toList.drop (i + 1)) + 1) = i + 1 + A1m (s.toList.drop (i + 1)) from by omega]
     exact nx
  ·have := fin i (by omega)
   rw [e0 i (by omega)]
   exact this
theorem f126 {s : ByteArray} (hs : s.size ≤ 1048576) {i : Nat} (hi : i ≤ s.size) (b : Bool) : Ev fs 126 [.p (PS s i b)] ⟨.d (.v (.string (s.extract i (i + B7i s i b)))), [.p (PS s (i + B7i s i b) b)]⟩ := by
 refine Ev.of (af := D0r) rfl rfl (Evt.congr (fun d n => D2i ..) ?_)
 have hl := B7h (s.toList.drop i)
 simp only [List.length_drop, F9] at hl
 cases b with
 | false =>
  refine I4 (L := fun d n => A5b (TabD fs d) d n [.b (PB s i false), .v (.int .i64 (i : Int))]) (C1z hs _ _ i (Nat.le_refl _) hi) ?_
  have hc : N9 (i : Int) ((i + A1m (s.toList.drop i) : Nat) : Int) s.size = true := by simp [N9]; omega
  simp -implicitDefEqProofs only [rdl, Ex.same, Nat.beq, hc]
  exact Evt.ret
 | true =>
  have key : Evt (fun d m => A5b (TabD fs d) d m [.b (PB s i true), .v (.int .i64 (i : Int))]) (.exit 0, [.b (PB s i true), .v (.int .i64 (i : Int))]) := by
   refine F7 ?_
   simp only [B4q]
   simp -implicitDefEqProofs only [rdl, Ex.same, Nat.beq, Bool.not_true, show (false == true) = false from rfl]
   exact Evt.ret
  refine I4 (L := fun d n => A5b (TabD fs d) d n [.b (PB s i true), .v (.int .i64 (i : Int))]) key ?_
  have hc : N9 (i : Int) (i : Int) s.size = true := by simp [N9]; omega
  simp -implicitDefEqProofs only [rdl, Ex.same, Nat.beq, hc]
  exact Evt.ret
theorem C20 {s : ByteArray} (hs : s.size ≤ 1048576) (mi : Bool) : ∀ (f i : Nat), i ≤ s.size → f ≤ 19 → ∀ x : Nat, x < 10 ^ (19 - f) →
  Evt (fun d m => B35 (TabD fs d) d m [.b (PB s i false), .v (.bool mi), .v (.int .u64 (x : Int)), .v (.int .i64 ((19 - f : Nat) : Int))])
   (.exit 0, [.b (PB s (i + (Z8 f (s.toList.drop i) x).2) false), .v (.bool mi), .v (.int .u64 ((Z8 f (s.toList.drop i) x).1 : Nat)), .v (.int .i64 ((19 - f + (Z8 f (s.toList.drop i) x).2 : Nat) : Int))]) ∧ (Z8 f (s.toList.drop i) x).1 < 10 ^ 19 := by
 have stop : ∀ (i : Nat) (x : Int) (k : Int), i ≤ s.size → (¬ (k < 19) ∨ inB (A4m s i false : Int) 48 57 = false) → Evt (fun d m => B35 (TabD fs d) d m [.b (PB s i false), .v (.bool mi), .v (.int .u64 x), .v (.int .i64 k)]) (.exit 0, [.b (PB s i false), .v (.bool mi), .v (.int .u64 x), .v (.int .i64 k)]) := fun i x k hi h => by
  have hb : (A4m s i false : Int) < 256 := by
   simp only [A4m, cond_false]
   have := (s.toList[i]?.getD 0).toNat_lt
   omega
  have hw : IntKind.i64.wrap (A4m s i false : Int) = (A4m s i false : Int) := wrap_i64 (by omega) (by omega)
  refine F7 ?_
  simp only [C4o]
  refine A7 (f125 s i false) ?_
  simp -implicitDefEqProofs only [rdl, Ex.same, Nat.beq, hw]
  refine A7 (f21 _ _ _) ?_
  simp -implicitDefEqProofs only [rdl, Ex.same, Nat.beq]
  refine D6 (fun h1 => ?_) (fun h1 => ?_)
  ·refine D6 (fun h2 => ?_) (fun h2 => ?_)
   ·exfalso
    rcases h with h | h
    ·exact h (of_decide_eq_true h2)
    ·rw [h] at h1; cases h1
   ·exact Evt.ret
  ·exact Evt.ret
 intro f
 induction f with
 | zero =>
  intro i hi hf x hx
  exact ⟨stop i x _ hi (.inl (by omega)), hx⟩
 | succ f ih =>
  intro i hi hf x hx
  by_cases hlt : i < s.size
  ·obtain ⟨c, hc, hd⟩ := drop_at hlt
   have hp := A9m hc
   cases hdg : A14 c with
   | false =>
    have e : Z8 (f + 1) (s.toList.drop i) x = (x, 0) := by rw [hd]; simp [Z8, hdg]
    rw [e]
    refine ⟨stop i x _ hi (.inr (by rw [hp]; exact hdg)), ?_⟩
    exact Nat.lt_of_lt_of_le hx (Nat.pow_le_pow_right (by omega) (by omega))
   | true =>
    have hr : 48 ≤ c.toNat ∧ c.toNat ≤ 57 := by simp [A14, inB] at hdg; omega
    have e : Z8 (f + 1) (s.toList.drop i) x = ((Z8 f (s.toList.drop (i + 1)) (x * 10 + (c.toNat - 48))).1, (Z8 f (s.toList.drop (i + 1)) (x * 10 + (c.toNat - 48))).2 + 1) := by rw [hd]; simp [Z8, hdg]
    have hpw : 10 ^ (19 - f) = 10 ^ (19 - (f + 1)) * 10 := by rw [← Nat.pow_succ]; congr 1; omega
    have hx2 : x * 10 + (c.toNat - 48) < 10 ^ (19 - f) := by rw [hpw]; omega
    have hbig : (10 : Nat) ^ (19 - f) ≤ 10 ^ 19 := Nat.pow_le_pow_right (by omega) (by omega)
    obtain ⟨n1, n2⟩ := ih (i + 1) hlt (by omega) _ hx2
    rw [e]
    refine ⟨?_, n2⟩
    have hw1 : IntKind.i64.wrap ((i : Int) + 1) = ((i + 1 : Nat) : Int) := G7 hlt (by simp only [maxLen]; omega)
    have hw2 : IntKind.i64.wrap (((19 - (f + 1) : Nat) : Int) + 1) = ((19 - f : Nat) : Int) := by rw [wrap_i64 (by omega) (by omega)]; omega
    have hw3 : IntKind.u64.wrap (IntKind.u64.wrap ((x : Int) * 10) + IntKind.u64.wrap (IntKind.u8.wrap ((c.toNat : Int) - 48))) = ((x * 10 + (c.toNat - 48) : Nat) : Int) := by
     rw [wrap_u8 (by omega) (by omega), wrap_u64 (n := (x : Int) * 10) (by omega) (by omega), wrap_u64 (n := (c.toNat : Int) - 48) (by omega) (by omega), wrap_u64 (by omega) (by omega)]
     omega
    have hw : IntKind.i64.wrap (c.toNat : Int) = (c.toNat : Int) := wrap_i64 (by omega) (by omega)
    refine F7 ?_
    simp only [C4o]
    refine A7 (f125 s i false) ?_
    simp -implicitDefEqProofs only [rdl, Ex.same, Nat.beq, hp, hw]
    refine A7 (f21 _ _ _) ?_
    simp -implicitDefEqProofs only [rdl, Ex.same, Nat.beq, show inB (c.toNat : Int) 48 57 = true from hdg, show (true == true) = true from rfl, show decide (((19 - (f + 1) : Nat) : Int) < 19) = true from decide_eq_true (by omega), F3, I1 hc, hw1, hw2, hw3]
    rw [show i + ((Z8 f (s.toList.drop (i + 1)) (x * 10 + (c.toNat - 48))).2 + 1) = i + 1 + (Z8 f (s.toList.drop (i + 1)) (x * 10 + (c.toNat - 48))).2 from by omega,
     show 19 - (f + 1) + ((Z8 f (s.toList.drop (i + 1)) (x * 10 + (c.toNat - 48))).2 + 1) = 19 - f + (Z8 f (s.toList.drop (i + 1)) (x * 10 + (c.toNat - 48))).2 from by omega]
    exact n1
  ·have e : Z8 (f + 1) (s.toList.drop i) x = (x, 0) := by rw [List.drop_of_length_le (by rw [F9]; omega)]; rfl
   rw [e]
   refine ⟨stop i x _ hi (.inr (by rw [A7z (by omega)]; rfl)), ?_⟩
   exact Nat.lt_of_lt_of_le hx (Nat.pow_le_pow_right (by omega) (by omega))
def A3c (s : ByteArray) (i : Nat) : Bool := takeB s i false ({ data := #[45] } : ByteArray)
def A0b (s : ByteArray) (i : Nat) : Nat := bif A3c s i then i + 1 else i
theorem B7j {s : ByteArray} {i : Nat} (hi : i ≤ s.size) : A0b s i ≤ s.size := by
 unfold A0b
 cases h : A3c s i with
 | false => exact hi
 | true =>
  simp only [A3c, takeB, Bool.not_false, Bool.true_and, B1k, beq_iff_eq] at h
  have := congrArg List.length h
  rw [List.length_take, List.length_drop, F9, F9] at this
  have e : ({ data := #[45] } : ByteArray).size = 1 := rfl
  rw [e] at this
  simp only [cond_true]
  omega
theorem f96 {s : ByteArray} (hs : s.size ≤ 1048576) {i : Nat} (hi : i ≤ s.size) : Ev fs 96 [.p (PS s i false)]
  ⟨.d (.v (.int .i64 (C1o (A3c s i) (Z8 19 (s.toList.drop (A0b s i)) 0).1))), [.p (PS s (A0b s i + (Z8 19 (s.toList.drop (A0b s i)) 0).2) (B4i (A3c s i) (Z8 19 (s.toList.drop (A0b s i)) 0).1 (Z8 19 (s.toList.drop (A0b s i)) 0).2))]⟩ := by
 refine Ev.of (af := a96) rfl rfl (Evt.congr (fun d n => D3x ..) ?_)
 refine A7 (f93 hs hi false (t := ({ data := #[45] } : ByteArray)) (by decide)) ?_
 have e1 : (bif takeB s i false ({ data := #[45] } : ByteArray) then i + ({ data := #[45] } : ByteArray).size else i) = A0b s i := rfl
 have e2 : takeB s i false ({ data := #[45] } : ByteArray) = A3c s i := rfl
 rw [e1, e2]
 have hm := B7j hi
 obtain ⟨key, _⟩ := C20 hs (A3c s i) 19 (A0b s i) hm (Nat.le_refl _) 0 (by decide)
 generalize A3c s i = mi at key
 generalize A0b s i = j at key
 generalize Z8 19 (s.toList.drop j) 0 = p at key
 obtain ⟨x, n⟩ := p
 simp only at key
 simp -implicitDefEqProofs only [rdl, Ex.same, Nat.beq]
 refine I4 (L := fun d m => B35 (TabD fs d) d m [.b (PB s j false), .v (.bool mi), .v (.int .u64 0), .v (.int .i64 0)]) key ?_
 have e3 : (19 - 19 + n : Nat) = n := by omega
 rw [e3]
 cases h1 : ((n : Nat) : Int) == 0 <;> cases h2 : decide ((x : Int) > 9223372036854775808) <;> cases h3 : ((x : Int) == 9223372036854775808) <;> cases h4 : decide ((x : Int) > 0) <;> cases mi <;>
  (simp -implicitDefEqProofs only [rdl, Ex.same, Nat.beq, h1, h2, h3, h4, O6, P6, Bool.not_true, Bool.not_false, show (true == true) = true from rfl, show (false == true) = false from rfl, show (true == false) = false from rfl, show (false == false) = true from rfl]
   exact Evt.ret' (by simp only [C1o, B4i, h1, h2, h3, h4, Bool.and_true, Bool.and_false, Bool.true_and, Bool.false_and, Bool.or_false, Bool.or_true, Bool.false_or, Bool.true_or, Bool.not_true, Bool.not_false, cond_true, cond_false]))
end Go.Am.Pm
