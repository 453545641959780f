/- The reference's reader: what comes next, what is taken, a text in quotes. Nothing is assumed. -/
import Derived.Test.YtefdfdkkbbehiaaGreatDoorPpU
namespace Go.Am.Pp
set_option linter.unusedVariables false
set_option linter.unusedSimpArgs false
set_option maxRecDepth 8000
abbrev PS (s : ByteArray) (i : Nat) (b : Bool) : Row := [.v (.string s), .v (.int .i64 (i : Int)), .v (.bool b)]
def peekB (s : ByteArray) (i : Nat) (b : Bool) : Nat := bif b then 0 else (s.toList[i]?.getD 0).toNat
theorem f144 (s : ByteArray) (i : Nat) (b : Bool) : Ev fs 144 [.p (PS s i b)] ⟨.d (.v (.int .u8 (peekB s i b))), [.p (PS s i b)]⟩ := by
 refine Ev.of (af := a144) rfl rfl (Evt.congr (fun d n => a144q ..) ?_)
 cases b with
 | true =>
  simp -implicitDefEqProofs only [rdl, Ex.same, Nat.beq, beq_t, beq_f, Bool.not_true, Bool.not_false]
  exact Evt.ret
 | false =>
  simp -implicitDefEqProofs only [rdl, Ex.same, Nat.beq, beq_t, beq_f, Bool.not_true, Bool.not_false]
  refine ev_if (fun h => ?_) (fun h => ?_)
  ·have h : s.size ≤ i := by have := of_decide_eq_true h; omega
   refine Evt.ret' ?_
   simp only [peekB, cond_false]
   rw [List.getElem?_eq_none (by rw [toList_len]; exact h)]
   rfl
  ·have h : i < s.size := by have := of_decide_eq_false h; omega
   obtain ⟨c, hc⟩ := byte_get h
   simp -implicitDefEqProofs only [rdl, Ex.same, Nat.beq, dec_nn, byteAt_at hc]
   refine Evt.ret' ?_
   simp [peekB, hc]
def takeB (s : ByteArray) (i : Nat) (b : Bool) (t : ByteArray) : Bool := !b && t.toList.isPrefixOf (s.toList.drop i)
theorem f118 {s : ByteArray} (hs : s.size ≤ 1048576) {i : Nat} (hi : i ≤ s.size) (b : Bool) {t : ByteArray} (ht : t.size ≤ 100) : Ev fs 118 [.p (PS s i b), .d (.v (.string t))] ⟨.d (.v (.bool (takeB s i b t))), [.p (PS s (bif takeB s i b t then i + t.size else i) b)]⟩ := by
 refine Ev.of (af := a118) rfl rfl (Evt.congr (fun d n => a118q ..) ?_)
 have e1 : IntKind.i64.wrap ((s.size : Int) - (i : Int)) = (s.size : Int) - (i : Int) := wrap_i64 (by omega) (by omega)
 have e2 : IntKind.i64.wrap ((i : Int) + (t.size : Int)) = ((i + t.size : Nat) : Int) := by rw [wrap_i64 (by omega) (by omega)]; omega
 cases b with
 | true =>
  simp -implicitDefEqProofs only [rdl, Ex.same, Nat.beq, beq_t, beq_f, Bool.not_true, Bool.not_false]
  exact Evt.ret' (by simp [takeB])
 | false =>
  simp -implicitDefEqProofs only [rdl, Ex.same, Nat.beq, beq_t, beq_f, Bool.not_true, Bool.not_false, e1, e2]
  have hp : takeB s i false t = (((s.toList.drop i).take t.toList.length) == t.toList) := by simp [takeB, pre_take]
  refine ev_if (fun h => ?_) (fun h => ?_)
  ·have h : i + t.size ≤ s.size := by simp at h; omega
   have hc : cutOk (i : Int) ((i + t.size : Nat) : Int) s.size = true := by simp [cutOk]; omega
   simp -implicitDefEqProofs only [rdl, Ex.same, Nat.beq, hc]
   have hx : bytesEq (s.extract i (i + t.size)) t = takeB s i false t := by
    rw [hp, bytesEq, ext_list, Nat.add_sub_cancel_left, toList_len]
   rw [hx]
   refine ev_if (fun h2 => ?_) (fun h2 => ?_)
   ·have h2 : takeB s i false t = false := by simpa using h2
    exact Evt.ret' (by rw [h2]; rfl)
   ·have h2 : takeB s i false t = true := by simpa using h2
    exact Evt.ret' (by rw [h2]; rfl)
  ·have h : s.size < i + t.size := by simp at h; omega
   have h2 : takeB s i false t = false := by
    rw [hp, beq_eq_false_iff_ne]
    intro e
    have := congrArg List.length e
    rw [List.length_take, List.length_drop, toList_len, toList_len] at this
    omega
   exact Evt.ret' (by rw [h2]; rfl)
theorem rdT_pos : ∀ (k : Nat) (l : List UInt8) (p : List UInt8 × Nat), l.length ≤ k → rdT l = some p → 1 ≤ p.2 ∧ p.2 ≤ l.length ∧ p.1.length < p.2 := by
 intro k
 induction k with
 | zero => intro l p hl h; cases l with | nil => simp [rdT] at h | cons => simp at hl
 | succ k ih =>
  intro l p hl h
  cases l with
  | nil => simp [rdT] at h
  | cons b l =>
   simp only [List.length_cons] at hl ⊢
   unfold rdT at h
   by_cases h1 : b = 34
   ·rw [if_pos h1] at h
    cases h
    simp
   ·rw [if_neg h1] at h
    by_cases h2 : b = 92
    ·rw [if_pos h2] at h
     cases l with
     | nil => simp at h
     | cons c l =>
      simp only at h
      by_cases h3 : c = 0
      ·rw [if_pos h3] at h; cases h
      ·rw [if_neg h3, Option.map_eq_some_iff] at h
       obtain ⟨q, hq, rfl⟩ := h
       have := ih l q (by simp at hl; omega) hq
       simp only [List.length_cons]
       omega
    ·rw [if_neg h2] at h
     by_cases h3 : b = 0
     ·rw [if_pos h3] at h; cases h
     ·rw [if_neg h3, Option.map_eq_some_iff] at h
      obtain ⟨q, hq, rfl⟩ := h
      have := ih l q (by omega) hq
      simp only [List.length_cons]
      omega
theorem peek_at {s : ByteArray} {i : Nat} {c : UInt8} (h : s.toList[i]? = some c) : peekB s i false = c.toNat := by simp [peekB, h]
theorem peek_end {s : ByteArray} {i : Nat} (h : s.size ≤ i) : peekB s i false = 0 := by
 simp only [peekB, cond_false]
 rw [List.getElem?_eq_none (by rw [toList_len]; exact h)]
 rfl
abbrev PB (s : ByteArray) (i : Nat) (b : Bool) : List AV := [.v (.string s), .v (.int .i64 (i : Int)), .v (.bool b)]
theorem text_loop {s : ByteArray} (hs : s.size ≤ 1048576) : ∀ (k i : Nat), s.size - i ≤ k → i ≤ s.size → ∀ acc : List UInt8, acc.length ≤ i →
  match rdT (s.toList.drop i) with
  | some (u, n) => Evt (fun d m => l119x0 (TabD fs d) d m [.b (PB s i false), .o 1 (rowsB acc)]) (.exit 0, [.b (PB s (i + n - 1) false), .o 1 (rowsB (acc ++ u))])
  | none => ∃ i', i' ≤ s.size ∧ Evt (fun d m => l119x0 (TabD fs d) d m [.b (PB s i false), .o 1 (rowsB acc)]) (.ret, [.b (PB s i' true), .v (.string ({ data := #[] } : ByteArray))]) := by
 have fin : ∀ i, i = s.size → ∀ acc : List UInt8, Evt (fun d m => l119x0 (TabD fs d) d m [.b (PB s i false), .o 1 (rowsB acc)]) (.ret, [.b (PB s i true), .v (.string ({ data := #[] } : ByteArray))]) := fun i hi acc => by
  have hp := peek_end (s := s) (i := i) (by omega)
  refine ev_succ ?_
  simp only [l119x0s]
  refine ev_call (f144 s i false) ?_
  simp -implicitDefEqProofs only [rdl, Ex.same, Nat.beq, hp, show (((0 : Nat) : Int) != 34) = true from rfl]
  refine ev_call (f144 s i false) ?_
  simp -implicitDefEqProofs only [rdl, Ex.same, Nat.beq, hp, show (((0 : Nat) : Int) == 92) = false from rfl]
  refine ev_call (f144 s i false) ?_
  simp -implicitDefEqProofs only [rdl, Ex.same, Nat.beq, hp, show (((0 : Nat) : Int) == 0) = true from rfl]
  exact Evt.ret
 intro k
 induction k with
 | zero =>
  intro i hk hi acc ha
  have e : s.toList.drop i = [] := List.drop_of_length_le (by rw [toList_len]; omega)
  rw [e]
  exact ⟨i, hi, fin i (by omega) acc⟩
 | succ k ih =>
  intro i hk hi acc ha
  by_cases hlt : i < s.size
  ·obtain ⟨c, hc, hd⟩ := drop_at hlt
   have hp := peek_at hc
   have hw1 : IntKind.i64.wrap ((i : Int) + 1) = ((i + 1 : Nat) : Int) := wrap_succ hlt (by simp only [maxLen]; omega)
   have m1 : ∀ b : UInt8, decide (((rowsB acc).length + ([[(.v (.int .u8 (b.toNat : Int)))]] : Rows).length) * 1 ≤ maxBytes) = true := fun b => decide_eq_true (by simp only [rowsB_len, maxBytes, List.length_cons, List.length_nil]; omega)
   rw [hd]
   unfold rdT
   by_cases h34 : c = 34
   ·rw [if_pos h34]
    refine ev_succ ?_
    simp only [l119x0s]
    refine ev_call (f144 s i false) ?_
    simp -implicitDefEqProofs only [rdl, Ex.same, Nat.beq, hp, show ((c.toNat : Int) != 34) = false from by rw [h34]; rfl]
    exact Evt.ret' (by simp)
   ·rw [if_neg h34]
    have n34 : ((c.toNat : Int) != 34) = true := by have := u8_ne (n := 34) (by omega) h34; simp; omega
    by_cases h92 : c = 92
    ·rw [if_pos h92]
     have y92 : ((c.toNat : Int) == 92) = true := by rw [h92]; rfl
     by_cases hlt2 : i + 1 < s.size
     ·obtain ⟨c2, hc2, hd2⟩ := drop_at hlt2
      have hp2 := peek_at hc2
      have hw2 : IntKind.i64.wrap (((i + 1 : Nat) : Int) + 1) = ((i + 2 : Nat) : Int) := wrap_succ hlt2 (by simp only [maxLen]; omega)
      rw [hd2]
      simp only
      by_cases hz : c2 = 0
      ·rw [if_pos hz]
       refine ⟨i + 1, by omega, ev_succ ?_⟩
       simp only [l119x0s]
       refine ev_call (f144 s i false) ?_
       simp -implicitDefEqProofs only [rdl, Ex.same, Nat.beq, hp, n34]
       refine ev_call (f144 s i false) ?_
       simp -implicitDefEqProofs only [rdl, Ex.same, Nat.beq, hp, y92, hw1]
       refine ev_call (f144 s (i + 1) false) ?_
       simp -implicitDefEqProofs only [rdl, Ex.same, Nat.beq, hp2, show ((c2.toNat : Int) == 0) = true from by rw [hz]; rfl]
       exact Evt.ret
      ·rw [if_neg hz]
       have nz : ((c2.toNat : Int) == 0) = false := by have := u8_ne (n := 0) (by omega) hz; simp; omega
       have pre : ∀ res, Evt (fun d m => l119x0 (TabD fs d) d m [.b (PB s (i + 2) false), .o 1 (rowsB (acc ++ [c2]))]) res → Evt (fun d m => l119x0 (TabD fs d) d m [.b (PB s i false), .o 1 (rowsB acc)]) res := fun res k => by
        rw [← rowsB_app, ← rowsB_one] at k
        refine ev_succ ?_
        simp only [l119x0s]
        refine ev_call (f144 s i false) ?_
        simp -implicitDefEqProofs only [rdl, Ex.same, Nat.beq, hp, n34]
        refine ev_call (f144 s i false) ?_
        simp -implicitDefEqProofs only [rdl, Ex.same, Nat.beq, hp, y92, hw1]
        refine ev_call (f144 s (i + 1) false) ?_
        simp -implicitDefEqProofs only [rdl, Ex.same, Nat.beq, hp2, nz, dec_nn, byteAt_at hc2, hw2]
        refine ev_tst (m1 c2) ?_
        exact k
       have nx := ih (i + 2) (by omega) (by omega) (acc ++ [c2]) (by simp; omega)
       cases hq : rdT (s.toList.drop (i + 1 + 1)) with
       | none =>
        rw [show i + 2 = i + 1 + 1 from rfl, hq] at nx
        obtain ⟨i', h1, h2⟩ := nx
        exact ⟨i', h1, pre _ h2⟩
       | some q =>
        obtain ⟨u, n⟩ := q
        rw [show i + 2 = i + 1 + 1 from rfl, hq] at nx
        have := pre _ nx
        simp only [Option.map_some]
        rw [show i + (n + 2) - 1 = i + 1 + 1 + n - 1 from by omega, show acc ++ c2 :: u = acc ++ [c2] ++ u from by simp]
        exact this
     ·have e : s.toList.drop (i + 1) = [] := List.drop_of_length_le (by rw [toList_len]; omega)
      have hp2 := peek_end (s := s) (i := i + 1) (by omega)
      rw [e]
      simp only
      refine ⟨i + 1, by omega, ev_succ ?_⟩
      simp only [l119x0s]
      refine ev_call (f144 s i false) ?_
      simp -implicitDefEqProofs only [rdl, Ex.same, Nat.beq, hp, n34]
      refine ev_call (f144 s i false) ?_
      simp -implicitDefEqProofs only [rdl, Ex.same, Nat.beq, hp, y92, hw1]
      refine ev_call (f144 s (i + 1) false) ?_
      simp -implicitDefEqProofs only [rdl, Ex.same, Nat.beq, hp2, show (((0 : Nat) : Int) == 0) = true from rfl]
      exact Evt.ret
    ·rw [if_neg h92]
     have n92 : ((c.toNat : Int) == 92) = false := by have := u8_ne (n := 92) (by omega) h92; simp; omega
     by_cases hz : c = 0
     ·rw [if_pos hz]
      refine ⟨i, by omega, ev_succ ?_⟩
      simp only [l119x0s]
      refine ev_call (f144 s i false) ?_
      simp -implicitDefEqProofs only [rdl, Ex.same, Nat.beq, hp, n34]
      refine ev_call (f144 s i false) ?_
      simp -implicitDefEqProofs only [rdl, Ex.same, Nat.beq, hp, n92]
      refine ev_call (f144 s i false) ?_
      simp -implicitDefEqProofs only [rdl, Ex.same, Nat.beq, hp, show ((c.toNat : Int) == 0) = true from by rw [hz]; rfl]
      exact Evt.ret
     ·rw [if_neg hz]
      have nz : ((c.toNat : Int) == 0) = false := by have := u8_ne (n := 0) (by omega) hz; simp; omega
      have pre : ∀ res, Evt (fun d m => l119x0 (TabD fs d) d m [.b (PB s (i + 1) false), .o 1 (rowsB (acc ++ [c]))]) res → Evt (fun d m => l119x0 (TabD fs d) d m [.b (PB s i false), .o 1 (rowsB acc)]) res := fun res k => by
       rw [← rowsB_app, ← rowsB_one] at k
       refine ev_succ ?_
       simp only [l119x0s]
       refine ev_call (f144 s i false) ?_
       simp -implicitDefEqProofs only [rdl, Ex.same, Nat.beq, hp, n34]
       refine ev_call (f144 s i false) ?_
       simp -implicitDefEqProofs only [rdl, Ex.same, Nat.beq, hp, n92]
       refine ev_call (f144 s i false) ?_
       simp -implicitDefEqProofs only [rdl, Ex.same, Nat.beq, hp, nz, dec_nn, byteAt_at hc, hw1]
       refine ev_tst (m1 c) ?_
       exact k
      have nx := ih (i + 1) (by omega) (by omega) (acc ++ [c]) (by simp; omega)
      cases hq : rdT (s.toList.drop (i + 1)) with
      | none =>
       rw [hq] at nx
       obtain ⟨i', h1, h2⟩ := nx
       exact ⟨i', h1, pre _ h2⟩
      | some q =>
       obtain ⟨u, n⟩ := q
       rw [hq] at nx
       have := pre _ nx
       simp only [Option.map_some]
       rw [show i + (n + 1) - 1 = i + 1 + n - 1 from by omega, show acc ++ c :: u = acc ++ [c] ++ u from by simp]
       exact this
  ·have e : s.toList.drop i = [] := List.drop_of_length_le (by rw [toList_len]; omega)
   rw [e]
   exact ⟨i, hi, fin i (by omega) acc⟩
theorem f119 {s : ByteArray} (hs : s.size ≤ 1048576) {i : Nat} (hi : i ≤ s.size) :
  match rdT (s.toList.drop i) with
  | some (u, n) => Ev fs 119 [.p (PS s i false)] ⟨.d (.v (.string (bOf u))), [.p (PS s (i + n) false)]⟩
  | none => ∃ i', i' ≤ s.size ∧ Ev fs 119 [.p (PS s i false)] ⟨.d (.v (.string ({ data := #[] } : ByteArray))), [.p (PS s i' true)]⟩ := by
 have key := text_loop hs _ i (Nat.le_refl _) hi [] (by simp)
 cases hq : rdT (s.toList.drop i) with
 | none =>
  rw [hq] at key
  obtain ⟨i', h1, h2⟩ := key
  refine ⟨i', h1, ?_⟩
  refine Ev.of (af := a119) rfl rfl (Evt.congr (fun d n => a119q ..) ?_)
  refine ev_aft (L := fun d n => l119x0 (TabD fs d) d n [.b (PB s i false), .o 1 (rowsB [])]) h2 ?_
  simp -implicitDefEqProofs only [rdl, Ex.same, Nat.beq]
  exact Evt.ret
 | some q =>
  obtain ⟨u, n⟩ := q
  rw [hq] at key
  obtain ⟨r1, r2, r3⟩ := rdT_pos _ _ _ (Nat.le_refl _) hq
  simp only [List.length_drop, toList_len] at r1 r2
  refine Ev.of (af := a119) rfl rfl (Evt.congr (fun d n => a119q ..) ?_)
  refine ev_aft (L := fun d n => l119x0 (TabD fs d) d n [.b (PB s i false), .o 1 (rowsB [])]) key ?_
  have hw : IntKind.i64.wrap (((i + n - 1 : Nat) : Int) + 1) = ((i + n : Nat) : Int) := by rw [wrap_i64 (by omega) (by omega)]; omega
  simp -implicitDefEqProofs only [rdl, Ex.same, Nat.beq, List.nil_append, rowsB_all, rowsB_str, hw]
  exact Evt.ret
theorem wordL_le (l : List UInt8) : wordL l ≤ l.length := by
 unfold wordL
 induction l with
 | nil => simp
 | cons c l ih => simp only [List.takeWhile_cons]; split <;> simp <;> omega
def wordN (s : ByteArray) (i : Nat) (b : Bool) : Nat := bif b then 0 else wordL (s.toList.drop i)
theorem word_loop {s : ByteArray} (hs : s.size ≤ 1048576) (u : Int) : ∀ (k i : Nat), s.size - i ≤ k → i ≤ s.size →
  Evt (fun d m => l145x0 (TabD fs d) d m [.b (PB s i false), .v (.int .i64 u)]) (.exit 0, [.b (PB s (i + wordL (s.toList.drop i)) false), .v (.int .i64 u)]) := by
 have fin : ∀ i, i = s.size → Evt (fun d m => l145x0 (TabD fs d) d m [.b (PB s i false), .v (.int .i64 u)]) (.exit 0, [.b (PB s i false), .v (.int .i64 u)]) := fun i hi => by
  have hp := peek_end (s := s) (i := i) (by omega)
  refine ev_succ ?_
  simp only [l145x0s]
  simp -implicitDefEqProofs only [rdl, Ex.same, Nat.beq, Bool.not_false, beq_t]
  refine ev_call (f144 s i false) ?_
  simp -implicitDefEqProofs only [rdl, Ex.same, Nat.beq, hp, show ((((0 : Nat) : Int) != 58) == true) = true from rfl]
  refine ev_call (f144 s i false) ?_
  simp -implicitDefEqProofs only [rdl, Ex.same, Nat.beq, hp, show (((0 : Nat) : Int) != 0) = false from rfl]
  exact Evt.ret
 have e0 : ∀ i, i = s.size → wordL (s.toList.drop i) = 0 := fun i hi => by rw [List.drop_of_length_le (by rw [toList_len]; omega)]; rfl
 intro k
 induction k with
 | zero =>
  intro i hk hi
  have := fin i (by omega)
  rw [e0 i (by omega)]
  exact this
 | succ k ih =>
  intro i hk hi
  by_cases hlt : i < s.size
  ·obtain ⟨c, hc, hd⟩ := drop_at hlt
   have hp := peek_at hc
   have hw1 : IntKind.i64.wrap ((i : Int) + 1) = ((i + 1 : Nat) : Int) := wrap_succ hlt (by simp only [maxLen]; omega)
   rw [hd]
   refine ev_succ ?_
   simp only [l145x0s]
   simp -implicitDefEqProofs only [rdl, Ex.same, Nat.beq, Bool.not_false, beq_t]
   refine ev_call (f144 s i false) ?_
   simp -implicitDefEqProofs only [rdl, Ex.same, Nat.beq, hp]
   by_cases h58 : c = 58
   ·simp -implicitDefEqProofs only [rdl, Ex.same, Nat.beq, show ((c.toNat : Int) != 58) = false from by rw [h58]; rfl, show (false == true) = false from rfl]
    refine Evt.ret' ?_
    simp [wordL, h58]
   ·have n58 : ((c.toNat : Int) != 58) = true := by have := u8_ne (n := 58) (by omega) h58; simp; omega
    simp -implicitDefEqProofs only [rdl, Ex.same, Nat.beq, n58, show (true == true) = true from rfl]
    refine ev_call (f144 s i false) ?_
    simp -implicitDefEqProofs only [rdl, Ex.same, Nat.beq, hp]
    by_cases hz : c = 0
    ·simp -implicitDefEqProofs only [rdl, Ex.same, Nat.beq, show ((c.toNat : Int) != 0) = false from by rw [hz]; rfl]
     refine Evt.ret' ?_
     simp [wordL, hz]
    ·have nz : ((c.toNat : Int) != 0) = true := by have := u8_ne (n := 0) (by omega) hz; simp; omega
     simp -implicitDefEqProofs only [rdl, Ex.same, Nat.beq, nz, hw1]
     have nx := ih (i + 1) (by omega) (by omega)
     have e : wordL (c :: s.toList.drop (i + 1)) = wordL (s.toList.drop (i + 1)) + 1 := by simp [wordL, h58, hz]
     rw [e, show i + (wordL (s.toList.drop (i + 1)) + 1) = i + 1 + wordL (s.toList.drop (i + 1)) from by omega]
     exact nx
  ·have := fin i (by omega)
   rw [e0 i (by omega)]
   exact this
theorem f145 {s : ByteArray} (hs : s.size ≤ 1048576) {i : Nat} (hi : i ≤ s.size) (b : Bool) : Ev fs 145 [.p (PS s i b)] ⟨.d (.v (.string (s.extract i (i + wordN s i b)))), [.p (PS s (i + wordN s i b) b)]⟩ := by
 refine Ev.of (af := a145) rfl rfl (Evt.congr (fun d n => a145q ..) ?_)
 have hl := wordL_le (s.toList.drop i)
 simp only [List.length_drop, toList_len] at hl
 cases b with
 | false =>
  refine ev_aft (L := fun d n => l145x0 (TabD fs d) d n [.b (PB s i false), .v (.int .i64 (i : Int))]) (word_loop hs _ _ i (Nat.le_refl _) hi) ?_
  have hc : cutOk (i : Int) ((i + wordL (s.toList.drop i) : Nat) : Int) s.size = true := by simp [cutOk]; omega
  simp -implicitDefEqProofs only [rdl, Ex.same, Nat.beq, hc]
  exact Evt.ret
 | true =>
  have key : Evt (fun d m => l145x0 (TabD fs d) d m [.b (PB s i true), .v (.int .i64 (i : Int))]) (.exit 0, [.b (PB s i true), .v (.int .i64 (i : Int))]) := by
   refine ev_succ ?_
   simp only [l145x0s]
   simp -implicitDefEqProofs only [rdl, Ex.same, Nat.beq, Bool.not_true, show (false == true) = false from rfl]
   exact Evt.ret
  refine ev_aft (L := fun d n => l145x0 (TabD fs d) d n [.b (PB s i true), .v (.int .i64 (i : Int))]) key ?_
  have hc : cutOk (i : Int) (i : Int) s.size = true := by simp [cutOk]; omega
  simp -implicitDefEqProofs only [rdl, Ex.same, Nat.beq, hc]
  exact Evt.ret
theorem int_loop2 {s : ByteArray} (hs : s.size ≤ 1048576) (mi : Bool) : ∀ (f i : Nat), i ≤ s.size → f ≤ 19 → ∀ x : Nat, x < 10 ^ (19 - f) →
  Evt (fun d m => l121x0 (TabD fs d) d m [.b (PB s i false), .v (.bool mi), .v (.int .u64 (x : Int)), .v (.int .i64 ((19 - f : Nat) : Int))])
   (.exit 0, [.b (PB s (i + (digN f (s.toList.drop i) x).2) false), .v (.bool mi), .v (.int .u64 ((digN f (s.toList.drop i) x).1 : Nat)), .v (.int .i64 ((19 - f + (digN f (s.toList.drop i) x).2 : Nat) : Int))]) ∧ (digN f (s.toList.drop i) x).1 < 10 ^ 19 := by
 have stop : ∀ (i : Nat) (x : Int) (k : Int), i ≤ s.size → (¬ (k < 19) ∨ inB (peekB s i false : Int) 48 57 = false) → Evt (fun d m => l121x0 (TabD fs d) d m [.b (PB s i false), .v (.bool mi), .v (.int .u64 x), .v (.int .i64 k)]) (.exit 0, [.b (PB s i false), .v (.bool mi), .v (.int .u64 x), .v (.int .i64 k)]) := fun i x k hi h => by
  have hb : (peekB s i false : Int) < 256 := by
   simp only [peekB, cond_false]
   have := (s.toList[i]?.getD 0).toNat_lt
   omega
  have hw : IntKind.i64.wrap (peekB s i false : Int) = (peekB s i false : Int) := wrap_i64 (by omega) (by omega)
  refine ev_succ ?_
  simp only [l121x0s]
  refine ev_call (f144 s i false) ?_
  simp -implicitDefEqProofs only [rdl, Ex.same, Nat.beq, hw]
  refine ev_call (f46 _ _ _) ?_
  simp -implicitDefEqProofs only [rdl, Ex.same, Nat.beq]
  refine ev_if (fun h1 => ?_) (fun h1 => ?_)
  ·refine ev_if (fun h2 => ?_) (fun h2 => ?_)
   ·exfalso
    rcases h with h | h
    ·exact h (of_decide_eq_true h2)
    ·rw [h] at h1; cases h1
   ·exact Evt.ret
  ·exact Evt.ret
 intro f
 induction f with
 | zero =>
  intro i hi hf x hx
  exact ⟨stop i x _ hi (.inl (by omega)), hx⟩
 | succ f ih =>
  intro i hi hf x hx
  by_cases hlt : i < s.size
  ·obtain ⟨c, hc, hd⟩ := drop_at hlt
   have hp := peek_at hc
   cases hdg : isDg c with
   | false =>
    have e : digN (f + 1) (s.toList.drop i) x = (x, 0) := by rw [hd]; simp [digN, hdg]
    rw [e]
    refine ⟨stop i x _ hi (.inr (by rw [hp]; exact hdg)), ?_⟩
    exact Nat.lt_of_lt_of_le hx (Nat.pow_le_pow_right (by omega) (by omega))
   | true =>
    have hr : 48 ≤ c.toNat ∧ c.toNat ≤ 57 := by simp [isDg, inB] at hdg; omega
    have e : digN (f + 1) (s.toList.drop i) x = ((digN f (s.toList.drop (i + 1)) (x * 10 + (c.toNat - 48))).1, (digN f (s.toList.drop (i + 1)) (x * 10 + (c.toNat - 48))).2 + 1) := by rw [hd]; simp [digN, hdg]
    have hpw : 10 ^ (19 - f) = 10 ^ (19 - (f + 1)) * 10 := by rw [← Nat.pow_succ]; congr 1; omega
    have hx2 : x * 10 + (c.toNat - 48) < 10 ^ (19 - f) := by rw [hpw]; omega
    have hbig : (10 : Nat) ^ (19 - f) ≤ 10 ^ 19 := Nat.pow_le_pow_right (by omega) (by omega)
    obtain ⟨n1, n2⟩ := ih (i + 1) hlt (by omega) _ hx2
    rw [e]
    refine ⟨?_, n2⟩
    have hw1 : IntKind.i64.wrap ((i : Int) + 1) = ((i + 1 : Nat) : Int) := wrap_succ hlt (by simp only [maxLen]; omega)
    have hw2 : IntKind.i64.wrap (((19 - (f + 1) : Nat) : Int) + 1) = ((19 - f : Nat) : Int) := by rw [wrap_i64 (by omega) (by omega)]; omega
    have hw3 : IntKind.u64.wrap (IntKind.u64.wrap ((x : Int) * 10) + IntKind.u64.wrap (IntKind.u8.wrap ((c.toNat : Int) - 48))) = ((x * 10 + (c.toNat - 48) : Nat) : Int) := by
     rw [wrap_u8 (by omega) (by omega), wrap_u64 (n := (x : Int) * 10) (by omega) (by omega), wrap_u64 (n := (c.toNat : Int) - 48) (by omega) (by omega), wrap_u64 (by omega) (by omega)]
     omega
    have hw : IntKind.i64.wrap (c.toNat : Int) = (c.toNat : Int) := wrap_i64 (by omega) (by omega)
    refine ev_succ ?_
    simp only [l121x0s]
    refine ev_call (f144 s i false) ?_
    simp -implicitDefEqProofs only [rdl, Ex.same, Nat.beq, hp, hw]
    refine ev_call (f46 _ _ _) ?_
    simp -implicitDefEqProofs only [rdl, Ex.same, Nat.beq, show inB (c.toNat : Int) 48 57 = true from hdg, show (true == true) = true from rfl, show decide (((19 - (f + 1) : Nat) : Int) < 19) = true from decide_eq_true (by omega), dec_nn, byteAt_at hc, hw1, hw2, hw3]
    rw [show i + ((digN f (s.toList.drop (i + 1)) (x * 10 + (c.toNat - 48))).2 + 1) = i + 1 + (digN f (s.toList.drop (i + 1)) (x * 10 + (c.toNat - 48))).2 from by omega,
     show 19 - (f + 1) + ((digN f (s.toList.drop (i + 1)) (x * 10 + (c.toNat - 48))).2 + 1) = 19 - f + (digN f (s.toList.drop (i + 1)) (x * 10 + (c.toNat - 48))).2 from by omega]
    exact n1
  ·have e : digN (f + 1) (s.toList.drop i) x = (x, 0) := by rw [List.drop_of_length_le (by rw [toList_len]; omega)]; rfl
   rw [e]
   refine ⟨stop i x _ hi (.inr (by rw [peek_end (by omega)]; rfl)), ?_⟩
   exact Nat.lt_of_lt_of_le hx (Nat.pow_le_pow_right (by omega) (by omega))
def minusB (s : ByteArray) (i : Nat) : Bool := takeB s i false ({ data := #[45] } : ByteArray)
def minusN (s : ByteArray) (i : Nat) : Nat := bif minusB s i then i + 1 else i
theorem minus_le {s : ByteArray} {i : Nat} (hi : i ≤ s.size) : minusN s i ≤ s.size := by
 unfold minusN
 cases h : minusB s i with
 | false => exact hi
 | true =>
  simp only [minusB, takeB, Bool.not_false, Bool.true_and, pre_take, beq_iff_eq] at h
  have := congrArg List.length h
  rw [List.length_take, List.length_drop, toList_len, toList_len] at this
  have e : ({ data := #[45] } : ByteArray).size = 1 := rfl
  rw [e] at this
  simp only [cond_true]
  omega
theorem f121 {s : ByteArray} (hs : s.size ≤ 1048576) {i : Nat} (hi : i ≤ s.size) : Ev fs 121 [.p (PS s i false)]
  ⟨.d (.v (.int .i64 (intV (minusB s i) (digN 19 (s.toList.drop (minusN s i)) 0).1))), [.p (PS s (minusN s i + (digN 19 (s.toList.drop (minusN s i)) 0).2) (intBad (minusB s i) (digN 19 (s.toList.drop (minusN s i)) 0).1 (digN 19 (s.toList.drop (minusN s i)) 0).2))]⟩ := by
 refine Ev.of (af := a121) rfl rfl (Evt.congr (fun d n => a121q ..) ?_)
 refine ev_call (f118 hs hi false (t := ({ data := #[45] } : ByteArray)) (by decide)) ?_
 have e1 : (bif takeB s i false ({ data := #[45] } : ByteArray) then i + ({ data := #[45] } : ByteArray).size else i) = minusN s i := rfl
 have e2 : takeB s i false ({ data := #[45] } : ByteArray) = minusB s i := rfl
 rw [e1, e2]
 have hm := minus_le hi
 obtain ⟨key, _⟩ := int_loop2 hs (minusB s i) 19 (minusN s i) hm (Nat.le_refl _) 0 (by decide)
 generalize minusB s i = mi at key
 generalize minusN s i = j at key
 generalize digN 19 (s.toList.drop j) 0 = p at key
 obtain ⟨x, n⟩ := p
 simp only at key
 simp -implicitDefEqProofs only [rdl, Ex.same, Nat.beq]
 refine ev_aft (L := fun d m => l121x0 (TabD fs d) d m [.b (PB s j false), .v (.bool mi), .v (.int .u64 0), .v (.int .i64 0)]) key ?_
 have e3 : (19 - 19 + n : Nat) = n := by omega
 rw [e3]
 cases h1 : ((n : Nat) : Int) == 0 <;> cases h2 : decide ((x : Int) > 9223372036854775808) <;> cases h3 : ((x : Int) == 9223372036854775808) <;> cases h4 : decide ((x : Int) > 0) <;> cases mi <;>
  (simp -implicitDefEqProofs only [rdl, Ex.same, Nat.beq, h1, h2, h3, h4, beq_t, beq_f, Bool.not_true, Bool.not_false, show (true == true) = true from rfl, show (false == true) = false from rfl, show (true == false) = false from rfl, show (false == false) = true from rfl]
   exact Evt.ret' (by simp only [intV, intBad, h1, h2, h3, h4, Bool.and_true, Bool.and_false, Bool.true_and, Bool.false_and, Bool.or_false, Bool.or_true, Bool.false_or, Bool.true_or, Bool.not_true, Bool.not_false, cond_true, cond_false]))
end Go.Am.Pp
