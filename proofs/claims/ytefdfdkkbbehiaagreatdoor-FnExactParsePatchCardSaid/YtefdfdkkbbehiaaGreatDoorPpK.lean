/- The program's reader: what is taken, what is needed, what is read up to some bytes. Nothing is assumed. -/
import Derived.Test.YtefdfdkkbbehiaaGreatDoorPpO
namespace Go.Am.Pp
set_option linter.unusedVariables false
set_option linter.unusedSimpArgs false
set_option maxRecDepth 8000
abbrev QS (s : ByteArray) (ok : Bool) : Row := [.v (.string s), .v (.bool ok)]
theorem f151 (s p : ByteArray) : Ev fs 151 [.d (.v (.string s)), .d (.v (.string p))] ⟨.t [.d (.v (.string (trimP s p))), .d (.v (.bool (hasP s p)))], []⟩ :=
 Ev.nat rfl ⟨0, fun _ _ _ _ => by show (((((((natF 137 fReplace 151 [.d (.v (.string s)), .d (.v (.string p))]).or (natF 36 fJoin 151 [.d (.v (.string s)), .d (.v (.string p))])).or (natF 151 fCut 151 [.d (.v (.string s)), .d (.v (.string p))])).or (natF 154 fTrim 151 [.d (.v (.string s)), .d (.v (.string p))])).or (natF 153 fAny 151 [.d (.v (.string s)), .d (.v (.string p))])).or (natF 22 fSplit 151 [.d (.v (.string s)), .d (.v (.string p))])).or (natF 56 fCut3 151 [.d (.v (.string s)), .d (.v (.string p))])).or (natF 23 fSuf 151 [.d (.v (.string s)), .d (.v (.string p))]) = _; simp [natF, fCut, show Nat.beq 151 137 = false from rfl, show Nat.beq 151 36 = false from rfl, show Nat.beq 151 154 = false from rfl, show Nat.beq 151 153 = false from rfl, show Nat.beq 151 22 = false from rfl, show Nat.beq 151 56 = false from rfl, show Nat.beq 151 23 = false from rfl]⟩
theorem f154 (s p : ByteArray) : Ev fs 154 [.d (.v (.string s)), .d (.v (.string p))] ⟨.d (.v (.string (trimP s p))), []⟩ :=
 Ev.nat rfl ⟨0, fun _ _ _ _ => by show (((((((natF 137 fReplace 154 [.d (.v (.string s)), .d (.v (.string p))]).or (natF 36 fJoin 154 [.d (.v (.string s)), .d (.v (.string p))])).or (natF 151 fCut 154 [.d (.v (.string s)), .d (.v (.string p))])).or (natF 154 fTrim 154 [.d (.v (.string s)), .d (.v (.string p))])).or (natF 153 fAny 154 [.d (.v (.string s)), .d (.v (.string p))])).or (natF 22 fSplit 154 [.d (.v (.string s)), .d (.v (.string p))])).or (natF 56 fCut3 154 [.d (.v (.string s)), .d (.v (.string p))])).or (natF 23 fSuf 154 [.d (.v (.string s)), .d (.v (.string p))]) = _; simp [natF, fTrim, show Nat.beq 154 137 = false from rfl, show Nat.beq 154 36 = false from rfl, show Nat.beq 154 151 = false from rfl, show Nat.beq 154 153 = false from rfl, show Nat.beq 154 22 = false from rfl, show Nat.beq 154 56 = false from rfl, show Nat.beq 154 23 = false from rfl]⟩
def ixOf (s p : ByteArray) : Int := bif p.data.toList == [58] then Lib.indexAny s.data.toList [58] else anyIx s
theorem f153 {s p : ByteArray} (hs : s.size ≤ 1048576) (hp : p.data.toList = [58] ∨ p.data.toList = [44, 93, 125]) : Ev fs 153 [.d (.v (.string s)), .d (.v (.string p))] ⟨.d (.v (.int .i64 (ixOf s p))), []⟩ :=
 Ev.nat rfl ⟨0, fun _ _ _ _ => by
  have h : s.size < 4294967281 := by omega
  show (((((((natF 137 fReplace 153 [.d (.v (.string s)), .d (.v (.string p))]).or (natF 36 fJoin 153 [.d (.v (.string s)), .d (.v (.string p))])).or (natF 151 fCut 153 [.d (.v (.string s)), .d (.v (.string p))])).or (natF 154 fTrim 153 [.d (.v (.string s)), .d (.v (.string p))])).or (natF 153 fAny 153 [.d (.v (.string s)), .d (.v (.string p))])).or (natF 22 fSplit 153 [.d (.v (.string s)), .d (.v (.string p))])).or (natF 56 fCut3 153 [.d (.v (.string s)), .d (.v (.string p))])).or (natF 23 fSuf 153 [.d (.v (.string s)), .d (.v (.string p))]) = _
  rcases hp with hp | hp <;> simp [natF, fAny, ixOf, hp, h, show Nat.beq 153 137 = false from rfl, show Nat.beq 153 36 = false from rfl, show Nat.beq 153 151 = false from rfl, show Nat.beq 153 154 = false from rfl, show Nat.beq 153 22 = false from rfl, show Nat.beq 153 56 = false from rfl, show Nat.beq 153 23 = false from rfl]⟩
theorem ixOf_rng (s p : ByteArray) : -1 ≤ ixOf s p ∧ ixOf s p ≤ s.size := by
 unfold ixOf
 cases p.data.toList == [58] with
 | true =>
  have := indexAny_rng [58] s.data.toList
  have e : s.data.toList.length = s.size := by rw [Array.length_toList]; rfl
  rw [e] at this
  exact this
 | false => exact anyIx_rng s
theorem f126 (s : ByteArray) (ok : Bool) (p : ByteArray) : Ev fs 126 [.p (QS s ok), .d (.v (.string p))] ⟨.d (.v (.bool (hasP s p))), [.p (QS (trimP s p) ok)]⟩ := by
 refine Ev.of (af := a126) rfl rfl (Evt.congr (fun d n => a126q ..) ?_)
 refine ev_call (f151 s p) ?_
 simp -implicitDefEqProofs only [rdl, Ex.same, Nat.beq]
 exact Evt.ret
theorem f152 (s : ByteArray) (ok : Bool) (p : ByteArray) : Ev fs 152 [.p (QS s ok), .d (.v (.string p))] ⟨.t [], [.p (QS (trimP s p) (hasP s p && ok))]⟩ := by
 refine Ev.of (af := a152) rfl rfl (Evt.congr (fun d n => a152q ..) ?_)
 refine ev_call (f126 s ok p) ?_
 simp -implicitDefEqProofs only [rdl, Ex.same, Nat.beq]
 refine ev_if (fun h => ?_) (fun h => ?_)
 ·have h : hasP s p = false := by simpa using h
  exact Evt.ret' (by rw [h]; rfl)
 ·have h : hasP s p = true := by simpa using h
  exact Evt.ret' (by rw [h]; rfl)
def tillN (s p : ByteArray) : Nat := if ixOf s p < 0 then s.size else (ixOf s p).toNat
theorem f129 {s : ByteArray} (hs : s.size ≤ 1048576) (ok : Bool) {p : ByteArray} (hp : p.data.toList = [58] ∨ p.data.toList = [44, 93, 125]) : Ev fs 129 [.p (QS s ok), .d (.v (.string p))] ⟨.d (.v (.string (s.extract 0 (tillN s p)))), [.p (QS (s.extract (tillN s p) s.size) ok)]⟩ := by
 refine Ev.of (af := a129) rfl rfl (Evt.congr (fun d n => a129q ..) ?_)
 refine ev_call (f153 hs hp) ?_
 have hr := ixOf_rng s p
 simp -implicitDefEqProofs only [rdl, Ex.same, Nat.beq]
 refine ev_if (fun h => ?_) (fun h => ?_)
 ·have h : ixOf s p < 0 := of_decide_eq_true h
  have e : tillN s p = s.size := by simp [tillN, h]
  refine ev_tst (by simp [cutOk]) ?_
  refine ev_tst (by simp [cutOk]) ?_
  exact Evt.ret' (by rw [e]; rfl)
 ·have h : ¬ ixOf s p < 0 := of_decide_eq_false h
  have e : tillN s p = (ixOf s p).toNat := by simp [tillN, h]
  refine ev_tst (by simp [cutOk]; omega) ?_
  refine ev_tst (by simp [cutOk]; omega) ?_
  exact Evt.ret' (by rw [e]; rfl)
abbrev QB (s : ByteArray) (ok : Bool) : List AV := [.v (.string s), .v (.bool ok)]
theorem head_at {s : ByteArray} {b : UInt8} {l : List UInt8} (h : s.toList = b :: l) : 0 < s.size ∧ s.toList[0]? = some b ∧ (s.extract 1 s.size).toList = l ∧ (s.extract 1 s.size).size = l.length ∧ bytesEq s ({ data := #[] } : ByteArray) = false := by
 have hl := toList_len s
 rw [h, List.length_cons] at hl
 have e : (s.extract 1 s.size).toList = l := by rw [ext_list, h]; exact List.take_of_length_le (by show l.length ≤ _; omega)
 refine ⟨by omega, by rw [h]; rfl, e, by rw [← toList_len, e], ?_⟩
 have e2 : ({ data := #[] } : ByteArray).toList = [] := by rw [ByteArray.toList_eq]
 rw [bytesEq, h, e2]
 rfl
theorem empty_at {s : ByteArray} (h : s.toList = []) : bytesEq s ({ data := #[] } : ByteArray) = true := by
 have e2 : ({ data := #[] } : ByteArray).toList = [] := by rw [ByteArray.toList_eq]
 rw [bytesEq, h, e2]
 rfl
theorem ptext_loop : ∀ (k : Nat) (s : ByteArray), s.size ≤ k → s.size ≤ 1048576 → ∀ acc : List UInt8, acc.length + s.size ≤ 1048576 →
  match rdP s.toList with
  | some (u, n) => ∃ s', s'.toList = s.toList.drop n ∧ Evt (fun d m => l127x0 (TabD fs d) d m [.b (QB s true), .o 1 (rowsB acc)]) (.ret, [.b (QB s' true), .v (.string (bOf (acc ++ u)))])
  | none => ∃ s', s'.size ≤ s.size ∧ Evt (fun d m => l127x0 (TabD fs d) d m [.b (QB s true), .o 1 (rowsB acc)]) (.exit 0, [.b (QB s' true)]) := by
 have fin : ∀ (s : ByteArray), s.toList = [] → ∀ acc : List UInt8, Evt (fun d m => l127x0 (TabD fs d) d m [.b (QB s true), .o 1 (rowsB acc)]) (.exit 0, [.b (QB s true)]) := fun s hs acc => by
  refine ev_succ ?_
  simp only [l127x0s]
  simp -implicitDefEqProofs only [rdl, Ex.same, Nat.beq, show (true == true) = true from rfl, empty_at hs, Bool.not_true]
  exact Evt.ret
 intro k
 induction k with
 | zero =>
  intro s hk hs acc ha
  have e : s.toList = [] := List.length_eq_zero_iff.1 (by rw [toList_len]; omega)
  rw [e]
  exact ⟨s, Nat.le_refl _, fin s e acc⟩
 | succ k ih =>
  intro s hk hs acc ha
  cases hl : s.toList with
  | nil => exact ⟨s, Nat.le_refl _, fin s hl acc⟩
  | cons b l =>
   obtain ⟨h0, h1, h2, h3, h4⟩ := head_at hl
   have hz : s.size = l.length + 1 := by rw [← toList_len, hl]; rfl
   have hc1 : cutOk 1 (s.size : Int) s.size = true := by simp [cutOk]; omega
   have m1 : ∀ b : UInt8, decide (((rowsB acc).length + ([[(.v (.int .u8 (b.toNat : Int)))]] : Rows).length) * 1 ≤ maxBytes) = true := fun b => decide_eq_true (by simp only [rowsB_len, maxBytes, List.length_cons, List.length_nil]; omega)
   unfold rdP
   by_cases h34 : b = 34
   ·rw [if_pos h34]
    refine ⟨s.extract 1 s.size, by rw [h2]; rfl, ev_succ ?_⟩
    simp only [l127x0s]
    simp -implicitDefEqProofs only [rdl, Ex.same, Nat.beq, show (true == true) = true from rfl, h4, Bool.not_false, show decide ((0 : Int) ≤ 0) = true from rfl, show decide ((0 : Nat) ≤ 0) = true from rfl, show Int.toNat 0 = 0 from rfl, show Int.toNat 1 = 1 from rfl, byteAt_at h1, hc1, show ((b.toNat : Int) == 34) = true from by rw [h34]; rfl, rowsB_all, rowsB_str]
    exact Evt.ret' (by rw [List.append_nil])
   ·rw [if_neg h34]
    have n34 : ((b.toNat : Int) == 34) = false := by have := u8_ne (n := 34) (by omega) h34; simp; omega
    by_cases h92 : b = 92
    ·rw [if_pos h92]
     have y92 : ((b.toNat : Int) == 92) = true := by rw [h92]; rfl
     cases l with
     | nil =>
      have e5 := empty_at h2
      have e6 : (s.extract 1 s.size).toList = [] := h2
      refine ⟨s.extract 1 s.size, by rw [h3]; simp, ev_succ ?_⟩
      simp only [l127x0s]
      simp -implicitDefEqProofs only [rdl, Ex.same, Nat.beq, show (true == true) = true from rfl, h4, Bool.not_false, Bool.not_true, show decide ((0 : Int) ≤ 0) = true from rfl, show decide ((0 : Nat) ≤ 0) = true from rfl, show Int.toNat 0 = 0 from rfl, show Int.toNat 1 = 1 from rfl, byteAt_at h1, hc1, n34, y92, e5]
      refine ev_tst (m1 b) ?_
      rw [rowsB_one, rowsB_app]
      exact fin _ e6 _
     | cons c l =>
      obtain ⟨g0, g1, g2, g3, g4⟩ := head_at h2
      have hc2 : cutOk 1 ((s.extract 1 s.size).size : Int) (s.extract 1 s.size).size = true := by simp only [cutOk, Bool.and_eq_true, decide_eq_true_eq]; omega
      simp only
      have pre : ∀ res, Evt (fun d m => l127x0 (TabD fs d) d m [.b (QB ((s.extract 1 s.size).extract 1 (s.extract 1 s.size).size) true), .o 1 (rowsB (acc ++ [c]))]) res → Evt (fun d m => l127x0 (TabD fs d) d m [.b (QB s true), .o 1 (rowsB acc)]) res := fun res k => by
       rw [← rowsB_app, ← rowsB_one] at k
       refine ev_succ ?_
       simp only [l127x0s]
       simp -implicitDefEqProofs only [rdl, Ex.same, Nat.beq, show (true == true) = true from rfl, h4, g4, Bool.not_false, Bool.not_true, show decide ((0 : Int) ≤ 0) = true from rfl, show decide ((0 : Nat) ≤ 0) = true from rfl, show Int.toNat 0 = 0 from rfl, show Int.toNat 1 = 1 from rfl, byteAt_at h1, byteAt_at g1, hc1, hc2, n34, y92]
       refine ev_tst (m1 c) ?_
       exact k
      simp only [List.length_cons] at h3 hz
      have nx := ih ((s.extract 1 s.size).extract 1 (s.extract 1 s.size).size) (by rw [g3]; omega) (by rw [g3]; omega) (acc ++ [c]) (by rw [g3]; simp; omega)
      rw [g2] at nx
      cases hq : rdP l with
      | none =>
       rw [hq] at nx
       obtain ⟨s', q1, q2⟩ := nx
       exact ⟨s', by rw [g3] at q1; omega, pre _ q2⟩
      | some q =>
       obtain ⟨u, n⟩ := q
       rw [hq] at nx
       obtain ⟨s', q1, q2⟩ := nx
       exact ⟨s', by rw [q1]; simp [List.drop_succ_cons], by have := pre _ q2; simpa using this⟩
    ·rw [if_neg h92]
     have n92 : ((b.toNat : Int) == 92) = false := by have := u8_ne (n := 92) (by omega) h92; simp; omega
     have pre : ∀ res, Evt (fun d m => l127x0 (TabD fs d) d m [.b (QB (s.extract 1 s.size) true), .o 1 (rowsB (acc ++ [b]))]) res → Evt (fun d m => l127x0 (TabD fs d) d m [.b (QB s true), .o 1 (rowsB acc)]) res := fun res k => by
      rw [← rowsB_app, ← rowsB_one] at k
      refine ev_succ ?_
      simp only [l127x0s]
      simp -implicitDefEqProofs only [rdl, Ex.same, Nat.beq, show (true == true) = true from rfl, show (false == true) = false from rfl, h4, Bool.not_false, show decide ((0 : Int) ≤ 0) = true from rfl, show decide ((0 : Nat) ≤ 0) = true from rfl, show Int.toNat 0 = 0 from rfl, show Int.toNat 1 = 1 from rfl, byteAt_at h1, hc1, n34, n92]
      refine ev_tst (m1 b) ?_
      exact k
     have nx := ih (s.extract 1 s.size) (by rw [h3]; omega) (by rw [h3]; omega) (acc ++ [b]) (by rw [h3]; simp; omega)
     rw [h2] at nx
     cases hq : rdP l with
     | none =>
      rw [hq] at nx
      obtain ⟨s', q1, q2⟩ := nx
      exact ⟨s', by rw [h3] at q1; omega, pre _ q2⟩
     | some q =>
      obtain ⟨u, n⟩ := q
      rw [hq] at nx
      obtain ⟨s', q1, q2⟩ := nx
      exact ⟨s', by rw [q1]; simp, by have := pre _ q2; simpa using this⟩
theorem f127 {s : ByteArray} (hs : s.size ≤ 1048576) :
  match rdP s.toList with
  | some (u, n) => ∃ s', s'.toList = s.toList.drop n ∧ Ev fs 127 [.p (QS s true)] ⟨.d (.v (.string (bOf u))), [.p (QS s' true)]⟩
  | none => ∃ s', s'.size ≤ s.size ∧ Ev fs 127 [.p (QS s true)] ⟨.d (.v (.string ({ data := #[] } : ByteArray))), [.p (QS s' false)]⟩ := by
 have key := ptext_loop _ s (Nat.le_refl _) hs [] (by simp; omega)
 cases hq : rdP s.toList with
 | none =>
  rw [hq] at key
  obtain ⟨s', h1, h2⟩ := key
  refine ⟨s', h1, ?_⟩
  refine Ev.of (af := a127) rfl rfl (Evt.congr (fun d n => a127q ..) ?_)
  refine ev_aft (L := fun d n => l127x0 (TabD fs d) d n [.b (QB s true), .o 1 (rowsB [])]) h2 ?_
  simp -implicitDefEqProofs only [rdl, Ex.same, Nat.beq]
  exact Evt.ret
 | some q =>
  obtain ⟨u, n⟩ := q
  rw [hq] at key
  obtain ⟨s', h1, h2⟩ := key
  refine ⟨s', h1, ?_⟩
  refine Ev.of (af := a127) rfl rfl (Evt.congr (fun d n => a127q ..) ?_)
  refine ev_aft (L := fun d n => l127x0 (TabD fs d) d n [.b (QB s true), .o 1 (rowsB [])]) h2 ?_
  simp -implicitDefEqProofs only [rdl, Ex.same, Nat.beq, List.nil_append]
  exact Evt.ret
theorem fits_wrap (n : Int) : Fits (IntKind.i64.wrap n) := by
 simp only [Fits, IntKind.min, IntKind.max, IntKind.wrap, IntKind.signed, IntKind.bits]
 simp
 omega
theorem int_T {s t : ByteArray} (ht : t.size ≤ 19) : ∀ (k i : Nat), t.size - i ≤ k → i ≤ t.size → ∀ n : Int, Fits n →
  EvtE (fun y => (∃ n, Fits n ∧ y = (.exit 0, [.v (.string s), .v (.string t), .v (.int .i64 n)])) ∨ y = (.ret, [.v (.int .i64 0), .v (.bool false)])) (fun d m => l130x0 (TabD fs d) d m [.v (.string s), .v (.string t), .v (.int .i64 n), .v (.int .i64 (t.size : Int)), .v (.int .i64 (i : Int))]) := by
 have fin : ∀ i, i = t.size → ∀ n : Int, Fits n → EvtE (fun y => (∃ n, Fits n ∧ y = (.exit 0, [.v (.string s), .v (.string t), .v (.int .i64 n)])) ∨ y = (.ret, [.v (.int .i64 0), .v (.bool false)])) (fun d m => l130x0 (TabD fs d) d m [.v (.string s), .v (.string t), .v (.int .i64 n), .v (.int .i64 (t.size : Int)), .v (.int .i64 (i : Int))]) := fun i hi n hn => by
  subst hi
  refine eve_succ ?_
  simp only [l130x0s]
  simp -implicitDefEqProofs only [rdl, Ex.same, Nat.beq, Int.lt_irrefl, decide_false]
  exact EvtE.ret (.inl ⟨n, hn, rfl⟩)
 intro k
 induction k with
 | zero => intro i hk hi n hn; exact fin i (by omega) n hn
 | succ k ih =>
  intro i hk hi n hn
  by_cases hlt : i < t.size
  ·obtain ⟨c, hc⟩ := byte_get hlt
   have hw := wrap_succ hlt (show t.size ≤ maxLen by simp only [maxLen]; omega)
   refine eve_succ ?_
   simp only [l130x0s]
   simp -implicitDefEqProofs only [rdl, Ex.same, Nat.beq, decide_eq_true (Int.ofNat_lt.2 hlt), dec_nn, byteAt_at hc, hw]
   refine eve_if (fun c1 => ?_) (fun c1 => ?_)
   ·refine eve_if (fun c2 => ?_) (fun c2 => ?_)
    ·exact EvtE.ret (.inr rfl)
    ·exact ih (i + 1) (by omega) (by omega) _ (fits_wrap _)
   ·exact EvtE.ret (.inr rfl)
  ·exact fin i (by omega) n hn
theorem t130 (s : ByteArray) : EvE fs 130 [.d (.v (.string s))] fun o => ∃ n ok, Fits n ∧ o = ⟨.t [.d (.v (.int .i64 n)), .d (.v (.bool ok))], []⟩ := by
 refine EvE.of (af := a130) rfl rfl (EvtE.congr (fun d n => a130q ..) ?_)
 refine eve_call (f154 s ({ data := #[45] } : ByteArray)) ?_
 generalize trimP s ({ data := #[45] } : ByteArray) = t
 simp -implicitDefEqProofs only [rdl, Ex.same, Nat.beq]
 refine eve_if (fun c1 => ?_) (fun c1 => ?_)
 ·refine eve_if (fun c2 => ?_) (fun c2 => ?_)
  ·exact EvtE.ret ⟨0, false, by decide, rfl⟩
  ·have ht : t.size ≤ 19 := by have := of_decide_eq_false c2; omega
   refine eve_aft (L := fun d m => l130x0 (TabD fs d) d m [.v (.string s), .v (.string t), .v (.int .i64 0), .v (.int .i64 (t.size : Int)), .v (.int .i64 0)]) (int_T ht _ 0 (Nat.le_refl _) (by omega) 0 (by decide)) ?_
   rintro y (⟨n, hn, rfl⟩ | rfl)
   ·simp -implicitDefEqProofs only [rdl, Ex.same, Nat.beq]
    refine eve_if (fun c3 => ?_) (fun c3 => ?_)
    ·refine eve_call (f106 (fits_wrap _)) ?_
     simp -implicitDefEqProofs only [rdl, Ex.same, Nat.beq]
     exact EvtE.ret ⟨_, _, fits_wrap _, rfl⟩
    ·refine eve_call (f106 hn) ?_
     simp -implicitDefEqProofs only [rdl, Ex.same, Nat.beq]
     exact EvtE.ret ⟨_, _, hn, rfl⟩
   ·simp -implicitDefEqProofs only [rdl, Ex.same, Nat.beq]
    exact EvtE.ret ⟨0, false, by decide, rfl⟩
 ·exact EvtE.ret ⟨0, false, by decide, rfl⟩
end Go.Am.Pp
