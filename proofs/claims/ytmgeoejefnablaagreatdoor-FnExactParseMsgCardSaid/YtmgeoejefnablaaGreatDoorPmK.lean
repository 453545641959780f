/- The program's reader: what is taken, what is needed, what is read up to some bytes. Nothing is assumed. -/
import Derived.Test.YtmgeoejefnablaaGreatDoorPmO
namespace Go.Am.Pm
set_option linter.unusedVariables false
set_option linter.unusedSimpArgs false
set_option maxRecDepth 8000
abbrev QS (s : ByteArray) (ok : Bool) : Row := [.v (.string s), .v (.bool ok)]
theorem f121 (s p : ByteArray) : Ev fs 121 [.d (.v (.string s)), .d (.v (.string p))] ⟨.t [.d (.v (.string (A1f s p))), .d (.v (.bool (A9d s p)))], []⟩ :=
 Ev.nat rfl ⟨0, fun _ _ _ _ => by show (((((((J6 108 V4 121 [.d (.v (.string s)), .d (.v (.string p))]).or (J6 81 A4j 121 [.d (.v (.string s)), .d (.v (.string p))])).or (J6 121 A9e 121 [.d (.v (.string s)), .d (.v (.string p))])).or (J6 124 A4k 121 [.d (.v (.string s)), .d (.v (.string p))])).or (J6 123 A9f 121 [.d (.v (.string s)), .d (.v (.string p))])).or (J6 28 A1k 121 [.d (.v (.string s)), .d (.v (.string p))])).or (J6 30 A4l 121 [.d (.v (.string s)), .d (.v (.string p))])).or (J6 29 A9g 121 [.d (.v (.string s)), .d (.v (.string p))]) = _; simp [J6, A9e, show Nat.beq 121 108 = false from rfl, show Nat.beq 121 81 = false from rfl, show Nat.beq 121 124 = false from rfl, show Nat.beq 121 123 = false from rfl, show Nat.beq 121 28 = false from rfl, show Nat.beq 121 30 = false from rfl, show Nat.beq 121 29 = false from rfl]⟩
theorem f124 (s p : ByteArray) : Ev fs 124 [.d (.v (.string s)), .d (.v (.string p))] ⟨.d (.v (.string (A1f s p))), []⟩ :=
 Ev.nat rfl ⟨0, fun _ _ _ _ => by show (((((((J6 108 V4 124 [.d (.v (.string s)), .d (.v (.string p))]).or (J6 81 A4j 124 [.d (.v (.string s)), .d (.v (.string p))])).or (J6 121 A9e 124 [.d (.v (.string s)), .d (.v (.string p))])).or (J6 124 A4k 124 [.d (.v (.string s)), .d (.v (.string p))])).or (J6 123 A9f 124 [.d (.v (.string s)), .d (.v (.string p))])).or (J6 28 A1k 124 [.d (.v (.string s)), .d (.v (.string p))])).or (J6 30 A4l 124 [.d (.v (.string s)), .d (.v (.string p))])).or (J6 29 A9g 124 [.d (.v (.string s)), .d (.v (.string p))]) = _; simp [J6, A4k, show Nat.beq 124 108 = false from rfl, show Nat.beq 124 81 = false from rfl, show Nat.beq 124 121 = false from rfl, show Nat.beq 124 123 = false from rfl, show Nat.beq 124 28 = false from rfl, show Nat.beq 124 30 = false from rfl, show Nat.beq 124 29 = false from rfl]⟩
def A80 (s p : ByteArray) : Int := bif p.data.toList == [58] then Lib.indexAny s.data.toList [58] else anyIx s
theorem f123 {s p : ByteArray} (hs : s.size ≤ 1048576) (hp : p.data.toList = [58] ∨ p.data.toList = [44, 93, 125]) : Ev fs 123 [.d (.v (.string s)), .d (.v (.string p))] ⟨.d (.v (.int .i64 (A80 s p))), []⟩ :=
 Ev.nat rfl ⟨0, fun _ _ _ _ => by
  have h : s.size < 4294967281 := by omega
  show (((((((J6 108 V4 123 [.d (.v (.string s)), .d (.v (.string p))]).or (J6 81 A4j 123 [.d (.v (.string s)), .d (.v (.string p))])).or (J6 121 A9e 123 [.d (.v (.string s)), .d (.v (.string p))])).or (J6 124 A4k 123 [.d (.v (.string s)), .d (.v (.string p))])).or (J6 123 A9f 123 [.d (.v (.string s)), .d (.v (.string p))])).or (J6 28 A1k 123 [.d (.v (.string s)), .d (.v (.string p))])).or (J6 30 A4l 123 [.d (.v (.string s)), .d (.v (.string p))])).or (J6 29 A9g 123 [.d (.v (.string s)), .d (.v (.string p))]) = _
  rcases hp with hp | hp <;> simp [J6, A9f, A80, hp, h, show Nat.beq 123 108 = false from rfl, show Nat.beq 123 81 = false from rfl, show Nat.beq 123 121 = false from rfl, show Nat.beq 123 124 = false from rfl, show Nat.beq 123 28 = false from rfl, show Nat.beq 123 30 = false from rfl, show Nat.beq 123 29 = false from rfl]⟩
theorem C5c (s p : ByteArray) : -1 ≤ A80 s p ∧ A80 s p ≤ s.size := by
 unfold A80
 cases p.data.toList == [58] with
 | true =>
  have := A49 [58] s.data.toList
  have e : s.data.toList.length = s.size := by rw [Array.length_toList]; rfl
  rw [e] at this
  exact this
 | false => exact C1j s
theorem f88 (s : ByteArray) (ok : Bool) (p : ByteArray) : Ev fs 88 [.p (QS s ok), .d (.v (.string p))] ⟨.d (.v (.bool (A9d s p))), [.p (QS (A1f s p) ok)]⟩ := by
 refine Ev.of (af := a88) rfl rfl (Evt.congr (fun d n => D3m ..) ?_)
 refine A7 (f121 s p) ?_
 simp -implicitDefEqProofs only [rdl, Ex.same, Nat.beq]
 exact Evt.ret
theorem f122 (s : ByteArray) (ok : Bool) (p : ByteArray) : Ev fs 122 [.p (QS s ok), .d (.v (.string p))] ⟨.t [], [.p (QS (A1f s p) (A9d s p && ok))]⟩ := by
 refine Ev.of (af := D0n) rfl rfl (Evt.congr (fun d n => D28 ..) ?_)
 refine A7 (f88 s ok p) ?_
 simp -implicitDefEqProofs only [rdl, Ex.same, Nat.beq]
 refine D6 (fun h => ?_) (fun h => ?_)
 ·have h : A9d s p = false := by simpa using h
  exact Evt.ret' (by rw [h]; rfl)
 ·have h : A9d s p = true := by simpa using h
  exact Evt.ret' (by rw [h]; rfl)
def A5c (s p : ByteArray) : Nat := if A80 s p < 0 then s.size else (A80 s p).toNat
theorem f91 {s : ByteArray} (hs : s.size ≤ 1048576) (ok : Bool) {p : ByteArray} (hp : p.data.toList = [58] ∨ p.data.toList = [44, 93, 125]) : Ev fs 91 [.p (QS s ok), .d (.v (.string p))] ⟨.d (.v (.string (s.extract 0 (A5c s p)))), [.p (QS (s.extract (A5c s p) s.size) ok)]⟩ := by
 refine Ev.of (af := a91) rfl rfl (Evt.congr (fun d n => D3n ..) ?_)
 refine A7 (f123 hs hp) ?_
 have hr := C5c s p
 simp -implicitDefEqProofs only [rdl, Ex.same, Nat.beq]
 refine D6 (fun h => ?_) (fun h => ?_)
 ·have h : A80 s p < 0 := of_decide_eq_true h
  have e : A5c s p = s.size := by simp [A5c, h]
  refine D8 (by simp [N9]) ?_
  refine D8 (by simp [N9]) ?_
  exact Evt.ret' (by rw [e]; rfl)
 ·have h : ¬ A80 s p < 0 := of_decide_eq_false h
  have e : A5c s p = (A80 s p).toNat := by simp [A5c, h]
  refine D8 (by simp [N9]; omega) ?_
  refine D8 (by simp [N9]; omega) ?_
  exact Evt.ret' (by rw [e]; rfl)
abbrev QB (s : ByteArray) (ok : Bool) : List AV := [.v (.string s), .v (.bool ok)]
theorem B4u {s : ByteArray} {b : UInt8} {l : List UInt8} (h : s.toList = b :: l) : 0 < s.size ∧ s.toList[0]? = some b ∧ (s.extract 1 s.size).toList = l ∧ (s.extract 1 s.size).size = l.length ∧ D9 s ({ data := #[] } : ByteArray) = false := by
 have hl := F9 s
 rw [h, List.length_cons] at hl
 have e : (s.extract 1 s.size).toList = l := by rw [ext_list, h]; exact List.take_of_length_le (by show l.length ≤ _; omega)
 refine ⟨by omega, by rw [h]; rfl, e, by rw [← F9, e], ?_⟩
 have e2 : ({ data := #[] } : ByteArray).toList = [] := by rw [ByteArray.toList_eq]
 rw [D9, h, e2]
 rfl
theorem B7k {s : ByteArray} (h : s.toList = []) : D9 s ({ data := #[] } : ByteArray) = true := by
 have e2 : ({ data := #[] } : ByteArray).toList = [] := by rw [ByteArray.toList_eq]
 rw [D9, h, e2]
 rfl
theorem B98 : ∀ (k : Nat) (s : ByteArray), s.size ≤ k → s.size ≤ 1048576 → ∀ acc : List UInt8, acc.length + s.size ≤ 1048576 →
  match rdP s.toList with
  | some (u, n) => ∃ s', s'.toList = s.toList.drop n ∧ Evt (fun d m => A1n (TabD fs d) d m [.b (QB s true), .o 1 (M6 acc)]) (.ret, [.b (QB s' true), .v (.string (bOf (acc ++ u)))])
  | none => ∃ s', s'.size ≤ s.size ∧ Evt (fun d m => A1n (TabD fs d) d m [.b (QB s true), .o 1 (M6 acc)]) (.exit 0, [.b (QB s' true)]) := by
 have fin : ∀ (s : ByteArray), s.toList = [] → ∀ acc : List UInt8, Evt (fun d m => A1n (TabD fs d) d m [.b (QB s true), .o 1 (M6 acc)]) (.exit 0, [.b (QB s true)]) := fun s hs acc => by
  refine F7 ?_
  simp only [A8l]
  simp -implicitDefEqProofs only [rdl, Ex.same, Nat.beq, show (true == true) = true from rfl, B7k hs, Bool.not_true]
  exact Evt.ret
 intro k
 induction k with
 | zero =>
  intro s hk hs acc ha
  have e : s.toList = [] := List.length_eq_zero_iff.1 (by rw [F9]; omega)
  rw [e]
  exact ⟨s, Nat.le_refl _, fin s e acc⟩
 | succ k ih =>
  intro s hk hs acc ha
  cases hl : s.toList with
  | nil => exact ⟨s, Nat.le_refl _, fin s hl acc⟩
  | cons b l =>
   obtain ⟨h0, h1, h2, h3, h4⟩ := B4u hl
   have hz : s.size = l.length + 1 := by rw [← F9, hl]; rfl
   have hc1 : N9 1 (s.size : Int) s.size = true := by simp [N9]; omega
   have m1 : ∀ b : UInt8, decide (((M6 acc).length + ([[(.v (.int .u8 (b.toNat : Int)))]] : Rows).length) * 1 ≤ D7) = true := fun b => decide_eq_true (by simp only [A1z, D7, List.length_cons, List.length_nil]; omega)
   unfold rdP
   by_cases h34 : b = 34
   ·rw [if_pos h34]
    refine ⟨s.extract 1 s.size, by rw [h2]; rfl, F7 ?_⟩
    simp only [A8l]
    simp -implicitDefEqProofs only [rdl, Ex.same, Nat.beq, show (true == true) = true from rfl, h4, Bool.not_false, show decide ((0 : Int) ≤ 0) = true from rfl, show decide ((0 : Nat) ≤ 0) = true from rfl, show Int.toNat 0 = 0 from rfl, show Int.toNat 1 = 1 from rfl, I1 h1, hc1, show ((b.toNat : Int) == 34) = true from by rw [h34]; rfl, A8n, A8o]
    exact Evt.ret' (by rw [List.append_nil])
   ·rw [if_neg h34]
    have n34 : ((b.toNat : Int) == 34) = false := by have := A9b (n := 34) (by omega) h34; simp; omega
    by_cases h92 : b = 92
    ·rw [if_pos h92]
     have y92 : ((b.toNat : Int) == 92) = true := by rw [h92]; rfl
     cases l with
     | nil =>
      have e5 := B7k h2
      have e6 : (s.extract 1 s.size).toList = [] := h2
      refine ⟨s.extract 1 s.size, by rw [h3]; simp, F7 ?_⟩
      simp only [A8l]
      simp -implicitDefEqProofs only [rdl, Ex.same, Nat.beq, show (true == true) = true from rfl, h4, Bool.not_false, Bool.not_true, show decide ((0 : Int) ≤ 0) = true from rfl, show decide ((0 : Nat) ≤ 0) = true from rfl, show Int.toNat 0 = 0 from rfl, show Int.toNat 1 = 1 from rfl, I1 h1, hc1, n34, y92, e5]
      refine D8 (m1 b) ?_
      rw [A15, Z4]
      exact fin _ e6 _
     | cons c l =>
      obtain ⟨g0, g1, g2, g3, g4⟩ := B4u h2
      have hc2 : N9 1 ((s.extract 1 s.size).size : Int) (s.extract 1 s.size).size = true := by simp only [N9, Bool.and_eq_true, decide_eq_true_eq]; omega
      simp only
      have pre : ∀ res, Evt (fun d m => A1n (TabD fs d) d m [.b (QB ((s.extract 1 s.size).extract 1 (s.extract 1 s.size).size) true), .o 1 (M6 (acc ++ [c]))]) res → Evt (fun d m => A1n (TabD fs d) d m [.b (QB s true), .o 1 (M6 acc)]) res := fun res k => by
       rw [← Z4, ← A15] at k
       refine F7 ?_
       simp only [A8l]
       simp -implicitDefEqProofs only [rdl, Ex.same, Nat.beq, show (true == true) = true from rfl, h4, g4, Bool.not_false, Bool.not_true, show decide ((0 : Int) ≤ 0) = true from rfl, show decide ((0 : Nat) ≤ 0) = true from rfl, show Int.toNat 0 = 0 from rfl, show Int.toNat 1 = 1 from rfl, I1 h1, I1 g1, hc1, hc2, n34, y92]
       refine D8 (m1 c) ?_
       exact k
      simp only [List.length_cons] at h3 hz
      have nx := ih ((s.extract 1 s.size).extract 1 (s.extract 1 s.size).size) (by rw [g3]; omega) (by rw [g3]; omega) (acc ++ [c]) (by rw [g3]; simp; omega)
      rw [g2] at nx
      cases hq : rdP l with
      | none =>
       rw [hq] at nx
       obtain ⟨s', q1, q2⟩ := nx
       exact ⟨s', by rw [g3] at q1; omega, pre _ q2⟩
      | some q =>
       obtain ⟨u, n⟩ := q
       rw [hq] at nx
       obtain ⟨s', q1, q2⟩ := nx
       exact ⟨s', by rw [q1]; simp [List.drop_succ_cons], by have := pre _ q2; simpa using this⟩
    ·rw [if_neg h92]
     have n92 : ((b.toNat : Int) == 92) = false := by have := A9b (n := 92) (by omega) h92; simp; omega
     have pre : ∀ res, Evt (fun d m => A1n (TabD fs d) d m [.b (QB (s.extract 1 s.size) true), .o 1 (M6 (acc ++ [b]))]) res → Evt (fun d m => A1n (TabD fs d) d m [.b (QB s true), .o 1 (M6 acc)]) res := fun res k => by
      rw [← Z4, ← A15] at k
      refine F7 ?_
      simp only [A8l]
      simp -implicitDefEqProofs only [rdl, Ex.same, Nat.beq, show (true == true) = true from rfl, show (false == true) = false from rfl, h4, Bool.not_false, show decide ((0 : Int) ≤ 0) = true from rfl, show decide ((0 : Nat) ≤ 0) = true from rfl, show Int.toNat 0 = 0 from rfl, show Int.toNat 1 = 1 from rfl, I1 h1, hc1, n34, n92]
      refine D8 (m1 b) ?_
      exact k
     have nx := ih (s.extract 1 s.size) (by rw [h3]; omega) (by rw [h3]; omega) (acc ++ [b]) (by rw [h3]; simp; omega)
     rw [h2] at nx
     cases hq : rdP l with
     | none =>
      rw [hq] at nx
      obtain ⟨s', q1, q2⟩ := nx
      exact ⟨s', by rw [h3] at q1; omega, pre _ q2⟩
     | some q =>
      obtain ⟨u, n⟩ := q
      rw [hq] at nx
      obtain ⟨s', q1, q2⟩ := nx
      exact ⟨s', by rw [q1]; simp, by have := pre _ q2; simpa using this⟩
theorem f89 {s : ByteArray} (hs : s.size ≤ 1048576) :
  match rdP s.toList with
  | some (u, n) => ∃ s', s'.toList = s.toList.drop n ∧ Ev fs 89 [.p (QS s true)] ⟨.d (.v (.string (bOf u))), [.p (QS s' true)]⟩
  | none => ∃ s', s'.size ≤ s.size ∧ Ev fs 89 [.p (QS s true)] ⟨.d (.v (.string ({ data := #[] } : ByteArray))), [.p (QS s' false)]⟩ := by
 have key := B98 _ s (Nat.le_refl _) hs [] (by simp; omega)
 cases hq : rdP s.toList with
 | none =>
  rw [hq] at key
  obtain ⟨s', h1, h2⟩ := key
  refine ⟨s', h1, ?_⟩
  refine Ev.of (af := a89) rfl rfl (Evt.congr (fun d n => D0m ..) ?_)
  refine I4 (L := fun d n => A1n (TabD fs d) d n [.b (QB s true), .o 1 (M6 [])]) h2 ?_
  simp -implicitDefEqProofs only [rdl, Ex.same, Nat.beq]
  exact Evt.ret
 | some q =>
  obtain ⟨u, n⟩ := q
  rw [hq] at key
  obtain ⟨s', h1, h2⟩ := key
  refine ⟨s', h1, ?_⟩
  refine Ev.of (af := a89) rfl rfl (Evt.congr (fun d n => D0m ..) ?_)
  refine I4 (L := fun d n => A1n (TabD fs d) d n [.b (QB s true), .o 1 (M6 [])]) h2 ?_
  simp -implicitDefEqProofs only [rdl, Ex.same, Nat.beq, List.nil_append]
  exact Evt.ret
theorem A8p (n : Int) : Fits (IntKind.i64.wrap n) := by
 simp only [Fits, IntKind.min, IntKind.max, IntKind.wrap, IntKind.signed, IntKind.bits]
 simp
 omega
theorem D2v {s t : ByteArray} (ht : t.size ≤ 19) : ∀ (k i : Nat), t.size - i ≤ k → i ≤ t.size → ∀ n : Int, Fits n →
  EvtE (fun y => (∃ n, Fits n ∧ y = (.exit 0, [.v (.string s), .v (.string t), .v (.int .i64 n)])) ∨ y = (.ret, [.v (.int .i64 0), .v (.bool false)])) (fun d m => A7t (TabD fs d) d m [.v (.string s), .v (.string t), .v (.int .i64 n), .v (.int .i64 (t.size : Int)), .v (.int .i64 (i : Int))]) := by
 have fin : ∀ i, i = t.size → ∀ n : Int, Fits n → EvtE (fun y => (∃ n, Fits n ∧ y = (.exit 0, [.v (.string s), .v (.string t), .v (.int .i64 n)])) ∨ y = (.ret, [.v (.int .i64 0), .v (.bool false)])) (fun d m => A7t (TabD fs d) d m [.v (.string s), .v (.string t), .v (.int .i64 n), .v (.int .i64 (t.size : Int)), .v (.int .i64 (i : Int))]) := fun i hi n hn => by
  subst hi
  refine A58 ?_
  simp only [B4p]
  simp -implicitDefEqProofs only [rdl, Ex.same, Nat.beq, Int.lt_irrefl, decide_false]
  exact EvtE.ret (.inl ⟨n, hn, rfl⟩)
 intro k
 induction k with
 | zero => intro i hk hi n hn; exact fin i (by omega) n hn
 | succ k ih =>
  intro i hk hi n hn
  by_cases hlt : i < t.size
  ·obtain ⟨c, hc⟩ := Q7 hlt
   have hw := G7 hlt (show t.size ≤ maxLen by simp only [maxLen]; omega)
   refine A58 ?_
   simp only [B4p]
   simp -implicitDefEqProofs only [rdl, Ex.same, Nat.beq, decide_eq_true (Int.ofNat_lt.2 hlt), F3, I1 hc, hw]
   refine M3 (fun c1 => ?_) (fun c1 => ?_)
   ·refine M3 (fun c2 => ?_) (fun c2 => ?_)
    ·exact EvtE.ret (.inr rfl)
    ·exact ih (i + 1) (by omega) (by omega) _ (A8p _)
   ·exact EvtE.ret (.inr rfl)
  ·exact fin i (by omega) n hn
theorem t92 (s : ByteArray) : EvE fs 92 [.d (.v (.string s))] fun o => ∃ n ok, Fits n ∧ o = ⟨.t [.d (.v (.int .i64 n)), .d (.v (.bool ok))], []⟩ := by
 refine EvE.of (af := a92) rfl rfl (EvtE.congr (fun d n => D2a ..) ?_)
 refine A7p (f124 s ({ data := #[45] } : ByteArray)) ?_
 generalize A1f s ({ data := #[45] } : ByteArray) = t
 simp -implicitDefEqProofs only [rdl, Ex.same, Nat.beq]
 refine M3 (fun c1 => ?_) (fun c1 => ?_)
 ·refine M3 (fun c2 => ?_) (fun c2 => ?_)
  ·exact EvtE.ret ⟨0, false, by decide, rfl⟩
  ·have ht : t.size ≤ 19 := by have := of_decide_eq_false c2; omega
   refine B4g (L := fun d m => A7t (TabD fs d) d m [.v (.string s), .v (.string t), .v (.int .i64 0), .v (.int .i64 (t.size : Int)), .v (.int .i64 0)]) (D2v ht _ 0 (Nat.le_refl _) (by omega) 0 (by decide)) ?_
   rintro y (⟨n, hn, rfl⟩ | rfl)
   ·simp -implicitDefEqProofs only [rdl, Ex.same, Nat.beq]
    refine M3 (fun c3 => ?_) (fun c3 => ?_)
    ·refine A7p (f18 (A8p _)) ?_
     simp -implicitDefEqProofs only [rdl, Ex.same, Nat.beq]
     exact EvtE.ret ⟨_, _, A8p _, rfl⟩
    ·refine A7p (f18 hn) ?_
     simp -implicitDefEqProofs only [rdl, Ex.same, Nat.beq]
     exact EvtE.ret ⟨_, _, hn, rfl⟩
   ·simp -implicitDefEqProofs only [rdl, Ex.same, Nat.beq]
    exact EvtE.ret ⟨0, false, by decide, rfl⟩
 ·exact EvtE.ret ⟨0, false, by decide, rfl⟩
end Go.Am.Pm
