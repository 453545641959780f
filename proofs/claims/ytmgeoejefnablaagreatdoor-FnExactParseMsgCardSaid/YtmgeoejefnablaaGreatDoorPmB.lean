/- The reference's reader comes to an end, with a row of the value's shape. Nothing is assumed. -/
import Derived.Test.YtmgeoejefnablaaGreatDoorPmA
namespace Go.Am.Pm
set_option linter.unusedVariables false
set_option linter.unusedSimpArgs false
set_option maxRecDepth 8000
theorem C71 {s : ByteArray} {i : Nat} (hi : i ≤ s.size) (b : Bool) (t : ByteArray) : (bif takeB s i b t then i + t.size else i) ≤ s.size := by
 cases h : takeB s i b t with
 | false => exact hi
 | true =>
  simp only [takeB, Bool.and_eq_true, B1k, beq_iff_eq] at h
  have := congrArg List.length h.2
  rw [List.length_take, List.length_drop, F9, F9] at this
  simp only [cond_true]
  omega
theorem t93 {s : ByteArray} (hs : s.size ≤ 1048576) {i : Nat} (hi : i ≤ s.size) (b : Bool) {t : ByteArray} (ht : t.size ≤ 100) : EvE fs 93 [.p (PS s i b), .d (.v (.string t))] fun o => ∃ r j, j ≤ s.size ∧ o = ⟨.d (.v (.bool r)), [.p (PS s j b)]⟩ :=
 ⟨_, ⟨_, _, C71 hi b t, rfl⟩, f93 hs hi b ht⟩
theorem t94 {s : ByteArray} (hs : s.size ≤ 1048576) {i : Nat} (hi : i ≤ s.size) : EvE fs 94 [.p (PS s i false)] fun o => ∃ u j b, u.size ≤ maxLen ∧ j ≤ s.size ∧ o = ⟨.d (.v (.string u)), [.p (PS s j b)]⟩ := by
 have h := f94 hs hi
 cases hq : rdT (s.toList.drop i) with
 | none =>
  rw [hq] at h
  obtain ⟨i', h1, h2⟩ := h
  exact ⟨_, ⟨_, _, _, by decide, h1, rfl⟩, h2⟩
 | some q =>
  obtain ⟨u, n⟩ := q
  rw [hq] at h
  obtain ⟨r1, r2, r3⟩ := C0b _ _ _ (Nat.le_refl _) hq
  simp only [List.length_drop, F9] at r1 r2 r3
  exact ⟨_, ⟨_, _, _, by rw [J8]; simp only [maxLen]; omega, by omega, rfl⟩, h⟩
theorem D0t {s : ByteArray} (hs : s.size ≤ 1048576) {i : Nat} (hi : i ≤ s.size) (b : Bool) : EvE fs 126 [.p (PS s i b)] fun o => ∃ u j, u.size ≤ maxLen ∧ j ≤ s.size ∧ o = ⟨.d (.v (.string u)), [.p (PS s j b)]⟩ := by
 have hl := B7h (s.toList.drop i)
 simp only [List.length_drop, F9] at hl
 refine ⟨_, ⟨_, _, ?_, ?_, rfl⟩, f126 hs hi b⟩
 ·rw [ByteArray.size_extract]; simp only [maxLen]; omega
 ·unfold B7i; cases b <;> simp <;> omega
theorem C21 (m : Bool) (x : Nat) : Fits (C1o m x) := by
 have h : ∀ n : Int, Fits (IntKind.i64.wrap n) := fun n => by
  simp only [Fits, IntKind.min, IntKind.max, IntKind.wrap, IntKind.signed, IntKind.bits]
  simp
  omega
 unfold C1o
 cases m && decide ((x : Int) > 0) <;> exact h _
theorem t96 {s : ByteArray} (hs : s.size ≤ 1048576) {i : Nat} (hi : i ≤ s.size) : EvE fs 96 [.p (PS s i false)] fun o => ∃ n j b, Fits n ∧ j ≤ s.size ∧ o = ⟨.d (.v (.int .i64 n)), [.p (PS s j b)]⟩ := by
 have h1 := B7j hi
 have h2 := (B9v 19 (s.toList.drop (A0b s i)) 0).1
 simp only [List.length_drop, F9] at h2
 exact ⟨_, ⟨_, _, _, C21 _ _, by omega, rfl⟩, f96 hs hi⟩
def RdQ (s : ByteArray) (o : Out) : Prop := ∃ v j b, ShL E (E 46) v ∧ j ≤ s.size ∧ o = ⟨.g v, [.p (PS s j b)]⟩
theorem t60 {s : ByteArray} (hs : s.size ≤ 1048576) (d : Nat) (hd : d ≤ 6) (kids : ∀ (i : Nat) (k : Int) (t : ByteArray), i ≤ s.size → Fits k → t.size ≤ 100 → d ≠ 0 → EvE fs 95 [.p (PS s i false), .d (.v (.int .i64 k)), .d (.v (.string t)), .d (.v (.int .i64 (d : Int)))] (RdQ s)) {i : Nat} (hi : i ≤ s.size) (b : Bool) :
  EvE fs 60 [.p (PS s i b), .d (.v (.int .i64 (d : Int)))] (RdQ s) := by
 refine EvE.of (af := a60) rfl rfl (EvtE.congr (fun d n => D2k ..) ?_)
 refine M3 (fun h0 => ?_) (fun h0 => ?_)
 ·exact EvtE.ret ⟨_, _, _, A7w, hi, rfl⟩
 ·have hd0 : d ≠ 0 := by rintro rfl; simp at h0
  cases b with
  | true => exact EvtE.ret ⟨_, _, _, A7w, hi, rfl⟩
  | false =>
   refine G6 (t93 hs hi false (t := ({ data := #[34] } : ByteArray)) (by decide)) ?_
   rintro o ⟨r1, j1, h1, rfl⟩
   simp -implicitDefEqProofs only [rdl, Ex.same, Nat.beq]
   refine M3 (fun c1 => ?_) (fun c1 => ?_)
   ·refine G6 (t94 hs h1) ?_
    rintro o ⟨u, j, b, hu, hj, rfl⟩
    simp -implicitDefEqProofs only [rdl, Ex.same, Nat.beq]
    exact EvtE.ret ⟨_, _, _, U9 (by decide) hu (by decide) K6 K6, hj, rfl⟩
   ·refine G6 (t93 hs h1 false (t := ({ data := #[116, 114, 117, 101] } : ByteArray)) (by decide)) ?_
    rintro o ⟨r2, j2, h2, rfl⟩
    simp -implicitDefEqProofs only [rdl, Ex.same, Nat.beq]
    refine M3 (fun c2 => ?_) (fun c2 => ?_)
    ·exact EvtE.ret ⟨_, _, _, U9 (by decide) (by decide) (by decide) K6 K6, h2, rfl⟩
    ·refine G6 (t93 hs h2 false (t := ({ data := #[102, 97, 108, 115, 101] } : ByteArray)) (by decide)) ?_
     rintro o ⟨r3, j3, h3, rfl⟩
     simp -implicitDefEqProofs only [rdl, Ex.same, Nat.beq]
     refine M3 (fun c3 => ?_) (fun c3 => ?_)
     ·exact EvtE.ret ⟨_, _, _, U9 (by decide) (by decide) (by decide) K6 K6, h3, rfl⟩
     ·refine G6 (t93 hs h3 false (t := ({ data := #[91] } : ByteArray)) (by decide)) ?_
      rintro o ⟨r4, j4, h4, rfl⟩
      simp -implicitDefEqProofs only [rdl, Ex.same, Nat.beq]
      refine M3 (fun c4 => ?_) (fun c4 => ?_)
      ·refine G6 (kids j4 4 ({ data := #[93] } : ByteArray) h4 (by decide) (by decide) hd0) ?_
       rintro o ⟨v, j, b, hv, hj, rfl⟩
       have hv9 := hv
       obtain ⟨na0, sa1, na2, la3, la4, rfl, pa0, pa1, pa2, pa3, pa4⟩ := I46 hv
       simp -implicitDefEqProofs only [rdl, Ex.same, Nat.beq]
       exact EvtE.ret ⟨_, _, _, hv9, hj, rfl⟩
      ·refine G6 (t93 hs h4 false (t := ({ data := #[123] } : ByteArray)) (by decide)) ?_
       rintro o ⟨r5, j5, h5, rfl⟩
       simp -implicitDefEqProofs only [rdl, Ex.same, Nat.beq]
       refine M3 (fun c5 => ?_) (fun c5 => ?_)
       ·refine G6 (kids j5 5 ({ data := #[125] } : ByteArray) h5 (by decide) (by decide) hd0) ?_
        rintro o ⟨v, j, b, hv, hj, rfl⟩
        have hv9 := hv
        obtain ⟨na0, sa1, na2, la3, la4, rfl, pa0, pa1, pa2, pa3, pa4⟩ := I46 hv
        simp -implicitDefEqProofs only [rdl, Ex.same, Nat.beq]
        exact EvtE.ret ⟨_, _, _, hv9, hj, rfl⟩
       ·refine G6 (t96 hs h5) ?_
        rintro o ⟨n, j, b, hn, hj, rfl⟩
        simp -implicitDefEqProofs only [rdl, Ex.same, Nat.beq]
        exact EvtE.ret ⟨_, _, _, U9 (by decide) (by decide) hn K6 K6, hj, rfl⟩
def LQ (s : ByteArray) (k : Int) (y : Ex × List AV) : Prop := ∃ j b ks vs, j ≤ s.size ∧ SL E 9 ks ∧ SL E 46 vs ∧ y = (.exit 0, [.b (PB s j b), .b ZB, .b (KB k ks vs)])
theorem C22 {s : ByteArray} (hs : s.size ≤ 1048576) (d : Nat) (hd : d + 1 ≤ 6) (rdr : ∀ (i : Nat) (b : Bool), i ≤ s.size → EvE fs 60 [.p (PS s i b), .d (.v (.int .i64 (d : Int)))] (RdQ s)) (k : Int) {t : ByteArray} (ht : t.size ≤ 100) :
  ∀ (n j : Nat) (b : Bool) (ks vs : Rows), j ≤ s.size → SL E 9 ks → SL E 46 vs → ks.length ≤ vs.length → vs.length ≤ 301 → (b = false → vs.length ≤ 300 ∧ 301 ≤ vs.length + n) →
   EvtE (LQ s k) (fun d' m => U7 (TabD fs d') d' m [.b (PB s j b), .v (.int .i64 k), .v (.string t), .v (.int .i64 ((d + 1 : Nat) : Int)), .b ZB, .b (KB k ks vs)]) := by
 have hwd : IntKind.i64.wrap (((d + 1 : Nat) : Int) - 1) = (d : Int) := by rw [wrap_i64 (by omega) (by omega)]; omega
 intro n
 induction n with
 | zero =>
  intro j b ks vs hj hks hvs h1 h2 h3
  cases b with
  | false => have := h3 rfl; omega
  | true =>
   refine A58 ?_
   simp only [B4r]
   simp -implicitDefEqProofs only [rdl, Ex.same, Nat.beq, Bool.not_true, show (false == true) = false from rfl]
   exact EvtE.ret ⟨_, _, _, _, hj, hks, hvs, rfl⟩
 | succ n ih =>
  intro j b ks vs hj hks hvs h1 h2 h3
  refine A58 ?_
  simp only [B4r]
  cases b with
  | true =>
   simp -implicitDefEqProofs only [rdl, Ex.same, Nat.beq, Bool.not_true, show (false == true) = false from rfl]
   exact EvtE.ret ⟨_, _, _, _, hj, hks, hvs, rfl⟩
  | false =>
   have h3 := h3 rfl
   have nx : ∀ (j : Nat) (b : Bool) (ks' : Rows) (v : Row), j ≤ s.size → (ks' = ks ∨ ∃ w : ByteArray, w.size ≤ maxLen ∧ ks' = ks ++ [[.v (.string w)]]) → ShL E (E 46) v → (b = false → vs.length + 1 ≤ 300) →
     EvtE (LQ s k) (fun d' m => U7 (TabD fs d') d' m [.b (PB s j b), .v (.int .i64 k), .v (.string t), .v (.int .i64 ((d + 1 : Nat) : Int)), .b ZB, .b (KB k ks' (vs ++ [v]))]) := fun j b ks' v hj hk' hv hb => by
    refine ih j b ks' (vs ++ [v]) hj ?_ (A4e hvs hv (by omega)) ?_ (by simp; omega) (fun e => by have := hb e; simp; omega)
    ·rcases hk' with rfl | ⟨w, hw, rfl⟩
     ·exact hks
     ·exact A4e hks (by rw [E9]; exact A5x hw .nil) (by omega)
    ·rcases hk' with rfl | ⟨w, hw, rfl⟩ <;> simp <;> omega
   simp -implicitDefEqProofs only [rdl, Ex.same, Nat.beq, Bool.not_false, show (true == true) = true from rfl]
   refine G6 (t93 hs (by assumption) _ (by first | assumption | decide)) ?_
   rintro o ⟨r, j, hj, rfl⟩
   simp -implicitDefEqProofs only [rdl, Ex.same, Nat.beq, hwd]
   refine M3 (fun c => ?_) (fun c => ?_)
   ·skip
    refine M3 (fun c => ?_) (fun c => ?_)
    ·skip
     refine G6 (t93 hs (by assumption) _ (by first | assumption | decide)) ?_
     rintro o ⟨r, j, hj, rfl⟩
     simp -implicitDefEqProofs only [rdl, Ex.same, Nat.beq, hwd]
     refine M3 (fun c => ?_) (fun c => ?_)
     ·skip
      refine M3 (fun c => ?_) (fun c => ?_)
      ·skip
       refine G6 (D0t hs (by assumption) _) ?_
       rintro o ⟨w, j, hw, hj, rfl⟩
       simp -implicitDefEqProofs only [rdl, Ex.same, Nat.beq, hwd]
       refine A08 (decide_eq_true (by simp only [List.length_cons, List.length_nil, D7]; omega)) ?_
       refine G6 (rdr _ _ (by assumption)) ?_
       rintro o ⟨v, j, b, hv, hj, rfl⟩
       have hv9 := hv
       obtain ⟨na0, sa1, na2, la3, la4, rfl, pa0, pa1, pa2, pa3, pa4⟩ := I46 hv
       simp -implicitDefEqProofs only [rdl, Ex.same, Nat.beq, hwd]
       refine A08 (decide_eq_true (by simp only [List.length_cons, List.length_nil, D7]; omega)) ?_
       refine M3 (fun c => ?_) (fun c => ?_)
       ·skip
        simp only [J7, List.set_cons_zero, List.set_cons_succ]
        exact nx _ _ _ _ (by assumption) (.inr ⟨_, by assumption, rfl⟩) hv9 (by intro h; first | (cases h; done) | (simp at h; omega))
       ·skip
        simp only [J7, List.set_cons_zero, List.set_cons_succ]
        exact nx _ _ _ _ (by assumption) (.inr ⟨_, by assumption, rfl⟩) hv9 (by intro h; first | (cases h; done) | (simp at h; omega))
      ·skip
       refine G6 (rdr _ _ (by assumption)) ?_
       rintro o ⟨v, j, b, hv, hj, rfl⟩
       have hv9 := hv
       obtain ⟨na0, sa1, na2, la3, la4, rfl, pa0, pa1, pa2, pa3, pa4⟩ := I46 hv
       simp -implicitDefEqProofs only [rdl, Ex.same, Nat.beq, hwd]
       refine A08 (decide_eq_true (by simp only [List.length_cons, List.length_nil, D7]; omega)) ?_
       refine M3 (fun c => ?_) (fun c => ?_)
       ·skip
        simp only [J7, List.set_cons_zero, List.set_cons_succ]
        exact nx _ _ _ _ (by assumption) (.inl rfl) hv9 (by intro h; first | (cases h; done) | (simp at h; omega))
       ·skip
        simp only [J7, List.set_cons_zero, List.set_cons_succ]
        exact nx _ _ _ _ (by assumption) (.inl rfl) hv9 (by intro h; first | (cases h; done) | (simp at h; omega))
     ·skip
      refine M3 (fun c => ?_) (fun c => ?_)
      ·skip
       refine G6 (D0t hs (by assumption) _) ?_
       rintro o ⟨w, j, hw, hj, rfl⟩
       simp -implicitDefEqProofs only [rdl, Ex.same, Nat.beq, hwd]
       refine A08 (decide_eq_true (by simp only [List.length_cons, List.length_nil, D7]; omega)) ?_
       refine G6 (t93 hs (by assumption) _ (by first | assumption | decide)) ?_
       rintro o ⟨r, j, hj, rfl⟩
       simp -implicitDefEqProofs only [rdl, Ex.same, Nat.beq, hwd]
       refine G6 (rdr _ _ (by assumption)) ?_
       rintro o ⟨v, j, b, hv, hj, rfl⟩
       have hv9 := hv
       obtain ⟨na0, sa1, na2, la3, la4, rfl, pa0, pa1, pa2, pa3, pa4⟩ := I46 hv
       simp -implicitDefEqProofs only [rdl, Ex.same, Nat.beq, hwd]
       refine A08 (decide_eq_true (by simp only [List.length_cons, List.length_nil, D7]; omega)) ?_
       refine M3 (fun c => ?_) (fun c => ?_)
       ·skip
        simp only [J7, List.set_cons_zero, List.set_cons_succ]
        exact nx _ _ _ _ (by assumption) (.inr ⟨_, by assumption, rfl⟩) hv9 (by intro h; first | (cases h; done) | (simp at h; omega))
       ·skip
        simp only [J7, List.set_cons_zero, List.set_cons_succ]
        exact nx _ _ _ _ (by assumption) (.inr ⟨_, by assumption, rfl⟩) hv9 (by intro h; first | (cases h; done) | (simp at h; omega))
      ·skip
       refine G6 (rdr _ _ (by assumption)) ?_
       rintro o ⟨v, j, b, hv, hj, rfl⟩
       have hv9 := hv
       obtain ⟨na0, sa1, na2, la3, la4, rfl, pa0, pa1, pa2, pa3, pa4⟩ := I46 hv
       simp -implicitDefEqProofs only [rdl, Ex.same, Nat.beq, hwd]
       refine A08 (decide_eq_true (by simp only [List.length_cons, List.length_nil, D7]; omega)) ?_
       refine M3 (fun c => ?_) (fun c => ?_)
       ·skip
        simp only [J7, List.set_cons_zero, List.set_cons_succ]
        exact nx _ _ _ _ (by assumption) (.inl rfl) hv9 (by intro h; first | (cases h; done) | (simp at h; omega))
       ·skip
        simp only [J7, List.set_cons_zero, List.set_cons_succ]
        exact nx _ _ _ _ (by assumption) (.inl rfl) hv9 (by intro h; first | (cases h; done) | (simp at h; omega))
    ·skip
     refine M3 (fun c => ?_) (fun c => ?_)
     ·skip
      refine G6 (D0t hs (by assumption) _) ?_
      rintro o ⟨w, j, hw, hj, rfl⟩
      simp -implicitDefEqProofs only [rdl, Ex.same, Nat.beq, hwd]
      refine A08 (decide_eq_true (by simp only [List.length_cons, List.length_nil, D7]; omega)) ?_
      refine G6 (t93 hs (by assumption) _ (by first | assumption | decide)) ?_
      rintro o ⟨r, j, hj, rfl⟩
      simp -implicitDefEqProofs only [rdl, Ex.same, Nat.beq, hwd]
      refine G6 (rdr _ _ (by assumption)) ?_
      rintro o ⟨v, j, b, hv, hj, rfl⟩
      have hv9 := hv
      obtain ⟨na0, sa1, na2, la3, la4, rfl, pa0, pa1, pa2, pa3, pa4⟩ := I46 hv
      simp -implicitDefEqProofs only [rdl, Ex.same, Nat.beq, hwd]
      refine A08 (decide_eq_true (by simp only [List.length_cons, List.length_nil, D7]; omega)) ?_
      refine M3 (fun c => ?_) (fun c => ?_)
      ·skip
       simp only [J7, List.set_cons_zero, List.set_cons_succ]
       exact nx _ _ _ _ (by assumption) (.inr ⟨_, by assumption, rfl⟩) hv9 (by intro h; first | (cases h; done) | (simp at h; omega))
      ·skip
       simp only [J7, List.set_cons_zero, List.set_cons_succ]
       exact nx _ _ _ _ (by assumption) (.inr ⟨_, by assumption, rfl⟩) hv9 (by intro h; first | (cases h; done) | (simp at h; omega))
     ·skip
      refine G6 (rdr _ _ (by assumption)) ?_
      rintro o ⟨v, j, b, hv, hj, rfl⟩
      have hv9 := hv
      obtain ⟨na0, sa1, na2, la3, la4, rfl, pa0, pa1, pa2, pa3, pa4⟩ := I46 hv
      simp -implicitDefEqProofs only [rdl, Ex.same, Nat.beq, hwd]
      refine A08 (decide_eq_true (by simp only [List.length_cons, List.length_nil, D7]; omega)) ?_
      refine M3 (fun c => ?_) (fun c => ?_)
      ·skip
       simp only [J7, List.set_cons_zero, List.set_cons_succ]
       exact nx _ _ _ _ (by assumption) (.inl rfl) hv9 (by intro h; first | (cases h; done) | (simp at h; omega))
      ·skip
       simp only [J7, List.set_cons_zero, List.set_cons_succ]
       exact nx _ _ _ _ (by assumption) (.inl rfl) hv9 (by intro h; first | (cases h; done) | (simp at h; omega))
   ·skip
    exact EvtE.ret ⟨_, _, _, _, by assumption, hks, hvs, rfl⟩
theorem t95 {s : ByteArray} (hs : s.size ≤ 1048576) (d : Nat) (hd : d + 1 ≤ 6) (rdr : ∀ (i : Nat) (b : Bool), i ≤ s.size → EvE fs 60 [.p (PS s i b), .d (.v (.int .i64 (d : Int)))] (RdQ s)) {i : Nat} (hi : i ≤ s.size) {k : Int} (hk : Fits k) {t : ByteArray} (ht : t.size ≤ 100) :
  EvE fs 95 [.p (PS s i false), .d (.v (.int .i64 k)), .d (.v (.string t)), .d (.v (.int .i64 ((d + 1 : Nat) : Int)))] (RdQ s) := by
 refine EvE.of (af := a95) rfl rfl (EvtE.congr (fun d n => D2j ..) ?_)
 refine B4g (L := fun d' m => U7 (TabD fs d') d' m [.b (PB s i false), .v (.int .i64 k), .v (.string t), .v (.int .i64 ((d + 1 : Nat) : Int)), .b ZB, .b (KB k [] [])]) (C22 hs d hd rdr k ht 400 i false [] [] hi K6 K6 (by simp) (by simp) (fun _ => by simp)) ?_
 rintro y ⟨j, b, ks, vs, hj, hks, hvs, rfl⟩
 simp -implicitDefEqProofs only [rdl, Ex.same, Nat.beq]
 exact EvtE.ret ⟨_, _, _, U9 hk (by decide) (by decide) hks hvs, hj, rfl⟩
theorem D0u {s : ByteArray} (hs : s.size ≤ 1048576) : ∀ (d : Nat), d ≤ 6 → ∀ (i : Nat) (b : Bool), i ≤ s.size → EvE fs 60 [.p (PS s i b), .d (.v (.int .i64 (d : Int)))] (RdQ s) := by
 intro d
 induction d with
 | zero => intro hd i b hi; exact t60 hs 0 hd (fun _ _ _ _ _ _ h => absurd rfl h) hi b
 | succ d ih => intro hd i b hi; exact t60 hs (d + 1) hd (fun i k t hi hk ht _ => t95 hs d hd (ih (by omega)) hi hk ht) hi b
end Go.Am.Pm
