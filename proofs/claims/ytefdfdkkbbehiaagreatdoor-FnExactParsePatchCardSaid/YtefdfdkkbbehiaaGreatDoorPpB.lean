/- The reference's reader comes to an end, with a row of the value's shape. Nothing is assumed. -/
import Derived.Test.YtefdfdkkbbehiaaGreatDoorPpA
namespace Go.Am.Pp
set_option linter.unusedVariables false
set_option linter.unusedSimpArgs false
set_option maxRecDepth 8000
theorem take_le {s : ByteArray} {i : Nat} (hi : i ≤ s.size) (b : Bool) (t : ByteArray) : (bif takeB s i b t then i + t.size else i) ≤ s.size := by
 cases h : takeB s i b t with
 | false => exact hi
 | true =>
  simp only [takeB, Bool.and_eq_true, pre_take, beq_iff_eq] at h
  have := congrArg List.length h.2
  rw [List.length_take, List.length_drop, toList_len, toList_len] at this
  simp only [cond_true]
  omega
theorem t118 {s : ByteArray} (hs : s.size ≤ 1048576) {i : Nat} (hi : i ≤ s.size) (b : Bool) {t : ByteArray} (ht : t.size ≤ 100) : EvE fs 118 [.p (PS s i b), .d (.v (.string t))] fun o => ∃ r j, j ≤ s.size ∧ o = ⟨.d (.v (.bool r)), [.p (PS s j b)]⟩ :=
 ⟨_, ⟨_, _, take_le hi b t, rfl⟩, f118 hs hi b ht⟩
theorem t119 {s : ByteArray} (hs : s.size ≤ 1048576) {i : Nat} (hi : i ≤ s.size) : EvE fs 119 [.p (PS s i false)] fun o => ∃ u j b, u.size ≤ maxLen ∧ j ≤ s.size ∧ o = ⟨.d (.v (.string u)), [.p (PS s j b)]⟩ := by
 have h := f119 hs hi
 cases hq : rdT (s.toList.drop i) with
 | none =>
  rw [hq] at h
  obtain ⟨i', h1, h2⟩ := h
  exact ⟨_, ⟨_, _, _, by decide, h1, rfl⟩, h2⟩
 | some q =>
  obtain ⟨u, n⟩ := q
  rw [hq] at h
  obtain ⟨r1, r2, r3⟩ := rdT_pos _ _ _ (Nat.le_refl _) hq
  simp only [List.length_drop, toList_len] at r1 r2 r3
  exact ⟨_, ⟨_, _, _, by rw [bOf_size]; simp only [maxLen]; omega, by omega, rfl⟩, h⟩
theorem t145 {s : ByteArray} (hs : s.size ≤ 1048576) {i : Nat} (hi : i ≤ s.size) (b : Bool) : EvE fs 145 [.p (PS s i b)] fun o => ∃ u j, u.size ≤ maxLen ∧ j ≤ s.size ∧ o = ⟨.d (.v (.string u)), [.p (PS s j b)]⟩ := by
 have hl := wordL_le (s.toList.drop i)
 simp only [List.length_drop, toList_len] at hl
 refine ⟨_, ⟨_, _, ?_, ?_, rfl⟩, f145 hs hi b⟩
 ·rw [ByteArray.size_extract]; simp only [maxLen]; omega
 ·unfold wordN; cases b <;> simp <;> omega
theorem intV_fits (m : Bool) (x : Nat) : Fits (intV m x) := by
 have h : ∀ n : Int, Fits (IntKind.i64.wrap n) := fun n => by
  simp only [Fits, IntKind.min, IntKind.max, IntKind.wrap, IntKind.signed, IntKind.bits]
  simp
  omega
 unfold intV
 cases m && decide ((x : Int) > 0) <;> exact h _
theorem t121 {s : ByteArray} (hs : s.size ≤ 1048576) {i : Nat} (hi : i ≤ s.size) : EvE fs 121 [.p (PS s i false)] fun o => ∃ n j b, Fits n ∧ j ≤ s.size ∧ o = ⟨.d (.v (.int .i64 n)), [.p (PS s j b)]⟩ := by
 have h1 := minus_le hi
 have h2 := (digN_le 19 (s.toList.drop (minusN s i)) 0).1
 simp only [List.length_drop, toList_len] at h2
 exact ⟨_, ⟨_, _, _, intV_fits _ _, by omega, rfl⟩, f121 hs hi⟩
def RdQ (s : ByteArray) (o : Out) : Prop := ∃ v j b, ShL E (E 33) v ∧ j ≤ s.size ∧ o = ⟨.g v, [.p (PS s j b)]⟩
theorem t86 {s : ByteArray} (hs : s.size ≤ 1048576) (d : Nat) (hd : d ≤ 6) (kids : ∀ (i : Nat) (k : Int) (t : ByteArray), i ≤ s.size → Fits k → t.size ≤ 100 → d ≠ 0 → EvE fs 120 [.p (PS s i false), .d (.v (.int .i64 k)), .d (.v (.string t)), .d (.v (.int .i64 (d : Int)))] (RdQ s)) {i : Nat} (hi : i ≤ s.size) (b : Bool) :
  EvE fs 86 [.p (PS s i b), .d (.v (.int .i64 (d : Int)))] (RdQ s) := by
 refine EvE.of (af := a86) rfl rfl (EvtE.congr (fun d n => a86q ..) ?_)
 refine eve_if (fun h0 => ?_) (fun h0 => ?_)
 ·exact EvtE.ret ⟨_, _, _, zero_row, hi, rfl⟩
 ·have hd0 : d ≠ 0 := by rintro rfl; simp at h0
  cases b with
  | true => exact EvtE.ret ⟨_, _, _, zero_row, hi, rfl⟩
  | false =>
   refine eve_callE (t118 hs hi false (t := ({ data := #[34] } : ByteArray)) (by decide)) ?_
   rintro o ⟨r1, j1, h1, rfl⟩
   simp -implicitDefEqProofs only [rdl, Ex.same, Nat.beq]
   refine eve_if (fun c1 => ?_) (fun c1 => ?_)
   ·refine eve_callE (t119 hs h1) ?_
    rintro o ⟨u, j, b, hu, hj, rfl⟩
    simp -implicitDefEqProofs only [rdl, Ex.same, Nat.beq]
    exact EvtE.ret ⟨_, _, _, val_row (by decide) hu (by decide) sl_nil sl_nil, hj, rfl⟩
   ·refine eve_callE (t118 hs h1 false (t := ({ data := #[116, 114, 117, 101] } : ByteArray)) (by decide)) ?_
    rintro o ⟨r2, j2, h2, rfl⟩
    simp -implicitDefEqProofs only [rdl, Ex.same, Nat.beq]
    refine eve_if (fun c2 => ?_) (fun c2 => ?_)
    ·exact EvtE.ret ⟨_, _, _, val_row (by decide) (by decide) (by decide) sl_nil sl_nil, h2, rfl⟩
    ·refine eve_callE (t118 hs h2 false (t := ({ data := #[102, 97, 108, 115, 101] } : ByteArray)) (by decide)) ?_
     rintro o ⟨r3, j3, h3, rfl⟩
     simp -implicitDefEqProofs only [rdl, Ex.same, Nat.beq]
     refine eve_if (fun c3 => ?_) (fun c3 => ?_)
     ·exact EvtE.ret ⟨_, _, _, val_row (by decide) (by decide) (by decide) sl_nil sl_nil, h3, rfl⟩
     ·refine eve_callE (t118 hs h3 false (t := ({ data := #[91] } : ByteArray)) (by decide)) ?_
      rintro o ⟨r4, j4, h4, rfl⟩
      simp -implicitDefEqProofs only [rdl, Ex.same, Nat.beq]
      refine eve_if (fun c4 => ?_) (fun c4 => ?_)
      ·refine eve_callE (kids j4 4 ({ data := #[93] } : ByteArray) h4 (by decide) (by decide) hd0) ?_
       rintro o ⟨v, j, b, hv, hj, rfl⟩
       have hv9 := hv
       obtain ⟨na0, sa1, na2, la3, la4, rfl, pa0, pa1, pa2, pa3, pa4⟩ := I33 hv
       simp -implicitDefEqProofs only [rdl, Ex.same, Nat.beq]
       exact EvtE.ret ⟨_, _, _, hv9, hj, rfl⟩
      ·refine eve_callE (t118 hs h4 false (t := ({ data := #[123] } : ByteArray)) (by decide)) ?_
       rintro o ⟨r5, j5, h5, rfl⟩
       simp -implicitDefEqProofs only [rdl, Ex.same, Nat.beq]
       refine eve_if (fun c5 => ?_) (fun c5 => ?_)
       ·refine eve_callE (kids j5 5 ({ data := #[125] } : ByteArray) h5 (by decide) (by decide) hd0) ?_
        rintro o ⟨v, j, b, hv, hj, rfl⟩
        have hv9 := hv
        obtain ⟨na0, sa1, na2, la3, la4, rfl, pa0, pa1, pa2, pa3, pa4⟩ := I33 hv
        simp -implicitDefEqProofs only [rdl, Ex.same, Nat.beq]
        exact EvtE.ret ⟨_, _, _, hv9, hj, rfl⟩
       ·refine eve_callE (t121 hs h5) ?_
        rintro o ⟨n, j, b, hn, hj, rfl⟩
        simp -implicitDefEqProofs only [rdl, Ex.same, Nat.beq]
        exact EvtE.ret ⟨_, _, _, val_row (by decide) (by decide) hn sl_nil sl_nil, hj, rfl⟩
def LQ (s : ByteArray) (k : Int) (y : Ex × List AV) : Prop := ∃ j b ks vs, j ≤ s.size ∧ SL E 9 ks ∧ SL E 33 vs ∧ y = (.exit 0, [.b (PB s j b), .b ZB, .b (KB k ks vs)])
theorem kids_loop {s : ByteArray} (hs : s.size ≤ 1048576) (d : Nat) (hd : d + 1 ≤ 6) (rdr : ∀ (i : Nat) (b : Bool), i ≤ s.size → EvE fs 86 [.p (PS s i b), .d (.v (.int .i64 (d : Int)))] (RdQ s)) (k : Int) {t : ByteArray} (ht : t.size ≤ 100) :
  ∀ (n j : Nat) (b : Bool) (ks vs : Rows), j ≤ s.size → SL E 9 ks → SL E 33 vs → ks.length ≤ vs.length → vs.length ≤ 301 → (b = false → vs.length ≤ 300 ∧ 301 ≤ vs.length + n) →
   EvtE (LQ s k) (fun d' m => l120x0 (TabD fs d') d' m [.b (PB s j b), .v (.int .i64 k), .v (.string t), .v (.int .i64 ((d + 1 : Nat) : Int)), .b ZB, .b (KB k ks vs)]) := by
 have hwd : IntKind.i64.wrap (((d + 1 : Nat) : Int) - 1) = (d : Int) := by rw [wrap_i64 (by omega) (by omega)]; omega
 intro n
 induction n with
 | zero =>
  intro j b ks vs hj hks hvs h1 h2 h3
  cases b with
  | false => have := h3 rfl; omega
  | true =>
   refine eve_succ ?_
   simp only [l120x0s]
   simp -implicitDefEqProofs only [rdl, Ex.same, Nat.beq, Bool.not_true, show (false == true) = false from rfl]
   exact EvtE.ret ⟨_, _, _, _, hj, hks, hvs, rfl⟩
 | succ n ih =>
  intro j b ks vs hj hks hvs h1 h2 h3
  refine eve_succ ?_
  simp only [l120x0s]
  cases b with
  | true =>
   simp -implicitDefEqProofs only [rdl, Ex.same, Nat.beq, Bool.not_true, show (false == true) = false from rfl]
   exact EvtE.ret ⟨_, _, _, _, hj, hks, hvs, rfl⟩
  | false =>
   have h3 := h3 rfl
   have nx : ∀ (j : Nat) (b : Bool) (ks' : Rows) (v : Row), j ≤ s.size → (ks' = ks ∨ ∃ w : ByteArray, w.size ≤ maxLen ∧ ks' = ks ++ [[.v (.string w)]]) → ShL E (E 33) v → (b = false → vs.length + 1 ≤ 300) →
     EvtE (LQ s k) (fun d' m => l120x0 (TabD fs d') d' m [.b (PB s j b), .v (.int .i64 k), .v (.string t), .v (.int .i64 ((d + 1 : Nat) : Int)), .b ZB, .b (KB k ks' (vs ++ [v]))]) := fun j b ks' v hj hk' hv hb => by
    refine ih j b ks' (vs ++ [v]) hj ?_ (sl_snoc hvs hv (by omega)) ?_ (by simp; omega) (fun e => by have := hb e; simp; omega)
    ·rcases hk' with rfl | ⟨w, hw, rfl⟩
     ·exact hks
     ·exact sl_snoc hks (by rw [E9]; exact mk_s hw .nil) (by omega)
    ·rcases hk' with rfl | ⟨w, hw, rfl⟩ <;> simp <;> omega
   simp -implicitDefEqProofs only [rdl, Ex.same, Nat.beq, Bool.not_false, show (true == true) = true from rfl]
   refine eve_callE (t118 hs (by assumption) _ (by first | assumption | decide)) ?_
   rintro o ⟨r, j, hj, rfl⟩
   simp -implicitDefEqProofs only [rdl, Ex.same, Nat.beq, hwd]
   refine eve_if (fun c => ?_) (fun c => ?_)
   ·skip
    refine eve_if (fun c => ?_) (fun c => ?_)
    ·skip
     refine eve_callE (t118 hs (by assumption) _ (by first | assumption | decide)) ?_
     rintro o ⟨r, j, hj, rfl⟩
     simp -implicitDefEqProofs only [rdl, Ex.same, Nat.beq, hwd]
     refine eve_if (fun c => ?_) (fun c => ?_)
     ·skip
      refine eve_if (fun c => ?_) (fun c => ?_)
      ·skip
       refine eve_callE (t145 hs (by assumption) _) ?_
       rintro o ⟨w, j, hw, hj, rfl⟩
       simp -implicitDefEqProofs only [rdl, Ex.same, Nat.beq, hwd]
       refine eve_tst (decide_eq_true (by simp only [List.length_cons, List.length_nil, maxBytes]; omega)) ?_
       refine eve_callE (rdr _ _ (by assumption)) ?_
       rintro o ⟨v, j, b, hv, hj, rfl⟩
       have hv9 := hv
       obtain ⟨na0, sa1, na2, la3, la4, rfl, pa0, pa1, pa2, pa3, pa4⟩ := I33 hv
       simp -implicitDefEqProofs only [rdl, Ex.same, Nat.beq, hwd]
       refine eve_tst (decide_eq_true (by simp only [List.length_cons, List.length_nil, maxBytes]; omega)) ?_
       refine eve_if (fun c => ?_) (fun c => ?_)
       ·skip
        simp only [setD_last, List.set_cons_zero, List.set_cons_succ]
        exact nx _ _ _ _ (by assumption) (.inr ⟨_, by assumption, rfl⟩) hv9 (by intro h; first | (cases h; done) | (simp at h; omega))
       ·skip
        simp only [setD_last, List.set_cons_zero, List.set_cons_succ]
        exact nx _ _ _ _ (by assumption) (.inr ⟨_, by assumption, rfl⟩) hv9 (by intro h; first | (cases h; done) | (simp at h; omega))
      ·skip
       refine eve_callE (rdr _ _ (by assumption)) ?_
       rintro o ⟨v, j, b, hv, hj, rfl⟩
       have hv9 := hv
       obtain ⟨na0, sa1, na2, la3, la4, rfl, pa0, pa1, pa2, pa3, pa4⟩ := I33 hv
       simp -implicitDefEqProofs only [rdl, Ex.same, Nat.beq, hwd]
       refine eve_tst (decide_eq_true (by simp only [List.length_cons, List.length_nil, maxBytes]; omega)) ?_
       refine eve_if (fun c => ?_) (fun c => ?_)
       ·skip
        simp only [setD_last, List.set_cons_zero, List.set_cons_succ]
        exact nx _ _ _ _ (by assumption) (.inl rfl) hv9 (by intro h; first | (cases h; done) | (simp at h; omega))
       ·skip
        simp only [setD_last, List.set_cons_zero, List.set_cons_succ]
        exact nx _ _ _ _ (by assumption) (.inl rfl) hv9 (by intro h; first | (cases h; done) | (simp at h; omega))
     ·skip
      refine eve_if (fun c => ?_) (fun c => ?_)
      ·skip
       refine eve_callE (t145 hs (by assumption) _) ?_
       rintro o ⟨w, j, hw, hj, rfl⟩
       simp -implicitDefEqProofs only [rdl, Ex.same, Nat.beq, hwd]
       refine eve_tst (decide_eq_true (by simp only [List.length_cons, List.length_nil, maxBytes]; omega)) ?_
       refine eve_callE (t118 hs (by assumption) _ (by first | assumption | decide)) ?_
       rintro o ⟨r, j, hj, rfl⟩
       simp -implicitDefEqProofs only [rdl, Ex.same, Nat.beq, hwd]
       refine eve_callE (rdr _ _ (by assumption)) ?_
       rintro o ⟨v, j, b, hv, hj, rfl⟩
       have hv9 := hv
       obtain ⟨na0, sa1, na2, la3, la4, rfl, pa0, pa1, pa2, pa3, pa4⟩ := I33 hv
       simp -implicitDefEqProofs only [rdl, Ex.same, Nat.beq, hwd]
       refine eve_tst (decide_eq_true (by simp only [List.length_cons, List.length_nil, maxBytes]; omega)) ?_
       refine eve_if (fun c => ?_) (fun c => ?_)
       ·skip
        simp only [setD_last, List.set_cons_zero, List.set_cons_succ]
        exact nx _ _ _ _ (by assumption) (.inr ⟨_, by assumption, rfl⟩) hv9 (by intro h; first | (cases h; done) | (simp at h; omega))
       ·skip
        simp only [setD_last, List.set_cons_zero, List.set_cons_succ]
        exact nx _ _ _ _ (by assumption) (.inr ⟨_, by assumption, rfl⟩) hv9 (by intro h; first | (cases h; done) | (simp at h; omega))
      ·skip
       refine eve_callE (rdr _ _ (by assumption)) ?_
       rintro o ⟨v, j, b, hv, hj, rfl⟩
       have hv9 := hv
       obtain ⟨na0, sa1, na2, la3, la4, rfl, pa0, pa1, pa2, pa3, pa4⟩ := I33 hv
       simp -implicitDefEqProofs only [rdl, Ex.same, Nat.beq, hwd]
       refine eve_tst (decide_eq_true (by simp only [List.length_cons, List.length_nil, maxBytes]; omega)) ?_
       refine eve_if (fun c => ?_) (fun c => ?_)
       ·skip
        simp only [setD_last, List.set_cons_zero, List.set_cons_succ]
        exact nx _ _ _ _ (by assumption) (.inl rfl) hv9 (by intro h; first | (cases h; done) | (simp at h; omega))
       ·skip
        simp only [setD_last, List.set_cons_zero, List.set_cons_succ]
        exact nx _ _ _ _ (by assumption) (.inl rfl) hv9 (by intro h; first | (cases h; done) | (simp at h; omega))
    ·skip
     refine eve_if (fun c => ?_) (fun c => ?_)
     ·skip
      refine eve_callE (t145 hs (by assumption) _) ?_
      rintro o ⟨w, j, hw, hj, rfl⟩
      simp -implicitDefEqProofs only [rdl, Ex.same, Nat.beq, hwd]
      refine eve_tst (decide_eq_true (by simp only [List.length_cons, List.length_nil, maxBytes]; omega)) ?_
      refine eve_callE (t118 hs (by assumption) _ (by first | assumption | decide)) ?_
      rintro o ⟨r, j, hj, rfl⟩
      simp -implicitDefEqProofs only [rdl, Ex.same, Nat.beq, hwd]
      refine eve_callE (rdr _ _ (by assumption)) ?_
      rintro o ⟨v, j, b, hv, hj, rfl⟩
      have hv9 := hv
      obtain ⟨na0, sa1, na2, la3, la4, rfl, pa0, pa1, pa2, pa3, pa4⟩ := I33 hv
      simp -implicitDefEqProofs only [rdl, Ex.same, Nat.beq, hwd]
      refine eve_tst (decide_eq_true (by simp only [List.length_cons, List.length_nil, maxBytes]; omega)) ?_
      refine eve_if (fun c => ?_) (fun c => ?_)
      ·skip
       simp only [setD_last, List.set_cons_zero, List.set_cons_succ]
       exact nx _ _ _ _ (by assumption) (.inr ⟨_, by assumption, rfl⟩) hv9 (by intro h; first | (cases h; done) | (simp at h; omega))
      ·skip
       simp only [setD_last, List.set_cons_zero, List.set_cons_succ]
       exact nx _ _ _ _ (by assumption) (.inr ⟨_, by assumption, rfl⟩) hv9 (by intro h; first | (cases h; done) | (simp at h; omega))
     ·skip
      refine eve_callE (rdr _ _ (by assumption)) ?_
      rintro o ⟨v, j, b, hv, hj, rfl⟩
      have hv9 := hv
      obtain ⟨na0, sa1, na2, la3, la4, rfl, pa0, pa1, pa2, pa3, pa4⟩ := I33 hv
      simp -implicitDefEqProofs only [rdl, Ex.same, Nat.beq, hwd]
      refine eve_tst (decide_eq_true (by simp only [List.length_cons, List.length_nil, maxBytes]; omega)) ?_
      refine eve_if (fun c => ?_) (fun c => ?_)
      ·skip
       simp only [setD_last, List.set_cons_zero, List.set_cons_succ]
       exact nx _ _ _ _ (by assumption) (.inl rfl) hv9 (by intro h; first | (cases h; done) | (simp at h; omega))
      ·skip
       simp only [setD_last, List.set_cons_zero, List.set_cons_succ]
       exact nx _ _ _ _ (by assumption) (.inl rfl) hv9 (by intro h; first | (cases h; done) | (simp at h; omega))
   ·skip
    exact EvtE.ret ⟨_, _, _, _, by assumption, hks, hvs, rfl⟩
theorem t120 {s : ByteArray} (hs : s.size ≤ 1048576) (d : Nat) (hd : d + 1 ≤ 6) (rdr : ∀ (i : Nat) (b : Bool), i ≤ s.size → EvE fs 86 [.p (PS s i b), .d (.v (.int .i64 (d : Int)))] (RdQ s)) {i : Nat} (hi : i ≤ s.size) {k : Int} (hk : Fits k) {t : ByteArray} (ht : t.size ≤ 100) :
  EvE fs 120 [.p (PS s i false), .d (.v (.int .i64 k)), .d (.v (.string t)), .d (.v (.int .i64 ((d + 1 : Nat) : Int)))] (RdQ s) := by
 refine EvE.of (af := a120) rfl rfl (EvtE.congr (fun d n => a120q ..) ?_)
 refine eve_aft (L := fun d' m => l120x0 (TabD fs d') d' m [.b (PB s i false), .v (.int .i64 k), .v (.string t), .v (.int .i64 ((d + 1 : Nat) : Int)), .b ZB, .b (KB k [] [])]) (kids_loop hs d hd rdr k ht 400 i false [] [] hi sl_nil sl_nil (by simp) (by simp) (fun _ => by simp)) ?_
 rintro y ⟨j, b, ks, vs, hj, hks, hvs, rfl⟩
 simp -implicitDefEqProofs only [rdl, Ex.same, Nat.beq]
 exact EvtE.ret ⟨_, _, _, val_row hk (by decide) (by decide) hks hvs, hj, rfl⟩
theorem read_T {s : ByteArray} (hs : s.size ≤ 1048576) : ∀ (d : Nat), d ≤ 6 → ∀ (i : Nat) (b : Bool), i ≤ s.size → EvE fs 86 [.p (PS s i b), .d (.v (.int .i64 (d : Int)))] (RdQ s) := by
 intro d
 induction d with
 | zero => intro hd i b hi; exact t86 hs 0 hd (fun _ _ _ _ _ _ h => absurd rfl h) hi b
 | succ d ih => intro hd i b hi; exact t86 hs (d + 1) hd (fun i k t hi hk ht _ => t120 hs d hd (ih (by omega)) hi hk ht) hi b
end Go.Am.Pp
