/- The program's reader comes to an end, with a row of the value's shape. Nothing is assumed. -/
import Derived.Test.YtefdfdkkbbehiaaGreatDoorPpK
namespace Go.Am.Pp
set_option linter.unusedVariables false
set_option linter.unusedSimpArgs false
set_option maxRecDepth 8000
theorem trim_le (s p : ByteArray) : (trimP s p).size ≤ s.size := by
 have e : s.data.toList.length = s.size := by rw [Array.length_toList]; rfl
 unfold trimP
 rw [bOf_size, Lib.trimPrefix]
 split
 ·rw [List.length_drop]; omega
 ·omega
theorem t126 {s : ByteArray} {n : Nat} (hs : s.size ≤ n) (b : Bool) (p : ByteArray) : EvE fs 126 [.p (QS s b), .d (.v (.string p))] fun o => ∃ r s', s'.size ≤ n ∧ o = ⟨.d (.v (.bool r)), [.p (QS s' b)]⟩ :=
 ⟨_, ⟨_, _, Nat.le_trans (trim_le s p) hs, rfl⟩, f126 s b p⟩
theorem t152 {s : ByteArray} {n : Nat} (hs : s.size ≤ n) (b : Bool) (p : ByteArray) : EvE fs 152 [.p (QS s b), .d (.v (.string p))] fun o => ∃ s' b', s'.size ≤ n ∧ o = ⟨.t [], [.p (QS s' b')]⟩ :=
 ⟨_, ⟨_, _, Nat.le_trans (trim_le s p) hs, rfl⟩, f152 s b p⟩
theorem t129 {s : ByteArray} {n : Nat} (hn : n ≤ 1048576) (hs : s.size ≤ n) (b : Bool) {p : ByteArray} (hp : p.data.toList = [58] ∨ p.data.toList = [44, 93, 125]) : EvE fs 129 [.p (QS s b), .d (.v (.string p))] fun o => ∃ u s', u.size ≤ maxLen ∧ s'.size ≤ n ∧ o = ⟨.d (.v (.string u)), [.p (QS s' b)]⟩ :=
 ⟨_, ⟨_, _, by rw [ByteArray.size_extract]; simp only [maxLen]; omega, by rw [ByteArray.size_extract]; omega, rfl⟩, f129 (Nat.le_trans hs hn) b hp⟩
theorem rdP_pos : ∀ (k : Nat) (l : List UInt8) (p : List UInt8 × Nat), l.length ≤ k → rdP l = some p → p.1.length ≤ l.length := by
 intro k
 induction k with
 | zero => intro l p hl h; cases l with | nil => simp [rdP] at h | cons => simp at hl
 | succ k ih =>
  intro l p hl h
  cases l with
  | nil => simp [rdP] at h
  | cons b l =>
   simp only [List.length_cons] at hl ⊢
   unfold rdP at h
   by_cases h1 : b = 34
   ·rw [if_pos h1] at h
    cases h
    simp
   ·rw [if_neg h1] at h
    by_cases h2 : b = 92
    ·rw [if_pos h2] at h
     cases l with
     | nil => simp at h
     | cons c l =>
      simp only [Option.map_eq_some_iff] at h
      obtain ⟨q, hq, rfl⟩ := h
      have := ih l q (by simp at hl; omega) hq
      simp only [List.length_cons]
      omega
    ·rw [if_neg h2, Option.map_eq_some_iff] at h
     obtain ⟨q, hq, rfl⟩ := h
     have := ih l q (by omega) hq
     simp only [List.length_cons]
     omega
theorem t127 {s : ByteArray} {n : Nat} (hn : n ≤ 1048576) (hs : s.size ≤ n) (b : Bool) : EvE fs 127 [.p (QS s b)] fun o => ∃ u s' b', u.size ≤ maxLen ∧ s'.size ≤ n ∧ o = ⟨.d (.v (.string u)), [.p (QS s' b')]⟩ := by
 cases b with
 | false =>
  have key : Evt (fun d m => l127x0 (TabD fs d) d m [.b (QB s false), .o 1 []]) (.exit 0, [.b (QB s false)]) := by
   refine ev_succ ?_
   simp only [l127x0s]
   simp -implicitDefEqProofs only [rdl, Ex.same, Nat.beq, show (false == true) = false from rfl]
   exact Evt.ret
  refine ⟨_, ⟨({ data := #[] } : ByteArray), s, false, by decide, hs, rfl⟩, ?_⟩
  refine Ev.of (af := a127) rfl rfl (Evt.congr (fun d n => a127q ..) ?_)
  refine ev_aft (L := fun d n => l127x0 (TabD fs d) d n [.b (QB s false), .o 1 []]) key ?_
  simp -implicitDefEqProofs only [rdl, Ex.same, Nat.beq]
  exact Evt.ret
 | true =>
  have h := f127 (s := s) (by omega)
  cases hq : rdP s.toList with
  | none =>
   rw [hq] at h
   obtain ⟨s', h1, h2⟩ := h
   exact ⟨_, ⟨_, _, _, by decide, Nat.le_trans h1 hs, rfl⟩, h2⟩
  | some q =>
   obtain ⟨u, m⟩ := q
   rw [hq] at h
   obtain ⟨s', h1, h2⟩ := h
   have r := rdP_pos _ _ _ (Nat.le_refl _) hq
   have e := congrArg List.length h1
   rw [List.length_drop, toList_len, toList_len] at e
   rw [toList_len] at r
   exact ⟨_, ⟨_, _, _, by rw [bOf_size]; simp only [maxLen]; simp only at r; omega, by omega, rfl⟩, h2⟩
def QdQ (n : Nat) (o : Out) : Prop := ∃ v s' b, ShL E (E 33) v ∧ s'.size ≤ n ∧ o = ⟨.g v, [.p (QS s' b)]⟩
theorem t94 {n : Nat} (hn : n ≤ 1048576) (d : Nat) (hd : d ≤ 6) (kids : ∀ (s : ByteArray) (b : Bool) (k : Int) (t : ByteArray), s.size ≤ n → Fits k → d ≠ 0 → EvE fs 128 [.p (QS s b), .d (.v (.int .i64 k)), .d (.v (.string t)), .d (.v (.int .i64 (d : Int)))] (QdQ n)) {s : ByteArray} (hs : s.size ≤ n) (b : Bool) :
  EvE fs 94 [.p (QS s b), .d (.v (.int .i64 (d : Int)))] (QdQ n) := by
 refine EvE.of (af := a94) rfl rfl (EvtE.congr (fun d n => a94q ..) ?_)
 refine eve_if (fun h0 => ?_) (fun h0 => ?_)
 ·exact EvtE.ret ⟨_, _, _, zero_row, hs, rfl⟩
 ·have hd0 : d ≠ 0 := by rintro rfl; simp at h0
  refine eve_callE (t126 hs b ({ data := #[34] } : ByteArray)) ?_
  rintro o ⟨r1, s1, h1, rfl⟩
  simp -implicitDefEqProofs only [rdl, Ex.same, Nat.beq]
  refine eve_if (fun c1 => ?_) (fun c1 => ?_)
  ·refine eve_callE (t127 hn h1 b) ?_
   rintro o ⟨u, s2, b2, hu, h2, rfl⟩
   simp -implicitDefEqProofs only [rdl, Ex.same, Nat.beq]
   exact EvtE.ret ⟨_, _, _, val_row (by decide) hu (by decide) sl_nil sl_nil, h2, rfl⟩
  ·refine eve_callE (t126 h1 b ({ data := #[91] } : ByteArray)) ?_
   rintro o ⟨r2, s2, h2, rfl⟩
   simp -implicitDefEqProofs only [rdl, Ex.same, Nat.beq]
   refine eve_if (fun c2 => ?_) (fun c2 => ?_)
   ·refine eve_callE (kids s2 b 4 ({ data := #[93] } : ByteArray) h2 (by decide) hd0) ?_
    rintro o ⟨v, s3, b3, hv, h3, rfl⟩
    have hv9 := hv
    obtain ⟨na0, sa1, na2, la3, la4, rfl, pa0, pa1, pa2, pa3, pa4⟩ := I33 hv
    simp -implicitDefEqProofs only [rdl, Ex.same, Nat.beq]
    exact EvtE.ret ⟨_, _, _, hv9, h3, rfl⟩
   ·refine eve_callE (t126 h2 b ({ data := #[123] } : ByteArray)) ?_
    rintro o ⟨r3, s3, h3, rfl⟩
    simp -implicitDefEqProofs only [rdl, Ex.same, Nat.beq]
    refine eve_if (fun c3 => ?_) (fun c3 => ?_)
    ·refine eve_callE (kids s3 b 5 ({ data := #[125] } : ByteArray) h3 (by decide) hd0) ?_
     rintro o ⟨v, s4, b4, hv, h4, rfl⟩
     have hv9 := hv
     obtain ⟨na0, sa1, na2, la3, la4, rfl, pa0, pa1, pa2, pa3, pa4⟩ := I33 hv
     simp -implicitDefEqProofs only [rdl, Ex.same, Nat.beq]
     exact EvtE.ret ⟨_, _, _, hv9, h4, rfl⟩
    ·refine eve_callE (t129 hn h3 b (p := ({ data := #[44, 93, 125] } : ByteArray)) (.inr rfl)) ?_
     rintro o ⟨u, s4, hu, h4, rfl⟩
     simp -implicitDefEqProofs only [rdl, Ex.same, Nat.beq]
     refine eve_if (fun c4 => ?_) (fun c4 => ?_)
     ·exact EvtE.ret ⟨_, _, _, val_row (by decide) (by decide) (by decide) sl_nil sl_nil, h4, rfl⟩
     ·refine eve_if (fun c5 => ?_) (fun c5 => ?_)
      ·exact EvtE.ret ⟨_, _, _, val_row (by decide) (by decide) (by decide) sl_nil sl_nil, h4, rfl⟩
      ·refine eve_callE (t130 u) ?_
       rintro o ⟨m, ok, hm, rfl⟩
       simp -implicitDefEqProofs only [rdl, Ex.same, Nat.beq]
       refine eve_if (fun c6 => ?_) (fun c6 => ?_)
       ·exact EvtE.ret ⟨_, _, _, val_row (by decide) (by decide) hm sl_nil sl_nil, h4, rfl⟩
       ·exact EvtE.ret ⟨_, _, _, val_row (by decide) (by decide) hm sl_nil sl_nil, h4, rfl⟩
def LQ2 (n : Nat) (k : Int) (t : ByteArray) (y : Ex × List AV) : Prop := ∃ s b ks vs, s.size ≤ n ∧ SL E 9 ks ∧ SL E 33 vs ∧ y = (.exit 0, [.b (QB s b), .v (.string t), .b ZB, .b (KB k ks vs)])
theorem pkids_loop {n : Nat} (hn : n ≤ 1048576) (d : Nat) (hd : d + 1 ≤ 6) (rdr : ∀ (s : ByteArray) (b : Bool), s.size ≤ n → EvE fs 94 [.p (QS s b), .d (.v (.int .i64 (d : Int)))] (QdQ n)) (k : Int) (t : ByteArray) :
  ∀ (m : Nat) (s : ByteArray) (b : Bool) (ks vs : Rows), s.size ≤ n → SL E 9 ks → SL E 33 vs → ks.length ≤ vs.length → vs.length ≤ 301 → 302 ≤ vs.length + m →
   EvtE (LQ2 n k t) (fun d' m => l128x0 (TabD fs d') d' m [.b (QB s b), .v (.int .i64 k), .v (.string t), .v (.int .i64 ((d + 1 : Nat) : Int)), .b ZB, .b (KB k ks vs)]) := by
 have hwd : IntKind.i64.wrap (((d + 1 : Nat) : Int) - 1) = (d : Int) := by rw [wrap_i64 (by omega) (by omega)]; omega
 intro m
 induction m with
 | zero => intro s b ks vs hs hks hvs h1 h2 h3; omega
 | succ m ih =>
  intro s b ks vs hs hks hvs h1 h2 h3
  refine eve_succ ?_
  simp only [l128x0s]
  cases b with
  | false =>
   simp -implicitDefEqProofs only [rdl, Ex.same, Nat.beq, show (false == true) = false from rfl]
   exact EvtE.ret ⟨_, _, _, _, hs, hks, hvs, rfl⟩
  | true =>
   simp -implicitDefEqProofs only [rdl, Ex.same, Nat.beq, show (true == true) = true from rfl, hwd]
   refine eve_if (fun c0 => ?_) (fun c0 => ?_)
   ·have c0 : vs.length ≤ 300 := by have := of_decide_eq_true c0; omega
    refine eve_if (fun c1 => ?_) (fun c1 => ?_)
    ·refine eve_callE (t129 hn hs true (p := ({ data := #[58] } : ByteArray)) (.inl rfl)) ?_
     rintro o ⟨w, s1, hw, g1, rfl⟩
     simp -implicitDefEqProofs only [rdl, Ex.same, Nat.beq, hwd]
     refine eve_callE (t152 g1 true _) ?_
     rintro o ⟨s2, b2, g2, rfl⟩
     simp -implicitDefEqProofs only [rdl, Ex.same, Nat.beq, hwd]
     refine eve_tst (decide_eq_true (by simp only [List.length_cons, List.length_nil, maxBytes]; omega)) ?_
     have hks2 : SL E 9 (ks ++ [[.v (.string w)]]) := sl_snoc hks (by rw [E9]; exact mk_s hw .nil) (by omega)
     refine eve_callE (rdr _ _ (by assumption)) ?_
     rintro o ⟨v, s3, b3, hv, h3, rfl⟩
     have hv9 := hv
     obtain ⟨na0, sa1, na2, la3, la4, rfl, pa0, pa1, pa2, pa3, pa4⟩ := I33 hv
     simp -implicitDefEqProofs only [rdl, Ex.same, Nat.beq, hwd]
     refine eve_tst (decide_eq_true (by simp only [List.length_cons, List.length_nil, maxBytes]; omega)) ?_
     refine eve_callE (t126 h3 b3 _) ?_
     rintro o ⟨r4, s4, h4, rfl⟩
     simp -implicitDefEqProofs only [rdl, Ex.same, Nat.beq, hwd]
     refine eve_if (fun c => ?_) (fun c => ?_)
     ·simp only [setD_last, List.set_cons_zero, List.set_cons_succ]
      exact EvtE.ret ⟨_, _, _, _, h4, hks2, sl_snoc hvs hv9 (by omega), rfl⟩
     ·simp only [setD_last, List.set_cons_zero, List.set_cons_succ]
      exact ih _ _ _ _ h4 (hks2) (sl_snoc hvs hv9 (by omega)) (by simp <;> omega) (by simp <;> omega) (by simp <;> omega)
    ·
     refine eve_callE (rdr _ _ (by assumption)) ?_
     rintro o ⟨v, s3, b3, hv, h3, rfl⟩
     have hv9 := hv
     obtain ⟨na0, sa1, na2, la3, la4, rfl, pa0, pa1, pa2, pa3, pa4⟩ := I33 hv
     simp -implicitDefEqProofs only [rdl, Ex.same, Nat.beq, hwd]
     refine eve_tst (decide_eq_true (by simp only [List.length_cons, List.length_nil, maxBytes]; omega)) ?_
     refine eve_callE (t126 h3 b3 _) ?_
     rintro o ⟨r4, s4, h4, rfl⟩
     simp -implicitDefEqProofs only [rdl, Ex.same, Nat.beq, hwd]
     refine eve_if (fun c => ?_) (fun c => ?_)
     ·simp only [setD_last, List.set_cons_zero, List.set_cons_succ]
      exact EvtE.ret ⟨_, _, _, _, h4, hks, sl_snoc hvs hv9 (by omega), rfl⟩
     ·simp only [setD_last, List.set_cons_zero, List.set_cons_succ]
      exact ih _ _ _ _ h4 (hks) (sl_snoc hvs hv9 (by omega)) (by simp <;> omega) (by simp <;> omega) (by simp <;> omega)
   ·exact EvtE.ret ⟨_, _, _, _, hs, hks, hvs, rfl⟩
theorem t128 {n : Nat} (hn : n ≤ 1048576) (d : Nat) (hd : d + 1 ≤ 6) (rdr : ∀ (s : ByteArray) (b : Bool), s.size ≤ n → EvE fs 94 [.p (QS s b), .d (.v (.int .i64 (d : Int)))] (QdQ n)) {s : ByteArray} (hs : s.size ≤ n) (b : Bool) {k : Int} (hk : Fits k) (t : ByteArray) :
  EvE fs 128 [.p (QS s b), .d (.v (.int .i64 k)), .d (.v (.string t)), .d (.v (.int .i64 ((d + 1 : Nat) : Int)))] (QdQ n) := by
 refine EvE.of (af := a128) rfl rfl (EvtE.congr (fun d n => a128q ..) ?_)
 refine eve_callE (t126 hs b t) ?_
 rintro o ⟨r, s1, h1, rfl⟩
 simp -implicitDefEqProofs only [rdl, Ex.same, Nat.beq]
 refine eve_if (fun c => ?_) (fun c => ?_)
 ·exact EvtE.ret ⟨_, _, _, val_row hk (by decide) (by decide) sl_nil sl_nil, h1, rfl⟩
 ·refine eve_aft (L := fun d' m => l128x0 (TabD fs d') d' m [.b (QB s1 b), .v (.int .i64 k), .v (.string t), .v (.int .i64 ((d + 1 : Nat) : Int)), .b ZB, .b (KB k [] [])]) (pkids_loop hn d hd rdr k t 400 s1 b [] [] h1 sl_nil sl_nil (by simp) (by simp) (by simp)) ?_
  rintro y ⟨s2, b2, ks, vs, h2, hks, hvs, rfl⟩
  simp -implicitDefEqProofs only [rdl, Ex.same, Nat.beq]
  refine eve_callE (t152 h2 b2 t) ?_
  rintro o ⟨s3, b3, h3, rfl⟩
  simp -implicitDefEqProofs only [rdl, Ex.same, Nat.beq]
  exact EvtE.ret ⟨_, _, _, val_row hk (by decide) (by decide) hks hvs, h3, rfl⟩
theorem value_T {n : Nat} (hn : n ≤ 1048576) : ∀ (d : Nat), d ≤ 6 → ∀ (s : ByteArray) (b : Bool), s.size ≤ n → EvE fs 94 [.p (QS s b), .d (.v (.int .i64 (d : Int)))] (QdQ n) := by
 intro d
 induction d with
 | zero => intro hd s b hs; exact t94 hn 0 hd (fun _ _ _ _ _ _ h => absurd rfl h) hs b
 | succ d ih => intro hd s b hs; exact t94 hn (d + 1) hd (fun s b k t hs hk _ => t128 hn d hd (ih (by omega)) hs b hk t) hs b
end Go.Am.Pp
