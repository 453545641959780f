/- Drawn values. Nothing is assumed. -/
import Derived.Test.YtmgeoejefnablaaGreatDoorFmD2
namespace Go.Am.Fm
variable {SK : Src}
set_option linter.unusedVariables false
set_option linter.unusedSimpArgs false
set_option maxRecDepth 8000
theorem fr130 {row : Row} (h : ShL E (E 46) row) (hw : wtRow row ≤ 1048576) (W : Nat) (hW : 2 * wtRow row + 1 = W) : Ev (fs SK) 130 [.g row] ⟨.g row, []⟩ := by
 obtain ⟨na0, sa1, na2, la3, la4, rfl, pa0, pa1, pa2, pa3, pa4⟩ := I46 h
 have fla3 : flatRows la3 = true := List.all_eq_true.2 fun x hx => by
  have h := pa3.2.mem x hx
  obtain ⟨sz0, rfl, pz0⟩ := I9 h
  rfl
 simp only [wtRow, wtD] at hw
 have hb3 := app_fits0 (l := la3) (c := 16) (by omega) (by omega)
 refine Ev.of (af := a130) rfl rfl (Evt.congr (fun d n => a130q ..) ?_)
 simp -implicitDefEqProofs only [rdl, Ex.same, Nat.beq, fla3, hb3, List.nil_append]
 refine ev_aft (L := fun d n => l130x0 (TabD (fs SK) d) d n [(.b [(.v (.int .i64 na0)), (.v (.string sa1)), (.v (.int .i64 na2)), (.fz 1 la3), (.fz 5 la4)]), (.b [(.v (.int .i64 0)), (.v (.string ByteArray.empty)), (.v (.int .i64 0)), (.o 1 []), (.o 5 [])]), (.b [(.v (.int .i64 na0)), (.v (.string sa1)), (.v (.int .i64 na2)), (.o 1 la3), (.o 5 [])]), (.v (.int .i64 0))]) (copy_loop (L := fun d n acc i => l130x0 (TabD (fs SK) d) d n [(.b [(.v (.int .i64 na0)), (.v (.string sa1)), (.v (.int .i64 na2)), (.fz 1 la3), (.fz 5 la4)]), (.b [(.v (.int .i64 0)), (.v (.string ByteArray.empty)), (.v (.int .i64 0)), (.o 1 []), (.o 5 [])]), (.b [(.v (.int .i64 na0)), (.v (.string sa1)), (.v (.int .i64 na2)), (.o 1 la3), (.o 5 acc)]), (.v (.int .i64 i))]) (a := la4) (Y := fun acc => (.exit 0, [(.b [(.v (.int .i64 0)), (.v (.string ByteArray.empty)), (.v (.int .i64 0)), (.o 1 []), (.o 5 [])]), (.b [(.v (.int .i64 na0)), (.v (.string sa1)), (.v (.int .i64 na2)), (.o 1 la3), (.o 5 acc)])])) (fun d n acc => ?_) (fun i x res hi hx k => ?_)) ?_
 ·rw [l130x0s]
  simp -implicitDefEqProofs only [rdl, Ex.same, Nat.beq, Int.lt_irrefl, decide_false]
 ·have g := pa4.at hx
  have g' := g
  obtain ⟨nx0, sx1, nx2, lx3, lx4, rfl, px0, px1, px2, px3, px4⟩ := I46 g
  have hwx := wt_at hx
  simp only [wtRow, wtD] at hwx
  simp only [l130x0s]
  simp -implicitDefEqProofs only [rdl, Ex.same, Nat.beq, decide_eq_true (Int.ofNat_lt.2 hi), dec_nn, look_at hx, wrap_succ hi pa4.le]
  refine ev_call (fr130 (by assumption) (by simp only [wtRow, wtD]; omega) _ rfl) ?_
  simp -implicitDefEqProofs only [rdl, Ex.same, Nat.beq]
  refine ev_tst (app_fits (by omega) (by omega) (by omega)) ?_
  simp only [setD_last, List.set_cons_zero, List.set_cons_succ]
  exact k
 ·simp -implicitDefEqProofs only [rdl, Ex.same, Nat.beq]
  exact Evt.ret
termination_by W
decreasing_by all_goals (try have := wt_at hx); (try simp only [wtRow, wtD] at *); omega
theorem f130 {row : Row} (h : ShL E (E 46) row) (hw : wtRow row ≤ 1048576) : Ev (fs SK) 130 [.g row] ⟨.g row, []⟩ := fr130 h hw _ rfl
def VW (W : Nat) (v : Row) : Prop := ShL E (E 46) v ∧ wtRow v ≤ W
theorem VW.mono {W W' : Nat} {v : Row} (h : VW W v) (hw : W ≤ W') : VW W' v := ⟨h.1, Nat.le_trans h.2 hw⟩
theorem wtRows_app : ∀ a b : Rows, wtRows (a ++ b) = wtRows a + wtRows b
 | [], b => by simp [wtRows]
 | x :: a, b => by simp [wtRows, wtRows_app a b]; omega
theorem wt5 {k n : Int} {s : ByteArray} {ks vs : Rows} : wtRow [.v (.int .i64 k), .v (.string s), .v (.int .i64 n), .s 1 ks, .s 5 vs] = s.size + (ks.length + wtRows ks) + (vs.length + wtRows vs) := by simp [wtRow, wtD]; omega
theorem vw_mk {k n : Int} {s : ByteArray} {ks vs : Rows} {W : Nat} (hk : Fits k) (hn : Fits n) (hs : s.size ≤ maxLen) (h1 : SL E 9 ks) (h2 : SL E 46 vs) (hw : s.size + (ks.length + wtRows ks) + (vs.length + wtRows vs) ≤ W) :
  VW W [.v (.int .i64 k), .v (.string s), .v (.int .i64 n), .s 1 ks, .s 5 vs] := ⟨val_row hk hs hn h1 h2, by rw [wt5]; exact hw⟩
theorem fit_small {k : Int} (h0 : -1000 ≤ k) (h1 : k ≤ 1000) : Fits k := by
 simp only [Fits, IntKind.min, IntKind.max, IntKind.signed, IntKind.bits]
 simp
 omega
theorem fit_wrap (n : Int) : Fits (IntKind.i64.wrap n) := by
 simp only [Fits, IntKind.min, IntKind.max, IntKind.wrap, IntKind.signed, IntKind.bits]
 simp
 omega
theorem vw_flat {k n : Int} {s : ByteArray} {W : Nat} (h0 : 0 ≤ k) (h1 : k ≤ 100) (hs : s.size ≤ 100) (hn : Fits n) (hW : 100 ≤ W) : VW W [.v (.int .i64 k), .v (.string s), .v (.int .i64 n), .s 1 [], .s 5 []] :=
 vw_mk (fit_small (by omega) (by omega)) hn (by simp only [maxLen]; omega) sl_nil sl_nil (by simp [wtRows]; omega)
theorem dl_loop {a : Option Addr} {n c : Nat} {d : Nat} (hd : d ≤ 100) {W : Nat} (rdr : ∀ i h, 0 ≤ i → EvE (fs SK) 72 [.p (CR a n c i h), .d (.v (.int .i64 (d : Int)))] (CQ a n c fun r => ∃ v, VW W v ∧ r = .g v)) (k : Int) :
  ∀ (m : Nat) (i h : Int) (vs : Rows), 0 ≤ i → SL E 46 vs → vs.length + m ≤ 4 → wtRows vs ≤ vs.length * W →
  EvtE (fun y => ∃ i h vs, 0 ≤ i ∧ SL E 46 vs ∧ vs.length ≤ 4 ∧ wtRows vs ≤ vs.length * W ∧ y = (.exit 1, [.b (CB a n c i h), .b ZB, .b (KB k [] vs)])) (fun d' q => l72x0 (TabD (fs SK) d') d' q [.b (CB a n c i h), .v (.int .i64 ((d + 1 : Nat) : Int)), .b ZB, .b (KB k [] vs), .v (.int .i64 (m : Int))]) := by
 have hwd : IntKind.i64.wrap (((d + 1 : Nat) : Int) - 1) = (d : Int) := by rw [wrap_i64 (by omega) (by omega)]; omega
 intro m
 induction m with
 | zero =>
  intro i h vs hi hv hl hw
  refine eve_succ ?_
  simp only [l72x0s]
  simp -implicitDefEqProofs only [rdl, Ex.same, Nat.beq, show decide (((0 : Nat) : Int) > 0) = false from rfl]
  exact EvtE.ret ⟨_, _, _, hi, hv, by omega, hw, rfl⟩
 | succ m ih =>
  intro i h vs hi hv hl hw
  refine eve_succ ?_
  simp only [l72x0s]
  have hwm : IntKind.i64.wrap (((m + 1 : Nat) : Int) - 1) = (m : Int) := by rw [wrap_i64 (by omega) (by omega)]; omega
  simp -implicitDefEqProofs only [rdl, Ex.same, Nat.beq, show decide (((m + 1 : Nat) : Int) > 0) = true from decide_eq_true (by omega), hwd, hwm]
  refine eve_callE (rdr i h hi) ?_
  rintro o ⟨_, i1, h1, ⟨v, ⟨hv1, hv2⟩, rfl⟩, hi1, rfl⟩
  have hv9 := hv1
  obtain ⟨na0, sa1, na2, la3, la4, rfl, pa0, pa1, pa2, pa3, pa4⟩ := I46 hv1
  simp -implicitDefEqProofs only [rdl, Ex.same, Nat.beq, hwd, hwm]
  refine eve_tst (decide_eq_true (by simp only [List.length_cons, List.length_nil, maxBytes]; omega)) ?_
  simp only [setD_last, List.set_cons_zero, List.set_cons_succ]
  refine ih _ _ _ hi1 (sl_snoc hv hv9 (by omega)) (by simp; omega) ?_
  rw [wtRows_app, List.length_append, List.length_singleton, Nat.succ_mul]
  simp only [wtRows]
  omega
theorem dm_loop {a : Option Addr} {n c : Nat} {d : Nat} (hd : d ≤ 100) {W : Nat} (rdr : ∀ i h, 0 ≤ i → EvE (fs SK) 72 [.p (CR a n c i h), .d (.v (.int .i64 (d : Int)))] (CQ a n c fun r => ∃ v, VW W v ∧ r = .g v)) (k : Int) {l : Rows} (hl : labB l) (hn : l.length ≤ 4) :
  ∀ (m j : Nat) (i h : Int) (ks vs : Rows), l.length - j ≤ m → j ≤ l.length → 0 ≤ i → SL E 9 ks → SL E 46 vs → ks.length = j → vs.length = j → wtRows ks ≤ ks.length * 21 → wtRows vs ≤ vs.length * W →
  EvtE (fun y => ∃ i h ks vs, 0 ≤ i ∧ SL E 9 ks ∧ SL E 46 vs ∧ ks.length ≤ 4 ∧ vs.length ≤ 4 ∧ wtRows ks ≤ ks.length * 21 ∧ wtRows vs ≤ vs.length * W ∧ y = (.exit 3, [.b (CB a n c i h), .b ZB, .b (KB k ks vs)])) (fun d' q => l72x1 (TabD (fs SK) d') d' q [.b (CB a n c i h), .v (.int .i64 ((d + 1 : Nat) : Int)), .b ZB, .b (KB k ks vs), .o 2 l, .v (.int .i64 (j : Int))]) := by
 have hwd : IntKind.i64.wrap (((d + 1 : Nat) : Int) - 1) = (d : Int) := by rw [wrap_i64 (by omega) (by omega)]; omega
 have stop : ∀ (j : Nat) (i h : Int) (ks vs : Rows), j = l.length → 0 ≤ i → SL E 9 ks → SL E 46 vs → ks.length = j → vs.length = j → wtRows ks ≤ ks.length * 21 → wtRows vs ≤ vs.length * W → EvtE (fun y => ∃ i h ks vs, 0 ≤ i ∧ SL E 9 ks ∧ SL E 46 vs ∧ ks.length ≤ 4 ∧ vs.length ≤ 4 ∧ wtRows ks ≤ ks.length * 21 ∧ wtRows vs ≤ vs.length * W ∧ y = (.exit 3, [.b (CB a n c i h), .b ZB, .b (KB k ks vs)])) (fun d' q => l72x1 (TabD (fs SK) d') d' q [.b (CB a n c i h), .v (.int .i64 ((d + 1 : Nat) : Int)), .b ZB, .b (KB k ks vs), .o 2 l, .v (.int .i64 (j : Int))]) := fun j i h ks vs hj hi h1 h2 h3 h4 h5 h6 => by
  subst hj
  refine eve_succ ?_
  simp only [l72x1s]
  simp -implicitDefEqProofs only [rdl, Ex.same, Nat.beq, Int.lt_irrefl, decide_false]
  exact EvtE.ret ⟨_, _, _, _, hi, h1, h2, by omega, by omega, h5, h6, rfl⟩
 intro m
 induction m with
 | zero => intro j i h ks vs hm hj hi h1 h2 h3 h4 h5 h6; exact stop j i h ks vs (by omega) hi h1 h2 h3 h4 h5 h6
 | succ m ih =>
  intro j i h ks vs hm hj hi h1 h2 h3 h4 h5 h6
  rcases Nat.lt_or_ge j l.length with hlt | hge
  ·obtain ⟨u, v, hu, hv, hx⟩ := hl.at hlt
   refine eve_succ ?_
   simp only [l72x1s]
   simp -implicitDefEqProofs only [rdl, Ex.same, Nat.beq, decide_eq_true (Int.ofNat_lt.2 hlt), dec_nn, look_at hx, wrap_succ hlt (show l.length ≤ maxLen by simp only [maxLen]; omega), hwd]
   refine eve_tst (by simp [hlt]) ?_
   try simp -implicitDefEqProofs only [rdl, Ex.same, Nat.beq, look_at hx]
   refine eve_tst (decide_eq_true (by simp only [List.length_cons, List.length_nil, maxBytes]; omega)) ?_
   refine eve_callE (rdr i h hi) ?_
   rintro o ⟨_, i1, h1', ⟨w, ⟨hv1, hv2⟩, rfl⟩, hi1, rfl⟩
   have hv9 := hv1
   obtain ⟨na0, sa1, na2, la3, la4, rfl, pa0, pa1, pa2, pa3, pa4⟩ := I46 hv1
   simp -implicitDefEqProofs only [rdl, Ex.same, Nat.beq, hwd, wrap_succ hlt (show l.length ≤ maxLen by simp only [maxLen]; omega)]
   refine eve_tst (decide_eq_true (by simp only [List.length_cons, List.length_nil, maxBytes]; omega)) ?_
   simp only [setD_last, List.set_cons_zero, List.set_cons_succ]
   refine ih (j + 1) _ _ _ _ (by omega) hlt hi1 (sl_snoc h1 (by rw [E9]; exact mk_s (by simp only [maxLen]; omega) .nil) (by omega)) (sl_snoc h2 hv9 (by omega)) (by simp; omega) (by simp; omega) ?_ ?_
   ·rw [wtRows_app, List.length_append, List.length_singleton, Nat.succ_mul]
    simp only [wtRows, wtRow, wtD]
    omega
   ·rw [wtRows_app, List.length_append, List.length_singleton, Nat.succ_mul]
    simp only [wtRows]
    omega
  ·exact stop j i h ks vs (by omega) hi h1 h2 h3 h4 h5 h6
def wB (d : Nat) : Nat := 200 * 5 ^ d
theorem wB_pos (d : Nat) : 100 ≤ wB d := by
 have : 1 ≤ 5 ^ d := Nat.one_le_pow _ _ (by omega)
 unfold wB
 omega
theorem wB_step (d : Nat) : 92 + 4 * wB d ≤ wB (d + 1) := by
 have := wB_pos d
 unfold wB at *
 rw [Nat.pow_succ]
 omega
theorem t72 {a : Option Addr} {n c : Nat} (hK : IsH SK a n) : ∀ (d : Nat), 1 ≤ d → d ≤ 5 → ∀ i h, 0 ≤ i → EvE (fs SK) 72 [.p (CR a n c i h), .d (.v (.int .i64 (d : Int)))] (CQ a n c fun r => ∃ v, VW (wB d) v ∧ r = .g v) := by
 intro d
 induction d with
 | zero => intro h; omega
 | succ d ih =>
  intro _ hd i h hi
  refine EvE.of (af := a72) rfl rfl (EvtE.congr (fun d n => a72q ..) ?_)
  refine eve_callE (t44 hK hi _) ?_
  rintro o ⟨_, i1, h1, ⟨x, hx0, hx1, _, rfl⟩, hi1, rfl⟩
  have hx1 := hx1 (by omega)
  have hk : IntKind.i64.wrap (1 + x) = 1 + x := wrap_i64 (by omega) (by omega)
  simp -implicitDefEqProofs only [rdl, Ex.same, Nat.beq, hk]
  refine eve_if (fun c1 => ?_) (fun c1 => ?_)
  ·have c1 : ((d + 1 : Nat) : Int) ≤ 1 := by simpa using c1
   refine eve_if (fun c2 => ?_) (fun c2 => ?_)
   ·skip
    refine eve_if (fun k1 => ?_) (fun k1 => ?_)
    ·exact absurd k1 (by decide)
    ·skip
     refine eve_if (fun k2 => ?_) (fun k2 => ?_)
     ·skip
      refine eve_callE (t49 hK hi1 rfl rfl) ?_
      rintro o ⟨_, i2, h2, ⟨y, hy, rfl⟩, hi2, rfl⟩
      simp -implicitDefEqProofs only [rdl, Ex.same, Nat.beq]
      exact EvtE.ret ⟨_, _, _, ⟨_, vw_flat (by omega) (by omega) (by decide) hy (wB_pos _), rfl⟩, hi2, rfl⟩
     ·skip
      refine eve_if (fun k3 => ?_) (fun k3 => ?_)
      ·exact absurd k3 (by decide)
      ·skip
       refine eve_if (fun k4 => ?_) (fun k4 => ?_)
       ·exact absurd k4 (by decide)
       ·skip
        refine eve_if (fun k5 => ?_) (fun k5 => ?_)
        ·exact absurd k5 (by decide)
        ·skip
         exact EvtE.ret ⟨_, _, _, ⟨_, vw_flat (by omega) (by omega) (by decide) (by decide) (wB_pos _), rfl⟩, hi1, rfl⟩
   ·have c2 : ¬ (1 + x > 3) := by simpa using c2
    refine eve_if (fun k1 => ?_) (fun k1 => ?_)
    ·skip
     refine eve_callE (t70 (m := 100) hK hi1 rfl rfl) ?_
     rintro o ⟨_, i2, h2, ⟨s, hs, rfl⟩, hi2, rfl⟩
     simp -implicitDefEqProofs only [rdl, Ex.same, Nat.beq]
     exact EvtE.ret ⟨_, _, _, ⟨_, vw_flat (by omega) (by omega) hs (by decide) (wB_pos _), rfl⟩, hi2, rfl⟩
    ·skip
     refine eve_if (fun k2 => ?_) (fun k2 => ?_)
     ·skip
      refine eve_callE (t49 hK hi1 rfl rfl) ?_
      rintro o ⟨_, i2, h2, ⟨y, hy, rfl⟩, hi2, rfl⟩
      simp -implicitDefEqProofs only [rdl, Ex.same, Nat.beq]
      exact EvtE.ret ⟨_, _, _, ⟨_, vw_flat (by omega) (by omega) (by decide) hy (wB_pos _), rfl⟩, hi2, rfl⟩
     ·skip
      refine eve_if (fun k3 => ?_) (fun k3 => ?_)
      ·skip
       refine eve_callE (t44 hK hi1 2) ?_
       rintro o ⟨_, i2, h2, ⟨y, hy0, hy1, _, rfl⟩, hi2, rfl⟩
       have hy1 := hy1 (by omega)
       simp -implicitDefEqProofs only [rdl, Ex.same, Nat.beq]
       exact EvtE.ret ⟨_, _, _, ⟨_, vw_flat (by omega) (by omega) (by decide) (fit_small (by omega) (by omega)) (wB_pos _), rfl⟩, hi2, rfl⟩
      ·skip
       refine eve_if (fun k4 => ?_) (fun k4 => ?_)
       ·exact absurd k4 (by rw [Bool.not_eq_true]; simp only [beq_eq_false_iff_ne]; omega)
       ·skip
        refine eve_if (fun k5 => ?_) (fun k5 => ?_)
        ·exact absurd k5 (by rw [Bool.not_eq_true]; simp only [beq_eq_false_iff_ne]; omega)
        ·skip
         exact EvtE.ret ⟨_, _, _, ⟨_, vw_flat (by omega) (by omega) (by decide) (by decide) (wB_pos _), rfl⟩, hi1, rfl⟩
  ·have c1 : ¬ ((d + 1 : Nat) : Int) ≤ 1 := by simpa using c1
   have rdr := ih (by omega) (by omega)
   refine eve_if (fun k1 => ?_) (fun k1 => ?_)
   ·skip
    refine eve_callE (t70 (m := 100) hK hi1 rfl rfl) ?_
    rintro o ⟨_, i2, h2, ⟨s, hs, rfl⟩, hi2, rfl⟩
    simp -implicitDefEqProofs only [rdl, Ex.same, Nat.beq]
    exact EvtE.ret ⟨_, _, _, ⟨_, vw_flat (by omega) (by omega) hs (by decide) (wB_pos _), rfl⟩, hi2, rfl⟩
   ·skip
    refine eve_if (fun k2 => ?_) (fun k2 => ?_)
    ·skip
     refine eve_callE (t49 hK hi1 rfl rfl) ?_
     rintro o ⟨_, i2, h2, ⟨y, hy, rfl⟩, hi2, rfl⟩
     simp -implicitDefEqProofs only [rdl, Ex.same, Nat.beq]
     exact EvtE.ret ⟨_, _, _, ⟨_, vw_flat (by omega) (by omega) (by decide) hy (wB_pos _), rfl⟩, hi2, rfl⟩
    ·skip
     refine eve_if (fun k3 => ?_) (fun k3 => ?_)
     ·skip
      refine eve_callE (t44 hK hi1 2) ?_
      rintro o ⟨_, i2, h2, ⟨y, hy0, hy1, _, rfl⟩, hi2, rfl⟩
      have hy1 := hy1 (by omega)
      simp -implicitDefEqProofs only [rdl, Ex.same, Nat.beq]
      exact EvtE.ret ⟨_, _, _, ⟨_, vw_flat (by omega) (by omega) (by decide) (fit_small (by omega) (by omega)) (wB_pos _), rfl⟩, hi2, rfl⟩
     ·skip
      refine eve_if (fun k4 => ?_) (fun k4 => ?_)
      ·skip
       refine eve_callE (t44 hK hi1 4) ?_
       rintro o ⟨_, i2, h2, ⟨y, hy0, hy1, _, rfl⟩, hi2, rfl⟩
       have hy1 := hy1 (by omega)
       obtain ⟨m, rfl⟩ : ∃ m : Nat, y = (m : Int) := ⟨y.toNat, by omega⟩
       simp -implicitDefEqProofs only [rdl, Ex.same, Nat.beq]
       refine eve_aft (L := fun d' q => l72x0 (TabD (fs SK) d') d' q [.b (CB a n c i2 h2), .v (.int .i64 ((d + 1 : Nat) : Int)), .b ZB, .b (KB (1 + x) [] []), .v (.int .i64 (m : Int))]) (dl_loop (by omega) rdr (1 + x) m i2 h2 [] hi2 sl_nil (by simp; omega) (by simp [wtRows])) ?_
       rintro y ⟨i3, h3, vs, hi3, g1, g2, g3, rfl⟩
       simp -implicitDefEqProofs only [rdl, Ex.same, Nat.beq]
       have g4 := Nat.mul_le_mul_right (wB d) g2
       have g5 := wB_step d
       exact EvtE.ret ⟨_, _, _, ⟨_, vw_mk (fit_small (by omega) (by omega)) (by decide) (by decide) sl_nil g1 (by simp only [List.length_nil, wtRows]; have e0 : ByteArray.empty.size = 0 := rfl; omega), rfl⟩, hi3, rfl⟩
      ·skip
       refine eve_if (fun k5 => ?_) (fun k5 => ?_)
       ·skip
        refine eve_callE (t100 (m := 5) hK hi1 (by omega) (by omega)) ?_
        rintro o ⟨_, i2, h2, ⟨l, hl, hn, rfl⟩, hi2, rfl⟩
        simp -implicitDefEqProofs only [rdl, Ex.same, Nat.beq]
        refine eve_aft (L := fun d' q => l72x1 (TabD (fs SK) d') d' q [.b (CB a n c i2 h2), .v (.int .i64 ((d + 1 : Nat) : Int)), .b ZB, .b (KB (1 + x) [] []), .o 2 l, .v (.int .i64 0)]) (dm_loop (by omega) rdr (1 + x) hl (by omega) _ 0 i2 h2 [] [] (Nat.le_refl _) (by omega) hi2 sl_nil sl_nil rfl rfl (by simp [wtRows]) (by simp [wtRows])) ?_
        rintro y ⟨i3, h3, ks, vs, hi3, g1, g2, g3, g4, g5, g6, rfl⟩
        simp -implicitDefEqProofs only [rdl, Ex.same, Nat.beq]
        have g7 := Nat.mul_le_mul_right (wB d) g4
        have g8 := wB_step d
        exact EvtE.ret ⟨_, _, _, ⟨_, vw_mk (fit_small (by omega) (by omega)) (by decide) (by decide) g1 g2 (by have e0 : ByteArray.empty.size = 0 := rfl; omega), rfl⟩, hi3, rfl⟩
       ·skip
        exact EvtE.ret ⟨_, _, _, ⟨_, vw_flat (by omega) (by omega) (by decide) (by decide) (wB_pos _), rfl⟩, hi1, rfl⟩
end Go.Am.Fm
