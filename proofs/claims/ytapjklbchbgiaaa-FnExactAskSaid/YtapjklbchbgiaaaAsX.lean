/- What Tell and Ask say in the end. Nothing is assumed. -/
import Derived.Test.YtapjklbchbgiaaaAsI
namespace Go.Am.As
set_option linter.unusedVariables false
set_option linter.unusedSimpArgs false
set_option maxRecDepth 8000
def eqU (x y : Row) : Bool := cN x 0 == cN y 0
def runOf (x : Row) : Row := [.v (.int .i64 (cN x 0)), .v (.int .i64 0)]
noncomputable def tell (r w : Rows) : Rows := cmpt eqU (stab (upI 0) (r ++ w.map runOf))
theorem eqU_cls (x y : Row) : eqU x y = cls (upI 0) x y := (cls_upI 0 x y).symm
theorem fold_app : ∀ (w r : Rows), w.foldl (fun acc x => acc ++ [runOf x]) r = r ++ w.map runOf
  | [], r => by simp
  | x :: w, r => by simp [fold_app w]
theorem run_sh {x : Row} (h : ShL E (E 124) x) : ShL E (E 127) (runOf x) := by
  rw [E124] at h
  obtain ⟨na0, ra0, rfl, pa0, h_a0⟩ := inv_i h
  obtain ⟨na1, ra1, rfl, pa1, h_a1⟩ := inv_i h_a0
  obtain ⟨na2, ra2, rfl, pa2, h_a2⟩ := inv_i h_a1
  obtain ⟨sa3, ra3, rfl, pa3, h_a3⟩ := inv_s h_a2
  obtain ⟨na4, ra4, rfl, pa4, h_a4⟩ := inv_i h_a3
  obtain ⟨la5, ra5, rfl, pa5, h_a5⟩ := inv_sl W9 h_a4
  obtain ⟨la6, ra6, rfl, pa6, h_a6⟩ := inv_sl W122 h_a5
  cases inv_nil h_a6
  rw [E127]
  exact mk_i pa0 (mk_i (by decide) .nil)
theorem sl_all {r w : Rows} (hr : SL E 127 r) (hw : SL E 124 w) (hsz : r.length + w.length ≤ 2097152) : SL E 127 (r ++ w.map runOf) :=
  ⟨by simp [maxLen]; omega, ShR.of_mem fun x hx => by
    rcases List.mem_append.1 hx with h | h
    · exact hr.2.mem x h
    · obtain ⟨y, hy, rfl⟩ := List.mem_map.1 h
      exact run_sh (hw.2.mem y hy)⟩
theorem tell_mem {r w : Rows} {x : Row} (h : x ∈ tell r w) : x ∈ r ++ w.map runOf := by
  unfold tell at h
  have hm := @stab_mem _ (upI_swo 0) (r ++ w.map runOf) x
  cases hs : stab (upI 0) (r ++ w.map runOf) with
  | nil => rw [hs] at h; simp [cmpt] at h
  | cons p xs =>
    rw [hs] at h hm
    refine hm.1 ?_
    rcases List.mem_cons.1 h with e | e
    · simp [e]
    · simp [uniq_mem e]
theorem tell_len {r w : Rows} : (tell r w).length ≤ r.length + w.length := by
  have hl := @stab_len _ (upI_swo 0) (r ++ w.map runOf)
  unfold tell
  cases hs : stab (upI 0) (r ++ w.map runOf) with
  | nil => simp [cmpt]
  | cons p xs =>
    rw [hs] at hl
    have := uniq_len (eq := eqU) p xs
    simp [cmpt] at hl ⊢
    omega
theorem sl_tell {r w : Rows} (hr : SL E 127 r) (hw : SL E 124 w) (hsz : r.length + w.length ≤ 2097152) : SL E 127 (tell r w) :=
  ⟨by have := @tell_len r w; simp [maxLen]; omega, ShR.of_mem fun x hx => (sl_all hr hw hsz).2.mem x (tell_mem hx)⟩
theorem f134 (a : Int) : Ev fs 134 [.d (.v (.int .i64 a))] (bo false) := by
  refine Ev.of (af := a134) rfl rfl (Evt.congr (fun d n => a134q ..) ?_)
  exact Evt.ret' (by simp)
theorem f101 (a b : Int) : Ev fs 101 [.d (.v (.int .i64 a)), .d (.v (.int .i64 b))] (io (cmpI a b)) := by
  refine Ev.of (af := a101) rfl rfl (Evt.congr (fun d n => a101q ..) ?_)
  refine ev_call (f134 a) ?_
  simp -implicitDefEqProofs only [cI, cB, cS, cL, oD_d, oG_g, oT_t, oP_p, dI_v, dB_v, dS_v, dL_s, cell_z, cell_s, nth_z, nth_s, aV_z, aV_s, aI_v, aB_v, aS_v, aL_f, aO_o, aX_b, tst_t, cond_true, cond_false, Ex.same, Nat.beq, List.length_cons, List.length_nil, Int.toNat_natCast, beqTT, beqTF, beqFT, beqFF]
  refine ev_call (f134 b) ?_
  simp -implicitDefEqProofs only [cI, cB, cS, cL, oD_d, oG_g, oT_t, oP_p, dI_v, dB_v, dS_v, dL_s, cell_z, cell_s, nth_z, nth_s, aV_z, aV_s, aI_v, aB_v, aS_v, aL_f, aO_o, aX_b, tst_t, cond_true, cond_false, Ex.same, Nat.beq, List.length_cons, List.length_nil, Int.toNat_natCast, beqTT, beqTF, beqFT, beqFF]
  unfold cmpI
  refine ev_if (fun h => ?_) (fun h => ?_)
  · have h := of_decide_eq_true h
    exact Evt.ret' (by simp [h])
  · have h := of_decide_eq_false h
    refine ev_if (fun h' => ?_) (fun h' => ?_)
    · have h' := of_decide_eq_true h'
      exact Evt.ret' (by simp [h, h'])
    · have h' := of_decide_eq_false h'
      exact Evt.ret' (by simp [h, h'])
theorem f113 {x y : Row} (h : ShL E (E 127) x) (h' : ShL E (E 127) y) : ∃ c, Ev fs 113 [.g x, .g y] (io c) ∧ decide (c < 0) = upI 0 x y := by
  rw [E127] at h
  obtain ⟨na0, ra0, rfl, pa0, h_a0⟩ := inv_i h
  obtain ⟨na1, ra1, rfl, pa1, h_a1⟩ := inv_i h_a0
  cases inv_nil h_a1
  rw [E127] at h'
  obtain ⟨nc0, rc0, rfl, pc0, hq_c0⟩ := inv_i h'
  obtain ⟨nc1, rc1, rfl, pc1, hq_c1⟩ := inv_i hq_c0
  cases inv_nil hq_c1
  refine ⟨cmpI na0 nc0, ?_, ?_⟩
  · refine Ev.of (af := a113) rfl rfl (Evt.congr (fun d n => a113q ..) ?_)
    refine ev_call (f101 na0 nc0) ?_
    simp -implicitDefEqProofs only [cI, cB, cS, cL, oD_d, oG_g, oT_t, oP_p, dI_v, dB_v, dS_v, dL_s, cell_z, cell_s, nth_z, nth_s, aV_z, aV_s, aI_v, aB_v, aS_v, aL_f, aO_o, aX_b, tst_t, cond_true, cond_false, Ex.same, Nat.beq, List.length_cons, List.length_nil, Int.toNat_natCast, beqTT, beqTF, beqFT, beqFF]
    exact Evt.ret
  · show decide (cmpI na0 nc0 < 0) = decide (na0 < nc0)
    unfold cmpI
    by_cases h1 : na0 < nc0
    · simp [h1]
    · by_cases h2 : na0 > nc0 <;> simp [h1, h2]
theorem f115 {x y : Row} (h : ShL E (E 127) x) (h' : ShL E (E 127) y) : Ev fs 115 [.g x, .g y] (bo (eqU x y)) := by
  rw [E127] at h
  obtain ⟨na0, ra0, rfl, pa0, h_a0⟩ := inv_i h
  obtain ⟨na1, ra1, rfl, pa1, h_a1⟩ := inv_i h_a0
  cases inv_nil h_a1
  rw [E127] at h'
  obtain ⟨nc0, rc0, rfl, pc0, hq_c0⟩ := inv_i h'
  obtain ⟨nc1, rc1, rfl, pc1, hq_c1⟩ := inv_i hq_c0
  cases inv_nil hq_c1
  exact Ev.of (af := a115) rfl rfl (Evt.congr (fun d n => a115q ..) Evt.ret)
theorem sorts {l : Rows} (hl : SL E 127 l) (hsz : l.length ≤ 1073741824) : Ev fs 112 [.d (.s 2 l), .f 113 []] (lentO 2 (stab (upI 0) l)) := by
  obtain ⟨W, w1, w2⟩ := sort_ok sf (upI_swo 0) (f := 113) (cs := []) (fun x y hx hy => f113 hx hy) hl hsz
  rw [stab_of (upI_swo 0) w1] at w2
  exact w2
theorem f67 {row : Row} (h : ShL E (E 33) row) {w r : Rows} (hw : row[3]? = some (.s 7 w)) (hr : row[4]? = some (.s 2 r)) (hwl : w.length ≤ 1048576) (hrl : r.length ≤ 1048576) : Ev fs 67 [.g row] ⟨.d (.s 2 (tell r w)), []⟩ := by
  rw [E33] at h
  obtain ⟨sa0, ra0, rfl, pa0, h_a0⟩ := inv_s h
  obtain ⟨na1, ra1, rfl, pa1, h_a1⟩ := inv_i h_a0
  obtain ⟨na2, ra2, rfl, pa2, h_a2⟩ := inv_i h_a1
  obtain ⟨la3, ra3, rfl, pa3, h_a3⟩ := inv_sl W124 h_a2
  obtain ⟨la4, ra4, rfl, pa4, h_a4⟩ := inv_sl W127 h_a3
  cases inv_nil h_a4
  have e3 : la3 = w := by simpa using hw
  have e4 : la4 = r := by simpa using hr
  subst e3 e4
  refine Ev.of (af := a67) rfl rfl (Evt.congr (fun d n => a67q ..) ?_)
  refine ev_call (f89 pa4 (by omega)) ?_
  simp -implicitDefEqProofs only [cI, cB, cS, cL, oD_d, oG_g, oT_t, oP_p, dI_v, dB_v, dS_v, dL_s, cell_z, cell_s, nth_z, nth_s, aV_z, aV_s, aI_v, aB_v, aS_v, aL_f, aO_o, aX_b, tst_t, cond_true, cond_false, Ex.same, Nat.beq, List.length_cons, List.length_nil, Int.toNat_natCast, beqTT, beqTF, beqFT, beqFF]
  have hall := sl_all pa4 pa3 (by omega)
  refine ev_aft (L := fun d n => l67x0 (TabD fs d) d n [.o 2 la4, .fz 7 la3, .v (.int .i64 (la3.length : Int)), .v (.int .i64 0)]) (y := (.exit 0, [.o 2 (la4 ++ la3.map runOf)])) ?_ ?_
  · rw [← fold_app la3 la4]
    refine (fold_loop (L := fun d n acc i => l67x0 (TabD fs d) d n [.o 2 acc, .fz 7 la3, .v (.int .i64 (la3.length : Int)), .v (.int .i64 i)]) (a := la3) (f := fun acc x => acc ++ [runOf x]) (acc := la4) (Y := fun acc => (.exit 0, [.o 2 acc])) (fun i acc => acc.length ≤ la4.length + i) (fun d n acc => ?_) (fun i x acc res hi hx hI k => ?_) (fun i x acc hi hx hI => by simp; omega) (by simp)).1
    · rw [l67x0s]
      simp -implicitDefEqProofs only [cI, cB, cS, cL, oD_d, oG_g, oT_t, oP_p, dI_v, dB_v, dS_v, dL_s, cell_z, cell_s, nth_z, nth_s, aV_z, aV_s, aI_v, aB_v, aS_v, aL_f, aO_o, aX_b, tst_t, cond_true, cond_false, Ex.same, Nat.beq, List.length_cons, List.length_nil, Int.toNat_natCast, beqTT, beqTF, beqFT, beqFF, Int.lt_irrefl, decide_false]
    · have g := pa3.at hx
      rw [E124] at g
      obtain ⟨nx0, rx0, rfl, px0, g_x0⟩ := inv_i g
      obtain ⟨nx1, rx1, rfl, px1, g_x1⟩ := inv_i g_x0
      obtain ⟨nx2, rx2, rfl, px2, g_x2⟩ := inv_i g_x1
      obtain ⟨sx3, rx3, rfl, px3, g_x3⟩ := inv_s g_x2
      obtain ⟨nx4, rx4, rfl, px4, g_x4⟩ := inv_i g_x3
      obtain ⟨lx5, rx5, rfl, px5, g_x5⟩ := inv_sl W9 g_x4
      obtain ⟨lx6, rx6, rfl, px6, g_x6⟩ := inv_sl W122 g_x5
      cases inv_nil g_x6
      have hb : decide ((acc.length + (0 + 1)) * 16 ≤ maxBytes) = true := decide_eq_true (by simp only [maxBytes]; omega)
      simp only [l67x0s]
      simp -implicitDefEqProofs only [cI, cB, cS, cL, oD_d, oG_g, oT_t, oP_p, dI_v, dB_v, dS_v, dL_s, cell_z, cell_s, nth_z, nth_s, aV_z, aV_s, aI_v, aB_v, aS_v, aL_f, aO_o, aX_b, tst_t, cond_true, cond_false, Ex.same, Nat.beq, List.length_cons, List.length_nil, Int.toNat_natCast, beqTT, beqTF, beqFT, beqFF, hb, decide_eq_true (Int.ofNat_lt.2 hi), dec_nn, look_at hx, wrap_succ hi pa3.le]
      exact k
  · simp -implicitDefEqProofs only [cI, cB, cS, cL, oD_d, oG_g, oT_t, oP_p, dI_v, dB_v, dS_v, dL_s, cell_z, cell_s, nth_z, nth_s, aV_z, aV_s, aI_v, aB_v, aS_v, aL_f, aO_o, aX_b, tst_t, cond_true, cond_false, Ex.same, Nat.beq, List.length_cons, List.length_nil, Int.toNat_natCast, beqTT, beqTF, beqFT, beqFF]
    refine ev_call (sorts hall (by simp; omega)) ?_
    simp -implicitDefEqProofs only [cI, cB, cS, cL, oD_d, oG_g, oT_t, oP_p, dI_v, dB_v, dS_v, dL_s, cell_z, cell_s, nth_z, nth_s, aV_z, aV_s, aI_v, aB_v, aS_v, aL_f, aO_o, aX_b, tst_t, cond_true, cond_false, Ex.same, Nat.beq, List.length_cons, List.length_nil, Int.toNat_natCast, beqTT, beqTF, beqFT, beqFF, lentO]
    refine ev_call (cmpt_ok cf (f := 115) (cs := []) (eq := eqU) (fun x y hx hy => f115 hx hy) (l := stab (upI 0) (la4 ++ la3.map runOf)) (hall.perm (stab_len (upI_swo 0)) fun x hx => (stab_mem (upI_swo 0)).1 hx) (by rw [stab_len (upI_swo 0)]; simp; omega)) ?_
    simp -implicitDefEqProofs only [cI, cB, cS, cL, oD_d, oG_g, oT_t, oP_p, dI_v, dB_v, dS_v, dL_s, cell_z, cell_s, nth_z, nth_s, aV_z, aV_s, aI_v, aB_v, aS_v, aL_f, aO_o, aX_b, tst_t, cond_true, cond_false, Ex.same, Nat.beq, List.length_cons, List.length_nil, Int.toNat_natCast, beqTT, beqTF, beqFT, beqFF]
    exact Evt.ret
theorem f107 {l : Rows} (hl : SL E 127 l) (u : Int) : ∃ v, Ev fs 107 [.d (.s 2 l), .d (.v (.int .i64 u))] ⟨.t [.d (.v (.int .i64 v)), .d (.v (.bool (l.any fun y => cN y 0 == u)))], []⟩ := by
  have find := find_loop (L := fun d n i => l107x0 (TabD fs d) d n [.fz 2 l, .v (.int .i64 u), .v (.int .i64 i)]) (n := l.length) (p := fun i => cN (l[i]?.getD []) 0 == u) (g := fun i => (.ret, [.v (.int .i64 (cN (l[i]?.getD []) 1)), .v (.bool true)])) (y := (.exit 0, [])) (fun d m => by
      rw [l107x0s]
      simp -implicitDefEqProofs only [cI, cB, cS, cL, oD_d, oG_g, oT_t, oP_p, dI_v, dB_v, dS_v, dL_s, cell_z, cell_s, nth_z, nth_s, aV_z, aV_s, aI_v, aB_v, aS_v, aL_f, aO_o, aX_b, tst_t, cond_true, cond_false, Ex.same, Nat.beq, List.length_cons, List.length_nil, Int.toNat_natCast, beqTT, beqTF, beqFT, beqFF, Int.lt_irrefl, decide_false]) (fun i hi => by
      have hx := List.getElem?_eq_getElem hi
      generalize l[i] = x at hx
      have k := hl.at hx
      rw [E127] at k
      obtain ⟨nx0, rx0, rfl, px0, k_x0⟩ := inv_i k
      obtain ⟨nx1, rx1, rfl, px1, k_x1⟩ := inv_i k_x0
      cases inv_nil k_x1
      simp only [l107x0s, hx, Option.getD_some, cN, List.getElem?_cons_zero, List.getElem?_cons_succ]
      simp -implicitDefEqProofs only [cI, cB, cS, cL, oD_d, oG_g, oT_t, oP_p, dI_v, dB_v, dS_v, dL_s, cell_z, cell_s, nth_z, nth_s, aV_z, aV_s, aI_v, aB_v, aS_v, aL_f, aO_o, aX_b, tst_t, cond_true, cond_false, Ex.same, Nat.beq, List.length_cons, List.length_nil, Int.toNat_natCast, beqTT, beqTF, beqFT, beqFF, decide_eq_true (Int.ofNat_lt.2 hi), dec_nn, look_at hx, wrap_succ hi hl.1]
      intro res k1 k2
      refine ev_if (fun hc => ?_) (fun hc => ?_)
      · rw [hc] at k2
        exact Evt.ret' (k2 rfl)
      · rw [hc] at k1
        exact k1 rfl)
  cases hq : findN l.length (fun i => cN (l[i]?.getD []) 0 == u) with
  | none =>
    rw [hq] at find
    have ha : (l.any fun y => cN y 0 == u) = false := List.any_eq_false.2 fun y hy => by
      obtain ⟨i, hi, rfl⟩ := List.getElem_of_mem hy
      have := findN_none.1 hq i hi
      simpa [hi] using this
    refine ⟨0, Ev.of (af := a107) rfl rfl (Evt.congr (fun d n => a107q ..) ?_)⟩
    rw [ha]
    refine ev_aft (L := fun d n => l107x0 (TabD fs d) d n [.fz 2 l, .v (.int .i64 u), .v (.int .i64 0)]) find ?_
    simp -implicitDefEqProofs only [cI, cB, cS, cL, oD_d, oG_g, oT_t, oP_p, dI_v, dB_v, dS_v, dL_s, cell_z, cell_s, nth_z, nth_s, aV_z, aV_s, aI_v, aB_v, aS_v, aL_f, aO_o, aX_b, tst_t, cond_true, cond_false, Ex.same, Nat.beq, List.length_cons, List.length_nil, Int.toNat_natCast, beqTT, beqTF, beqFT, beqFF]
    exact Evt.ret
  | some i =>
    rw [hq] at find
    obtain ⟨hi, hp, _⟩ := findN_some.1 hq
    have ha : (l.any fun y => cN y 0 == u) = true := List.any_eq_true.2 ⟨l[i], List.getElem_mem hi, by simpa [hi] using hp⟩
    refine ⟨cN (l[i]?.getD []) 1, Ev.of (af := a107) rfl rfl (Evt.congr (fun d n => a107q ..) ?_)⟩
    rw [ha]
    refine ev_aft (L := fun d n => l107x0 (TabD fs d) d n [.fz 2 l, .v (.int .i64 u), .v (.int .i64 0)]) find ?_
    simp -implicitDefEqProofs only [cI, cB, cS, cL, oD_d, oG_g, oT_t, oP_p, dI_v, dB_v, dS_v, dL_s, cell_z, cell_s, nth_z, nth_s, aV_z, aV_s, aI_v, aB_v, aS_v, aL_f, aO_o, aX_b, tst_t, cond_true, cond_false, Ex.same, Nat.beq, List.length_cons, List.length_nil, Int.toNat_natCast, beqTT, beqTF, beqFT, beqFF]
    exact Evt.ret
theorem shift {i s c : Int} {al : Rows} : ∀ (k : Nat) (S1 S2 : Rows) (gr : Row), S1.length = k → SL E 127 (S1 ++ gr :: S2) → (S1 ++ gr :: S2).length ≤ 1073741824 → Srt (upI 0) (S1 ++ S2) → (∀ y ∈ S2, upI 0 [.v (.int .i64 s), .v (.int .i64 c)] y = true) →
    ∃ (T1 T2 : Rows) (gr' : Row), SP (upI 0) (S1 ++ S2 ++ [[.v (.int .i64 s), .v (.int .i64 c)]]) (T1 ++ [.v (.int .i64 s), .v (.int .i64 c)] :: T2) ∧ gr'.length = 2 ∧
      Evt (fun d n => l65x2 (TabD fs d) d n [.o 2 (S1 ++ gr :: S2), .o 2 al, .v (.int .i64 i), .v (.int .i64 (S1.length : Nat)), .b [.v (.int .i64 s), .v (.int .i64 c)]]) (.exit 4, [.o 2 (T1 ++ gr' :: T2), .o 2 al, .v (.int .i64 i), .v (.int .i64 (T1.length : Nat)), .b [.v (.int .i64 s), .v (.int .i64 c)]]) := by
  intro k
  induction k with
  | zero =>
    intro S1 S2 gr h0 hs hsz h1 h2
    have : S1 = [] := List.length_eq_zero_iff.1 h0
    subst this
    have hx := hs.at (i := 0) (x := gr) (by simp)
    have hgl : gr.length = 2 := by
      rw [E127] at hx
      obtain ⟨nx0, rx0, rfl, px0, hx_x0⟩ := inv_i hx
      obtain ⟨nx1, rx1, rfl, px1, hx_x1⟩ := inv_i hx_x0
      cases inv_nil hx_x1
      rfl
    refine ⟨[], S2, gr, srt_ins (upI_swo 0) (s1 := []) h1 (.inl rfl) h2, hgl, ev_succ ⟨0, fun d n _ _ => ?_⟩⟩
    simp only [l65x2s]
    simp only [List.length_nil, Int.natCast_zero, show decide ((0 : Int) > 0) = false from rfl, beqFT, cond_false, List.nil_append]
  | succ k ih =>
    intro S1 S2 gr h0 hs hsz h1 h2
    obtain ⟨T, y, rfl⟩ : ∃ T y, S1 = T ++ [y] := by
      rcases List.eq_nil_or_concat S1 with e | ⟨T, y, e⟩
      · subst e; simp at h0
      · exact ⟨T, y, by simpa using e⟩
    simp only [List.length_append, List.length_cons, List.length_nil] at h0 hsz
    have hgr : (T ++ [y] ++ gr :: S2)[T.length + 1]? = some gr := getMid (by simp)
    have hy0 : (T ++ [y] ++ gr :: S2)[T.length]? = some y := by
      have : T ++ [y] ++ gr :: S2 = T ++ y :: (gr :: S2) := by simp
      rw [this]; exact getMid rfl
    have hgx := hs.at hgr
    have hgl : gr.length = 2 := by
      rw [E127] at hgx
      obtain ⟨nx0, rx0, rfl, px0, hgx_x0⟩ := inv_i hgx
      obtain ⟨nx1, rx1, rfl, px1, hgx_x1⟩ := inv_i hgx_x0
      cases inv_nil hgx_x1
      rfl
    have hset : (T ++ [y] ++ gr :: S2).set (T.length + 1) y = T ++ y :: (y :: S2) := by
      rw [setMid (by simp)]; simp
    have e1 : T ++ (y :: S2) = T ++ [y] ++ S2 := by simp
    have hsl : SL E 127 (T ++ y :: (y :: S2)) := hs.perm (by simp) fun z hz => by simp at hz ⊢; grind
    have hy := hs.at hy0
    rw [E127] at hy
    obtain ⟨ny0, ry0, rfl, py0, hy_y0⟩ := inv_i hy
    obtain ⟨ny1, ry1, rfl, py1, hy_y1⟩ := inv_i hy_y0
    cases inv_nil hy_y1
    have w1 : IntKind.i64.wrap (((T.length + 1 : Nat) : Int) - 1) = ((T.length : Nat) : Int) := (wi_fit (by omega) (by omega)).trans (by omega)
    have hpos : decide (((T.length + 1 : Nat) : Int) > 0) = true := decide_eq_true (by omega)
    have hlen : (T ++ [([.v (.int .i64 ny0), .v (.int .i64 ny1)] : Row)]).length = T.length + 1 := by simp
    have e2 := setD_two (l := T ++ [([.v (.int .i64 ny0), .v (.int .i64 ny1)] : Row)] ++ gr :: S2) (q := T.length + 1) (c := .v (.int .i64 ny0)) (d := .v (.int .i64 ny1)) ⟨_, hgr, hgl⟩
    rw [hlen]
    cases hlx : upI 0 [.v (.int .i64 s), .v (.int .i64 c)] [.v (.int .i64 ny0), .v (.int .i64 ny1)] with
    | true =>
      obtain ⟨T1, T2, gr', q1, q2, q3⟩ := ih T ([.v (.int .i64 ny0), .v (.int .i64 ny1)] :: S2) [.v (.int .i64 ny0), .v (.int .i64 ny1)] (by omega) hsl (by simp; omega) (by rw [e1]; exact h1) (fun z hz => by
        rcases List.mem_cons.1 hz with e | e
        · rw [e]; exact hlx
        · exact h2 z e)
      refine ⟨T1, T2, gr', by rw [e1] at q1; exact q1, q2, ev_succ ?_⟩
      have hb : decide (ny0 > s) = true := hlx
      simp only [l65x2s]
      simp -implicitDefEqProofs only [cI, cB, cS, cL, oD_d, oG_g, oT_t, oP_p, dI_v, dB_v, dS_v, dL_s, cell_z, cell_s, nth_z, nth_s, aV_z, aV_s, aI_v, aB_v, aS_v, aL_f, aO_o, aX_b, tst_t, cond_true, cond_false, Ex.same, Nat.beq, List.length_cons, List.length_nil, Int.toNat_natCast, beqTT, beqTF, beqFT, beqFF, hpos, w1, dec_nn, lt_of_at hy0, lt_of_at hgr, look_at hy0, Bool.and_self, hb, e2, hset]
      exact q3
    | false =>
      refine ⟨T ++ [[.v (.int .i64 ny0), .v (.int .i64 ny1)]], S2, gr, srt_ins (upI_swo 0) h1 (.inr ⟨T, _, rfl, hlx⟩) h2, hgl, ev_succ ?_⟩
      have hb : decide (ny0 > s) = false := hlx
      simp only [l65x2s]
      simp -implicitDefEqProofs only [cI, cB, cS, cL, oD_d, oG_g, oT_t, oP_p, dI_v, dB_v, dS_v, dL_s, cell_z, cell_s, nth_z, nth_s, aV_z, aV_s, aI_v, aB_v, aS_v, aL_f, aO_o, aX_b, tst_t, cond_true, cond_false, Ex.same, Nat.beq, List.length_cons, List.length_nil, Int.toNat_natCast, beqTT, beqTF, beqFT, beqFF, hpos, w1, dec_nn, lt_of_at hy0, look_at hy0, Bool.and_self, hb, hlen]
      exact Evt.ret
theorem f65 {row : Row} (h : ShL E (E 33) row) {w r : Rows} (hw : row[3]? = some (.s 7 w)) (hr : row[4]? = some (.s 2 r)) (hwl : w.length ≤ 1048576) (hrl : r.length ≤ 1048576) : Ev fs 65 [.g row] ⟨.d (.s 2 (tell r w)), []⟩ := by
  rw [E33] at h
  obtain ⟨sa0, ra0, rfl, pa0, h_a0⟩ := inv_s h
  obtain ⟨na1, ra1, rfl, pa1, h_a1⟩ := inv_i h_a0
  obtain ⟨na2, ra2, rfl, pa2, h_a2⟩ := inv_i h_a1
  obtain ⟨la3, ra3, rfl, pa3, h_a3⟩ := inv_sl W124 h_a2
  obtain ⟨la4, ra4, rfl, pa4, h_a4⟩ := inv_sl W127 h_a3
  cases inv_nil h_a4
  have e3 : la3 = w := by simpa using hw
  have e4 : la4 = r := by simpa using hr
  subst e3 e4
  have hall := sl_all pa4 pa3 (by omega)
  have hal : (la4 ++ la3.map runOf).length ≤ 2097152 := by simp; omega
  have hf : flatRows la4 = true := List.all_eq_true.2 fun x hx => by
    have h := pa4.2.mem x hx
    rw [E127] at h
    obtain ⟨nx0, rx0, rfl, px0, h_x0⟩ := inv_i h
    obtain ⟨nx1, rx1, rfl, px1, h_x1⟩ := inv_i h_x0
    cases inv_nil h_x1
    rfl
  have hb0 : decide ((0 + la4.length) * 16 ≤ maxBytes) = true := decide_eq_true (by simp only [maxBytes]; omega)
  refine Ev.of (af := a65) rfl rfl (Evt.congr (fun d n => a65q ..) ?_)
  simp -implicitDefEqProofs only [cI, cB, cS, cL, oD_d, oG_g, oT_t, oP_p, dI_v, dB_v, dS_v, dL_s, cell_z, cell_s, nth_z, nth_s, aV_z, aV_s, aI_v, aB_v, aS_v, aL_f, aO_o, aX_b, tst_t, cond_true, cond_false, Ex.same, Nat.beq, List.length_cons, List.length_nil, Int.toNat_natCast, beqTT, beqTF, beqFT, beqFF, hf, hb0, List.nil_append]
  refine ev_aft (L := fun d n => l65x0 (TabD fs d) d n [.b [.v (.string sa0), .v (.int .i64 na1), .v (.int .i64 na2), .fz 7 la3, .fz 2 la4], .o 2 [], .o 2 la4, .v (.int .i64 0)]) (y := (.exit 0, [.o 2 [], .o 2 (la4 ++ la3.map runOf)])) ?_ ?_
  · rw [← fold_app la3 la4]
    refine (fold_loop (L := fun d n acc i => l65x0 (TabD fs d) d n [.b [.v (.string sa0), .v (.int .i64 na1), .v (.int .i64 na2), .fz 7 la3, .fz 2 la4], .o 2 [], .o 2 acc, .v (.int .i64 i)]) (a := la3) (f := fun acc x => acc ++ [runOf x]) (acc := la4) (Y := fun acc => (.exit 0, [.o 2 [], .o 2 acc])) (fun i acc => acc.length ≤ la4.length + i) (fun d n acc => ?_) (fun i x acc res hi hx hI k => ?_) (fun i x acc hi hx hI => by simp; omega) (by simp)).1
    · rw [l65x0s]
      simp -implicitDefEqProofs only [cI, cB, cS, cL, oD_d, oG_g, oT_t, oP_p, dI_v, dB_v, dS_v, dL_s, cell_z, cell_s, nth_z, nth_s, aV_z, aV_s, aI_v, aB_v, aS_v, aL_f, aO_o, aX_b, tst_t, cond_true, cond_false, Ex.same, Nat.beq, List.length_cons, List.length_nil, Int.toNat_natCast, beqTT, beqTF, beqFT, beqFF, Int.lt_irrefl, decide_false]
    · have g := pa3.at hx
      rw [E124] at g
      obtain ⟨nx0, rx0, rfl, px0, g_x0⟩ := inv_i g
      obtain ⟨nx1, rx1, rfl, px1, g_x1⟩ := inv_i g_x0
      obtain ⟨nx2, rx2, rfl, px2, g_x2⟩ := inv_i g_x1
      obtain ⟨sx3, rx3, rfl, px3, g_x3⟩ := inv_s g_x2
      obtain ⟨nx4, rx4, rfl, px4, g_x4⟩ := inv_i g_x3
      obtain ⟨lx5, rx5, rfl, px5, g_x5⟩ := inv_sl W9 g_x4
      obtain ⟨lx6, rx6, rfl, px6, g_x6⟩ := inv_sl W122 g_x5
      cases inv_nil g_x6
      have hb : decide ((acc.length + (0 + 1)) * 16 ≤ maxBytes) = true := decide_eq_true (by simp only [maxBytes]; omega)
      simp only [l65x0s]
      simp -implicitDefEqProofs only [cI, cB, cS, cL, oD_d, oG_g, oT_t, oP_p, dI_v, dB_v, dS_v, dL_s, cell_z, cell_s, nth_z, nth_s, aV_z, aV_s, aI_v, aB_v, aS_v, aL_f, aO_o, aX_b, tst_t, cond_true, cond_false, Ex.same, Nat.beq, List.length_cons, List.length_nil, Int.toNat_natCast, beqTT, beqTF, beqFT, beqFF, hb, decide_eq_true (Int.ofNat_lt.2 hi), dec_nn, look_at hx, wrap_succ hi pa3.le]
      exact k
  · simp -implicitDefEqProofs only [cI, cB, cS, cL, oD_d, oG_g, oT_t, oP_p, dI_v, dB_v, dS_v, dL_s, cell_z, cell_s, nth_z, nth_s, aV_z, aV_s, aI_v, aB_v, aS_v, aL_f, aO_o, aX_b, tst_t, cond_true, cond_false, Ex.same, Nat.beq, List.length_cons, List.length_nil, Int.toNat_natCast, beqTT, beqTF, beqFT, beqFF]
    generalize hgal : la4 ++ la3.map runOf = al at hall hal
    have et : tell la4 la3 = al.foldl (fun r x => bif r.any (cls (upI 0) x) then r else stab (upI 0) (r ++ [x])) [] := by
      rw [fst_both (upI_swo 0) eqU_cls]
      unfold tell
      rw [hgal]
    rw [et]
    refine ev_aft (L := fun d n => l65x1 (TabD fs d) d n [.o 2 [], .o 2 al, .v (.int .i64 0)]) (fold_loop (L := fun d n acc i => l65x1 (TabD fs d) d n [.o 2 acc, .o 2 al, .v (.int .i64 i)]) (a := al) (f := fun r x => bif r.any (cls (upI 0) x) then r else stab (upI 0) (r ++ [x])) (acc := []) (Y := fun acc => (.exit 2, [.o 2 acc])) (fun i acc => Srt (upI 0) acc ∧ acc.length ≤ i ∧ ∀ x ∈ acc, ShL E (E 127) x) (fun d n acc => ?_) (fun i x acc res hi hx hI k => ?_) (fun i x acc hi hx hI => ?_) ⟨srt_nil, by simp, by simp⟩).1 ?_
    · rw [l65x1s]
      simp -implicitDefEqProofs only [cI, cB, cS, cL, oD_d, oG_g, oT_t, oP_p, dI_v, dB_v, dS_v, dL_s, cell_z, cell_s, nth_z, nth_s, aV_z, aV_s, aI_v, aB_v, aS_v, aL_f, aO_o, aX_b, tst_t, cond_true, cond_false, Ex.same, Nat.beq, List.length_cons, List.length_nil, Int.toNat_natCast, beqTT, beqTF, beqFT, beqFF, Int.lt_irrefl, decide_false]
    · obtain ⟨i1, i2, i3⟩ := hI
      have hxs := hall.at hx
      have hacc : SL E 127 acc := ⟨by simp [maxLen]; omega, ShR.of_mem i3⟩
      have hsl : SL E 127 (acc ++ x :: []) := ⟨by simp [maxLen]; omega, ShR.of_mem fun z hz => by
        rcases List.mem_append.1 hz with e | e
        · exact i3 z e
        · simp at e; subst e; exact hxs⟩
      rw [E127] at hxs
      obtain ⟨nx0, rx0, rfl, px0, hxs_x0⟩ := inv_i hxs
      obtain ⟨nx1, rx1, rfl, px1, hxs_x1⟩ := inv_i hxs_x0
      cases inv_nil hxs_x1
      have hany : acc.any (cls (upI 0) [.v (.int .i64 nx0), .v (.int .i64 nx1)]) = acc.any fun y => cN y 0 == nx0 := by
        congr 1
        funext y
        rw [cls_upI]
        show (nx0 == cN y 0) = (cN y 0 == nx0)
        exact Bool.beq_comm ..
      obtain ⟨v, hv⟩ := f107 hacc nx0
      have hb : decide ((acc.length + (0 + 1)) * 16 ≤ maxBytes) = true := decide_eq_true (by simp only [maxBytes]; omega)
      obtain ⟨T1, T2, gr', q1, q2, q3⟩ := shift (i := (i : Int)) (s := nx0) (c := nx1) (al := al) acc.length acc [] [.v (.int .i64 nx0), .v (.int .i64 nx1)] rfl hsl (by simp; omega) (by simpa using i1) (by simp)
      have q4 : T1 ++ [.v (.int .i64 nx0), .v (.int .i64 nx1)] :: T2 = stab (upI 0) (acc ++ [[.v (.int .i64 nx0), .v (.int .i64 nx1)]]) := stab_of (upI_swo 0) (by simpa using q1)
      have hgr : (T1 ++ gr' :: T2)[T1.length]? = some gr' := getMid rfl
      have e2 := setD_two (l := T1 ++ gr' :: T2) (q := T1.length) (c := .v (.int .i64 nx0)) (d := .v (.int .i64 nx1)) ⟨_, hgr, q2⟩
      rw [setMid rfl, q4] at e2
      simp only [hany] at k
      simp only [l65x1s]
      simp -implicitDefEqProofs only [cI, cB, cS, cL, oD_d, oG_g, oT_t, oP_p, dI_v, dB_v, dS_v, dL_s, cell_z, cell_s, nth_z, nth_s, aV_z, aV_s, aI_v, aB_v, aS_v, aL_f, aO_o, aX_b, tst_t, cond_true, cond_false, Ex.same, Nat.beq, List.length_cons, List.length_nil, Int.toNat_natCast, beqTT, beqTF, beqFT, beqFF, decide_eq_true (Int.ofNat_lt.2 hi), dec_nn, lt_of_at hx, look_at hx, Bool.and_self, wrap_succ hi hall.le]
      refine ev_call hv ?_
      simp -implicitDefEqProofs only [cI, cB, cS, cL, oD_d, oG_g, oT_t, oP_p, dI_v, dB_v, dS_v, dL_s, cell_z, cell_s, nth_z, nth_s, aV_z, aV_s, aI_v, aB_v, aS_v, aL_f, aO_o, aX_b, tst_t, cond_true, cond_false, Ex.same, Nat.beq, List.length_cons, List.length_nil, Int.toNat_natCast, beqTT, beqTF, beqFT, beqFF, hb]
      refine ev_if (fun hc => ?_) (fun hc => ?_)
      · rw [hc] at k
        exact k
      · rw [hc] at k
        refine ev_aft q3 ?_
        simp -implicitDefEqProofs only [cI, cB, cS, cL, oD_d, oG_g, oT_t, oP_p, dI_v, dB_v, dS_v, dL_s, cell_z, cell_s, nth_z, nth_s, aV_z, aV_s, aI_v, aB_v, aS_v, aL_f, aO_o, aX_b, tst_t, cond_true, cond_false, Ex.same, Nat.beq, List.length_cons, List.length_nil, Int.toNat_natCast, beqTT, beqTF, beqFT, beqFF, dec_nn, lt_of_at hgr, Bool.and_self, e2, wrap_succ hi hall.le]
        exact k
    · obtain ⟨i1, i2, i3⟩ := hI
      cases hc : acc.any (cls (upI 0) x) with
      | true => exact ⟨i1, by simp only [cond_true]; omega, i3⟩
      | false =>
        simp only [cond_false]
        refine ⟨(stab_sp (upI_swo 0) _).1, by rw [stab_len (upI_swo 0)]; simp; omega, fun z hz => ?_⟩
        rcases List.mem_append.1 ((stab_mem (upI_swo 0)).1 hz) with e | e
        · exact i3 z e
        · simp at e; subst e; exact hall.at hx
    · simp -implicitDefEqProofs only [cI, cB, cS, cL, oD_d, oG_g, oT_t, oP_p, dI_v, dB_v, dS_v, dL_s, cell_z, cell_s, nth_z, nth_s, aV_z, aV_s, aI_v, aB_v, aS_v, aL_f, aO_o, aX_b, tst_t, cond_true, cond_false, Ex.same, Nat.beq, List.length_cons, List.length_nil, Int.toNat_natCast, beqTT, beqTF, beqFT, beqFF]
      exact Evt.ret
theorem wt_runs : ∀ {l : Rows}, (∀ x ∈ l, ShL E (E 127) x) → wtRows l = 0
  | [], _ => by simp [wtRows]
  | x :: l, h => by
    have h1 := h x (by simp)
    have h2 := wt_runs (l := l) fun y hy => h y (by simp [hy])
    rw [E127] at h1
    obtain ⟨na0, ra0, rfl, pa0, h1_a0⟩ := inv_i h1
    obtain ⟨na1, ra1, rfl, pa1, h1_a1⟩ := inv_i h1_a0
    cases inv_nil h1_a1
    simp only [wtRows, wtRow, wtD, h2]
theorem both {sa0 : ByteArray} {na1 : Int} {na2 : Int} {la3 : Rows} {la4 : Rows} (h : ShL E (E 33) [.v (.string sa0), .v (.int .i64 na1), .v (.int .i64 na2), .s 7 la3, .s 2 la4]) (hw : wtRow ([.v (.string sa0), .v (.int .i64 na1), .v (.int .i64 na2), .s 7 la3, .s 2 la4] : Row) ≤ 1048576) :
    ∃ (o0 : Int) (o1 : ByteArray) (o2 : Int) (o4 : Rows), ShL E (E 38) [.v (.int .i64 o0), .v (.string o1), .v (.int .i64 o2), .s 7 [], .s 2 o4] ∧ wtRow ([.v (.int .i64 o0), .v (.string o1), .v (.int .i64 o2), .s 7 [], .s 2 o4] : Row) ≤ 3145728 ∧ Ev fs 23 [.g [.v (.string sa0), .v (.int .i64 na1), .v (.int .i64 na2), .s 7 la3, .s 2 la4]] ⟨.g [.v (.int .i64 o0), .v (.string o1), .v (.int .i64 o2), .s 7 [], .s 2 o4], []⟩ ∧ Ev fs 24 [.g [.v (.string sa0), .v (.int .i64 na1), .v (.int .i64 na2), .s 7 la3, .s 2 la4]] ⟨.g [.v (.int .i64 o0), .v (.string o1), .v (.int .i64 o2), .s 7 [], .s 2 o4], []⟩ := by
  have h0 := h
  have w0 := hw
  simp only [wtRow, wtD] at w0
  rw [E33] at h0
  obtain ⟨_, _, ea0, pa0, h0_a0⟩ := inv_s h0
  cases ea0
  obtain ⟨_, _, ea1, pa1, h0_a1⟩ := inv_i h0_a0
  cases ea1
  obtain ⟨_, _, ea2, pa2, h0_a2⟩ := inv_i h0_a1
  cases ea2
  obtain ⟨_, _, ea3, pa3, h0_a3⟩ := inv_sl W124 h0_a2
  cases ea3
  obtain ⟨_, _, ea4, pa4, h0_a4⟩ := inv_sl W127 h0_a3
  cases ea4
  cases hb : isleOk [.v (.string sa0), .v (.int .i64 na1), .v (.int .i64 na2), .s 7 la3, .s 2 la4] with
  | false =>
    refine ⟨0, ByteArray.empty, 0, [], ?_, by decide, ?_, ?_⟩
    · rw [E38]
      exact mk_i (by decide) (mk_s (by decide) (mk_i (by decide) (mk_sl W124 ⟨by decide, .nil⟩ (mk_sl W127 ⟨by decide, .nil⟩ .nil))))
    · refine Ev.of (af := a23) rfl rfl (Evt.congr (fun d n => a23q ..) ?_)
      refine ev_call (f64 h) ?_
      simp -implicitDefEqProofs only [cI, cB, cS, cL, oD_d, oG_g, oT_t, oP_p, dI_v, dB_v, dS_v, dL_s, cell_z, cell_s, nth_z, nth_s, aV_z, aV_s, aI_v, aB_v, aS_v, aL_f, aO_o, aX_b, tst_t, cond_true, cond_false, Ex.same, Nat.beq, List.length_cons, List.length_nil, Int.toNat_natCast, beqTT, beqTF, beqFT, beqFF, hb, Bool.not_false]
      exact Evt.ret
    · refine Ev.of (af := a24) rfl rfl (Evt.congr (fun d n => a24q ..) ?_)
      refine ev_call (f66 h) ?_
      simp -implicitDefEqProofs only [cI, cB, cS, cL, oD_d, oG_g, oT_t, oP_p, dI_v, dB_v, dS_v, dL_s, cell_z, cell_s, nth_z, nth_s, aV_z, aV_s, aI_v, aB_v, aS_v, aL_f, aO_o, aX_b, tst_t, cond_true, cond_false, Ex.same, Nat.beq, List.length_cons, List.length_nil, Int.toNat_natCast, beqTT, beqTF, beqFT, beqFF, hb, Bool.not_false]
      exact Evt.ret
  | true =>
    refine ⟨1, sa0, na2, tell la4 la3, ?_, ?_, ?_, ?_⟩
    · rw [E38]
      exact mk_i (by decide) (mk_s pa0 (mk_i pa2 (mk_sl W124 ⟨by decide, .nil⟩ (mk_sl W127 (sl_tell pa4 pa3 (by omega)) .nil))))
    · have hl := @tell_len la4 la3
      have hz : wtRows (tell la4 la3) = 0 := wt_runs fun x hx => (sl_tell pa4 pa3 (by omega)).2.mem x hx
      have hz' : wtRows ([] : Rows) = 0 := by simp [wtRows]
      simp only [wtRow, wtD, hz, hz', List.length_nil]
      omega
    · refine Ev.of (af := a23) rfl rfl (Evt.congr (fun d n => a23q ..) ?_)
      refine ev_call (f64 h) ?_
      simp -implicitDefEqProofs only [cI, cB, cS, cL, oD_d, oG_g, oT_t, oP_p, dI_v, dB_v, dS_v, dL_s, cell_z, cell_s, nth_z, nth_s, aV_z, aV_s, aI_v, aB_v, aS_v, aL_f, aO_o, aX_b, tst_t, cond_true, cond_false, Ex.same, Nat.beq, List.length_cons, List.length_nil, Int.toNat_natCast, beqTT, beqTF, beqFT, beqFF, hb, Bool.not_true]
      refine ev_call (f65 h rfl rfl (by omega) (by omega)) ?_
      simp -implicitDefEqProofs only [cI, cB, cS, cL, oD_d, oG_g, oT_t, oP_p, dI_v, dB_v, dS_v, dL_s, cell_z, cell_s, nth_z, nth_s, aV_z, aV_s, aI_v, aB_v, aS_v, aL_f, aO_o, aX_b, tst_t, cond_true, cond_false, Ex.same, Nat.beq, List.length_cons, List.length_nil, Int.toNat_natCast, beqTT, beqTF, beqFT, beqFF]
      exact Evt.ret
    · refine Ev.of (af := a24) rfl rfl (Evt.congr (fun d n => a24q ..) ?_)
      refine ev_call (f66 h) ?_
      simp -implicitDefEqProofs only [cI, cB, cS, cL, oD_d, oG_g, oT_t, oP_p, dI_v, dB_v, dS_v, dL_s, cell_z, cell_s, nth_z, nth_s, aV_z, aV_s, aI_v, aB_v, aS_v, aL_f, aO_o, aX_b, tst_t, cond_true, cond_false, Ex.same, Nat.beq, List.length_cons, List.length_nil, Int.toNat_natCast, beqTT, beqTF, beqFT, beqFF, hb, Bool.not_true]
      refine ev_call (f67 h rfl rfl (by omega) (by omega)) ?_
      simp -implicitDefEqProofs only [cI, cB, cS, cL, oD_d, oG_g, oT_t, oP_p, dI_v, dB_v, dS_v, dL_s, cell_z, cell_s, nth_z, nth_s, aV_z, aV_s, aI_v, aB_v, aS_v, aL_f, aO_o, aX_b, tst_t, cond_true, cond_false, Ex.same, Nat.beq, List.length_cons, List.length_nil, Int.toNat_natCast, beqTT, beqTF, beqFT, beqFF]
      exact Evt.ret
end Go.Am.As
