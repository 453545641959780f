/- What the reference's Spread says in the end. Nothing is assumed. -/
import Derived.Test.YtapjklbchbgiaaaSpP
namespace Go.Am.Sp
set_option linter.unusedVariables false
set_option linter.unusedSimpArgs false
set_option maxRecDepth 8000
theorem shift {u na0 na1 na2 i c : Int} {s : ByteArray} {la3 la4 la5 la6 : Rows} : ∀ (k : Nat) (S1 S2 : Rows) (gr : Row), S1.length = k → SL E 101 (S1 ++ gr :: S2) → (S1 ++ gr :: S2).length ≤ 1073741824 → Srt (upT 0) (S1 ++ S2) → (∀ y ∈ S2, upT 0 [.v (.string s), .v (.int .i64 c)] y = true) →
    ∃ (T1 T2 : Rows) (gr' : Row), SP (upT 0) (S1 ++ S2 ++ [[.v (.string s), .v (.int .i64 c)]]) (T1 ++ [.v (.string s), .v (.int .i64 c)] :: T2) ∧ gr'.length = 2 ∧
      Evt (fun d n => l26x1 (TabD fs d) d n [.v (.int .i64 u), (.b [.v (.int .i64 na0), .v (.int .i64 na1), .v (.int .i64 na2), .fz 13 la3, .fz 6 la4, .fz 5 la5, .fz 1 la6]), .o 2 (S1 ++ gr :: S2), .v (.int .i64 i), .v (.int .i64 (S1.length : Nat)), .b [.v (.string s), .v (.int .i64 c)]]) (.exit 2, [.v (.int .i64 u), (.b [.v (.int .i64 na0), .v (.int .i64 na1), .v (.int .i64 na2), .fz 13 la3, .fz 6 la4, .fz 5 la5, .fz 1 la6]), .o 2 (T1 ++ gr' :: T2), .v (.int .i64 i), .v (.int .i64 (T1.length : Nat)), .b [.v (.string s), .v (.int .i64 c)]]) := by
  intro k
  induction k with
  | zero =>
    intro S1 S2 gr h0 hs hsz h1 h2
    have : S1 = [] := List.length_eq_zero_iff.1 h0
    subst this
    have hx := hs.at (i := 0) (x := gr) (by simp)
    have hgl : gr.length = 2 := by
      rw [E101] at hx
      obtain ⟨sx0, rx0, rfl, px0, hx_x0⟩ := inv_s hx
      obtain ⟨nx1, rx1, rfl, px1, hx_x1⟩ := inv_i hx_x0
      cases inv_nil hx_x1
      rfl
    refine ⟨[], S2, gr, srt_ins (upT_swo 0) (s1 := []) h1 (.inl rfl) h2, hgl, ev_succ ⟨0, fun d n _ _ => ?_⟩⟩
    simp only [l26x1s]
    simp only [List.length_nil, Int.natCast_zero, show decide ((0 : Int) > 0) = false from rfl, beqFT, cond_false, List.nil_append]
  | succ k ih =>
    intro S1 S2 gr h0 hs hsz h1 h2
    obtain ⟨T, y, rfl⟩ : ∃ T y, S1 = T ++ [y] := by
      rcases List.eq_nil_or_concat S1 with e | ⟨T, y, e⟩
      · subst e; simp at h0
      · exact ⟨T, y, by simpa using e⟩
    simp only [List.length_append, List.length_cons, List.length_nil] at h0 hsz
    have hgr : (T ++ [y] ++ gr :: S2)[T.length + 1]? = some gr := getMid (by simp)
    have hy0 : (T ++ [y] ++ gr :: S2)[T.length]? = some y := by
      have : T ++ [y] ++ gr :: S2 = T ++ y :: (gr :: S2) := by simp
      rw [this]; exact getMid rfl
    have hgx := hs.at hgr
    have hgl : gr.length = 2 := by
      rw [E101] at hgx
      obtain ⟨sx0, rx0, rfl, px0, hgx_x0⟩ := inv_s hgx
      obtain ⟨nx1, rx1, rfl, px1, hgx_x1⟩ := inv_i hgx_x0
      cases inv_nil hgx_x1
      rfl
    have hset : (T ++ [y] ++ gr :: S2).set (T.length + 1) y = T ++ y :: (y :: S2) := by
      rw [setMid (by simp)]; simp
    have e1 : T ++ (y :: S2) = T ++ [y] ++ S2 := by simp
    have hsl : SL E 101 (T ++ y :: (y :: S2)) := hs.perm (by simp) fun z hz => by simp at hz ⊢; grind
    have hy := hs.at hy0
    rw [E101] at hy
    obtain ⟨sy0, ry0, rfl, py0, hy_y0⟩ := inv_s hy
    obtain ⟨ny1, ry1, rfl, py1, hy_y1⟩ := inv_i hy_y0
    cases inv_nil hy_y1
    have w1 : IntKind.i64.wrap (((T.length + 1 : Nat) : Int) - 1) = ((T.length : Nat) : Int) := (wi_fit (by omega) (by omega)).trans (by omega)
    have hpos : decide (((T.length + 1 : Nat) : Int) > 0) = true := decide_eq_true (by omega)
    have hlen : (T ++ [([.v (.string sy0), .v (.int .i64 ny1)] : Row)]).length = T.length + 1 := by simp
    have e2 := setD_two (l := T ++ [([.v (.string sy0), .v (.int .i64 ny1)] : Row)] ++ gr :: S2) (q := T.length + 1) (c := .v (.string sy0)) (d := .v (.int .i64 ny1)) ⟨_, hgr, hgl⟩
    rw [hlen]
    cases hlx : upT 0 [.v (.string s), .v (.int .i64 c)] [.v (.string sy0), .v (.int .i64 ny1)] with
    | true =>
      obtain ⟨T1, T2, gr', q1, q2, q3⟩ := ih T ([.v (.string sy0), .v (.int .i64 ny1)] :: S2) [.v (.string sy0), .v (.int .i64 ny1)] (by omega) hsl (by simp; omega) (by rw [e1]; exact h1) (fun z hz => by
        rcases List.mem_cons.1 hz with e | e
        · rw [e]; exact hlx
        · exact h2 z e)
      refine ⟨T1, T2, gr', by rw [e1] at q1; exact q1, q2, ev_succ ?_⟩
      have hb : bytesLess s sy0 = true := hlx
      simp only [l26x1s]
      simp -implicitDefEqProofs only [cI, cB, cS, cL, oD_d, oG_g, oT_t, oP_p, dI_v, dB_v, dS_v, dL_s, cell_z, cell_s, nth_z, nth_s, aV_z, aV_s, aI_v, aB_v, aS_v, aL_f, aO_o, aX_b, tst_t, cond_true, cond_false, Ex.same, Nat.beq, List.length_cons, List.length_nil, Int.toNat_natCast, beqTT, beqTF, beqFT, beqFF, hpos, w1, dec_nn, lt_of_at hy0, lt_of_at hgr, look_at hy0, Bool.and_self, bytes_gt, hb, e2, hset]
      exact q3
    | false =>
      refine ⟨T ++ [[.v (.string sy0), .v (.int .i64 ny1)]], S2, gr, srt_ins (upT_swo 0) h1 (.inr ⟨T, _, rfl, hlx⟩) h2, hgl, ev_succ ?_⟩
      have hb : bytesLess s sy0 = false := hlx
      simp only [l26x1s]
      simp -implicitDefEqProofs only [cI, cB, cS, cL, oD_d, oG_g, oT_t, oP_p, dI_v, dB_v, dS_v, dL_s, cell_z, cell_s, nth_z, nth_s, aV_z, aV_s, aI_v, aB_v, aS_v, aL_f, aO_o, aX_b, tst_t, cond_true, cond_false, Ex.same, Nat.beq, List.length_cons, List.length_nil, Int.toNat_natCast, beqTT, beqTF, beqFT, beqFF, hpos, w1, dec_nn, lt_of_at hy0, look_at hy0, Bool.and_self, bytes_gt, hb, hlen]
      exact Evt.ret
theorem f26 {row : Row} (h : ShL E (E 57) row) (u : Int) {l : Rows} (hl : row[5]? = some (.s 5 l)) (hsz : l.length ≤ 1048576) : Ev fs 26 [.g row, .d (.v (.int .i64 u))] ⟨.d (.s 2 (sprd u l)), []⟩ := by
  rw [E57] at h
  obtain ⟨na0, ra0, rfl, pa0, h_a0⟩ := inv_i h
  obtain ⟨na1, ra1, rfl, pa1, h_a1⟩ := inv_i h_a0
  obtain ⟨na2, ra2, rfl, pa2, h_a2⟩ := inv_i h_a1
  obtain ⟨la3, ra3, rfl, pa3, h_a3⟩ := inv_sl W157 h_a2
  obtain ⟨la4, ra4, rfl, pa4, h_a4⟩ := inv_sl W163 h_a3
  obtain ⟨la5, ra5, rfl, pa5, h_a5⟩ := inv_sl W85 h_a4
  obtain ⟨la6, ra6, rfl, pa6, h_a6⟩ := inv_sl W9 h_a5
  cases inv_nil h_a6
  have el : la5 = l := by simpa using hl
  subst el
  have e0 : sprd u la5 = la5.foldl (addS u) [] := by
    have := addS_stab u la5 []
    rw [stab_nil (upT_swo 0)] at this
    exact this.symm
  rw [e0]
  refine Ev.of (af := a26) rfl rfl (Evt.congr (fun d n => a26q ..) ?_)
  refine ev_aft (L := fun d n => l26x0 (TabD fs d) d n [.v (.int .i64 u), (.b [.v (.int .i64 na0), .v (.int .i64 na1), .v (.int .i64 na2), .fz 13 la3, .fz 6 la4, .fz 5 la5, .fz 1 la6]), .o 2 [], .v (.int .i64 0)]) (fold_loop (L := fun d n acc i => l26x0 (TabD fs d) d n [.v (.int .i64 u), (.b [.v (.int .i64 na0), .v (.int .i64 na1), .v (.int .i64 na2), .fz 13 la3, .fz 6 la4, .fz 5 la5, .fz 1 la6]), .o 2 acc, .v (.int .i64 i)]) (a := la5) (f := addS u) (acc := []) (Y := fun acc => (.exit 0, [.o 2 acc])) (fun i acc => ∃ gs, acc = stab (upT 0) gs ∧ gs.length ≤ i ∧ ∀ x ∈ gs, ShL E (E 101) x) (fun d n acc => ?_) (fun i x acc res hi hx hI k => ?_) (fun i x acc hi hx hI => ?_) ⟨[], (stab_nil (upT_swo 0)).symm, by simp, by simp⟩).1 ?_
  · rw [l26x0s]
    simp -implicitDefEqProofs only [cI, cB, cS, cL, oD_d, oG_g, oT_t, oP_p, dI_v, dB_v, dS_v, dL_s, cell_z, cell_s, nth_z, nth_s, aV_z, aV_s, aI_v, aB_v, aS_v, aL_f, aO_o, aX_b, tst_t, cond_true, cond_false, Ex.same, Nat.beq, List.length_cons, List.length_nil, Int.toNat_natCast, beqTT, beqTF, beqFT, beqFF, Int.lt_irrefl, decide_false]
  · obtain ⟨gs, rfl, hgl, hgs⟩ := hI
    have hal : (stab (upT 0) gs).length ≤ i := by rw [stab_len (upT_swo 0)]; exact hgl
    have hpt := part_sh (pa5.at hx)
    have hsl : SL E 101 (stab (upT 0) gs ++ part x :: []) := ⟨by simp [maxLen]; omega, ShR.of_mem fun z hz => by
      rcases List.mem_append.1 hz with e | e
      · exact hgs z ((stab_mem (upT_swo 0)).1 e)
      · simp at e; subst e; exact hpt⟩
    have w := pa5.at hx
    rw [E85] at w
    obtain ⟨nx0, rx0, rfl, px0, w_x0⟩ := inv_i w
    obtain ⟨sx1, rx1, rfl, px1, w_x1⟩ := inv_s w_x0
    obtain ⟨nx2, rx2, rfl, px2, w_x2⟩ := inv_i w_x1
    obtain ⟨nx3, rx3, rfl, px3, w_x3⟩ := inv_i w_x2
    obtain ⟨nx4, rx4, rfl, px4, w_x4⟩ := inv_i w_x3
    cases inv_nil w_x4
    have hb : decide (((stab (upT 0) gs).length + (0 + 1)) * 24 ≤ maxBytes) = true := decide_eq_true (by simp only [maxBytes]; omega)
    obtain ⟨T1, T2, gr', q1, q2, q3⟩ := shift (u := u) (na0 := na0) (na1 := na1) (na2 := na2) (i := (i : Int)) (c := nx2) (s := sx1) (la3 := la3) (la4 := la4) (la5 := la5) (la6 := la6) (stab (upT 0) gs).length (stab (upT 0) gs) [] (part _) rfl hsl (by simp; omega) (by simpa using (stab_sp (upT_swo 0) gs).1) (by simp)
    have q4 : T1 ++ [.v (.string sx1), .v (.int .i64 nx2)] :: T2 = stab (upT 0) (stab (upT 0) gs ++ [[.v (.string sx1), .v (.int .i64 nx2)]]) := stab_of (upT_swo 0) (by simpa using q1)
    have hgr : (T1 ++ gr' :: T2)[T1.length]? = some gr' := getMid rfl
    have e2 := setD_two (l := T1 ++ gr' :: T2) (q := T1.length) (c := .v (.string sx1)) (d := .v (.int .i64 nx2)) ⟨_, hgr, q2⟩
    rw [setMid rfl, q4] at e2
    simp only [l26x0s]
    simp -implicitDefEqProofs only [cI, cB, cS, cL, oD_d, oG_g, oT_t, oP_p, dI_v, dB_v, dS_v, dL_s, cell_z, cell_s, nth_z, nth_s, aV_z, aV_s, aI_v, aB_v, aS_v, aL_f, aO_o, aX_b, tst_t, cond_true, cond_false, Ex.same, Nat.beq, List.length_cons, List.length_nil, Int.toNat_natCast, beqTT, beqTF, beqFT, beqFF, hb, decide_eq_true (Int.ofNat_lt.2 hi), dec_nn, look_at hx, wrap_succ hi pa5.le, beq_t]
    simp only [addS, part, cN, cT, List.getElem?_cons_zero, List.getElem?_cons_succ] at k
    simp only [posN] at k
    have hbn : (nx0 != u) = !(nx0 == u) := rfl
    simp only [hbn, beq_f, Bool.not_not]
    refine ev_if (fun hc => ?_) (fun hc => ?_)
    · rw [hc] at k
      have hle : decide (nx2 ≤ 0) = !decide (nx2 > 0) := by by_cases hz : nx2 ≤ 0 <;> simp [hz] <;> omega
      rw [hle]
      refine ev_if (fun hd => ?_) (fun hd => ?_)
      · have hd' : decide (nx2 > 0) = false := by simpa using hd
        rw [hd'] at k
        exact k
      · have hd' : decide (nx2 > 0) = true := by simpa using hd
        rw [hd'] at k
        refine ev_aft q3 ?_
        simp -implicitDefEqProofs only [cI, cB, cS, cL, oD_d, oG_g, oT_t, oP_p, dI_v, dB_v, dS_v, dL_s, cell_z, cell_s, nth_z, nth_s, aV_z, aV_s, aI_v, aB_v, aS_v, aL_f, aO_o, aX_b, tst_t, cond_true, cond_false, Ex.same, Nat.beq, List.length_cons, List.length_nil, Int.toNat_natCast, beqTT, beqTF, beqFT, beqFF, dec_nn, lt_of_at hgr, Bool.and_self, e2, wrap_succ hi pa5.le]
        exact k
    · rw [hc] at k
      exact k
  · obtain ⟨gs, rfl, hgl, hgs⟩ := hI
    refine ⟨addG u gs x, ?_, ?_, ?_⟩
    · unfold addS addG
      cases cN x 0 == u <;> simp only [cond_true, cond_false]
      cases posN (cN x 2) <;> simp only [cond_true, cond_false]
      exact stab_snoc (upT_swo 0)
    · unfold addG
      cases cN x 0 == u <;> cases posN (cN x 2) <;> simp <;> omega
    · exact addG_mem u [x] gs hgs fun y hy => by simp at hy; subst hy; exact part_sh (pa5.at hx)
  · simp -implicitDefEqProofs only [cI, cB, cS, cL, oD_d, oG_g, oT_t, oP_p, dI_v, dB_v, dS_v, dL_s, cell_z, cell_s, nth_z, nth_s, aV_z, aV_s, aI_v, aB_v, aS_v, aL_f, aO_o, aX_b, tst_t, cond_true, cond_false, Ex.same, Nat.beq, List.length_cons, List.length_nil, Int.toNat_natCast, beqTT, beqTF, beqFT, beqFF]
    exact Evt.ret
end Go.Am.Sp
