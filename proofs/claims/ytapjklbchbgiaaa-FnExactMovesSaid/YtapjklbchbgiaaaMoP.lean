/- What Moves' own functions say in the end. Nothing is assumed. -/
import Derived.Test.YtapjklbchbgiaaaMoH
namespace Go.Am.Mo
set_option linter.unusedVariables false
set_option linter.unusedSimpArgs false
set_option maxRecDepth 8000
theorem f134 (a : Int) : Ev fs 134 [.d (.v (.int .i64 a))] (bo false) := by
  refine Ev.of (af := a134) rfl rfl (Evt.congr (fun d n => a134q ..) ?_)
  exact Evt.ret' (by simp)
theorem f101 (a b : Int) : Ev fs 101 [.d (.v (.int .i64 a)), .d (.v (.int .i64 b))] (io (cmpI a b)) := by
  refine Ev.of (af := a101) rfl rfl (Evt.congr (fun d n => a101q ..) ?_)
  refine ev_call (f134 a) ?_
  simp only [cI, cB, cS, cL, oD_d, oG_g, oT_t, oP_p, dI_v, dB_v, dS_v, dL_s, cell_z, cell_s, nth_z, nth_s, aV_z, aV_s, aI_v, aB_v, aS_v, aL_f, aO_o, aX_b, tst_t, cond_true, cond_false, Ex.same, Nat.beq, List.length_cons, List.length_nil, Int.toNat_natCast]
  refine ev_call (f134 b) ?_
  simp only [cI, cB, cS, cL, oD_d, oG_g, oT_t, oP_p, dI_v, dB_v, dS_v, dL_s, cell_z, cell_s, nth_z, nth_s, aV_z, aV_s, aI_v, aB_v, aS_v, aL_f, aO_o, aX_b, tst_t, cond_true, cond_false, Ex.same, Nat.beq, List.length_cons, List.length_nil, Int.toNat_natCast]
  unfold cmpI
  refine ev_if (fun h => ?_) (fun h => ?_)
  · have h := of_decide_eq_true h
    exact Evt.ret' (by simp [h])
  · have h := of_decide_eq_false h
    refine ev_if (fun h' => ?_) (fun h' => ?_)
    · have h' := of_decide_eq_true h'
      exact Evt.ret' (by simp [h, h'])
    · have h' := of_decide_eq_false h'
      exact Evt.ret' (by simp [h, h'])
theorem f158 (a b : ByteArray) : Ev fs 158 [.d (.v (.string a)), .d (.v (.string b))] (io (cmpS a b)) := Ev.nat rfl ⟨0, fun _ _ _ _ => rfl⟩
theorem f135 (a b : ByteArray) : Ev fs 135 [.d (.v (.string a)), .d (.v (.string b))] (io (cmpS a b)) := by
  refine Ev.of (af := a135) rfl rfl (Evt.congr (fun d n => a135q ..) ?_)
  refine ev_call (f158 a b) ?_
  simp only [cI, cB, cS, cL, oD_d, oG_g, oT_t, oP_p, dI_v, dB_v, dS_v, dL_s, cell_z, cell_s, nth_z, nth_s, aV_z, aV_s, aI_v, aB_v, aS_v, aL_f, aO_o, aX_b, tst_t, cond_true, cond_false, Ex.same, Nat.beq, List.length_cons, List.length_nil, Int.toNat_natCast]
  exact Evt.ret
theorem f102 (a b : ByteArray) : Ev fs 102 [.d (.v (.string a)), .d (.v (.string b))] (io (cmpS a b)) := by
  refine Ev.of (af := a102) rfl rfl (Evt.congr (fun d n => a102q ..) ?_)
  refine ev_call (f135 a b) ?_
  simp only [cI, cB, cS, cL, oD_d, oG_g, oT_t, oP_p, dI_v, dB_v, dS_v, dL_s, cell_z, cell_s, nth_z, nth_s, aV_z, aV_s, aI_v, aB_v, aS_v, aL_f, aO_o, aX_b, tst_t, cond_true, cond_false, Ex.same, Nat.beq, List.length_cons, List.length_nil, Int.toNat_natCast]
  exact Evt.ret
theorem f57 {l : Rows} (hl : SL E 85 l) {g : Nat} {cs : List I} {p : Row → Bool} (hg : ∀ (i : Nat) (x : Row), l[i]? = some x → Ev fs g ([.g x] ++ cs) (bo (p x))) : Ev fs 57 [.d (.s 5 l), .f g cs] (io (idxR p l)) := by
  refine Ev.of (af := a57) rfl rfl (Evt.congr (fun d n => a57q ..) ?_)
  refine idx_of (L := fun d n => l57x0 (TabD fs d) d n [.fz 5 l, .ff g cs, .v (.int .i64 (l.length : Int)), .v (.int .i64 0)]) (idx_loop (L := fun d n i => l57x0 (TabD fs d) d n [.fz 5 l, .ff g cs, .v (.int .i64 (l.length : Int)), .v (.int .i64 i)]) (fun d m => ?_) (fun i x hi hx => ?_))
  · rw [l57x0s]
    simp only [cI, cB, cS, cL, oD_d, oG_g, oT_t, oP_p, dI_v, dB_v, dS_v, dL_s, cell_z, cell_s, nth_z, nth_s, aV_z, aV_s, aI_v, aB_v, aS_v, aL_f, aO_o, aX_b, tst_t, cond_true, cond_false, Ex.same, Nat.beq, List.length_cons, List.length_nil, Int.toNat_natCast, Int.lt_irrefl, decide_false]
  · have h := hl.at hx
    rw [E85] at h
    obtain ⟨na0, ra0, rfl, pa0, h_a0⟩ := inv_i h
    obtain ⟨sa1, ra1, rfl, pa1, h_a1⟩ := inv_s h_a0
    obtain ⟨na2, ra2, rfl, pa2, h_a2⟩ := inv_i h_a1
    obtain ⟨na3, ra3, rfl, pa3, h_a3⟩ := inv_i h_a2
    obtain ⟨na4, ra4, rfl, pa4, h_a4⟩ := inv_i h_a3
    cases inv_nil h_a4
    simp only [l57x0s]
    simp only [cI, cB, cS, cL, oD_d, oG_g, oT_t, oP_p, dI_v, dB_v, dS_v, dL_s, cell_z, cell_s, nth_z, nth_s, aV_z, aV_s, aI_v, aB_v, aS_v, aL_f, aO_o, aX_b, tst_t, cond_true, cond_false, Ex.same, Nat.beq, List.length_cons, List.length_nil, Int.toNat_natCast, decide_eq_true (Int.ofNat_lt.2 hi), dec_nn, look_at hx, wrap_succ hi hl.1]
    apply Stp.conv
    · apply stp_call
      · exact hg i _ hx
      · apply stp_not
        intro _
        exact stp_end
    · simp
def isHold (u : Int) (s : ByteArray) (y : Row) : Bool := (cN y 0 == u) && bytesEq (cT y 1) s
def copiesOf (l : Rows) (u : Int) (s : ByteArray) : Int := match l.find? (isHold u s) with
  | some y => cN y 2
  | none => 0
def posB (v : Int) : Bool := decide (v > 0)
def addPos (a : Rows) (acc : Int) (x : Row) : Int := bif posB (IntKind.i64.wrap (cN x 2 - copiesOf a (cN x 0) (cT x 1))) then IntKind.i64.wrap (acc + IntKind.i64.wrap (cN x 2 - copiesOf a (cN x 0) (cT x 1))) else acc
def moves (a b : Rows) : Int := b.foldl (addPos a) 0
theorem f59 {x y : Row} (h : ShL E (E 85) x) (h' : ShL E (E 85) y) : ∃ c, Ev fs 59 [.g x, .g y] (io c) ∧ (c == 0) = isHold (cN x 0) (cT x 1) y := by
  rw [E85] at h
  obtain ⟨na0, ra0, rfl, pa0, h_a0⟩ := inv_i h
  obtain ⟨sa1, ra1, rfl, pa1, h_a1⟩ := inv_s h_a0
  obtain ⟨na2, ra2, rfl, pa2, h_a2⟩ := inv_i h_a1
  obtain ⟨na3, ra3, rfl, pa3, h_a3⟩ := inv_i h_a2
  obtain ⟨na4, ra4, rfl, pa4, h_a4⟩ := inv_i h_a3
  cases inv_nil h_a4
  rw [E85] at h'
  obtain ⟨nc0, rc0, rfl, pc0, hq_c0⟩ := inv_i h'
  obtain ⟨sc1, rc1, rfl, pc1, hq_c1⟩ := inv_s hq_c0
  obtain ⟨nc2, rc2, rfl, pc2, hq_c2⟩ := inv_i hq_c1
  obtain ⟨nc3, rc3, rfl, pc3, hq_c3⟩ := inv_i hq_c2
  obtain ⟨nc4, rc4, rfl, pc4, hq_c4⟩ := inv_i hq_c3
  cases inv_nil hq_c4
  cases hc : cmpI na0 nc0 == 0 with
  | true =>
    refine ⟨cmpS sa1 sc1, ?_, ?_⟩
    · refine Ev.of (af := a59) rfl rfl (Evt.congr (fun d n => a59q ..) ?_)
      refine ev_call (f101 na0 nc0) ?_
      simp only [cI, cB, cS, cL, oD_d, oG_g, oT_t, oP_p, dI_v, dB_v, dS_v, dL_s, cell_z, cell_s, nth_z, nth_s, aV_z, aV_s, aI_v, aB_v, aS_v, aL_f, aO_o, aX_b, tst_t, cond_true, cond_false, Ex.same, Nat.beq, List.length_cons, List.length_nil, Int.toNat_natCast, bne, hc, Bool.not_true]
      refine ev_call (f102 sa1 sc1) ?_
      simp only [cI, cB, cS, cL, oD_d, oG_g, oT_t, oP_p, dI_v, dB_v, dS_v, dL_s, cell_z, cell_s, nth_z, nth_s, aV_z, aV_s, aI_v, aB_v, aS_v, aL_f, aO_o, aX_b, tst_t, cond_true, cond_false, Ex.same, Nat.beq, List.length_cons, List.length_nil, Int.toNat_natCast]
      exact Evt.ret
    · rw [cmpS_eq]
      rw [cmpI_eq] at hc
      have : na0 = nc0 := by simpa using hc
      simp [isHold, cN, cT, this, bytesEq, Bool.beq_comm]
  | false =>
    refine ⟨cmpI na0 nc0, ?_, ?_⟩
    · refine Ev.of (af := a59) rfl rfl (Evt.congr (fun d n => a59q ..) ?_)
      refine ev_call (f101 na0 nc0) ?_
      simp only [cI, cB, cS, cL, oD_d, oG_g, oT_t, oP_p, dI_v, dB_v, dS_v, dL_s, cell_z, cell_s, nth_z, nth_s, aV_z, aV_s, aI_v, aB_v, aS_v, aL_f, aO_o, aX_b, tst_t, cond_true, cond_false, Ex.same, Nat.beq, List.length_cons, List.length_nil, Int.toNat_natCast, bne, hc, Bool.not_false]
      exact Evt.ret
    · rw [hc]
      rw [cmpI_eq] at hc
      have : ¬ (nc0 = na0) := fun e => by simp [e] at hc
      simp [isHold, cN, cT, this]
theorem f58 {x y : Row} (h : ShL E (E 85) x) (h' : ShL E (E 85) y) : Ev fs 58 [.g y, .p x] (bo (isHold (cN x 0) (cT x 1) y)) := by
  obtain ⟨c, hc, e⟩ := f59 h h'
  rw [E85] at h
  obtain ⟨na0, ra0, rfl, pa0, h_a0⟩ := inv_i h
  obtain ⟨sa1, ra1, rfl, pa1, h_a1⟩ := inv_s h_a0
  obtain ⟨na2, ra2, rfl, pa2, h_a2⟩ := inv_i h_a1
  obtain ⟨na3, ra3, rfl, pa3, h_a3⟩ := inv_i h_a2
  obtain ⟨na4, ra4, rfl, pa4, h_a4⟩ := inv_i h_a3
  cases inv_nil h_a4
  rw [E85] at h'
  obtain ⟨nc0, rc0, rfl, pc0, hq_c0⟩ := inv_i h'
  obtain ⟨sc1, rc1, rfl, pc1, hq_c1⟩ := inv_s hq_c0
  obtain ⟨nc2, rc2, rfl, pc2, hq_c2⟩ := inv_i hq_c1
  obtain ⟨nc3, rc3, rfl, pc3, hq_c3⟩ := inv_i hq_c2
  obtain ⟨nc4, rc4, rfl, pc4, hq_c4⟩ := inv_i hq_c3
  cases inv_nil hq_c4
  refine Ev.of (af := a58) rfl rfl (Evt.congr (fun d n => a58q ..) ?_)
  refine ev_call hc ?_
  simp only [cI, cB, cS, cL, oD_d, oG_g, oT_t, oP_p, dI_v, dB_v, dS_v, dL_s, cell_z, cell_s, nth_z, nth_s, aV_z, aV_s, aI_v, aB_v, aS_v, aL_f, aO_o, aX_b, tst_t, cond_true, cond_false, Ex.same, Nat.beq, List.length_cons, List.length_nil, Int.toNat_natCast]
  exact Evt.ret' (by rw [e])
theorem f52 {row : Row} (h : ShL E (E 57) row) (u : Int) (s : ByteArray) {l : Rows} (hl : row[5]? = some (.s 5 l)) : Ev fs 52 [.g row, .d (.v (.int .i64 u)), .d (.v (.string s))] (io (copiesOf l u s)) := by
  rw [E57] at h
  obtain ⟨na0, ra0, rfl, pa0, h_a0⟩ := inv_i h
  obtain ⟨na1, ra1, rfl, pa1, h_a1⟩ := inv_i h_a0
  obtain ⟨na2, ra2, rfl, pa2, h_a2⟩ := inv_i h_a1
  obtain ⟨la3, ra3, rfl, pa3, h_a3⟩ := inv_sl W157 h_a2
  obtain ⟨la4, ra4, rfl, pa4, h_a4⟩ := inv_sl W163 h_a3
  obtain ⟨la5, ra5, rfl, pa5, h_a5⟩ := inv_sl W85 h_a4
  obtain ⟨la6, ra6, rfl, pa6, h_a6⟩ := inv_sl W9 h_a5
  cases inv_nil h_a6
  have el : la5 = l := by simpa using hl
  subst el
  refine Ev.of (af := a52) rfl rfl (Evt.congr (fun d n => a52q ..) ?_)
  refine ev_aft (L := fun d n => l52x0 (TabD fs d) d n [.v (.int .i64 u), .v (.string s), (.b [.v (.int .i64 na0), .v (.int .i64 na1), .v (.int .i64 na2), .fz 13 la3, .fz 6 la4, .fz 5 la5, .fz 1 la6]), .v (.int .i64 0)]) (find_loop (L := fun d n i => l52x0 (TabD fs d) d n [.v (.int .i64 u), .v (.string s), (.b [.v (.int .i64 na0), .v (.int .i64 na1), .v (.int .i64 na2), .fz 13 la3, .fz 6 la4, .fz 5 la5, .fz 1 la6]), .v (.int .i64 i)]) (n := la5.length) (p := fun i => isHold u s (la5[i]?.getD [])) (g := fun i => (.ret, [.v (.int .i64 (cN (la5[i]?.getD []) 2))])) (y := (.exit 0, [])) (fun d m => ?_) (fun i hi => ?_)) ?_
  · rw [l52x0s]
    simp only [cI, cB, cS, cL, oD_d, oG_g, oT_t, oP_p, dI_v, dB_v, dS_v, dL_s, cell_z, cell_s, nth_z, nth_s, aV_z, aV_s, aI_v, aB_v, aS_v, aL_f, aO_o, aX_b, tst_t, cond_true, cond_false, Ex.same, Nat.beq, List.length_cons, List.length_nil, Int.toNat_natCast, Int.lt_irrefl, decide_false]
  · have hx := List.getElem?_eq_getElem hi
    generalize la5[i] = x at hx
    have k := pa5.at hx
    rw [E85] at k
    obtain ⟨nx0, rx0, rfl, px0, k_x0⟩ := inv_i k
    obtain ⟨sx1, rx1, rfl, px1, k_x1⟩ := inv_s k_x0
    obtain ⟨nx2, rx2, rfl, px2, k_x2⟩ := inv_i k_x1
    obtain ⟨nx3, rx3, rfl, px3, k_x3⟩ := inv_i k_x2
    obtain ⟨nx4, rx4, rfl, px4, k_x4⟩ := inv_i k_x3
    cases inv_nil k_x4
    simp only [l52x0s, hx, Option.getD_some, isHold, cN, cT, List.getElem?_cons_zero, List.getElem?_cons_succ]
    simp only [cI, cB, cS, cL, oD_d, oG_g, oT_t, oP_p, dI_v, dB_v, dS_v, dL_s, cell_z, cell_s, nth_z, nth_s, aV_z, aV_s, aI_v, aB_v, aS_v, aL_f, aO_o, aX_b, tst_t, cond_true, cond_false, Ex.same, Nat.beq, List.length_cons, List.length_nil, Int.toNat_natCast, decide_eq_true (Int.ofNat_lt.2 hi), dec_nn, look_at hx, wrap_succ hi pa5.le, beq_t]
    intro res k1 k2
    refine ev_if (fun hc => ?_) (fun hc => ?_)
    · rw [hc] at k1 k2
      refine ev_if (fun hd => ?_) (fun hd => ?_)
      · rw [hd] at k2
        exact Evt.ret' (k2 rfl)
      · rw [hd] at k1
        exact k1 rfl
    · rw [hc] at k1
      exact k1 rfl
  · have hf := findN_find (p := isHold u s) (l := la5)
    unfold copiesOf
    rw [← hf]
    cases hq : findN la5.length (fun i => isHold u s (la5[i]?.getD [])) with
    | none => simp only [cI, cB, cS, cL, oD_d, oG_g, oT_t, oP_p, dI_v, dB_v, dS_v, dL_s, cell_z, cell_s, nth_z, nth_s, aV_z, aV_s, aI_v, aB_v, aS_v, aL_f, aO_o, aX_b, tst_t, cond_true, cond_false, Ex.same, Nat.beq, List.length_cons, List.length_nil, Int.toNat_natCast]; exact Evt.ret
    | some i =>
      simp only [cI, cB, cS, cL, oD_d, oG_g, oT_t, oP_p, dI_v, dB_v, dS_v, dL_s, cell_z, cell_s, nth_z, nth_s, aV_z, aV_s, aI_v, aB_v, aS_v, aL_f, aO_o, aX_b, tst_t, cond_true, cond_false, Ex.same, Nat.beq, List.length_cons, List.length_nil, Int.toNat_natCast]
      obtain ⟨hi, _⟩ := findN_some.1 hq
      exact Evt.ret' (by simp [List.getElem?_eq_getElem hi])
theorem f19 {row row' : Row} (h : ShL E (E 57) row) (h' : ShL E (E 57) row') {a b : Rows} (ha : row[5]? = some (.s 5 a)) (hb : row'[5]? = some (.s 5 b)) : Ev fs 19 [.g row, .g row'] (io (moves a b)) := by
  have kk := h
  rw [E57] at h
  obtain ⟨na0, ra0, rfl, pa0, h_a0⟩ := inv_i h
  obtain ⟨na1, ra1, rfl, pa1, h_a1⟩ := inv_i h_a0
  obtain ⟨na2, ra2, rfl, pa2, h_a2⟩ := inv_i h_a1
  obtain ⟨la3, ra3, rfl, pa3, h_a3⟩ := inv_sl W157 h_a2
  obtain ⟨la4, ra4, rfl, pa4, h_a4⟩ := inv_sl W163 h_a3
  obtain ⟨la5, ra5, rfl, pa5, h_a5⟩ := inv_sl W85 h_a4
  obtain ⟨la6, ra6, rfl, pa6, h_a6⟩ := inv_sl W9 h_a5
  cases inv_nil h_a6
  rw [E57] at h'
  obtain ⟨nc0, rc0, rfl, pc0, hq_c0⟩ := inv_i h'
  obtain ⟨nc1, rc1, rfl, pc1, hq_c1⟩ := inv_i hq_c0
  obtain ⟨nc2, rc2, rfl, pc2, hq_c2⟩ := inv_i hq_c1
  obtain ⟨lc3, rc3, rfl, pc3, hq_c3⟩ := inv_sl W157 hq_c2
  obtain ⟨lc4, rc4, rfl, pc4, hq_c4⟩ := inv_sl W163 hq_c3
  obtain ⟨lc5, rc5, rfl, pc5, hq_c5⟩ := inv_sl W85 hq_c4
  obtain ⟨lc6, rc6, rfl, pc6, hq_c6⟩ := inv_sl W9 hq_c5
  cases inv_nil hq_c6
  have e1 : la5 = a := by simpa using ha
  have e2 : lc5 = b := by simpa using hb
  subst e1 e2
  refine Ev.of (af := a19) rfl rfl (Evt.congr (fun d n => a19q ..) ?_)
  refine ev_aft (L := fun d n => l19x0 (TabD fs d) d n [(.b [.v (.int .i64 na0), .v (.int .i64 na1), .v (.int .i64 na2), .fz 13 la3, .fz 6 la4, .fz 5 la5, .fz 1 la6]), (.b [.v (.int .i64 nc0), .v (.int .i64 nc1), .v (.int .i64 nc2), .fz 13 lc3, .fz 6 lc4, .fz 5 lc5, .fz 1 lc6]), .v (.int .i64 0), .v (.int .i64 0)]) (fold_loop (L := fun d n acc i => l19x0 (TabD fs d) d n [(.b [.v (.int .i64 na0), .v (.int .i64 na1), .v (.int .i64 na2), .fz 13 la3, .fz 6 la4, .fz 5 la5, .fz 1 la6]), (.b [.v (.int .i64 nc0), .v (.int .i64 nc1), .v (.int .i64 nc2), .fz 13 lc3, .fz 6 lc4, .fz 5 lc5, .fz 1 lc6]), .v (.int .i64 acc), .v (.int .i64 i)]) (a := lc5) (f := addPos la5) (acc := 0) (Y := fun acc => (.exit 0, [.v (.int .i64 acc)])) (fun _ _ => True) (fun d n acc => ?_) (fun i x acc res hi hx _ k => ?_) (fun _ _ _ _ _ _ => trivial) trivial).1 ?_
  · rw [l19x0s]
    simp only [cI, cB, cS, cL, oD_d, oG_g, oT_t, oP_p, dI_v, dB_v, dS_v, dL_s, cell_z, cell_s, nth_z, nth_s, aV_z, aV_s, aI_v, aB_v, aS_v, aL_f, aO_o, aX_b, tst_t, cond_true, cond_false, Ex.same, Nat.beq, List.length_cons, List.length_nil, Int.toNat_natCast, Int.lt_irrefl, decide_false]
  · have w := pc5.at hx
    rw [E85] at w
    obtain ⟨nx0, rx0, rfl, px0, w_x0⟩ := inv_i w
    obtain ⟨sx1, rx1, rfl, px1, w_x1⟩ := inv_s w_x0
    obtain ⟨nx2, rx2, rfl, px2, w_x2⟩ := inv_i w_x1
    obtain ⟨nx3, rx3, rfl, px3, w_x3⟩ := inv_i w_x2
    obtain ⟨nx4, rx4, rfl, px4, w_x4⟩ := inv_i w_x3
    cases inv_nil w_x4
    simp only [l19x0s]
    simp only [cI, cB, cS, cL, oD_d, oG_g, oT_t, oP_p, dI_v, dB_v, dS_v, dL_s, cell_z, cell_s, nth_z, nth_s, aV_z, aV_s, aI_v, aB_v, aS_v, aL_f, aO_o, aX_b, tst_t, cond_true, cond_false, Ex.same, Nat.beq, List.length_cons, List.length_nil, Int.toNat_natCast, decide_eq_true (Int.ofNat_lt.2 hi), dec_nn, look_at hx, wrap_succ hi pc5.le]
    refine ev_call (f52 kk nx0 sx1 rfl) ?_
    simp only [cI, cB, cS, cL, oD_d, oG_g, oT_t, oP_p, dI_v, dB_v, dS_v, dL_s, cell_z, cell_s, nth_z, nth_s, aV_z, aV_s, aI_v, aB_v, aS_v, aL_f, aO_o, aX_b, tst_t, cond_true, cond_false, Ex.same, Nat.beq, List.length_cons, List.length_nil, Int.toNat_natCast]
    simp only [addPos, cN, cT, List.getElem?_cons_zero, List.getElem?_cons_succ] at k
    simp only [posB] at k
    refine ev_if (fun hc => ?_) (fun hc => ?_)
    · rw [hc] at k
      exact k
    · rw [hc] at k
      exact k
  · simp only [cI, cB, cS, cL, oD_d, oG_g, oT_t, oP_p, dI_v, dB_v, dS_v, dL_s, cell_z, cell_s, nth_z, nth_s, aV_z, aV_s, aI_v, aB_v, aS_v, aL_f, aO_o, aX_b, tst_t, cond_true, cond_false, Ex.same, Nat.beq, List.length_cons, List.length_nil, Int.toNat_natCast]
    exact Evt.ret
theorem f21 {row row' : Row} (h : ShL E (E 57) row) (h' : ShL E (E 57) row') {a b : Rows} (ha : row[5]? = some (.s 5 a)) (hb : row'[5]? = some (.s 5 b)) : Ev fs 21 [.g row, .g row'] (io (moves a b)) := by
  rw [E57] at h
  obtain ⟨na0, ra0, rfl, pa0, h_a0⟩ := inv_i h
  obtain ⟨na1, ra1, rfl, pa1, h_a1⟩ := inv_i h_a0
  obtain ⟨na2, ra2, rfl, pa2, h_a2⟩ := inv_i h_a1
  obtain ⟨la3, ra3, rfl, pa3, h_a3⟩ := inv_sl W157 h_a2
  obtain ⟨la4, ra4, rfl, pa4, h_a4⟩ := inv_sl W163 h_a3
  obtain ⟨la5, ra5, rfl, pa5, h_a5⟩ := inv_sl W85 h_a4
  obtain ⟨la6, ra6, rfl, pa6, h_a6⟩ := inv_sl W9 h_a5
  cases inv_nil h_a6
  rw [E57] at h'
  obtain ⟨nc0, rc0, rfl, pc0, hq_c0⟩ := inv_i h'
  obtain ⟨nc1, rc1, rfl, pc1, hq_c1⟩ := inv_i hq_c0
  obtain ⟨nc2, rc2, rfl, pc2, hq_c2⟩ := inv_i hq_c1
  obtain ⟨lc3, rc3, rfl, pc3, hq_c3⟩ := inv_sl W157 hq_c2
  obtain ⟨lc4, rc4, rfl, pc4, hq_c4⟩ := inv_sl W163 hq_c3
  obtain ⟨lc5, rc5, rfl, pc5, hq_c5⟩ := inv_sl W85 hq_c4
  obtain ⟨lc6, rc6, rfl, pc6, hq_c6⟩ := inv_sl W9 hq_c5
  cases inv_nil hq_c6
  have e1 : la5 = a := by simpa using ha
  have e2 : lc5 = b := by simpa using hb
  subst e1 e2
  refine Ev.of (af := a21) rfl rfl (Evt.congr (fun d n => a21q ..) ?_)
  refine ev_aft (L := fun d n => l21x0 (TabD fs d) d n [(.b [.v (.int .i64 na0), .v (.int .i64 na1), .v (.int .i64 na2), .fz 13 la3, .fz 6 la4, .fz 5 la5, .fz 1 la6]), .v (.int .i64 0), .fz 5 lc5, .v (.int .i64 (lc5.length : Int)), .v (.int .i64 0)]) (fold_loop (L := fun d n acc i => l21x0 (TabD fs d) d n [(.b [.v (.int .i64 na0), .v (.int .i64 na1), .v (.int .i64 na2), .fz 13 la3, .fz 6 la4, .fz 5 la5, .fz 1 la6]), .v (.int .i64 acc), .fz 5 lc5, .v (.int .i64 (lc5.length : Int)), .v (.int .i64 i)]) (a := lc5) (f := addPos la5) (acc := 0) (Y := fun acc => (.exit 0, [.v (.int .i64 acc)])) (fun _ acc => Fits acc) (fun d n acc => ?_) (fun i x acc res hi hx hI k => ?_) (fun i x acc hi hx hI => ?_) (by decide)).1 ?_
  · rw [l21x0s]
    simp only [cI, cB, cS, cL, oD_d, oG_g, oT_t, oP_p, dI_v, dB_v, dS_v, dL_s, cell_z, cell_s, nth_z, nth_s, aV_z, aV_s, aI_v, aB_v, aS_v, aL_f, aO_o, aX_b, tst_t, cond_true, cond_false, Ex.same, Nat.beq, List.length_cons, List.length_nil, Int.toNat_natCast, Int.lt_irrefl, decide_false]
  · have w := pc5.at hx
    have w' := w
    rw [E85] at w
    obtain ⟨nx0, rx0, rfl, px0, w_x0⟩ := inv_i w
    obtain ⟨sx1, rx1, rfl, px1, w_x1⟩ := inv_s w_x0
    obtain ⟨nx2, rx2, rfl, px2, w_x2⟩ := inv_i w_x1
    obtain ⟨nx3, rx3, rfl, px3, w_x3⟩ := inv_i w_x2
    obtain ⟨nx4, rx4, rfl, px4, w_x4⟩ := inv_i w_x3
    cases inv_nil w_x4
    simp only [l21x0s]
    simp only [cI, cB, cS, cL, oD_d, oG_g, oT_t, oP_p, dI_v, dB_v, dS_v, dL_s, cell_z, cell_s, nth_z, nth_s, aV_z, aV_s, aI_v, aB_v, aS_v, aL_f, aO_o, aX_b, tst_t, cond_true, cond_false, Ex.same, Nat.beq, List.length_cons, List.length_nil, Int.toNat_natCast, decide_eq_true (Int.ofNat_lt.2 hi), dec_nn, look_at hx, wrap_succ hi pc5.le]
    refine ev_call (f57 pa5 (p := isHold nx0 sx1) (fun i y hy => f58 w' (pa5.at hy))) ?_
    simp only [cI, cB, cS, cL, oD_d, oG_g, oT_t, oP_p, dI_v, dB_v, dS_v, dL_s, cell_z, cell_s, nth_z, nth_s, aV_z, aV_s, aI_v, aB_v, aS_v, aL_f, aO_o, aX_b, tst_t, cond_true, cond_false, Ex.same, Nat.beq, List.length_cons, List.length_nil, Int.toNat_natCast]
    have hf := findN_find (p := isHold nx0 sx1) (l := la5)
    simp only [addPos, copiesOf, cN, cT, List.getElem?_cons_zero, List.getElem?_cons_succ] at k
    rw [← hf] at k
    have add0 : ∀ v : Int, IntKind.i64.wrap (acc + (bif decide (0 > v) then 0 else v)) = bif decide (v > 0) then IntKind.i64.wrap (acc + v) else acc := fun v => by
      rcases Int.lt_trichotomy v 0 with h | h | h
      · have h1 : ¬ v > 0 := by omega
        simp only [decide_eq_true h, h1, decide_false, cond_true, cond_false, Int.add_zero, wrap_fit hI]
      · subst h
        simp only [Int.lt_irrefl, decide_false, cond_false, Int.add_zero, wrap_fit hI]
      · have h1 : ¬ 0 > v := by omega
        have h2 : v > 0 := h
        simp only [decide_eq_true h2, h1, decide_false, cond_true, cond_false]
    unfold idxR
    cases hq : findN la5.length (fun i => isHold nx0 sx1 (la5[i]?.getD [])) with
    | none =>
      simp only [hq, Int.sub_zero, wrap_fit px2] at k
      simp only [posB] at k
      simp only [cI, cB, cS, cL, oD_d, oG_g, oT_t, oP_p, dI_v, dB_v, dS_v, dL_s, cell_z, cell_s, nth_z, nth_s, aV_z, aV_s, aI_v, aB_v, aS_v, aL_f, aO_o, aX_b, tst_t, cond_true, cond_false, Ex.same, Nat.beq, List.length_cons, List.length_nil, Int.toNat_natCast, show decide ((-1 : Int) ≥ 0) = false from rfl, add0]
      cases hd : decide (nx2 > 0) with
      | true => rw [hd] at k; exact k
      | false => rw [hd] at k; exact k
    | some j =>
      obtain ⟨hj, _⟩ := findN_some.1 hq
      have hy := List.getElem?_eq_getElem hj
      simp only [hq, hy] at k
      generalize la5[j] = y at hy k
      have v := pa5.at hy
      rw [E85] at v
      obtain ⟨ny0, ry0, rfl, py0, v_y0⟩ := inv_i v
      obtain ⟨sy1, ry1, rfl, py1, v_y1⟩ := inv_s v_y0
      obtain ⟨ny2, ry2, rfl, py2, v_y2⟩ := inv_i v_y1
      obtain ⟨ny3, ry3, rfl, py3, v_y3⟩ := inv_i v_y2
      obtain ⟨ny4, ry4, rfl, py4, v_y4⟩ := inv_i v_y3
      cases inv_nil v_y4
      simp only [cI, cB, cS, cL, oD_d, oG_g, oT_t, oP_p, dI_v, dB_v, dS_v, dL_s, cell_z, cell_s, nth_z, nth_s, aV_z, aV_s, aI_v, aB_v, aS_v, aL_f, aO_o, aX_b, tst_t, cond_true, cond_false, Ex.same, Nat.beq, List.length_cons, List.length_nil, Int.toNat_natCast, show decide (((j : Nat) : Int) ≥ 0) = true from by simp, dec_nn, look_at hy, add0]
      simp only [cN, List.getElem?_cons_zero, List.getElem?_cons_succ] at k
      simp only [posB] at k
      cases hd : decide (IntKind.i64.wrap (nx2 - ny2) > 0) with
      | true => rw [hd] at k; exact k
      | false => rw [hd] at k; exact k
  · unfold addPos
    cases posB (IntKind.i64.wrap (cN x 2 - copiesOf la5 (cN x 0) (cT x 1))) with
    | true => exact wrap_fits _
    | false => exact hI
  · simp only [cI, cB, cS, cL, oD_d, oG_g, oT_t, oP_p, dI_v, dB_v, dS_v, dL_s, cell_z, cell_s, nth_z, nth_s, aV_z, aV_s, aI_v, aB_v, aS_v, aL_f, aO_o, aX_b, tst_t, cond_true, cond_false, Ex.same, Nat.beq, List.length_cons, List.length_nil, Int.toNat_natCast]
    exact Evt.ret
end Go.Am.Mo
