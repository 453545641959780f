/- What Spread's own functions say in the end. Nothing is assumed. -/
import Derived.Test.YtapjklbchbgiaaaSpI
namespace Go.Am.Sp
set_option linter.unusedVariables false
set_option linter.unusedSimpArgs false
set_option maxRecDepth 8000
def part (x : Row) : Row := [.v (.string (cT x 1)), .v (.int .i64 (cN x 2))]
def posN (n : Int) : Bool := decide (n > 0)
def addG (u : Int) (acc : Rows) (x : Row) : Rows := bif cN x 0 == u then (bif posN (cN x 2) then acc ++ [part x] else acc) else acc
noncomputable def addS (u : Int) (acc : Rows) (x : Row) : Rows := bif cN x 0 == u then (bif posN (cN x 2) then stab (upT 0) (acc ++ [part x]) else acc) else acc
noncomputable def sprd (u : Int) (l : Rows) : Rows := stab (upT 0) (l.foldl (addG u) [])
theorem addS_stab (u : Int) : ∀ (l g : Rows), l.foldl (addS u) (stab (upT 0) g) = stab (upT 0) (l.foldl (addG u) g)
  | [], g => rfl
  | x :: l, g => by
    simp only [List.foldl_cons]
    have : addS u (stab (upT 0) g) x = stab (upT 0) (addG u g x) := by
      unfold addS addG
      cases cN x 0 == u <;> simp only [cond_true, cond_false]
      cases posN (cN x 2) <;> simp only [cond_true, cond_false]
      exact stab_snoc (upT_swo 0)
    rw [this, addS_stab u l]
theorem addG_len (u : Int) : ∀ (l g : Rows), (l.foldl (addG u) g).length ≤ g.length + l.length
  | [], g => by simp
  | x :: l, g => by
    simp only [List.foldl_cons, List.length_cons]
    have h := addG_len u l (addG u g x)
    have : (addG u g x).length ≤ g.length + 1 := by
      unfold addG
      cases cN x 0 == u <;> cases posN (cN x 2) <;> simp
    omega
theorem addG_mem (u : Int) {P : Row → Prop} : ∀ (l g : Rows), (∀ x ∈ g, P x) → (∀ x ∈ l, P (part x)) → ∀ x ∈ l.foldl (addG u) g, P x
  | [], g, hg, _ => hg
  | y :: l, g, hg, hl => by
    simp only [List.foldl_cons]
    refine addG_mem u l _ (fun x hx => ?_) fun x hx => hl x (by simp [hx])
    unfold addG at hx
    cases h1 : cN y 0 == u <;> cases h2 : posN (cN y 2) <;> rw [h1] at hx <;> (try rw [h2] at hx) <;> simp only [cond_true, cond_false] at hx
    · exact hg x hx
    · exact hg x hx
    · exact hg x hx
    · rcases List.mem_append.1 hx with e | e
      · exact hg x e
      · simp at e; subst e; exact hl y (by simp)
theorem part_sh {x : Row} (h : ShL E (E 85) x) : ShL E (E 101) (part x) := by
  rw [E85] at h
  obtain ⟨na0, ra0, rfl, pa0, h_a0⟩ := inv_i h
  obtain ⟨sa1, ra1, rfl, pa1, h_a1⟩ := inv_s h_a0
  obtain ⟨na2, ra2, rfl, pa2, h_a2⟩ := inv_i h_a1
  obtain ⟨na3, ra3, rfl, pa3, h_a3⟩ := inv_i h_a2
  obtain ⟨na4, ra4, rfl, pa4, h_a4⟩ := inv_i h_a3
  cases inv_nil h_a4
  rw [E101]
  exact mk_s pa1 (mk_i pa2 .nil)
theorem sprd_len (u : Int) (l : Rows) : (sprd u l).length ≤ l.length := by
  have := addG_len u l []
  unfold sprd
  rw [stab_len (upT_swo 0)]
  simpa using this
theorem sl_addG (u : Int) {l : Rows} (h : SL E 85 l) : SL E 101 (l.foldl (addG u) []) :=
  ⟨by have := addG_len u l []; have := h.1; simp at *; omega, ShR.of_mem (addG_mem u l [] (by simp) fun x hx => part_sh (h.2.mem x hx))⟩
theorem sl_sprd (u : Int) {l : Rows} (h : SL E 85 l) : SL E 101 (sprd u l) :=
  (sl_addG u h).perm (stab_len (upT_swo 0)) fun x hx => (stab_mem (upT_swo 0)).1 hx
theorem cn_part : ∀ {l : Rows}, (∀ x ∈ l, ShL E (E 101) x) → cnRows l = 2 * l.length
  | [], _ => by simp [cnRows]
  | x :: l, h => by
    have h1 := h x (by simp)
    have h2 := cn_part (l := l) fun y hy => h y (by simp [hy])
    rw [E101] at h1
    obtain ⟨sa0, ra0, rfl, pa0, h1_a0⟩ := inv_s h1
    obtain ⟨na1, ra1, rfl, pa1, h1_a1⟩ := inv_i h1_a0
    cases inv_nil h1_a1
    simp only [cnRows, cnRow, List.length_cons, h2]
    omega
theorem f69 {x y : Row} (h : ShL E (E 101) x) (h' : ShL E (E 101) y) : ∃ c, Ev fs 69 [.g x, .g y] (io c) ∧ decide (c < 0) = upT 0 x y := by
  rw [E101] at h
  obtain ⟨sa0, ra0, rfl, pa0, h_a0⟩ := inv_s h
  obtain ⟨na1, ra1, rfl, pa1, h_a1⟩ := inv_i h_a0
  cases inv_nil h_a1
  rw [E101] at h'
  obtain ⟨sc0, rc0, rfl, pc0, hq_c0⟩ := inv_s h'
  obtain ⟨nc1, rc1, rfl, pc1, hq_c1⟩ := inv_i hq_c0
  cases inv_nil hq_c1
  have e : upT 0 [.v (.string sa0), .v (.int .i64 na1)] [.v (.string sc0), .v (.int .i64 nc1)] = bytesLess sa0 sc0 := rfl
  rw [e]
  cases hb : bytesLess sa0 sc0 with
  | true =>
    refine ⟨-1, Ev.of (af := a69) rfl rfl (Evt.congr (fun d n => a69q ..) ?_), by decide⟩
    simp -implicitDefEqProofs only [cI, cB, cS, cL, oD_d, oG_g, oT_t, oP_p, dI_v, dB_v, dS_v, dL_s, cell_z, cell_s, nth_z, nth_s, aV_z, aV_s, aI_v, aB_v, aS_v, aL_f, aO_o, aX_b, tst_t, cond_true, cond_false, Ex.same, Nat.beq, List.length_cons, List.length_nil, Int.toNat_natCast, beqTT, beqTF, beqFT, beqFF, hb]
    exact Evt.ret
  | false =>
    cases hc : bytesEq sa0 sc0 with
    | true =>
      refine ⟨0, Ev.of (af := a69) rfl rfl (Evt.congr (fun d n => a69q ..) ?_), by decide⟩
      simp -implicitDefEqProofs only [cI, cB, cS, cL, oD_d, oG_g, oT_t, oP_p, dI_v, dB_v, dS_v, dL_s, cell_z, cell_s, nth_z, nth_s, aV_z, aV_s, aI_v, aB_v, aS_v, aL_f, aO_o, aX_b, tst_t, cond_true, cond_false, Ex.same, Nat.beq, List.length_cons, List.length_nil, Int.toNat_natCast, beqTT, beqTF, beqFT, beqFF, hb, hc, Bool.or_true, Bool.not_true]
      exact Evt.ret
    | false =>
      refine ⟨1, Ev.of (af := a69) rfl rfl (Evt.congr (fun d n => a69q ..) ?_), by decide⟩
      simp -implicitDefEqProofs only [cI, cB, cS, cL, oD_d, oG_g, oT_t, oP_p, dI_v, dB_v, dS_v, dL_s, cell_z, cell_s, nth_z, nth_s, aV_z, aV_s, aI_v, aB_v, aS_v, aL_f, aO_o, aX_b, tst_t, cond_true, cond_false, Ex.same, Nat.beq, List.length_cons, List.length_nil, Int.toNat_natCast, beqTT, beqTF, beqFT, beqFF, hb, hc, Bool.or_false, Bool.not_false]
      exact Evt.ret
theorem sorts {l : Rows} (hl : SL E 101 l) (hsz : l.length ≤ 1073741824) : Ev fs 68 [.d (.s 2 l), .f 69 []] (lentO 2 (stab (upT 0) l)) := by
  obtain ⟨W, w1, w2⟩ := sort_ok sf (upT_swo 0) (f := 69) (cs := []) (fun x y hx hy => f69 hx hy) hl hsz
  rw [stab_of (upT_swo 0) w1] at w2
  exact w2
theorem f27 {row : Row} (h : ShL E (E 57) row) (u : Int) {l : Rows} (hl : row[5]? = some (.s 5 l)) (hsz : l.length ≤ 1048576) : Ev fs 27 [.g row, .d (.v (.int .i64 u))] ⟨.d (.s 2 (sprd u l)), []⟩ := by
  rw [E57] at h
  obtain ⟨na0, ra0, rfl, pa0, h_a0⟩ := inv_i h
  obtain ⟨na1, ra1, rfl, pa1, h_a1⟩ := inv_i h_a0
  obtain ⟨na2, ra2, rfl, pa2, h_a2⟩ := inv_i h_a1
  obtain ⟨la3, ra3, rfl, pa3, h_a3⟩ := inv_sl W157 h_a2
  obtain ⟨la4, ra4, rfl, pa4, h_a4⟩ := inv_sl W163 h_a3
  obtain ⟨la5, ra5, rfl, pa5, h_a5⟩ := inv_sl W85 h_a4
  obtain ⟨la6, ra6, rfl, pa6, h_a6⟩ := inv_sl W9 h_a5
  cases inv_nil h_a6
  have el : la5 = l := by simpa using hl
  subst el
  refine Ev.of (af := a27) rfl rfl (Evt.congr (fun d n => a27q ..) ?_)
  refine ev_aft (L := fun d n => l27x0 (TabD fs d) d n [.v (.int .i64 u), .o 2 [], .fz 5 la5, .v (.int .i64 (la5.length : Int)), .v (.int .i64 0)]) (fold_loop (L := fun d n acc i => l27x0 (TabD fs d) d n [.v (.int .i64 u), .o 2 acc, .fz 5 la5, .v (.int .i64 (la5.length : Int)), .v (.int .i64 i)]) (a := la5) (f := addG u) (acc := []) (Y := fun acc => (.exit 0, [.o 2 acc])) (fun i acc => acc.length ≤ i) (fun d n acc => ?_) (fun i x acc res hi hx hI k => ?_) (fun i x acc hi hx hI => ?_) (by simp)).1 ?_
  · rw [l27x0s]
    simp -implicitDefEqProofs only [cI, cB, cS, cL, oD_d, oG_g, oT_t, oP_p, dI_v, dB_v, dS_v, dL_s, cell_z, cell_s, nth_z, nth_s, aV_z, aV_s, aI_v, aB_v, aS_v, aL_f, aO_o, aX_b, tst_t, cond_true, cond_false, Ex.same, Nat.beq, List.length_cons, List.length_nil, Int.toNat_natCast, beqTT, beqTF, beqFT, beqFF, Int.lt_irrefl, decide_false]
  · have w := pa5.at hx
    rw [E85] at w
    obtain ⟨nx0, rx0, rfl, px0, w_x0⟩ := inv_i w
    obtain ⟨sx1, rx1, rfl, px1, w_x1⟩ := inv_s w_x0
    obtain ⟨nx2, rx2, rfl, px2, w_x2⟩ := inv_i w_x1
    obtain ⟨nx3, rx3, rfl, px3, w_x3⟩ := inv_i w_x2
    obtain ⟨nx4, rx4, rfl, px4, w_x4⟩ := inv_i w_x3
    cases inv_nil w_x4
    have hb : decide ((acc.length + (0 + 1)) * 24 ≤ maxBytes) = true := decide_eq_true (by simp only [maxBytes]; omega)
    simp only [l27x0s]
    simp -implicitDefEqProofs only [cI, cB, cS, cL, oD_d, oG_g, oT_t, oP_p, dI_v, dB_v, dS_v, dL_s, cell_z, cell_s, nth_z, nth_s, aV_z, aV_s, aI_v, aB_v, aS_v, aL_f, aO_o, aX_b, tst_t, cond_true, cond_false, Ex.same, Nat.beq, List.length_cons, List.length_nil, Int.toNat_natCast, beqTT, beqTF, beqFT, beqFF, hb, decide_eq_true (Int.ofNat_lt.2 hi), dec_nn, look_at hx, wrap_succ hi pa5.le, beq_t]
    simp only [addG, part, cN, cT, List.getElem?_cons_zero, List.getElem?_cons_succ] at k
    simp only [posN] at k
    refine ev_if (fun hc => ?_) (fun hc => ?_)
    · rw [hc] at k
      refine ev_if (fun hd => ?_) (fun hd => ?_)
      · rw [hd] at k
        exact k
      · rw [hd] at k
        exact k
    · rw [hc] at k
      exact k
  · unfold addG
    cases cN x 0 == u <;> cases posN (cN x 2) <;> simp <;> omega
  · simp -implicitDefEqProofs only [cI, cB, cS, cL, oD_d, oG_g, oT_t, oP_p, dI_v, dB_v, dS_v, dL_s, cell_z, cell_s, nth_z, nth_s, aV_z, aV_s, aI_v, aB_v, aS_v, aL_f, aO_o, aX_b, tst_t, cond_true, cond_false, Ex.same, Nat.beq, List.length_cons, List.length_nil, Int.toNat_natCast, beqTT, beqTF, beqFT, beqFF]
    refine ev_call (sorts (sl_addG u pa5) (by have := addG_len u la5 []; simp at this; omega)) ?_
    simp -implicitDefEqProofs only [cI, cB, cS, cL, oD_d, oG_g, oT_t, oP_p, dI_v, dB_v, dS_v, dL_s, cell_z, cell_s, nth_z, nth_s, aV_z, aV_s, aI_v, aB_v, aS_v, aL_f, aO_o, aX_b, tst_t, cond_true, cond_false, Ex.same, Nat.beq, List.length_cons, List.length_nil, Int.toNat_natCast, beqTT, beqTF, beqFT, beqFF, lentO]
    exact Evt.ret
end Go.Am.Sp
