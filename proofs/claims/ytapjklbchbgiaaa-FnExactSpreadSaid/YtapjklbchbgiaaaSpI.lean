/- What Spread's own functions say in the end. Nothing is assumed. -/
import Derived.Test.YtapjklbchbgiaaaSpH
namespace Go.Am.Sp
set_option linter.unusedVariables false
set_option linter.unusedSimpArgs false
set_option maxRecDepth 8000
/- The library's stable sort at Part. -/
noncomputable def sf : SortFam fs E 101 2 where
  nSwp := 182
  aSwp := a182
  hSwp := rfl
  nRot := 165
  aRot := a165
  hRot := rfl
  nSym := 142
  aSym := a142
  hSym := rfl
  nIns := 141
  aIns := a141
  hIns := rfl
  nStb := 116
  aStb := a116
  hStb := rfl
  nSort := 68
  aSort := a68
  hSort := rfl
  mSwp := fun _ _ _ _ _ => rfl
  mRot := fun _ _ _ _ _ => rfl
  mSym := fun _ _ _ _ _ => rfl
  mIns := fun _ _ _ _ => rfl
  mStb := fun _ _ _ => rfl
  mSort := fun _ _ => rfl
  LSwp := l182x0
  LRot := l165x0
  LI0 := l141x0
  LI1 := l141x1
  LB0 := l116x0
  LB1 := l116x1
  LB2 := l116x2
  LS0 := l142x0
  LS1 := l142x1
  LS2 := l142x2
  LS3 := l142x3
  LS4 := l142x4
  eSwp := fun _ _ _ _ _ _ _ _ => a182q ..
  eRot := fun _ _ _ _ _ _ _ _ => a165q ..
  eSym := fun _ _ _ _ _ _ _ _ => a142q ..
  eIns := fun _ _ _ _ _ _ _ => a141q ..
  eStb := fun _ _ _ _ _ _ => a116q ..
  eSort := fun _ _ _ _ _ => a68q ..
  zSwp := fun T k m l a b n i h => by rw [l182x0s, h]; rfl
  sSwp := fun T k m l a b n i p q u v hl h1 h2 h3 hx0 hy0 => by
      have hx := hl.at hx0
      rw [E101] at hx
      obtain ⟨sx0, rx0, rfl, px0, hx_x0⟩ := inv_s hx
      obtain ⟨nx1, rx1, rfl, px1, hx_x1⟩ := inv_i hx_x0
      cases inv_nil hx_x1
      have hy := hl.at hy0
      rw [E101] at hy
      obtain ⟨sy0, ry0, rfl, py0, hy_y0⟩ := inv_s hy
      obtain ⟨ny1, ry1, rfl, py1, hy_y1⟩ := inv_i hy_y0
      cases inv_nil hy_y1
      have h2 : IntKind.wrap .i64 (a + i) = (p : Int) := h2
      have h3 : IntKind.wrap .i64 (b + i) = (q : Int) := h3
      have e1 : setD (setD l p 0 (.v (.string sy0))) p 1 (.v (.int .i64 ny1)) = l.set p [(.v (.string sy0)), (.v (.int .i64 ny1))] := setD_two ⟨_, hx0, rfl⟩
      have e2 : setD (setD (l.set p [(.v (.string sy0)), (.v (.int .i64 ny1))]) q 0 (.v (.string sx0))) q 1 (.v (.int .i64 nx1)) = (l.set p [(.v (.string sy0)), (.v (.int .i64 ny1))]).set q [(.v (.string sx0)), (.v (.int .i64 nx1))] := setD_two (set_has hy0 rfl)
      simp only [l182x0s]
      simp -implicitDefEqProofs only [cI, cB, cS, cL, oD_d, oG_g, oT_t, oP_p, dI_v, dB_v, dS_v, dL_s, cell_z, cell_s, nth_z, nth_s, aV_z, aV_s, aI_v, aB_v, aS_v, aL_f, aO_o, aX_b, tst_t, cond_true, cond_false, Ex.same, Nat.beq, List.length_cons, List.length_nil, Int.toNat_natCast, beqTT, beqTF, beqFT, beqFF, h1, h2, h3, dec_nn, lt_of_at hx0, lt_of_at hy0, look_at hx0, look_at hy0, Bool.and_self, setD_len, e1, e2, List.length_set]
  sRot := fun _ _ _ _ _ _ _ _ _ => l165x0s ..
  sI0 := fun _ _ _ _ _ _ _ _ _ => l141x0s ..
  zI1 := fun T k n l a b f cs i j h => by rw [l141x1s, h]; rfl
  sI1 := fun T k n l a b f cs i j p x y hl h1 h2 hx0 hy0 => by
      have hx := hl.at hx0
      rw [E101] at hx
      obtain ⟨sx0, rx0, rfl, px0, hx_x0⟩ := inv_s hx
      obtain ⟨nx1, rx1, rfl, px1, hx_x1⟩ := inv_i hx_x0
      cases inv_nil hx_x1
      have hy := hl.at hy0
      rw [E101] at hy
      obtain ⟨sy0, ry0, rfl, py0, hy_y0⟩ := inv_s hy
      obtain ⟨ny1, ry1, rfl, py1, hy_y1⟩ := inv_i hy_y0
      cases inv_nil hy_y1
      have h2 : IntKind.wrap .i64 ((j : Int) - 1) = (p : Int) := h2
      have e1 : setD (setD l j 0 (.v (.string sy0))) j 1 (.v (.int .i64 ny1)) = l.set j [(.v (.string sy0)), (.v (.int .i64 ny1))] := setD_two ⟨_, hx0, rfl⟩
      have e2 : setD (setD (l.set j [(.v (.string sy0)), (.v (.int .i64 ny1))]) p 0 (.v (.string sx0))) p 1 (.v (.int .i64 nx1)) = (l.set j [(.v (.string sy0)), (.v (.int .i64 ny1))]).set p [(.v (.string sx0)), (.v (.int .i64 nx1))] := setD_two (set_has hy0 rfl)
      simp only [l141x1s]
      simp -implicitDefEqProofs only [cI, cB, cS, cL, oD_d, oG_g, oT_t, oP_p, dI_v, dB_v, dS_v, dL_s, cell_z, cell_s, nth_z, nth_s, aV_z, aV_s, aI_v, aB_v, aS_v, aL_f, aO_o, aX_b, tst_t, cond_true, cond_false, Ex.same, Nat.beq, List.length_cons, List.length_nil, Int.toNat_natCast, beqTT, beqTF, beqFT, beqFF, h1, h2, dec_nn, lt_of_at hx0, lt_of_at hy0, look_at hx0, look_at hy0, Bool.and_self, setD_len, e1, e2, List.length_set]
  zS0 := fun T k n l a f cs i j h => by rw [l142x0s, h]; rfl
  sS0 := fun T k n l a f cs i j h x y hl h1 h2 hx0 hy0 => by
      have hx := hl.at hx0
      rw [E101] at hx
      obtain ⟨sx0, rx0, rfl, px0, hx_x0⟩ := inv_s hx
      obtain ⟨nx1, rx1, rfl, px1, hx_x1⟩ := inv_i hx_x0
      cases inv_nil hx_x1
      have hy := hl.at hy0
      rw [E101] at hy
      obtain ⟨sy0, ry0, rfl, py0, hy_y0⟩ := inv_s hy
      obtain ⟨ny1, ry1, rfl, py1, hy_y1⟩ := inv_i hy_y0
      cases inv_nil hy_y1
      have h2 : IntKind.wrap .i64 (Int.fdiv (IntKind.wrap .u64 (IntKind.wrap .i64 (i + j))) (2 ^ 1)) = (h : Int) := h2
      simp only [l142x0s]
      simp -implicitDefEqProofs only [cI, cB, cS, cL, oD_d, oG_g, oT_t, oP_p, dI_v, dB_v, dS_v, dL_s, cell_z, cell_s, nth_z, nth_s, aV_z, aV_s, aI_v, aB_v, aS_v, aL_f, aO_o, aX_b, tst_t, cond_true, cond_false, Ex.same, Nat.beq, List.length_cons, List.length_nil, Int.toNat_natCast, beqTT, beqTF, beqFT, beqFF, h1, h2, dec_nn, lt_of_at hx0, lt_of_at hy0, look_at hx0, look_at hy0, Bool.and_self, setD_len]
  zS1 := fun T k n l i j h => by rw [l142x1s, h]; rfl
  sS1 := fun T k n l i p q u v hl h1 h2 hx0 hy0 => by
      have hx := hl.at hx0
      rw [E101] at hx
      obtain ⟨sx0, rx0, rfl, px0, hx_x0⟩ := inv_s hx
      obtain ⟨nx1, rx1, rfl, px1, hx_x1⟩ := inv_i hx_x0
      cases inv_nil hx_x1
      have hy := hl.at hy0
      rw [E101] at hy
      obtain ⟨sy0, ry0, rfl, py0, hy_y0⟩ := inv_s hy
      obtain ⟨ny1, ry1, rfl, py1, hy_y1⟩ := inv_i hy_y0
      cases inv_nil hy_y1
      have h2 : IntKind.wrap .i64 ((p : Int) + 1) = (q : Int) := h2
      have h1 : decide ((p : Int) < IntKind.wrap .i64 (i - 1)) = true := h1
      have e1 : setD (setD l p 0 (.v (.string sy0))) p 1 (.v (.int .i64 ny1)) = l.set p [(.v (.string sy0)), (.v (.int .i64 ny1))] := setD_two ⟨_, hx0, rfl⟩
      have e2 : setD (setD (l.set p [(.v (.string sy0)), (.v (.int .i64 ny1))]) q 0 (.v (.string sx0))) q 1 (.v (.int .i64 nx1)) = (l.set p [(.v (.string sy0)), (.v (.int .i64 ny1))]).set q [(.v (.string sx0)), (.v (.int .i64 nx1))] := setD_two (set_has hy0 rfl)
      simp only [l142x1s]
      simp -implicitDefEqProofs only [cI, cB, cS, cL, oD_d, oG_g, oT_t, oP_p, dI_v, dB_v, dS_v, dL_s, cell_z, cell_s, nth_z, nth_s, aV_z, aV_s, aI_v, aB_v, aS_v, aL_f, aO_o, aX_b, tst_t, cond_true, cond_false, Ex.same, Nat.beq, List.length_cons, List.length_nil, Int.toNat_natCast, beqTT, beqTF, beqFT, beqFF, h1, h2, dec_nn, lt_of_at hx0, lt_of_at hy0, look_at hx0, look_at hy0, Bool.and_self, setD_len, e1, e2, List.length_set]
  zS2 := fun T k n l m f cs i j h => by rw [l142x2s, h]; rfl
  sS2 := fun T k n l m f cs i j h x y hl h1 h2 hx0 hy0 => by
      have hx := hl.at hx0
      rw [E101] at hx
      obtain ⟨sx0, rx0, rfl, px0, hx_x0⟩ := inv_s hx
      obtain ⟨nx1, rx1, rfl, px1, hx_x1⟩ := inv_i hx_x0
      cases inv_nil hx_x1
      have hy := hl.at hy0
      rw [E101] at hy
      obtain ⟨sy0, ry0, rfl, py0, hy_y0⟩ := inv_s hy
      obtain ⟨ny1, ry1, rfl, py1, hy_y1⟩ := inv_i hy_y0
      cases inv_nil hy_y1
      have h2 : IntKind.wrap .i64 (Int.fdiv (IntKind.wrap .u64 (IntKind.wrap .i64 (i + j))) (2 ^ 1)) = (h : Int) := h2
      simp only [l142x2s]
      simp -implicitDefEqProofs only [cI, cB, cS, cL, oD_d, oG_g, oT_t, oP_p, dI_v, dB_v, dS_v, dL_s, cell_z, cell_s, nth_z, nth_s, aV_z, aV_s, aI_v, aB_v, aS_v, aL_f, aO_o, aX_b, tst_t, cond_true, cond_false, Ex.same, Nat.beq, List.length_cons, List.length_nil, Int.toNat_natCast, beqTT, beqTF, beqFT, beqFF, h1, h2, dec_nn, lt_of_at hx0, lt_of_at hy0, look_at hx0, look_at hy0, Bool.and_self, setD_len]
  zS3 := fun T k n l i j h => by rw [l142x3s, h]; rfl
  sS3 := fun T k n l i p q u v hl h1 h2 hx0 hy0 => by
      have hx := hl.at hx0
      rw [E101] at hx
      obtain ⟨sx0, rx0, rfl, px0, hx_x0⟩ := inv_s hx
      obtain ⟨nx1, rx1, rfl, px1, hx_x1⟩ := inv_i hx_x0
      cases inv_nil hx_x1
      have hy := hl.at hy0
      rw [E101] at hy
      obtain ⟨sy0, ry0, rfl, py0, hy_y0⟩ := inv_s hy
      obtain ⟨ny1, ry1, rfl, py1, hy_y1⟩ := inv_i hy_y0
      cases inv_nil hy_y1
      have h2 : IntKind.wrap .i64 ((q : Int) - 1) = (p : Int) := h2
      have e1 : setD (setD l q 0 (.v (.string sx0))) q 1 (.v (.int .i64 nx1)) = l.set q [(.v (.string sx0)), (.v (.int .i64 nx1))] := setD_two ⟨_, hy0, rfl⟩
      have e2 : setD (setD (l.set q [(.v (.string sx0)), (.v (.int .i64 nx1))]) p 0 (.v (.string sy0))) p 1 (.v (.int .i64 ny1)) = (l.set q [(.v (.string sx0)), (.v (.int .i64 nx1))]).set p [(.v (.string sy0)), (.v (.int .i64 ny1))] := setD_two (set_has hx0 rfl)
      simp only [l142x3s]
      simp -implicitDefEqProofs only [cI, cB, cS, cL, oD_d, oG_g, oT_t, oP_p, dI_v, dB_v, dS_v, dL_s, cell_z, cell_s, nth_z, nth_s, aV_z, aV_s, aI_v, aB_v, aS_v, aL_f, aO_o, aX_b, tst_t, cond_true, cond_false, Ex.same, Nat.beq, List.length_cons, List.length_nil, Int.toNat_natCast, beqTT, beqTF, beqFT, beqFF, h1, h2, dec_nn, lt_of_at hx0, lt_of_at hy0, look_at hx0, look_at hy0, Bool.and_self, setD_len, e1, e2, List.length_set]
  zS4 := fun T k n' l a m b f cs mid n s r p h => by rw [l142x4s, h]; rfl
  sS4 := fun T k n' l a m b f cs mid n s r p c g x y hl h1 h2 h3 hx0 hy0 => by
      have hx := hl.at hx0
      rw [E101] at hx
      obtain ⟨sx0, rx0, rfl, px0, hx_x0⟩ := inv_s hx
      obtain ⟨nx1, rx1, rfl, px1, hx_x1⟩ := inv_i hx_x0
      cases inv_nil hx_x1
      have hy := hl.at hy0
      rw [E101] at hy
      obtain ⟨sy0, ry0, rfl, py0, hy_y0⟩ := inv_s hy
      obtain ⟨ny1, ry1, rfl, py1, hy_y1⟩ := inv_i hy_y0
      cases inv_nil hy_y1
      have h2 : IntKind.wrap .i64 (Int.fdiv (IntKind.wrap .u64 (IntKind.wrap .i64 (s + r))) (2 ^ 1)) = (c : Int) := h2
      have h3 : IntKind.wrap .i64 (p - (c : Int)) = (g : Int) := h3
      simp only [l142x4s]
      simp -implicitDefEqProofs only [cI, cB, cS, cL, oD_d, oG_g, oT_t, oP_p, dI_v, dB_v, dS_v, dL_s, cell_z, cell_s, nth_z, nth_s, aV_z, aV_s, aI_v, aB_v, aS_v, aL_f, aO_o, aX_b, tst_t, cond_true, cond_false, Ex.same, Nat.beq, List.length_cons, List.length_nil, Int.toNat_natCast, beqTT, beqTF, beqFT, beqFF, h1, h2, h3, dec_nn, lt_of_at hx0, lt_of_at hy0, look_at hx0, look_at hy0, Bool.and_self, setD_len]
  sB0 := fun _ _ _ _ _ _ _ _ _ _ => l116x0s ..
  sB2 := fun _ _ _ _ _ _ _ _ _ _ => l116x2s ..
  sB1 := fun _ _ _ _ _ _ _ _ => l116x1s ..
end Go.Am.Sp
