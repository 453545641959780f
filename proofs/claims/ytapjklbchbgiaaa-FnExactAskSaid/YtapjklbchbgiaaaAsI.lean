/- The library's stable sort and CompactFunc at runs. Nothing is assumed. -/
import Derived.Test.YtapjklbchbgiaaaAsP
namespace Go.Am.As
set_option linter.unusedVariables false
set_option linter.unusedSimpArgs false
set_option maxRecDepth 8000
/- The library's stable sort at Run. -/
noncomputable def sf : SortFam fs E 127 2 where
  nSwp := 187
  aSwp := a187
  hSwp := rfl
  nRot := 181
  aRot := a181
  hRot := rfl
  nSym := 164
  aSym := a164
  hSym := rfl
  nIns := 163
  aIns := a163
  hIns := rfl
  nStb := 140
  aStb := a140
  hStb := rfl
  nSort := 112
  aSort := a112
  hSort := rfl
  mSwp := fun _ _ _ _ _ => rfl
  mRot := fun _ _ _ _ _ => rfl
  mSym := fun _ _ _ _ _ => rfl
  mIns := fun _ _ _ _ => rfl
  mStb := fun _ _ _ => rfl
  mSort := fun _ _ => rfl
  LSwp := l187x0
  LRot := l181x0
  LI0 := l163x0
  LI1 := l163x1
  LB0 := l140x0
  LB1 := l140x1
  LB2 := l140x2
  LS0 := l164x0
  LS1 := l164x1
  LS2 := l164x2
  LS3 := l164x3
  LS4 := l164x4
  eSwp := fun _ _ _ _ _ _ _ _ => a187q ..
  eRot := fun _ _ _ _ _ _ _ _ => a181q ..
  eSym := fun _ _ _ _ _ _ _ _ => a164q ..
  eIns := fun _ _ _ _ _ _ _ => a163q ..
  eStb := fun _ _ _ _ _ _ => a140q ..
  eSort := fun _ _ _ _ _ => a112q ..
  zSwp := fun T k m l a b n i h => by rw [l187x0s, h]; rfl
  sSwp := fun T k m l a b n i p q u v hl h1 h2 h3 hx0 hy0 => by
      have hx := hl.at hx0
      rw [E127] at hx
      obtain ⟨nx0, rx0, rfl, px0, hx_x0⟩ := inv_i hx
      obtain ⟨nx1, rx1, rfl, px1, hx_x1⟩ := inv_i hx_x0
      cases inv_nil hx_x1
      have hy := hl.at hy0
      rw [E127] at hy
      obtain ⟨ny0, ry0, rfl, py0, hy_y0⟩ := inv_i hy
      obtain ⟨ny1, ry1, rfl, py1, hy_y1⟩ := inv_i hy_y0
      cases inv_nil hy_y1
      have h2 : IntKind.wrap .i64 (a + i) = (p : Int) := h2
      have h3 : IntKind.wrap .i64 (b + i) = (q : Int) := h3
      have e1 : setD (setD l p 0 (.v (.int .i64 ny0))) p 1 (.v (.int .i64 ny1)) = l.set p [(.v (.int .i64 ny0)), (.v (.int .i64 ny1))] := setD_two ⟨_, hx0, rfl⟩
      have e2 : setD (setD (l.set p [(.v (.int .i64 ny0)), (.v (.int .i64 ny1))]) q 0 (.v (.int .i64 nx0))) q 1 (.v (.int .i64 nx1)) = (l.set p [(.v (.int .i64 ny0)), (.v (.int .i64 ny1))]).set q [(.v (.int .i64 nx0)), (.v (.int .i64 nx1))] := setD_two (set_has hy0 rfl)
      simp only [l187x0s]
      simp -implicitDefEqProofs only [cI, cB, cS, cL, oD_d, oG_g, oT_t, oP_p, dI_v, dB_v, dS_v, dL_s, cell_z, cell_s, nth_z, nth_s, aV_z, aV_s, aI_v, aB_v, aS_v, aL_f, aO_o, aX_b, tst_t, cond_true, cond_false, Ex.same, Nat.beq, List.length_cons, List.length_nil, Int.toNat_natCast, beqTT, beqTF, beqFT, beqFF, h1, h2, h3, dec_nn, lt_of_at hx0, lt_of_at hy0, look_at hx0, look_at hy0, Bool.and_self, setD_len, e1, e2, List.length_set]
  sRot := fun _ _ _ _ _ _ _ _ _ => l181x0s ..
  sI0 := fun _ _ _ _ _ _ _ _ _ => l163x0s ..
  zI1 := fun T k n l a b f cs i j h => by rw [l163x1s, h]; rfl
  sI1 := fun T k n l a b f cs i j p x y hl h1 h2 hx0 hy0 => by
      have hx := hl.at hx0
      rw [E127] at hx
      obtain ⟨nx0, rx0, rfl, px0, hx_x0⟩ := inv_i hx
      obtain ⟨nx1, rx1, rfl, px1, hx_x1⟩ := inv_i hx_x0
      cases inv_nil hx_x1
      have hy := hl.at hy0
      rw [E127] at hy
      obtain ⟨ny0, ry0, rfl, py0, hy_y0⟩ := inv_i hy
      obtain ⟨ny1, ry1, rfl, py1, hy_y1⟩ := inv_i hy_y0
      cases inv_nil hy_y1
      have h2 : IntKind.wrap .i64 ((j : Int) - 1) = (p : Int) := h2
      have e1 : setD (setD l j 0 (.v (.int .i64 ny0))) j 1 (.v (.int .i64 ny1)) = l.set j [(.v (.int .i64 ny0)), (.v (.int .i64 ny1))] := setD_two ⟨_, hx0, rfl⟩
      have e2 : setD (setD (l.set j [(.v (.int .i64 ny0)), (.v (.int .i64 ny1))]) p 0 (.v (.int .i64 nx0))) p 1 (.v (.int .i64 nx1)) = (l.set j [(.v (.int .i64 ny0)), (.v (.int .i64 ny1))]).set p [(.v (.int .i64 nx0)), (.v (.int .i64 nx1))] := setD_two (set_has hy0 rfl)
      simp only [l163x1s]
      simp -implicitDefEqProofs only [cI, cB, cS, cL, oD_d, oG_g, oT_t, oP_p, dI_v, dB_v, dS_v, dL_s, cell_z, cell_s, nth_z, nth_s, aV_z, aV_s, aI_v, aB_v, aS_v, aL_f, aO_o, aX_b, tst_t, cond_true, cond_false, Ex.same, Nat.beq, List.length_cons, List.length_nil, Int.toNat_natCast, beqTT, beqTF, beqFT, beqFF, h1, h2, dec_nn, lt_of_at hx0, lt_of_at hy0, look_at hx0, look_at hy0, Bool.and_self, setD_len, e1, e2, List.length_set]
  zS0 := fun T k n l a f cs i j h => by rw [l164x0s, h]; rfl
  sS0 := fun T k n l a f cs i j h x y hl h1 h2 hx0 hy0 => by
      have hx := hl.at hx0
      rw [E127] at hx
      obtain ⟨nx0, rx0, rfl, px0, hx_x0⟩ := inv_i hx
      obtain ⟨nx1, rx1, rfl, px1, hx_x1⟩ := inv_i hx_x0
      cases inv_nil hx_x1
      have hy := hl.at hy0
      rw [E127] at hy
      obtain ⟨ny0, ry0, rfl, py0, hy_y0⟩ := inv_i hy
      obtain ⟨ny1, ry1, rfl, py1, hy_y1⟩ := inv_i hy_y0
      cases inv_nil hy_y1
      have h2 : IntKind.wrap .i64 (Int.fdiv (IntKind.wrap .u64 (IntKind.wrap .i64 (i + j))) (2 ^ 1)) = (h : Int) := h2
      simp only [l164x0s]
      simp -implicitDefEqProofs only [cI, cB, cS, cL, oD_d, oG_g, oT_t, oP_p, dI_v, dB_v, dS_v, dL_s, cell_z, cell_s, nth_z, nth_s, aV_z, aV_s, aI_v, aB_v, aS_v, aL_f, aO_o, aX_b, tst_t, cond_true, cond_false, Ex.same, Nat.beq, List.length_cons, List.length_nil, Int.toNat_natCast, beqTT, beqTF, beqFT, beqFF, h1, h2, dec_nn, lt_of_at hx0, lt_of_at hy0, look_at hx0, look_at hy0, Bool.and_self, setD_len]
  zS1 := fun T k n l i j h => by rw [l164x1s, h]; rfl
  sS1 := fun T k n l i p q u v hl h1 h2 hx0 hy0 => by
      have hx := hl.at hx0
      rw [E127] at hx
      obtain ⟨nx0, rx0, rfl, px0, hx_x0⟩ := inv_i hx
      obtain ⟨nx1, rx1, rfl, px1, hx_x1⟩ := inv_i hx_x0
      cases inv_nil hx_x1
      have hy := hl.at hy0
      rw [E127] at hy
      obtain ⟨ny0, ry0, rfl, py0, hy_y0⟩ := inv_i hy
      obtain ⟨ny1, ry1, rfl, py1, hy_y1⟩ := inv_i hy_y0
      cases inv_nil hy_y1
      have h2 : IntKind.wrap .i64 ((p : Int) + 1) = (q : Int) := h2
      have h1 : decide ((p : Int) < IntKind.wrap .i64 (i - 1)) = true := h1
      have e1 : setD (setD l p 0 (.v (.int .i64 ny0))) p 1 (.v (.int .i64 ny1)) = l.set p [(.v (.int .i64 ny0)), (.v (.int .i64 ny1))] := setD_two ⟨_, hx0, rfl⟩
      have e2 : setD (setD (l.set p [(.v (.int .i64 ny0)), (.v (.int .i64 ny1))]) q 0 (.v (.int .i64 nx0))) q 1 (.v (.int .i64 nx1)) = (l.set p [(.v (.int .i64 ny0)), (.v (.int .i64 ny1))]).set q [(.v (.int .i64 nx0)), (.v (.int .i64 nx1))] := setD_two (set_has hy0 rfl)
      simp only [l164x1s]
      simp -implicitDefEqProofs only [cI, cB, cS, cL, oD_d, oG_g, oT_t, oP_p, dI_v, dB_v, dS_v, dL_s, cell_z, cell_s, nth_z, nth_s, aV_z, aV_s, aI_v, aB_v, aS_v, aL_f, aO_o, aX_b, tst_t, cond_true, cond_false, Ex.same, Nat.beq, List.length_cons, List.length_nil, Int.toNat_natCast, beqTT, beqTF, beqFT, beqFF, h1, h2, dec_nn, lt_of_at hx0, lt_of_at hy0, look_at hx0, look_at hy0, Bool.and_self, setD_len, e1, e2, List.length_set]
  zS2 := fun T k n l m f cs i j h => by rw [l164x2s, h]; rfl
  sS2 := fun T k n l m f cs i j h x y hl h1 h2 hx0 hy0 => by
      have hx := hl.at hx0
      rw [E127] at hx
      obtain ⟨nx0, rx0, rfl, px0, hx_x0⟩ := inv_i hx
      obtain ⟨nx1, rx1, rfl, px1, hx_x1⟩ := inv_i hx_x0
      cases inv_nil hx_x1
      have hy := hl.at hy0
      rw [E127] at hy
      obtain ⟨ny0, ry0, rfl, py0, hy_y0⟩ := inv_i hy
      obtain ⟨ny1, ry1, rfl, py1, hy_y1⟩ := inv_i hy_y0
      cases inv_nil hy_y1
      have h2 : IntKind.wrap .i64 (Int.fdiv (IntKind.wrap .u64 (IntKind.wrap .i64 (i + j))) (2 ^ 1)) = (h : Int) := h2
      simp only [l164x2s]
      simp -implicitDefEqProofs only [cI, cB, cS, cL, oD_d, oG_g, oT_t, oP_p, dI_v, dB_v, dS_v, dL_s, cell_z, cell_s, nth_z, nth_s, aV_z, aV_s, aI_v, aB_v, aS_v, aL_f, aO_o, aX_b, tst_t, cond_true, cond_false, Ex.same, Nat.beq, List.length_cons, List.length_nil, Int.toNat_natCast, beqTT, beqTF, beqFT, beqFF, h1, h2, dec_nn, lt_of_at hx0, lt_of_at hy0, look_at hx0, look_at hy0, Bool.and_self, setD_len]
  zS3 := fun T k n l i j h => by rw [l164x3s, h]; rfl
  sS3 := fun T k n l i p q u v hl h1 h2 hx0 hy0 => by
      have hx := hl.at hx0
      rw [E127] at hx
      obtain ⟨nx0, rx0, rfl, px0, hx_x0⟩ := inv_i hx
      obtain ⟨nx1, rx1, rfl, px1, hx_x1⟩ := inv_i hx_x0
      cases inv_nil hx_x1
      have hy := hl.at hy0
      rw [E127] at hy
      obtain ⟨ny0, ry0, rfl, py0, hy_y0⟩ := inv_i hy
      obtain ⟨ny1, ry1, rfl, py1, hy_y1⟩ := inv_i hy_y0
      cases inv_nil hy_y1
      have h2 : IntKind.wrap .i64 ((q : Int) - 1) = (p : Int) := h2
      have e1 : setD (setD l q 0 (.v (.int .i64 nx0))) q 1 (.v (.int .i64 nx1)) = l.set q [(.v (.int .i64 nx0)), (.v (.int .i64 nx1))] := setD_two ⟨_, hy0, rfl⟩
      have e2 : setD (setD (l.set q [(.v (.int .i64 nx0)), (.v (.int .i64 nx1))]) p 0 (.v (.int .i64 ny0))) p 1 (.v (.int .i64 ny1)) = (l.set q [(.v (.int .i64 nx0)), (.v (.int .i64 nx1))]).set p [(.v (.int .i64 ny0)), (.v (.int .i64 ny1))] := setD_two (set_has hx0 rfl)
      simp only [l164x3s]
      simp -implicitDefEqProofs only [cI, cB, cS, cL, oD_d, oG_g, oT_t, oP_p, dI_v, dB_v, dS_v, dL_s, cell_z, cell_s, nth_z, nth_s, aV_z, aV_s, aI_v, aB_v, aS_v, aL_f, aO_o, aX_b, tst_t, cond_true, cond_false, Ex.same, Nat.beq, List.length_cons, List.length_nil, Int.toNat_natCast, beqTT, beqTF, beqFT, beqFF, h1, h2, dec_nn, lt_of_at hx0, lt_of_at hy0, look_at hx0, look_at hy0, Bool.and_self, setD_len, e1, e2, List.length_set]
  zS4 := fun T k n' l a m b f cs mid n s r p h => by rw [l164x4s, h]; rfl
  sS4 := fun T k n' l a m b f cs mid n s r p c g x y hl h1 h2 h3 hx0 hy0 => by
      have hx := hl.at hx0
      rw [E127] at hx
      obtain ⟨nx0, rx0, rfl, px0, hx_x0⟩ := inv_i hx
      obtain ⟨nx1, rx1, rfl, px1, hx_x1⟩ := inv_i hx_x0
      cases inv_nil hx_x1
      have hy := hl.at hy0
      rw [E127] at hy
      obtain ⟨ny0, ry0, rfl, py0, hy_y0⟩ := inv_i hy
      obtain ⟨ny1, ry1, rfl, py1, hy_y1⟩ := inv_i hy_y0
      cases inv_nil hy_y1
      have h2 : IntKind.wrap .i64 (Int.fdiv (IntKind.wrap .u64 (IntKind.wrap .i64 (s + r))) (2 ^ 1)) = (c : Int) := h2
      have h3 : IntKind.wrap .i64 (p - (c : Int)) = (g : Int) := h3
      simp only [l164x4s]
      simp -implicitDefEqProofs only [cI, cB, cS, cL, oD_d, oG_g, oT_t, oP_p, dI_v, dB_v, dS_v, dL_s, cell_z, cell_s, nth_z, nth_s, aV_z, aV_s, aI_v, aB_v, aS_v, aL_f, aO_o, aX_b, tst_t, cond_true, cond_false, Ex.same, Nat.beq, List.length_cons, List.length_nil, Int.toNat_natCast, beqTT, beqTF, beqFT, beqFF, h1, h2, h3, dec_nn, lt_of_at hx0, lt_of_at hy0, look_at hx0, look_at hy0, Bool.and_self, setD_len]
  sB0 := fun _ _ _ _ _ _ _ _ _ _ => l140x0s ..
  sB2 := fun _ _ _ _ _ _ _ _ _ _ => l140x2s ..
  sB1 := fun _ _ _ _ _ _ _ _ => l140x1s ..
noncomputable def cf : CmptFam fs E 127 2 where
  n := 114
  a := a114
  L0 := l114x0
  L1 := l114x1
  zero := [.v (.int .i64 0), .v (.int .i64 0)]
  h := rfl
  m := fun _ _ => rfl
  eC := fun _ _ _ _ _ => a114q ..
  z0 := fun T d n l f cs k h => by rw [l114x0s, h]; rfl
  s0 := fun T d n l f cs k p x y hl h1 h2 hx0 hy0 => by
      have hx := hl.at hx0
      rw [E127] at hx
      obtain ⟨nx0, rx0, rfl, px0, hx_x0⟩ := inv_i hx
      obtain ⟨nx1, rx1, rfl, px1, hx_x1⟩ := inv_i hx_x0
      cases inv_nil hx_x1
      have hy := hl.at hy0
      rw [E127] at hy
      obtain ⟨ny0, ry0, rfl, py0, hy_y0⟩ := inv_i hy
      obtain ⟨ny1, ry1, rfl, py1, hy_y1⟩ := inv_i hy_y0
      cases inv_nil hy_y1
      have h2 : IntKind.wrap .i64 ((k : Int) - 1) = (p : Int) := h2
      simp only [l114x0s]
      simp -implicitDefEqProofs only [cI, cB, cS, cL, oD_d, oG_g, oT_t, oP_p, dI_v, dB_v, dS_v, dL_s, cell_z, cell_s, nth_z, nth_s, aV_z, aV_s, aI_v, aB_v, aS_v, aL_f, aO_o, aX_b, tst_t, cond_true, cond_false, Ex.same, Nat.beq, List.length_cons, List.length_nil, Int.toNat_natCast, beqTT, beqTF, beqFT, beqFF, h1, h2, dec_nn, lt_of_at hx0, lt_of_at hy0, look_at hx0, look_at hy0, Bool.and_self]
  z1 := fun T d n l f cs k m1 m2 i h => by rw [l114x1s, h]; rfl
  s1 := fun T d n l f cs k m1 m2 i p x y z hl h1 h2 h3 h4 hx0 hy0 hz0 => by
      have hx := hl.at hx0
      rw [E127] at hx
      obtain ⟨nx0, rx0, rfl, px0, hx_x0⟩ := inv_i hx
      obtain ⟨nx1, rx1, rfl, px1, hx_x1⟩ := inv_i hx_x0
      cases inv_nil hx_x1
      have hy := hl.at hy0
      rw [E127] at hy
      obtain ⟨ny0, ry0, rfl, py0, hy_y0⟩ := inv_i hy
      obtain ⟨ny1, ry1, rfl, py1, hy_y1⟩ := inv_i hy_y0
      cases inv_nil hy_y1
      have hz := hl.at hz0
      rw [E127] at hz
      obtain ⟨nz0, rz0, rfl, pz0, hz_z0⟩ := inv_i hz
      obtain ⟨nz1, rz1, rfl, pz1, hz_z1⟩ := inv_i hz_z0
      cases inv_nil hz_z1
      have h2 : IntKind.wrap .i64 ((i : Int) - 1) = (p : Int) := h2
      have e1 := setD_two (l := l) (q := k) (c := .v (.int .i64 nx0)) (d := .v (.int .i64 nx1)) ⟨_, hz0, rfl⟩
      simp only [l114x1s]
      simp -implicitDefEqProofs only [cI, cB, cS, cL, oD_d, oG_g, oT_t, oP_p, dI_v, dB_v, dS_v, dL_s, cell_z, cell_s, nth_z, nth_s, aV_z, aV_s, aI_v, aB_v, aS_v, aL_f, aO_o, aX_b, tst_t, cond_true, cond_false, Ex.same, Nat.beq, List.length_cons, List.length_nil, Int.toNat_natCast, beqTT, beqTF, beqFT, beqFF, h1, h2, h3, h4, dec_nn, look_at hx0, look_at hy0, lt_of_at hz0, Bool.and_self, e1]
end Go.Am.As
