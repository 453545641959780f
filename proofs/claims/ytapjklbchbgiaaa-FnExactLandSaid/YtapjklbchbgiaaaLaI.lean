/- What Land says in the end. Nothing is assumed. -/
import Derived.Test.YtapjklbchbgiaaaLaP
namespace Go.Am.La
set_option linter.unusedVariables false
set_option linter.unusedSimpArgs false
set_option maxRecDepth 8000
def obeyB (row : Row) (rev : Int) (ws : Rows) : Bool := isleOk row && (worksOk ws && (!decide (rev ≤ cN row 2) && !decide (rev > 1000000)))
def landB (i m : Row) : Bool := msgOk m && ((cN m 0 == 2) && (bytesEq (cT m 1) (cT i 0) && obeyB i (cN m 2) (cR m 3)))
theorem f36 {row : Row} (h : ShL E (E 33) row) (hw : wtRow row ≤ 1048576) (rev : Int) {ws : Rows} (hs : SL E 124 ws) (hws : ws.length + wtRows ws ≤ 1048576) {sa0 : ByteArray} {na1 na2 : Int} {la3 la4 : Rows} (he : row = [.v (.string sa0), .v (.int .i64 na1), .v (.int .i64 na2), .s 7 la3, .s 2 la4]) : Ev fs 36 [.g row, .d (.v (.int .i64 rev)), .d (.s 7 ws)] ⟨.t [.g [.v (.string sa0), .v (.int .i64 na1), .v (.int .i64 (bif obeyB row rev ws then rev else na2)), .s 7 (bif obeyB row rev ws then ws else la3), .s 2 la4], .d (.v (.bool (obeyB row rev ws)))], []⟩ := by
  subst he
  refine Ev.of (af := a36) rfl rfl (Evt.congr (fun d n => a36q ..) ?_)
  refine ev_call (f35 (by assumption) (by first | omega | (simp only [wtRow, wtD] at *; omega))) ?_
  simp -implicitDefEqProofs only [cI, cB, cS, cL, oD_d, oG_g, oT_t, oP_p, dI_v, dB_v, dS_v, dL_s, cell_z, cell_s, nth_z, nth_s, aV_z, aV_s, aI_v, aB_v, aS_v, aL_f, aO_o, aX_b, tst_t, cond_true, cond_false, Ex.same, Nat.beq, List.length_cons, List.length_nil, Int.toNat_natCast, beqTT, beqTF, beqFT, beqFF, Bool.not_false, Bool.not_true, cond_true, cond_false]
  refine ev_call (f64 (by assumption)) ?_
  simp -implicitDefEqProofs only [cI, cB, cS, cL, oD_d, oG_g, oT_t, oP_p, dI_v, dB_v, dS_v, dL_s, cell_z, cell_s, nth_z, nth_s, aV_z, aV_s, aI_v, aB_v, aS_v, aL_f, aO_o, aX_b, tst_t, cond_true, cond_false, Ex.same, Nat.beq, List.length_cons, List.length_nil, Int.toNat_natCast, beqTT, beqTF, beqFT, beqFF, Bool.not_false, Bool.not_true, cond_true, cond_false]
  refine ev_if (fun c1 => ?_) (fun c1 => ?_)
  · refine ev_call (f80 (by assumption)) ?_
    simp -implicitDefEqProofs only [cI, cB, cS, cL, oD_d, oG_g, oT_t, oP_p, dI_v, dB_v, dS_v, dL_s, cell_z, cell_s, nth_z, nth_s, aV_z, aV_s, aI_v, aB_v, aS_v, aL_f, aO_o, aX_b, tst_t, cond_true, cond_false, Ex.same, Nat.beq, List.length_cons, List.length_nil, Int.toNat_natCast, beqTT, beqTF, beqFT, beqFF, Bool.not_false, Bool.not_true, cond_true, cond_false]
    refine ev_if (fun c2 => ?_) (fun c2 => ?_)
    · refine ev_if (fun c3 => ?_) (fun c3 => ?_)
      · refine ev_if (fun c4 => ?_) (fun c4 => ?_)
        · exact Evt.ret' (by have hb : obeyB [.v (.string sa0), .v (.int .i64 na1), .v (.int .i64 na2), .s 7 la3, .s 2 la4] rev ws = false := (by first | (simp_all [obeyB, cN]; done) | (simp_all [obeyB, cN]; omega)); simp only [hb, cond_true, cond_false])
        · refine ev_call (f81 (by assumption) (by first | omega | (simp only [wtRow, wtD] at *; omega))) ?_
          simp -implicitDefEqProofs only [cI, cB, cS, cL, oD_d, oG_g, oT_t, oP_p, dI_v, dB_v, dS_v, dL_s, cell_z, cell_s, nth_z, nth_s, aV_z, aV_s, aI_v, aB_v, aS_v, aL_f, aO_o, aX_b, tst_t, cond_true, cond_false, Ex.same, Nat.beq, List.length_cons, List.length_nil, Int.toNat_natCast, beqTT, beqTF, beqFT, beqFF, Bool.not_false, Bool.not_true, cond_true, cond_false]
          exact Evt.ret' (by have hb : obeyB [.v (.string sa0), .v (.int .i64 na1), .v (.int .i64 na2), .s 7 la3, .s 2 la4] rev ws = true := (by first | (simp_all [obeyB, cN]; done) | (simp_all [obeyB, cN]; omega)); simp only [hb, cond_true, cond_false])
      · exact Evt.ret' (by have hb : obeyB [.v (.string sa0), .v (.int .i64 na1), .v (.int .i64 na2), .s 7 la3, .s 2 la4] rev ws = false := (by first | (simp_all [obeyB, cN]; done) | (simp_all [obeyB, cN]; omega)); simp only [hb, cond_true, cond_false])
    · exact Evt.ret' (by have hb : obeyB [.v (.string sa0), .v (.int .i64 na1), .v (.int .i64 na2), .s 7 la3, .s 2 la4] rev ws = false := (by first | (simp_all [obeyB, cN]; done) | (simp_all [obeyB, cN]; omega)); simp only [hb, cond_true, cond_false])
  · exact Evt.ret' (by have hb : obeyB [.v (.string sa0), .v (.int .i64 na1), .v (.int .i64 na2), .s 7 la3, .s 2 la4] rev ws = false := (by first | (simp_all [obeyB, cN]; done) | (simp_all [obeyB, cN]; omega)); simp only [hb, cond_true, cond_false])
theorem f41 {row : Row} (h : ShL E (E 33) row) (hw : wtRow row ≤ 1048576) (rev : Int) {ws : Rows} (hs : SL E 124 ws) (hws : ws.length + wtRows ws ≤ 1048576) {sa0 : ByteArray} {na1 na2 : Int} {la3 la4 : Rows} (he : row = [.v (.string sa0), .v (.int .i64 na1), .v (.int .i64 na2), .s 7 la3, .s 2 la4]) : Ev fs 41 [.g row, .d (.v (.int .i64 rev)), .d (.s 7 ws)] ⟨.t [.g [.v (.string sa0), .v (.int .i64 na1), .v (.int .i64 (bif obeyB row rev ws then rev else na2)), .s 7 (bif obeyB row rev ws then ws else la3), .s 2 la4], .d (.v (.bool (obeyB row rev ws)))], []⟩ := by
  subst he
  refine Ev.of (af := a41) rfl rfl (Evt.congr (fun d n => a41q ..) ?_)
  refine ev_call (f40 (by assumption) (by first | omega | (simp only [wtRow, wtD] at *; omega))) ?_
  simp -implicitDefEqProofs only [cI, cB, cS, cL, oD_d, oG_g, oT_t, oP_p, dI_v, dB_v, dS_v, dL_s, cell_z, cell_s, nth_z, nth_s, aV_z, aV_s, aI_v, aB_v, aS_v, aL_f, aO_o, aX_b, tst_t, cond_true, cond_false, Ex.same, Nat.beq, List.length_cons, List.length_nil, Int.toNat_natCast, beqTT, beqTF, beqFT, beqFF, Bool.not_false, Bool.not_true, cond_true, cond_false]
  refine ev_call (f66 (by assumption)) ?_
  simp -implicitDefEqProofs only [cI, cB, cS, cL, oD_d, oG_g, oT_t, oP_p, dI_v, dB_v, dS_v, dL_s, cell_z, cell_s, nth_z, nth_s, aV_z, aV_s, aI_v, aB_v, aS_v, aL_f, aO_o, aX_b, tst_t, cond_true, cond_false, Ex.same, Nat.beq, List.length_cons, List.length_nil, Int.toNat_natCast, beqTT, beqTF, beqFT, beqFF, Bool.not_false, Bool.not_true, cond_true, cond_false]
  refine ev_if (fun c1 => ?_) (fun c1 => ?_)
  · refine ev_call (f87 (by assumption)) ?_
    simp -implicitDefEqProofs only [cI, cB, cS, cL, oD_d, oG_g, oT_t, oP_p, dI_v, dB_v, dS_v, dL_s, cell_z, cell_s, nth_z, nth_s, aV_z, aV_s, aI_v, aB_v, aS_v, aL_f, aO_o, aX_b, tst_t, cond_true, cond_false, Ex.same, Nat.beq, List.length_cons, List.length_nil, Int.toNat_natCast, beqTT, beqTF, beqFT, beqFF, Bool.not_false, Bool.not_true, cond_true, cond_false]
    refine ev_if (fun c2 => ?_) (fun c2 => ?_)
    · refine ev_if (fun c3 => ?_) (fun c3 => ?_)
      · refine ev_if (fun c4 => ?_) (fun c4 => ?_)
        · exact Evt.ret' (by have hb : obeyB [.v (.string sa0), .v (.int .i64 na1), .v (.int .i64 na2), .s 7 la3, .s 2 la4] rev ws = false := (by first | (simp_all [obeyB, cN]; done) | (simp_all [obeyB, cN]; omega)); simp only [hb, cond_true, cond_false])
        · refine ev_call (f88 (by assumption) (by first | omega | (simp only [wtRow, wtD] at *; omega))) ?_
          simp -implicitDefEqProofs only [cI, cB, cS, cL, oD_d, oG_g, oT_t, oP_p, dI_v, dB_v, dS_v, dL_s, cell_z, cell_s, nth_z, nth_s, aV_z, aV_s, aI_v, aB_v, aS_v, aL_f, aO_o, aX_b, tst_t, cond_true, cond_false, Ex.same, Nat.beq, List.length_cons, List.length_nil, Int.toNat_natCast, beqTT, beqTF, beqFT, beqFF, Bool.not_false, Bool.not_true, cond_true, cond_false]
          exact Evt.ret' (by have hb : obeyB [.v (.string sa0), .v (.int .i64 na1), .v (.int .i64 na2), .s 7 la3, .s 2 la4] rev ws = true := (by first | (simp_all [obeyB, cN]; done) | (simp_all [obeyB, cN]; omega)); simp only [hb, cond_true, cond_false])
      · exact Evt.ret' (by have hb : obeyB [.v (.string sa0), .v (.int .i64 na1), .v (.int .i64 na2), .s 7 la3, .s 2 la4] rev ws = false := (by first | (simp_all [obeyB, cN]; done) | (simp_all [obeyB, cN]; omega)); simp only [hb, cond_true, cond_false])
    · exact Evt.ret' (by have hb : obeyB [.v (.string sa0), .v (.int .i64 na1), .v (.int .i64 na2), .s 7 la3, .s 2 la4] rev ws = false := (by first | (simp_all [obeyB, cN]; done) | (simp_all [obeyB, cN]; omega)); simp only [hb, cond_true, cond_false])
  · exact Evt.ret' (by have hb : obeyB [.v (.string sa0), .v (.int .i64 na1), .v (.int .i64 na2), .s 7 la3, .s 2 la4] rev ws = false := (by first | (simp_all [obeyB, cN]; done) | (simp_all [obeyB, cN]; omega)); simp only [hb, cond_true, cond_false])
theorem f9 {sa0 : ByteArray} {na1 na2 : Int} {la3 la4 : Rows} {nb0 nb2 : Int} {sb1 : ByteArray} {lb3 lb4 : Rows} (h : ShL E (E 33) [.v (.string sa0), .v (.int .i64 na1), .v (.int .i64 na2), .s 7 la3, .s 2 la4]) (hw : wtRow ([.v (.string sa0), .v (.int .i64 na1), .v (.int .i64 na2), .s 7 la3, .s 2 la4] : Row) ≤ 1048576) (h' : ShL E (E 38) [.v (.int .i64 nb0), .v (.string sb1), .v (.int .i64 nb2), .s 7 lb3, .s 2 lb4]) (hs : SL E 124 lb3) (hws : lb3.length + wtRows lb3 ≤ 1048576) : Ev fs 9 [.g [.v (.string sa0), .v (.int .i64 na1), .v (.int .i64 na2), .s 7 la3, .s 2 la4], .g [.v (.int .i64 nb0), .v (.string sb1), .v (.int .i64 nb2), .s 7 lb3, .s 2 lb4]] ⟨.t [.g [.v (.string sa0), .v (.int .i64 na1), .v (.int .i64 (bif landB [.v (.string sa0), .v (.int .i64 na1), .v (.int .i64 na2), .s 7 la3, .s 2 la4] [.v (.int .i64 nb0), .v (.string sb1), .v (.int .i64 nb2), .s 7 lb3, .s 2 lb4] then nb2 else na2)), .s 7 (bif landB [.v (.string sa0), .v (.int .i64 na1), .v (.int .i64 na2), .s 7 la3, .s 2 la4] [.v (.int .i64 nb0), .v (.string sb1), .v (.int .i64 nb2), .s 7 lb3, .s 2 lb4] then lb3 else la3), .s 2 la4], .d (.v (.bool (landB [.v (.string sa0), .v (.int .i64 na1), .v (.int .i64 na2), .s 7 la3, .s 2 la4] [.v (.int .i64 nb0), .v (.string sb1), .v (.int .i64 nb2), .s 7 lb3, .s 2 lb4])))], []⟩ := by
  refine Ev.of (af := a9) rfl rfl (Evt.congr (fun d n => a9q ..) ?_)
  refine ev_call (f34 (by assumption)) ?_
  simp -implicitDefEqProofs only [cI, cB, cS, cL, oD_d, oG_g, oT_t, oP_p, dI_v, dB_v, dS_v, dL_s, cell_z, cell_s, nth_z, nth_s, aV_z, aV_s, aI_v, aB_v, aS_v, aL_f, aO_o, aX_b, tst_t, cond_true, cond_false, Ex.same, Nat.beq, List.length_cons, List.length_nil, Int.toNat_natCast, beqTT, beqTF, beqFT, beqFF, Bool.not_false, Bool.not_true, cond_true, cond_false]
  refine ev_if (fun c1 => ?_) (fun c1 => ?_)
  · refine ev_if (fun c2 => ?_) (fun c2 => ?_)
    · refine ev_if (fun c3 => ?_) (fun c3 => ?_)
      · refine ev_call (f35 (by assumption) (by first | omega | (simp only [wtRow, wtD] at *; omega))) ?_
        simp -implicitDefEqProofs only [cI, cB, cS, cL, oD_d, oG_g, oT_t, oP_p, dI_v, dB_v, dS_v, dL_s, cell_z, cell_s, nth_z, nth_s, aV_z, aV_s, aI_v, aB_v, aS_v, aL_f, aO_o, aX_b, tst_t, cond_true, cond_false, Ex.same, Nat.beq, List.length_cons, List.length_nil, Int.toNat_natCast, beqTT, beqTF, beqFT, beqFF, Bool.not_false, Bool.not_true, cond_true, cond_false]
        exact Evt.ret' (by have hb : landB [.v (.string sa0), .v (.int .i64 na1), .v (.int .i64 na2), .s 7 la3, .s 2 la4] [.v (.int .i64 nb0), .v (.string sb1), .v (.int .i64 nb2), .s 7 lb3, .s 2 lb4] = false := (by first | (simp_all [landB, cN, cT, cR]; done) | (simp_all [landB, cN, cT, cR]; omega)); simp only [hb, cond_true, cond_false])
      · refine ev_call (f36 (by assumption) (by assumption) _ (by assumption) (by assumption) rfl) ?_
        simp -implicitDefEqProofs only [cI, cB, cS, cL, oD_d, oG_g, oT_t, oP_p, dI_v, dB_v, dS_v, dL_s, cell_z, cell_s, nth_z, nth_s, aV_z, aV_s, aI_v, aB_v, aS_v, aL_f, aO_o, aX_b, tst_t, cond_true, cond_false, Ex.same, Nat.beq, List.length_cons, List.length_nil, Int.toNat_natCast, beqTT, beqTF, beqFT, beqFF, Bool.not_false, Bool.not_true, cond_true, cond_false]
        exact Evt.ret' (by have hb : landB [.v (.string sa0), .v (.int .i64 na1), .v (.int .i64 na2), .s 7 la3, .s 2 la4] [.v (.int .i64 nb0), .v (.string sb1), .v (.int .i64 nb2), .s 7 lb3, .s 2 lb4] = obeyB [.v (.string sa0), .v (.int .i64 na1), .v (.int .i64 na2), .s 7 la3, .s 2 la4] nb2 lb3 := (by first | (simp_all [landB, cN, cT, cR]; done) | (simp_all [landB, cN, cT, cR]; omega)); simp only [hb, cond_true, cond_false])
    · refine ev_call (f35 (by assumption) (by first | omega | (simp only [wtRow, wtD] at *; omega))) ?_
      simp -implicitDefEqProofs only [cI, cB, cS, cL, oD_d, oG_g, oT_t, oP_p, dI_v, dB_v, dS_v, dL_s, cell_z, cell_s, nth_z, nth_s, aV_z, aV_s, aI_v, aB_v, aS_v, aL_f, aO_o, aX_b, tst_t, cond_true, cond_false, Ex.same, Nat.beq, List.length_cons, List.length_nil, Int.toNat_natCast, beqTT, beqTF, beqFT, beqFF, Bool.not_false, Bool.not_true, cond_true, cond_false]
      exact Evt.ret' (by have hb : landB [.v (.string sa0), .v (.int .i64 na1), .v (.int .i64 na2), .s 7 la3, .s 2 la4] [.v (.int .i64 nb0), .v (.string sb1), .v (.int .i64 nb2), .s 7 lb3, .s 2 lb4] = false := (by first | (simp_all [landB, cN, cT, cR]; done) | (simp_all [landB, cN, cT, cR]; omega)); simp only [hb, cond_true, cond_false])
  · refine ev_call (f35 (by assumption) (by first | omega | (simp only [wtRow, wtD] at *; omega))) ?_
    simp -implicitDefEqProofs only [cI, cB, cS, cL, oD_d, oG_g, oT_t, oP_p, dI_v, dB_v, dS_v, dL_s, cell_z, cell_s, nth_z, nth_s, aV_z, aV_s, aI_v, aB_v, aS_v, aL_f, aO_o, aX_b, tst_t, cond_true, cond_false, Ex.same, Nat.beq, List.length_cons, List.length_nil, Int.toNat_natCast, beqTT, beqTF, beqFT, beqFF, Bool.not_false, Bool.not_true, cond_true, cond_false]
    exact Evt.ret' (by have hb : landB [.v (.string sa0), .v (.int .i64 na1), .v (.int .i64 na2), .s 7 la3, .s 2 la4] [.v (.int .i64 nb0), .v (.string sb1), .v (.int .i64 nb2), .s 7 lb3, .s 2 lb4] = false := (by first | (simp_all [landB, cN, cT, cR]; done) | (simp_all [landB, cN, cT, cR]; omega)); simp only [hb, cond_true, cond_false])
theorem f12 {sa0 : ByteArray} {na1 na2 : Int} {la3 la4 : Rows} {nb0 nb2 : Int} {sb1 : ByteArray} {lb3 lb4 : Rows} (h : ShL E (E 33) [.v (.string sa0), .v (.int .i64 na1), .v (.int .i64 na2), .s 7 la3, .s 2 la4]) (hw : wtRow ([.v (.string sa0), .v (.int .i64 na1), .v (.int .i64 na2), .s 7 la3, .s 2 la4] : Row) ≤ 1048576) (h' : ShL E (E 38) [.v (.int .i64 nb0), .v (.string sb1), .v (.int .i64 nb2), .s 7 lb3, .s 2 lb4]) (hs : SL E 124 lb3) (hws : lb3.length + wtRows lb3 ≤ 1048576) : Ev fs 12 [.g [.v (.string sa0), .v (.int .i64 na1), .v (.int .i64 na2), .s 7 la3, .s 2 la4], .g [.v (.int .i64 nb0), .v (.string sb1), .v (.int .i64 nb2), .s 7 lb3, .s 2 lb4]] ⟨.t [.g [.v (.string sa0), .v (.int .i64 na1), .v (.int .i64 (bif landB [.v (.string sa0), .v (.int .i64 na1), .v (.int .i64 na2), .s 7 la3, .s 2 la4] [.v (.int .i64 nb0), .v (.string sb1), .v (.int .i64 nb2), .s 7 lb3, .s 2 lb4] then nb2 else na2)), .s 7 (bif landB [.v (.string sa0), .v (.int .i64 na1), .v (.int .i64 na2), .s 7 la3, .s 2 la4] [.v (.int .i64 nb0), .v (.string sb1), .v (.int .i64 nb2), .s 7 lb3, .s 2 lb4] then lb3 else la3), .s 2 la4], .d (.v (.bool (landB [.v (.string sa0), .v (.int .i64 na1), .v (.int .i64 na2), .s 7 la3, .s 2 la4] [.v (.int .i64 nb0), .v (.string sb1), .v (.int .i64 nb2), .s 7 lb3, .s 2 lb4])))], []⟩ := by
  refine Ev.of (af := a12) rfl rfl (Evt.congr (fun d n => a12q ..) ?_)
  refine ev_if (fun c1 => ?_) (fun c1 => ?_)
  · refine ev_call (f39 (by assumption)) ?_
    simp -implicitDefEqProofs only [cI, cB, cS, cL, oD_d, oG_g, oT_t, oP_p, dI_v, dB_v, dS_v, dL_s, cell_z, cell_s, nth_z, nth_s, aV_z, aV_s, aI_v, aB_v, aS_v, aL_f, aO_o, aX_b, tst_t, cond_true, cond_false, Ex.same, Nat.beq, List.length_cons, List.length_nil, Int.toNat_natCast, beqTT, beqTF, beqFT, beqFF, Bool.not_false, Bool.not_true, cond_true, cond_false]
    refine ev_if (fun c2 => ?_) (fun c2 => ?_)
    · refine ev_if (fun c3 => ?_) (fun c3 => ?_)
      · refine ev_call (f40 (by assumption) (by first | omega | (simp only [wtRow, wtD] at *; omega))) ?_
        simp -implicitDefEqProofs only [cI, cB, cS, cL, oD_d, oG_g, oT_t, oP_p, dI_v, dB_v, dS_v, dL_s, cell_z, cell_s, nth_z, nth_s, aV_z, aV_s, aI_v, aB_v, aS_v, aL_f, aO_o, aX_b, tst_t, cond_true, cond_false, Ex.same, Nat.beq, List.length_cons, List.length_nil, Int.toNat_natCast, beqTT, beqTF, beqFT, beqFF, Bool.not_false, Bool.not_true, cond_true, cond_false]
        exact Evt.ret' (by have hb : landB [.v (.string sa0), .v (.int .i64 na1), .v (.int .i64 na2), .s 7 la3, .s 2 la4] [.v (.int .i64 nb0), .v (.string sb1), .v (.int .i64 nb2), .s 7 lb3, .s 2 lb4] = false := (by first | (simp_all [landB, cN, cT, cR]; done) | (simp_all [landB, cN, cT, cR]; omega)); simp only [hb, cond_true, cond_false])
      · refine ev_call (f41 (by assumption) (by assumption) _ (by assumption) (by assumption) rfl) ?_
        simp -implicitDefEqProofs only [cI, cB, cS, cL, oD_d, oG_g, oT_t, oP_p, dI_v, dB_v, dS_v, dL_s, cell_z, cell_s, nth_z, nth_s, aV_z, aV_s, aI_v, aB_v, aS_v, aL_f, aO_o, aX_b, tst_t, cond_true, cond_false, Ex.same, Nat.beq, List.length_cons, List.length_nil, Int.toNat_natCast, beqTT, beqTF, beqFT, beqFF, Bool.not_false, Bool.not_true, cond_true, cond_false]
        exact Evt.ret' (by have hb : landB [.v (.string sa0), .v (.int .i64 na1), .v (.int .i64 na2), .s 7 la3, .s 2 la4] [.v (.int .i64 nb0), .v (.string sb1), .v (.int .i64 nb2), .s 7 lb3, .s 2 lb4] = obeyB [.v (.string sa0), .v (.int .i64 na1), .v (.int .i64 na2), .s 7 la3, .s 2 la4] nb2 lb3 := (by first | (simp_all [landB, cN, cT, cR]; done) | (simp_all [landB, cN, cT, cR]; omega)); simp only [hb, cond_true, cond_false])
    · refine ev_call (f40 (by assumption) (by first | omega | (simp only [wtRow, wtD] at *; omega))) ?_
      simp -implicitDefEqProofs only [cI, cB, cS, cL, oD_d, oG_g, oT_t, oP_p, dI_v, dB_v, dS_v, dL_s, cell_z, cell_s, nth_z, nth_s, aV_z, aV_s, aI_v, aB_v, aS_v, aL_f, aO_o, aX_b, tst_t, cond_true, cond_false, Ex.same, Nat.beq, List.length_cons, List.length_nil, Int.toNat_natCast, beqTT, beqTF, beqFT, beqFF, Bool.not_false, Bool.not_true, cond_true, cond_false]
      exact Evt.ret' (by have hb : landB [.v (.string sa0), .v (.int .i64 na1), .v (.int .i64 na2), .s 7 la3, .s 2 la4] [.v (.int .i64 nb0), .v (.string sb1), .v (.int .i64 nb2), .s 7 lb3, .s 2 lb4] = false := (by first | (simp_all [landB, cN, cT, cR]; done) | (simp_all [landB, cN, cT, cR]; omega)); simp only [hb, cond_true, cond_false])
  · refine ev_call (f40 (by assumption) (by first | omega | (simp only [wtRow, wtD] at *; omega))) ?_
    simp -implicitDefEqProofs only [cI, cB, cS, cL, oD_d, oG_g, oT_t, oP_p, dI_v, dB_v, dS_v, dL_s, cell_z, cell_s, nth_z, nth_s, aV_z, aV_s, aI_v, aB_v, aS_v, aL_f, aO_o, aX_b, tst_t, cond_true, cond_false, Ex.same, Nat.beq, List.length_cons, List.length_nil, Int.toNat_natCast, beqTT, beqTF, beqFT, beqFF, Bool.not_false, Bool.not_true, cond_true, cond_false]
    exact Evt.ret' (by have hb : landB [.v (.string sa0), .v (.int .i64 na1), .v (.int .i64 na2), .s 7 la3, .s 2 la4] [.v (.int .i64 nb0), .v (.string sb1), .v (.int .i64 nb2), .s 7 lb3, .s 2 lb4] = false := (by first | (simp_all [landB, cN, cT, cR]; done) | (simp_all [landB, cN, cT, cR]; omega)); simp only [hb, cond_true, cond_false])
theorem both {sa0 : ByteArray} {na1 na2 : Int} {la3 la4 : Rows} {nb0 nb2 : Int} {sb1 : ByteArray} {lb3 lb4 : Rows} (h : ShL E (E 33) [.v (.string sa0), .v (.int .i64 na1), .v (.int .i64 na2), .s 7 la3, .s 2 la4]) (hw : wtRow ([.v (.string sa0), .v (.int .i64 na1), .v (.int .i64 na2), .s 7 la3, .s 2 la4] : Row) ≤ 1048576) (h' : ShL E (E 38) [.v (.int .i64 nb0), .v (.string sb1), .v (.int .i64 nb2), .s 7 lb3, .s 2 lb4]) (hw' : wtRow ([.v (.int .i64 nb0), .v (.string sb1), .v (.int .i64 nb2), .s 7 lb3, .s 2 lb4] : Row) ≤ 1048576) :
    ∃ (rv : Int) (ws : Rows) (bb : Bool), ShL E (E 33) [.v (.string sa0), .v (.int .i64 na1), .v (.int .i64 rv), .s 7 ws, .s 2 la4] ∧ wtRow ([.v (.string sa0), .v (.int .i64 na1), .v (.int .i64 rv), .s 7 ws, .s 2 la4] : Row) ≤ 3145728 ∧ Ev fs 9 [.g [.v (.string sa0), .v (.int .i64 na1), .v (.int .i64 na2), .s 7 la3, .s 2 la4], .g [.v (.int .i64 nb0), .v (.string sb1), .v (.int .i64 nb2), .s 7 lb3, .s 2 lb4]] ⟨.t [.g [.v (.string sa0), .v (.int .i64 na1), .v (.int .i64 rv), .s 7 ws, .s 2 la4], .d (.v (.bool bb))], []⟩ ∧ Ev fs 12 [.g [.v (.string sa0), .v (.int .i64 na1), .v (.int .i64 na2), .s 7 la3, .s 2 la4], .g [.v (.int .i64 nb0), .v (.string sb1), .v (.int .i64 nb2), .s 7 lb3, .s 2 lb4]] ⟨.t [.g [.v (.string sa0), .v (.int .i64 na1), .v (.int .i64 rv), .s 7 ws, .s 2 la4], .d (.v (.bool bb))], []⟩ := by
  have h0 := h
  have h1 := h'
  have w0 := hw
  have w1 := hw'
  simp only [wtRow, wtD] at w0 w1
  rw [E33] at h0
  obtain ⟨_, _, ea0, pa0, h0_a0⟩ := inv_s h0
  cases ea0
  obtain ⟨_, _, ea1, pa1, h0_a1⟩ := inv_i h0_a0
  cases ea1
  obtain ⟨_, _, ea2, pa2, h0_a2⟩ := inv_i h0_a1
  cases ea2
  obtain ⟨_, _, ea3, pa3, h0_a3⟩ := inv_sl W124 h0_a2
  cases ea3
  obtain ⟨_, _, ea4, pa4, h0_a4⟩ := inv_sl W127 h0_a3
  cases ea4
  rw [E38] at h1
  obtain ⟨_, _, eb0, pb0, h1_b0⟩ := inv_i h1
  cases eb0
  obtain ⟨_, _, eb1, pb1, h1_b1⟩ := inv_s h1_b0
  cases eb1
  obtain ⟨_, _, eb2, pb2, h1_b2⟩ := inv_i h1_b1
  cases eb2
  obtain ⟨_, _, eb3, pb3, h1_b3⟩ := inv_sl W124 h1_b2
  cases eb3
  obtain ⟨_, _, eb4, pb4, h1_b4⟩ := inv_sl W127 h1_b3
  cases eb4
  have q1 := f9 h hw h' pb3 (by omega)
  have q2 := f12 h hw h' pb3 (by omega)
  generalize landB _ _ = bb at q1 q2
  refine ⟨_, _, bb, ?_, ?_, q1, q2⟩
  · rw [E33]
    refine mk_s pa0 (mk_i pa1 (mk_i ?_ (mk_sl W124 ?_ (mk_sl W127 pa4 .nil))))
    · cases bb
      · exact pa2
      · exact pb2
    · cases bb
      · exact pa3
      · exact pb3
  · simp only [wtRow, wtD]
    cases bb <;> simp only [cond_true, cond_false] <;> omega
end Go.Am.La
