/- What the program reads is a message's row; how long texts of messages are; runs that are the same. Nothing is assumed. -/
import Derived.Test.YtmgeoejefnablaaGreatDoorFmS6
namespace Go.Am.Fm
variable {SK : Src}
set_option linter.unusedVariables false
set_option linter.unusedSimpArgs false
set_option maxRecDepth 8000
theorem fold_size {f : Row → ByteArray} {B : Nat} : ∀ (l : Rows) (a : ByteArray), (∀ x ∈ l, (f x).size ≤ B) → (l.foldl (fun a x => a ++ f x) a).size ≤ a.size + B * l.length
 | [], a, _ => by simp
 | x :: l, a, h => by
  have h1 := h x (by simp)
  have h2 := fold_size l (a ++ f x) fun y hy => h y (by simp [hy])
  simp only [List.foldl_cons, List.length_cons, Nat.mul_add, Nat.mul_one, ByteArray.size_append] at *
  omega
theorem msg_size {k r : Int} {u : ByteArray} {ws rs : Rows} (h : msgOk [.v (.int .i64 k), .v (.string u), .v (.int .i64 r), .s 7 ws, .s 2 rs] = true) (hw : SL E 48 ws) (hn : ws.length ≤ 6) : (msgTxt [.v (.int .i64 k), .v (.string u), .v (.int .i64 r), .s 7 ws, .s 2 rs]).size ≤ 1048576 := by
 obtain ⟨hu, r0, r1, hwo, hro⟩ := msg_parts h
 have hf := runs_few hro
 have z32 : ({ data := #[32] } : ByteArray).size = 1 := rfl
 have z10 : ({ data := #[10] } : ByteArray).size = 1 := rfl
 have zl : ({ data := #[108, 105, 115, 116, 32] } : ByteArray).size = 5 := rfl
 have zt : ({ data := #[116, 101, 108, 108, 32] } : ByteArray).size = 5 := rfl
 have hd := small_size r0 r1
 have e0 : (msgHead k u r).size ≤ 100 := by
  unfold msgHead sp nl
  cases (k == 2) <;> simp only [cond_true, cond_false, ByteArray.size_append] <;> omega
 have e1 := fold_size (f := runLine) (B := 100) rs (msgHead k u r) fun x hx => by
  obtain ⟨i, hx⟩ := List.mem_iff_getElem?.1 hx
  have hb := runs_at hro hx
  have s0 := small_size (n := cN x 0) (by omega) (by omega)
  have s1 := small_size (n := cN x 1) (by omega) (by omega)
  simp only [runLine, sp, nl, ByteArray.size_append]
  omega
 have e2 := fold_size (f := workLine) (B := 90000) ws (runsT rs (msgHead k u r)) fun x hx => by
  obtain ⟨i, hx⟩ := List.mem_iff_getElem?.1 hx
  have hb := works_at hwo hx
  have w := hw.at hx
  have hv := hb.2.2.2.2
  obtain ⟨nx0, nx1, nx2, sx3, nx4, lx5, lx6, rfl, px0, px1, px2, px3, px4, px5, px6⟩ := I48 w
  have hv : 0 < valSz 6 [.v (.int .i64 nx2), .v (.string sx3), .v (.int .i64 nx4), .s 1 lx5, .s 5 lx6] := hv
  have hvs := vTxt_size 6 _ hv (num_ok 6 (by rw [E46]; exact mk_i (by assumption) (mk_s (by assumption) (mk_i (by assumption) (mk_sl W9 (by assumption) (mk_sl W46 (by assumption) (ShL.nil)))))))
  have hvr := (valSz_rng 6 [.v (.int .i64 nx2), .v (.string sx3), .v (.int .i64 nx4), .s 1 lx5, .s 5 lx6]).2
  simp only [cN, List.getElem?_cons_zero, List.getElem?_cons_succ] at hb
  have s0 := small_size (n := nx0) (by omega) (by omega)
  have s1 := small_size (n := nx1) (by omega) (by omega)
  simp only [workLine, sp, nl, ByteArray.size_append, cN, List.getElem?_cons_zero, List.getElem?_cons_succ, List.drop_succ_cons, List.drop_zero] at *
  omega
 have e3 : msgTxt [.v (.int .i64 k), .v (.string u), .v (.int .i64 r), .s 7 ws, .s 2 rs] = worksT ws (runsT rs (msgHead k u r)) := by
  unfold msgTxt
  rw [h]
  rfl
 rw [e3]
 have e1 : (runsT rs (msgHead k u r)).size ≤ (msgHead k u r).size + 100 * rs.length := e1
 have e2 : (worksT ws (runsT rs (msgHead k u r))).size ≤ (runsT rs (msgHead k u r)).size + 90000 * ws.length := e2
 omega
theorem same_loop {l : Rows} (hl : SL E 42 l) : ∀ (m i : Nat), i + m = l.length → Evt (fun d q => l11x0 (TabD (fs SK) d) d q [.fz 2 l, .fz 2 l, .v (.int .i64 (i : Int))]) (.exit 0, []) := by
 intro m
 induction m with
 | zero =>
  intro i hm
  refine ev_succ ?_
  simp only [l11x0s]
  simp -implicitDefEqProofs only [rdl, Ex.same, Nat.beq, show decide ((i : Int) < (l.length : Int)) = false from decide_eq_false (by omega)]
  exact Evt.ret
 | succ m ih =>
  intro i hm
  have hlt : i < l.length := by omega
  have hx := List.getElem?_eq_getElem hlt
  generalize l[i] = x at hx
  have w := hl.at hx
  obtain ⟨nw0, nw1, rfl, pw0, pw1⟩ := I42 w
  refine ev_succ ?_
  simp only [l11x0s]
  simp -implicitDefEqProofs only [rdl, Ex.same, Nat.beq, decide_eq_true (Int.ofNat_lt.2 hlt), dec_nn, look_at hx, wrap_succ hlt hl.le, beq_self_eq_true, Bool.and_self, Bool.not_true]
  exact ih (i + 1) (by omega)
theorem f11 {l : Rows} (hl : SL E 42 l) : Ev (fs SK) 11 [.d (.s 2 l), .d (.s 2 l)] (bo true) := by
 refine Ev.of (af := a11) rfl rfl (Evt.congr (fun d n => a11q ..) ?_)
 simp -implicitDefEqProofs only [rdl, Ex.same, Nat.beq, bne_self_eq_false]
 refine ev_aft (L := fun d q => l11x0 (TabD (fs SK) d) d q [.fz 2 l, .fz 2 l, .v (.int .i64 0)]) (same_loop hl l.length 0 (by omega)) ?_
 simp -implicitDefEqProofs only [rdl, Ex.same, Nat.beq]
 exact Evt.ret
theorem f5 (a : Option Addr) (n c : Nat) : Ev (fs SK) 5 [.d (.v (.slice a n c))] (bo (decide ((n : Int) > 1048576))) := by
 refine Ev.of (af := a5) rfl rfl (Evt.congr (fun d n => a5q ..) ?_)
 exact Evt.ret
theorem msg_back {k r : Int} {u : ByteArray} {ws rs : Rows} (h : msgOk [.v (.int .i64 k), .v (.string u), .v (.int .i64 r), .s 7 ws, .s 2 rs] = true) (hw : SL E 48 ws) (hr : SL E 42 rs) (hn : ws.length ≤ 6) :
  Ev (fs SK) 10 [.d (.v (.string (msgTxt [.v (.int .i64 k), .v (.string u), .v (.int .i64 r), .s 7 ws, .s 2 rs])))] ⟨.t [.g [.v (.int .i64 k), .v (.string u), .v (.int .i64 r), .s 7 ws, .s 2 rs], .d (.v (.bool true))], []⟩ := by
 have e := f10 (SK := SK) (msg_size h hw hn)
 rw [both_read h hw hr] at e
 simp only [ans, h, beq_self, Bool.and_self, cond_true] at e
 exact e
end Go.Am.Fm
