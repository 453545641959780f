/- The text of a message. Nothing is assumed. -/
import Derived.Test.YtmgeoejefnablaaDoorMtI
namespace Go.Am.Mt
set_option linter.unusedVariables false
set_option linter.unusedSimpArgs false
set_option maxRecDepth 8000
def sp : ByteArray := ({ data := #[32] } : ByteArray)
def nl : ByteArray := ({ data := #[10] } : ByteArray)
def runLine (x : Row) : ByteArray := decS (cN x 0) ++ sp ++ decS (cN x 1) ++ nl
def workLine (x : Row) : ByteArray := decS (cN x 0) ++ sp ++ decS (cN x 1) ++ sp ++ vTxt 6 (x.drop 2) ++ nl
def msgHead (n : Int) (s : ByteArray) (r : Int) : ByteArray := (bif n == 2 then ({ data := #[108, 105, 115, 116, 32] } : ByteArray) else ({ data := #[116, 101, 108, 108, 32] } : ByteArray)) ++ s ++ sp ++ decS r ++ nl
def runsT (l : Rows) (a : ByteArray) : ByteArray := l.foldl (fun a x => a ++ runLine x) a
def worksT (l : Rows) (a : ByteArray) : ByteArray := l.foldl (fun a x => a ++ workLine x) a
def msgTxt (m : Row) : ByteArray := bif msgOk m then worksT (cR m 3) (runsT (cR m 4) (msgHead (cN m 0) (cT m 1) (cN m 2))) else ({ data := #[] } : ByteArray)
theorem runs_at {lo : Int} {l : Rows} (h : runsOk lo l = true) {i : Nat} {x : Row} (hx : l[i]? = some x) : 1 ≤ cN x 0 ∧ cN x 0 ≤ 1000000 ∧ lo ≤ cN x 1 ∧ cN x 1 ≤ 10000 := by
  have hi := (List.getElem?_eq_some_iff.1 hx).1
  simp only [runsOk, Bool.and_eq_true, allN, List.all_eq_true, List.mem_range] at h
  have := h.1 i hi
  have e : row_ l i = x := by simp [row_, hx]
  simp only [e, Bool.and_eq_true, inB, decide_eq_true_eq] at this
  omega
theorem works_at {l : Rows} (h : worksOk l = true) {i : Nat} {x : Row} (hx : l[i]? = some x) : 1 ≤ cN x 0 ∧ cN x 0 ≤ 1000000 ∧ 1 ≤ cN x 1 ∧ cN x 1 ≤ 10000 ∧ 0 < valSz 6 (x.drop 2) := by
  have hi := (List.getElem?_eq_some_iff.1 hx).1
  simp only [worksOk, Bool.and_eq_true, allN, List.all_eq_true, List.mem_range] at h
  have := h.1 i hi
  have e : row_ l i = x := by simp [row_, hx]
  simp only [e, Bool.and_eq_true, inB, valueOk, decide_eq_true_eq] at this
  omega
theorem works_few {l : Rows} (h : worksOk l = true) : l.length ≤ 40 := by
  simp only [worksOk, Bool.and_eq_true, decide_eq_true_eq] at h
  omega
theorem runs_few {lo : Int} {l : Rows} (h : runsOk lo l = true) : l.length ≤ 80 := by
  simp only [runsOk, Bool.and_eq_true, decide_eq_true_eq] at h
  omega
theorem small {n : Int} (h0 : 0 ≤ n) (h1 : n ≤ 1000000) : Fits n := by
  simp only [Fits, IntKind.min, IntKind.max, IntKind.signed, IntKind.bits]
  simp
  omega
theorem small_size {n : Int} (h0 : 0 ≤ n) (h1 : n ≤ 1000000) : (decS n).size ≤ 30 := decS_size (small h0 h1).1 (small h0 h1).2
theorem f18 {v : Row} (h : ShL E (E 38) v) (hs : 0 < valSz 6 v) : Ev fs 18 [.g v] ⟨.d (.v (.string (vTxt 6 v))), []⟩ := by
  have hok : valueOk v = true := by simpa [valueOk] using hs
  have q1 := f20 h
  have q2 := f36 6 h hs
  obtain ⟨na0, sa1, na2, la3, la4, rfl, pa0, pa1, pa2, pa3, pa4⟩ := I38 h
  refine Ev.of (af := a18) rfl rfl (Evt.congr (fun d n => a18q ..) ?_)
  refine ev_call q1 ?_
  simp -implicitDefEqProofs only [rdl, Ex.same, Nat.beq, hok, Bool.not_true]
  refine ev_call q2 ?_
  simp -implicitDefEqProofs only [rdl, Ex.same, Nat.beq]
  exact Evt.ret
theorem runs7 {na0 : Int} {sa1 : ByteArray} {na2 : Int} {la3 la4 : Rows} {lo : Int} (h0 : 0 ≤ lo) (hl : SL E 55 la4) (hr : runsOk lo la4 = true) {a : ByteArray} (ha : a.size ≤ 1000) :
    Evt (fun d n => l7x0 (TabD fs d) d n [.b [.v (.int .i64 na0), .v (.string sa1), .v (.int .i64 na2), .fz 7 la3, .fz 2 la4], .v (.string a), .v (.int .i64 0)]) (.exit 0, [.b [.v (.int .i64 na0), .v (.string sa1), .v (.int .i64 na2), .fz 7 la3, .fz 2 la4], .v (.string (runsT la4 a))]) ∧ (runsT la4 a).size ≤ 1000 + la4.length * 100 := by
  have z32 : ({ data := #[32] } : ByteArray).size = 1 := rfl
  have z10 : ({ data := #[10] } : ByteArray).size = 1 := rfl
  have hfew := runs_few hr
  refine fold_loop (L := fun d n acc i => l7x0 (TabD fs d) d n [.b [.v (.int .i64 na0), .v (.string sa1), .v (.int .i64 na2), .fz 7 la3, .fz 2 la4], .v (.string acc), .v (.int .i64 i)]) (a := la4) (f := fun a x => a ++ runLine x) (acc := a) (Y := fun acc => (.exit 0, [.b [.v (.int .i64 na0), .v (.string sa1), .v (.int .i64 na2), .fz 7 la3, .fz 2 la4], .v (.string acc)])) (fun i acc => acc.size ≤ 1000 + i * 100) (fun d n acc => ?_) (fun i x acc res hi hx hI k => ?_) (fun i x acc hi hx hI => ?_) (by omega)
  · rw [l7x0s]
    simp -implicitDefEqProofs only [rdl, Ex.same, Nat.beq, Int.lt_irrefl, decide_false]
  · have w := hl.at hx
    have hb := runs_at hr hx
    obtain ⟨nx0, nx1, rfl, px0, px1⟩ := I55 w
    simp only [cN, cT, cR, cE, List.getElem?_cons_zero, List.getElem?_cons_succ] at hb
    have s0 := small_size (n := nx0) (by omega) (by omega)
    have s1 := small_size (n := nx1) (by omega) (by omega)
    simp only [runLine, sp, nl, cN, cT, cR, cE, List.getElem?_cons_zero, List.getElem?_cons_succ, ← ByteArray.append_assoc] at k
    simp only [l7x0s]
    simp -implicitDefEqProofs only [rdl, Ex.same, Nat.beq, decide_eq_true (Int.ofNat_lt.2 hi), dec_nn, look_at hx, wrap_succ hi hl.le]
    refine ev_call (f26 (by omega) (by omega)) ?_
    simp -implicitDefEqProofs only [rdl, Ex.same, Nat.beq]
    refine ev_tst (sz_le (by simp only [ByteArray.size_append, z32, z10, maxLen] at *; omega)) ?_
    refine ev_tst (sz_le (by simp only [ByteArray.size_append, z32, z10, maxLen] at *; omega)) ?_
    refine ev_call (f26 (by omega) (by omega)) ?_
    simp -implicitDefEqProofs only [rdl, Ex.same, Nat.beq]
    refine ev_tst (sz_le (by simp only [ByteArray.size_append, z32, z10, maxLen] at *; omega)) ?_
    refine ev_tst (sz_le (by simp only [ByteArray.size_append, z32, z10, maxLen] at *; omega)) ?_
    exact k
  · have hb := runs_at hr hx
    have s0 := small_size (n := cN x 0) (by omega) (by omega)
    have s1 := small_size (n := cN x 1) (by omega) (by omega)
    simp only [runLine, sp, nl, ByteArray.size_append, z32, z10] at *
    omega
theorem works7 {na0 : Int} {sa1 : ByteArray} {na2 : Int} {la3 la4 : Rows} (hl : SL E 57 la3) (hr : worksOk la3 = true) {a : ByteArray} (ha : a.size ≤ 10000) :
    Evt (fun d n => l7x1 (TabD fs d) d n [.b [.v (.int .i64 na0), .v (.string sa1), .v (.int .i64 na2), .fz 7 la3, .fz 2 la4], .v (.string a), .v (.int .i64 0)]) (.exit 2, [.v (.string (worksT la3 a))]) := by
  have z32 : ({ data := #[32] } : ByteArray).size = 1 := rfl
  have z10 : ({ data := #[10] } : ByteArray).size = 1 := rfl
  have hfew := works_few hr
  refine (fold_loop (L := fun d n acc i => l7x1 (TabD fs d) d n [.b [.v (.int .i64 na0), .v (.string sa1), .v (.int .i64 na2), .fz 7 la3, .fz 2 la4], .v (.string acc), .v (.int .i64 i)]) (a := la3) (f := fun a x => a ++ workLine x) (acc := a) (Y := fun acc => (.exit 2, [.v (.string acc)])) (fun i acc => acc.size ≤ 10000 + i * 100000) (fun d n acc => ?_) (fun i x acc res hi hx hI k => ?_) (fun i x acc hi hx hI => ?_) (by omega)).1
  · rw [l7x1s]
    simp -implicitDefEqProofs only [rdl, Ex.same, Nat.beq, Int.lt_irrefl, decide_false]
  · have w := hl.at hx
    have hb := works_at hr hx
    obtain ⟨nx0, nx1, nx2, sx3, nx4, lx5, lx6, rfl, px0, px1, px2, px3, px4, px5, px6⟩ := I57 w
    have hv : 0 < valSz 6 [.v (.int .i64 nx2), .v (.string sx3), .v (.int .i64 nx4), .s 1 lx5, .s 5 lx6] := hb.2.2.2.2
    have hvs := vTxt_size 6 _ hv (num_ok 6 (by rw [E38]; exact mk_i (by assumption) (mk_s (by assumption) (mk_i (by assumption) (mk_sl W9 (by assumption) (mk_sl W38 (by assumption) (ShL.nil)))))))
    have hvr := (valSz_rng 6 [.v (.int .i64 nx2), .v (.string sx3), .v (.int .i64 nx4), .s 1 lx5, .s 5 lx6]).2
    simp only [cN, cT, cR, cE, List.getElem?_cons_zero, List.getElem?_cons_succ] at hb
    have s0 := small_size (n := nx0) (by omega) (by omega)
    have s1 := small_size (n := nx1) (by omega) (by omega)
    have k : Evt (fun d n => l7x1 (TabD fs d) d n [.b [.v (.int .i64 na0), .v (.string sa1), .v (.int .i64 na2), .fz 7 la3, .fz 2 la4], .v (.string (acc ++ decS nx0 ++ ({ data := #[32] } : ByteArray) ++ decS nx1 ++ ({ data := #[32] } : ByteArray) ++ vTxt 6 [.v (.int .i64 nx2), .v (.string sx3), .v (.int .i64 nx4), .s 1 lx5, .s 5 lx6] ++ ({ data := #[10] } : ByteArray))), .v (.int .i64 ((i + 1 : Nat) : Int))]) res := by
      simp only [workLine, sp, nl, cN, cT, cR, cE, List.getElem?_cons_zero, List.getElem?_cons_succ, List.drop_succ_cons, List.drop_zero, ← ByteArray.append_assoc] at k
      exact k
    have hvz : (vTxt 6 [.v (.int .i64 nx2), .v (.string sx3), .v (.int .i64 nx4), .s 1 lx5, .s 5 lx6]).size ≤ 81600 := by omega
    have call := f27 6 (by rw [E38]; exact mk_i (by assumption) (mk_s (by assumption) (mk_i (by assumption) (mk_sl W9 (by assumption) (mk_sl W38 (by assumption) (ShL.nil)))))) hv
    generalize vTxt 6 [.v (.int .i64 nx2), .v (.string sx3), .v (.int .i64 nx4), .s 1 lx5, .s 5 lx6] = tx at k call hvz
    clear hvs
    simp only [l7x1s]
    simp -implicitDefEqProofs only [rdl, Ex.same, Nat.beq, decide_eq_true (Int.ofNat_lt.2 hi), dec_nn, look_at hx, wrap_succ hi hl.le]
    refine ev_call (f26 (by omega) (by omega)) ?_
    simp -implicitDefEqProofs only [rdl, Ex.same, Nat.beq]
    refine ev_tst (sz_le (by simp only [ByteArray.size_append, z32, z10, maxLen] at *; omega)) ?_
    refine ev_tst (sz_le (by simp only [ByteArray.size_append, z32, z10, maxLen] at *; omega)) ?_
    refine ev_call (f26 (by omega) (by omega)) ?_
    simp -implicitDefEqProofs only [rdl, Ex.same, Nat.beq]
    refine ev_tst (sz_le (by simp only [ByteArray.size_append, z32, z10, maxLen] at *; omega)) ?_
    refine ev_tst (sz_le (by simp only [ByteArray.size_append, z32, z10, maxLen] at *; omega)) ?_
    refine ev_call call ?_
    simp -implicitDefEqProofs only [rdl, Ex.same, Nat.beq]
    refine ev_tst (sz_le (by simp only [ByteArray.size_append, z32, z10, maxLen] at *; omega)) ?_
    refine ev_tst (sz_le (by simp only [ByteArray.size_append, z32, z10, maxLen] at *; omega)) ?_
    exact k
  · have hb := works_at hr hx
    have w := hl.at hx
    have hvs : ((vTxt 6 (x.drop 2)).size : Int) + 22 ≤ 272 * valSz 6 (x.drop 2) := by
      have hv := hb.2.2.2.2
      obtain ⟨nx0, nx1, nx2, sx3, nx4, lx5, lx6, rfl, px0, px1, px2, px3, px4, px5, px6⟩ := I57 w
      exact vTxt_size 6 _ hv (num_ok 6 (by rw [E38]; exact mk_i (by assumption) (mk_s (by assumption) (mk_i (by assumption) (mk_sl W9 (by assumption) (mk_sl W38 (by assumption) (ShL.nil)))))))
    have hvr := (valSz_rng 6 (x.drop 2)).2
    have s0 := small_size (n := cN x 0) (by omega) (by omega)
    have s1 := small_size (n := cN x 1) (by omega) (by omega)
    simp only [workLine, sp, nl, ByteArray.size_append, z32, z10] at *
    omega
theorem runs9 {na0 : Int} {sa1 : ByteArray} {na2 : Int} {la3 la4 : Rows} {lo : Int} (h0 : 0 ≤ lo) (hl : SL E 55 la4) (hr : runsOk lo la4 = true) {a : ByteArray} (ha : a.size ≤ 1000) :
    Evt (fun d n => l9x0 (TabD fs d) d n [.b [.v (.int .i64 na0), .v (.string sa1), .v (.int .i64 na2), .fz 7 la3, .fz 2 la4], .v (.string a), .fz 2 la4, .v (.int .i64 (la4.length : Int)), .v (.int .i64 0)]) (.exit 0, [.b [.v (.int .i64 na0), .v (.string sa1), .v (.int .i64 na2), .fz 7 la3, .fz 2 la4], .v (.string (runsT la4 a))]) ∧ (runsT la4 a).size ≤ 1000 + la4.length * 100 := by
  have z32 : ({ data := #[32] } : ByteArray).size = 1 := rfl
  have z10 : ({ data := #[10] } : ByteArray).size = 1 := rfl
  have hfew := runs_few hr
  refine fold_loop (L := fun d n acc i => l9x0 (TabD fs d) d n [.b [.v (.int .i64 na0), .v (.string sa1), .v (.int .i64 na2), .fz 7 la3, .fz 2 la4], .v (.string acc), .fz 2 la4, .v (.int .i64 (la4.length : Int)), .v (.int .i64 i)]) (a := la4) (f := fun a x => a ++ runLine x) (acc := a) (Y := fun acc => (.exit 0, [.b [.v (.int .i64 na0), .v (.string sa1), .v (.int .i64 na2), .fz 7 la3, .fz 2 la4], .v (.string acc)])) (fun i acc => acc.size ≤ 1000 + i * 100) (fun d n acc => ?_) (fun i x acc res hi hx hI k => ?_) (fun i x acc hi hx hI => ?_) (by omega)
  · rw [l9x0s]
    simp -implicitDefEqProofs only [rdl, Ex.same, Nat.beq, Int.lt_irrefl, decide_false]
  · have w := hl.at hx
    have hb := runs_at hr hx
    obtain ⟨nx0, nx1, rfl, px0, px1⟩ := I55 w
    simp only [cN, cT, cR, cE, List.getElem?_cons_zero, List.getElem?_cons_succ] at hb
    have s0 := small_size (n := nx0) (by omega) (by omega)
    have s1 := small_size (n := nx1) (by omega) (by omega)
    simp only [runLine, sp, nl, cN, cT, cR, cE, List.getElem?_cons_zero, List.getElem?_cons_succ] at k
    simp only [l9x0s]
    simp -implicitDefEqProofs only [rdl, Ex.same, Nat.beq, decide_eq_true (Int.ofNat_lt.2 hi), dec_nn, look_at hx, wrap_succ hi hl.le]
    refine ev_call (f31 (small (by omega) (by omega))) ?_
    simp -implicitDefEqProofs only [rdl, Ex.same, Nat.beq]
    refine ev_tst (sz_le (by simp only [ByteArray.size_append, z32, z10, maxLen] at *; omega)) ?_
    refine ev_call (f31 (small (by omega) (by omega))) ?_
    simp -implicitDefEqProofs only [rdl, Ex.same, Nat.beq]
    refine ev_tst (sz_le (by simp only [ByteArray.size_append, z32, z10, maxLen] at *; omega)) ?_
    refine ev_tst (sz_le (by simp only [ByteArray.size_append, z32, z10, maxLen] at *; omega)) ?_
    refine ev_tst (sz_le (by simp only [ByteArray.size_append, z32, z10, maxLen] at *; omega)) ?_
    exact k
  · have hb := runs_at hr hx
    have s0 := small_size (n := cN x 0) (by omega) (by omega)
    have s1 := small_size (n := cN x 1) (by omega) (by omega)
    simp only [runLine, sp, nl, ByteArray.size_append, z32, z10] at *
    omega
theorem works9 {na0 : Int} {sa1 : ByteArray} {na2 : Int} {la3 la4 : Rows} (hl : SL E 57 la3) (hr : worksOk la3 = true) {a : ByteArray} (ha : a.size ≤ 10000) :
    Evt (fun d n => l9x1 (TabD fs d) d n [.v (.string a), .fz 7 la3, .v (.int .i64 (la3.length : Int)), .v (.int .i64 0)]) (.exit 2, [.v (.string (worksT la3 a))]) := by
  have z32 : ({ data := #[32] } : ByteArray).size = 1 := rfl
  have z10 : ({ data := #[10] } : ByteArray).size = 1 := rfl
  have hfew := works_few hr
  refine (fold_loop (L := fun d n acc i => l9x1 (TabD fs d) d n [.v (.string acc), .fz 7 la3, .v (.int .i64 (la3.length : Int)), .v (.int .i64 i)]) (a := la3) (f := fun a x => a ++ workLine x) (acc := a) (Y := fun acc => (.exit 2, [.v (.string acc)])) (fun i acc => acc.size ≤ 10000 + i * 100000) (fun d n acc => ?_) (fun i x acc res hi hx hI k => ?_) (fun i x acc hi hx hI => ?_) (by omega)).1
  · rw [l9x1s]
    simp -implicitDefEqProofs only [rdl, Ex.same, Nat.beq, Int.lt_irrefl, decide_false]
  · have w := hl.at hx
    have hb := works_at hr hx
    obtain ⟨nx0, nx1, nx2, sx3, nx4, lx5, lx6, rfl, px0, px1, px2, px3, px4, px5, px6⟩ := I57 w
    have hv : 0 < valSz 6 [.v (.int .i64 nx2), .v (.string sx3), .v (.int .i64 nx4), .s 1 lx5, .s 5 lx6] := hb.2.2.2.2
    have hvs := vTxt_size 6 _ hv (num_ok 6 (by rw [E38]; exact mk_i (by assumption) (mk_s (by assumption) (mk_i (by assumption) (mk_sl W9 (by assumption) (mk_sl W38 (by assumption) (ShL.nil)))))))
    have hvr := (valSz_rng 6 [.v (.int .i64 nx2), .v (.string sx3), .v (.int .i64 nx4), .s 1 lx5, .s 5 lx6]).2
    simp only [cN, cT, cR, cE, List.getElem?_cons_zero, List.getElem?_cons_succ] at hb
    have s0 := small_size (n := nx0) (by omega) (by omega)
    have s1 := small_size (n := nx1) (by omega) (by omega)
    have k : Evt (fun d n => l9x1 (TabD fs d) d n [.v (.string (acc ++ (decS nx0 ++ ({ data := #[32] } : ByteArray) ++ decS nx1 ++ ({ data := #[32] } : ByteArray) ++ vTxt 6 [.v (.int .i64 nx2), .v (.string sx3), .v (.int .i64 nx4), .s 1 lx5, .s 5 lx6] ++ ({ data := #[10] } : ByteArray)))), .fz 7 la3, .v (.int .i64 (la3.length : Int)), .v (.int .i64 ((i + 1 : Nat) : Int))]) res := by
      simp only [workLine, sp, nl, cN, cT, cR, cE, List.getElem?_cons_zero, List.getElem?_cons_succ, List.drop_succ_cons, List.drop_zero] at k
      exact k
    have hvz : (vTxt 6 [.v (.int .i64 nx2), .v (.string sx3), .v (.int .i64 nx4), .s 1 lx5, .s 5 lx6]).size ≤ 81600 := by omega
    have call := f18 (by rw [E38]; exact mk_i (by assumption) (mk_s (by assumption) (mk_i (by assumption) (mk_sl W9 (by assumption) (mk_sl W38 (by assumption) (ShL.nil)))))) hv
    generalize vTxt 6 [.v (.int .i64 nx2), .v (.string sx3), .v (.int .i64 nx4), .s 1 lx5, .s 5 lx6] = tx at k call hvz
    clear hvs
    simp only [l9x1s]
    simp -implicitDefEqProofs only [rdl, Ex.same, Nat.beq, decide_eq_true (Int.ofNat_lt.2 hi), dec_nn, look_at hx, wrap_succ hi hl.le]
    refine ev_call (f31 (small (by omega) (by omega))) ?_
    simp -implicitDefEqProofs only [rdl, Ex.same, Nat.beq]
    refine ev_tst (sz_le (by simp only [ByteArray.size_append, z32, z10, maxLen] at *; omega)) ?_
    refine ev_call (f31 (small (by omega) (by omega))) ?_
    simp -implicitDefEqProofs only [rdl, Ex.same, Nat.beq]
    refine ev_tst (sz_le (by simp only [ByteArray.size_append, z32, z10, maxLen] at *; omega)) ?_
    refine ev_tst (sz_le (by simp only [ByteArray.size_append, z32, z10, maxLen] at *; omega)) ?_
    refine ev_call call ?_
    simp -implicitDefEqProofs only [rdl, Ex.same, Nat.beq]
    refine ev_tst (sz_le (by simp only [ByteArray.size_append, z32, z10, maxLen] at *; omega)) ?_
    refine ev_tst (sz_le (by simp only [ByteArray.size_append, z32, z10, maxLen] at *; omega)) ?_
    refine ev_tst (sz_le (by simp only [ByteArray.size_append, z32, z10, maxLen] at *; omega)) ?_
    exact k
  · have hb := works_at hr hx
    have w := hl.at hx
    have hvs : ((vTxt 6 (x.drop 2)).size : Int) + 22 ≤ 272 * valSz 6 (x.drop 2) := by
      have hv := hb.2.2.2.2
      obtain ⟨nx0, nx1, nx2, sx3, nx4, lx5, lx6, rfl, px0, px1, px2, px3, px4, px5, px6⟩ := I57 w
      exact vTxt_size 6 _ hv (num_ok 6 (by rw [E38]; exact mk_i (by assumption) (mk_s (by assumption) (mk_i (by assumption) (mk_sl W9 (by assumption) (mk_sl W38 (by assumption) (ShL.nil)))))))
    have hvr := (valSz_rng 6 (x.drop 2)).2
    have s0 := small_size (n := cN x 0) (by omega) (by omega)
    have s1 := small_size (n := cN x 1) (by omega) (by omega)
    simp only [workLine, sp, nl, ByteArray.size_append, z32, z10] at *
    omega
theorem msg_parts {n : Int} {u : ByteArray} {r : Int} {ws rs : Rows} (h : msgOk [.v (.int .i64 n), .v (.string u), .v (.int .i64 r), .s 7 ws, .s 2 rs] = true) : u.size ≤ 20 ∧ 0 ≤ r ∧ r ≤ 1000000 ∧ worksOk ws = true ∧ runsOk 0 rs = true := by
  have h : (nameOk u && (if n = 1 then inB r 0 1000000 && (runsOk 0 rs && ((ws.length : Int) == 0)) else if n = 2 then inB r 1 1000000 && (worksOk ws && ((rs.length : Int) == 0)) else false)) = true := h
  simp only [Bool.and_eq_true] at h
  obtain ⟨h1, h2⟩ := h
  simp only [nameOk, Bool.and_eq_true, inB, decide_eq_true_eq] at h1
  refine ⟨by omega, ?_⟩
  by_cases hn : n = 1
  · rw [if_pos hn] at h2
    simp only [Bool.and_eq_true, inB, decide_eq_true_eq, beq_iff_eq] at h2
    have : ws = [] := List.length_eq_zero_iff.1 (by omega)
    subst this
    exact ⟨by omega, by omega, by decide, h2.2.1⟩
  · rw [if_neg hn] at h2
    by_cases hm : n = 2
    · rw [if_pos hm] at h2
      simp only [Bool.and_eq_true, inB, decide_eq_true_eq, beq_iff_eq] at h2
      have : rs = [] := List.length_eq_zero_iff.1 (by omega)
      subst this
      exact ⟨by omega, by omega, h2.2.1, by decide⟩
    · rw [if_neg hm] at h2
      simp at h2
theorem f7 {m : Row} (h : ShL E (E 31) m) : Ev fs 7 [.g m] ⟨.d (.v (.string (msgTxt m))), []⟩ := by
  have q1 := f25 h
  obtain ⟨na0, sa1, na2, la3, la4, rfl, pa0, pa1, pa2, pa3, pa4⟩ := I31 h
  have z32 : ({ data := #[32] } : ByteArray).size = 1 := rfl
  have z10 : ({ data := #[10] } : ByteArray).size = 1 := rfl
  refine Ev.of (af := a7) rfl rfl (Evt.congr (fun d n => a7q ..) ?_)
  refine ev_call q1 ?_
  simp -implicitDefEqProofs only [rdl, Ex.same, Nat.beq]
  simp only [msgTxt, cN, cT, cR, cE, List.getElem?_cons_zero, List.getElem?_cons_succ, msgHead, sp, nl]
  refine ev_if (fun c1 => ?_) (fun c1 => ?_)
  · have c1 : msgOk [.v (.int .i64 na0), .v (.string sa1), .v (.int .i64 na2), .s 7 la3, .s 2 la4] = false := by simpa using c1
    exact Evt.ret' (by rw [c1]; rfl)
  · have c1 : msgOk [.v (.int .i64 na0), .v (.string sa1), .v (.int .i64 na2), .s 7 la3, .s 2 la4] = true := by simpa using c1
    obtain ⟨h1, h2, h3, hw, hr⟩ := msg_parts c1
    rw [c1]
    have hd := small_size h2 h3
    have hf := runs_few hr
    simp only [cond_true]
    refine ev_if (fun c2 => ?_) (fun c2 => ?_)
    · have zz : ({ data := #[108, 105, 115, 116, 32] } : ByteArray).size = 5 := rfl
      have hA : ((((({ data := #[108, 105, 115, 116, 32] } : ByteArray) ++ sa1) ++ ({ data := #[32] } : ByteArray)) ++ decS na2 ++ ({ data := #[10] } : ByteArray))).size ≤ 1000 := by simp only [ByteArray.size_append, z32, z10, zz]; omega
      obtain ⟨r1, r2⟩ := runs7 (sa1 := sa1) (na0 := na0) (na2 := na2) (la3 := la3) (Int.le_refl 0) pa4 hr hA
      have r3 := works7 (sa1 := sa1) (na0 := na0) (na2 := na2) (la4 := la4) pa3 hw (a := runsT la4 ((((({ data := #[108, 105, 115, 116, 32] } : ByteArray) ++ sa1) ++ ({ data := #[32] } : ByteArray)) ++ decS na2 ++ ({ data := #[10] } : ByteArray)))) (by omega)
      refine ev_tst (sz_le (by simp only [ByteArray.size_append, z32, z10, zz, maxLen]; omega)) ?_
      refine ev_tst (sz_le (by simp only [ByteArray.size_append, z32, z10, zz, maxLen]; omega)) ?_
      refine ev_call (f26 (by omega) (by omega)) ?_
      simp -implicitDefEqProofs only [rdl, Ex.same, Nat.beq]
      refine ev_tst (sz_le (by simp only [ByteArray.size_append, z32, z10, zz, maxLen]; omega)) ?_
      refine ev_tst (sz_le (by simp only [ByteArray.size_append, z32, z10, zz, maxLen]; omega)) ?_
      refine ev_aft (L := fun d n => l7x0 (TabD fs d) d n [.b [.v (.int .i64 na0), .v (.string sa1), .v (.int .i64 na2), .fz 7 la3, .fz 2 la4], .v (.string (((({ data := #[108, 105, 115, 116, 32] } : ByteArray) ++ sa1) ++ ({ data := #[32] } : ByteArray)) ++ decS na2 ++ ({ data := #[10] } : ByteArray))), .v (.int .i64 0)]) r1 ?_
      simp -implicitDefEqProofs only [rdl, Ex.same, Nat.beq]
      refine ev_aft (L := fun d n => l7x1 (TabD fs d) d n [.b [.v (.int .i64 na0), .v (.string sa1), .v (.int .i64 na2), .fz 7 la3, .fz 2 la4], .v (.string (runsT la4 (((({ data := #[108, 105, 115, 116, 32] } : ByteArray) ++ sa1) ++ ({ data := #[32] } : ByteArray)) ++ decS na2 ++ ({ data := #[10] } : ByteArray)))), .v (.int .i64 0)]) r3 ?_
      simp -implicitDefEqProofs only [rdl, Ex.same, Nat.beq]
      exact Evt.ret' (by rw [c2]; rfl)
    · have zz : ({ data := #[116, 101, 108, 108, 32] } : ByteArray).size = 5 := rfl
      have hA : ((((({ data := #[116, 101, 108, 108, 32] } : ByteArray) ++ sa1) ++ ({ data := #[32] } : ByteArray)) ++ decS na2 ++ ({ data := #[10] } : ByteArray))).size ≤ 1000 := by simp only [ByteArray.size_append, z32, z10, zz]; omega
      obtain ⟨r1, r2⟩ := runs7 (sa1 := sa1) (na0 := na0) (na2 := na2) (la3 := la3) (Int.le_refl 0) pa4 hr hA
      have r3 := works7 (sa1 := sa1) (na0 := na0) (na2 := na2) (la4 := la4) pa3 hw (a := runsT la4 ((((({ data := #[116, 101, 108, 108, 32] } : ByteArray) ++ sa1) ++ ({ data := #[32] } : ByteArray)) ++ decS na2 ++ ({ data := #[10] } : ByteArray)))) (by omega)
      refine ev_tst (sz_le (by simp only [ByteArray.size_append, z32, z10, zz, maxLen]; omega)) ?_
      refine ev_tst (sz_le (by simp only [ByteArray.size_append, z32, z10, zz, maxLen]; omega)) ?_
      refine ev_call (f26 (by omega) (by omega)) ?_
      simp -implicitDefEqProofs only [rdl, Ex.same, Nat.beq]
      refine ev_tst (sz_le (by simp only [ByteArray.size_append, z32, z10, zz, maxLen]; omega)) ?_
      refine ev_tst (sz_le (by simp only [ByteArray.size_append, z32, z10, zz, maxLen]; omega)) ?_
      refine ev_aft (L := fun d n => l7x0 (TabD fs d) d n [.b [.v (.int .i64 na0), .v (.string sa1), .v (.int .i64 na2), .fz 7 la3, .fz 2 la4], .v (.string (((({ data := #[116, 101, 108, 108, 32] } : ByteArray) ++ sa1) ++ ({ data := #[32] } : ByteArray)) ++ decS na2 ++ ({ data := #[10] } : ByteArray))), .v (.int .i64 0)]) r1 ?_
      simp -implicitDefEqProofs only [rdl, Ex.same, Nat.beq]
      refine ev_aft (L := fun d n => l7x1 (TabD fs d) d n [.b [.v (.int .i64 na0), .v (.string sa1), .v (.int .i64 na2), .fz 7 la3, .fz 2 la4], .v (.string (runsT la4 (((({ data := #[116, 101, 108, 108, 32] } : ByteArray) ++ sa1) ++ ({ data := #[32] } : ByteArray)) ++ decS na2 ++ ({ data := #[10] } : ByteArray)))), .v (.int .i64 0)]) r3 ?_
      simp -implicitDefEqProofs only [rdl, Ex.same, Nat.beq]
      exact Evt.ret' (by rw [c2]; rfl)
theorem f9 {m : Row} (h : ShL E (E 31) m) : Ev fs 9 [.g m] ⟨.d (.v (.string (msgTxt m))), []⟩ := by
  have q1 := f30 h
  obtain ⟨na0, sa1, na2, la3, la4, rfl, pa0, pa1, pa2, pa3, pa4⟩ := I31 h
  have z32 : ({ data := #[32] } : ByteArray).size = 1 := rfl
  have z10 : ({ data := #[10] } : ByteArray).size = 1 := rfl
  refine Ev.of (af := a9) rfl rfl (Evt.congr (fun d n => a9q ..) ?_)
  refine ev_call q1 ?_
  simp -implicitDefEqProofs only [rdl, Ex.same, Nat.beq]
  simp only [msgTxt, cN, cT, cR, cE, List.getElem?_cons_zero, List.getElem?_cons_succ, msgHead, sp, nl]
  refine ev_if (fun c1 => ?_) (fun c1 => ?_)
  · have c1 : msgOk [.v (.int .i64 na0), .v (.string sa1), .v (.int .i64 na2), .s 7 la3, .s 2 la4] = false := by simpa using c1
    exact Evt.ret' (by rw [c1]; rfl)
  · have c1 : msgOk [.v (.int .i64 na0), .v (.string sa1), .v (.int .i64 na2), .s 7 la3, .s 2 la4] = true := by simpa using c1
    obtain ⟨h1, h2, h3, hw, hr⟩ := msg_parts c1
    rw [c1]
    have hd := small_size h2 h3
    have hf := runs_few hr
    simp only [cond_true]
    refine ev_if (fun c2 => ?_) (fun c2 => ?_)
    · have zz : ({ data := #[108, 105, 115, 116, 32] } : ByteArray).size = 5 := rfl
      have hA : ((((({ data := #[108, 105, 115, 116, 32] } : ByteArray) ++ sa1) ++ ({ data := #[32] } : ByteArray)) ++ decS na2 ++ ({ data := #[10] } : ByteArray))).size ≤ 1000 := by simp only [ByteArray.size_append, z32, z10, zz]; omega
      obtain ⟨r1, r2⟩ := runs9 (sa1 := sa1) (na0 := na0) (na2 := na2) (la3 := la3) (Int.le_refl 0) pa4 hr hA
      have r3 := works9 (sa1 := sa1) (na0 := na0) (na2 := na2) (la4 := la4) pa3 hw (a := runsT la4 ((((({ data := #[108, 105, 115, 116, 32] } : ByteArray) ++ sa1) ++ ({ data := #[32] } : ByteArray)) ++ decS na2 ++ ({ data := #[10] } : ByteArray)))) (by omega)
      refine ev_tst (sz_le (by simp only [ByteArray.size_append, z32, z10, zz, maxLen]; omega)) ?_
      refine ev_tst (sz_le (by simp only [ByteArray.size_append, z32, z10, zz, maxLen]; omega)) ?_
      refine ev_call (f31 (small (by omega) (by omega))) ?_
      simp -implicitDefEqProofs only [rdl, Ex.same, Nat.beq]
      refine ev_tst (sz_le (by simp only [ByteArray.size_append, z32, z10, zz, maxLen]; omega)) ?_
      refine ev_tst (sz_le (by simp only [ByteArray.size_append, z32, z10, zz, maxLen]; omega)) ?_
      refine ev_aft (L := fun d n => l9x0 (TabD fs d) d n [.b [.v (.int .i64 na0), .v (.string sa1), .v (.int .i64 na2), .fz 7 la3, .fz 2 la4], .v (.string (((({ data := #[108, 105, 115, 116, 32] } : ByteArray) ++ sa1) ++ ({ data := #[32] } : ByteArray)) ++ decS na2 ++ ({ data := #[10] } : ByteArray))), .fz 2 la4, .v (.int .i64 (la4.length : Int)), .v (.int .i64 0)]) r1 ?_
      simp -implicitDefEqProofs only [rdl, Ex.same, Nat.beq]
      refine ev_aft (L := fun d n => l9x1 (TabD fs d) d n [.v (.string (runsT la4 (((({ data := #[108, 105, 115, 116, 32] } : ByteArray) ++ sa1) ++ ({ data := #[32] } : ByteArray)) ++ decS na2 ++ ({ data := #[10] } : ByteArray)))), .fz 7 la3, .v (.int .i64 (la3.length : Int)), .v (.int .i64 0)]) r3 ?_
      simp -implicitDefEqProofs only [rdl, Ex.same, Nat.beq]
      exact Evt.ret' (by rw [c2]; rfl)
    · have zz : ({ data := #[116, 101, 108, 108, 32] } : ByteArray).size = 5 := rfl
      have hA : ((((({ data := #[116, 101, 108, 108, 32] } : ByteArray) ++ sa1) ++ ({ data := #[32] } : ByteArray)) ++ decS na2 ++ ({ data := #[10] } : ByteArray))).size ≤ 1000 := by simp only [ByteArray.size_append, z32, z10, zz]; omega
      obtain ⟨r1, r2⟩ := runs9 (sa1 := sa1) (na0 := na0) (na2 := na2) (la3 := la3) (Int.le_refl 0) pa4 hr hA
      have r3 := works9 (sa1 := sa1) (na0 := na0) (na2 := na2) (la4 := la4) pa3 hw (a := runsT la4 ((((({ data := #[116, 101, 108, 108, 32] } : ByteArray) ++ sa1) ++ ({ data := #[32] } : ByteArray)) ++ decS na2 ++ ({ data := #[10] } : ByteArray)))) (by omega)
      refine ev_tst (sz_le (by simp only [ByteArray.size_append, z32, z10, zz, maxLen]; omega)) ?_
      refine ev_tst (sz_le (by simp only [ByteArray.size_append, z32, z10, zz, maxLen]; omega)) ?_
      refine ev_call (f31 (small (by omega) (by omega))) ?_
      simp -implicitDefEqProofs only [rdl, Ex.same, Nat.beq]
      refine ev_tst (sz_le (by simp only [ByteArray.size_append, z32, z10, zz, maxLen]; omega)) ?_
      refine ev_tst (sz_le (by simp only [ByteArray.size_append, z32, z10, zz, maxLen]; omega)) ?_
      refine ev_aft (L := fun d n => l9x0 (TabD fs d) d n [.b [.v (.int .i64 na0), .v (.string sa1), .v (.int .i64 na2), .fz 7 la3, .fz 2 la4], .v (.string (((({ data := #[116, 101, 108, 108, 32] } : ByteArray) ++ sa1) ++ ({ data := #[32] } : ByteArray)) ++ decS na2 ++ ({ data := #[10] } : ByteArray))), .fz 2 la4, .v (.int .i64 (la4.length : Int)), .v (.int .i64 0)]) r1 ?_
      simp -implicitDefEqProofs only [rdl, Ex.same, Nat.beq]
      refine ev_aft (L := fun d n => l9x1 (TabD fs d) d n [.v (.string (runsT la4 (((({ data := #[116, 101, 108, 108, 32] } : ByteArray) ++ sa1) ++ ({ data := #[32] } : ByteArray)) ++ decS na2 ++ ({ data := #[10] } : ByteArray)))), .fz 7 la3, .v (.int .i64 (la3.length : Int)), .v (.int .i64 0)]) r3 ?_
      simp -implicitDefEqProofs only [rdl, Ex.same, Nat.beq]
      exact Evt.ret' (by rw [c2]; rfl)
end Go.Am.Mt
