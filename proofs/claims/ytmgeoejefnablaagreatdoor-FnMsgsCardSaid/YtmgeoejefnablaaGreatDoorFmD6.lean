/- Drawn works; what islands are turned to. Nothing is assumed. -/
import Derived.Test.YtmgeoejefnablaaGreatDoorFmD3
namespace Go.Am.Fm
variable {SK : Src}
set_option linter.unusedVariables false
set_option linter.unusedSimpArgs false
set_option maxRecDepth 8000
theorem f104 {l : Rows} (hl : SL E 48 l) (hw : l.length + wtRows l ≤ 1048576) : Ev (fs SK) 104 [.d (.s 7 l)] ⟨.d (.s 7 l), []⟩ := by
 refine Ev.of (af := a104) rfl rfl (Evt.congr (fun d n => a104q ..) ?_)
 refine ev_aft (L := fun d n => l104x0 (TabD (fs SK) d) d n [(.fz 7 l), (.o 7 []), (.v (.int .i64 0))]) (copy_loop (L := fun d n acc i => l104x0 (TabD (fs SK) d) d n [(.fz 7 l), (.o 7 acc), (.v (.int .i64 i))]) (a := l) (Y := fun acc => (.exit 0, [.o 7 acc])) (fun d n acc => ?_) (fun i x res hi hx k => ?_)) ?_
 ·rw [l104x0s]
  simp -implicitDefEqProofs only [rdl, Ex.same, Nat.beq, Int.lt_irrefl, decide_false]
 ·have g := hl.at hx
  obtain ⟨nx0, nx1, nx2, sx3, nx4, lx5, lx6, rfl, px0, px1, px2, px3, px4, px5, px6⟩ := I48 g
  have hwx := wt_at hx
  simp only [wtRow, wtD] at hwx
  simp only [l104x0s]
  simp -implicitDefEqProofs only [rdl, Ex.same, Nat.beq, decide_eq_true (Int.ofNat_lt.2 hi), dec_nn, look_at hx, wrap_succ hi hl.le]
  refine ev_call (f130 (by rw [E46]; exact mk_i (by assumption) (mk_s (by assumption) (mk_i (by assumption) (mk_sl W9 (by assumption) (mk_sl W46 (by assumption) (ShL.nil)))))) (by simp only [wtRow, wtD]; omega)) ?_
  simp -implicitDefEqProofs only [rdl, Ex.same, Nat.beq]
  refine ev_tst (app_fits (by omega) (by omega) (by omega)) ?_
  simp only [setD_last, List.set_cons_zero, List.set_cons_succ]
  exact k
 ·simp -implicitDefEqProofs only [rdl, Ex.same, Nat.beq]
  exact Evt.ret
theorem f103 {row : Row} (h : ShL E (E 75) row) (hw : wtRow row ≤ 1048576) : Ev (fs SK) 103 [.g row] ⟨.g row, []⟩ := by
 obtain ⟨sa0, na1, na2, la3, la4, rfl, pa0, pa1, pa2, pa3, pa4⟩ := I75 h
 have fla4 : flatRows la4 = true := List.all_eq_true.2 fun x hx => by
  have h := pa4.2.mem x hx
  obtain ⟨nz0, nz1, rfl, pz0, pz1⟩ := I42 h
  rfl
 simp only [wtRow, wtD] at hw
 have hb4 := app_fits0 (l := la4) (c := 16) (by omega) (by omega)
 refine Ev.of (af := a103) rfl rfl (Evt.congr (fun d n => a103q ..) ?_)
 refine ev_call (f104 (by assumption) (by first | omega | (simp only [wtRow, wtD] at *; omega))) ?_
 simp -implicitDefEqProofs only [rdl, Ex.same, Nat.beq, fla4, hb4, List.nil_append, Bool.not_false, Bool.not_true, cond_true, cond_false]
 exact Evt.ret
theorem wt_runs : ∀ {l : Rows}, (∀ x ∈ l, ShL E (E 42) x) → wtRows l = 0
 | [], _ => by simp [wtRows]
 | x :: l, h => by
  have h1 := h x (by simp)
  have h2 := wt_runs (l := l) fun y hy => h y (by simp [hy])
  obtain ⟨na0, na1, rfl, pa0, pa1⟩ := I42 h1
  simp only [wtRows, wtRow, wtD, h2]
def WsB (ws : Rows) : Prop := SL E 48 ws ∧ ws.length + wtRows ws ≤ 31000 ∧ ws.length ≤ 6
def RsB (rs : Rows) : Prop := SL E 42 rs ∧ rs.length ≤ 81
structure IB (u : ByteArray) (a r : Int) (ws rs : Rows) : Prop where
 u : u.size ≤ 21
 a : Fits a
 r : Fits r
 w : WsB ws
 s : RsB rs
theorem ws_nil : WsB [] := ⟨sl_nil, by simp [wtRows], by simp⟩
theorem rs_nil : RsB [] := ⟨sl_nil, by simp⟩
abbrev IR (u : ByteArray) (a r : Int) (ws rs : Rows) : Row := [.v (.string u), .v (.int .i64 a), .v (.int .i64 r), .s 7 ws, .s 2 rs]
abbrev IA (u : ByteArray) (a r : Int) (ws rs : Rows) : List AV := [.v (.string u), .v (.int .i64 a), .v (.int .i64 r), .o 7 ws, .o 2 rs]
abbrev IF (u : ByteArray) (a r : Int) (ws rs : Rows) : List AV := [.v (.string u), .v (.int .i64 a), .v (.int .i64 r), .fz 7 ws, .fz 2 rs]
theorem ib_zero : IB ByteArray.empty 0 0 [] [] := ⟨by decide, by decide, by decide, ws_nil, rs_nil⟩
theorem IB.sh {u : ByteArray} {a r : Int} {ws rs : Rows} (h : IB u a r ws rs) : ShL E (E 75) (IR u a r ws rs) := by
 rw [E75]
 exact mk_s (by have := h.u; simp only [maxLen]; omega) (mk_i h.a (mk_i h.r (mk_sl W48 h.w.1 (mk_sl W42 h.s.1 .nil))))
theorem IB.wt {u : ByteArray} {a r : Int} {ws rs : Rows} (h : IB u a r ws rs) : wtRow (IR u a r ws rs) ≤ 1048576 := by
 have h1 := h.u
 have h2 := h.w.2.1
 have h3 := h.s.2
 have h4 : wtRows rs = 0 := wt_runs fun x hx => h.s.1.2.mem x hx
 simp only [wtRow, wtD, h4]
 omega
theorem run_row {a c : Int} (ha : Fits a) (hc : Fits c) : ShL E (E 42) [.v (.int .i64 a), .v (.int .i64 c)] := by
 rw [E42]
 exact mk_i ha (mk_i hc .nil)
theorem work_row {a c : Int} {v : Row} (ha : Fits a) (hc : Fits c) (hv : ShL E (E 46) v) : ShL E (E 48) (.v (.int .i64 a) :: .v (.int .i64 c) :: v) := by
 rw [E46] at hv
 rw [E48]
 exact mk_i ha (mk_i hc hv)
theorem t43 {a : Option Addr} {n c : Nat} {i h : Int} (hK : IsH SK a n) (hi : 0 ≤ i) : EvE (fs SK) 43 [.p (CR a n c i h)] (CQ a n c fun r => ∃ s : ByteArray, s.size ≤ 21 ∧ r = .d (.v (.string s))) := by
 refine EvE.of (af := a43) rfl rfl (EvtE.congr (fun d n => a43q ..) ?_)
 refine eve_callE (t70 (m := 21) hK hi rfl rfl) ?_
 rintro o ⟨_, i1, h1, ⟨s, hs, rfl⟩, hi1, rfl⟩
 simp -implicitDefEqProofs only [rdl, Ex.same, Nat.beq]
 exact EvtE.ret ⟨_, _, _, ⟨_, hs, rfl⟩, hi1, rfl⟩
theorem wd_loop {a : Option Addr} {n c : Nat} (hK : IsH SK a n) : ∀ (m j : Nat) (i h : Int) (ws : Rows), j + m = 6 → 0 ≤ i → SL E 48 ws → ws.length ≤ j → wtRows ws ≤ ws.length * 5000 →
  EvtE (fun y => ∃ i h ws, 0 ≤ i ∧ WsB ws ∧ y = (.exit 0, [.b (CB a n c i h), .o 7 ws])) (fun d q => l45x0 (TabD (fs SK) d) d q [.b (CB a n c i h), .o 7 ws, .v (.int .i64 (j : Int))]) := by
 intro m
 induction m with
 | zero =>
  intro j i h ws hj hi hw hl ht
  refine eve_succ ?_
  simp only [l45x0s]
  simp -implicitDefEqProofs only [rdl, Ex.same, Nat.beq, show decide ((j : Int) < 6) = false from decide_eq_false (by omega)]
  exact EvtE.ret ⟨_, _, _, hi, ⟨hw, by omega, by omega⟩, rfl⟩
 | succ m ih =>
  intro j i h ws hj hi hw hl ht
  have hwj : IntKind.i64.wrap ((j : Int) + 1) = ((j + 1 : Nat) : Int) := by rw [wrap_i64 (by omega) (by omega)]; omega
  refine eve_succ ?_
  simp only [l45x0s]
  simp -implicitDefEqProofs only [rdl, Ex.same, Nat.beq, show decide ((j : Int) < 6) = true from decide_eq_true (by omega), hwj]
  refine eve_callE (t46 hK hi 2) ?_
  rintro o ⟨_, i1, h1, ⟨x1, rfl⟩, hi1, rfl⟩
  simp -implicitDefEqProofs only [rdl, Ex.same, Nat.beq, hwj]
  refine eve_if (fun c1 => ?_) (fun c1 => ?_)
  ·refine eve_callE (t44 hK hi1 5) ?_
   rintro o ⟨_, i2, h2, ⟨x2, hx0, hx1, _, rfl⟩, hi2, rfl⟩
   simp -implicitDefEqProofs only [rdl, Ex.same, Nat.beq, hwj]
   refine eve_callE (t72 hK 2 (by omega) (by omega) i2 h2 hi2) ?_
   rintro o ⟨_, i3, h3, ⟨v, ⟨hv, hvw⟩, rfl⟩, hi3, rfl⟩
   have hB : wB 2 = 5000 := rfl
   have hv9 := hv
   obtain ⟨na0, sa1, na2, la3, la4, rfl, pa0, pa1, pa2, pa3, pa4⟩ := I46 hv
   simp -implicitDefEqProofs only [rdl, Ex.same, Nat.beq, hwj]
   refine eve_tst (decide_eq_true (by simp only [List.length_cons, List.length_nil, maxBytes]; omega)) ?_
   rw [work_put]
   refine ih (j + 1) _ _ _ (by omega) hi3 (sl_snoc hw (work_row (fit_small (by omega) (by omega)) (fit_wrap _) hv9) (by omega)) (by simp; omega) ?_
   rw [wtRows_app, List.length_append, List.length_singleton, Nat.succ_mul]
   simp only [wtRows, wtRow, wtD] at *
   omega
  ·exact ih (j + 1) _ _ _ (by omega) hi1 hw (by omega) ht
theorem t45 {a : Option Addr} {n c : Nat} {i h : Int} (hK : IsH SK a n) (hi : 0 ≤ i) : EvE (fs SK) 45 [.p (CR a n c i h)] (CQ a n c fun r => ∃ ws, WsB ws ∧ r = .d (.s 7 ws)) := by
 refine EvE.of (af := a45) rfl rfl (EvtE.congr (fun d n => a45q ..) ?_)
 refine eve_aft (L := fun d q => l45x0 (TabD (fs SK) d) d q [.b (CB a n c i h), .o 7 [], .v (.int .i64 1)]) (wd_loop hK 5 1 i h [] (by omega) hi sl_nil (by simp) (by simp [wtRows])) ?_
 rintro y ⟨i1, h1, ws, hi1, hw, rfl⟩
 simp -implicitDefEqProofs only [rdl, Ex.same, Nat.beq]
 exact EvtE.ret ⟨_, _, _, ⟨_, hw, rfl⟩, hi1, rfl⟩
theorem t75 {s : ByteArray} (hs : s.size ≤ 21) {k : Int} (hk : Fits k) : EvE (fs SK) 75 [.d (.v (.string s)), .d (.v (.int .i64 k))] fun o => ∃ (u : ByteArray) (a r : Int) (ws rs : Rows) (bb : Bool), IB u a r ws rs ∧ o = ⟨.t [.g (IR u a r ws rs), .d (.v (.bool bb))], []⟩ := by
 refine EvE.of (af := a75) rfl rfl (EvtE.congr (fun d n => a75q ..) ?_)
 refine eve_call (f20 (by simp only [maxLen]; omega)) ?_
 simp -implicitDefEqProofs only [rdl, Ex.same, Nat.beq]
 refine eve_if (fun c1 => ?_) (fun c1 => EvtE.ret ⟨_, _, _, _, _, _, ib_zero, rfl⟩)
 refine eve_call (f21 _ _ _) ?_
 simp -implicitDefEqProofs only [rdl, Ex.same, Nat.beq]
 refine eve_if (fun c2 => EvtE.ret ⟨_, _, _, _, _, _, ib_zero, rfl⟩) (fun c2 => ?_)
 exact EvtE.ret ⟨_, _, _, _, _, _, ⟨hs, hk, by decide, ws_nil, rs_nil⟩, rfl⟩
theorem t76 {u : ByteArray} {a r : Int} {ws rs : Rows} (h : IB u a r ws rs) {v : Int} (hv : Fits v) {l : Rows} (hl : WsB l) : EvE (fs SK) 76 [.g (IR u a r ws rs), .d (.v (.int .i64 v)), .d (.s 7 l)] fun o => ∃ (u : ByteArray) (a r : Int) (ws rs : Rows) (bb : Bool), IB u a r ws rs ∧ o = ⟨.t [.g (IR u a r ws rs), .d (.v (.bool bb))], []⟩ := by
 have c1 := f103 (SK := SK) h.sh h.wt
 have c2 := f73 (SK := SK) h.sh
 have c3 := f23 (SK := SK) hl.1
 have c4 := f104 (SK := SK) hl.1 (by have := hl.2.1; omega)
 generalize isleOk (IR u a r ws rs) = b1 at c2
 generalize worksOk l = b2 at c3
 refine EvE.of (af := a76) rfl rfl (EvtE.congr (fun d n => a76q ..) ?_)
 refine eve_call c1 ?_
 simp -implicitDefEqProofs only [rdl, Ex.same, Nat.beq]
 refine eve_call c2 ?_
 simp -implicitDefEqProofs only [rdl, Ex.same, Nat.beq]
 refine eve_if (fun _ => ?_) (fun _ => EvtE.ret ⟨_, _, _, _, _, _, h, rfl⟩)
 refine eve_call c3 ?_
 simp -implicitDefEqProofs only [rdl, Ex.same, Nat.beq]
 refine eve_if (fun _ => ?_) (fun _ => EvtE.ret ⟨_, _, _, _, _, _, h, rfl⟩)
 refine eve_if (fun _ => ?_) (fun _ => EvtE.ret ⟨_, _, _, _, _, _, h, rfl⟩)
 refine eve_if (fun _ => EvtE.ret ⟨_, _, _, _, _, _, h, rfl⟩) (fun _ => ?_)
 refine eve_call c4 ?_
 simp -implicitDefEqProofs only [rdl, Ex.same, Nat.beq]
 exact EvtE.ret ⟨_, _, _, _, _, _, ⟨h.u, h.a, hv, hl, h.s⟩, rfl⟩
theorem lr_loop {l : Rows} (hl : SL E 42 l) (u : Int) : ∀ (k i : Nat), l.length - i ≤ k → EvtE (fun y => y = (.exit 0, []) ∨ ∃ (t : Int) (b : Bool), y = (.ret, [.v (.int .i64 t), .v (.bool b)])) (fun d m => l102x0 (TabD (fs SK) d) d m [.fz 2 l, .v (.int .i64 u), .v (.int .i64 (i : Int))]) := by
 have stop : ∀ i : Nat, l.length ≤ i → EvtE (fun y => y = (.exit 0, []) ∨ ∃ (t : Int) (b : Bool), y = (.ret, [.v (.int .i64 t), .v (.bool b)])) (fun d m => l102x0 (TabD (fs SK) d) d m [.fz 2 l, .v (.int .i64 u), .v (.int .i64 (i : Int))]) := fun i hi => by
  refine eve_succ ?_
  simp only [l102x0s]
  simp -implicitDefEqProofs only [rdl, Ex.same, Nat.beq, show decide ((i : Int) < (l.length : Int)) = false from decide_eq_false (by omega)]
  exact EvtE.ret (.inl rfl)
 intro k
 induction k with
 | zero => intro i hk; exact stop i (by omega)
 | succ k ih =>
  intro i hk
  rcases Nat.lt_or_ge i l.length with hlt | hge
  ·have hx := List.getElem?_eq_getElem hlt
   generalize l[i] = x at hx
   have w := hl.at hx
   obtain ⟨nw0, nw1, rfl, pw0, pw1⟩ := I42 w
   refine eve_succ ?_
   simp only [l102x0s]
   simp -implicitDefEqProofs only [rdl, Ex.same, Nat.beq, decide_eq_true (Int.ofNat_lt.2 hlt), dec_nn, look_at hx, wrap_succ hlt hl.le]
   refine eve_if (fun c1 => ?_) (fun c1 => ?_)
   ·exact EvtE.ret (.inr ⟨_, _, rfl⟩)
   ·exact ih (i + 1) (by omega)
  ·exact stop i hge
theorem t102 {l : Rows} (hl : SL E 42 l) (u : Int) : EvE (fs SK) 102 [.d (.s 2 l), .d (.v (.int .i64 u))] fun o => ∃ (t : Int) (b : Bool), o = ⟨.t [.d (.v (.int .i64 t)), .d (.v (.bool b))], []⟩ := by
 refine EvE.of (af := a102) rfl rfl (EvtE.congr (fun d n => a102q ..) ?_)
 refine eve_aft (L := fun d m => l102x0 (TabD (fs SK) d) d m [.fz 2 l, .v (.int .i64 u), .v (.int .i64 0)]) (lr_loop hl u _ 0 (Nat.le_refl _)) ?_
 rintro y (rfl | ⟨t, b, rfl⟩)
 ·simp -implicitDefEqProofs only [rdl, Ex.same, Nat.beq]
  exact EvtE.ret ⟨_, _, rfl⟩
 ·simp -implicitDefEqProofs only [rdl, Ex.same, Nat.beq]
  exact EvtE.ret ⟨_, _, rfl⟩
theorem wn_loop {u : ByteArray} {a r k : Int} {ws rs : Rows} (hl : SL E 48 ws) : ∀ (m i : Nat), ws.length - i ≤ m → EvtE (fun y => y = (.exit 0, []) ∨ ∃ t : Int, y = (.ret, [.v (.int .i64 t)])) (fun d m => l131x0 (TabD (fs SK) d) d m [.v (.int .i64 k), .b (IF u a r ws rs), .v (.int .i64 (i : Int))]) := by
 have stop : ∀ i : Nat, ws.length ≤ i → EvtE (fun y => y = (.exit 0, []) ∨ ∃ t : Int, y = (.ret, [.v (.int .i64 t)])) (fun d m => l131x0 (TabD (fs SK) d) d m [.v (.int .i64 k), .b (IF u a r ws rs), .v (.int .i64 (i : Int))]) := fun i hi => by
  refine eve_succ ?_
  simp only [l131x0s]
  simp -implicitDefEqProofs only [rdl, Ex.same, Nat.beq, show decide ((i : Int) < (ws.length : Int)) = false from decide_eq_false (by omega)]
  exact EvtE.ret (.inl rfl)
 intro m
 induction m with
 | zero => intro i hk; exact stop i (by omega)
 | succ m ih =>
  intro i hk
  rcases Nat.lt_or_ge i ws.length with hlt | hge
  ·have hx := List.getElem?_eq_getElem hlt
   generalize ws[i] = x at hx
   have w := hl.at hx
   obtain ⟨nw0, nw1, nw2, sw3, nw4, lw5, lw6, rfl, pw0, pw1, pw2, pw3, pw4, pw5, pw6⟩ := I48 w
   refine eve_succ ?_
   simp only [l131x0s]
   simp -implicitDefEqProofs only [rdl, Ex.same, Nat.beq, decide_eq_true (Int.ofNat_lt.2 hlt), dec_nn, look_at hx, wrap_succ hlt hl.le]
   refine eve_if (fun c1 => ?_) (fun c1 => ?_)
   ·exact EvtE.ret (.inr ⟨_, rfl⟩)
   ·exact ih (i + 1) (by omega)
  ·exact stop i hge
theorem t131 {u : ByteArray} {a r k : Int} {ws rs : Rows} (hl : SL E 48 ws) : EvE (fs SK) 131 [.g (IR u a r ws rs), .d (.v (.int .i64 k))] fun o => ∃ t : Int, o = ⟨.d (.v (.int .i64 t)), []⟩ := by
 refine EvE.of (af := a131) rfl rfl (EvtE.congr (fun d n => a131q ..) ?_)
 refine eve_aft (L := fun d m => l131x0 (TabD (fs SK) d) d m [.v (.int .i64 k), .b (IF u a r ws rs), .v (.int .i64 0)]) (wn_loop hl _ 0 (Nat.le_refl _)) ?_
 rintro y (rfl | ⟨t, rfl⟩)
 ·simp -implicitDefEqProofs only [rdl, Ex.same, Nat.beq]
  exact EvtE.ret ⟨_, rfl⟩
 ·simp -implicitDefEqProofs only [rdl, Ex.same, Nat.beq]
  exact EvtE.ret ⟨_, rfl⟩
theorem ov_loop {u : ByteArray} {a r : Int} {ws rs : Rows} (hw : SL E 48 ws) (hl : SL E 42 rs) : ∀ (m i : Nat), rs.length - i ≤ m → EvtE (fun y => y = (.exit 0, []) ∨ ∃ t : Nat, t < rs.length ∧ y = (.ret, [.v (.int .i64 (t : Int))])) (fun d m => l105x0 (TabD (fs SK) d) d m [.b (IF u a r ws rs), .v (.int .i64 (i : Int))]) := by
 have stop : ∀ i : Nat, rs.length ≤ i → EvtE (fun y => y = (.exit 0, []) ∨ ∃ t : Nat, t < rs.length ∧ y = (.ret, [.v (.int .i64 (t : Int))])) (fun d m => l105x0 (TabD (fs SK) d) d m [.b (IF u a r ws rs), .v (.int .i64 (i : Int))]) := fun i hi => by
  refine eve_succ ?_
  simp only [l105x0s]
  simp -implicitDefEqProofs only [rdl, Ex.same, Nat.beq, show decide ((i : Int) < (rs.length : Int)) = false from decide_eq_false (by omega)]
  exact EvtE.ret (.inl rfl)
 intro m
 induction m with
 | zero => intro i hk; exact stop i (by omega)
 | succ m ih =>
  intro i hk
  rcases Nat.lt_or_ge i rs.length with hlt | hge
  ·have hx := List.getElem?_eq_getElem hlt
   generalize rs[i] = x at hx
   have w := hl.at hx
   obtain ⟨nw0, nw1, rfl, pw0, pw1⟩ := I42 w
   refine eve_succ ?_
   simp only [l105x0s]
   simp -implicitDefEqProofs only [rdl, Ex.same, Nat.beq, decide_eq_true (Int.ofNat_lt.2 hlt), dec_nn, look_at hx, wrap_succ hlt hl.le]
   refine eve_callE (t131 hw) ?_
   rintro o ⟨t, rfl⟩
   simp -implicitDefEqProofs only [rdl, Ex.same, Nat.beq, wrap_succ hlt hl.le]
   refine eve_if (fun c1 => ?_) (fun c1 => ?_)
   ·exact EvtE.ret (.inr ⟨_, hlt, rfl⟩)
   ·exact ih (i + 1) (by omega)
  ·exact stop i hge
theorem t105 {u : ByteArray} {a r : Int} {ws rs : Rows} (hw : SL E 48 ws) (hl : SL E 42 rs) : EvE (fs SK) 105 [.g (IR u a r ws rs)] fun o => o = ⟨.d (.v (.int .i64 (-1))), []⟩ ∨ ∃ t : Nat, t < rs.length ∧ o = ⟨.d (.v (.int .i64 (t : Int))), []⟩ := by
 refine EvE.of (af := a105) rfl rfl (EvtE.congr (fun d n => a105q ..) ?_)
 refine eve_aft (L := fun d m => l105x0 (TabD (fs SK) d) d m [.b (IF u a r ws rs), .v (.int .i64 0)]) (ov_loop hw hl _ 0 (Nat.le_refl _)) ?_
 rintro y (rfl | ⟨t, ht, rfl⟩)
 ·simp -implicitDefEqProofs only [rdl, Ex.same, Nat.beq]
  exact EvtE.ret (.inl rfl)
 ·simp -implicitDefEqProofs only [rdl, Ex.same, Nat.beq]
  exact EvtE.ret (.inr ⟨_, ht, rfl⟩)
theorem pt_loop {l : Rows} (hl : SL E 42 l) (hn : l.length ≤ 100) {u k : Int} (hu : Fits u) (hk : Fits k) : ∀ (m i : Nat) (b : Bool) (acc : Rows), i + m = l.length → SL E 42 acc → acc.length + (bif b then 0 else 1) ≤ i + 1 →
  EvtE (fun y => ∃ (b : Bool) (acc : Rows), SL E 42 acc ∧ acc.length + (bif b then 0 else 1) ≤ l.length + 1 ∧ y = (.exit 0, [.v (.int .i64 u), .v (.int .i64 k), .o 2 acc, .v (.bool b)])) (fun d q => l106x0 (TabD (fs SK) d) d q [.fz 2 l, .v (.int .i64 u), .v (.int .i64 k), .o 2 acc, .v (.bool b), .v (.int .i64 (i : Int))]) := by
 intro m
 induction m with
 | zero =>
  intro i b acc hm ha hb
  refine eve_succ ?_
  simp only [l106x0s]
  simp -implicitDefEqProofs only [rdl, Ex.same, Nat.beq, show decide ((i : Int) < (l.length : Int)) = false from decide_eq_false (by omega)]
  exact EvtE.ret ⟨b, acc, ha, by omega, rfl⟩
 | succ m ih =>
  intro i b acc hm ha hb
  have hlt : i < l.length := by omega
  have hx := List.getElem?_eq_getElem hlt
  generalize l[i] = x at hx
  have w := hl.at hx
  obtain ⟨nw0, nw1, rfl, pw0, pw1⟩ := I42 w
  have hal : acc.length ≤ 101 := by omega
  have nr := run_row pw0 pw1
  have ur := run_row hu hk
  have wS := wrap_succ hlt hl.le
  refine eve_succ ?_
  simp only [l106x0s]
  simp -implicitDefEqProofs only [rdl, Ex.same, Nat.beq, decide_eq_true (Int.ofNat_lt.2 hlt), dec_nn, look_at hx, wS]
  refine eve_if (fun c1 => ?_) (fun c1 => ?_)
  ·have c1 : b = false := by simpa using c1
   subst c1
   have hb : acc.length + 1 ≤ i + 1 := hb
   refine eve_if (fun c2 => ?_) (fun c2 => ?_)
   ·refine eve_tst (decide_eq_true (by simp only [List.length_append, List.length_cons, List.length_nil, maxBytes]; omega)) ?_
    refine eve_if (fun c3 => ?_) (fun c3 => ?_)
    ·refine eve_tst (decide_eq_true (by simp only [List.length_append, List.length_cons, List.length_nil, maxBytes]; omega)) ?_
     exact ih (i + 1) true _ (by omega) (sl_snoc (sl_snoc ha ur (by omega)) nr (by simp; omega)) (by simp; omega)
    ·exact ih (i + 1) true _ (by omega) (sl_snoc ha ur (by omega)) (by simp; omega)
   ·refine eve_if (fun c3 => ?_) (fun c3 => ?_)
    ·refine eve_tst (decide_eq_true (by simp only [List.length_append, List.length_cons, List.length_nil, maxBytes]; omega)) ?_
     exact ih (i + 1) false _ (by omega) (sl_snoc ha nr (by omega)) (by simp; omega)
    ·exact ih (i + 1) false _ (by omega) ha (by simp; omega)
  ·have c1 : b = true := by simpa using c1
   subst c1
   have hb : acc.length + 0 ≤ i + 1 := hb
   refine eve_if (fun c3 => ?_) (fun c3 => ?_)
   ·refine eve_tst (decide_eq_true (by simp only [List.length_append, List.length_cons, List.length_nil, maxBytes]; omega)) ?_
    exact ih (i + 1) true _ (by omega) (sl_snoc ha nr (by omega)) (by simp; omega)
   ·exact ih (i + 1) true _ (by omega) ha (by simp; omega)
theorem t106 {l : Rows} (hl : SL E 42 l) (hn : l.length ≤ 80) {u k : Int} (hu : Fits u) (hk : Fits k) : EvE (fs SK) 106 [.d (.s 2 l), .d (.v (.int .i64 u)), .d (.v (.int .i64 k))] fun o => ∃ r : Rows, RsB r ∧ o = ⟨.d (.s 2 r), []⟩ := by
 refine EvE.of (af := a106) rfl rfl (EvtE.congr (fun d n => a106q ..) ?_)
 refine eve_aft (L := fun d q => l106x0 (TabD (fs SK) d) d q [.fz 2 l, .v (.int .i64 u), .v (.int .i64 k), .o 2 [], .v (.bool (k == 0)), .v (.int .i64 0)]) (pt_loop hl (by omega) hu hk l.length 0 _ [] (by omega) sl_nil (by cases (k == 0) <;> simp)) ?_
 rintro y ⟨b, acc, ha, hb, rfl⟩
 simp -implicitDefEqProofs only [rdl, Ex.same, Nat.beq]
 refine eve_if (fun c1 => ?_) (fun c1 => ?_)
 ·have c1 : b = false := by simpa using c1
  subst c1
  have hb : acc.length + 1 ≤ l.length + 1 := hb
  refine eve_tst (decide_eq_true (by simp only [List.length_cons, List.length_nil, maxBytes]; omega)) ?_
  exact EvtE.ret ⟨_, ⟨sl_snoc ha (run_row hu hk) (by omega), by simp; omega⟩, rfl⟩
 ·have hb : acc.length ≤ l.length + 1 := by omega
  exact EvtE.ret ⟨_, ⟨ha, by omega⟩, rfl⟩
theorem isle_few {u : ByteArray} {a r : Int} {ws rs : Rows} (h : isleOk (IR u a r ws rs) = true) : ws.length ≤ 40 ∧ rs.length ≤ 80 := by
 have h : (nameOk u && (inB a 0 10000 && (inB r 0 1000000 && (worksOk ws && (runsOk 1 rs && decide (sumN 1 rs ≤ a)))))) = true := h
 simp only [Bool.and_eq_true] at h
 exact ⟨works_few h.2.2.2.1, runs_few h.2.2.2.2.1⟩
end Go.Am.Fm
