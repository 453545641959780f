/- Drawn islands and messages. Nothing is assumed. -/
import Derived.Test.YtmgeoejefnablaaGreatDoorFmD6
namespace Go.Am.Fm
variable {SK : Src}
set_option linter.unusedVariables false
set_option linter.unusedSimpArgs false
set_option maxRecDepth 8000
theorem mv_loop {u : ByteArray} {a r : Int} {ws rs : Rows} (h : IB u a r ws rs) (hn : rs.length ≤ 80) : ∀ (m i : Nat), ws.length - i ≤ m →
  EvtE (fun y => y = (.exit 0, [.b (IA ByteArray.empty 0 0 [] []), .b (IA u a r ws rs)]) ∨ ∃ (q : Rows) (k z : Int), RsB q ∧ y = (.ret, [.b (IA u a r ws q), .v (.int .i64 k), .v (.int .i64 z)])) (fun d m => l77x0 (TabD (fs SK) d) d m [.b (IF u a r ws rs), .b (IA ByteArray.empty 0 0 [] []), .b (IA u a r ws rs), .v (.int .i64 (i : Int))]) := by
 have hl := h.w.1
 have stop : ∀ i : Nat, ws.length ≤ i → EvtE (fun y => y = (.exit 0, [.b (IA ByteArray.empty 0 0 [] []), .b (IA u a r ws rs)]) ∨ ∃ (q : Rows) (k z : Int), RsB q ∧ y = (.ret, [.b (IA u a r ws q), .v (.int .i64 k), .v (.int .i64 z)])) (fun d m => l77x0 (TabD (fs SK) d) d m [.b (IF u a r ws rs), .b (IA ByteArray.empty 0 0 [] []), .b (IA u a r ws rs), .v (.int .i64 (i : Int))]) := fun i hi => by
  refine eve_succ ?_
  simp only [l77x0s]
  simp -implicitDefEqProofs only [rdl, Ex.same, Nat.beq, show decide ((i : Int) < (ws.length : Int)) = false from decide_eq_false (by omega), beq_f, show (false == true) = false from rfl]
  exact EvtE.ret (.inl rfl)
 intro m
 induction m with
 | zero => intro i hk; exact stop i (by omega)
 | succ m ih =>
  intro i hk
  rcases Nat.lt_or_ge i ws.length with hlt | hge
  ·have hx := List.getElem?_eq_getElem hlt
   generalize ws[i] = x at hx
   have w := hl.at hx
   obtain ⟨nw0, nw1, nw2, sw3, nw4, lw5, lw6, rfl, pw0, pw1, pw2, pw3, pw4, pw5, pw6⟩ := I48 w
   refine eve_succ ?_
   simp only [l77x0s]
   simp -implicitDefEqProofs only [rdl, Ex.same, Nat.beq, decide_eq_true (Int.ofNat_lt.2 hlt), show (true == true) = true from rfl]
   refine eve_call (f101 h.s.1) ?_
   simp -implicitDefEqProofs only [rdl, Ex.same, Nat.beq]
   refine eve_if (fun c1 => ?_) (fun c1 => EvtE.ret (.inl rfl))
   simp -implicitDefEqProofs only [rdl, Ex.same, Nat.beq, dec_nn, look_at hx]
   refine eve_callE (t102 h.s.1 _) ?_
   rintro o ⟨t, bb, rfl⟩
   simp -implicitDefEqProofs only [rdl, Ex.same, Nat.beq, dec_nn, look_at hx, wrap_succ hlt hl.le]
   refine eve_if (fun c2 => ?_) (fun c2 => ih (i + 1) (by omega))
   refine eve_callE (t106 h.s.1 hn pw0 (fit_wrap _)) ?_
   rintro o ⟨q, hq, rfl⟩
   simp -implicitDefEqProofs only [rdl, Ex.same, Nat.beq, dec_nn, look_at hx]
   exact EvtE.ret (.inr ⟨_, _, _, hq, rfl⟩)
  ·exact stop i hge
theorem t77 {u : ByteArray} {a r : Int} {ws rs : Rows} (h : IB u a r ws rs) : EvE (fs SK) 77 [.g (IR u a r ws rs)] fun o => ∃ (u : ByteArray) (a r : Int) (ws rs : Rows) (k z : Int), IB u a r ws rs ∧ o = ⟨.t [.g (IR u a r ws rs), .d (.v (.int .i64 k)), .d (.v (.int .i64 z))], []⟩ := by
 have c1 := f103 (SK := SK) h.sh h.wt
 have c2 := f73 (SK := SK) h.sh
 have c3 := fun e => isle_few (u := u) (a := a) (r := r) (ws := ws) (rs := rs) e
 generalize isleOk (IR u a r ws rs) = b1 at c2 c3
 refine EvE.of (af := a77) rfl rfl (EvtE.congr (fun d n => a77q ..) ?_)
 refine eve_call c1 ?_
 simp -implicitDefEqProofs only [rdl, Ex.same, Nat.beq]
 refine eve_call c2 ?_
 simp -implicitDefEqProofs only [rdl, Ex.same, Nat.beq]
 cases b1 with
 | false =>
  simp -implicitDefEqProofs only [rdl, Ex.same, Nat.beq, Bool.not_false]
  exact EvtE.ret ⟨_, _, _, _, _, _, _, h, rfl⟩
 | true =>
  have hn := (c3 rfl).2
  simp -implicitDefEqProofs only [rdl, Ex.same, Nat.beq, Bool.not_true]
  refine eve_callE (t105 h.w.1 h.s.1) ?_
  rintro o (rfl | ⟨t, ht, rfl⟩)
  ·simp -implicitDefEqProofs only [rdl, Ex.same, Nat.beq, show decide ((-1 : Int) ≥ 0) = false from rfl]
   refine eve_aft (L := fun d m => l77x0 (TabD (fs SK) d) d m [.b (IF u a r ws rs), .b (IA ByteArray.empty 0 0 [] []), .b (IA u a r ws rs), .v (.int .i64 0)]) (mv_loop h hn _ 0 (Nat.le_refl _)) ?_
   rintro y (rfl | ⟨q, k, z, hq, rfl⟩)
   ·simp -implicitDefEqProofs only [rdl, Ex.same, Nat.beq]
    exact EvtE.ret ⟨_, _, _, _, _, _, _, h, rfl⟩
   ·simp -implicitDefEqProofs only [rdl, Ex.same, Nat.beq]
    exact EvtE.ret ⟨_, _, _, _, _, _, _, ⟨h.u, h.a, h.r, h.w, hq⟩, rfl⟩
  ·have hx := List.getElem?_eq_getElem ht
   generalize rs[t] = x at hx
   have w := h.s.1.at hx
   obtain ⟨nw0, nw1, rfl, pw0, pw1⟩ := I42 w
   simp -implicitDefEqProofs only [rdl, Ex.same, Nat.beq, show decide ((t : Int) ≥ 0) = true from decide_eq_true (by omega), dec_nn, look_at hx]
   refine eve_callE (t106 h.s.1 hn pw0 (fit_wrap _)) ?_
   rintro o ⟨q, hq, rfl⟩
   simp -implicitDefEqProofs only [rdl, Ex.same, Nat.beq, dec_nn, look_at hx]
   exact EvtE.ret ⟨_, _, _, _, _, _, _, ⟨h.u, h.a, h.r, h.w, hq⟩, rfl⟩
theorem tl0_loop {u : ByteArray} {a r : Int} {ws rs : Rows} (hw : SL E 48 ws) (hwn : ws.length ≤ 40) : ∀ (m i : Nat) (acc : Rows), i + m = ws.length → SL E 42 acc → acc.length ≤ 80 + i →
  EvtE (fun y => ∃ acc, SL E 42 acc ∧ acc.length ≤ 120 ∧ y = (.exit 0, [.o 2 [], .o 2 acc])) (fun d q => l74x0 (TabD (fs SK) d) d q [.b (IF u a r ws rs), .o 2 [], .o 2 acc, .v (.int .i64 (i : Int))]) := by
 intro m
 induction m with
 | zero =>
  intro i acc hm ha hn
  refine eve_succ ?_
  simp only [l74x0s]
  simp -implicitDefEqProofs only [rdl, Ex.same, Nat.beq, show decide ((i : Int) < (ws.length : Int)) = false from decide_eq_false (by omega)]
  exact EvtE.ret ⟨_, ha, by omega, rfl⟩
 | succ m ih =>
  intro i acc hm ha hn
  have hlt : i < ws.length := by omega
  have hx := List.getElem?_eq_getElem hlt
  generalize ws[i] = x at hx
  have w := hw.at hx
  obtain ⟨nw0, nw1, nw2, sw3, nw4, lw5, lw6, rfl, pw0, pw1, pw2, pw3, pw4, pw5, pw6⟩ := I48 w
  refine eve_succ ?_
  simp only [l74x0s]
  simp -implicitDefEqProofs only [rdl, Ex.same, Nat.beq, decide_eq_true (Int.ofNat_lt.2 hlt), dec_nn, look_at hx, wrap_succ hlt hw.le]
  refine eve_tst (decide_eq_true (by simp only [List.length_cons, List.length_nil, maxBytes]; omega)) ?_
  exact ih (i + 1) _ (by omega) (sl_snoc ha (run_row pw0 (by decide)) (by omega)) (by simp; omega)
theorem sl_put {t : TypeId} {l : Rows} {x : Row} (hl : SL E t l) (hx : ShL E (E t) x) (j : Nat) : SL E t (l.set j x) := by
 refine ⟨by rw [List.length_set]; exact hl.1, ?_⟩
 have key : ∀ {l : Rows} {j : Nat}, ShR E (E t) l → ShR E (E t) (l.set j x) := by
  intro l
  induction l with
  | nil => intro j _; exact .nil
  | cons r l ih =>
   intro j h
   cases h with
   | cons h h' =>
    cases j with
    | zero => exact .cons hx h'
    | succ j => exact .cons h (ih h')
 exact key hl.2
theorem put_two {l : Rows} {q : Nat} {x y c d : D} (h : l[q]? = some [x, y]) : setD (setD l q 0 c) q 1 d = l.set q [c, d] := by
 apply List.ext_getElem?
 intro i
 have hlt := (List.getElem?_eq_some_iff.1 h).1
 simp only [setD, List.getElem?_modify, List.getElem?_set]
 by_cases hi : q = i
 ·subst hi
  simp [h, hlt]
  rw [(List.getElem?_eq_some_iff.1 h).2]
  rfl
 ·simp [hi]
theorem tl2_loop {al : Rows} {p s k : Int} (hs : Fits s) (hk : Fits k) : ∀ (m : Nat) (l : Rows), SL E 42 l → m < l.length → l.length ≤ 1000 →
  EvtE (fun y => ∃ (l' : Rows) (z : Nat), SL E 42 l' ∧ l'.length = l.length ∧ z < l.length ∧ y = (.exit 4, [.o 2 l', .o 2 al, .v (.int .i64 p), .v (.int .i64 (z : Int)), .b [.v (.int .i64 s), .v (.int .i64 k)]])) (fun d q => l74x2 (TabD (fs SK) d) d q [.o 2 l, .o 2 al, .v (.int .i64 p), .v (.int .i64 (m : Int)), .b [.v (.int .i64 s), .v (.int .i64 k)]]) := by
 intro m
 induction m with
 | zero =>
  intro l hl hm hn
  refine eve_succ ?_
  simp only [l74x2s]
  simp -implicitDefEqProofs only [rdl, Ex.same, Nat.beq, show decide (((0 : Nat) : Int) > 0) = false from rfl, beq_f, show (false == true) = false from rfl]
  exact EvtE.ret ⟨_, 0, hl, rfl, hm, rfl⟩
 | succ m ih =>
  intro l hl hm hn
  have hlt : m < l.length := by omega
  have hx := List.getElem?_eq_getElem hlt
  generalize l[m] = x at hx
  have w := hl.at hx
  obtain ⟨nw0, nw1, rfl, pw0, pw1⟩ := I42 w
  have hy := List.getElem?_eq_getElem hm
  generalize l[m + 1] = y at hy
  have w' := hl.at hy
  obtain ⟨nz0, nz1, rfl, pz0, pz1⟩ := I42 w'
  have hp : IntKind.i64.wrap (((m + 1 : Nat) : Int) - 1) = (m : Int) := by rw [wrap_i64 (by omega) (by omega)]; omega
  have b1 : decide (m < l.length) = true := decide_eq_true hlt
  have b2 : decide (m + 1 < l.length) = true := decide_eq_true hm
  refine eve_succ ?_
  simp only [l74x2s]
  simp -implicitDefEqProofs only [rdl, Ex.same, Nat.beq, show decide (((m + 1 : Nat) : Int) > 0) = true from decide_eq_true (by omega), show (true == true) = true from rfl, hp, dec_nn, b1, b2, Bool.and_self, look_at hx]
  refine eve_if (fun c1 => ?_) (fun c1 => ?_)
  ·rw [put_two hy]
   have hl2 := sl_put hl (run_row pw0 pw1) (m + 1)
   have e : (l.set (m + 1) [.v (.int .i64 nw0), .v (.int .i64 nw1)]).length = l.length := List.length_set
   have k := ih _ hl2 (by rw [e]; exact hlt) (by rw [e]; exact hn)
   simp only [e] at k
   exact k
  ·exact EvtE.ret ⟨_, m + 1, hl, rfl, hm, rfl⟩
theorem tl1_loop {al : Rows} (hal : SL E 42 al) (han : al.length ≤ 120) : ∀ (m i : Nat) (acc : Rows), i + m = al.length → SL E 42 acc → acc.length ≤ i →
  EvtE (fun y => ∃ acc, SL E 42 acc ∧ acc.length ≤ 120 ∧ y = (.exit 2, [.o 2 acc])) (fun d q => l74x1 (TabD (fs SK) d) d q [.o 2 acc, .o 2 al, .v (.int .i64 (i : Int))]) := by
 intro m
 induction m with
 | zero =>
  intro i acc hm ha hn
  refine eve_succ ?_
  simp only [l74x1s]
  simp -implicitDefEqProofs only [rdl, Ex.same, Nat.beq, show decide ((i : Int) < (al.length : Int)) = false from decide_eq_false (by omega)]
  exact EvtE.ret ⟨_, ha, by omega, rfl⟩
 | succ m ih =>
  intro i acc hm ha hn
  have hlt : i < al.length := by omega
  have hx := List.getElem?_eq_getElem hlt
  generalize al[i] = x at hx
  have w := hal.at hx
  obtain ⟨nw0, nw1, rfl, pw0, pw1⟩ := I42 w
  have b1 : decide (i < al.length) = true := decide_eq_true hlt
  have wS := wrap_succ hlt hal.le
  refine eve_succ ?_
  simp only [l74x1s]
  simp -implicitDefEqProofs only [rdl, Ex.same, Nat.beq, decide_eq_true (Int.ofNat_lt.2 hlt), dec_nn, b1, Bool.and_self, look_at hx, wS]
  refine eve_callE (t102 ha _) ?_
  rintro o ⟨t, bb, rfl⟩
  simp -implicitDefEqProofs only [rdl, Ex.same, Nat.beq, wS]
  refine eve_if (fun c1 => ih (i + 1) acc (by omega) ha (by omega)) (fun c1 => ?_)
  try simp -implicitDefEqProofs only [rdl, Ex.same, Nat.beq, dec_nn, b1, Bool.and_self, look_at hx]
  refine eve_tst (decide_eq_true (by simp only [List.length_cons, List.length_nil, maxBytes]; omega)) ?_
  refine eve_aft (tl2_loop (al := al) (p := (i : Int)) pw0 pw1 acc.length _ (sl_snoc ha (run_row pw0 pw1) (by omega)) (by simp) (by simp; omega)) ?_
  rintro y ⟨l', z, q1, q2, q3, rfl⟩
  have hz : z < l'.length := by omega
  have hzx := List.getElem?_eq_getElem hz
  generalize l'[z] = y at hzx
  have w' := q1.at hzx
  obtain ⟨nz0, nz1, rfl, pz0, pz1⟩ := I42 w'
  have b2 : decide (z < l'.length) = true := decide_eq_true hz
  simp -implicitDefEqProofs only [rdl, Ex.same, Nat.beq, dec_nn, b2, Bool.and_self, wS]
  rw [put_two hzx]
  have e2 : (acc ++ ([[.v (.int .i64 nw0), .v (.int .i64 nw1)]] : Rows)).length = acc.length + 1 := by simp
  exact ih (i + 1) _ (by omega) (sl_put q1 (run_row pw0 pw1) z) (by rw [List.length_set, q2, e2]; omega)
theorem t74 {u : ByteArray} {a r : Int} {ws rs : Rows} (h : IB u a r ws rs) (hw : ws.length ≤ 40) (hr : rs.length ≤ 80) : EvE (fs SK) 74 [.g (IR u a r ws rs)] fun o => ∃ l, SL E 42 l ∧ o = ⟨.d (.s 2 l), []⟩ := by
 have hf : flatRows rs = true := List.all_eq_true.2 fun x hx => by
  have w := h.s.1.2.mem x hx
  obtain ⟨nw0, nw1, rfl, pw0, pw1⟩ := I42 w
  rfl
 have hb0 : decide ((([] : Rows).length + rs.length) * 16 ≤ maxBytes) = true := decide_eq_true (by simp only [List.length_nil, maxBytes]; omega)
 refine EvE.of (af := a74) rfl rfl (EvtE.congr (fun d n => a74q ..) ?_)
 refine eve_tst hf (eve_tst hb0 ?_)
 simp -implicitDefEqProofs only [rdl, Ex.same, Nat.beq, List.nil_append]
 refine eve_aft (L := fun d q => l74x0 (TabD (fs SK) d) d q [.b (IF u a r ws rs), .o 2 [], .o 2 rs, .v (.int .i64 0)]) (tl0_loop h.w.1 hw ws.length 0 rs (by omega) h.s.1 (by omega)) ?_
 rintro y ⟨al, q1, q2, rfl⟩
 simp -implicitDefEqProofs only [rdl, Ex.same, Nat.beq]
 refine eve_aft (L := fun d q => l74x1 (TabD (fs SK) d) d q [.o 2 [], .o 2 al, .v (.int .i64 0)]) (tl1_loop q1 q2 al.length 0 [] (by omega) sl_nil (by simp)) ?_
 rintro y ⟨l, q3, q4, rfl⟩
 simp -implicitDefEqProofs only [rdl, Ex.same, Nat.beq]
 exact EvtE.ret ⟨_, q3, rfl⟩
theorem t47 {u : ByteArray} {a r : Int} {ws rs : Rows} (h : IB u a r ws rs) : EvE (fs SK) 47 [.g (IR u a r ws rs)] fun o => ∃ (k : Int) (u : ByteArray) (r : Int) (ws rs : Rows), (Fits k ∧ u.size ≤ 21 ∧ Fits r ∧ SL E 48 ws ∧ SL E 42 rs ∧ ws.length ≤ 6) ∧ o = ⟨.g [.v (.int .i64 k), .v (.string u), .v (.int .i64 r), .s 7 ws, .s 2 rs], []⟩ := by
 have c2 := f73 (SK := SK) h.sh
 have c3 := fun e => isle_few (u := u) (a := a) (r := r) (ws := ws) (rs := rs) e
 generalize isleOk (IR u a r ws rs) = b1 at c2 c3
 refine EvE.of (af := a47) rfl rfl (EvtE.congr (fun d n => a47q ..) ?_)
 refine eve_call c2 ?_
 simp -implicitDefEqProofs only [rdl, Ex.same, Nat.beq]
 cases b1 with
 | false =>
  simp -implicitDefEqProofs only [rdl, Ex.same, Nat.beq, Bool.not_false]
  exact EvtE.ret ⟨_, _, _, _, _, ⟨by decide, by decide, by decide, sl_nil, sl_nil, by decide⟩, rfl⟩
 | true =>
  simp -implicitDefEqProofs only [rdl, Ex.same, Nat.beq, Bool.not_true]
  refine eve_callE (t74 h (c3 rfl).1 (c3 rfl).2) ?_
  rintro o ⟨l, hl, rfl⟩
  simp -implicitDefEqProofs only [rdl, Ex.same, Nat.beq]
  exact EvtE.ret ⟨_, _, _, _, _, ⟨by decide, h.u, h.r, sl_nil, hl, by decide⟩, rfl⟩
theorem id1_loop {a : Option Addr} {n c : Nat} {i h k : Int} : ∀ (m : Nat) (u : ByteArray) (p r : Int) (ws rs : Rows), m ≤ 100 → IB u p r ws rs →
  EvtE (fun y => ∃ (u : ByteArray) (p r : Int) (ws rs : Rows), IB u p r ws rs ∧ y = (.exit 2, [.b (CB a n c i h), .b (IA ByteArray.empty 0 0 [] []), .b (IA u p r ws rs), .v (.int .i64 k)])) (fun d q => l48x1 (TabD (fs SK) d) d q [.b (CB a n c i h), .b (IA ByteArray.empty 0 0 [] []), .b (IA u p r ws rs), .v (.int .i64 k), .v (.int .i64 (m : Int))]) := by
 intro m
 induction m with
 | zero =>
  intro u p r ws rs hm hI
  refine eve_succ ?_
  simp only [l48x1s]
  simp -implicitDefEqProofs only [rdl, Ex.same, Nat.beq, show decide (((0 : Nat) : Int) > 0) = false from rfl]
  exact EvtE.ret ⟨_, _, _, _, _, hI, rfl⟩
 | succ m ih =>
  intro u p r ws rs hm hI
  have hw : IntKind.i64.wrap (((m + 1 : Nat) : Int) - 1) = (m : Int) := by rw [wrap_i64 (by omega) (by omega)]; omega
  refine eve_succ ?_
  simp only [l48x1s]
  simp -implicitDefEqProofs only [rdl, Ex.same, Nat.beq, show decide (((m + 1 : Nat) : Int) > 0) = true from decide_eq_true (by omega), hw]
  refine eve_callE (t77 hI) ?_
  rintro o ⟨u', p', r', ws', rs', k', z', hI', rfl⟩
  simp -implicitDefEqProofs only [rdl, Ex.same, Nat.beq, hw]
  exact ih _ _ _ _ _ (by omega) hI'
theorem id0_loop {a : Option Addr} {n c : Nat} (hK : IsH SK a n) : ∀ (m : Nat) (i h : Int) (u : ByteArray) (p r : Int) (ws rs : Rows), m ≤ 100 → 0 ≤ i → IB u p r ws rs →
  EvtE (fun y => ∃ (i h : Int) (u : ByteArray) (p r : Int) (ws rs : Rows), 0 ≤ i ∧ IB u p r ws rs ∧ y = (.exit 0, [.b (CB a n c i h), .b (IA ByteArray.empty 0 0 [] []), .b (IA u p r ws rs)])) (fun d q => l48x0 (TabD (fs SK) d) d q [.b (CB a n c i h), .b (IA ByteArray.empty 0 0 [] []), .b (IA u p r ws rs), .v (.int .i64 (m : Int))]) := by
 intro m
 induction m with
 | zero =>
  intro i h u p r ws rs hm hi hI
  refine eve_succ ?_
  simp only [l48x0s]
  simp -implicitDefEqProofs only [rdl, Ex.same, Nat.beq, show decide (((0 : Nat) : Int) > 0) = false from rfl]
  exact EvtE.ret ⟨_, _, _, _, _, _, _, hi, hI, rfl⟩
 | succ m ih =>
  intro i h u p r ws rs hm hi hI
  have hw : IntKind.i64.wrap (((m + 1 : Nat) : Int) - 1) = (m : Int) := by rw [wrap_i64 (by omega) (by omega)]; omega
  refine eve_succ ?_
  simp only [l48x0s]
  simp -implicitDefEqProofs only [rdl, Ex.same, Nat.beq, show decide (((m + 1 : Nat) : Int) > 0) = true from decide_eq_true (by omega)]
  refine eve_callE (t44 hK hi 3) ?_
  rintro o ⟨_, i1, h1, ⟨x1, hx0, hx1, _, rfl⟩, hi1, rfl⟩
  simp -implicitDefEqProofs only [rdl, Ex.same, Nat.beq]
  refine eve_callE (t45 hK hi1) ?_
  rintro o ⟨_, i2, h2, ⟨l, hl, rfl⟩, hi2, rfl⟩
  simp -implicitDefEqProofs only [rdl, Ex.same, Nat.beq]
  refine eve_callE (t76 hI (fit_wrap _) hl) ?_
  rintro o ⟨u', p', r', ws', rs', bb, hI', rfl⟩
  simp -implicitDefEqProofs only [rdl, Ex.same, Nat.beq]
  refine eve_callE (t44 hK hi2 9) ?_
  rintro o ⟨_, i3, h3, ⟨x3, hy0, hy1, _, rfl⟩, hi3, rfl⟩
  have hy1 := hy1 (by omega)
  obtain ⟨q, rfl⟩ : ∃ q : Nat, x3 = (q : Int) := ⟨x3.toNat, by omega⟩
  simp -implicitDefEqProofs only [rdl, Ex.same, Nat.beq]
  refine eve_aft (L := fun d z => l48x1 (TabD (fs SK) d) d z [.b (CB a n c i3 h3), .b (IA ByteArray.empty 0 0 [] []), .b (IA u' p' r' ws' rs'), .v (.int .i64 ((m + 1 : Nat) : Int)), .v (.int .i64 (q : Int))]) (id1_loop q _ _ _ _ _ (by omega) hI') ?_
  rintro y ⟨u2, p2, r2, ws2, rs2, hI2, rfl⟩
  simp -implicitDefEqProofs only [rdl, Ex.same, Nat.beq, hw]
  exact ih _ _ _ _ _ _ _ (by omega) hi3 hI2
theorem t48 {a : Option Addr} {n c : Nat} {i h : Int} (hK : IsH SK a n) (hi : 0 ≤ i) : EvE (fs SK) 48 [.p (CR a n c i h)] (CQ a n c fun o => ∃ (u : ByteArray) (p r : Int) (ws rs : Rows), IB u p r ws rs ∧ o = .g (IR u p r ws rs)) := by
 refine EvE.of (af := a48) rfl rfl (EvtE.congr (fun d n => a48q ..) ?_)
 refine eve_callE (t43 hK hi) ?_
 rintro o ⟨_, i1, h1, ⟨s, hs, rfl⟩, hi1, rfl⟩
 simp -implicitDefEqProofs only [rdl, Ex.same, Nat.beq]
 refine eve_callE (t49 hK hi1 rfl rfl) ?_
 rintro o ⟨_, i2, h2, ⟨x, hx, rfl⟩, hi2, rfl⟩
 simp -implicitDefEqProofs only [rdl, Ex.same, Nat.beq]
 refine eve_callE (t75 hs hx) ?_
 rintro o ⟨u, p, r, ws, rs, bb, hI, rfl⟩
 simp -implicitDefEqProofs only [rdl, Ex.same, Nat.beq]
 refine eve_callE (t44 hK hi2 4) ?_
 rintro o ⟨_, i3, h3, ⟨x3, hy0, hy1, _, rfl⟩, hi3, rfl⟩
 have hy1 := hy1 (by omega)
 obtain ⟨q, rfl⟩ : ∃ q : Nat, x3 = (q : Int) := ⟨x3.toNat, by omega⟩
 simp -implicitDefEqProofs only [rdl, Ex.same, Nat.beq]
 refine eve_aft (L := fun d z => l48x0 (TabD (fs SK) d) d z [.b (CB a n c i3 h3), .b (IA ByteArray.empty 0 0 [] []), .b (IA u p r ws rs), .v (.int .i64 (q : Int))]) (id0_loop hK q _ _ _ _ _ _ _ (by omega) hi3 hI) ?_
 rintro y ⟨i4, h4, u2, p2, r2, ws2, rs2, hi4, hI2, rfl⟩
 simp -implicitDefEqProofs only [rdl, Ex.same, Nat.beq]
 exact EvtE.ret ⟨_, _, _, ⟨_, _, _, _, _, hI2, rfl⟩, hi4, rfl⟩
structure MB (k : Int) (u : ByteArray) (r : Int) (ws rs : Rows) : Prop where
 k : Fits k
 u : u.size ≤ 21
 r : Fits r
 w : SL E 48 ws
 s : SL E 42 rs
 few : ws.length ≤ 6
theorem MB.sh {k : Int} {u : ByteArray} {r : Int} {ws rs : Rows} (h : MB k u r ws rs) : ShL E (E 27) [.v (.int .i64 k), .v (.string u), .v (.int .i64 r), .s 7 ws, .s 2 rs] := by
 rw [E27]
 exact mk_i h.k (mk_s (by have := h.u; simp only [maxLen]; omega) (mk_i h.r (mk_sl W48 h.w (mk_sl W42 h.s .nil))))
theorem t17 {a : Option Addr} {n c : Nat} {i h : Int} (hK : IsH SK a n) (hi : 0 ≤ i) : EvE (fs SK) 17 [.p (CR a n c i h)] (CQ a n c fun o => ∃ (k : Int) (u : ByteArray) (r : Int) (ws rs : Rows), MB k u r ws rs ∧ o = .g [.v (.int .i64 k), .v (.string u), .v (.int .i64 r), .s 7 ws, .s 2 rs]) := by
 refine EvE.of (af := a17) rfl rfl (EvtE.congr (fun d n => a17q ..) ?_)
 refine eve_callE (t43 hK hi) ?_
 rintro o ⟨_, i1, h1, ⟨s, hs, rfl⟩, hi1, rfl⟩
 simp -implicitDefEqProofs only [rdl, Ex.same, Nat.beq]
 refine eve_callE (t44 hK hi1 9) ?_
 rintro o ⟨_, i2, h2, ⟨x2, _, _, _, rfl⟩, hi2, rfl⟩
 simp -implicitDefEqProofs only [rdl, Ex.same, Nat.beq]
 refine eve_callE (t45 hK hi2) ?_
 rintro o ⟨_, i3, h3, ⟨l, hl, rfl⟩, hi3, rfl⟩
 simp -implicitDefEqProofs only [rdl, Ex.same, Nat.beq]
 refine eve_callE (t46 hK hi3 2) ?_
 rintro o ⟨_, i4, h4, ⟨x4, rfl⟩, hi4, rfl⟩
 simp -implicitDefEqProofs only [rdl, Ex.same, Nat.beq]
 refine eve_if (fun c1 => ?_) (fun c1 => ?_)
 ·refine eve_callE (t48 hK hi4) ?_
  rintro o ⟨_, i5, h5, ⟨u, p, r, ws, rs, hI, rfl⟩, hi5, rfl⟩
  simp -implicitDefEqProofs only [rdl, Ex.same, Nat.beq]
  refine eve_callE (t47 hI) ?_
  rintro o ⟨k, u', r', ws', rs', ⟨g1, g2, g3, g4, g5, g6⟩, rfl⟩
  simp -implicitDefEqProofs only [rdl, Ex.same, Nat.beq]
  refine eve_callE (t44 hK hi5 16) ?_
  rintro o ⟨_, i6, h6, ⟨x6, _, _, _, rfl⟩, hi6, rfl⟩
  simp -implicitDefEqProofs only [rdl, Ex.same, Nat.beq]
  refine eve_if (fun c2 => ?_) (fun c2 => ?_)
  ·refine eve_callE (t44 hK hi6 4) ?_
   rintro o ⟨_, i7, h7, ⟨x7, y0, y1, _, rfl⟩, hi7, rfl⟩
   have y1 := y1 (by omega)
   simp -implicitDefEqProofs only [rdl, Ex.same, Nat.beq]
   exact EvtE.ret ⟨_, _, _, ⟨_, _, _, _, _, ⟨fit_small (by omega) (by omega), g2, g3, g4, g5, g6⟩, rfl⟩, hi7, rfl⟩
  refine eve_if (fun c3 => ?_) (fun c3 => ?_)
  ·refine eve_callE (t49 hK hi6 rfl rfl) ?_
   rintro o ⟨_, i7, h7, ⟨x7, hx, rfl⟩, hi7, rfl⟩
   simp -implicitDefEqProofs only [rdl, Ex.same, Nat.beq]
   exact EvtE.ret ⟨_, _, _, ⟨_, _, _, _, _, ⟨g1, g2, hx, g4, g5, g6⟩, rfl⟩, hi7, rfl⟩
  refine eve_if (fun c4 => ?_) (fun c4 => ?_)
  ·refine eve_callE (t50 hK hi6) ?_
   rintro o ⟨_, i7, h7, ⟨s7, hs7, rfl⟩, hi7, rfl⟩
   simp -implicitDefEqProofs only [rdl, Ex.same, Nat.beq]
   exact EvtE.ret ⟨_, _, _, ⟨_, _, _, _, _, ⟨g1, hs7, g3, g4, g5, g6⟩, rfl⟩, hi7, rfl⟩
  exact EvtE.ret ⟨_, _, _, ⟨_, _, _, _, _, ⟨g1, g2, g3, g4, g5, g6⟩, rfl⟩, hi6, rfl⟩
 ·skip
  refine eve_callE (t44 hK hi4 16) ?_
  rintro o ⟨_, i6, h6, ⟨x6, _, _, _, rfl⟩, hi6, rfl⟩
  simp -implicitDefEqProofs only [rdl, Ex.same, Nat.beq]
  refine eve_if (fun c2 => ?_) (fun c2 => ?_)
  ·refine eve_callE (t44 hK hi6 4) ?_
   rintro o ⟨_, i7, h7, ⟨x7, y0, y1, _, rfl⟩, hi7, rfl⟩
   have y1 := y1 (by omega)
   simp -implicitDefEqProofs only [rdl, Ex.same, Nat.beq]
   exact EvtE.ret ⟨_, _, _, ⟨_, _, _, _, _, ⟨fit_small (by omega) (by omega), hs, fit_wrap _, hl.1, sl_nil, hl.2.2⟩, rfl⟩, hi7, rfl⟩
  refine eve_if (fun c3 => ?_) (fun c3 => ?_)
  ·refine eve_callE (t49 hK hi6 rfl rfl) ?_
   rintro o ⟨_, i7, h7, ⟨x7, hx, rfl⟩, hi7, rfl⟩
   simp -implicitDefEqProofs only [rdl, Ex.same, Nat.beq]
   exact EvtE.ret ⟨_, _, _, ⟨_, _, _, _, _, ⟨by decide, hs, hx, hl.1, sl_nil, hl.2.2⟩, rfl⟩, hi7, rfl⟩
  refine eve_if (fun c4 => ?_) (fun c4 => ?_)
  ·refine eve_callE (t50 hK hi6) ?_
   rintro o ⟨_, i7, h7, ⟨s7, hs7, rfl⟩, hi7, rfl⟩
   simp -implicitDefEqProofs only [rdl, Ex.same, Nat.beq]
   exact EvtE.ret ⟨_, _, _, ⟨_, _, _, _, _, ⟨by decide, hs7, fit_wrap _, hl.1, sl_nil, hl.2.2⟩, rfl⟩, hi7, rfl⟩
  exact EvtE.ret ⟨_, _, _, ⟨_, _, _, _, _, ⟨by decide, hs, fit_wrap _, hl.1, sl_nil, hl.2.2⟩, rfl⟩, hi6, rfl⟩
theorem t6 {a : Option Addr} {n c : Nat} (hK : IsH SK a n) : EvE (fs SK) 6 [.d (.v (.slice a n c))] fun o => ∃ (k : Int) (u : ByteArray) (r : Int) (ws rs : Rows), MB k u r ws rs ∧ o = ⟨.g [.v (.int .i64 k), .v (.string u), .v (.int .i64 r), .s 7 ws, .s 2 rs], []⟩ := by
 refine EvE.of (af := a6) rfl rfl (EvtE.congr (fun d n => a6q ..) ?_)
 refine eve_callE (t16 hK) ?_
 rintro o ⟨h, rfl⟩
 simp -implicitDefEqProofs only [rdl, Ex.same, Nat.beq]
 refine eve_callE (t17 hK (Int.le_refl _)) ?_
 rintro o ⟨_, i1, h1, ⟨k, u, r, ws, rs, hm, rfl⟩, hi1, rfl⟩
 simp -implicitDefEqProofs only [rdl, Ex.same, Nat.beq]
 exact EvtE.ret ⟨_, _, _, _, _, hm, rfl⟩
end Go.Am.Fm
