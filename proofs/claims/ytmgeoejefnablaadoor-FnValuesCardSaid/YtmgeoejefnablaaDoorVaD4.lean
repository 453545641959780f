/- Values that are bent; whatever value is drawn. Nothing is assumed. -/
import Derived.Test.YtmgeoejefnablaaDoorVaD3
namespace Go.Am.Va
variable {SK : Src}
set_option linter.unusedVariables false
set_option linter.unusedSimpArgs false
set_option maxRecDepth 8000
theorem sl_snoc2 {t : TypeId} {l : Rows} {x : Row} (hl : SL E t l) (hx : ShL E (E t) x) (hn : l.length ≤ 1048576) : SL E t (l ++ [x]) := by
  refine ⟨by simp [maxLen]; omega, ?_⟩
  have key : ∀ {l : Rows}, ShR E (E t) l → ShR E (E t) (l ++ [x]) := by
    intro l
    induction l with
    | nil => intro _; exact .cons hx .nil
    | cons r l ih => intro h; cases h with | cons h h' => exact .cons h (ih h')
  exact key hl.2
theorem sl_set {t : TypeId} {l : Rows} {x : Row} (hl : SL E t l) (hx : ShL E (E t) x) (j : Nat) : SL E t (l.set j x) := by
  refine ⟨by rw [List.length_set]; exact hl.1, ?_⟩
  have key : ∀ {l : Rows} {j : Nat}, ShR E (E t) l → ShR E (E t) (l.set j x) := by
    intro l
    induction l with
    | nil => intro j _; exact .nil
    | cons r l ih =>
      intro j h
      cases h with
      | cons h h' =>
        cases j with
        | zero => exact .cons hx h'
        | succ j => exact .cons h (ih h')
  exact key hl.2
theorem setD_at {l : Rows} {j c : Nat} {r : Row} {d : D} (h : l[j]? = some r) : setD l j c d = l.set j (r.set c d) := by
  apply List.ext_getElem?
  intro i
  unfold setD
  rw [List.getElem?_modify, List.getElem?_set]
  have hlt := (List.getElem?_eq_some_iff.1 h).1
  by_cases hi : j = i
  · subst hi
    simp [h, hlt]
    rw [(List.getElem?_eq_some_iff.1 h).2]
  · simp [hi]
theorem set_at {l : Rows} {j : Nat} {r r' : Row} (h : l[j]? = some r) : (l.set j r')[j]? = some r' := by
  have hlt := (List.getElem?_eq_some_iff.1 h).1
  simp [hlt]
theorem set5 {l : Rows} {j : Nat} {x0 x1 x2 x3 x4 y0 y1 y2 y3 y4 z3 z4 : D} (h : l[j]? = some [x0, x1, x2, x3, x4]) :
    setD (setD (setD (setD (setD (setD (setD l j 0 y0) j 1 y1) j 2 y2) j 3 z3) j 4 z4) j 4 y4) j 3 y3 = l.set j [y0, y1, y2, y3, y4] := by
  rw [setD_at h, setD_at (set_at h), List.set_set, setD_at (set_at h), List.set_set, setD_at (set_at h), List.set_set, setD_at (set_at h), List.set_set, setD_at (set_at h), List.set_set, setD_at (set_at h), List.set_set]
  rfl
theorem wt_set : ∀ {l : Rows} {j : Nat} {r r' : Row}, l[j]? = some r → wtRows (l.set j r') + wtRow r = wtRows l + wtRow r'
  | [], j, r, r', h => by simp at h
  | x :: l, 0, r, r', h => by
    simp only [List.getElem?_cons_zero, Option.some.injEq] at h
    subst h
    simp only [List.set_cons_zero, wtRows]
    omega
  | x :: l, j + 1, r, r', h => by
    have := wt_set (r' := r') (show l[j]? = some r from by simpa using h)
    simp only [List.set_cons_succ, wtRows]
    omega
theorem bw_loop {a : Option Addr} {n c : Nat} {i h : Int} : ∀ (m j : Nat) (k : Int) (s : ByteArray) (q : Int) (ks vs : Rows) (W : Nat), j + m = 6 → VW W [.v (.int .i64 k), .v (.string s), .v (.int .i64 q), .s 1 ks, .s 5 vs] →
    EvtE (fun y => ∃ (k : Int) (s : ByteArray) (q : Int) (ks vs : Rows), VW (W + m) [.v (.int .i64 k), .v (.string s), .v (.int .i64 q), .s 1 ks, .s 5 vs] ∧ y = (.exit 1, [.b (CB a n c i h), .b ZB, .b [.v (.int .i64 k), .v (.string s), .v (.int .i64 q), .o 1 ks, .o 5 vs]]))
      (fun d z => l78x0 (TabD (fs SK) d) d z [.b (CB a n c i h), .b ZB, .b [.v (.int .i64 k), .v (.string s), .v (.int .i64 q), .o 1 ks, .o 5 vs], .v (.int .i64 (j : Int))]) := by
  intro m
  induction m with
  | zero =>
    intro j k s q ks vs W hj hv
    refine eve_succ ?_
    simp only [l78x0s]
    simp -implicitDefEqProofs only [rdl, Ex.same, Nat.beq, show decide ((j : Int) < 6) = false from decide_eq_false (by omega)]
    exact EvtE.ret ⟨_, _, _, _, _, hv, rfl⟩
  | succ m ih =>
    intro j k s q ks vs W hj hv
    have hw : IntKind.i64.wrap ((j : Int) + 1) = ((j + 1 : Nat) : Int) := by rw [wrap_i64 (by omega) (by omega)]; omega
    refine eve_succ ?_
    simp only [l78x0s]
    simp -implicitDefEqProofs only [rdl, Ex.same, Nat.beq, show decide ((j : Int) < 6) = true from decide_eq_true (by omega), hw]
    have e0 : ByteArray.empty.size = 0 := rfl
    have nx := ih (j + 1) 4 ByteArray.empty 0 [] [[.v (.int .i64 k), .v (.string s), .v (.int .i64 q), .s 1 ks, .s 5 vs]] (W + 1) (by omega) (vw_mk (by decide) (by decide) (by decide) sl_nil (sl_snoc sl_nil hv.1 (by simp)) (by have := hv.2; simp only [List.length_nil, List.length_cons, wtRows]; omega))
    rw [show W + 1 + m = W + (m + 1) from by omega] at nx
    exact nx
theorem t78 {a : Option Addr} {n c : Nat} (hK : IsH SK a n) : ∀ (N : Nat), N ≤ 400000 → ∀ (v : Row), ShL E (E 38) v → wtRow v ≤ N → ∀ i h, 0 ≤ i → EvE (fs SK) 78 [.p (CR a n c i h), .g v] (CQ a n c fun r => ∃ v', VW (wtRow v + 200) v' ∧ r = .g v') := by
  intro N
  induction N using Nat.strongRecOn with
  | ind N ih =>
    intro hN v hv hw i h hi
    have hcp := f99 (SK := SK) hv (by omega)
    have hv9 := hv
    obtain ⟨na0, sa1, na2, la3, la4, rfl, pa0, pa1, pa2, pa3, pa4⟩ := I38 hv
    have hw5 := hw
    rw [wt5] at hw5
    refine EvE.of (af := a78) rfl rfl (EvtE.congr (fun d n => a78q ..) ?_)
    refine eve_call hcp ?_
    simp -implicitDefEqProofs only [rdl, Ex.same, Nat.beq]
    refine eve_if (fun d1 => ?_) (fun d1 => ?_)
    · have d1 : 0 < la4.length := by simp at d1; omega
      refine eve_callE (t77 hK hi 2) ?_
      rintro o ⟨_, i1, h1, ⟨x1, rfl⟩, hi1, rfl⟩
      simp -implicitDefEqProofs only [rdl, Ex.same, Nat.beq]
      refine eve_if (fun d2 => ?_) (fun d2 => ?_)
      · refine eve_callE (t79 hK hi1 _) ?_
        rintro o ⟨_, i2, h2, ⟨x, hx0, hx1, _, rfl⟩, hi2, rfl⟩
        have hx1 := hx1 (by omega)
        obtain ⟨j, rfl⟩ : ∃ j : Nat, x = (j : Int) := ⟨x.toNat, by omega⟩
        have hlt : j < la4.length := by omega
        have hx := List.getElem?_eq_getElem hlt
        generalize la4[j] = row at hx
        have hs := pa4.at hx
        have hs9 := hs
        have hwx := wt_at hx
        obtain ⟨nb0, sb1, nb2, lb3, lb4, rfl, pb0, pb1, pb2, pb3, pb4⟩ := I38 hs
        have hb : (decide ((0 : Int) ≤ (j : Int)) && decide (Int.toNat (j : Int) < la4.length)) = true := by simp [hlt]
        simp -implicitDefEqProofs only [rdl, Ex.same, Nat.beq]
        refine eve_tst (by simp [hlt]) ?_
        simp -implicitDefEqProofs only [rdl, Ex.same, Nat.beq, dec_nn, look_at hx]
        refine eve_callE (ih (wtRow [.v (.int .i64 nb0), .v (.string sb1), .v (.int .i64 nb2), .s 1 lb3, .s 5 lb4]) (by omega) (by omega) _ hs9 (Nat.le_refl _) i2 h2 hi2) ?_
        rintro o ⟨_, i3, h3, ⟨v', ⟨hv1, hv2⟩, rfl⟩, hi3, rfl⟩
        have hv8 := hv1
        obtain ⟨nc0, sc1, nc2, lc3, lc4, rfl, pc0, pc1, pc2, pc3, pc4⟩ := I38 hv1
        simp -implicitDefEqProofs only [rdl, Ex.same, Nat.beq]
        refine eve_tst (by simp [hlt]) ?_
        try simp -implicitDefEqProofs only [rdl, Ex.same, Nat.beq]
        have hjj : Nat.beq (Int.toNat (j : Int)) (Int.toNat (j : Int)) = true := Nat.beq_refl _
        try refine eve_tst hjj ?_
        try refine eve_tst hjj ?_
        try simp -implicitDefEqProofs only [rdl, Ex.same, Nat.beq, hjj]
        rw [set5 hx]
        have hws := wt_set (r' := [.v (.int .i64 nc0), .v (.string sc1), .v (.int .i64 nc2), .s 1 lc3, .s 5 lc4]) hx
        exact EvtE.ret ⟨_, _, _, ⟨_, vw_mk pa0 pa2 pa1 pa3 (sl_set pa4 hv8 j) (by rw [wt5 (ks := la3) (vs := la4), List.length_set]; omega), rfl⟩, hi3, rfl⟩
      · skip
        refine eve_callE (t79 hK hi1 6) ?_
        rintro o ⟨_, j1, g1, ⟨y, hy0, hy1, _, rfl⟩, hj1, rfl⟩
        simp -implicitDefEqProofs only [rdl, Ex.same, Nat.beq]
        refine eve_if (fun c0 => ?_) (fun c0 => ?_)
        · skip
          refine eve_callE (t79 hK hj1 7) ?_
          rintro o ⟨_, j2, g2, ⟨z, hz0, hz1, _, rfl⟩, hj2, rfl⟩
          have hz1 := hz1 (by omega)
          simp -implicitDefEqProofs only [rdl, Ex.same, Nat.beq]
          exact EvtE.ret ⟨_, _, _, ⟨_, vw_mk (fit_small (by omega) (by omega)) pa2 pa1 pa3 pa4 (by rw [wt5]; omega), rfl⟩, hj2, rfl⟩
        · skip
          refine eve_if (fun c1 => ?_) (fun c1 => ?_)
          · skip
            refine eve_callE (t96 (m := 100) hK hj1 rfl rfl) ?_
            rintro o ⟨_, j2, g2, ⟨s, hs, rfl⟩, hj2, rfl⟩
            simp -implicitDefEqProofs only [rdl, Ex.same, Nat.beq]
            exact EvtE.ret ⟨_, _, _, ⟨_, vw_mk pa0 pa2 (by simp only [maxLen]; omega) pa3 pa4 (by rw [wt5]; omega), rfl⟩, hj2, rfl⟩
          · skip
            refine eve_if (fun c2 => ?_) (fun c2 => ?_)
            · skip
              exact EvtE.ret ⟨_, _, _, ⟨_, vw_mk pa0 (fit_wrap _) pa1 pa3 pa4 (by rw [wt5]; omega), rfl⟩, hj1, rfl⟩
            · skip
              refine eve_if (fun c3 => ?_) (fun c3 => ?_)
              · skip
                refine eve_callE (t100 hK hj1) ?_
                rintro o ⟨_, j2, g2, ⟨s, hs, rfl⟩, hj2, rfl⟩
                simp -implicitDefEqProofs only [rdl, Ex.same, Nat.beq]
                refine eve_tst (decide_eq_true (by simp only [List.length_cons, List.length_nil, maxBytes]; omega)) ?_
                exact EvtE.ret ⟨_, _, _, ⟨_, vw_mk pa0 pa2 pa1 (sl_snoc2 pa3 (by rw [E9]; exact mk_s (by simp only [maxLen]; omega) .nil) (by omega)) pa4 (by rw [wt5]; rw [wtRows_app, List.length_append]; simp only [List.length_cons, List.length_nil, wtRows, wtRow, wtD]; omega), rfl⟩, hj2, rfl⟩
              · skip
                refine eve_if (fun c4 => ?_) (fun c4 => ?_)
                · skip
                  have e0 : ByteArray.empty.size = 0 := rfl
                  refine eve_tst (decide_eq_true (by simp only [List.length_cons, List.length_nil, maxBytes]; omega)) ?_
                  exact EvtE.ret ⟨_, _, _, ⟨_, vw_mk pa0 pa2 pa1 pa3 (sl_snoc2 pa4 (val_row (by decide) (by decide) (by decide) sl_nil sl_nil) (by omega)) (by rw [wt5]; rw [wtRows_app, List.length_append]; simp only [List.length_cons, List.length_nil, wtRows, wt5]; omega), rfl⟩, hj1, rfl⟩
                · skip
                  refine eve_if (fun c5 => ?_) (fun c5 => ?_)
                  · skip
                    refine eve_aft (L := fun d z => l78x0 (TabD (fs SK) d) d z [.b (CB a n c j1 g1), .b ZB, .b [.v (.int .i64 na0), .v (.string sa1), .v (.int .i64 na2), .o 1 la3, .o 5 la4], .v (.int .i64 0)]) (bw_loop 6 0 _ _ _ _ _ (wtRow [.v (.int .i64 na0), .v (.string sa1), .v (.int .i64 na2), .s 1 la3, .s 5 la4]) (by omega) ⟨hv9, Nat.le_refl _⟩) ?_
                    rintro y ⟨k, s, q, ks, vs, hq, rfl⟩
                    simp -implicitDefEqProofs only [rdl, Ex.same, Nat.beq]
                    exact EvtE.ret ⟨_, _, _, ⟨_, hq.mono (by omega), rfl⟩, hj1, rfl⟩
                  · skip
                    exact EvtE.ret ⟨_, _, _, ⟨_, (show VW _ _ from ⟨hv9, by omega⟩), rfl⟩, hj1, rfl⟩
    · skip
      refine eve_callE (t79 hK hi 6) ?_
      rintro o ⟨_, j1, g1, ⟨y, hy0, hy1, _, rfl⟩, hj1, rfl⟩
      simp -implicitDefEqProofs only [rdl, Ex.same, Nat.beq]
      refine eve_if (fun c0 => ?_) (fun c0 => ?_)
      · skip
        refine eve_callE (t79 hK hj1 7) ?_
        rintro o ⟨_, j2, g2, ⟨z, hz0, hz1, _, rfl⟩, hj2, rfl⟩
        have hz1 := hz1 (by omega)
        simp -implicitDefEqProofs only [rdl, Ex.same, Nat.beq]
        exact EvtE.ret ⟨_, _, _, ⟨_, vw_mk (fit_small (by omega) (by omega)) pa2 pa1 pa3 pa4 (by rw [wt5]; omega), rfl⟩, hj2, rfl⟩
      · skip
        refine eve_if (fun c1 => ?_) (fun c1 => ?_)
        · skip
          refine eve_callE (t96 (m := 100) hK hj1 rfl rfl) ?_
          rintro o ⟨_, j2, g2, ⟨s, hs, rfl⟩, hj2, rfl⟩
          simp -implicitDefEqProofs only [rdl, Ex.same, Nat.beq]
          exact EvtE.ret ⟨_, _, _, ⟨_, vw_mk pa0 pa2 (by simp only [maxLen]; omega) pa3 pa4 (by rw [wt5]; omega), rfl⟩, hj2, rfl⟩
        · skip
          refine eve_if (fun c2 => ?_) (fun c2 => ?_)
          · skip
            exact EvtE.ret ⟨_, _, _, ⟨_, vw_mk pa0 (fit_wrap _) pa1 pa3 pa4 (by rw [wt5]; omega), rfl⟩, hj1, rfl⟩
          · skip
            refine eve_if (fun c3 => ?_) (fun c3 => ?_)
            · skip
              refine eve_callE (t100 hK hj1) ?_
              rintro o ⟨_, j2, g2, ⟨s, hs, rfl⟩, hj2, rfl⟩
              simp -implicitDefEqProofs only [rdl, Ex.same, Nat.beq]
              refine eve_tst (decide_eq_true (by simp only [List.length_cons, List.length_nil, maxBytes]; omega)) ?_
              exact EvtE.ret ⟨_, _, _, ⟨_, vw_mk pa0 pa2 pa1 (sl_snoc2 pa3 (by rw [E9]; exact mk_s (by simp only [maxLen]; omega) .nil) (by omega)) pa4 (by rw [wt5]; rw [wtRows_app, List.length_append]; simp only [List.length_cons, List.length_nil, wtRows, wtRow, wtD]; omega), rfl⟩, hj2, rfl⟩
            · skip
              refine eve_if (fun c4 => ?_) (fun c4 => ?_)
              · skip
                have e0 : ByteArray.empty.size = 0 := rfl
                refine eve_tst (decide_eq_true (by simp only [List.length_cons, List.length_nil, maxBytes]; omega)) ?_
                exact EvtE.ret ⟨_, _, _, ⟨_, vw_mk pa0 pa2 pa1 pa3 (sl_snoc2 pa4 (val_row (by decide) (by decide) (by decide) sl_nil sl_nil) (by omega)) (by rw [wt5]; rw [wtRows_app, List.length_append]; simp only [List.length_cons, List.length_nil, wtRows, wt5]; omega), rfl⟩, hj1, rfl⟩
              · skip
                refine eve_if (fun c5 => ?_) (fun c5 => ?_)
                · skip
                  refine eve_aft (L := fun d z => l78x0 (TabD (fs SK) d) d z [.b (CB a n c j1 g1), .b ZB, .b [.v (.int .i64 na0), .v (.string sa1), .v (.int .i64 na2), .o 1 la3, .o 5 la4], .v (.int .i64 0)]) (bw_loop 6 0 _ _ _ _ _ (wtRow [.v (.int .i64 na0), .v (.string sa1), .v (.int .i64 na2), .s 1 la3, .s 5 la4]) (by omega) ⟨hv9, Nat.le_refl _⟩) ?_
                  rintro y ⟨k, s, q, ks, vs, hq, rfl⟩
                  simp -implicitDefEqProofs only [rdl, Ex.same, Nat.beq]
                  exact EvtE.ret ⟨_, _, _, ⟨_, hq.mono (by omega), rfl⟩, hj1, rfl⟩
                · skip
                  exact EvtE.ret ⟨_, _, _, ⟨_, (show VW _ _ from ⟨hv9, by omega⟩), rfl⟩, hj1, rfl⟩
theorem da_loop {a : Option Addr} {n c : Nat} (hK : IsH SK a n) : ∀ (m j : Nat) (i h : Int) (vs : Rows), 301 - j ≤ m → j ≤ 300 → 0 ≤ i → SL E 38 vs → vs.length = j → wtRows vs = 0 →
    EvtE (fun y => ∃ i h vs, 0 ≤ i ∧ SL E 38 vs ∧ vs.length ≤ 300 ∧ wtRows vs = 0 ∧ y = (.exit 0, [.b (CB a n c i h), .b ZB, .b (KB 4 [] vs)])) (fun d q => l44x0 (TabD (fs SK) d) d q [.b (CB a n c i h), .b ZB, .b (KB 4 [] vs), .v (.int .i64 (j : Int))]) := by
  intro m
  induction m with
  | zero => intro j i h vs hm hj; omega
  | succ m ih =>
    intro j i h vs hm hj hi hv hl hw
    have hwj : IntKind.i64.wrap ((j : Int) + 1) = ((j + 1 : Nat) : Int) := by rw [wrap_i64 (by omega) (by omega)]; omega
    refine eve_succ ?_
    simp only [l44x0s]
    refine eve_callE (t79 hK hi 2) ?_
    rintro o ⟨_, i1, h1, ⟨x, hx0, hx1, _, rfl⟩, hi1, rfl⟩
    have hx1 := hx1 (by omega)
    have hwx : IntKind.i64.wrap (299 + x) = 299 + x := wrap_i64 (by omega) (by omega)
    simp -implicitDefEqProofs only [rdl, Ex.same, Nat.beq, hwx, hwj]
    refine eve_if (fun c1 => ?_) (fun c1 => ?_)
    · have c1 := of_decide_eq_true c1
      refine eve_tst (decide_eq_true (by simp only [List.length_cons, List.length_nil, maxBytes]; omega)) ?_
      have e0 : ByteArray.empty.size = 0 := rfl
      exact ih (j + 1) _ _ _ (by omega) (by omega) hi1 (sl_snoc2 hv (val_row (by decide) (by decide) (by decide) sl_nil sl_nil) (by omega)) (by simp; omega) (by rw [wtRows_app, hw]; simp only [wtRows, wt5, List.length_nil]; omega)
    · exact EvtE.ret ⟨_, _, _, hi1, hv, by omega, hw, rfl⟩
theorem t44 {a : Option Addr} {n c : Nat} {i h : Int} (hK : IsH SK a n) (hi : 0 ≤ i) : EvE (fs SK) 44 [.p (CR a n c i h)] (CQ a n c fun r => ∃ v, VW 200000 v ∧ r = .g v) := by
  refine EvE.of (af := a44) rfl rfl (EvtE.congr (fun d n => a44q ..) ?_)
  have hB : wB 4 = 125000 := rfl
  have e0 : ByteArray.empty.size = 0 := rfl
  refine eve_callE (t76 hK 4 (by omega) (by omega) i h hi) ?_
  rintro o ⟨_, i1, h1, ⟨v, ⟨hv, hw⟩, rfl⟩, hi1, rfl⟩
  have hv9 := hv
  obtain ⟨na0, sa1, na2, la3, la4, rfl, pa0, pa1, pa2, pa3, pa4⟩ := I38 hv
  simp -implicitDefEqProofs only [rdl, Ex.same, Nat.beq]
  refine eve_callE (t77 hK hi1 5) ?_
  rintro o ⟨_, i2, h2, ⟨x2, rfl⟩, hi2, rfl⟩
  simp -implicitDefEqProofs only [rdl, Ex.same, Nat.beq]
  refine eve_if (fun d1 => ?_) (fun d1 => ?_)
  · refine eve_callE (t78 hK 400000 (Nat.le_refl _) _ hv9 (by omega) i2 h2 hi2) ?_
    rintro o ⟨_, i3, h3, ⟨v', ⟨hv1, hv2⟩, rfl⟩, hi3, rfl⟩
    have hv8 := hv1
    obtain ⟨nc0, sc1, nc2, lc3, lc4, rfl, pc0, pc1, pc2, pc3, pc4⟩ := I38 hv1
    simp -implicitDefEqProofs only [rdl, Ex.same, Nat.beq]
    refine eve_callE (t77 hK hi3 40) ?_
    rintro o ⟨_, i4, h4, ⟨x4, rfl⟩, hi4, rfl⟩
    simp -implicitDefEqProofs only [rdl, Ex.same, Nat.beq]
    refine eve_if (fun d2 => ?_) (fun d2 => ?_)
    · refine eve_aft (L := fun d q => l44x0 (TabD (fs SK) d) d q [.b (CB a n c i4 h4), .b ZB, .b (KB 4 [] []), .v (.int .i64 0)]) (da_loop hK 301 0 i4 h4 [] (by omega) (by omega) hi4 sl_nil rfl (by simp [wtRows])) ?_
      rintro y ⟨i5, h5, vs, hi5, g1, g2, g3, rfl⟩
      simp -implicitDefEqProofs only [rdl, Ex.same, Nat.beq]
      exact EvtE.ret ⟨_, _, _, ⟨_, vw_mk (by decide) (by decide) (by decide) sl_nil g1 (by simp only [List.length_nil, wtRows]; omega), rfl⟩, hi5, rfl⟩
    · exact EvtE.ret ⟨_, _, _, ⟨_, ⟨hv8, by omega⟩, rfl⟩, hi4, rfl⟩
  · refine eve_callE (t77 hK hi2 40) ?_
    rintro o ⟨_, i4, h4, ⟨x4, rfl⟩, hi4, rfl⟩
    simp -implicitDefEqProofs only [rdl, Ex.same, Nat.beq]
    refine eve_if (fun d2 => ?_) (fun d2 => ?_)
    · refine eve_aft (L := fun d q => l44x0 (TabD (fs SK) d) d q [.b (CB a n c i4 h4), .b ZB, .b (KB 4 [] []), .v (.int .i64 0)]) (da_loop hK 301 0 i4 h4 [] (by omega) (by omega) hi4 sl_nil rfl (by simp [wtRows])) ?_
      rintro y ⟨i5, h5, vs, hi5, g1, g2, g3, rfl⟩
      simp -implicitDefEqProofs only [rdl, Ex.same, Nat.beq]
      exact EvtE.ret ⟨_, _, _, ⟨_, vw_mk (by decide) (by decide) (by decide) sl_nil g1 (by simp only [List.length_nil, wtRows]; omega), rfl⟩, hi5, rfl⟩
    · exact EvtE.ret ⟨_, _, _, ⟨_, ⟨hv9, by omega⟩, rfl⟩, hi4, rfl⟩
theorem t17 {a : Option Addr} {n c : Nat} (hK : IsH SK a n) : EvE (fs SK) 17 [.d (.v (.slice a n c))] fun o => ∃ v, VW 200000 v ∧ o = ⟨.g v, []⟩ := by
  refine EvE.of (af := a17) rfl rfl (EvtE.congr (fun d n => a17q ..) ?_)
  refine eve_callE (t43 hK) ?_
  rintro o ⟨h, rfl⟩
  simp -implicitDefEqProofs only [rdl, Ex.same, Nat.beq]
  refine eve_callE (t44 hK (Int.le_refl _)) ?_
  rintro o ⟨_, i1, h1, ⟨v, hv, rfl⟩, hi1, rfl⟩
  have hv9 := hv
  obtain ⟨na0, sa1, na2, la3, la4, rfl, pa0, pa1, pa2, pa3, pa4⟩ := I38 hv.1
  simp -implicitDefEqProofs only [rdl, Ex.same, Nat.beq]
  exact EvtE.ret ⟨_, hv9, rfl⟩
end Go.Am.Va
