/- The library's unstable sort at ints: what its functions come to. Nothing is assumed. -/
import Derived.Test.YtmgeoejefnablaaGreatLkH
import Derived.Test.YtmgeoejefnablaaGreatAmF
namespace Go.Am.Lk
set_option linter.unusedVariables false
set_option linter.unusedSimpArgs false
set_option maxRecDepth 8000
theorem swoI : Sort.SWO (upI 0) := ⟨fun x => by simp [upI], fun x y z h1 h2 => by simp [upI] at *; omega, fun x y z h1 h2 => by simp [upI] at *; omega⟩
theorem row_at {d : Array Row} (hs : SL E 3 d.toList) {i : Nat} (h : i < d.size) : ∃ n, d[i]! = [.v (.int .i64 n)] := by
  obtain ⟨n0, e0, _⟩ := I3 (hs.at (arr_at h))
  exact ⟨n0, e0⟩
theorem up_row {x y : Row} {a b : Int} (hx : x = [.v (.int .i64 a)]) (hy : y = [.v (.int .i64 b)]) : upI 0 x y = decide (a < b) := by
  subst hx hy
  rfl
theorem f233 (a : Int) : Ev fs 233 [.d (.v (.int .i64 a))] (bo false) := by
  refine Ev.of (af := a233) rfl rfl (Evt.congr (fun d n => a233q ..) ?_)
  exact Evt.ret' (by simp)
theorem f187 (a b : Int) : Ev fs 187 [.d (.v (.int .i64 a)), .d (.v (.int .i64 b))] (bo (decide (a < b))) := by
  refine Ev.of (af := a187) rfl rfl (Evt.congr (fun d n => a187q ..) ?_)
  refine ev_call (f233 a) ?_
  simp -implicitDefEqProofs only [rdl, Ex.same, Nat.beq]
  exact Evt.ret
theorem insIn {a : Nat} {b i : Int} : ∀ (j : Nat) (d : Array Row), SL E 3 d.toList → j < d.size → d.size ≤ 1073741824 →
    Evt (fun dd n => l181x1 (TabD fs dd) dd n [.o 1 d.toList, vi (a : Nat), vi b, vi i, vi (j : Nat)]) (.exit 2, [.o 1 (Sort.insInner (upI 0) a j d).toList, vi (a : Nat), vi b, vi i]) := by
  intro j
  induction j with
  | zero =>
    intro d hs hj hd
    refine ev_succ ⟨0, fun dd n _ _ => ?_⟩
    have h0 : decide (((0 : Nat) : Int) > (a : Int)) = false := decide_eq_false (by omega)
    simp only [l181x1s]
    simp -implicitDefEqProofs only [rdl, Ex.same, Nat.beq, h0]
    rfl
  | succ j ih =>
    intro d hs hj hd
    obtain ⟨x, hx⟩ := row_at hs (i := j + 1) (by omega)
    have hx0 := arr_at (d := d) (i := j + 1) (by omega)
    rw [hx] at hx0
    obtain ⟨y, hy⟩ := row_at hs (i := j) (by omega)
    have hy0 := arr_at (d := d) (i := j) (by omega)
    rw [hy] at hy0
    have e1 := setD_one (l := d.toList) (q := j + 1) (c := .v (.int .i64 y)) ⟨_, hx0, rfl⟩
    have e2 := setD_one (l := d.toList.set (j + 1) [.v (.int .i64 y)]) (q := j) (c := .v (.int .i64 x)) (set_has hy0 rfl)
    have e3 : (d.toList.set (j + 1) [.v (.int .i64 y)]).set (j) [.v (.int .i64 x)] = (Sort.swp d (j + 1) (j)).toList := by rw [swp_list, hx, hy]
    have hsw := Like.swp (d := d) (i := j + 1) (j := j) (by omega) (by omega)
    have w1 : IntKind.wrap .i64 (((j + 1 : Nat) : Int) - 1) = ((j : Nat) : Int) := wN (by omega) (by omega)
    have hl := up_row hx hy
    unfold Sort.insInner
    refine ev_succ ?_
    simp only [l181x1s]
    by_cases hja : j + 1 > a
    · have h0 : decide (((j + 1 : Nat) : Int) > (a : Int)) = true := decide_eq_true (by omega)
      simp -implicitDefEqProofs only [rdl, Ex.same, Nat.beq, h0, w1, lt_of_at hx0, look_at hx0, lt_of_at hy0, look_at hy0, dec_nn, Bool.and_self, List.length_set, e1, e2, e3]
      refine ev_call (f187 x y) ?_
      simp -implicitDefEqProofs only [rdl, Ex.same, Nat.beq]
      refine ev_if (fun hc => ?_) (fun hc => ?_)
      · rw [if_pos (by rw [hl, hc]; simp [hja])]
        exact ih _ (hsw.sl hs) (by rw [hsw.1]; omega) (by rw [hsw.1]; omega)
      · rw [if_neg (by rw [hl, hc]; simp)]
        exact Evt.ret
    · have h0 : decide (((j + 1 : Nat) : Int) > (a : Int)) = false := decide_eq_false (by omega)
      simp -implicitDefEqProofs only [rdl, Ex.same, Nat.beq, h0]
      rw [if_neg (by simp [hja])]
      exact Evt.ret
theorem insOut {a b : Nat} : ∀ (n i : Nat) (d : Array Row), b - i < n → SL E 3 d.toList → b ≤ d.size → d.size ≤ 1073741824 →
    Evt (fun dd m => l181x0 (TabD fs dd) dd m [.o 1 d.toList, vi (a : Nat), vi (b : Nat), vi (i : Nat)]) (.exit 0, [.o 1 (Sort.insOuter (upI 0) a b i d).toList]) := by
  intro n
  induction n with
  | zero => intro i d h; omega
  | succ n ih =>
    intro i d hn hs hb hd
    rw [Sort.insOuter]
    refine ev_succ ?_
    simp only [l181x0s]
    by_cases hi : i < b
    · rw [if_pos hi]
      have w1 : IntKind.wrap .i64 ((i : Int) + 1) = ((i + 1 : Nat) : Int) := wN (by omega) (by omega)
      simp -implicitDefEqProofs only [rdl, Ex.same, Nat.beq, show decide ((i : Int) < (b : Int)) = true from decide_eq_true (by omega)]
      refine ev_aft (insIn (a := a) (b := b) (i := i) i d hs (by omega) hd) ?_
      simp -implicitDefEqProofs only [rdl, Ex.same, Nat.beq, w1]
      have hk := insInner_like (lt := upI 0) a i d (by omega)
      exact ih (i + 1) _ (by omega) (hk.sl hs) (by rw [hk.1]; exact hb) (by rw [hk.1]; exact hd)
    · rw [if_neg hi]
      simp -implicitDefEqProofs only [rdl, Ex.same, Nat.beq, show decide ((i : Int) < (b : Int)) = false from decide_eq_false (by omega)]
      exact Evt.ret
theorem f181 {d : Array Row} {a b : Nat} (hs : SL E 3 d.toList) (ha : a ≤ b) (hb : b ≤ d.size) (hd : d.size ≤ 1073741824) :
    Ev fs 181 [.d (.s 1 d.toList), di (a : Nat), di (b : Nat)] (lentO 1 (Sort.insertionSort (upI 0) d a b).toList) := by
  refine Ev.of (af := a181) rfl rfl (Evt.congr (fun d n => a181q ..) ?_)
  have w1 : IntKind.wrap .i64 ((a : Int) + 1) = ((a + 1 : Nat) : Int) := wN (by omega) (by omega)
  simp -implicitDefEqProofs only [rdl, Ex.same, Nat.beq, w1]
  refine ev_aft (insOut _ (a + 1) d (Nat.lt_succ_self _) hs hb hd) ?_
  simp -implicitDefEqProofs only [rdl, Ex.same, Nat.beq]
  exact Evt.ret
theorem siftL {hi first : Nat} : ∀ (n root : Nat) (d : Array Row), hi - root < n → SL E 3 d.toList → first + hi ≤ d.size → d.size ≤ 1073741824 → root ≤ 1073741824 →
    ∃ ex, (ex = .ret ∨ ex = .exit 0) ∧ Evt (fun dd m => l228x0 (TabD fs dd) dd m [.o 1 d.toList, vi (hi : Nat), vi (first : Nat), vi (root : Nat)]) (ex, [.o 1 (Sort.siftDown (upI 0) hi first root d).toList]) := by
  intro n
  induction n with
  | zero => intro root d h; omega
  | succ n ih =>
    intro root d hn hs hf hd hro
    have w2 : IntKind.wrap .i64 (2 * (root : Int)) = ((2 * root : Nat) : Int) := wN (by omega) (by omega)
    have w3 : IntKind.wrap .i64 (((2 * root : Nat) : Int) + 1) = ((2 * root + 1 : Nat) : Int) := wN (by omega) (by omega)
    have w4 : IntKind.wrap .i64 (((2 * root + 1 : Nat) : Int) + 1) = ((2 * root + 2 : Nat) : Int) := wN (by omega) (by omega)
    rw [Sort.siftDown]
    by_cases hge : 2 * root + 1 ≥ hi
    · rw [dif_pos hge]
      refine ⟨.exit 0, .inr rfl, ev_succ ?_⟩
      simp only [l228x0s]
      simp -implicitDefEqProofs only [rdl, Ex.same, Nat.beq, w2, w3, show decide (((2 * root + 1 : Nat) : Int) ≥ (hi : Int)) = true from decide_eq_true (by omega)]
      exact Evt.ret
    · rw [dif_neg hge]
      have hge' : decide (((2 * root + 1 : Nat) : Int) ≥ (hi : Int)) = false := decide_eq_false (by omega)
      have w5 : IntKind.wrap .i64 ((first : Int) + ((2 * root + 1 : Nat) : Int)) = ((first + (2 * root + 1) : Nat) : Int) := wN (by omega) (by omega)
      have w6 : IntKind.wrap .i64 (((first + (2 * root + 1) : Nat) : Int) + 1) = ((first + (2 * root + 1) + 1 : Nat) : Int) := wN (by omega) (by omega)
      have w7 : IntKind.wrap .i64 ((first : Int) + (root : Int)) = ((first + root : Nat) : Int) := wN (by omega) (by omega)
      have w8 : IntKind.wrap .i64 ((first : Int) + ((2 * root + 2 : Nat) : Int)) = ((first + (2 * root + 2) : Nat) : Int) := wN (by omega) (by omega)
      obtain ⟨x, hx⟩ := row_at hs (i := first + (2 * root + 1)) (by omega)
      have hx0 := arr_at (d := d) (i := first + (2 * root + 1)) (by omega)
      rw [hx] at hx0
      obtain ⟨r, hr⟩ := row_at hs (i := first + root) (by omega)
      have hr0 := arr_at (d := d) (i := first + root) (by omega)
      rw [hr] at hr0
      by_cases h2 : 2 * root + 2 < hi
      · have h2' : decide (((2 * root + 2 : Nat) : Int) < (hi : Int)) = true := decide_eq_true (by omega)
        obtain ⟨z, hz⟩ := row_at hs (i := first + (2 * root + 1) + 1) (by omega)
        have hz0 := arr_at (d := d) (i := first + (2 * root + 1) + 1) (by omega)
        rw [hz] at hz0
        have hz2 : d[first + (2 * root + 2)]! = [.v (.int .i64 z)] := hz
        have hz20 : d.toList[first + (2 * root + 2)]? = some [.v (.int .i64 z)] := hz0
        cases q1 : decide (x < z) with
        | true =>
          rw [if_pos (by rw [up_row hx hz, q1]; simp; omega)]
          cases q2 : decide (r < z) with
          | false =>
            rw [if_pos (by rw [up_row hr hz2, q2]; rfl)]
            refine ⟨.ret, .inl rfl, ev_succ ?_⟩
            simp only [l228x0s]
            simp -implicitDefEqProofs only [rdl, Ex.same, Nat.beq, hge', w2, w3, w4, w5, w6, w7, w8, dec_nn, Bool.and_self, List.length_set, h2', lt_of_at hx0, look_at hx0, lt_of_at hz0, look_at hz0, lt_of_at hz20, look_at hz20, lt_of_at hr0, look_at hr0]
            refine ev_call (f187 x z) ?_
            simp -implicitDefEqProofs only [rdl, Ex.same, Nat.beq, q1]
            refine ev_call (f187 r z) ?_
            simp -implicitDefEqProofs only [rdl, Ex.same, Nat.beq, q2, Bool.not_false]
            exact Evt.ret
          | true =>
            rw [if_neg (by rw [up_row hr hz2, q2]; simp)]
            rw [dif_pos h2]
            have e1 := setD_one (l := d.toList) (q := first + root) (c := .v (.int .i64 z)) ⟨_, hr0, rfl⟩
            have e2 := setD_one (l := d.toList.set (first + root) [.v (.int .i64 z)]) (q := first + (2 * root + 2)) (c := .v (.int .i64 r)) (set_has hz20 rfl)
            have e3 : (d.toList.set (first + root) [.v (.int .i64 z)]).set (first + (2 * root + 2)) [.v (.int .i64 r)] = (Sort.swp d (first + root) (first + (2 * root + 2))).toList := by rw [swp_list, hr, hz2]
            have hsw := Like.swp (d := d) (i := first + root) (j := first + (2 * root + 2)) (by omega) (by omega)
            obtain ⟨ex, k1, k2⟩ := ih (2 * root + 2) _ (by omega) (hsw.sl hs) (by rw [hsw.1]; omega) (by rw [hsw.1]; omega) (by omega)
            refine ⟨ex, k1, ev_succ ?_⟩
            simp only [l228x0s]
            simp -implicitDefEqProofs only [rdl, Ex.same, Nat.beq, hge', w2, w3, w4, w5, w6, w7, w8, dec_nn, Bool.and_self, List.length_set, h2', lt_of_at hx0, look_at hx0, lt_of_at hz0, look_at hz0, lt_of_at hz20, look_at hz20, lt_of_at hr0, look_at hr0, e1, e2, e3]
            refine ev_call (f187 x z) ?_
            simp -implicitDefEqProofs only [rdl, Ex.same, Nat.beq, q1]
            refine ev_call (f187 r z) ?_
            simp -implicitDefEqProofs only [rdl, Ex.same, Nat.beq, q2, Bool.not_true]
            exact k2
        | false =>
          rw [if_neg (by rw [up_row hx hz, q1]; simp)]
          cases q2 : decide (r < x) with
          | false =>
            rw [if_pos (by rw [up_row hr hx, q2]; rfl)]
            refine ⟨.ret, .inl rfl, ev_succ ?_⟩
            simp only [l228x0s]
            simp -implicitDefEqProofs only [rdl, Ex.same, Nat.beq, hge', w2, w3, w4, w5, w6, w7, w8, dec_nn, Bool.and_self, List.length_set, h2', lt_of_at hx0, look_at hx0, lt_of_at hz0, look_at hz0, lt_of_at hz20, look_at hz20, lt_of_at hr0, look_at hr0]
            refine ev_call (f187 x z) ?_
            simp -implicitDefEqProofs only [rdl, Ex.same, Nat.beq, q1]
            refine ev_call (f187 r x) ?_
            simp -implicitDefEqProofs only [rdl, Ex.same, Nat.beq, q2, Bool.not_false]
            exact Evt.ret
          | true =>
            rw [if_neg (by rw [up_row hr hx, q2]; simp)]
            have e1 := setD_one (l := d.toList) (q := first + root) (c := .v (.int .i64 x)) ⟨_, hr0, rfl⟩
            have e2 := setD_one (l := d.toList.set (first + root) [.v (.int .i64 x)]) (q := first + (2 * root + 1)) (c := .v (.int .i64 r)) (set_has hx0 rfl)
            have e3 : (d.toList.set (first + root) [.v (.int .i64 x)]).set (first + (2 * root + 1)) [.v (.int .i64 r)] = (Sort.swp d (first + root) (first + (2 * root + 1))).toList := by rw [swp_list, hr, hx]
            have hsw := Like.swp (d := d) (i := first + root) (j := first + (2 * root + 1)) (by omega) (by omega)
            obtain ⟨ex, k1, k2⟩ := ih (2 * root + 1) _ (by omega) (hsw.sl hs) (by rw [hsw.1]; omega) (by rw [hsw.1]; omega) (by omega)
            refine ⟨ex, k1, ev_succ ?_⟩
            simp only [l228x0s]
            simp -implicitDefEqProofs only [rdl, Ex.same, Nat.beq, hge', w2, w3, w4, w5, w6, w7, w8, dec_nn, Bool.and_self, List.length_set, h2', lt_of_at hx0, look_at hx0, lt_of_at hz0, look_at hz0, lt_of_at hz20, look_at hz20, lt_of_at hr0, look_at hr0, e1, e2, e3]
            refine ev_call (f187 x z) ?_
            simp -implicitDefEqProofs only [rdl, Ex.same, Nat.beq, q1]
            refine ev_call (f187 r x) ?_
            simp -implicitDefEqProofs only [rdl, Ex.same, Nat.beq, q2, Bool.not_true]
            exact k2
      · have h2' : decide (((2 * root + 2 : Nat) : Int) < (hi : Int)) = false := decide_eq_false (by omega)
        rw [if_neg (by simp; omega)]
        cases q2 : decide (r < x) with
        | false =>
          rw [if_pos (by rw [up_row hr hx, q2]; rfl)]
          refine ⟨.ret, .inl rfl, ev_succ ?_⟩
          simp only [l228x0s]
          simp -implicitDefEqProofs only [rdl, Ex.same, Nat.beq, hge', w2, w3, w4, w5, w6, w7, w8, dec_nn, Bool.and_self, List.length_set, h2', lt_of_at hx0, look_at hx0, lt_of_at hr0, look_at hr0]
          refine ev_call (f187 r x) ?_
          simp -implicitDefEqProofs only [rdl, Ex.same, Nat.beq, q2, Bool.not_false]
          exact Evt.ret
        | true =>
          rw [if_neg (by rw [up_row hr hx, q2]; simp)]
          have e1 := setD_one (l := d.toList) (q := first + root) (c := .v (.int .i64 x)) ⟨_, hr0, rfl⟩
          have e2 := setD_one (l := d.toList.set (first + root) [.v (.int .i64 x)]) (q := first + (2 * root + 1)) (c := .v (.int .i64 r)) (set_has hx0 rfl)
          have e3 : (d.toList.set (first + root) [.v (.int .i64 x)]).set (first + (2 * root + 1)) [.v (.int .i64 r)] = (Sort.swp d (first + root) (first + (2 * root + 1))).toList := by rw [swp_list, hr, hx]
          have hsw := Like.swp (d := d) (i := first + root) (j := first + (2 * root + 1)) (by omega) (by omega)
          obtain ⟨ex, k1, k2⟩ := ih (2 * root + 1) _ (by omega) (hsw.sl hs) (by rw [hsw.1]; omega) (by rw [hsw.1]; omega) (by omega)
          refine ⟨ex, k1, ev_succ ?_⟩
          simp only [l228x0s]
          simp -implicitDefEqProofs only [rdl, Ex.same, Nat.beq, hge', w2, w3, w4, w5, w6, w7, w8, dec_nn, Bool.and_self, List.length_set, h2', lt_of_at hx0, look_at hx0, lt_of_at hr0, look_at hr0, e1, e2, e3]
          refine ev_call (f187 r x) ?_
          simp -implicitDefEqProofs only [rdl, Ex.same, Nat.beq, q2, Bool.not_true]
          exact k2
theorem f228 {d : Array Row} {lo hi first : Nat} (hs : SL E 3 d.toList) (hf : first + hi ≤ d.size) (hd : d.size ≤ 1073741824) (hl : lo ≤ 1073741824) :
    Ev fs 228 [.d (.s 1 d.toList), di (lo : Nat), di (hi : Nat), di (first : Nat)] (lentO 1 (Sort.siftDown (upI 0) hi first lo d).toList) := by
  refine Ev.of (af := a228) rfl rfl (Evt.congr (fun d n => a228q ..) ?_)
  obtain ⟨ex, h1, h2⟩ := siftL (hi := hi) (first := first) _ lo d (Nat.lt_succ_self _) hs hf hd hl
  refine ev_aft h2 ?_
  rcases h1 with rfl | rfl
  · simp -implicitDefEqProofs only [rdl, Ex.same, Nat.beq]
    exact Evt.ret
  · simp -implicitDefEqProofs only [rdl, Ex.same, Nat.beq]
    exact Evt.ret
theorem hBuild {first hi : Nat} {lo : Int} : ∀ (k : Nat) (d : Array Row), SL E 3 d.toList → first + hi ≤ d.size → d.size ≤ 1073741824 → k ≤ 1073741824 →
    Evt (fun dd m => l182x0 (TabD fs dd) dd m [.o 1 d.toList, vi (first : Nat), vi lo, vi (hi : Nat), vi ((k : Nat) - 1)]) (.exit 0, [.o 1 (Sort.heapBuild (upI 0) hi first k d).toList, vi (first : Nat), vi lo, vi (hi : Nat)]) := by
  intro k
  induction k with
  | zero =>
    intro d hs hf hd hk
    refine ev_succ ⟨0, fun dd m _ _ => ?_⟩
    simp only [l182x0s]
    simp -implicitDefEqProofs only [rdl, Ex.same, Nat.beq, show decide (((0 : Nat) : Int) - 1 ≥ 0) = false from rfl]
    rfl
  | succ k ih =>
    intro d hs hf hd hk
    have e : ((k + 1 : Nat) : Int) - 1 = (k : Int) := by omega
    have w : IntKind.wrap .i64 ((k : Int) - 1) = (k : Int) - 1 := wi_fit (by omega) (by omega)
    have hq := siftDown_like (lt := upI 0) hi first _ k d (Nat.le_refl _) hf
    refine ev_succ ?_
    simp only [l182x0s, e]
    simp -implicitDefEqProofs only [rdl, Ex.same, Nat.beq, show decide ((k : Int) ≥ 0) = true from decide_eq_true (by omega)]
    refine ev_call (f228 hs hf hd (by omega)) ?_
    simp -implicitDefEqProofs only [rdl, Ex.same, Nat.beq, w]
    exact ih _ (hq.sl hs) (by rw [hq.1]; exact hf) (by rw [hq.1]; exact hd) (by omega)
theorem hPop {first : Nat} : ∀ (k : Nat) (d : Array Row), SL E 3 d.toList → first + k ≤ d.size → d.size ≤ 1073741824 →
    Evt (fun dd m => l182x1 (TabD fs dd) dd m [.o 1 d.toList, vi (first : Nat), vi 0, vi ((k : Nat) - 1)]) (.exit 2, [.o 1 (Sort.heapPop (upI 0) first k d).toList]) := by
  intro k
  induction k with
  | zero =>
    intro d hs hf hd
    refine ev_succ ⟨0, fun dd m _ _ => ?_⟩
    simp only [l182x1s]
    simp -implicitDefEqProofs only [rdl, Ex.same, Nat.beq, show decide (((0 : Nat) : Int) - 1 ≥ 0) = false from rfl]
    rfl
  | succ k ih =>
    intro d hs hf hd
    have e : ((k + 1 : Nat) : Int) - 1 = (k : Int) := by omega
    have w : IntKind.wrap .i64 ((k : Int) - 1) = (k : Int) - 1 := wi_fit (by omega) (by omega)
    have w1 : IntKind.wrap .i64 ((first : Int) + (k : Int)) = ((first + k : Nat) : Int) := wN (by omega) (by omega)
    obtain ⟨x, hx⟩ := row_at hs (i := first) (by omega)
    have hx0 := arr_at (d := d) (i := first) (by omega)
    rw [hx] at hx0
    obtain ⟨y, hy⟩ := row_at hs (i := first + k) (by omega)
    have hy0 := arr_at (d := d) (i := first + k) (by omega)
    rw [hy] at hy0
    have e1 := setD_one (l := d.toList) (q := first) (c := .v (.int .i64 y)) ⟨_, hx0, rfl⟩
    have e2 := setD_one (l := d.toList.set (first) [.v (.int .i64 y)]) (q := first + k) (c := .v (.int .i64 x)) (set_has hy0 rfl)
    have e3 : (d.toList.set (first) [.v (.int .i64 y)]).set (first + k) [.v (.int .i64 x)] = (Sort.swp d (first) (first + k)).toList := by rw [swp_list, hx, hy]
    have hsw := Like.swp (d := d) (i := first) (j := first + k) (by omega) (by omega)
    have hq := siftDown_like (lt := upI 0) k first _ 0 (Sort.swp d first (first + k)) (Nat.le_refl _) (by rw [hsw.1]; omega)
    refine ev_succ ?_
    simp only [l182x1s, e]
    simp -implicitDefEqProofs only [rdl, Ex.same, Nat.beq, show decide ((k : Int) ≥ 0) = true from decide_eq_true (by omega), w1, lt_of_at hx0, look_at hx0, lt_of_at hy0, look_at hy0, dec_nn, Bool.and_self, List.length_set, e1, e2, e3]
    refine ev_call (f228 (lo := 0) (hi := k) (first := first) (hsw.sl hs) (by rw [hsw.1]; omega) (by rw [hsw.1]; exact hd) (by omega)) ?_
    simp -implicitDefEqProofs only [rdl, Ex.same, Nat.beq, w]
    exact ih _ (hq.sl (hsw.sl hs)) (by rw [hq.1, hsw.1]; omega) (by rw [hq.1, hsw.1]; exact hd)
theorem f182 {d : Array Row} {a b : Nat} (hs : SL E 3 d.toList) (ha : a < b) (hb : b ≤ d.size) (hd : d.size ≤ 1073741824) :
    Ev fs 182 [.d (.s 1 d.toList), di (a : Nat), di (b : Nat)] (lentO 1 (Sort.heapSort (upI 0) d a b).toList) := by
  refine Ev.of (af := a182) rfl rfl (Evt.congr (fun d n => a182q ..) ?_)
  have w1 : IntKind.wrap .i64 ((b : Int) - (a : Int)) = ((b - a : Nat) : Int) := wN (by omega) (by omega)
  have w2 : IntKind.wrap .i64 (((b - a : Nat) : Int) - 1) = ((b - a - 1 : Nat) : Int) := wN (by omega) (by omega)
  have w3 : IntKind.wrap .i64 (Int.tdiv ((b - a - 1 : Nat) : Int) 2) = (((b - a - 1) / 2 + 1 : Nat) : Int) - 1 := by
    rw [Int.tdiv_eq_ediv_of_nonneg (by omega), wrap_i64 (by omega) (by omega)]
    omega
  have w4 : ((b - a - 1 : Nat) : Int) = ((b - a : Nat) : Int) - 1 := by omega
  have hq := heapBuild_like (lt := upI 0) (b - a) a ((b - a - 1) / 2 + 1) d (by omega)
  simp -implicitDefEqProofs only [rdl, Ex.same, Nat.beq, w1, w2, w3, show decide ((2 : Int) ≠ 0) = true from rfl]
  refine ev_aft (hBuild (first := a) (hi := b - a) (lo := 0) ((b - a - 1) / 2 + 1) d hs (by omega) hd (by omega)) ?_
  simp -implicitDefEqProofs only [rdl, Ex.same, Nat.beq, w2, w4]
  refine ev_aft (hPop (first := a) (b - a) _ (hq.sl hs) (by rw [hq.1]; omega) (by rw [hq.1]; exact hd)) ?_
  simp -implicitDefEqProofs only [rdl, Ex.same, Nat.beq]
  exact Evt.ret
theorem revL : ∀ (n i j : Nat) (d : Array Row), j - i < n → SL E 3 d.toList → j < d.size → d.size ≤ 1073741824 →
    Evt (fun dd m => l185x0 (TabD fs dd) dd m [.o 1 d.toList, vi (i : Nat), vi (j : Nat)]) (.exit 0, [.o 1 (Sort.reverseLoop i j d).toList]) := by
  intro n
  induction n with
  | zero => intro i j d h; omega
  | succ n ih =>
    intro i j d hn hs hj hd
    rw [Sort.reverseLoop]
    refine ev_succ ?_
    simp only [l185x0s]
    by_cases h : i < j
    · rw [if_pos h]
      have w1 : IntKind.wrap .i64 ((i : Int) + 1) = ((i + 1 : Nat) : Int) := wN (by omega) (by omega)
      have w2 : IntKind.wrap .i64 ((j : Int) - 1) = ((j - 1 : Nat) : Int) := wN (by omega) (by omega)
      obtain ⟨x, hx⟩ := row_at hs (i := i) (by omega)
      have hx0 := arr_at (d := d) (i := i) (by omega)
      rw [hx] at hx0
      obtain ⟨y, hy⟩ := row_at hs (i := j) (by omega)
      have hy0 := arr_at (d := d) (i := j) (by omega)
      rw [hy] at hy0
      have e1 := setD_one (l := d.toList) (q := i) (c := .v (.int .i64 y)) ⟨_, hx0, rfl⟩
      have e2 := setD_one (l := d.toList.set (i) [.v (.int .i64 y)]) (q := j) (c := .v (.int .i64 x)) (set_has hy0 rfl)
      have e3 : (d.toList.set (i) [.v (.int .i64 y)]).set (j) [.v (.int .i64 x)] = (Sort.swp d (i) (j)).toList := by rw [swp_list, hx, hy]
      have hsw := Like.swp (d := d) (i := i) (j := j) (by omega) (by omega)
      simp -implicitDefEqProofs only [rdl, Ex.same, Nat.beq, show decide ((i : Int) < (j : Int)) = true from decide_eq_true (by omega), w1, w2, lt_of_at hx0, look_at hx0, lt_of_at hy0, look_at hy0, dec_nn, Bool.and_self, List.length_set, e1, e2, e3]
      exact ih (i + 1) (j - 1) _ (by omega) (hsw.sl hs) (by rw [hsw.1]; omega) (by rw [hsw.1]; exact hd)
    · rw [if_neg h]
      simp -implicitDefEqProofs only [rdl, Ex.same, Nat.beq, show decide ((i : Int) < (j : Int)) = false from decide_eq_false (by omega)]
      exact Evt.ret
theorem f185 {d : Array Row} {a b : Nat} (hs : SL E 3 d.toList) (ha : a < b) (hb : b ≤ d.size) (hd : d.size ≤ 1073741824) :
    Ev fs 185 [.d (.s 1 d.toList), di (a : Nat), di (b : Nat)] (lentO 1 (Sort.reverseRange d a b).toList) := by
  refine Ev.of (af := a185) rfl rfl (Evt.congr (fun d n => a185q ..) ?_)
  have w1 : IntKind.wrap .i64 ((b : Int) - 1) = ((b - 1 : Nat) : Int) := wN (by omega) (by omega)
  simp -implicitDefEqProofs only [rdl, Ex.same, Nat.beq, w1]
  refine ev_aft (revL _ a (b - 1) d (Nat.lt_succ_self _) hs (by omega) hd) ?_
  simp -implicitDefEqProofs only [rdl, Ex.same, Nat.beq]
  exact Evt.ret
theorem pU0 {a : Nat} {d : Array Row} (hs : SL E 3 d.toList) (hd : d.size ≤ 1073741824) (ha : a < d.size) {j : Nat} (hj : j < d.size) : ∀ (n i : Nat), j + 1 - i < n →
    Evt (fun dd m => l189x0 (TabD fs dd) dd m [.o 1 d.toList, vi (a : Nat), vi (i : Nat), vi (j : Nat)]) (.exit 0, [.o 1 d.toList, vi (a : Nat), vi (Sort.scanUp (fun x => upI 0 x d[a]!) d j i : Nat), vi (j : Nat)]) := by
  intro n
  induction n with
  | zero => intro i h; omega
  | succ n ih =>
    intro i hn
    rw [Sort.scanUp]
    refine ev_succ ?_
    simp only [l189x0s]
    by_cases h : i ≤ j
    · have w1 : IntKind.wrap .i64 ((i : Int) + 1) = ((i + 1 : Nat) : Int) := wN (by omega) (by omega)
      obtain ⟨x, hx⟩ := row_at hs (i := i) (by omega)
      have hx0 := arr_at (d := d) (i := i) (by omega)
      rw [hx] at hx0
      obtain ⟨y, hy⟩ := row_at hs (i := a) (by omega)
      have hy0 := arr_at (d := d) (i := a) (by omega)
      rw [hy] at hy0
      have hl := up_row hx hy
      simp -implicitDefEqProofs only [rdl, Ex.same, Nat.beq, show decide ((i : Int) ≤ (j : Int)) = true from decide_eq_true (by omega), w1, lt_of_at hx0, look_at hx0, lt_of_at hy0, look_at hy0, dec_nn, Bool.and_self, List.length_set]
      refine ev_call (f187 x y) ?_
      simp -implicitDefEqProofs only [rdl, Ex.same, Nat.beq]
      refine ev_if (fun hc => ?_) (fun hc => ?_)
      · rw [if_pos (by show (decide (i ≤ j) && upI 0 d[i]! d[a]!) = true; rw [hl]; (try simp only [Bool.not_eq_true'] at hc ⊢); rw [hc]; simp [h])]
        exact ih (i + 1) (by omega)
      · rw [if_neg (by show ¬ (decide (i ≤ j) && upI 0 d[i]! d[a]!) = true; rw [hl]; (try simp only [Bool.not_eq_false'] at hc ⊢); rw [hc]; simp)]
        exact Evt.ret
    · rw [if_neg (by simp [h])]
      simp -implicitDefEqProofs only [rdl, Ex.same, Nat.beq, show decide ((i : Int) ≤ (j : Int)) = false from decide_eq_false (by omega)]
      exact Evt.ret
theorem pD1 {a i : Nat} {d : Array Row} (hs : SL E 3 d.toList) (hd : d.size ≤ 1073741824) (ha : a < d.size) (hi : 1 ≤ i) : ∀ (j : Nat), j < d.size →
    Evt (fun dd m => l189x1 (TabD fs dd) dd m [.o 1 d.toList, vi (a : Nat), vi (i : Nat), vi (j : Nat)]) (.exit 2, [.o 1 d.toList, vi (a : Nat), vi (i : Nat), vi (Sort.scanDown (fun x => !upI 0 x d[a]!) d i j : Nat)]) := by
  intro j
  induction j with
  | zero =>
    intro hj
    refine ev_succ ⟨0, fun dd m _ _ => ?_⟩
    simp only [l189x1s]
    simp -implicitDefEqProofs only [rdl, Ex.same, Nat.beq, show decide ((i : Int) ≤ ((0 : Nat) : Int)) = false from decide_eq_false (by omega)]
    rfl
  | succ j ih =>
    intro hj
    rw [Sort.scanDown]
    refine ev_succ ?_
    simp only [l189x1s]
    by_cases h : i ≤ j + 1
    · have w1 : IntKind.wrap .i64 (((j + 1 : Nat) : Int) - 1) = ((j : Nat) : Int) := wN (by omega) (by omega)
      obtain ⟨x, hx⟩ := row_at hs (i := j + 1) (by omega)
      have hx0 := arr_at (d := d) (i := j + 1) (by omega)
      rw [hx] at hx0
      obtain ⟨y, hy⟩ := row_at hs (i := a) (by omega)
      have hy0 := arr_at (d := d) (i := a) (by omega)
      rw [hy] at hy0
      have hl := up_row hx hy
      simp -implicitDefEqProofs only [rdl, Ex.same, Nat.beq, show decide ((i : Int) ≤ ((j + 1 : Nat) : Int)) = true from decide_eq_true (by omega), w1, lt_of_at hx0, look_at hx0, lt_of_at hy0, look_at hy0, dec_nn, Bool.and_self, List.length_set]
      refine ev_call (f187 x y) ?_
      simp -implicitDefEqProofs only [rdl, Ex.same, Nat.beq]
      refine ev_if (fun hc => ?_) (fun hc => ?_)
      · rw [if_pos (by show (decide (i ≤ j + 1) && !upI 0 d[j + 1]! d[a]!) = true; rw [hl]; (try simp only [Bool.not_eq_true'] at hc ⊢); rw [hc]; simp [h])]
        exact ih (by omega)
      · rw [if_neg (by show ¬ (decide (i ≤ j + 1) && !upI 0 d[j + 1]! d[a]!) = true; rw [hl]; (try simp only [Bool.not_eq_false'] at hc ⊢); rw [hc]; simp)]
        exact Evt.ret
    · rw [if_neg (by simp [h])]
      simp -implicitDefEqProofs only [rdl, Ex.same, Nat.beq, show decide ((i : Int) ≤ ((j + 1 : Nat) : Int)) = false from decide_eq_false (by omega)]
      exact Evt.ret
theorem pU3 {a : Nat} {d : Array Row} (hs : SL E 3 d.toList) (hd : d.size ≤ 1073741824) (ha : a < d.size) {j : Nat} (hj : j < d.size) : ∀ (n i : Nat), j + 1 - i < n →
    Evt (fun dd m => l189x3 (TabD fs dd) dd m [.o 1 d.toList, vi (a : Nat), vi (i : Nat), vi (j : Nat)]) (.exit 6, [.o 1 d.toList, vi (a : Nat), vi (Sort.scanUp (fun x => upI 0 x d[a]!) d j i : Nat), vi (j : Nat)]) := by
  intro n
  induction n with
  | zero => intro i h; omega
  | succ n ih =>
    intro i hn
    rw [Sort.scanUp]
    refine ev_succ ?_
    simp only [l189x3s]
    by_cases h : i ≤ j
    · have w1 : IntKind.wrap .i64 ((i : Int) + 1) = ((i + 1 : Nat) : Int) := wN (by omega) (by omega)
      obtain ⟨x, hx⟩ := row_at hs (i := i) (by omega)
      have hx0 := arr_at (d := d) (i := i) (by omega)
      rw [hx] at hx0
      obtain ⟨y, hy⟩ := row_at hs (i := a) (by omega)
      have hy0 := arr_at (d := d) (i := a) (by omega)
      rw [hy] at hy0
      have hl := up_row hx hy
      simp -implicitDefEqProofs only [rdl, Ex.same, Nat.beq, show decide ((i : Int) ≤ (j : Int)) = true from decide_eq_true (by omega), w1, lt_of_at hx0, look_at hx0, lt_of_at hy0, look_at hy0, dec_nn, Bool.and_self, List.length_set]
      refine ev_call (f187 x y) ?_
      simp -implicitDefEqProofs only [rdl, Ex.same, Nat.beq]
      refine ev_if (fun hc => ?_) (fun hc => ?_)
      · rw [if_pos (by show (decide (i ≤ j) && upI 0 d[i]! d[a]!) = true; rw [hl]; (try simp only [Bool.not_eq_true'] at hc ⊢); rw [hc]; simp [h])]
        exact ih (i + 1) (by omega)
      · rw [if_neg (by show ¬ (decide (i ≤ j) && upI 0 d[i]! d[a]!) = true; rw [hl]; (try simp only [Bool.not_eq_false'] at hc ⊢); rw [hc]; simp)]
        exact Evt.ret
    · rw [if_neg (by simp [h])]
      simp -implicitDefEqProofs only [rdl, Ex.same, Nat.beq, show decide ((i : Int) ≤ (j : Int)) = false from decide_eq_false (by omega)]
      exact Evt.ret
theorem pD4 {a i : Nat} {d : Array Row} (hs : SL E 3 d.toList) (hd : d.size ≤ 1073741824) (ha : a < d.size) (hi : 1 ≤ i) : ∀ (j : Nat), j < d.size →
    Evt (fun dd m => l189x4 (TabD fs dd) dd m [.o 1 d.toList, vi (a : Nat), vi (i : Nat), vi (j : Nat)]) (.exit 8, [.o 1 d.toList, vi (a : Nat), vi (i : Nat), vi (Sort.scanDown (fun x => !upI 0 x d[a]!) d i j : Nat)]) := by
  intro j
  induction j with
  | zero =>
    intro hj
    refine ev_succ ⟨0, fun dd m _ _ => ?_⟩
    simp only [l189x4s]
    simp -implicitDefEqProofs only [rdl, Ex.same, Nat.beq, show decide ((i : Int) ≤ ((0 : Nat) : Int)) = false from decide_eq_false (by omega)]
    rfl
  | succ j ih =>
    intro hj
    rw [Sort.scanDown]
    refine ev_succ ?_
    simp only [l189x4s]
    by_cases h : i ≤ j + 1
    · have w1 : IntKind.wrap .i64 (((j + 1 : Nat) : Int) - 1) = ((j : Nat) : Int) := wN (by omega) (by omega)
      obtain ⟨x, hx⟩ := row_at hs (i := j + 1) (by omega)
      have hx0 := arr_at (d := d) (i := j + 1) (by omega)
      rw [hx] at hx0
      obtain ⟨y, hy⟩ := row_at hs (i := a) (by omega)
      have hy0 := arr_at (d := d) (i := a) (by omega)
      rw [hy] at hy0
      have hl := up_row hx hy
      simp -implicitDefEqProofs only [rdl, Ex.same, Nat.beq, show decide ((i : Int) ≤ ((j + 1 : Nat) : Int)) = true from decide_eq_true (by omega), w1, lt_of_at hx0, look_at hx0, lt_of_at hy0, look_at hy0, dec_nn, Bool.and_self, List.length_set]
      refine ev_call (f187 x y) ?_
      simp -implicitDefEqProofs only [rdl, Ex.same, Nat.beq]
      refine ev_if (fun hc => ?_) (fun hc => ?_)
      · rw [if_pos (by show (decide (i ≤ j + 1) && !upI 0 d[j + 1]! d[a]!) = true; rw [hl]; (try simp only [Bool.not_eq_true'] at hc ⊢); rw [hc]; simp [h])]
        exact ih (by omega)
      · rw [if_neg (by show ¬ (decide (i ≤ j + 1) && !upI 0 d[j + 1]! d[a]!) = true; rw [hl]; (try simp only [Bool.not_eq_false'] at hc ⊢); rw [hc]; simp)]
        exact Evt.ret
    · rw [if_neg (by simp [h])]
      simp -implicitDefEqProofs only [rdl, Ex.same, Nat.beq, show decide ((i : Int) ≤ ((j + 1 : Nat) : Int)) = false from decide_eq_false (by omega)]
      exact Evt.ret
theorem eU1 {a : Nat} {d : Array Row} (hs : SL E 3 d.toList) (hd : d.size ≤ 1073741824) (ha : a < d.size) {j : Nat} (hj : j < d.size) : ∀ (n i : Nat), j + 1 - i < n →
    Evt (fun dd m => l188x1 (TabD fs dd) dd m [.o 1 d.toList, vi (a : Nat), vi (i : Nat), vi (j : Nat)]) (.exit 2, [.o 1 d.toList, vi (a : Nat), vi (Sort.scanUp (fun x => !upI 0 d[a]! x) d j i : Nat), vi (j : Nat)]) := by
  intro n
  induction n with
  | zero => intro i h; omega
  | succ n ih =>
    intro i hn
    rw [Sort.scanUp]
    refine ev_succ ?_
    simp only [l188x1s]
    by_cases h : i ≤ j
    · have w1 : IntKind.wrap .i64 ((i : Int) + 1) = ((i + 1 : Nat) : Int) := wN (by omega) (by omega)
      obtain ⟨x, hx⟩ := row_at hs (i := i) (by omega)
      have hx0 := arr_at (d := d) (i := i) (by omega)
      rw [hx] at hx0
      obtain ⟨y, hy⟩ := row_at hs (i := a) (by omega)
      have hy0 := arr_at (d := d) (i := a) (by omega)
      rw [hy] at hy0
      have hl := up_row hy hx
      simp -implicitDefEqProofs only [rdl, Ex.same, Nat.beq, show decide ((i : Int) ≤ (j : Int)) = true from decide_eq_true (by omega), w1, lt_of_at hx0, look_at hx0, lt_of_at hy0, look_at hy0, dec_nn, Bool.and_self, List.length_set]
      refine ev_call (f187 y x) ?_
      simp -implicitDefEqProofs only [rdl, Ex.same, Nat.beq]
      refine ev_if (fun hc => ?_) (fun hc => ?_)
      · rw [if_pos (by show (decide (i ≤ j) && !upI 0 d[a]! d[i]!) = true; rw [hl]; (try simp only [Bool.not_eq_true'] at hc ⊢); rw [hc]; simp [h])]
        exact ih (i + 1) (by omega)
      · rw [if_neg (by show ¬ (decide (i ≤ j) && !upI 0 d[a]! d[i]!) = true; rw [hl]; (try simp only [Bool.not_eq_false'] at hc ⊢); rw [hc]; simp)]
        exact Evt.ret
    · rw [if_neg (by simp [h])]
      simp -implicitDefEqProofs only [rdl, Ex.same, Nat.beq, show decide ((i : Int) ≤ (j : Int)) = false from decide_eq_false (by omega)]
      exact Evt.ret
theorem eD2 {a i : Nat} {d : Array Row} (hs : SL E 3 d.toList) (hd : d.size ≤ 1073741824) (ha : a < d.size) (hi : 1 ≤ i) : ∀ (j : Nat), j < d.size →
    Evt (fun dd m => l188x2 (TabD fs dd) dd m [.o 1 d.toList, vi (a : Nat), vi (i : Nat), vi (j : Nat)]) (.exit 4, [.o 1 d.toList, vi (a : Nat), vi (i : Nat), vi (Sort.scanDown (fun x => upI 0 d[a]! x) d i j : Nat)]) := by
  intro j
  induction j with
  | zero =>
    intro hj
    refine ev_succ ⟨0, fun dd m _ _ => ?_⟩
    simp only [l188x2s]
    simp -implicitDefEqProofs only [rdl, Ex.same, Nat.beq, show decide ((i : Int) ≤ ((0 : Nat) : Int)) = false from decide_eq_false (by omega)]
    rfl
  | succ j ih =>
    intro hj
    rw [Sort.scanDown]
    refine ev_succ ?_
    simp only [l188x2s]
    by_cases h : i ≤ j + 1
    · have w1 : IntKind.wrap .i64 (((j + 1 : Nat) : Int) - 1) = ((j : Nat) : Int) := wN (by omega) (by omega)
      obtain ⟨x, hx⟩ := row_at hs (i := j + 1) (by omega)
      have hx0 := arr_at (d := d) (i := j + 1) (by omega)
      rw [hx] at hx0
      obtain ⟨y, hy⟩ := row_at hs (i := a) (by omega)
      have hy0 := arr_at (d := d) (i := a) (by omega)
      rw [hy] at hy0
      have hl := up_row hy hx
      simp -implicitDefEqProofs only [rdl, Ex.same, Nat.beq, show decide ((i : Int) ≤ ((j + 1 : Nat) : Int)) = true from decide_eq_true (by omega), w1, lt_of_at hx0, look_at hx0, lt_of_at hy0, look_at hy0, dec_nn, Bool.and_self, List.length_set]
      refine ev_call (f187 y x) ?_
      simp -implicitDefEqProofs only [rdl, Ex.same, Nat.beq]
      refine ev_if (fun hc => ?_) (fun hc => ?_)
      · rw [if_pos (by show (decide (i ≤ j + 1) && upI 0 d[a]! d[j + 1]!) = true; rw [hl]; (try simp only [Bool.not_eq_true'] at hc ⊢); rw [hc]; simp [h])]
        exact ih (by omega)
      · rw [if_neg (by show ¬ (decide (i ≤ j + 1) && upI 0 d[a]! d[j + 1]!) = true; rw [hl]; (try simp only [Bool.not_eq_false'] at hc ⊢); rw [hc]; simp)]
        exact Evt.ret
    · rw [if_neg (by simp [h])]
      simp -implicitDefEqProofs only [rdl, Ex.same, Nat.beq, show decide ((i : Int) ≤ ((j + 1 : Nat) : Int)) = false from decide_eq_false (by omega)]
      exact Evt.ret
theorem pLoop {a : Nat} : ∀ (n i j : Nat) (d : Array Row), j + 1 - i < n → 1 ≤ i → SL E 3 d.toList → d.size ≤ 1073741824 → a < d.size → j < d.size →
    Evt (fun dd m => l189x2 (TabD fs dd) dd m [.o 1 d.toList, vi (a : Nat), vi (i : Nat), vi (j : Nat)]) (.exit 4, [.o 1 (Sort.partLoop (upI 0) a i j d).2.toList, vi (a : Nat), vi (Sort.partLoop (upI 0) a i j d).1]) := by
  intro n
  induction n with
  | zero => intro i j d h; omega
  | succ n ih =>
    intro i j d hn h1 hs hd ha hj
    have hu := pU3 hs hd ha hj _ i (Nat.lt_succ_self _)
    have g1 := Sort.scanUp_ge (fun x => upI 0 x d[a]!) d j i
    rw [Sort.partLoop_eq]
    generalize Sort.scanUp (fun x => upI 0 x d[a]!) d j i = i2 at *
    have hw := pD4 hs hd ha (i := i2) (by omega) j hj
    have g2 := Sort.scanDown_le (fun x => !upI 0 x d[a]!) d i2 j
    generalize Sort.scanDown (fun x => !upI 0 x d[a]!) d i2 j = j2 at *
    refine ev_succ ?_
    simp only [l189x2s]
    refine ev_aft hu ?_
    simp -implicitDefEqProofs only [rdl, Ex.same, Nat.beq]
    refine ev_aft hw ?_
    simp -implicitDefEqProofs only [rdl, Ex.same, Nat.beq]
    by_cases h : i2 > j2
    · simp only [if_pos h]
      simp -implicitDefEqProofs only [rdl, Ex.same, Nat.beq, show decide ((i2 : Int) > (j2 : Int)) = true from decide_eq_true (by omega)]
      exact Evt.ret
    · simp only [if_neg h]
      have w1 : IntKind.wrap .i64 ((i2 : Int) + 1) = ((i2 + 1 : Nat) : Int) := wN (by omega) (by omega)
      have w2 : IntKind.wrap .i64 ((j2 : Int) - 1) = ((j2 - 1 : Nat) : Int) := wN (by omega) (by omega)
      obtain ⟨x, hx⟩ := row_at hs (i := i2) (by omega)
      have hx0 := arr_at (d := d) (i := i2) (by omega)
      rw [hx] at hx0
      obtain ⟨y, hy⟩ := row_at hs (i := j2) (by omega)
      have hy0 := arr_at (d := d) (i := j2) (by omega)
      rw [hy] at hy0
      have e1 := setD_one (l := d.toList) (q := i2) (c := .v (.int .i64 y)) ⟨_, hx0, rfl⟩
      have e2 := setD_one (l := d.toList.set (i2) [.v (.int .i64 y)]) (q := j2) (c := .v (.int .i64 x)) (set_has hy0 rfl)
      have e3 : (d.toList.set (i2) [.v (.int .i64 y)]).set (j2) [.v (.int .i64 x)] = (Sort.swp d (i2) (j2)).toList := by rw [swp_list, hx, hy]
      have hsw := Like.swp (d := d) (i := i2) (j := j2) (by omega) (by omega)
      simp -implicitDefEqProofs only [rdl, Ex.same, Nat.beq, show decide ((i2 : Int) > (j2 : Int)) = false from decide_eq_false (by omega), w1, w2, lt_of_at hx0, look_at hx0, lt_of_at hy0, look_at hy0, dec_nn, Bool.and_self, List.length_set, e1, e2, e3]
      exact ih (i2 + 1) (j2 - 1) _ (by omega) (by omega) (hsw.sl hs) (by rw [hsw.1]; exact hd) (by rw [hsw.1]; exact ha) (by rw [hsw.1]; omega)
theorem eLoop {a : Nat} : ∀ (n i j : Nat) (d : Array Row), j + 1 - i < n → 1 ≤ i → SL E 3 d.toList → d.size ≤ 1073741824 → a < d.size → j < d.size →
    Evt (fun dd m => l188x0 (TabD fs dd) dd m [.o 1 d.toList, vi (a : Nat), vi (i : Nat), vi (j : Nat)]) (.exit 0, [.o 1 (Sort.partEqLoop (upI 0) a i j d).2.toList, vi (Sort.partEqLoop (upI 0) a i j d).1]) := by
  intro n
  induction n with
  | zero => intro i j d h; omega
  | succ n ih =>
    intro i j d hn h1 hs hd ha hj
    have hu := eU1 hs hd ha hj _ i (Nat.lt_succ_self _)
    have g1 := Sort.scanUp_ge (fun x => !upI 0 d[a]! x) d j i
    rw [Sort.partEqLoop_eq]
    generalize Sort.scanUp (fun x => !upI 0 d[a]! x) d j i = i2 at *
    have hw := eD2 hs hd ha (i := i2) (by omega) j hj
    have g2 := Sort.scanDown_le (fun x => upI 0 d[a]! x) d i2 j
    generalize Sort.scanDown (fun x => upI 0 d[a]! x) d i2 j = j2 at *
    refine ev_succ ?_
    simp only [l188x0s]
    refine ev_aft hu ?_
    simp -implicitDefEqProofs only [rdl, Ex.same, Nat.beq]
    refine ev_aft hw ?_
    simp -implicitDefEqProofs only [rdl, Ex.same, Nat.beq]
    by_cases h : i2 > j2
    · simp only [if_pos h]
      simp -implicitDefEqProofs only [rdl, Ex.same, Nat.beq, show decide ((i2 : Int) > (j2 : Int)) = true from decide_eq_true (by omega)]
      exact Evt.ret
    · simp only [if_neg h]
      have w1 : IntKind.wrap .i64 ((i2 : Int) + 1) = ((i2 + 1 : Nat) : Int) := wN (by omega) (by omega)
      have w2 : IntKind.wrap .i64 ((j2 : Int) - 1) = ((j2 - 1 : Nat) : Int) := wN (by omega) (by omega)
      obtain ⟨x, hx⟩ := row_at hs (i := i2) (by omega)
      have hx0 := arr_at (d := d) (i := i2) (by omega)
      rw [hx] at hx0
      obtain ⟨y, hy⟩ := row_at hs (i := j2) (by omega)
      have hy0 := arr_at (d := d) (i := j2) (by omega)
      rw [hy] at hy0
      have e1 := setD_one (l := d.toList) (q := i2) (c := .v (.int .i64 y)) ⟨_, hx0, rfl⟩
      have e2 := setD_one (l := d.toList.set (i2) [.v (.int .i64 y)]) (q := j2) (c := .v (.int .i64 x)) (set_has hy0 rfl)
      have e3 : (d.toList.set (i2) [.v (.int .i64 y)]).set (j2) [.v (.int .i64 x)] = (Sort.swp d (i2) (j2)).toList := by rw [swp_list, hx, hy]
      have hsw := Like.swp (d := d) (i := i2) (j := j2) (by omega) (by omega)
      simp -implicitDefEqProofs only [rdl, Ex.same, Nat.beq, show decide ((i2 : Int) > (j2 : Int)) = false from decide_eq_false (by omega), w1, w2, lt_of_at hx0, look_at hx0, lt_of_at hy0, look_at hy0, dec_nn, Bool.and_self, List.length_set, e1, e2, e3]
      exact ih (i2 + 1) (j2 - 1) _ (by omega) (by omega) (hsw.sl hs) (by rw [hsw.1]; exact hd) (by rw [hsw.1]; exact ha) (by rw [hsw.1]; omega)
theorem f188 {d : Array Row} {a b pivot : Nat} (hs : SL E 3 d.toList) (hd : d.size ≤ 1073741824) (h1 : a ≤ pivot) (h2 : pivot < b) (hb : b ≤ d.size) :
    Ev fs 188 [.d (.s 1 d.toList), di (a : Nat), di (b : Nat), di (pivot : Nat)] ⟨di (Sort.partitionEqual (upI 0) d a b pivot).1, [.d (.s 1 (Sort.partitionEqual (upI 0) d a b pivot).2.toList)]⟩ := by
  refine Ev.of (af := a188) rfl rfl (Evt.congr (fun d n => a188q ..) ?_)
  have w1 : IntKind.wrap .i64 ((a : Int) + 1) = ((a + 1 : Nat) : Int) := wN (by omega) (by omega)
  have w2 : IntKind.wrap .i64 ((b : Int) - 1) = ((b - 1 : Nat) : Int) := wN (by omega) (by omega)
  obtain ⟨x, hx⟩ := row_at hs (i := a) (by omega)
  have hx0 := arr_at (d := d) (i := a) (by omega)
  rw [hx] at hx0
  obtain ⟨y, hy⟩ := row_at hs (i := pivot) (by omega)
  have hy0 := arr_at (d := d) (i := pivot) (by omega)
  rw [hy] at hy0
  have e1 := setD_one (l := d.toList) (q := a) (c := .v (.int .i64 y)) ⟨_, hx0, rfl⟩
  have e2 := setD_one (l := d.toList.set (a) [.v (.int .i64 y)]) (q := pivot) (c := .v (.int .i64 x)) (set_has hy0 rfl)
  have e3 : (d.toList.set (a) [.v (.int .i64 y)]).set (pivot) [.v (.int .i64 x)] = (Sort.swp d (a) (pivot)).toList := by rw [swp_list, hx, hy]
  have hsw := Like.swp (d := d) (i := a) (j := pivot) (by omega) (by omega)
  simp -implicitDefEqProofs only [rdl, Ex.same, Nat.beq, w1, w2, lt_of_at hx0, look_at hx0, lt_of_at hy0, look_at hy0, dec_nn, Bool.and_self, List.length_set, e1, e2, e3]
  refine ev_aft (eLoop (a := a) _ (a + 1) (b - 1) _ (Nat.lt_succ_self _) (by omega) (hsw.sl hs) (by rw [hsw.1]; exact hd) (by rw [hsw.1]; omega) (by rw [hsw.1]; omega)) ?_
  simp -implicitDefEqProofs only [rdl, Ex.same, Nat.beq]
  exact Evt.ret
theorem f189 {d : Array Row} {a b pivot : Nat} (hs : SL E 3 d.toList) (hd : d.size ≤ 1073741824) (h1 : a ≤ pivot) (h2 : pivot < b) (hb : b ≤ d.size) :
    Ev fs 189 [.d (.s 1 d.toList), di (a : Nat), di (b : Nat), di (pivot : Nat)] ⟨.t [di (Sort.partition (upI 0) d a b pivot).1, .d (.v (.bool (Sort.partition (upI 0) d a b pivot).2.1))], [.d (.s 1 (Sort.partition (upI 0) d a b pivot).2.2.toList)]⟩ := by
  refine Ev.of (af := a189) rfl rfl (Evt.congr (fun d n => a189q ..) ?_)
  have w1 : IntKind.wrap .i64 ((a : Int) + 1) = ((a + 1 : Nat) : Int) := wN (by omega) (by omega)
  have w2 : IntKind.wrap .i64 ((b : Int) - 1) = ((b - 1 : Nat) : Int) := wN (by omega) (by omega)
  obtain ⟨x, hx⟩ := row_at hs (i := a) (by omega)
  have hx0 := arr_at (d := d) (i := a) (by omega)
  rw [hx] at hx0
  obtain ⟨y, hy⟩ := row_at hs (i := pivot) (by omega)
  have hy0 := arr_at (d := d) (i := pivot) (by omega)
  rw [hy] at hy0
  have e1 := setD_one (l := d.toList) (q := a) (c := .v (.int .i64 y)) ⟨_, hx0, rfl⟩
  have e2 := setD_one (l := d.toList.set (a) [.v (.int .i64 y)]) (q := pivot) (c := .v (.int .i64 x)) (set_has hy0 rfl)
  have e3 : (d.toList.set (a) [.v (.int .i64 y)]).set (pivot) [.v (.int .i64 x)] = (Sort.swp d (a) (pivot)).toList := by rw [swp_list, hx, hy]
  have hsw := Like.swp (d := d) (i := a) (j := pivot) (by omega) (by omega)
  simp -implicitDefEqProofs only [rdl, Ex.same, Nat.beq, w1, w2, lt_of_at hx0, look_at hx0, lt_of_at hy0, look_at hy0, dec_nn, Bool.and_self, List.length_set, e1, e2, e3]
  have hp := (Sort.partition_holds (upI 0) swoI d a b pivot h1 h2 hb).2.1
  simp only [Sort.partition] at hp ⊢
  have hs1 := hsw.sl hs
  have hd1 : (Sort.swp d a pivot).size = d.size := hsw.1
  generalize Sort.swp d a pivot = d1 at *
  have hu := pU0 hs1 (by omega) (a := a) (by omega) (j := b - 1) (by omega) _ (a + 1) (Nat.lt_succ_self _)
  have g1 := Sort.scanUp_ge (fun x => upI 0 x d1[a]!) d1 (b - 1) (a + 1)
  generalize Sort.scanUp (fun x => upI 0 x d1[a]!) d1 (b - 1) (a + 1) = i2 at *
  have hw := pD1 hs1 (by omega) (a := a) (by omega) (i := i2) (by omega) (b - 1) (by omega)
  have g2 := Sort.scanDown_le (fun x => !upI 0 x d1[a]!) d1 i2 (b - 1)
  generalize Sort.scanDown (fun x => !upI 0 x d1[a]!) d1 i2 (b - 1) = j2 at *
  clear e1 e2 e3 hx hy hx0 hy0 x y
  refine ev_aft hu ?_
  simp -implicitDefEqProofs only [rdl, Ex.same, Nat.beq]
  refine ev_aft hw ?_
  simp -implicitDefEqProofs only [rdl, Ex.same, Nat.beq]
  by_cases h : i2 > j2
  · simp only [if_pos h] at hp ⊢
    clear hsw
    obtain ⟨x, hx⟩ := row_at hs1 (i := j2) (by omega)
    have hx0 := arr_at (d := d1) (i := j2) (by omega)
    rw [hx] at hx0
    obtain ⟨y, hy⟩ := row_at hs1 (i := a) (by omega)
    have hy0 := arr_at (d := d1) (i := a) (by omega)
    rw [hy] at hy0
    have e1 := setD_one (l := d1.toList) (q := j2) (c := .v (.int .i64 y)) ⟨_, hx0, rfl⟩
    have e2 := setD_one (l := d1.toList.set (j2) [.v (.int .i64 y)]) (q := a) (c := .v (.int .i64 x)) (set_has hy0 rfl)
    have e3 : (d1.toList.set (j2) [.v (.int .i64 y)]).set (a) [.v (.int .i64 x)] = (Sort.swp d1 (j2) (a)).toList := by rw [swp_list, hx, hy]
    have hsw := Like.swp (d := d1) (i := j2) (j := a) (by omega) (by omega)
    simp -implicitDefEqProofs only [rdl, Ex.same, Nat.beq, show decide ((i2 : Int) > (j2 : Int)) = true from decide_eq_true (by omega), lt_of_at hx0, look_at hx0, lt_of_at hy0, look_at hy0, dec_nn, Bool.and_self, List.length_set, e1, e2, e3]
    exact Evt.ret
  · simp only [if_neg h] at hp ⊢
    clear hsw
    have w3 : IntKind.wrap .i64 ((i2 : Int) + 1) = ((i2 + 1 : Nat) : Int) := wN (by omega) (by omega)
    have w4 : IntKind.wrap .i64 ((j2 : Int) - 1) = ((j2 - 1 : Nat) : Int) := wN (by omega) (by omega)
    obtain ⟨x, hx⟩ := row_at hs1 (i := i2) (by omega)
    have hx0 := arr_at (d := d1) (i := i2) (by omega)
    rw [hx] at hx0
    obtain ⟨y, hy⟩ := row_at hs1 (i := j2) (by omega)
    have hy0 := arr_at (d := d1) (i := j2) (by omega)
    rw [hy] at hy0
    have e1 := setD_one (l := d1.toList) (q := i2) (c := .v (.int .i64 y)) ⟨_, hx0, rfl⟩
    have e2 := setD_one (l := d1.toList.set (i2) [.v (.int .i64 y)]) (q := j2) (c := .v (.int .i64 x)) (set_has hy0 rfl)
    have e3 : (d1.toList.set (i2) [.v (.int .i64 y)]).set (j2) [.v (.int .i64 x)] = (Sort.swp d1 (i2) (j2)).toList := by rw [swp_list, hx, hy]
    have hsw := Like.swp (d := d1) (i := i2) (j := j2) (by omega) (by omega)
    simp -implicitDefEqProofs only [rdl, Ex.same, Nat.beq, show decide ((i2 : Int) > (j2 : Int)) = false from decide_eq_false (by omega), w3, w4, lt_of_at hx0, look_at hx0, lt_of_at hy0, look_at hy0, dec_nn, Bool.and_self, List.length_set, e1, e2, e3]
    have hs2 := hsw.sl hs1
    have hd2 := hsw.1
    clear e1 e2 e3 hx hy hx0 hy0 x y hsw
    generalize Sort.swp d1 i2 j2 = d2 at *
    have hl := pLoop (a := a) _ (i2 + 1) (j2 - 1) d2 (Nat.lt_succ_self _) (by omega) hs2 (by omega) (by omega) (by omega)
    have hk := partLoop_like (lt := upI 0) a _ (i2 + 1) (j2 - 1) d2 (Nat.le_refl _) (by omega)
    have hs3 := hk.sl hs2
    have hd3 := hk.1
    generalize (Sort.partLoop (upI 0) a (i2 + 1) (j2 - 1) d2).1 = m at *
    generalize (Sort.partLoop (upI 0) a (i2 + 1) (j2 - 1) d2).2 = d3 at *
    refine ev_aft hl ?_
    obtain ⟨x, hx⟩ := row_at hs3 (i := m) (by omega)
    have hx0 := arr_at (d := d3) (i := m) (by omega)
    rw [hx] at hx0
    obtain ⟨y, hy⟩ := row_at hs3 (i := a) (by omega)
    have hy0 := arr_at (d := d3) (i := a) (by omega)
    rw [hy] at hy0
    have e1 := setD_one (l := d3.toList) (q := m) (c := .v (.int .i64 y)) ⟨_, hx0, rfl⟩
    have e2 := setD_one (l := d3.toList.set (m) [.v (.int .i64 y)]) (q := a) (c := .v (.int .i64 x)) (set_has hy0 rfl)
    have e3 : (d3.toList.set (m) [.v (.int .i64 y)]).set (a) [.v (.int .i64 x)] = (Sort.swp d3 (m) (a)).toList := by rw [swp_list, hx, hy]
    have hsw := Like.swp (d := d3) (i := m) (j := a) (by omega) (by omega)
    simp -implicitDefEqProofs only [rdl, Ex.same, Nat.beq, lt_of_at hx0, look_at hx0, lt_of_at hy0, look_at hy0, dec_nn, Bool.and_self, List.length_set, e1, e2, e3]
    exact Evt.ret
theorem scanSorted_rng (d : Array Row) (b : Nat) : ∀ (n i : Nat), b - i < n → i ≤ b → i ≤ Sort.scanSorted (upI 0) d b i ∧ Sort.scanSorted (upI 0) d b i ≤ b := by
  intro n
  induction n with
  | zero => intro i h; omega
  | succ n ih =>
    intro i h1 h2
    rw [Sort.scanSorted]
    split
    · rename_i hc
      have : i < b := by simp at hc; exact hc.1
      have := ih (i + 1) (by omega) (by omega)
      omega
    · omega
theorem sSorted {d : Array Row} (hs : SL E 3 d.toList) (hd : d.size ≤ 1073741824) {b : Nat} (hb : b ≤ d.size) {a s : Int} : ∀ (n i : Nat), b - i < n → 1 ≤ i →
    Evt (fun dd m => l186x1 (TabD fs dd) dd m [.o 1 d.toList, vi a, vi (b : Nat), vi (i : Nat), vi s]) (.exit 2, [.o 1 d.toList, vi a, vi (b : Nat), vi (Sort.scanSorted (upI 0) d b i : Nat), vi s]) := by
  intro n
  induction n with
  | zero => intro i h; omega
  | succ n ih =>
    intro i hn h1
    rw [Sort.scanSorted]
    refine ev_succ ?_
    simp only [l186x1s]
    by_cases h : i < b
    · have w1 : IntKind.wrap .i64 ((i : Int) + 1) = ((i + 1 : Nat) : Int) := wN (by omega) (by omega)
      have w2 : IntKind.wrap .i64 ((i : Int) - 1) = ((i - 1 : Nat) : Int) := wN (by omega) (by omega)
      obtain ⟨x, hx⟩ := row_at hs (i := i) (by omega)
      have hx0 := arr_at (d := d) (i := i) (by omega)
      rw [hx] at hx0
      obtain ⟨y, hy⟩ := row_at hs (i := i - 1) (by omega)
      have hy0 := arr_at (d := d) (i := i - 1) (by omega)
      rw [hy] at hy0
      simp -implicitDefEqProofs only [rdl, Ex.same, Nat.beq, show decide ((i : Int) < (b : Int)) = true from decide_eq_true (by omega), w1, w2, lt_of_at hx0, look_at hx0, lt_of_at hy0, look_at hy0, dec_nn, Bool.and_self, List.length_set]
      refine ev_call (f187 x y) ?_
      simp -implicitDefEqProofs only [rdl, Ex.same, Nat.beq]
      refine ev_if (fun hc => ?_) (fun hc => ?_)
      · rw [if_pos (by rw [up_row hx hy]; simp only [Bool.not_eq_true'] at hc ⊢; rw [hc]; simp [h])]
        exact ih (i + 1) (by omega) (by omega)
      · rw [if_neg (by rw [up_row hx hy]; simp only [Bool.not_eq_false'] at hc ⊢; rw [hc]; simp)]
        exact Evt.ret
    · rw [if_neg (by simp [h])]
      simp -implicitDefEqProofs only [rdl, Ex.same, Nat.beq, show decide ((i : Int) < (b : Int)) = false from decide_eq_false (by omega)]
      exact Evt.ret
theorem sDown {a b i s : Int} : ∀ (j : Nat) (d : Array Row), SL E 3 d.toList → d.size ≤ 1073741824 → j < d.size →
    Evt (fun dd m => l186x2 (TabD fs dd) dd m [.o 1 d.toList, vi a, vi b, vi i, vi s, vi (j : Nat)]) (.exit 4, [.o 1 (Sort.shiftDown (upI 0) j d).toList, vi a, vi b, vi i, vi s]) := by
  intro j
  induction j with
  | zero =>
    intro d hs hd hj
    refine ev_succ ⟨0, fun dd m _ _ => ?_⟩
    simp only [l186x2s]
    simp -implicitDefEqProofs only [rdl, Ex.same, Nat.beq, show decide (((0 : Nat) : Int) ≥ 1) = false from rfl]
    rfl
  | succ j ih =>
    intro d hs hd hj
    have w1 : IntKind.wrap .i64 (((j + 1 : Nat) : Int) - 1) = ((j : Nat) : Int) := wN (by omega) (by omega)
    obtain ⟨x, hx⟩ := row_at hs (i := j + 1) (by omega)
    have hx0 := arr_at (d := d) (i := j + 1) (by omega)
    rw [hx] at hx0
    obtain ⟨y, hy⟩ := row_at hs (i := j) (by omega)
    have hy0 := arr_at (d := d) (i := j) (by omega)
    rw [hy] at hy0
    have e1 := setD_one (l := d.toList) (q := j + 1) (c := .v (.int .i64 y)) ⟨_, hx0, rfl⟩
    have e2 := setD_one (l := d.toList.set (j + 1) [.v (.int .i64 y)]) (q := j) (c := .v (.int .i64 x)) (set_has hy0 rfl)
    have e3 : (d.toList.set (j + 1) [.v (.int .i64 y)]).set (j) [.v (.int .i64 x)] = (Sort.swp d (j + 1) (j)).toList := by rw [swp_list, hx, hy]
    have hsw := Like.swp (d := d) (i := j + 1) (j := j) (by omega) (by omega)
    rw [Sort.shiftDown]
    refine ev_succ ?_
    simp only [l186x2s]
    simp -implicitDefEqProofs only [rdl, Ex.same, Nat.beq, show decide (((j + 1 : Nat) : Int) ≥ 1) = true from decide_eq_true (by omega), w1, lt_of_at hx0, look_at hx0, lt_of_at hy0, look_at hy0, dec_nn, Bool.and_self, List.length_set, e1, e2, e3]
    refine ev_call (f187 x y) ?_
    simp -implicitDefEqProofs only [rdl, Ex.same, Nat.beq]
    refine ev_if (fun hc => ?_) (fun hc => ?_)
    · rw [if_pos (by rw [up_row hx hy]; exact hc)]
      exact Evt.ret
    · rw [if_neg (by rw [up_row hx hy, hc]; simp)]
      exact ih _ (hsw.sl hs) (by rw [hsw.1]; exact hd) (by rw [hsw.1]; omega)
theorem sUp {a i s : Int} {b : Nat} : ∀ (n j : Nat) (d : Array Row), b - j < n → 1 ≤ j → SL E 3 d.toList → d.size ≤ 1073741824 → b ≤ d.size →
    Evt (fun dd m => l186x3 (TabD fs dd) dd m [.o 1 d.toList, vi a, vi (b : Nat), vi i, vi s, vi (j : Nat)]) (.exit 6, [.o 1 (Sort.shiftUp (upI 0) b j d).toList, vi a, vi (b : Nat), vi i, vi s]) := by
  intro n
  induction n with
  | zero => intro j d h; omega
  | succ n ih =>
    intro j d hn h1 hs hd hb
    rw [Sort.shiftUp]
    refine ev_succ ?_
    simp only [l186x3s]
    by_cases h : j < b
    · rw [if_pos h]
      have w1 : IntKind.wrap .i64 ((j : Int) - 1) = ((j - 1 : Nat) : Int) := wN (by omega) (by omega)
      have w2 : IntKind.wrap .i64 ((j : Int) + 1) = ((j + 1 : Nat) : Int) := wN (by omega) (by omega)
      obtain ⟨x, hx⟩ := row_at hs (i := j) (by omega)
      have hx0 := arr_at (d := d) (i := j) (by omega)
      rw [hx] at hx0
      obtain ⟨y, hy⟩ := row_at hs (i := j - 1) (by omega)
      have hy0 := arr_at (d := d) (i := j - 1) (by omega)
      rw [hy] at hy0
      have e1 := setD_one (l := d.toList) (q := j) (c := .v (.int .i64 y)) ⟨_, hx0, rfl⟩
      have e2 := setD_one (l := d.toList.set (j) [.v (.int .i64 y)]) (q := j - 1) (c := .v (.int .i64 x)) (set_has hy0 rfl)
      have e3 : (d.toList.set (j) [.v (.int .i64 y)]).set (j - 1) [.v (.int .i64 x)] = (Sort.swp d (j) (j - 1)).toList := by rw [swp_list, hx, hy]
      have hsw := Like.swp (d := d) (i := j) (j := j - 1) (by omega) (by omega)
      simp -implicitDefEqProofs only [rdl, Ex.same, Nat.beq, show decide ((j : Int) < (b : Int)) = true from decide_eq_true (by omega), w1, w2, lt_of_at hx0, look_at hx0, lt_of_at hy0, look_at hy0, dec_nn, Bool.and_self, List.length_set, e1, e2, e3]
      refine ev_call (f187 x y) ?_
      simp -implicitDefEqProofs only [rdl, Ex.same, Nat.beq]
      refine ev_if (fun hc => ?_) (fun hc => ?_)
      · rw [if_pos (by rw [up_row hx hy]; exact hc)]
        exact Evt.ret
      · rw [if_neg (by rw [up_row hx hy, hc]; simp)]
        exact ih (j + 1) _ (by omega) (by omega) (hsw.sl hs) (by rw [hsw.1]; exact hd) (by rw [hsw.1]; exact hb)
    · rw [if_neg h]
      simp -implicitDefEqProofs only [rdl, Ex.same, Nat.beq, show decide ((j : Int) < (b : Int)) = false from decide_eq_false (by omega)]
      exact Evt.ret
theorem pIns {a b : Nat} (hab : a < b) : ∀ (k s i : Nat) (d : Array Row), k + s = 5 → a + 1 ≤ i → i ≤ b → SL E 3 d.toList → d.size ≤ 1073741824 → b ≤ d.size →
    ∃ ex ys, ((ex = .ret ∧ ys = [.o 1 (Sort.partialIns (upI 0) a b k i d).1.toList, .v (.bool (Sort.partialIns (upI 0) a b k i d).2)]) ∨ (ex = .exit 0 ∧ ys = [.o 1 (Sort.partialIns (upI 0) a b k i d).1.toList] ∧ (Sort.partialIns (upI 0) a b k i d).2 = false)) ∧
      Evt (fun dd m => l186x0 (TabD fs dd) dd m [.o 1 d.toList, vi (a : Nat), vi (b : Nat), vi (i : Nat), vi (s : Nat)]) (ex, ys) := by
  intro k
  induction k with
  | zero =>
    intro s i d h0 h1 h2 hs hd hb
    refine ⟨.exit 0, _, .inr ⟨rfl, rfl, rfl⟩, ev_succ ?_⟩
    simp only [l186x0s]
    simp -implicitDefEqProofs only [rdl, Ex.same, Nat.beq, show decide ((s : Int) < 5) = false from decide_eq_false (by omega)]
    exact Evt.ret
  | succ k ih =>
    intro s i d h0 h1 h2 hs hd hb
    have hS : decide ((s : Int) < 5) = true := decide_eq_true (by omega)
    have hsc := sSorted hs hd hb (a := a) (s := s) _ i (Nat.lt_succ_self _) (by omega)
    have hr := scanSorted_rng d b _ i (Nat.lt_succ_self _) h2
    simp only [Sort.partialIns]
    generalize Sort.scanSorted (upI 0) d b i = i2 at *
    have ws : IntKind.wrap .i64 ((s : Int) + 1) = ((s + 1 : Nat) : Int) := wN (by omega) (by omega)
    have wb : IntKind.wrap .i64 ((b : Int) - (a : Int)) = ((b - a : Nat) : Int) := wN (by omega) (by omega)
    by_cases hi : i2 = b
    · simp only [if_pos hi]
      refine ⟨.ret, _, .inl ⟨rfl, rfl⟩, ev_succ ?_⟩
      simp only [l186x0s]
      simp -implicitDefEqProofs only [rdl, Ex.same, Nat.beq, hS]
      refine ev_aft hsc ?_
      simp -implicitDefEqProofs only [rdl, Ex.same, Nat.beq, show ((i2 : Int) == (b : Int)) = true from by simp [hi]]
      exact Evt.ret
    · simp only [if_neg hi]
      have hi' : ((i2 : Int) == (b : Int)) = false := by simp; omega
      by_cases h50 : b - a < 50
      · simp only [if_pos h50]
        refine ⟨.ret, _, .inl ⟨rfl, rfl⟩, ev_succ ?_⟩
        simp only [l186x0s]
        simp -implicitDefEqProofs only [rdl, Ex.same, Nat.beq, hS]
        refine ev_aft hsc ?_
        simp -implicitDefEqProofs only [rdl, Ex.same, Nat.beq, hi', wb, show decide (((b - a : Nat) : Int) < 50) = true from decide_eq_true (by omega)]
        exact Evt.ret
      · simp only [if_neg h50]
        have h50' : decide (((b - a : Nat) : Int) < 50) = false := decide_eq_false (by omega)
        have w1 : IntKind.wrap .i64 ((i2 : Int) - 1) = ((i2 - 1 : Nat) : Int) := wN (by omega) (by omega)
        have w2 : IntKind.wrap .i64 ((i2 : Int) + 1) = ((i2 + 1 : Nat) : Int) := wN (by omega) (by omega)
        have w3 : IntKind.wrap .i64 ((i2 : Int) - (a : Int)) = ((i2 - a : Nat) : Int) := wN (by omega) (by omega)
        have w4 : IntKind.wrap .i64 ((b : Int) - (i2 : Int)) = ((b - i2 : Nat) : Int) := wN (by omega) (by omega)
        obtain ⟨x, hx⟩ := row_at hs (i := i2) (by omega)
        have hx0 := arr_at (d := d) (i := i2) (by omega)
        rw [hx] at hx0
        obtain ⟨y, hy⟩ := row_at hs (i := i2 - 1) (by omega)
        have hy0 := arr_at (d := d) (i := i2 - 1) (by omega)
        rw [hy] at hy0
        have e1 := setD_one (l := d.toList) (q := i2) (c := .v (.int .i64 y)) ⟨_, hx0, rfl⟩
        have e2 := setD_one (l := d.toList.set (i2) [.v (.int .i64 y)]) (q := i2 - 1) (c := .v (.int .i64 x)) (set_has hy0 rfl)
        have e3 : (d.toList.set (i2) [.v (.int .i64 y)]).set (i2 - 1) [.v (.int .i64 x)] = (Sort.swp d (i2) (i2 - 1)).toList := by rw [swp_list, hx, hy]
        have hsw := Like.swp (d := d) (i := i2) (j := i2 - 1) (by omega) (by omega)
        by_cases g1 : i2 - a ≥ 2
        · have g1' : decide (((i2 - a : Nat) : Int) ≥ 2) = true := decide_eq_true (by omega)
          by_cases g2 : b - i2 ≥ 2
          · have g2' : decide (((b - i2 : Nat) : Int) ≥ 2) = true := decide_eq_true (by omega)
            simp only [if_pos g1, if_pos g2]
            have hk1 := hsw.trans (shiftDown_like (lt := upI 0) (i2 - 1) _ (by rw [hsw.1]; omega))
            have hk2 := hk1.trans (shiftUp_like (lt := upI 0) b _ (i2 + 1) _ (Nat.le_refl _) (by rw [hk1.1]; exact hb))
            obtain ⟨ex, ys, q1, q2⟩ := ih (s + 1) i2 _ (by omega) (by omega) (by omega) (hk2.sl hs) (by rw [hk2.1]; exact hd) (by rw [hk2.1]; exact hb)
            refine ⟨ex, ys, q1, ev_succ ?_⟩
            simp only [l186x0s]
            simp -implicitDefEqProofs only [rdl, Ex.same, Nat.beq, hS]
            refine ev_aft hsc ?_
            simp -implicitDefEqProofs only [rdl, Ex.same, Nat.beq, hi', wb, h50', w1, w2, w3, w4, ws, lt_of_at hx0, look_at hx0, lt_of_at hy0, look_at hy0, dec_nn, Bool.and_self, List.length_set, e1, e2, e3, g1', g2']
            refine ev_aft (sDown (i2 - 1) _ (hsw.sl hs) (by rw [hsw.1]; exact hd) (by rw [hsw.1]; omega)) ?_
            simp -implicitDefEqProofs only [rdl, Ex.same, Nat.beq, hi', wb, h50', w1, w2, w3, w4, ws, lt_of_at hx0, look_at hx0, lt_of_at hy0, look_at hy0, dec_nn, Bool.and_self, List.length_set, e1, e2, e3, g1', g2']
            refine ev_aft (sUp _ (i2 + 1) _ (Nat.lt_succ_self _) (by omega) (hk1.sl hs) (by rw [hk1.1]; exact hd) (by rw [hk1.1]; exact hb)) ?_
            simp -implicitDefEqProofs only [rdl, Ex.same, Nat.beq, ws]
            exact q2
          · have g2' : decide (((b - i2 : Nat) : Int) ≥ 2) = false := decide_eq_false (by omega)
            simp only [if_pos g1, if_neg g2]
            have hk1 := hsw.trans (shiftDown_like (lt := upI 0) (i2 - 1) _ (by rw [hsw.1]; omega))
            obtain ⟨ex, ys, q1, q2⟩ := ih (s + 1) i2 _ (by omega) (by omega) (by omega) (hk1.sl hs) (by rw [hk1.1]; exact hd) (by rw [hk1.1]; exact hb)
            refine ⟨ex, ys, q1, ev_succ ?_⟩
            simp only [l186x0s]
            simp -implicitDefEqProofs only [rdl, Ex.same, Nat.beq, hS]
            refine ev_aft hsc ?_
            simp -implicitDefEqProofs only [rdl, Ex.same, Nat.beq, hi', wb, h50', w1, w2, w3, w4, ws, lt_of_at hx0, look_at hx0, lt_of_at hy0, look_at hy0, dec_nn, Bool.and_self, List.length_set, e1, e2, e3, g1', g2']
            refine ev_aft (sDown (i2 - 1) _ (hsw.sl hs) (by rw [hsw.1]; exact hd) (by rw [hsw.1]; omega)) ?_
            simp -implicitDefEqProofs only [rdl, Ex.same, Nat.beq, hi', wb, h50', w1, w2, w3, w4, ws, lt_of_at hx0, look_at hx0, lt_of_at hy0, look_at hy0, dec_nn, Bool.and_self, List.length_set, e1, e2, e3, g1', g2']
            exact q2
        · have g1' : decide (((i2 - a : Nat) : Int) ≥ 2) = false := decide_eq_false (by omega)
          by_cases g2 : b - i2 ≥ 2
          · have g2' : decide (((b - i2 : Nat) : Int) ≥ 2) = true := decide_eq_true (by omega)
            simp only [if_neg g1, if_pos g2]
            have hk2 := hsw.trans (shiftUp_like (lt := upI 0) b _ (i2 + 1) _ (Nat.le_refl _) (by rw [hsw.1]; exact hb))
            obtain ⟨ex, ys, q1, q2⟩ := ih (s + 1) i2 _ (by omega) (by omega) (by omega) (hk2.sl hs) (by rw [hk2.1]; exact hd) (by rw [hk2.1]; exact hb)
            refine ⟨ex, ys, q1, ev_succ ?_⟩
            simp only [l186x0s]
            simp -implicitDefEqProofs only [rdl, Ex.same, Nat.beq, hS]
            refine ev_aft hsc ?_
            simp -implicitDefEqProofs only [rdl, Ex.same, Nat.beq, hi', wb, h50', w1, w2, w3, w4, ws, lt_of_at hx0, look_at hx0, lt_of_at hy0, look_at hy0, dec_nn, Bool.and_self, List.length_set, e1, e2, e3, g1', g2']
            refine ev_aft (sUp _ (i2 + 1) _ (Nat.lt_succ_self _) (by omega) (hsw.sl hs) (by rw [hsw.1]; exact hd) (by rw [hsw.1]; exact hb)) ?_
            simp -implicitDefEqProofs only [rdl, Ex.same, Nat.beq, ws]
            exact q2
          · have g2' : decide (((b - i2 : Nat) : Int) ≥ 2) = false := decide_eq_false (by omega)
            simp only [if_neg g1, if_neg g2]
            obtain ⟨ex, ys, q1, q2⟩ := ih (s + 1) i2 _ (by omega) (by omega) (by omega) (hsw.sl hs) (by rw [hsw.1]; exact hd) (by rw [hsw.1]; exact hb)
            refine ⟨ex, ys, q1, ev_succ ?_⟩
            simp only [l186x0s]
            simp -implicitDefEqProofs only [rdl, Ex.same, Nat.beq, hS]
            refine ev_aft hsc ?_
            simp -implicitDefEqProofs only [rdl, Ex.same, Nat.beq, hi', wb, h50', w1, w2, w3, w4, ws, lt_of_at hx0, look_at hx0, lt_of_at hy0, look_at hy0, dec_nn, Bool.and_self, List.length_set, e1, e2, e3, g1', g2']
            exact q2
theorem f186 {d : Array Row} {a b : Nat} (hs : SL E 3 d.toList) (hd : d.size ≤ 1073741824) (hab : a < b) (hb : b ≤ d.size) :
    Ev fs 186 [.d (.s 1 d.toList), di (a : Nat), di (b : Nat)] ⟨.d (.v (.bool (Sort.partialInsertionSort (upI 0) d a b).2)), [.d (.s 1 (Sort.partialInsertionSort (upI 0) d a b).1.toList)]⟩ := by
  refine Ev.of (af := a186) rfl rfl (Evt.congr (fun d n => a186q ..) ?_)
  have w1 : IntKind.wrap .i64 ((a : Int) + 1) = ((a + 1 : Nat) : Int) := wN (by omega) (by omega)
  simp -implicitDefEqProofs only [rdl, Ex.same, Nat.beq, w1]
  obtain ⟨ex, ys, h1, h2⟩ := pIns hab 5 0 (a + 1) d rfl (Nat.le_refl _) hab hs hd hb
  refine ev_aft h2 ?_
  rcases h1 with ⟨rfl, rfl⟩ | ⟨rfl, rfl, h3⟩
  · simp -implicitDefEqProofs only [rdl, Ex.same, Nat.beq]
    exact Evt.ret
  · simp -implicitDefEqProofs only [rdl, Ex.same, Nat.beq]
    exact Evt.ret' (by rw [show (Sort.partialInsertionSort (upI 0) d a b).2 = false from h3]; rfl)
theorem f191 {n : Nat} (hn : n < 4294967296) : Ev fs 191 [.d (.v (.int .u64 (n : Int)))] (io (Sort.bitsLen n : Nat)) := by
  have hb : Sort.bitsLen n ≤ 32 := (Sort.bitsLen_le_iff n 32).2 (by omega)
  have h0 : decide ((n : Int) ≥ 4294967296) = false := decide_eq_false (by omega)
  have d16 : Int.fdiv (n : Int) (2 ^ 16) = ((n / 2 ^ 16 : Nat) : Int) := by rw [Int.fdiv_eq_ediv_of_nonneg _ (by decide)]; omega
  have d8 : ∀ m : Nat, Int.fdiv (m : Int) (2 ^ 8) = ((m / 2 ^ 8 : Nat) : Int) := fun m => by rw [Int.fdiv_eq_ediv_of_nonneg _ (by decide)]; omega
  have u8 : ∀ m : Nat, m < 256 → IntKind.wrap .u8 (m : Int) = (m : Int) := fun m hm => wrap_u8 (by omega) (by omega)
  have w : ∀ m : Nat, m ≤ 1000 → IntKind.wrap .i64 (m : Int) = (m : Int) := fun m hm => wN rfl (by omega)
  have x16 : IntKind.wrap .i64 ((0 : Int) + 16) = 16 := rfl
  have x8 : IntKind.wrap .i64 ((0 : Int) + 8) = 8 := rfl
  have x24 : IntKind.wrap .i64 ((16 : Int) + 8) = 24 := rfl
  refine Ev.of (af := a191) rfl rfl (Evt.congr (fun d n => a191q ..) ?_)
  simp -implicitDefEqProofs only [rdl, Ex.same, Nat.beq, h0]
  by_cases g16 : n ≥ 65536
  · simp -implicitDefEqProofs only [rdl, Ex.same, Nat.beq, show decide ((n : Int) ≥ 65536) = true from decide_eq_true (by omega), d16]
    have e16 := bitsLen_div (n := n) (j := 16) (by omega)
    by_cases g8 : n / 2 ^ 16 ≥ 256
    · have e8 := bitsLen_div (n := n / 2 ^ 16) (j := 8) g8
      obtain ⟨c, hc, hv⟩ := tab8_ok (i := n / 2 ^ 16 / 2 ^ 8) (by omega)
      simp -implicitDefEqProofs only [rdl, Ex.same, Nat.beq, show decide (((n / 2 ^ 16 : Nat) : Int) ≥ 256) = true from decide_eq_true (by omega), d8, u8 (n / 2 ^ 16 / 2 ^ 8) (by omega), dec_nn, byteAt_at (s := tab8) hc, x16, x24]
      exact ev_byte hc (Evt.ret' (by rw [hv, w _ (by omega), wN (m := Sort.bitsLen n) (by omega) (by omega)]))
    · obtain ⟨c, hc, hv⟩ := tab8_ok (i := n / 2 ^ 16) (by omega)
      simp -implicitDefEqProofs only [rdl, Ex.same, Nat.beq, show decide (((n / 2 ^ 16 : Nat) : Int) ≥ 256) = false from decide_eq_false (by omega), u8 (n / 2 ^ 16) (by omega), dec_nn, x16]
      exact ev_byte hc (Evt.ret' (by rw [hv, w _ (by omega), wN (m := Sort.bitsLen n) (by omega) (by omega)]))
  · simp -implicitDefEqProofs only [rdl, Ex.same, Nat.beq, show decide ((n : Int) ≥ 65536) = false from decide_eq_false (by omega)]
    by_cases g8 : n ≥ 256
    · have e8 := bitsLen_div (n := n) (j := 8) g8
      obtain ⟨c, hc, hv⟩ := tab8_ok (i := n / 2 ^ 8) (by omega)
      simp -implicitDefEqProofs only [rdl, Ex.same, Nat.beq, show decide ((n : Int) ≥ 256) = true from decide_eq_true (by omega), d8, u8 (n / 2 ^ 8) (by omega), dec_nn, x8]
      exact ev_byte hc (Evt.ret' (by rw [hv, w _ (by omega), wN (m := Sort.bitsLen n) (by omega) (by omega)]))
    · obtain ⟨c, hc, hv⟩ := tab8_ok (i := n) (by omega)
      simp -implicitDefEqProofs only [rdl, Ex.same, Nat.beq, show decide ((n : Int) ≥ 256) = false from decide_eq_false (by omega), u8 n (by omega), dec_nn]
      exact ev_byte hc (Evt.ret' (by rw [hv, w _ (by omega), wN (m := Sort.bitsLen n) (by omega) (by omega)]))
theorem f118 {n : Nat} (hn : n < 4294967296) : Ev fs 118 [.d (.v (.int .u64 (n : Int)))] (io (Sort.bitsLen n : Nat)) := by
  refine Ev.of (af := a118) rfl rfl (Evt.congr (fun d n => a118q ..) ?_)
  refine ev_call (f191 hn) ?_
  simp -implicitDefEqProofs only [rdl, Ex.same, Nat.beq]
  exact Evt.ret
theorem f229 {n : Nat} (hn : n < 4294967296) : Ev fs 229 [di (n : Nat)] ⟨.d (.v (.int .u64 ((2 ^ Sort.bitsLen n : Nat) : Int))), []⟩ := by
  have hb : Sort.bitsLen n ≤ 32 := (Sort.bitsLen_le_iff n 32).2 (by omega)
  have wu : IntKind.wrap .u64 (n : Int) = (n : Int) := by rw [wU, Nat.mod_eq_of_lt (by omega)]
  refine Ev.of (af := a229) rfl rfl (Evt.congr (fun d n => a229q ..) ?_)
  simp -implicitDefEqProofs only [rdl, Ex.same, Nat.beq, wu]
  refine ev_call (f118 hn) ?_
  simp -implicitDefEqProofs only [rdl, Ex.same, Nat.beq, dec_nn]
  refine Evt.ret' ?_
  have : shlI .u64 1 (Sort.bitsLen n : Nat) = ((2 ^ Sort.bitsLen n : Nat) : Int) := by
    have h1 := shl_u 1 (Sort.bitsLen n) (by omega)
    have h2 : (UInt64.toNat 1 : Int) = 1 := rfl
    rw [h2] at h1
    rw [h1]
    congr 1
    rw [UInt64.toNat_shiftLeft, UInt64.toNat_ofNat', Nat.shiftLeft_eq]
    have h3 : Sort.bitsLen n % 18446744073709551616 % 64 = Sort.bitsLen n := by omega
    have h4 : 2 ^ Sort.bitsLen n ≤ 2 ^ 32 := Nat.pow_le_pow_right (by omega) hb
    rw [h3]
    have h5 : UInt64.toNat 1 = 1 := rfl
    rw [h5, Nat.one_mul, Nat.mod_eq_of_lt (by omega)]
  rw [this]
theorem f230 (u : UInt64) : Ev fs 230 [.p [.v (.int .u64 (u.toNat : Int))]] ⟨.d (.v (.int .u64 ((Sort.xorNext u).toNat : Int))), [.p [.v (.int .u64 ((Sort.xorNext u).toNat : Int))]]⟩ := by
  refine Ev.of (af := a230) rfl rfl (Evt.congr (fun d n => a230q ..) ?_)
  rw [xor_next]
  exact Evt.ret
theorem bStep {a len md idx : Nat} {r : UInt64} {d : Array Row} {z : Ex × List AV} (hs : SL E 3 d.toList) (hd : d.size ≤ 1073741824) (h8 : 8 ≤ len) (ha : a + len ≤ d.size) (hm : md ≤ 2 * len) (hm0 : 0 < md) (hi : idx < d.size)
    (hle : idx ≤ a + len / 4 * 2 + 1)
    (h : Evt (fun dd m => l183x0 (TabD fs dd) dd m [.o 1 (Sort.breakStep a len md (r, d) idx).2.toList, vi (a : Nat), vi (len : Nat), .b [.v (.int .u64 (((Sort.breakStep a len md (r, d) idx).1.toNat : Int)))], .v (.int .u64 ((md : Nat) : Int)), vi ((idx + 1 : Nat))]) z) : Evt (fun dd m => l183x0 (TabD fs dd) dd m [.o 1 d.toList, vi (a : Nat), vi (len : Nat), .b [.v (.int .u64 ((r.toNat : Int)))], .v (.int .u64 ((md : Nat) : Int)), vi ((idx : Nat))]) z := by
  have w0 : IntKind.wrap .i64 (Int.tdiv (len : Int) 4) = ((len / 4 : Nat) : Int) := by rw [Int.tdiv_eq_ediv_of_nonneg (by omega), wrap_i64 (by omega) (by omega)]; omega
  have w1 : IntKind.wrap .i64 (((len / 4 : Nat) : Int) * 2) = ((len / 4 * 2 : Nat) : Int) := wN (by omega) (by omega)
  have w2 : IntKind.wrap .i64 ((a : Int) + ((len / 4 * 2 : Nat) : Int)) = ((a + len / 4 * 2 : Nat) : Int) := wN (by omega) (by omega)
  have w3 : IntKind.wrap .i64 (((a + len / 4 * 2 : Nat) : Int) + 1) = ((a + len / 4 * 2 + 1 : Nat) : Int) := wN (by omega) (by omega)
  have w4 : IntKind.wrap .u64 (((md : Nat) : Int) - 1) = ((md - 1 : Nat) : Int) := by
    have : ((md : Nat) : Int) - 1 = ((md - 1 : Nat) : Int) := by omega
    rw [this, wU, Nat.mod_eq_of_lt (by omega)]
  have w6 : IntKind.wrap .i64 ((idx : Int) + 1) = ((idx + 1 : Nat) : Int) := wN (by omega) (by omega)
  have hand : (Sort.xorNext r).toNat &&& (md - 1) ≤ md - 1 := Nat.and_le_right
  have w5 := and_u (Sort.xorNext r) (md - 1) (by omega)
  simp only [Sort.breakStep] at h
  generalize hv : (Sort.xorNext r).toNat &&& (md - 1) = v at *
  have w7 : IntKind.wrap .i64 ((v : Nat) : Int) = ((v : Nat) : Int) := wN rfl (by omega)
  refine ev_succ ?_
  simp only [l183x0s]
  simp -implicitDefEqProofs only [rdl, Ex.same, Nat.beq, w0, w1, w2, w3, show decide ((4 : Int) ≠ 0) = true from rfl, show decide ((idx : Int) ≤ ((a + len / 4 * 2 + 1 : Nat) : Int)) = true from decide_eq_true (by omega)]
  refine ev_call (f230 r) ?_
  simp -implicitDefEqProofs only [rdl, Ex.same, Nat.beq, w4, w5, w7]
  by_cases hge : v ≥ len
  · simp only [if_pos hge] at h
    have w8 : IntKind.wrap .i64 (((v : Nat) : Int) - ((len : Nat) : Int)) = ((v - len : Nat) : Int) := wN (by omega) (by omega)
    have w9 : IntKind.wrap .i64 ((a : Int) + ((v - len : Nat) : Int)) = ((a + (v - len) : Nat) : Int) := wN (by omega) (by omega)
    obtain ⟨x, hx⟩ := row_at hs (i := idx) (by omega)
    have hx0 := arr_at (d := d) (i := idx) (by omega)
    rw [hx] at hx0
    obtain ⟨y, hy⟩ := row_at hs (i := a + (v - len)) (by omega)
    have hy0 := arr_at (d := d) (i := a + (v - len)) (by omega)
    rw [hy] at hy0
    have e1 := setD_one (l := d.toList) (q := idx) (c := .v (.int .i64 y)) ⟨_, hx0, rfl⟩
    have e2 := setD_one (l := d.toList.set (idx) [.v (.int .i64 y)]) (q := a + (v - len)) (c := .v (.int .i64 x)) (set_has hy0 rfl)
    have e3 : (d.toList.set (idx) [.v (.int .i64 y)]).set (a + (v - len)) [.v (.int .i64 x)] = (Sort.swp d (idx) (a + (v - len))).toList := by rw [swp_list, hx, hy]
    have hsw := Like.swp (d := d) (i := idx) (j := a + (v - len)) (by omega) (by omega)
    simp -implicitDefEqProofs only [rdl, Ex.same, Nat.beq, show decide (((v : Nat) : Int) ≥ ((len : Nat) : Int)) = true from decide_eq_true (by omega), w8, w9, w6, lt_of_at hx0, look_at hx0, lt_of_at hy0, look_at hy0, dec_nn, Bool.and_self, List.length_set, e1, e2, e3]
    exact h
  · simp only [if_neg hge] at h
    have w9 : IntKind.wrap .i64 ((a : Int) + ((v : Nat) : Int)) = ((a + v : Nat) : Int) := wN (by omega) (by omega)
    obtain ⟨x, hx⟩ := row_at hs (i := idx) (by omega)
    have hx0 := arr_at (d := d) (i := idx) (by omega)
    rw [hx] at hx0
    obtain ⟨y, hy⟩ := row_at hs (i := a + v) (by omega)
    have hy0 := arr_at (d := d) (i := a + v) (by omega)
    rw [hy] at hy0
    have e1 := setD_one (l := d.toList) (q := idx) (c := .v (.int .i64 y)) ⟨_, hx0, rfl⟩
    have e2 := setD_one (l := d.toList.set (idx) [.v (.int .i64 y)]) (q := a + v) (c := .v (.int .i64 x)) (set_has hy0 rfl)
    have e3 : (d.toList.set (idx) [.v (.int .i64 y)]).set (a + v) [.v (.int .i64 x)] = (Sort.swp d (idx) (a + v)).toList := by rw [swp_list, hx, hy]
    have hsw := Like.swp (d := d) (i := idx) (j := a + v) (by omega) (by omega)
    simp -implicitDefEqProofs only [rdl, Ex.same, Nat.beq, show decide (((v : Nat) : Int) ≥ ((len : Nat) : Int)) = false from decide_eq_false (by omega), w9, w6, lt_of_at hx0, look_at hx0, lt_of_at hy0, look_at hy0, dec_nn, Bool.and_self, List.length_set, e1, e2, e3]
    exact h
theorem bs_like {a len md idx : Nat} {st : UInt64 × Array Row} (h8 : 8 ≤ len) (ha : a + len ≤ st.2.size) (hm : md ≤ 2 * len) (hm0 : 0 < md) (hi : idx < st.2.size) : Like st.2 (Sort.breakStep a len md st idx).2 := by
  have hand : (Sort.xorNext st.1).toNat &&& (md - 1) ≤ md - 1 := Nat.and_le_right
  simp only [Sort.breakStep]
  split
  · exact Like.swp hi (by omega)
  · exact Like.swp hi (by omega)
theorem f183 {d : Array Row} {a b : Nat} (hs : SL E 3 d.toList) (hd : d.size ≤ 1073741824) (ha : a ≤ b) (hb : b ≤ d.size) :
    Ev fs 183 [.d (.s 1 d.toList), di (a : Nat), di (b : Nat)] (lentO 1 (Sort.breakPatterns d a b).toList) := by
  refine Ev.of (af := a183) rfl rfl (Evt.congr (fun d n => a183q ..) ?_)
  have wb : IntKind.wrap .i64 ((b : Int) - (a : Int)) = ((b - a : Nat) : Int) := wN (by omega) (by omega)
  simp only [Sort.breakPatterns]
  by_cases h8 : b - a ≥ 8
  · simp only [if_pos h8]
    simp -implicitDefEqProofs only [rdl, Ex.same, Nat.beq, wb, show decide (((b - a : Nat) : Int) ≥ 8) = true from decide_eq_true (by omega)]
    have hp := Sort.two_pow_bitsLen_le (n := b - a) (by omega)
    have hp0 := Nat.two_pow_pos (Sort.bitsLen (b - a))
    refine ev_call (f229 (n := b - a) (by omega)) ?_
    rw [Nat.shiftLeft_eq, Nat.one_mul]
    generalize 2 ^ Sort.bitsLen (b - a) = md at *
    generalize hlen : b - a = len at *
    have w0 : IntKind.wrap .i64 (Int.tdiv (len : Int) 4) = ((len / 4 : Nat) : Int) := by rw [Int.tdiv_eq_ediv_of_nonneg (by omega), wrap_i64 (by omega) (by omega)]; omega
    have w1 : IntKind.wrap .i64 (((len / 4 : Nat) : Int) * 2) = ((len / 4 * 2 : Nat) : Int) := wN (by omega) (by omega)
    have w2 : IntKind.wrap .i64 ((a : Int) + ((len / 4 * 2 : Nat) : Int)) = ((a + len / 4 * 2 : Nat) : Int) := wN (by omega) (by omega)
    have w3 : IntKind.wrap .i64 (((a + len / 4 * 2 : Nat) : Int) - 1) = ((a + len / 4 * 2 - 1 : Nat) : Int) := wN (by omega) (by omega)
    have w4 : IntKind.wrap .u64 ((len : Nat) : Int) = ((UInt64.ofNat len).toNat : Int) := by
      rw [wU, UInt64.toNat_ofNat']
    simp -implicitDefEqProofs only [rdl, Ex.same, Nat.beq, w0, w1, w2, w3, w4, show decide ((4 : Int) ≠ 0) = true from rfl]
    have k1 := bs_like (a := a) (len := len) (md := md) (idx := a + len / 4 * 2 - 1) (st := (UInt64.ofNat len, d)) h8 (by show a + len ≤ d.size; omega) hp hp0 (by show _ < d.size; omega)
    generalize hq1 : Sort.breakStep a len md (UInt64.ofNat len, d) (a + len / 4 * 2 - 1) = q1 at *
    have z1 : q1.2.size = d.size := k1.1
    have k2 := bs_like (a := a) (len := len) (md := md) (idx := a + len / 4 * 2 - 1 + 1) (st := q1) h8 (by omega) hp hp0 (by omega)
    generalize hq2 : Sort.breakStep a len md q1 (a + len / 4 * 2 - 1 + 1) = q2 at *
    have z2 : q2.2.size = d.size := k2.1.trans z1
    have k3 := bs_like (a := a) (len := len) (md := md) (idx := a + len / 4 * 2 - 1 + 2) (st := q2) h8 (by omega) hp hp0 (by omega)
    have hs1 := k1.sl hs
    have hs2 := k2.sl hs1
    have fin : Evt (fun dd m => l183x0 (TabD fs dd) dd m [.o 1 (Sort.breakStep a len md q2 (a + len / 4 * 2 - 1 + 2)).2.toList, vi (a : Nat), vi (len : Nat), .b [.v (.int .u64 (((Sort.breakStep a len md q2 (a + len / 4 * 2 - 1 + 2)).1.toNat : Int)))], .v (.int .u64 ((md : Nat) : Int)), vi ((a + len / 4 * 2 - 1 + 2 + 1 : Nat))]) (.exit 0, [.o 1 (Sort.breakStep a len md q2 (a + len / 4 * 2 - 1 + 2)).2.toList]) := by
      have w5 : IntKind.wrap .i64 (((a + len / 4 * 2 : Nat) : Int) + 1) = ((a + len / 4 * 2 + 1 : Nat) : Int) := wN (by omega) (by omega)
      refine ev_succ ?_
      simp only [l183x0s]
      simp -implicitDefEqProofs only [rdl, Ex.same, Nat.beq, w0, w1, w2, w5, show decide ((4 : Int) ≠ 0) = true from rfl, show decide (((a + len / 4 * 2 - 1 + 2 + 1 : Nat) : Int) ≤ ((a + len / 4 * 2 + 1 : Nat) : Int)) = false from decide_eq_false (by omega)]
      exact Evt.ret
    have s3 := bStep (a := a) (len := len) (md := md) (idx := a + len / 4 * 2 - 1 + 2) (r := q2.1) (d := q2.2) hs2 (by omega) h8 (by omega) hp hp0 (by omega) (by omega) fin
    have s2 := bStep (a := a) (len := len) (md := md) (idx := a + len / 4 * 2 - 1 + 1) (r := q1.1) (d := q1.2) hs1 (by omega) h8 (by omega) hp hp0 (by omega) (by omega) (by rw [show (q1.1, q1.2) = q1 from rfl, hq2]; exact s3)
    have s1 := bStep (a := a) (len := len) (md := md) (idx := a + len / 4 * 2 - 1) (r := UInt64.ofNat len) (d := d) hs hd h8 (by omega) hp hp0 (by omega) (by omega) (by rw [hq1]; exact s2)
    refine ev_aft s1 ?_
    simp -implicitDefEqProofs only [rdl, Ex.same, Nat.beq]
    exact Evt.ret
  · simp only [if_neg h8]
    simp -implicitDefEqProofs only [rdl, Ex.same, Nat.beq, wb, show decide (((b - a : Nat) : Int) ≥ 8) = false from decide_eq_false (by omega)]
    exact Evt.ret
theorem f256 {d : Array Row} {a b w : Nat} (hs : SL E 3 d.toList) (ha : a < d.size) (hb : b < d.size) (hw : w ≤ 1000) :
    Ev fs 256 [.d (.s 1 d.toList), di (a : Nat), di (b : Nat), .p [.v (.int .i64 (w : Nat))]] ⟨.t [di (Sort.order2 (upI 0) d a b w).1, di (Sort.order2 (upI 0) d a b w).2.1], [.p [.v (.int .i64 ((Sort.order2 (upI 0) d a b w).2.2 : Nat))]]⟩ := by
  obtain ⟨x, hx⟩ := row_at hs (i := a) (by omega)
  have hx0 := arr_at (d := d) (i := a) (by omega)
  rw [hx] at hx0
  obtain ⟨y, hy⟩ := row_at hs (i := b) (by omega)
  have hy0 := arr_at (d := d) (i := b) (by omega)
  rw [hy] at hy0
  have w1 : IntKind.wrap .i64 ((w : Int) + 1) = ((w + 1 : Nat) : Int) := wN (by omega) (by omega)
  refine Ev.of (af := a256) rfl rfl (Evt.congr (fun d n => a256q ..) ?_)
  simp -implicitDefEqProofs only [rdl, Ex.same, Nat.beq, dec_nn, look_at hx0, look_at hy0, w1]
  refine ev_call (f187 y x) ?_
  simp -implicitDefEqProofs only [rdl, Ex.same, Nat.beq]
  unfold Sort.order2
  rw [up_row hy hx]
  refine ev_if (fun hc => ?_) (fun hc => ?_)
  · rw [if_pos hc]; exact Evt.ret
  · rw [if_neg (by rw [hc]; simp)]; exact Evt.ret
theorem ord2_lt {d : Array Row} {a b w n : Nat} (ha : a < n) (hb : b < n) : (Sort.order2 (upI 0) d a b w).1 < n ∧ (Sort.order2 (upI 0) d a b w).2.1 < n ∧ (Sort.order2 (upI 0) d a b w).2.2 ≤ w + 1 := by
  unfold Sort.order2
  split
  · exact ⟨hb, ha, Nat.le_refl _⟩
  · exact ⟨ha, hb, Nat.le_succ _⟩
theorem f232 {d : Array Row} {a b c w : Nat} (hs : SL E 3 d.toList) (ha : a < d.size) (hb : b < d.size) (hc : c < d.size) (hw : w ≤ 900) :
    Ev fs 232 [.d (.s 1 d.toList), di (a : Nat), di (b : Nat), di (c : Nat), .p [.v (.int .i64 (w : Nat))]] ⟨di (Sort.median (upI 0) d a b c w).1, [.p [.v (.int .i64 ((Sort.median (upI 0) d a b c w).2 : Nat))]]⟩ := by
  have l1 := ord2_lt (d := d) (w := w) ha hb
  have l2 := ord2_lt (d := d) (w := (Sort.order2 (upI 0) d a b w).2.2) l1.2.1 hc
  refine Ev.of (af := a232) rfl rfl (Evt.congr (fun d n => a232q ..) ?_)
  refine ev_call (f256 hs ha hb (by omega)) ?_
  simp -implicitDefEqProofs only [rdl, Ex.same, Nat.beq]
  refine ev_call (f256 hs l1.2.1 hc (by omega)) ?_
  simp -implicitDefEqProofs only [rdl, Ex.same, Nat.beq]
  refine ev_call (f256 hs l1.1 l2.1 (by omega)) ?_
  simp -implicitDefEqProofs only [rdl, Ex.same, Nat.beq]
  exact Evt.ret
theorem med_le {d : Array Row} {a b c w : Nat} : (Sort.median (upI 0) d a b c w).2 ≤ w + 3 := by
  have l1 := ord2_lt (d := d) (a := a) (b := b) (w := w) (n := a + b + 1) (by omega) (by omega)
  have l2 := ord2_lt (d := d) (a := (Sort.order2 (upI 0) d a b w).2.1) (b := c) (w := (Sort.order2 (upI 0) d a b w).2.2) (n := (Sort.order2 (upI 0) d a b w).2.1 + c + 1) (by omega) (by omega)
  have l3 := ord2_lt (d := d) (a := (Sort.order2 (upI 0) d a b w).1) (b := (Sort.order2 (upI 0) d (Sort.order2 (upI 0) d a b w).2.1 c (Sort.order2 (upI 0) d a b w).2.2).1) (w := (Sort.order2 (upI 0) d (Sort.order2 (upI 0) d a b w).2.1 c (Sort.order2 (upI 0) d a b w).2.2).2.2) (n := (Sort.order2 (upI 0) d a b w).1 + (Sort.order2 (upI 0) d (Sort.order2 (upI 0) d a b w).2.1 c (Sort.order2 (upI 0) d a b w).2.2).1 + 1) (by omega) (by omega)
  have : (Sort.median (upI 0) d a b c w).2 = (Sort.order2 (upI 0) d (Sort.order2 (upI 0) d a b w).1 (Sort.order2 (upI 0) d (Sort.order2 (upI 0) d a b w).2.1 c (Sort.order2 (upI 0) d a b w).2.2).1 (Sort.order2 (upI 0) d (Sort.order2 (upI 0) d a b w).2.1 c (Sort.order2 (upI 0) d a b w).2.2).2.2).2.2 := rfl
  rw [this]
  omega
theorem f231 {d : Array Row} {a w : Nat} (hs : SL E 3 d.toList) (h1 : 1 ≤ a) (ha : a + 1 < d.size) (hd : d.size ≤ 1073741824) (hw : w ≤ 900) :
    Ev fs 231 [.d (.s 1 d.toList), di (a : Nat), .p [.v (.int .i64 (w : Nat))]] ⟨di (Sort.medianAdjacent (upI 0) d a w).1, [.p [.v (.int .i64 ((Sort.medianAdjacent (upI 0) d a w).2 : Nat))]]⟩ := by
  have w1 : IntKind.wrap .i64 ((a : Int) - 1) = ((a - 1 : Nat) : Int) := wN (by omega) (by omega)
  have w2 : IntKind.wrap .i64 ((a : Int) + 1) = ((a + 1 : Nat) : Int) := wN (by omega) (by omega)
  refine Ev.of (af := a231) rfl rfl (Evt.congr (fun d n => a231q ..) ?_)
  simp -implicitDefEqProofs only [rdl, Ex.same, Nat.beq, w1, w2]
  refine ev_call (f232 (a := a - 1) (b := a) (c := a + 1) hs (by omega) (by omega) (by omega) hw) ?_
  simp -implicitDefEqProofs only [rdl, Ex.same, Nat.beq]
  exact Evt.ret
def hI : Sort.Hint → Int
  | .unknown => 0
  | .increasing => 1
  | .decreasing => 2
theorem hint_end {R : Type} {p : Int} {n : Nat} {z : R} {K : Int → Option R} (h : Evt (fun _ _ => K (hI (if n = 0 then .increasing else if n = 12 then .decreasing else .unknown))) z) :
    Evt (fun _ _ => bif ((n : Int) == 0) then K 1 else (bif ((n : Int) == 12) then K 2 else K 0)) z := by
  by_cases h0 : n = 0
  · subst h0; exact h
  · have e0 : ((n : Int) == 0) = false := by simp; omega
    rw [if_neg h0] at h
    simp only [e0, cond_false]
    by_cases h1 : n = 12
    · subst h1; exact h
    · have e1 : ((n : Int) == 12) = false := by simp; omega
      rw [if_neg h1] at h
      simp only [e1, cond_false]
      exact h
theorem f184 {d : Array Row} {a b : Nat} (hs : SL E 3 d.toList) (hd : d.size ≤ 1073741824) (ha : a < b) (hb : b ≤ d.size) :
    Ev fs 184 [.d (.s 1 d.toList), di (a : Nat), di (b : Nat)] ⟨.t [di (Sort.choosePivot (upI 0) d a b).1, di (hI (Sort.choosePivot (upI 0) d a b).2)], []⟩ := by
  refine Ev.of (af := a184) rfl rfl (Evt.congr (fun d n => a184q ..) ?_)
  have wb : IntKind.wrap .i64 ((b : Int) - (a : Int)) = ((b - a : Nat) : Int) := wN (by omega) (by omega)
  have w0 : IntKind.wrap .i64 (Int.tdiv ((b - a : Nat) : Int) 4) = (((b - a) / 4 : Nat) : Int) := by rw [Int.tdiv_eq_ediv_of_nonneg (by omega), wrap_i64 (by omega) (by omega)]; omega
  have wk : ∀ k : Nat, k ≤ 3 → IntKind.wrap .i64 ((((b - a) / 4 : Nat) : Int) * (k : Int)) = (((b - a) / 4 * k : Nat) : Int) := fun k hk => by
    have : (b - a) / 4 * k ≤ (b - a) / 4 * 3 := Nat.mul_le_mul_left _ hk
    exact wN (by push_cast; rfl) (by omega)
  have wa : ∀ k : Nat, k ≤ 3 → IntKind.wrap .i64 ((a : Int) + (((b - a) / 4 * k : Nat) : Int)) = ((a + (b - a) / 4 * k : Nat) : Int) := fun k hk => by
    have : (b - a) / 4 * k ≤ (b - a) / 4 * 3 := Nat.mul_le_mul_left _ hk
    exact wN (by push_cast; rfl) (by omega)
  have w1 := wk 1 (by omega)
  have w2 := wk 2 (by omega)
  have w3 := wk 3 (by omega)
  simp only [Int.cast_ofNat_Int, Int.natCast_one] at w1 w2 w3
  simp -implicitDefEqProofs only [rdl, Ex.same, Nat.beq, wb, w0, w1, w2, w3, wa 1 (by omega), wa 2 (by omega), wa 3 (by omega), show decide ((4 : Int) ≠ 0) = true from rfl]
  simp only [Sort.choosePivot]
  by_cases h8 : b - a ≥ 8
  · simp only [if_pos h8]
    simp -implicitDefEqProofs only [rdl, Ex.same, Nat.beq, show decide (((b - a : Nat) : Int) ≥ 8) = true from decide_eq_true (by omega)]
    by_cases h50 : b - a ≥ 50
    · simp only [if_pos h50]
      simp -implicitDefEqProofs only [rdl, Ex.same, Nat.beq, show decide (((b - a : Nat) : Int) ≥ 50) = true from decide_eq_true (by omega)]
      have m1 := Sort.medianAdjacent_mem (upI 0) d (a + (b - a) / 4 * 1) 0
      have k1 : (Sort.medianAdjacent (upI 0) d (a + (b - a) / 4 * 1) 0).2 ≤ 3 := med_le
      refine ev_call (f231 (a := a + (b - a) / 4 * 1) (w := 0) hs (by omega) (by omega) hd (by omega)) ?_
      simp -implicitDefEqProofs only [rdl, Ex.same, Nat.beq]
      generalize Sort.medianAdjacent (upI 0) d (a + (b - a) / 4 * 1) 0 = ri at *
      have m2 := Sort.medianAdjacent_mem (upI 0) d (a + (b - a) / 4 * 2) ri.2
      have k2 : (Sort.medianAdjacent (upI 0) d (a + (b - a) / 4 * 2) ri.2).2 ≤ ri.2 + 3 := med_le
      refine ev_call (f231 (a := a + (b - a) / 4 * 2) (w := ri.2) hs (by omega) (by omega) hd (by omega)) ?_
      simp -implicitDefEqProofs only [rdl, Ex.same, Nat.beq]
      generalize Sort.medianAdjacent (upI 0) d (a + (b - a) / 4 * 2) ri.2 = rj at *
      have m3 := Sort.medianAdjacent_mem (upI 0) d (a + (b - a) / 4 * 3) rj.2
      have k3 : (Sort.medianAdjacent (upI 0) d (a + (b - a) / 4 * 3) rj.2).2 ≤ rj.2 + 3 := med_le
      refine ev_call (f231 (a := a + (b - a) / 4 * 3) (w := rj.2) hs (by omega) (by omega) hd (by omega)) ?_
      simp -implicitDefEqProofs only [rdl, Ex.same, Nat.beq]
      generalize Sort.medianAdjacent (upI 0) d (a + (b - a) / 4 * 3) rj.2 = rk at *
      refine ev_call (f232 (a := ri.1) (b := rj.1) (c := rk.1) (w := rk.2) hs (by omega) (by omega) (by omega) (by omega)) ?_
      simp -implicitDefEqProofs only [rdl, Ex.same, Nat.beq]
      exact hint_end (p := 0) (K := fun h => (some ⟨.t [di (Sort.median (upI 0) d ri.1 rj.1 rk.1 rk.2).1, di h], []⟩ : Option Out)) Evt.ret
    · simp only [if_neg h50]
      simp -implicitDefEqProofs only [rdl, Ex.same, Nat.beq, show decide (((b - a : Nat) : Int) ≥ 50) = false from decide_eq_false (by omega)]
      refine ev_call (f232 (a := a + (b - a) / 4 * 1) (b := a + (b - a) / 4 * 2) (c := a + (b - a) / 4 * 3) (w := 0) hs (by omega) (by omega) (by omega) (by omega)) ?_
      simp -implicitDefEqProofs only [rdl, Ex.same, Nat.beq]
      exact hint_end (p := 0) (K := fun h => (some ⟨.t [di (Sort.median (upI 0) d (a + (b - a) / 4 * 1) (a + (b - a) / 4 * 2) (a + (b - a) / 4 * 3) 0).1, di h], []⟩ : Option Out)) Evt.ret
  · simp only [if_neg h8]
    simp -implicitDefEqProofs only [rdl, Ex.same, Nat.beq, show decide (((b - a : Nat) : Int) ≥ 8) = false from decide_eq_false (by omega), show ((0 : Int) == 0) = true from rfl]
    exact Evt.ret
noncomputable def brkC {R : Type} (T : Table) (c : Bool) (l : Rows) (a b lim : Int) (K : Rows → Int → Option R) : Option R := bif c then (lentC T 183 1 [.d (.s 1 l), di a, di b] fun l => K l (wi (lim - 1))) else K l lim
noncomputable def pivC {R : Type} (T : Table) (l : Rows) (a b : Int) (K : Int → Int → Option R) : Option R :=
  callT T 184 [.d (.s 1 l), di a, di b] fun o => oT o.res fun is => tst (Nat.beq is.length 2) (nth is 0 fun i => oD i fun d => dI .i64 d fun p => nth is 1 fun i => oD i fun d => dI .i64 d fun h => K p h)
noncomputable def revC {R : Type} (T : Table) (l : Rows) (a b p h : Int) (K : Rows → Int → Int → Option R) : Option R :=
  bif (h == 2) then (lentC T 185 1 [.d (.s 1 l), di a, di b] fun l => K l (wi (wi (b - 1) - wi (p - a))) 1) else K l p h
noncomputable def parC {R : Type} (T : Table) (wb wp : Bool) (h : Int) (l : Rows) (a b : Int) (D K : Rows → Option R) : Option R :=
  bif wb == true then (bif wp == true then (bif (h == 1) then (callT T 186 [.d (.s 1 l), di a, di b] fun o => nth o.back 0 fun i => oD i fun d => dL 1 d fun l =>  oD o.res fun d => dB d fun f => bif f then D l else K l) else K l) else K l) else K l
noncomputable def eqC {R : Type} (T : Table) (l : Rows) (a p : Int) (X P : Option R) : Option R :=
  bif (decide (a > 0)) == true then (tst (decide (0 ≤ wi (a - 1)) && decide (Int.toNat (wi (a - 1)) < l.length)) (look l (Int.toNat (wi (a - 1))) fun r => cI .i64 r 0 fun x => tst (decide (0 ≤ p) && decide (Int.toNat p < l.length)) (look l (Int.toNat p) fun r => cI .i64 r 0 fun y =>
    callT T 187 [di x, di y] fun o => oD o.res fun d => dB d fun f => bif (!f) then X else P))) else P
noncomputable def prtE {R : Type} (T : Table) (l : Rows) (a b p : Int) (K : Rows → Int → Option R) : Option R :=
  callT T 188 [.d (.s 1 l), di a, di b, di p] fun o => nth o.back 0 fun i => oD i fun d => dL 1 d fun l =>  oD o.res fun d => dI .i64 d fun m => K l m
noncomputable def prtC {R : Type} (T : Table) (l : Rows) (a b p : Int) (K : Rows → Int → Bool → Option R) : Option R :=
  callT T 189 [.d (.s 1 l), di a, di b, di p] fun o => nth o.back 0 fun i => oD i fun d => dL 1 d fun l =>  oT o.res fun is => tst (Nat.beq is.length 2) (nth is 0 fun i => oD i fun d => dI .i64 d fun m => nth is 1 fun i => oD i fun d => dB d fun ap => K l m ap)
noncomputable def halfC {R : Type} (T : Table) (l : Rows) (a b m lim : Int) (ap : Bool) (K : Rows → Int → Int → Bool → Option R) : Option R :=
  tst (decide ((8 : Int) ≠ 0)) (bif (decide (wi (m - a) < wi (b - m))) then (lentC T 117 1 [.d (.s 1 l), di a, di m, di lim] fun l => K l (wi (m + 1)) b (decide (wi (m - a) ≥ wi (Int.tdiv (wi (b - a)) 8))))
    else (lentC T 117 1 [.d (.s 1 l), di (wi (m + 1)), di b, di lim] fun l => K l a m (decide (wi (b - m) ≥ wi (Int.tdiv (wi (b - a)) 8)))))
theorem pdqS (T : Table) (k n : Nat) (l : Rows) (a b lim : Int) (wb wp : Bool) : l117x0 T k (n + 1) [.o 1 l, vi a, vi b, vi lim, .v (.bool wb), .v (.bool wp)] =
    bif (decide (wi (b - a) ≤ 12)) then (lentC T 181 1 [.d (.s 1 l), di a, di b] fun l => some (.ret, [.o 1 l])) else (bif (lim == 0) then (lentC T 182 1 [.d (.s 1 l), di a, di b] fun l => some (.ret, [.o 1 l])) else (
      brkC T (!wb) l a b lim fun l lim => pivC T l a b fun p h => revC T l a b p h fun l p h => parC T wb wp h l a b (fun l => some (.ret, [.o 1 l])) fun l =>
        eqC T l a p (prtE T l a b p fun l m => l117x0 T k n [.o 1 l, vi m, vi b, vi lim, .v (.bool wb), .v (.bool wp)])
          (prtC T l a b p fun l m ap => halfC T l a b m lim ap fun l a b wb => l117x0 T k n [.o 1 l, vi a, vi b, vi lim, .v (.bool wb), .v (.bool ap)]))) := by kernel_rfl
section
variable {R : Type} {z : R} {d : Array Row} {a b : Nat}
theorem ev_brk {lim : Nat} {wb : Bool} (hs : SL E 3 d.toList) (hd : d.size ≤ 1073741824) (ha : a ≤ b) (hb : b ≤ d.size) (hl : 0 < lim) (hl' : lim ≤ 1073741824) {K : Nat → Nat → Rows → Int → Option R}
    (h : Evt (fun dd m => K dd m (if !wb then Sort.breakPatterns d a b else d).toList ((if !wb then lim - 1 else lim : Nat) : Int)) z) : Evt (fun dd m => brkC (TabD fs dd) (!wb) d.toList (a : Nat) (b : Nat) (lim : Nat) (K dd m)) z := by
  simp only [brkC]
  cases wb with
  | false =>
    simp only [Bool.not_false, cond_true]
    refine ev_lent (f183 hs hd ha hb) ?_
    have w : wi ((lim : Int) - 1) = ((lim - 1 : Nat) : Int) := wN (by omega) (by omega)
    rw [w]
    simpa using h
  | true => simpa using h
theorem ev_piv (hs : SL E 3 d.toList) (hd : d.size ≤ 1073741824) (ha : a < b) (hb : b ≤ d.size) {K : Nat → Nat → Int → Int → Option R}
    (h : Evt (fun dd m => K dd m ((Sort.choosePivot (upI 0) d a b).1 : Nat) (hI (Sort.choosePivot (upI 0) d a b).2)) z) : Evt (fun dd m => pivC (TabD fs dd) d.toList (a : Nat) (b : Nat) (K dd m)) z := by
  simp only [pivC]
  refine ev_call (f184 hs hd ha hb) ?_
  simp -implicitDefEqProofs only [rdl, Ex.same, Nat.beq]
  exact h
theorem ev_rev (hs : SL E 3 d.toList) (hd : d.size ≤ 1073741824) (ha : a < b) (hb : b ≤ d.size) {p : Nat} {c : Sort.Hint} (hp : a ≤ p) (hp' : p < b) {K : Nat → Nat → Rows → Int → Int → Option R}
    (h : Evt (fun dd m => K dd m (if c = .decreasing then Sort.reverseRange d a b else d).toList ((if c = .decreasing then (b - 1) - (p - a) else p : Nat) : Int) (hI (if c = .decreasing then .increasing else c))) z) :
    Evt (fun dd m => revC (TabD fs dd) d.toList (a : Nat) (b : Nat) (p : Nat) (hI c) (K dd m)) z := by
  simp only [revC]
  cases c with
  | decreasing =>
    simp only [hI, show ((2 : Int) == 2) = true from rfl, cond_true]
    refine ev_lent (f185 hs ha hb hd) ?_
    have w1 : wi ((b : Int) - 1) = ((b - 1 : Nat) : Int) := wN (by omega) (by omega)
    have w2 : wi ((p : Int) - (a : Int)) = ((p - a : Nat) : Int) := wN (by omega) (by omega)
    have w3 : wi (((b - 1 : Nat) : Int) - ((p - a : Nat) : Int)) = ((b - 1 - (p - a) : Nat) : Int) := wN (by omega) (by omega)
    rw [w1, w2, w3]
    simpa [hI] using h
  | increasing => simpa [hI] using h
  | unknown => simpa [hI] using h
theorem ev_par (hs : SL E 3 d.toList) (hd : d.size ≤ 1073741824) (ha : a < b) (hb : b ≤ d.size) {wb wp : Bool} {c : Sort.Hint} {D K : Nat → Nat → Rows → Option R} {pi : Array Row × Bool}
    (hpi : pi = if wb && wp && c = .increasing then Sort.partialInsertionSort (upI 0) d a b else (d, false))
    (h1 : pi.2 = true → Evt (fun dd m => D dd m pi.1.toList) z) (h2 : pi.2 = false → Evt (fun dd m => K dd m pi.1.toList) z) :
    Evt (fun dd m => parC (TabD fs dd) wb wp (hI c) d.toList (a : Nat) (b : Nat) (D dd m) (K dd m)) z := by
  subst hpi
  simp only [parC]
  cases wb with
  | false => simpa using h2
  | true => cases wp with
    | false => simpa using h2
    | true => cases c with
      | increasing =>
        simp only [hI, show ((1 : Int) == 1) = true from rfl, beqTT, cond_true]
        refine ev_call (f186 hs hd ha hb) ?_
        simp -implicitDefEqProofs only [rdl, Ex.same, Nat.beq]
        simp only [Bool.and_self, decide_true, if_true] at h1 h2
        exact ev_if h1 h2
      | decreasing => simpa [hI] using h2
      | unknown => simpa [hI] using h2
theorem ev_eqC (hs : SL E 3 d.toList) (hd : d.size ≤ 1073741824) {p : Nat} (ha : a ≤ d.size) (hp : p < d.size) {X P : Nat → Nat → Option R}
    (h1 : (decide (a > 0) && !upI 0 d[a - 1]! d[p]!) = true → Evt X z) (h2 : (decide (a > 0) && !upI 0 d[a - 1]! d[p]!) = false → Evt P z) :
    Evt (fun dd m => eqC (TabD fs dd) d.toList (a : Nat) (p : Nat) (X dd m) (P dd m)) z := by
  simp only [eqC]
  by_cases h0 : a > 0
  · have w1 : wi ((a : Int) - 1) = ((a - 1 : Nat) : Int) := wN (by omega) (by omega)
    obtain ⟨x, hx⟩ := row_at hs (i := a - 1) (by omega)
    have hx0 := arr_at (d := d) (i := a - 1) (by omega)
    rw [hx] at hx0
    obtain ⟨y, hy⟩ := row_at hs (i := p) (by omega)
    have hy0 := arr_at (d := d) (i := p) (by omega)
    rw [hy] at hy0
    simp -implicitDefEqProofs only [rdl, Ex.same, Nat.beq, show decide ((a : Int) > 0) = true from decide_eq_true (by omega), w1, lt_of_at hx0, look_at hx0, lt_of_at hy0, look_at hy0, dec_nn, Bool.and_self, List.length_set]
    refine ev_call (f187 x y) ?_
    simp -implicitDefEqProofs only [rdl, Ex.same, Nat.beq]
    rw [up_row hx hy] at h1 h2
    simp only [h0, decide_true, Bool.true_and] at h1 h2
    exact ev_if h1 h2
  · simp -implicitDefEqProofs only [rdl, Ex.same, Nat.beq, show decide ((a : Int) > 0) = false from decide_eq_false (by omega)]
    exact h2 (by simp [h0])
theorem ev_prtE (hs : SL E 3 d.toList) (hd : d.size ≤ 1073741824) {p : Nat} (h1 : a ≤ p) (h2 : p < b) (hb : b ≤ d.size) {K : Nat → Nat → Rows → Int → Option R}
    (h : Evt (fun dd m => K dd m (Sort.partitionEqual (upI 0) d a b p).2.toList ((Sort.partitionEqual (upI 0) d a b p).1 : Nat)) z) : Evt (fun dd m => prtE (TabD fs dd) d.toList (a : Nat) (b : Nat) (p : Nat) (K dd m)) z := by
  simp only [prtE]
  refine ev_call (f188 hs hd h1 h2 hb) ?_
  simp -implicitDefEqProofs only [rdl, Ex.same, Nat.beq]
  exact h
theorem ev_prtC (hs : SL E 3 d.toList) (hd : d.size ≤ 1073741824) {p : Nat} (h1 : a ≤ p) (h2 : p < b) (hb : b ≤ d.size) {K : Nat → Nat → Rows → Int → Bool → Option R}
    (h : Evt (fun dd m => K dd m (Sort.partition (upI 0) d a b p).2.2.toList ((Sort.partition (upI 0) d a b p).1 : Nat) (Sort.partition (upI 0) d a b p).2.1) z) : Evt (fun dd m => prtC (TabD fs dd) d.toList (a : Nat) (b : Nat) (p : Nat) (K dd m)) z := by
  simp only [prtC]
  refine ev_call (f189 hs hd h1 h2 hb) ?_
  simp -implicitDefEqProofs only [rdl, Ex.same, Nat.beq]
  exact h
end
theorem pdqF {d : Array Row} {a b lim : Nat} (h : Evt (fun dd m => l117x0 (TabD fs dd) dd m [.o 1 d.toList, vi (a : Nat), vi (b : Nat), vi (lim : Nat), .v (.bool true), .v (.bool true)]) (.ret, [.o 1 (Sort.pdq (upI 0) d a b lim true true).toList])) :
    Ev fs 117 [.d (.s 1 d.toList), di (a : Nat), di (b : Nat), di (lim : Nat)] (lentO 1 (Sort.pdq (upI 0) d a b lim true true).toList) := by
  refine Ev.of (af := a117) rfl rfl (Evt.congr (fun d n => a117q ..) ?_)
  refine ev_aft h ?_
  simp -implicitDefEqProofs only [rdl, Ex.same, Nat.beq]
  exact Evt.ret
theorem pdqL : ∀ (n a b lim : Nat) (wb wp : Bool) (d : Array Row), b - a < n → a ≤ b → b ≤ d.size → SL E 3 d.toList → d.size ≤ 1073741824 → lim ≤ 1073741824 → Sort.Below (upI 0) a b d →
    Evt (fun dd m => l117x0 (TabD fs dd) dd m [.o 1 d.toList, vi (a : Nat), vi (b : Nat), vi (lim : Nat), .v (.bool wb), .v (.bool wp)]) (.ret, [.o 1 (Sort.pdq (upI 0) d a b lim wb wp).toList]) := by
  intro n
  induction n with
  | zero => intro a b lim wb wp d h; omega
  | succ n ih =>
    intro a b lim wb wp d hn hab hb hs hd hlim hB
    have w : wi ((b : Int) - (a : Int)) = ((b - a : Nat) : Int) := wN (by omega) (by omega)
    refine ev_succ (Evt.congr (fun dd m => pdqS ..) ?_)
    by_cases h12 : b - a ≤ 12
    · rw [Sort.pdq, if_pos h12]
      simp -implicitDefEqProofs only [rdl, Ex.same, Nat.beq, w, show decide (((b - a : Nat) : Int) ≤ 12) = true from decide_eq_true (by omega)]
      exact ev_lent (f181 hs hab hb hd) Evt.ret
    · by_cases hl : lim = 0
      · subst hl
        rw [Sort.pdq, if_neg h12, if_pos rfl]
        simp -implicitDefEqProofs only [rdl, Ex.same, Nat.beq, w, show decide (((b - a : Nat) : Int) ≤ 12) = false from decide_eq_false (by omega), show (((0 : Nat) : Int) == 0) = true from rfl]
        exact ev_lent (f182 hs (by omega) hb hd) Evt.ret
      · simp -implicitDefEqProofs only [rdl, Ex.same, Nat.beq, w, show decide (((b - a : Nat) : Int) ≤ 12) = false from decide_eq_false (by omega), show ((lim : Int) == 0) = false from by simp; omega]
        obtain ⟨d1, e1⟩ : ∃ d1, d1 = if !wb then Sort.breakPatterns d a b else d := ⟨_, rfl⟩
        obtain ⟨lim1, e2⟩ : ∃ lim1, lim1 = if !wb then lim - 1 else lim := ⟨_, rfl⟩
        have hl1 : lim1 ≤ 1073741824 := by rw [e2]; split <;> omega
        have p1 : Sort.PermIn a b d d1 := by
          rw [e1]
          split
          · exact Sort.breakPatterns_holds d a b hab hb
          · exact Sort.permIn_refl d a b
        have B1 := Sort.Below.perm hB hb p1
        have k1 := Like.perm hb p1
        have z1 := k1.1
        have hs1 := k1.sl hs
        refine ev_brk hs hd hab hb (by omega) hlim ?_
        rw [← e1, ← e2]
        refine ev_piv hs1 (by omega) (by omega) (by omega) ?_
        have hc := Sort.choosePivot_holds (upI 0) d1 a b (by omega)
        obtain ⟨c, e3⟩ : ∃ c, c = Sort.choosePivot (upI 0) d1 a b := ⟨_, rfl⟩
        rw [← e3] at hc ⊢
        refine ev_rev hs1 (by omega) (by omega) (by omega) hc.1 hc.2 ?_
        obtain ⟨d2, e4⟩ : ∃ d2, d2 = if c.2 = .decreasing then Sort.reverseRange d1 a b else d1 := ⟨_, rfl⟩
        obtain ⟨p, e5⟩ : ∃ p, p = if c.2 = .decreasing then (b - 1) - (c.1 - a) else c.1 := ⟨_, rfl⟩
        obtain ⟨hint, e6⟩ : ∃ hint, hint = if c.2 = .decreasing then Sort.Hint.increasing else c.2 := ⟨_, rfl⟩
        rw [← e4, ← e5, ← e6]
        have hp : a ≤ p ∧ p < b := by rw [e5]; split <;> omega
        have p2 : Sort.PermIn a b d1 d2 := by
          rw [e4]
          split
          · exact Sort.reverseRange_holds d1 a b hab (by omega)
          · exact Sort.permIn_refl d1 a b
        have B2 := Sort.Below.perm B1 (by omega) p2
        have k2 := Like.perm (by omega) p2
        have z2 := k2.1
        have hs2 := k2.sl hs1
        obtain ⟨pi, e7⟩ : ∃ pi, pi = if wb && wp && hint = .increasing then Sort.partialInsertionSort (upI 0) d2 a b else (d2, false) := ⟨_, rfl⟩
        rw [pdq_eq h12 hl e1 e2 e3 e4 e5 e6 e7]
        have p3 : Sort.PermIn a b d2 pi.1 := by
          rw [e7]
          split
          · exact (Sort.partialInsertionSort_holds swoI d2 a b (by omega) (by omega) B2).1
          · exact Sort.permIn_refl d2 a b
        have B3 := Sort.Below.perm B2 (by omega) p3
        have k3 := Like.perm (by omega) p3
        have z3 := k3.1
        have hs3 := k3.sl hs2
        refine ev_par hs2 (by omega) (by omega) (by omega) e7 (fun g => ?_) (fun g => ?_)
        · rw [if_pos g]; exact Evt.ret
        · rw [if_neg (by rw [g]; simp)]
          generalize pi.1 = d3 at *
          clear e7 e6 e5 e4 e3 e2 e1 p1 p2 p3 B1 B2 k1 k2 k3
          refine ev_eqC hs3 (by omega) (by omega) (by omega) (fun g => ?_) (fun g => ?_)
          · rw [if_pos g]
            simp only [Bool.and_eq_true, decide_eq_true_eq, Bool.not_eq_true'] at g
            have hpre : ∀ i, a ≤ i → i < b → upI 0 d3[i]! d3[p]! = false := fun i h1 h2 => by
              rcases B3 with h | h
              · omega
              · exact swoI.ntrans _ _ _ (h i h1 h2) g.2
            obtain ⟨q1, q2, q3, q4, q5⟩ := Sort.partitionEqual_holds (upI 0) swoI d3 a b p hp.1 hp.2 (by omega) hpre
            refine ev_prtE hs3 (by omega) hp.1 hp.2 (by omega) ?_
            rw [dif_pos ⟨q1, q2⟩]
            generalize (Sort.partitionEqual (upI 0) d3 a b p).1 = mid at *
            generalize (Sort.partitionEqual (upI 0) d3 a b p).2 = d4 at *
            have k4 := Like.perm (by omega) q3
            refine ih mid b lim1 wb wp d4 (by omega) q2 (by rw [k4.1]; omega) (k4.sl hs3) (by rw [k4.1]; omega) hl1 (.inr fun i h1 h2 => ?_)
            have a1 := q4 (mid - 1) (by omega) (by omega)
            have a2 := q5 i h1 h2
            exact swoI.ntrans _ _ _ (Sort.SWO.asym swoI a2) a1
          · rw [if_neg (by rw [g]; simp)]
            obtain ⟨q1, q2, q3, q4, q5⟩ := Sort.partition_holds (upI 0) swoI d3 a b p hp.1 hp.2 (by omega)
            refine ev_prtC hs3 (by omega) hp.1 hp.2 (by omega) ?_
            rw [dif_pos ⟨q1, q2⟩]
            generalize (Sort.partition (upI 0) d3 a b p).1 = mid at *
            generalize (Sort.partition (upI 0) d3 a b p).2.1 = ap at *
            generalize (Sort.partition (upI 0) d3 a b p).2.2 = d4 at *
            have k4 := Like.perm (by omega) q3
            have z4 := k4.1
            have hs4 := k4.sl hs3
            have B4 := Sort.Below.perm B3 (by omega) q3
            have w1 : wi ((mid : Int) - (a : Int)) = ((mid - a : Nat) : Int) := wN (by omega) (by omega)
            have w2 : wi ((b : Int) - (mid : Int)) = ((b - mid : Nat) : Int) := wN (by omega) (by omega)
            have w3 : wi ((mid : Int) + 1) = ((mid + 1 : Nat) : Int) := wN (by omega) (by omega)
            have w4 : wi (Int.tdiv ((b - a : Nat) : Int) 8) = (((b - a) / 8 : Nat) : Int) := by
              rw [Int.tdiv_eq_ediv_of_nonneg (by omega)]
              exact wN (by omega) (by omega)
            have c1 : decide (((mid - a : Nat) : Int) ≥ (((b - a) / 8 : Nat) : Int)) = decide (mid - a ≥ (b - a) / 8) := by rw [decide_eq_decide]; omega
            have c2 : decide (((b - mid : Nat) : Int) ≥ (((b - a) / 8 : Nat) : Int)) = decide (b - mid ≥ (b - a) / 8) := by rw [decide_eq_decide]; omega
            simp only [halfC, w, w1, w2, w3, w4, c1, c2]
            simp -implicitDefEqProofs only [rdl, Ex.same, Nat.beq, show decide ((8 : Int) ≠ 0) = true from rfl]
            have lo := ih a mid lim1 true true d4 (by omega) q1 (by omega) hs4 (by omega) hl1 (Sort.Below.mono B4 (by omega))
            have hi := ih (mid + 1) b lim1 true true d4 (by omega) (by omega) (by omega) hs4 (by omega) hl1 (.inr fun i h1 h2 => q5 i (by omega) h2)
            by_cases hh : mid - a < b - mid
            · rw [if_pos hh]
              simp -implicitDefEqProofs only [rdl, Ex.same, Nat.beq, show decide (((mid - a : Nat) : Int) < ((b - mid : Nat) : Int)) = true from decide_eq_true (by omega)]
              refine ev_lent (pdqF lo) ?_
              have p5 := (Sort.pdq_sorts (upI 0) swoI d4 a mid lim1 true true q1 (by omega) (Sort.Below.mono B4 (by omega))).1
              generalize Sort.pdq (upI 0) d4 a mid lim1 true true = d5 at *
              have k5 := Like.perm (by omega) p5
              exact ih (mid + 1) b lim1 _ ap d5 (by omega) (by omega) (by rw [k5.1]; omega) (k5.sl hs4) (by rw [k5.1]; omega) hl1 (.inr fun i h1 h2 => by
                rw [p5.2.1 i (by omega), p5.2.1 (mid + 1 - 1) (by omega)]
                exact q5 i (by omega) h2)
            · rw [if_neg hh]
              simp -implicitDefEqProofs only [rdl, Ex.same, Nat.beq, show decide (((mid - a : Nat) : Int) < ((b - mid : Nat) : Int)) = false from decide_eq_false (by omega)]
              refine ev_lent (pdqF hi) ?_
              have p5 := (Sort.pdq_sorts (upI 0) swoI d4 (mid + 1) b lim1 true true (by omega) (by omega) (.inr fun i h1 h2 => q5 i (by omega) h2)).1
              generalize Sort.pdq (upI 0) d4 (mid + 1) b lim1 true true = d5 at *
              have k5 := Like.perm (by omega) p5
              have p6 := Sort.permIn_mono d4 d5 (mid + 1) b a b (by omega) (Nat.le_refl _) (by omega) p5
              exact ih a mid lim1 _ ap d5 (by omega) q1 (by rw [k5.1]; omega) (k5.sl hs4) (by rw [k5.1]; omega) hl1 (Sort.Below.mono (Sort.Below.perm B4 (by omega) p6) (by omega))
theorem f53 {l : Rows} (hs : SL E 3 l) (hd : l.length ≤ 1073741824) : Ev fs 53 [.d (.s 1 l)] (lentO 1 (Sort.sort (upI 0) l.toArray).toList) := by
  refine Ev.of (af := a53) rfl rfl (Evt.congr (fun d n => a53q ..) ?_)
  have wu : IntKind.wrap .u64 (l.length : Int) = (l.length : Int) := by rw [wU, Nat.mod_eq_of_lt (by omega)]
  have hb : Sort.bitsLen l.length ≤ 32 := (Sort.bitsLen_le_iff _ 32).2 (by omega)
  simp -implicitDefEqProofs only [rdl, Ex.same, Nat.beq, wu]
  refine ev_call (f118 (n := l.length) (by omega)) ?_
  simp -implicitDefEqProofs only [rdl, Ex.same, Nat.beq]
  have h := pdqF (d := l.toArray) (a := 0) (b := l.length) (lim := Sort.bitsLen l.length) (pdqL _ 0 l.length _ true true l.toArray (Nat.lt_succ_self _) (Nat.zero_le _) (by simp) (by simpa using hs) (by simpa using hd) (by omega) (.inl rfl))
  simp only [Int.natCast_zero] at h
  refine ev_call h ?_
  simp -implicitDefEqProofs only [rdl, Ex.same, Nat.beq, lentO]
  exact Evt.ret' (by simp [Sort.sort])
end Go.Am.Lk
