/- What Lacking says in the end. Nothing is assumed. -/
import Derived.Test.YtmgeoejefnablaaGreatLkU
import Derived.Test.YtmgeoejefnablaaGreatAmE
namespace Go.Am.Lk
set_option linter.unusedVariables false
set_option linter.unusedSimpArgs false
set_option maxRecDepth 8000
def wantedN (l : Rows) (u : Int) : Int := l.foldl (fun acc x => bif cN x 0 == u then IntKind.i64.wrap (acc + cN x 2) else acc) 0
def uidR (j : Row) : Row := [.v (.int .i64 (cN j 0))]
def ltB (a b : Int) : Bool := decide (a < b)
def lackB (h : Rows) (j : Row) : Bool := !cE j 12 && ltB (wantedN h (cN j 0)) (cN j 2)
def addL (h : Rows) (acc : Rows) (j : Row) : Rows := bif lackB h j then acc ++ [uidR j] else acc
def eqI (x y : Row) : Bool := cN x 0 == cN y 0
theorem eqI_cls (x y : Row) : eqI x y = cls (upI 0) x y := (cls_upI 0 x y).symm
noncomputable def lack (h j : Rows) : Rows := cmpt eqI (stab (upI 0) (j.foldl (addL h) []))
noncomputable def insL (h : Rows) (acc : Rows) (j : Row) : Rows := bif lackB h j then (bif acc.any (cls (upI 0) (uidR j)) then acc else stab (upI 0) (acc ++ [uidR j])) else acc
theorem insL_fold (h : Rows) : ∀ (j r s : Rows), j.foldl (insL h) (r.foldl (fun r x => bif r.any (cls (upI 0) x) then r else stab (upI 0) (r ++ [x])) s) = (j.foldl (addL h) r).foldl (fun r x => bif r.any (cls (upI 0) x) then r else stab (upI 0) (r ++ [x])) s
  | [], r, s => rfl
  | x :: j, r, s => by
    have ih := insL_fold h j (addL h r x) s
    rw [List.foldl_cons, List.foldl_cons, ← ih]
    congr 1
    unfold insL addL
    cases lackB h x with
    | false => rfl
    | true => simp
theorem lack_ins (h j : Rows) : j.foldl (insL h) [] = lack h j := by
  have := insL_fold h j [] []
  simp only [List.foldl_nil] at this
  rw [this, fst_both (upI_swo 0) eqI_cls]
  rfl
theorem uid_sh (j : Row) (h : Fits (cN j 0)) : ShL E (E 3) (uidR j) := by
  rw [E3]
  exact mk_i h .nil
theorem addL_all {h : Rows} : ∀ {j r : Rows}, (∀ x ∈ j, ShL E (E 113) x) → (∀ x ∈ r, ShL E (E 3) x) → (∀ x ∈ j.foldl (addL h) r, ShL E (E 3) x) ∧ (j.foldl (addL h) r).length ≤ r.length + j.length
  | [], r, _, hr => ⟨hr, by simp⟩
  | x :: j, r, hj, hr => by
    have hx := hj x (by simp)
    have fx : Fits (cN x 0) := by
      obtain ⟨na0, sa1, na2, la3, la4, la5, na6, sa7, na8, la9, la10, la11, ba12, rfl, pa0, pa1, pa2, pa3, pa4, pa5, pa6, pa7, pa8, pa9, pa10, pa11⟩ := I113 hx
      exact pa0
    have key : (∀ y ∈ addL h r x, ShL E (E 3) y) ∧ (addL h r x).length ≤ r.length + 1 := by
      unfold addL
      cases lackB h x with
      | false => exact ⟨hr, by simp⟩
      | true =>
        refine ⟨fun y hy => ?_, by simp⟩
        simp only [cond_true, List.mem_append, List.mem_cons, List.not_mem_nil, or_false] at hy
        rcases hy with e | e
        · exact hr y e
        · rw [e]; exact uid_sh x fx
    have ih := addL_all (h := h) (j := j) (r := addL h r x) (fun y hy => hj y (by simp [hy])) key.1
    rw [List.foldl_cons]
    exact ⟨ih.1, by have := ih.2; have := key.2; simp; omega⟩
theorem sl_add {h j : Rows} (hj : SL E 113 j) (hsz : j.length ≤ 1048576) : SL E 3 (j.foldl (addL h) []) ∧ (j.foldl (addL h) []).length ≤ 1048576 := by
  have := addL_all (h := h) (j := j) (r := []) (fun x hx => hj.2.mem x hx) (by simp)
  have hl := this.2
  simp only [List.length_nil, Nat.zero_add] at hl
  exact ⟨⟨by simp only [maxLen]; omega, ShR.of_mem this.1⟩, by omega⟩
theorem lack_mem {h j : Rows} {x : Row} (hx : x ∈ lack h j) : x ∈ j.foldl (addL h) [] := by
  unfold lack at hx
  have hm := @stab_mem _ (upI_swo 0) (j.foldl (addL h) []) x
  cases hs : stab (upI 0) (j.foldl (addL h) []) with
  | nil => rw [hs] at hx; simp [cmpt] at hx
  | cons p xs =>
    rw [hs] at hx hm
    refine hm.1 ?_
    rcases List.mem_cons.1 hx with e | e
    · simp [e]
    · simp [uniq_mem e]
theorem lack_len {h j : Rows} : (lack h j).length ≤ (j.foldl (addL h) []).length := by
  have hl := @stab_len _ (upI_swo 0) (j.foldl (addL h) [])
  unfold lack
  cases hs : stab (upI 0) (j.foldl (addL h) []) with
  | nil => simp [cmpt]
  | cons p xs =>
    rw [hs] at hl
    have := uniq_len (eq := eqI) p xs
    simp [cmpt] at hl ⊢
    omega
theorem sl_lack {h j : Rows} (hj : SL E 113 j) (hsz : j.length ≤ 1048576) : SL E 3 (lack h j) ∧ (lack h j).length ≤ 1048576 := by
  have := sl_add (h := h) hj hsz
  have hl := @lack_len h j
  exact ⟨⟨by simp only [maxLen]; omega, ShR.of_mem fun x hx => this.1.2.mem x (lack_mem hx)⟩, by omega⟩
theorem cmp_two {m1 m2 : Nat} : ∀ (xs K G : Rows) (p : Row) (i : Nat), (K ++ (G ++ (p :: xs))).length = m2 → m2 ≤ 1073741824 → K.length + G.length + 1 = m1 + i → 0 < i → SL E 3 (K ++ (G ++ (p :: xs))) →
    ∃ T, (K ++ uniq eqI p xs ++ T).length = m2 ∧ 0 < T.length ∧ Evt (fun d n => l54x1 (TabD fs d) d n [.o 1 (K ++ (G ++ (p :: xs))), vi K.length, .w 0 m1 m2, vi i]) (.exit 2, [.o 1 (K ++ uniq eqI p xs ++ T), vi (K ++ uniq eqI p xs).length]) := by
  intro xs
  induction xs with
  | nil =>
    intro K G p i hl hsz hi hi0 hs
    simp only [List.length_append, List.length_cons, List.length_nil] at hl
    refine ⟨G ++ [p], by simp [uniq]; omega, by simp, ev_succ ⟨0, fun d n _ _ => ?_⟩⟩
    simp only [l54x1s]
    simp -implicitDefEqProofs only [rdl, Ex.same, Nat.beq, show decide ((i : Int) < ((m2 - m1 : Nat) : Int)) = false from decide_eq_false (by omega)]
    simp [uniq]
  | cons x xs ih =>
    intro K G p i hl hsz hi hi0 hs
    have hl0 := hl
    simp only [List.length_append, List.length_cons] at hl
    have hx : (K ++ (G ++ (p :: x :: xs)))[m1 + i]? = some x := by
      have : K ++ (G ++ (p :: x :: xs)) = (K ++ (G ++ [p])) ++ x :: xs := by simp
      rw [this]; exact getMid (by simp <;> omega)
    have hp : (K ++ (G ++ (p :: x :: xs)))[m1 + (i - 1)]? = some p := by
      have : K ++ (G ++ (p :: x :: xs)) = (K ++ G) ++ p :: (x :: xs) := by simp
      rw [this]; exact getMid (by simp <;> omega)
    obtain ⟨z, zs, hz⟩ : ∃ z zs, G ++ [p] = z :: zs := by
      cases G with
      | nil => exact ⟨p, [], rfl⟩
      | cons g G => exact ⟨g, G ++ [p], rfl⟩
    have e0 : K ++ (G ++ (p :: x :: xs)) = K ++ z :: (zs ++ (x :: xs)) := by
      have : G ++ (p :: x :: xs) = (G ++ [p]) ++ (x :: xs) := by simp
      rw [this, hz]; simp
    have hk : (K ++ (G ++ (p :: x :: xs)))[K.length]? = some z := by rw [e0]; exact getMid rfl
    have hzl : zs.length = G.length := by have := congrArg List.length hz; simpa using this.symm
    obtain ⟨xn, rfl, _⟩ := I3 (hs.at hx)
    obtain ⟨pn, rfl, _⟩ := I3 (hs.at hp)
    obtain ⟨zn, rfl, _⟩ := I3 (hs.at hk)
    have hi1 : decide ((i : Int) < ((m2 - m1 : Nat) : Int)) = true := decide_eq_true (by omega)
    have w1 : IntKind.wrap .i64 ((i : Int) - 1) = ((i - 1 : Nat) : Int) := wN (by omega) (by omega)
    have w2 : IntKind.wrap .i64 ((i : Int) + 1) = ((i + 1 : Nat) : Int) := wN (by omega) (by omega)
    have w3 : IntKind.wrap .i64 ((K.length : Int) + 1) = ((K.length + 1 : Nat) : Int) := wN (by omega) (by omega)
    have l1 : decide (i < m2 - m1) = true := decide_eq_true (by omega)
    have l2 : decide (i - 1 < m2 - m1) = true := decide_eq_true (by omega)
    have es := setD_one (q := K.length) (c := .v (.int .i64 xn)) ⟨_, hk, rfl⟩
    have eq0 : eqI [.v (.int .i64 xn)] [.v (.int .i64 pn)] = (xn == pn) := rfl
    cases hq : (xn == pn) with
    | true =>
      have e1 : K ++ (G ++ ([.v (.int .i64 pn)] :: [.v (.int .i64 xn)] :: xs)) = K ++ ((G ++ [([.v (.int .i64 pn)] : Row)]) ++ (([.v (.int .i64 xn)] : Row) :: xs)) := by simp
      obtain ⟨T, t1, t2, t3⟩ := ih K (G ++ [([.v (.int .i64 pn)] : Row)]) [.v (.int .i64 xn)] (i + 1) (by rw [← e1]; exact hl0) hsz (by simp; omega) (by omega) (by rw [← e1]; exact hs)
      refine ⟨T, by simpa [uniq, eq0, hq] using t1, t2, ev_succ ?_⟩
      simp only [l54x1s]
      simp -implicitDefEqProofs only [rdl, Ex.same, Nat.beq, hi1, w1, w2, dec_nn, l1, l2, look_at hx, look_at hp, Bool.and_self, bne, hq, Bool.not_true]
      rw [e1]
      simpa [uniq, eq0, hq] using t3
    | false =>
      have hset : (K ++ (G ++ ([.v (.int .i64 pn)] :: [.v (.int .i64 xn)] :: xs))).set K.length [.v (.int .i64 xn)] = (K ++ [([.v (.int .i64 xn)] : Row)]) ++ (zs ++ (([.v (.int .i64 xn)] : Row) :: xs)) := by rw [e0, setMid rfl]; simp
      have hs' : SL E 3 ((K ++ [([.v (.int .i64 xn)] : Row)]) ++ (zs ++ (([.v (.int .i64 xn)] : Row) :: xs))) := by
        refine hs.perm (by simp; omega) fun y hy => ?_
        have hzs : ∀ y ∈ zs, y ∈ G ++ [([.v (.int .i64 pn)] : Row)] := fun y hy => by rw [hz]; simp [hy]
        simp only [List.mem_append, List.mem_cons, List.not_mem_nil, or_false] at hy hzs ⊢
        rcases hy with (h | h) | h | h | h
        · exact .inl h
        · exact .inr (.inr (.inr (.inl h)))
        · rcases hzs y h with h | h
          · exact .inr (.inl h)
          · exact .inr (.inr (.inl h))
        · exact .inr (.inr (.inr (.inl h)))
        · exact .inr (.inr (.inr (.inr h)))
      obtain ⟨T, t1, t2, t3⟩ := ih (K ++ [([.v (.int .i64 xn)] : Row)]) zs [.v (.int .i64 xn)] (i + 1) (by simp; omega) hsz (by simp; omega) (by omega) hs'
      refine ⟨T, by simpa [uniq, eq0, hq] using t1, t2, ev_succ ?_⟩
      simp only [l54x1s]
      simp -implicitDefEqProofs only [rdl, Ex.same, Nat.beq, hi1, w1, w2, w3, dec_nn, l1, l2, look_at hx, look_at hp, lt_of_at hk, Bool.and_self, bne, hq, Bool.not_false, es, hset]
      simpa [uniq, eq0, hq] using t3
theorem cmp_one : ∀ (xs A : Rows) (p : Row), (A ++ (p :: xs)).length ≤ 1073741824 → SL E 3 (A ++ (p :: xs)) →
    ∃ ex, (ex = .ret ∨ ex = .exit 0) ∧ Evt (fun d n => l54x0 (TabD fs d) d n [.o 1 (A ++ (p :: xs)), vi (A.length + 1 : Nat)]) (ex, [.o 1 (A ++ (p :: uniq eqI p xs))]) := by
  intro xs
  induction xs with
  | nil =>
    intro A p hsz hs
    refine ⟨.exit 0, .inr rfl, ev_succ ⟨0, fun d n _ _ => ?_⟩⟩
    simp only [l54x0s]
    simp -implicitDefEqProofs only [rdl, Ex.same, Nat.beq, show decide (((A.length + 1 : Nat) : Int) < ((A ++ [p]).length : Int)) = false from decide_eq_false (by simp)]
    rfl
  | cons x xs ih =>
    intro A p hsz hs
    have hsz0 := hsz
    simp only [List.length_append, List.length_cons] at hsz
    have e1 : A ++ (p :: x :: xs) = (A ++ [p]) ++ x :: xs := by simp
    have hx : (A ++ (p :: x :: xs))[A.length + 1]? = some x := by rw [e1]; exact getMid (by simp)
    have hp : (A ++ (p :: x :: xs))[A.length]? = some p := getMid rfl
    obtain ⟨xn, rfl, _⟩ := I3 (hs.at hx)
    obtain ⟨pn, rfl, _⟩ := I3 (hs.at hp)
    have w1 : IntKind.wrap .i64 (((A.length + 1 : Nat) : Int) - 1) = ((A.length : Nat) : Int) := wN (by omega) (by omega)
    have w2 : IntKind.wrap .i64 (((A.length + 1 : Nat) : Int) + 1) = ((A.length + 1 + 1 : Nat) : Int) := wN (by omega) (by omega)
    have hlt : decide (((A.length + 1 : Nat) : Int) < ((A ++ ([.v (.int .i64 pn)] :: [.v (.int .i64 xn)] :: xs)).length : Int)) = true := decide_eq_true (by simp; omega)
    have eq0 : eqI [.v (.int .i64 xn)] [.v (.int .i64 pn)] = (xn == pn) := rfl
    cases hq : (xn == pn) with
    | false =>
      obtain ⟨ex, h1, h2⟩ := ih (A ++ [([.v (.int .i64 pn)] : Row)]) [.v (.int .i64 xn)] (by rw [← e1]; exact hsz0) (by rw [← e1]; exact hs)
      refine ⟨ex, h1, ev_succ ?_⟩
      have e2 : (A ++ [([.v (.int .i64 pn)] : Row)]).length + 1 = A.length + 1 + 1 := by simp
      rw [e2, ← e1] at h2
      simp only [l54x0s]
      simp -implicitDefEqProofs only [rdl, Ex.same, Nat.beq, hlt, w1, w2, dec_nn, lt_of_at hx, lt_of_at hp, look_at hx, look_at hp, Bool.and_self, hq]
      simpa [uniq, eq0, hq] using h2
    | true =>
      obtain ⟨T, t1, t2, t3⟩ := cmp_two (m1 := A.length + 1) (m2 := (A ++ ([.v (.int .i64 pn)] :: [.v (.int .i64 xn)] :: xs)).length) xs (A ++ [([.v (.int .i64 pn)] : Row)]) [] [.v (.int .i64 xn)] 1 (by simp <;> omega) hsz0 (by simp) (by omega) (by simpa using hs)
      have cut : ∀ {k n : Nat}, k ≤ n → n ≤ 1073741824 → cutOk (k : Int) (n : Int) n = true := fun {k n} h1 h2 => by
        simp only [cutOk, Bool.and_eq_true, decide_eq_true_eq]; omega
      refine ⟨.ret, .inl rfl, ev_succ ?_⟩
      have e2 : (A ++ [([.v (.int .i64 pn)] : Row)]).length = A.length + 1 := by simp
      have e3 : A ++ [([.v (.int .i64 pn)] : Row)] ++ ([] ++ (([.v (.int .i64 xn)] : Row) :: xs)) = A ++ ([.v (.int .i64 pn)] :: [.v (.int .i64 xn)] :: xs) := by simp
      rw [e2, e3] at t3
      simp only [l54x0s]
      have hc0 := cut (k := A.length + 1) (n := (A ++ ([.v (.int .i64 pn)] :: [.v (.int .i64 xn)] :: xs)).length) (by simp <;> omega) hsz0
      simp -implicitDefEqProofs only [rdl, Ex.same, Nat.beq, hlt, w1, w2, dec_nn, lt_of_at hx, lt_of_at hp, look_at hx, look_at hp, Bool.and_self, hq]
      refine ev_tst hc0 ?_
      refine ev_aft t3 ?_
      simp -implicitDefEqProofs only [rdl, Ex.same, Nat.beq]
      generalize hK : A ++ [([.v (.int .i64 pn)] : Row)] ++ uniq eqI [.v (.int .i64 xn)] xs = K at t1
      have hKT : K.length < (K ++ T).length := by simp; omega
      have hKn : (K ++ T).length ≤ 1073741824 := by rw [t1]; exact hsz0
      refine ev_tst (cut (by omega) hKn) (ev_tst ?_ (ev_tst ?_ (Evt.ret' ?_)))
      · simp only [decide_eq_true hKT, Nat.beq_refl, Bool.and_self]
      · have : (List.take K.length (K ++ T) ++ List.replicate ((K ++ T).length - K.length) ([.v (.int .i64 0)] : Row)).length = (K ++ T).length := by simp
        rw [this]
        simp only [cutOk, Bool.and_eq_true, decide_eq_true_eq]
        omega
      · have : List.take K.length (List.take K.length (K ++ T) ++ List.replicate ((K ++ T).length - K.length) ([.v (.int .i64 0)] : Row)) = K := by simp
        rw [this, ← hK]
        simp [uniq, eq0, hq]
theorem f54 {l : Rows} (hs : SL E 3 l) (hsz : l.length ≤ 1073741824) : Ev fs 54 [.d (.s 1 l)] ⟨.d (.s 1 (cmpt eqI l)), []⟩ := by
  refine Ev.of (af := a54) rfl rfl (Evt.congr (fun d n => a54q ..) ?_)
  refine ev_if (fun h => ?_) (fun h => ?_)
  · have h := of_decide_eq_true h
    match l, h with
    | [], _ => exact Evt.ret' (by simp [cmpt])
    | [x], _ => exact Evt.ret' (by simp [cmpt, uniq])
    | _ :: _ :: _, h => simp at h; omega
  · match l, h with
    | [], h => simp at h
    | x :: xs, _ =>
      obtain ⟨ex, h1, h2⟩ := cmp_one xs [] x (by simpa using hsz) (by simpa using hs)
      refine ev_aft (y := (ex, [.o 1 (cmpt eqI (x :: xs))])) (by simpa [cmpt] using h2) ?_
      rcases h1 with rfl | rfl
      · simp -implicitDefEqProofs only [rdl, Ex.same, Nat.beq]
        exact Evt.ret
      · simp -implicitDefEqProofs only [rdl, Ex.same, Nat.beq]
        exact Evt.ret
theorem f47 {row : Row} (h : ShL E (E 39) row) (u : Int) : Ev fs 47 [.g row, .d (.v (.int .i64 u))] (io (wantedN (cR row 5) u)) := by
  obtain ⟨na0, na1, na2, la3, la4, la5, la6, rfl, pa0, pa1, pa2, pa3, pa4, pa5, pa6⟩ := I39 h
  simp only [cN, cT, cR, cE, List.getElem?_cons_zero, List.getElem?_cons_succ]
  refine Ev.of (af := a47) rfl rfl (Evt.congr (fun d n => a47q ..) ?_)
  refine ev_aft (L := fun d n => l47x0 (TabD fs d) d n [.v (.int .i64 u), (.b [.v (.int .i64 na0), .v (.int .i64 na1), .v (.int .i64 na2), .fz 13 la3, .fz 6 la4, .fz 5 la5, .fz 1 la6]), .v (.int .i64 0), .v (.int .i64 0)]) (fold_loop (L := fun d n acc i => l47x0 (TabD fs d) d n [.v (.int .i64 u), (.b [.v (.int .i64 na0), .v (.int .i64 na1), .v (.int .i64 na2), .fz 13 la3, .fz 6 la4, .fz 5 la5, .fz 1 la6]), .v (.int .i64 acc), .v (.int .i64 i)]) (a := la5) (f := fun acc x => bif cN x 0 == u then IntKind.i64.wrap (acc + cN x 2) else acc) (acc := 0) (Y := fun acc => (.exit 0, [.v (.int .i64 acc)])) (fun _ _ => True) (fun d n acc => ?_) (fun i x acc res hi hx _ k => ?_) (fun _ _ _ _ _ _ => trivial) trivial).1 ?_
  · rw [l47x0s]
    simp -implicitDefEqProofs only [rdl, Ex.same, Nat.beq, Int.lt_irrefl, decide_false]
  · have w := pa5.at hx
    obtain ⟨nx0, sx1, nx2, nx3, nx4, rfl, px0, px1, px2, px3, px4⟩ := I181 w
    simp only [l47x0s]
    simp -implicitDefEqProofs only [rdl, Ex.same, Nat.beq, decide_eq_true (Int.ofNat_lt.2 hi), dec_nn, look_at hx, wrap_succ hi pa5.le]
    simp only [cN, cT, cR, cE, List.getElem?_cons_zero, List.getElem?_cons_succ] at k
    refine ev_if (fun hc => ?_) (fun hc => ?_)
    · rw [hc] at k
      exact k
    · rw [hc] at k
      exact k
  · simp -implicitDefEqProofs only [rdl, Ex.same, Nat.beq]
    exact Evt.ret
theorem f52 {row : Row} (h : ShL E (E 39) row) (u : Int) : Ev fs 52 [.g row, .d (.v (.int .i64 u))] (io (wantedN (cR row 5) u)) := by
  obtain ⟨na0, na1, na2, la3, la4, la5, la6, rfl, pa0, pa1, pa2, pa3, pa4, pa5, pa6⟩ := I39 h
  simp only [cN, cT, cR, cE, List.getElem?_cons_zero, List.getElem?_cons_succ]
  refine Ev.of (af := a52) rfl rfl (Evt.congr (fun d n => a52q ..) ?_)
  refine ev_aft (L := fun d n => l52x0 (TabD fs d) d n [.v (.int .i64 u), .v (.int .i64 0), .fz 5 la5, .v (.int .i64 (la5.length : Int)), .v (.int .i64 0)]) (fold_loop (L := fun d n acc i => l52x0 (TabD fs d) d n [.v (.int .i64 u), .v (.int .i64 acc), .fz 5 la5, .v (.int .i64 (la5.length : Int)), .v (.int .i64 i)]) (a := la5) (f := fun acc x => bif cN x 0 == u then IntKind.i64.wrap (acc + cN x 2) else acc) (acc := 0) (Y := fun acc => (.exit 0, [.v (.int .i64 acc)])) (fun _ _ => True) (fun d n acc => ?_) (fun i x acc res hi hx _ k => ?_) (fun _ _ _ _ _ _ => trivial) trivial).1 ?_
  · rw [l52x0s]
    simp -implicitDefEqProofs only [rdl, Ex.same, Nat.beq, Int.lt_irrefl, decide_false]
  · have w := pa5.at hx
    obtain ⟨nx0, sx1, nx2, nx3, nx4, rfl, px0, px1, px2, px3, px4⟩ := I181 w
    simp only [l52x0s]
    simp -implicitDefEqProofs only [rdl, Ex.same, Nat.beq, decide_eq_true (Int.ofNat_lt.2 hi), dec_nn, look_at hx, wrap_succ hi pa5.le]
    simp only [cN, cT, cR, cE, List.getElem?_cons_zero, List.getElem?_cons_succ] at k
    refine ev_if (fun hc => ?_) (fun hc => ?_)
    · rw [hc] at k
      exact k
    · rw [hc] at k
      exact k
  · simp -implicitDefEqProofs only [rdl, Ex.same, Nat.beq]
    exact Evt.ret
theorem f48 {l : Rows} (hl : SL E 3 l) (u : Int) : Ev fs 48 [.d (.s 1 l), .d (.v (.int .i64 u))] (bo (l.any fun y => cN y 0 == u)) := by
  have find := find_loop (L := fun d n i => l48x0 (TabD fs d) d n [.fz 1 l, .v (.int .i64 u), .v (.int .i64 i)]) (n := l.length) (p := fun i => cN (l[i]?.getD []) 0 == u) (g := fun i => (.ret, [.v (.bool true)])) (y := (.exit 0, [])) (fun d m => by
      rw [l48x0s]
      simp -implicitDefEqProofs only [rdl, Ex.same, Nat.beq, Int.lt_irrefl, decide_false]) (fun i hi => by
      have hx := List.getElem?_eq_getElem hi
      generalize l[i] = x at hx
      have k := hl.at hx
      obtain ⟨nx0, rfl, px0⟩ := I3 k
      simp only [l48x0s, hx, Option.getD_some, cN, List.getElem?_cons_zero, List.getElem?_cons_succ]
      simp -implicitDefEqProofs only [rdl, Ex.same, Nat.beq, decide_eq_true (Int.ofNat_lt.2 hi), dec_nn, look_at hx, wrap_succ hi hl.1]
      intro res k1 k2
      refine ev_if (fun hc => ?_) (fun hc => ?_)
      · rw [hc] at k2
        exact Evt.ret' (k2 rfl)
      · rw [hc] at k1
        exact k1 rfl)
  have hf := findN_find (p := fun y => cN y 0 == u) (l := l)
  have ha : (l.any fun y => cN y 0 == u) = (l.find? fun y => cN y 0 == u).isSome := by rw [Bool.eq_iff_iff]; simp
  refine Ev.of (af := a48) rfl rfl (Evt.congr (fun d n => a48q ..) ?_)
  refine ev_aft (L := fun d n => l48x0 (TabD fs d) d n [.fz 1 l, .v (.int .i64 u), .v (.int .i64 0)]) find ?_
  rw [ha, ← hf]
  cases hq : findN l.length (fun i => cN (l[i]?.getD []) 0 == u) with
  | none =>
    simp -implicitDefEqProofs only [rdl, Ex.same, Nat.beq]
    exact Evt.ret
  | some i =>
    obtain ⟨hi, hp, _⟩ := findN_some.1 hq
    simp -implicitDefEqProofs only [rdl, Ex.same, Nat.beq]
    exact Evt.ret' (by simp [List.getElem?_eq_getElem hi])
theorem f15 {row : Row} (h : ShL E (E 39) row) (hsz : (cR row 3).length ≤ 1048576) : Ev fs 15 [.g row] ⟨.d (.s 1 (lack (cR row 5) (cR row 3))), []⟩ := by
  have h0 := h
  obtain ⟨na0, na1, na2, la3, la4, la5, la6, rfl, pa0, pa1, pa2, pa3, pa4, pa5, pa6⟩ := I39 h
  simp only [cN, cT, cR, cE, List.getElem?_cons_zero, List.getElem?_cons_succ] at hsz ⊢
  refine Ev.of (af := a15) rfl rfl (Evt.congr (fun d n => a15q ..) ?_)
  obtain ⟨hsl, hln⟩ := sl_add (h := la5) pa3 hsz
  refine ev_aft (L := fun d n => l15x0 (TabD fs d) d n [(.b [.v (.int .i64 na0), .v (.int .i64 na1), .v (.int .i64 na2), .fz 13 la3, .fz 6 la4, .fz 5 la5, .fz 1 la6]), .o 1 [], .fz 13 la3, .v (.int .i64 (la3.length : Int)), .v (.int .i64 0)]) (fold_loop (L := fun d n acc i => l15x0 (TabD fs d) d n [(.b [.v (.int .i64 na0), .v (.int .i64 na1), .v (.int .i64 na2), .fz 13 la3, .fz 6 la4, .fz 5 la5, .fz 1 la6]), .o 1 acc, .fz 13 la3, .v (.int .i64 (la3.length : Int)), .v (.int .i64 i)]) (a := la3) (f := addL la5) (acc := []) (Y := fun acc => (.exit 0, [.o 1 acc])) (fun i acc => acc.length ≤ i) (fun d n acc => ?_) (fun i x acc res hi hx hI k => ?_) (fun i x acc hi hx hI => ?_) (by simp)).1 ?_
  · rw [l15x0s]
    simp -implicitDefEqProofs only [rdl, Ex.same, Nat.beq, Int.lt_irrefl, decide_false]
  · have w := pa3.at hx
    obtain ⟨nx0, sx1, nx2, lx3, lx4, lx5, nx6, sx7, nx8, lx9, lx10, lx11, bx12, rfl, px0, px1, px2, px3, px4, px5, px6, px7, px8, px9, px10, px11⟩ := I113 w
    have hb : decide ((acc.length + (0 + 1)) * 8 ≤ maxBytes) = true := decide_eq_true (by simp only [maxBytes]; omega)
    simp only [l15x0s]
    simp -implicitDefEqProofs only [rdl, Ex.same, Nat.beq, decide_eq_true (Int.ofNat_lt.2 hi), dec_nn, look_at hx, wrap_succ hi pa3.le, hb, beq_t]
    simp only [addL, lackB, uidR, cN, cT, cR, cE, List.getElem?_cons_zero, List.getElem?_cons_succ] at k
    refine ev_if (fun hc => ?_) (fun hc => ?_)
    · rw [hc, Bool.true_and] at k
      refine ev_call (f52 h0 nx0) ?_
      simp -implicitDefEqProofs only [rdl, Ex.same, Nat.beq, cN, cT, cR, cE, List.getElem?_cons_zero, List.getElem?_cons_succ]
      refine ev_if (fun hd => ?_) (fun hd => ?_)
      · rw [show ltB (wantedN la5 nx0) nx2 = true from hd] at k
        exact k
      · rw [show ltB (wantedN la5 nx0) nx2 = false from hd] at k
        exact k
    · rw [hc, Bool.false_and] at k
      exact k
  · unfold addL
    cases lackB la5 x <;> simp <;> omega
  · simp -implicitDefEqProofs only [rdl, Ex.same, Nat.beq]
    refine ev_call (f53 hsl (by omega)) ?_
    simp -implicitDefEqProofs only [rdl, Ex.same, Nat.beq, lentO]
    have es : (Sort.sort (upI 0) (la3.foldl (addL la5) []).toArray).toList = stab (upI 0) (la3.foldl (addL la5) []) := sort_stab fun x hx => by
      obtain ⟨n0, e0, _⟩ := I3 (hsl.2.mem x hx)
      exact ⟨n0, e0⟩
    rw [es]
    refine ev_call (f54 (hsl.perm (stab_len (upI_swo 0)) fun x hx => (stab_mem (upI_swo 0)).1 hx) (by rw [stab_len (upI_swo 0)]; omega)) ?_
    simp -implicitDefEqProofs only [rdl, Ex.same, Nat.beq]
    exact Evt.ret
theorem shift {na0 : Int} {na1 : Int} {na2 : Int} {la3 : Rows} {la4 : Rows} {la5 : Rows} {la6 : Rows} {nx0 : Int} {sx1 : ByteArray} {nx2 : Int} {lx3 : Rows} {lx4 : Rows} {lx5 : Rows} {nx6 : Int} {sx7 : ByteArray} {nx8 : Int} {lx9 : Rows} {lx10 : Rows} {lx11 : Rows} {bx12 : Bool} {i : Int} : ∀ (k : Nat) (S1 S2 : Rows) (gr : Row), S1.length = k → SL E 3 (S1 ++ gr :: S2) → (S1 ++ gr :: S2).length ≤ 1073741824 → Srt (upI 0) (S1 ++ S2) → (∀ y ∈ S2, upI 0 [.v (.int .i64 nx0)] y = true) →
    ∃ (T1 T2 : Rows) (gr' : Row), SP (upI 0) (S1 ++ S2 ++ [[.v (.int .i64 nx0)]]) (T1 ++ [.v (.int .i64 nx0)] :: T2) ∧ gr'.length = 1 ∧
      Evt (fun d n => l13x1 (TabD fs d) d n [(.b [.v (.int .i64 na0), .v (.int .i64 na1), .v (.int .i64 na2), .fz 13 la3, .fz 6 la4, .fz 5 la5, .fz 1 la6]), .o 1 (S1 ++ gr :: S2), .v (.int .i64 i), (.b [.v (.int .i64 nx0), .v (.string sx1), .v (.int .i64 nx2), .fz 3 lx3, .fz 1 lx4, .fz 2 lx5, .v (.int .i64 nx6), .v (.string sx7), .v (.int .i64 nx8), .fz 1 lx9, .fz 5 lx10, .fz 2 lx11, .v (.bool bx12)]), .v (.int .i64 (S1.length : Nat))]) (.exit 2, [(.b [.v (.int .i64 na0), .v (.int .i64 na1), .v (.int .i64 na2), .fz 13 la3, .fz 6 la4, .fz 5 la5, .fz 1 la6]), .o 1 (T1 ++ gr' :: T2), .v (.int .i64 i), (.b [.v (.int .i64 nx0), .v (.string sx1), .v (.int .i64 nx2), .fz 3 lx3, .fz 1 lx4, .fz 2 lx5, .v (.int .i64 nx6), .v (.string sx7), .v (.int .i64 nx8), .fz 1 lx9, .fz 5 lx10, .fz 2 lx11, .v (.bool bx12)]), .v (.int .i64 (T1.length : Nat))]) := by
  intro k
  induction k with
  | zero =>
    intro S1 S2 gr h0 hs hsz h1 h2
    have : S1 = [] := List.length_eq_zero_iff.1 h0
    subst this
    obtain ⟨gn, eg, _⟩ := I3 (hs.at (i := 0) (x := gr) (by simp))
    refine ⟨[], S2, gr, srt_ins (upI_swo 0) (s1 := []) h1 (.inl rfl) h2, by rw [eg]; rfl, ev_succ ⟨0, fun d n _ _ => ?_⟩⟩
    simp only [l13x1s]
    simp only [List.length_nil, Int.natCast_zero, show decide ((0 : Int) > 0) = false from rfl, beqFT, cond_false, List.nil_append]
  | succ k ih =>
    intro S1 S2 gr h0 hs hsz h1 h2
    obtain ⟨T, y, rfl⟩ : ∃ T y, S1 = T ++ [y] := by
      rcases List.eq_nil_or_concat S1 with e | ⟨T, y, e⟩
      · subst e; simp at h0
      · exact ⟨T, y, by simpa using e⟩
    simp only [List.length_append, List.length_cons, List.length_nil] at h0 hsz
    have hgr : (T ++ [y] ++ gr :: S2)[T.length + 1]? = some gr := getMid (by simp)
    have hy0 : (T ++ [y] ++ gr :: S2)[T.length]? = some y := by
      have : T ++ [y] ++ gr :: S2 = T ++ y :: (gr :: S2) := by simp
      rw [this]; exact getMid rfl
    obtain ⟨gn, eg, _⟩ := I3 (hs.at hgr)
    have hgl : gr.length = 1 := by rw [eg]; rfl
    have hset : (T ++ [y] ++ gr :: S2).set (T.length + 1) y = T ++ y :: (y :: S2) := by
      rw [setMid (by simp)]; simp
    have e1 : T ++ (y :: S2) = T ++ [y] ++ S2 := by simp
    have hsl : SL E 3 (T ++ y :: (y :: S2)) := hs.perm (by simp) fun z hz => by simp at hz ⊢; grind
    obtain ⟨yn, rfl, _⟩ := I3 (hs.at hy0)
    have w1 : IntKind.i64.wrap (((T.length + 1 : Nat) : Int) - 1) = ((T.length : Nat) : Int) := wN (by omega) (by omega)
    have hpos : decide (((T.length + 1 : Nat) : Int) > 0) = true := decide_eq_true (by omega)
    have hlen : (T ++ [([.v (.int .i64 yn)] : Row)]).length = T.length + 1 := by simp
    have e2 := setD_one (l := T ++ [([.v (.int .i64 yn)] : Row)] ++ gr :: S2) (q := T.length + 1) (c := .v (.int .i64 yn)) ⟨_, hgr, hgl⟩
    rw [hlen]
    cases hlx : upI 0 [.v (.int .i64 nx0)] [.v (.int .i64 yn)] with
    | true =>
      obtain ⟨T1, T2, gr', q1, q2, q3⟩ := ih T ([.v (.int .i64 yn)] :: S2) [.v (.int .i64 yn)] (by omega) hsl (by simp; omega) (by rw [e1]; exact h1) (fun z hz => by
        rcases List.mem_cons.1 hz with e | e
        · rw [e]; exact hlx
        · exact h2 z e)
      refine ⟨T1, T2, gr', by rw [e1] at q1; exact q1, q2, ev_succ ?_⟩
      have hb : decide (yn > nx0) = true := hlx
      simp only [l13x1s]
      simp -implicitDefEqProofs only [rdl, Ex.same, Nat.beq, hpos, w1, dec_nn, lt_of_at hy0, lt_of_at hgr, look_at hy0, Bool.and_self, hb, e2, hset]
      exact q3
    | false =>
      refine ⟨T ++ [[.v (.int .i64 yn)]], S2, gr, srt_ins (upI_swo 0) h1 (.inr ⟨T, _, rfl, hlx⟩) h2, hgl, ev_succ ?_⟩
      have hb : decide (yn > nx0) = false := hlx
      simp only [l13x1s]
      simp -implicitDefEqProofs only [rdl, Ex.same, Nat.beq, hpos, w1, dec_nn, lt_of_at hy0, look_at hy0, Bool.and_self, hb, hlen]
      exact Evt.ret
theorem f13 {row : Row} (h : ShL E (E 39) row) (hsz : (cR row 3).length ≤ 1048576) : Ev fs 13 [.g row] ⟨.d (.s 1 (lack (cR row 5) (cR row 3))), []⟩ := by
  have h0 := h
  obtain ⟨na0, na1, na2, la3, la4, la5, la6, rfl, pa0, pa1, pa2, pa3, pa4, pa5, pa6⟩ := I39 h
  simp only [cN, cT, cR, cE, List.getElem?_cons_zero, List.getElem?_cons_succ] at hsz ⊢
  refine Ev.of (af := a13) rfl rfl (Evt.congr (fun d n => a13q ..) ?_)
  rw [← lack_ins]
  refine ev_aft (L := fun d n => l13x0 (TabD fs d) d n [(.b [.v (.int .i64 na0), .v (.int .i64 na1), .v (.int .i64 na2), .fz 13 la3, .fz 6 la4, .fz 5 la5, .fz 1 la6]), .o 1 [], .v (.int .i64 0)]) (fold_loop (L := fun d n acc i => l13x0 (TabD fs d) d n [(.b [.v (.int .i64 na0), .v (.int .i64 na1), .v (.int .i64 na2), .fz 13 la3, .fz 6 la4, .fz 5 la5, .fz 1 la6]), .o 1 acc, .v (.int .i64 i)]) (a := la3) (f := insL la5) (acc := []) (Y := fun acc => (.exit 0, [.o 1 acc])) (fun i acc => Srt (upI 0) acc ∧ acc.length ≤ i ∧ ∀ x ∈ acc, ShL E (E 3) x) (fun d n acc => ?_) (fun i x acc res hi hx hI k => ?_) (fun i x acc hi hx hI => ?_) ⟨srt_nil, by simp, by simp⟩).1 ?_
  · rw [l13x0s]
    simp -implicitDefEqProofs only [rdl, Ex.same, Nat.beq, Int.lt_irrefl, decide_false]
  · obtain ⟨i1, i2, i3⟩ := hI
    have w := pa3.at hx
    have hacc : SL E 3 acc := ⟨by simp only [maxLen]; omega, ShR.of_mem i3⟩
    obtain ⟨nx0, sx1, nx2, lx3, lx4, lx5, nx6, sx7, nx8, lx9, lx10, lx11, bx12, rfl, px0, px1, px2, px3, px4, px5, px6, px7, px8, px9, px10, px11⟩ := I113 w
    have hu : ShL E (E 3) [.v (.int .i64 nx0)] := by
      rw [E3]
      exact mk_i px0 .nil
    have hsl : SL E 3 (acc ++ [.v (.int .i64 nx0)] :: []) := ⟨by simp [maxLen]; omega, ShR.of_mem fun z hz => by
      rcases List.mem_append.1 hz with e | e
      · exact i3 z e
      · simp at e; subst e; exact hu⟩
    have hany : acc.any (cls (upI 0) [.v (.int .i64 nx0)]) = acc.any fun y => cN y 0 == nx0 := by
      congr 1
      funext y
      rw [cls_upI]
      show (nx0 == cN y 0) = (cN y 0 == nx0)
      exact Bool.beq_comm ..
    have hb : decide ((acc.length + (0 + 1)) * 8 ≤ maxBytes) = true := decide_eq_true (by simp only [maxBytes]; omega)
    simp only [l13x0s]
    simp -implicitDefEqProofs only [rdl, Ex.same, Nat.beq, decide_eq_true (Int.ofNat_lt.2 hi), dec_nn, look_at hx, wrap_succ hi pa3.le, hb, beq_t]
    have c0 : cN [.v (.int .i64 nx0), .v (.string sx1), .v (.int .i64 nx2), .s 3 lx3, .s 1 lx4, .s 2 lx5, .v (.int .i64 nx6), .v (.string sx7), .v (.int .i64 nx8), .s 1 lx9, .s 5 lx10, .s 2 lx11, .v (.bool bx12)] 0 = nx0 := rfl
    have c2 : cN [.v (.int .i64 nx0), .v (.string sx1), .v (.int .i64 nx2), .s 3 lx3, .s 1 lx4, .s 2 lx5, .v (.int .i64 nx6), .v (.string sx7), .v (.int .i64 nx8), .s 1 lx9, .s 5 lx10, .s 2 lx11, .v (.bool bx12)] 2 = nx2 := rfl
    have c12 : cE [.v (.int .i64 nx0), .v (.string sx1), .v (.int .i64 nx2), .s 3 lx3, .s 1 lx4, .s 2 lx5, .v (.int .i64 nx6), .v (.string sx7), .v (.int .i64 nx8), .s 1 lx9, .s 5 lx10, .s 2 lx11, .v (.bool bx12)] 12 = bx12 := rfl
    simp only [insL, lackB, uidR, c0, c2, c12, hany] at k
    refine ev_if (fun hc => ?_) (fun hc => ?_)
    · rw [hc, Bool.true_and] at k
      refine ev_call (f47 h0 nx0) ?_
      simp -implicitDefEqProofs only [rdl, Ex.same, Nat.beq, cN, cT, cR, cE, List.getElem?_cons_zero, List.getElem?_cons_succ]
      refine ev_if (fun hd => ?_) (fun hd => ?_)
      · rw [show ltB (wantedN la5 nx0) nx2 = true from hd] at k
        refine ev_call (f48 hacc nx0) ?_
        simp -implicitDefEqProofs only [rdl, Ex.same, Nat.beq]
        refine ev_if (fun he => ?_) (fun he => ?_)
        · have he : (acc.any fun y => cN y 0 == nx0) = false := by simpa using he
          rw [he] at k
          simp only [cond_true, cond_false] at k
          obtain ⟨T1, T2, gr', q1, q2, q3⟩ := shift (na0 := na0) (na1 := na1) (na2 := na2) (la3 := la3) (la4 := la4) (la5 := la5) (la6 := la6) (nx0 := nx0) (sx1 := sx1) (nx2 := nx2) (lx3 := lx3) (lx4 := lx4) (lx5 := lx5) (nx6 := nx6) (sx7 := sx7) (nx8 := nx8) (lx9 := lx9) (lx10 := lx10) (lx11 := lx11) (bx12 := bx12) (i := (i : Int)) acc.length acc [] [.v (.int .i64 nx0)] rfl hsl (by simp; omega) (by simpa using i1) (by simp)
          have q4 : T1 ++ [.v (.int .i64 nx0)] :: T2 = stab (upI 0) (acc ++ [[.v (.int .i64 nx0)]]) := stab_of (upI_swo 0) (by simpa using q1)
          have hgr : (T1 ++ gr' :: T2)[T1.length]? = some gr' := getMid rfl
          have e2 := setD_one (l := T1 ++ gr' :: T2) (q := T1.length) (c := .v (.int .i64 nx0)) ⟨_, hgr, q2⟩
          rw [setMid rfl, q4] at e2
          refine ev_aft q3 ?_
          simp -implicitDefEqProofs only [rdl, Ex.same, Nat.beq, dec_nn, lt_of_at hgr, Bool.and_self, e2, wrap_succ hi pa3.le]
          exact k
        · have he : (acc.any fun y => cN y 0 == nx0) = true := by simpa using he
          rw [he] at k
          exact k
      · rw [show ltB (wantedN la5 nx0) nx2 = false from hd] at k
        exact k
    · rw [hc, Bool.false_and] at k
      exact k
  · obtain ⟨i1, i2, i3⟩ := hI
    have fx : Fits (cN x 0) := by
      have w := pa3.at hx
      obtain ⟨ny0, sy1, ny2, ly3, ly4, ly5, ny6, sy7, ny8, ly9, ly10, ly11, by12, rfl, py0, py1, py2, py3, py4, py5, py6, py7, py8, py9, py10, py11⟩ := I113 w
      exact py0
    unfold insL
    cases lackB la5 x with
    | false => exact ⟨i1, by simp only [cond_false]; omega, i3⟩
    | true =>
      simp only [cond_true]
      cases hc : acc.any (cls (upI 0) (uidR x)) with
      | true => exact ⟨i1, by simp only [cond_true]; omega, i3⟩
      | false =>
        simp only [cond_false]
        refine ⟨(stab_sp (upI_swo 0) _).1, by rw [stab_len (upI_swo 0)]; simp; omega, fun z hz => ?_⟩
        rcases List.mem_append.1 ((stab_mem (upI_swo 0)).1 hz) with e | e
        · exact i3 z e
        · simp at e; subst e; exact uid_sh x fx
  · simp -implicitDefEqProofs only [rdl, Ex.same, Nat.beq]
    exact Evt.ret
theorem cn_ints : ∀ {l : Rows}, (∀ x ∈ l, ShL E (E 3) x) → cnRows l = l.length
  | [], _ => by simp [cnRows]
  | x :: l, h => by
    have h1 := h x (by simp)
    have h2 := cn_ints (l := l) fun y hy => h y (by simp [hy])
    obtain ⟨n0, rfl, _⟩ := I3 h1
    simp [cnRows, cnRow, h2]
    omega
end Go.Am.Lk
