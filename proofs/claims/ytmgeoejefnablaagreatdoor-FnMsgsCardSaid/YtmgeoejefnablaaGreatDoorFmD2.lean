/- Drawn labels. Nothing is assumed. -/
import Derived.Test.YtmgeoejefnablaaGreatDoorFmD1
namespace Go.Am.Fm
variable {SK : Src}
set_option linter.unusedVariables false
set_option linter.unusedSimpArgs false
set_option maxRecDepth 8000
def labB (l : Rows) : Prop := ∀ x ∈ l, ∃ s t : ByteArray, s.size ≤ 21 ∧ t.size ≤ 21 ∧ x = [.v (.string s), .v (.string t)]
theorem labB.at {l : Rows} (h : labB l) {i : Nat} (hi : i < l.length) : ∃ s t : ByteArray, s.size ≤ 21 ∧ t.size ≤ 21 ∧ l[i]? = some [.v (.string s), .v (.string t)] := by
 obtain ⟨s, t, h1, h2, h3⟩ := h _ (List.getElem_mem hi)
 exact ⟨s, t, h1, h2, by rw [List.getElem?_eq_getElem hi, h3]⟩
theorem labB.snoc {l : Rows} (h : labB l) {s t : ByteArray} (hs : s.size ≤ 21) (ht : t.size ≤ 21) : labB (l ++ [[.v (.string s), .v (.string t)]]) := by
 intro x hx
 rcases List.mem_append.1 hx with hx | hx
 ·exact h x hx
 ·rw [List.mem_singleton] at hx; exact ⟨s, t, hs, ht, hx⟩
theorem lg_loop {l : Rows} (hl : labB l) (hn : l.length ≤ 1000) (s : ByteArray) : ∀ (k i : Nat), l.length - i ≤ k → EvtE (fun y => y = (.exit 0, []) ∨ ∃ (t : ByteArray) (b : Bool), y = (.ret, [.v (.string t), .v (.bool b)])) (fun d m => l145x0 (TabD (fs SK) d) d m [.fz 2 l, .v (.string s), .v (.int .i64 (i : Int))]) := by
 have stop : ∀ i : Nat, l.length ≤ i → EvtE (fun y => y = (.exit 0, []) ∨ ∃ (t : ByteArray) (b : Bool), y = (.ret, [.v (.string t), .v (.bool b)])) (fun d m => l145x0 (TabD (fs SK) d) d m [.fz 2 l, .v (.string s), .v (.int .i64 (i : Int))]) := fun i hi => by
  refine eve_succ ?_
  simp only [l145x0s]
  simp -implicitDefEqProofs only [rdl, Ex.same, Nat.beq, show decide ((i : Int) < (l.length : Int)) = false from decide_eq_false (by omega)]
  exact EvtE.ret (.inl rfl)
 intro k
 induction k with
 | zero => intro i hk; exact stop i (by omega)
 | succ k ih =>
  intro i hk
  rcases Nat.lt_or_ge i l.length with hlt | hge
  ·obtain ⟨u, v, _, _, hx⟩ := hl.at hlt
   refine eve_succ ?_
   simp only [l145x0s]
   simp -implicitDefEqProofs only [rdl, Ex.same, Nat.beq, decide_eq_true (Int.ofNat_lt.2 hlt), dec_nn, look_at hx, wrap_succ hlt (show l.length ≤ maxLen by simp only [maxLen]; omega)]
   refine eve_if (fun c1 => ?_) (fun c1 => ?_)
   ·exact EvtE.ret (.inr ⟨_, _, rfl⟩)
   ·exact ih (i + 1) (by omega)
  ·exact stop i hge
theorem t145 {l : Rows} (hl : labB l) (hn : l.length ≤ 1000) (s : ByteArray) : EvE (fs SK) 145 [.d (.s 2 l), .d (.v (.string s))] fun o => ∃ (t : ByteArray) (b : Bool), o = ⟨.t [.d (.v (.string t)), .d (.v (.bool b))], []⟩ := by
 refine EvE.of (af := a145) rfl rfl (EvtE.congr (fun d n => a145q ..) ?_)
 refine eve_aft (L := fun d m => l145x0 (TabD (fs SK) d) d m [.fz 2 l, .v (.string s), .v (.int .i64 0)]) (lg_loop hl hn s _ 0 (Nat.le_refl _)) ?_
 rintro y (rfl | ⟨t, b, rfl⟩)
 ·simp -implicitDefEqProofs only [rdl, Ex.same, Nat.beq]
  exact EvtE.ret ⟨_, _, rfl⟩
 ·simp -implicitDefEqProofs only [rdl, Ex.same, Nat.beq]
  exact EvtE.ret ⟨_, _, rfl⟩
theorem lok_loop {l : Rows} (hl : labB l) (hn : l.length ≤ 1000) : ∀ (k i : Nat), l.length - i ≤ k → EvtE (fun y => y = (.exit 0, [.fz 2 l]) ∨ ∃ b : Bool, y = (.ret, [.v (.bool b)])) (fun d m => l146x0 (TabD (fs SK) d) d m [.fz 2 l, .v (.int .i64 (i : Int))]) := by
 have stop : ∀ i : Nat, l.length ≤ i → EvtE (fun y => y = (.exit 0, [.fz 2 l]) ∨ ∃ b : Bool, y = (.ret, [.v (.bool b)])) (fun d m => l146x0 (TabD (fs SK) d) d m [.fz 2 l, .v (.int .i64 (i : Int))]) := fun i hi => by
  refine eve_succ ?_
  simp only [l146x0s]
  simp -implicitDefEqProofs only [rdl, Ex.same, Nat.beq, show decide ((i : Int) < (l.length : Int)) = false from decide_eq_false (by omega)]
  exact EvtE.ret (.inl rfl)
 intro k
 induction k with
 | zero => intro i hk; exact stop i (by omega)
 | succ k ih =>
  intro i hk
  rcases Nat.lt_or_ge i l.length with hlt | hge
  ·obtain ⟨u, v, hu, hv, hx⟩ := hl.at hlt
   refine eve_succ ?_
   simp only [l146x0s]
   simp -implicitDefEqProofs only [rdl, Ex.same, Nat.beq, decide_eq_true (Int.ofNat_lt.2 hlt), dec_nn, look_at hx, wrap_succ hlt (show l.length ≤ maxLen by simp only [maxLen]; omega)]
   refine eve_call (f20 (by simp only [maxLen]; omega)) ?_
   simp -implicitDefEqProofs only [rdl, Ex.same, Nat.beq]
   refine eve_if (fun c1 => ?_) (fun c1 => EvtE.ret (.inr ⟨_, rfl⟩))
   refine eve_call (f20 (by simp only [maxLen]; omega)) ?_
   simp -implicitDefEqProofs only [rdl, Ex.same, Nat.beq]
   refine eve_if (fun c2 => ?_) (fun c2 => EvtE.ret (.inr ⟨_, rfl⟩))
   refine eve_if (fun c3 => ?_) (fun c3 => ih (i + 1) (by omega))
   have h1 : 0 < i := by simp at c3; omega
   obtain ⟨j, rfl⟩ : ∃ j, i = j + 1 := ⟨i - 1, by omega⟩
   have hw : IntKind.i64.wrap (((j + 1 : Nat) : Int) - 1) = (j : Int) := by rw [wrap_i64 (by omega) (by omega)]; omega
   obtain ⟨u2, v2, hu2, hv2, hx2⟩ := hl.at (i := j) (by omega)
   simp -implicitDefEqProofs only [rdl, Ex.same, Nat.beq, hw, dec_nn, look_at hx2]
   refine eve_if (fun c4 => EvtE.ret (.inr ⟨_, rfl⟩)) (fun c4 => ih (j + 1 + 1) (by omega))
  ·exact stop i hge
theorem t146 {l : Rows} (hl : labB l) (hn : l.length ≤ 1000) : EvE (fs SK) 146 [.d (.s 2 l)] fun o => ∃ b : Bool, o = ⟨.d (.v (.bool b)), []⟩ := by
 refine EvE.of (af := a146) rfl rfl (EvtE.congr (fun d n => a146q ..) ?_)
 refine eve_aft (L := fun d m => l146x0 (TabD (fs SK) d) d m [.fz 2 l, .v (.int .i64 0)]) (lok_loop hl hn _ 0 (Nat.le_refl _)) ?_
 rintro y (rfl | ⟨b, rfl⟩)
 ·simp -implicitDefEqProofs only [rdl, Ex.same, Nat.beq]
  exact EvtE.ret ⟨_, rfl⟩
 ·simp -implicitDefEqProofs only [rdl, Ex.same, Nat.beq]
  exact EvtE.ret ⟨_, rfl⟩
theorem t147 {l : Rows} (hl : labB l) (hn : l.length ≤ 1000) : Ev (fs SK) 147 [.d (.s 2 l)] ⟨.d (.s 2 l), []⟩ := by
 refine Ev.of (af := a147) rfl rfl (Evt.congr (fun d n => a147q ..) ?_)
 have hf : flatRows l = true := List.all_eq_true.2 fun x hx => by obtain ⟨s, t, _, _, rfl⟩ := hl x hx; rfl
 refine ev_tst hf ?_
 refine ev_tst (decide_eq_true (by simp only [List.length_nil, maxBytes]; omega)) ?_
 exact Evt.ret' (by rw [List.nil_append])
theorem ls_loop {l : Rows} (hl : labB l) (hn : l.length ≤ 1000) {s t : ByteArray} (hs : s.size ≤ 21) (ht : t.size ≤ 21) : ∀ (k i : Nat), l.length - i ≤ k → i ≤ l.length → ∀ (acc : Rows) (b : Bool), labB acc → acc.length ≤ i + 1 → (b = false → acc.length ≤ i) →
  EvtE (fun y => ∃ (acc : Rows) (b : Bool), labB acc ∧ acc.length ≤ l.length + 1 ∧ (b = false → acc.length ≤ l.length) ∧ y = (.exit 0, [.v (.string s), .v (.string t), .o 2 acc, .v (.bool b)])) (fun d m => l129x0 (TabD (fs SK) d) d m [.fz 2 l, .v (.string s), .v (.string t), .o 2 acc, .v (.bool b), .v (.int .i64 (i : Int))]) := by
 have stop : ∀ i : Nat, i = l.length → ∀ (acc : Rows) (b : Bool), labB acc → acc.length ≤ i + 1 → (b = false → acc.length ≤ i) → EvtE (fun y => ∃ (acc : Rows) (b : Bool), labB acc ∧ acc.length ≤ l.length + 1 ∧ (b = false → acc.length ≤ l.length) ∧ y = (.exit 0, [.v (.string s), .v (.string t), .o 2 acc, .v (.bool b)])) (fun d m => l129x0 (TabD (fs SK) d) d m [.fz 2 l, .v (.string s), .v (.string t), .o 2 acc, .v (.bool b), .v (.int .i64 (i : Int))]) := fun i hi acc b h1 h2 h3 => by
  subst hi
  refine eve_succ ?_
  simp only [l129x0s]
  simp -implicitDefEqProofs only [rdl, Ex.same, Nat.beq, Int.lt_irrefl, decide_false]
  exact EvtE.ret ⟨_, _, h1, h2, h3, rfl⟩
 intro k
 induction k with
 | zero => intro i hk hi acc b h1 h2 h3; exact stop i (by omega) acc b h1 h2 h3
 | succ k ih =>
  intro i hk hi acc b h1 h2 h3
  rcases Nat.lt_or_ge i l.length with hlt | hge
  ·obtain ⟨u, v, hu, hv, hx⟩ := hl.at hlt
   refine eve_succ ?_
   simp only [l129x0s]
   simp -implicitDefEqProofs only [rdl, Ex.same, Nat.beq, decide_eq_true (Int.ofNat_lt.2 hlt), dec_nn, look_at hx, wrap_succ hlt (show l.length ≤ maxLen by simp only [maxLen]; omega)]
   have plain_ : EvtE (fun y => ∃ (acc : Rows) (b : Bool), labB acc ∧ acc.length ≤ l.length + 1 ∧ (b = false → acc.length ≤ l.length) ∧ y = (.exit 0, [.v (.string s), .v (.string t), .o 2 acc, .v (.bool b)])) (fun d m => bif !(bytesEq u s) then tst (decide ((acc.length + ([[(.v (.string u)), (.v (.string v))]] : Rows).length) * 32 ≤ maxBytes)) (l129x0 (TabD (fs SK) d) d m [.fz 2 l, .v (.string s), .v (.string t), .o 2 (acc ++ [[(.v (.string u)), (.v (.string v))]]), .v (.bool b), .v (.int .i64 ((i + 1 : Nat) : Int))]) else l129x0 (TabD (fs SK) d) d m [.fz 2 l, .v (.string s), .v (.string t), .o 2 acc, .v (.bool b), .v (.int .i64 ((i + 1 : Nat) : Int))]) := by
    refine eve_if (fun c => ?_) (fun c => ?_)
    ·refine eve_tst (decide_eq_true (by simp only [List.length_cons, List.length_nil, maxBytes]; omega)) ?_
     exact ih (i + 1) (by omega) hlt _ _ (h1.snoc hu hv) (by simp; omega) (fun h => by have := h3 h; simp; omega)
    ·exact ih (i + 1) (by omega) hlt _ _ h1 (by omega) (fun h => by have := h3 h; omega)
   refine eve_if (fun c1 => ?_) (fun c1 => ?_)
   ·have hb : b = false := by cases b with | false => rfl | true => simp at c1
    have h3 := h3 hb
    refine eve_if (fun c2 => ?_) (fun c2 => ?_)
    ·refine eve_tst (decide_eq_true (by simp only [List.length_cons, List.length_nil, maxBytes]; omega)) ?_
     try simp -implicitDefEqProofs only [rdl, Ex.same, Nat.beq, dec_nn, look_at hx]
     refine eve_if (fun c => ?_) (fun c => ?_)
     ·refine eve_tst (decide_eq_true (by simp only [List.length_append, List.length_cons, List.length_nil, maxBytes]; omega)) ?_
      exact ih (i + 1) (by omega) hlt _ _ ((h1.snoc hs ht).snoc hu hv) (by simp; omega) (fun h => by cases h)
     ·exact ih (i + 1) (by omega) hlt _ _ (h1.snoc hs ht) (by simp; omega) (fun h => by cases h)
    ·exact plain_
   ·exact plain_
  ·exact stop i (by omega) acc b h1 h2 h3
theorem t129 {l : Rows} (hl : labB l) (hn : l.length ≤ 900) {s t : ByteArray} (hs : s.size ≤ 21) (ht : t.size ≤ 21) : EvE (fs SK) 129 [.d (.s 2 l), .d (.v (.string s)), .d (.v (.string t))] fun o => ∃ (l' : Rows) (b : Bool), labB l' ∧ l'.length ≤ l.length + 1 ∧ o = ⟨.t [.d (.s 2 l'), .d (.v (.bool b))], []⟩ := by
 refine EvE.of (af := a129) rfl rfl (EvtE.congr (fun d n => a129q ..) ?_)
 refine eve_callE (t145 hl (by omega) s) ?_
 rintro o ⟨t1, b1, rfl⟩
 simp -implicitDefEqProofs only [rdl, Ex.same, Nat.beq]
 refine eve_callE (t146 hl (by omega)) ?_
 rintro o ⟨b2, rfl⟩
 simp -implicitDefEqProofs only [rdl, Ex.same, Nat.beq]
 have bad : EvtE (fun o => ∃ (l' : Rows) (b : Bool), labB l' ∧ l'.length ≤ l.length + 1 ∧ o = (⟨.t [.d (.s 2 l'), .d (.v (.bool b))], []⟩ : Out)) (fun d m => callT (TabD (fs SK) d) 147 [.d (.s 2 l)] fun o21 => oD o21.res fun d22 => dL 2 d22 fun l23 => some ⟨.t [.d (.s 2 l23), .d (.v (.bool false))], []⟩) := by
  refine eve_call (t147 hl (by omega)) ?_
  simp -implicitDefEqProofs only [rdl, Ex.same, Nat.beq]
  exact EvtE.ret ⟨_, _, hl, by omega, rfl⟩
 have good : EvtE (fun o => ∃ (l' : Rows) (b : Bool), labB l' ∧ l'.length ≤ l.length + 1 ∧ o = (⟨.t [.d (.s 2 l'), .d (.v (.bool b))], []⟩ : Out)) (fun d m => aft (l129x0 (TabD (fs SK) d) d d [.fz 2 l, .v (.string s), .v (.string t), .o 2 [], .v (.bool false), .v (.int .i64 0)]) fun e47 ys48 => bif e47.same (.exit 0) then (aV ys48 0 fun x49 => aS x49 fun s50 => aV ys48 1 fun x51 => aS x51 fun s52 => aV ys48 2 fun x53 => aO 2 x53 fun l54 => aV ys48 3 fun x55 => aB x55 fun b56 => bif (!b56) then (tst (decide ((l54.length + ([[(.v (.string s50)), (.v (.string s52))]] : Rows).length) * 32 ≤ maxBytes)) (some ⟨(.t [(.d (.s 2 (l54 ++ ([[(.v (.string s50)), (.v (.string s52))]] : Rows)))), (.d (.v (.bool true)))]), []⟩)) else (some ⟨(.t [(.d (.s 2 l54)), (.d (.v (.bool true)))]), []⟩)) else none) := by
  refine eve_aft (L := fun d m => l129x0 (TabD (fs SK) d) d m [.fz 2 l, .v (.string s), .v (.string t), .o 2 [], .v (.bool false), .v (.int .i64 0)]) (ls_loop hl (by omega) hs ht _ 0 (Nat.le_refl _) (by omega) [] false (fun x hx => by simp at hx) (by simp) (by simp)) ?_
  rintro y ⟨acc, b, g1, g2, g3, rfl⟩
  simp -implicitDefEqProofs only [rdl, Ex.same, Nat.beq]
  refine eve_if (fun c => ?_) (fun c => ?_)
  ·have hb : b = false := by simpa using c
   have g3 := g3 hb
   refine eve_tst (decide_eq_true (by simp only [List.length_cons, List.length_nil, maxBytes]; omega)) ?_
   exact EvtE.ret ⟨_, _, g1.snoc hs ht, by simp; omega, rfl⟩
  ·exact EvtE.ret ⟨_, _, g1, g2, rfl⟩
 refine eve_if (fun c1 => ?_) (fun c1 => bad)
 refine eve_call (f20 (by simp only [maxLen]; omega)) ?_
 simp -implicitDefEqProofs only [rdl, Ex.same, Nat.beq]
 refine eve_if (fun c2 => ?_) (fun c2 => bad)
 refine eve_call (f20 (by simp only [maxLen]; omega)) ?_
 simp -implicitDefEqProofs only [rdl, Ex.same, Nat.beq]
 refine eve_if (fun c3 => ?_) (fun c3 => bad)
 refine eve_if (fun c4 => ?_) (fun c4 => good)
 refine eve_if (fun c5 => bad) (fun c5 => good)
theorem ld_loop {a : Option Addr} {n c : Nat} (hK : IsH SK a n) (m : Nat) (hm : m ≤ 800) : ∀ (k : Nat) (i h : Int) (l : Rows), 0 ≤ i → labB l → l.length + k ≤ m →
  EvtE (fun y => ∃ i h l, 0 ≤ i ∧ labB l ∧ l.length ≤ m ∧ y = (.exit 0, [.b (CB a n c i h), .o 2 l])) (fun d q => l100x0 (TabD (fs SK) d) d q [.b (CB a n c i h), .o 2 l, .v (.int .i64 (k : Int))]) := by
 intro k
 induction k with
 | zero =>
  intro i h l hi hl hn
  refine eve_succ ?_
  simp only [l100x0s]
  simp -implicitDefEqProofs only [rdl, Ex.same, Nat.beq, show decide (((0 : Nat) : Int) > 0) = false from rfl]
  exact EvtE.ret ⟨_, _, _, hi, hl, by omega, rfl⟩
 | succ k ih =>
  intro i h l hi hl hn
  refine eve_succ ?_
  simp only [l100x0s]
  have hw : IntKind.i64.wrap (((k + 1 : Nat) : Int) - 1) = (k : Int) := by rw [wrap_i64 (by omega) (by omega)]; omega
  simp -implicitDefEqProofs only [rdl, Ex.same, Nat.beq, show decide (((k + 1 : Nat) : Int) > 0) = true from decide_eq_true (by omega), hw]
  refine eve_callE (t78 hK hi) ?_
  rintro o ⟨_, i1, h1, ⟨s, hs, rfl⟩, hi1, rfl⟩
  simp -implicitDefEqProofs only [rdl, Ex.same, Nat.beq, hw]
  refine eve_callE (t78 hK hi1) ?_
  rintro o ⟨_, i2, h2, ⟨t, ht, rfl⟩, hi2, rfl⟩
  simp -implicitDefEqProofs only [rdl, Ex.same, Nat.beq, hw]
  refine eve_callE (t129 hl (by omega) hs ht) ?_
  rintro o ⟨l', b, g1, g2, rfl⟩
  simp -implicitDefEqProofs only [rdl, Ex.same, Nat.beq, hw]
  exact ih _ _ _ hi2 g1 (by omega)
theorem t100 {a : Option Addr} {n c : Nat} {i h : Int} (hK : IsH SK a n) (hi : 0 ≤ i) {m : Nat} (h0 : 0 < m) (hm : m ≤ 800) : EvE (fs SK) 100 [.p (CR a n c i h), .d (.v (.int .i64 (m : Int)))] (CQ a n c fun r => ∃ l, labB l ∧ l.length < m ∧ r = .d (.s 2 l)) := by
 refine EvE.of (af := a100) rfl rfl (EvtE.congr (fun d n => a100q ..) ?_)
 refine eve_callE (t44 hK hi _) ?_
 rintro o ⟨_, i1, h1, ⟨x, hx0, hx1, _, rfl⟩, hi1, rfl⟩
 have hx1 := hx1 (by omega)
 obtain ⟨k, rfl⟩ : ∃ k : Nat, x = (k : Int) := ⟨x.toNat, by omega⟩
 simp -implicitDefEqProofs only [rdl, Ex.same, Nat.beq]
 refine eve_aft (L := fun d q => l100x0 (TabD (fs SK) d) d q [.b (CB a n c i1 h1), .o 2 [], .v (.int .i64 (k : Int))]) (ld_loop hK k (by omega) k i1 h1 [] hi1 (fun x hx => by simp at hx) (by simp)) ?_
 rintro y ⟨i2, h2, l, hi2, g1, g2, rfl⟩
 simp -implicitDefEqProofs only [rdl, Ex.same, Nat.beq]
 exact EvtE.ret ⟨_, _, _, ⟨_, g1, by omega, rfl⟩, hi2, rfl⟩
end Go.Am.Fm
