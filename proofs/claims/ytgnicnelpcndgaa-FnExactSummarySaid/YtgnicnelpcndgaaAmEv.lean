/- AM: what a table says in the end; a small calculus for it. Nothing is assumed. -/
import Derived.Test.YtgnicnelpcndgaaAmPlain
set_option linter.unusedVariables false
set_option linter.unusedSimpArgs false
namespace Go.Am
def TabD (funs : List (Nat × AFun)) : Nat → Table
  | 0 => fun _ _ => none
  | d + 1 => fun fn is => match lookF fn funs with
    | some af => bif lenIs is af.modes then evalF (TabD funs d) d af is else none
    | none => none
theorem tabD_good {P : Program} {sg : Sigs} {funs : List (Nat × AFun)} (h : ∀ p ∈ funs, chkFun P sg p.1 p.2 = true) (d : Nat) : Good P sg (TabD funs d) := by
  induction d with
  | zero => exact good_none
  | succ d ih =>
    intro fn is o ho
    simp only [TabD] at ho
    split at ho
    · rename_i af haf
      cases hl : lenIs is af.modes with
      | false => simp [hl] at ho
      | true =>
        simp only [hl, cond_true] at ho
        exact evalF_ok ih (h _ (lookF_mem haf)) (lenIs_ok hl) ho
    · simp at ho
/-- In the end it says so. -/
def Evt {R : Type} (F : Nat → Nat → Option R) (x : R) : Prop := ∃ r, ∀ d n, r ≤ d → r ≤ n → F d n = some x
def Ev (fs : List (Nat × AFun)) (fn : Nat) (is : List I) (o : Out) : Prop := Evt (fun d _ => TabD fs d fn is) o
section
variable {R : Type} {fs : List (Nat × AFun)} {x : R} {F G A B : Nat → Nat → Option R} {c : Bool}
theorem Evt.ret : Evt (fun _ _ => some x) x := ⟨0, fun _ _ _ _ => rfl⟩
theorem Evt.ret' {y : R} (h : y = x) : Evt (fun _ _ => some x) y := h ▸ Evt.ret
theorem Evt.congr (h : ∀ d n, F d n = G d n) (hG : Evt G x) : Evt F x := by
  obtain ⟨r, hr⟩ := hG
  exact ⟨r, fun d n h1 h2 => by rw [h]; exact hr d n h1 h2⟩
theorem ev_succ (h : Evt (fun d n => F d (n + 1)) x) : Evt F x := by
  obtain ⟨r, hr⟩ := h
  refine ⟨r + 1, fun d n h1 h2 => ?_⟩
  obtain ⟨m, rfl⟩ : ∃ m, n = m + 1 := ⟨n - 1, by omega⟩
  exact hr d m (by omega) (by omega)
theorem Ev.of {fn : Nat} {is : List I} {o : Out} {af : AFun} (hl : lookF fn fs = some af) (hn : lenIs is af.modes = true) (h : Evt (fun d _ => evalF (TabD fs d) d af is) o) : Ev fs fn is o := by
  obtain ⟨r, hr⟩ := h
  refine ⟨r + 1, fun d n h1 h2 => ?_⟩
  obtain ⟨m, rfl⟩ : ∃ m, d = m + 1 := ⟨d - 1, by omega⟩
  simp only [TabD, hl, hn, cond_true]
  exact hr m m (by omega) (by omega)
theorem ev_call {fn : Nat} {is : List I} {o : Out} {F : Nat → Nat → Out → Option R} (h : Ev fs fn is o) (hF : Evt (fun d n => F d n o) x) : Evt (fun d n => callT (TabD fs d) fn is (F d n)) x := by
  obtain ⟨r, hr⟩ := h
  obtain ⟨r', hr'⟩ := hF
  refine ⟨r + r', fun d n h1 h2 => ?_⟩
  have := hr d d (by omega) (by omega)
  simp only at this
  simp only [callT, this]
  exact hr' d n (by omega) (by omega)
theorem ev_if (ht : c = true → Evt A x) (hf : c = false → Evt B x) : Evt (fun d n => bif c then A d n else B d n) x := by
  cases c with
  | true => exact ht rfl
  | false => exact hf rfl
theorem ev_tst (h : c = true) (hA : Evt A x) : Evt (fun d n => tst c (A d n)) x := by
  subst h
  exact hA
theorem ev_aft {L : Nat → Nat → Option (Ex × List AV)} {y : Ex × List AV} {F : Nat → Nat → Ex → List AV → Option R} (h : Evt L y) (hF : Evt (fun d n => F d n y.1 y.2) x) : Evt (fun d n => aft (L d d) (F d n)) x := by
  obtain ⟨r, hr⟩ := h
  obtain ⟨r', hr'⟩ := hF
  refine ⟨r + r', fun d n h1 h2 => ?_⟩
  simp only [hr d d (by omega) (by omega), aft]
  exact hr' d n (by omega) (by omega)
end
/-! ### reading -/
section
variable {R : Type}
theorem oD_d {d : D} {K : D → Option R} : oD (.d d) K = K d := rfl
theorem oG_g {r : Row} {K : Row → Option R} : oG (.g r) K = K r := rfl
theorem oT_t {r : List I} {K : List I → Option R} : oT (.t r) K = K r := rfl
theorem oP_p {r : Row} {K : Row → Option R} : oP (.p r) K = K r := rfl
theorem dI_v {k : IntKind} {n : Int} {K : Int → Option R} : dI k (.v (.int k n)) K = K n := by simp [dI]
theorem dB_v {b : Bool} {K : Bool → Option R} : dB (.v (.bool b)) K = K b := rfl
theorem dS_v {b : ByteArray} {K : ByteArray → Option R} : dS (.v (.string b)) K = K b := rfl
theorem dL_s {w : Nat} {r : Rows} {K : Rows → Option R} : dL w (.s w r) K = K r := by simp [dL]
theorem cell_z {d : D} {ds : Row} {K : D → Option R} : cell (d :: ds) 0 K = K d := rfl
theorem cell_s {d : D} {ds : Row} {c : Nat} {K : D → Option R} : cell (d :: ds) (c + 1) K = cell ds c K := rfl
theorem nth_z {d : I} {ds : List I} {K : I → Option R} : nth (d :: ds) 0 K = K d := rfl
theorem nth_s {d : I} {ds : List I} {c : Nat} {K : I → Option R} : nth (d :: ds) (c + 1) K = nth ds c K := rfl
theorem aV_z {d : AV} {ds : List AV} {K : AV → Option R} : aV (d :: ds) 0 K = K d := rfl
theorem aV_s {d : AV} {ds : List AV} {c : Nat} {K : AV → Option R} : aV (d :: ds) (c + 1) K = aV ds c K := rfl
theorem aI_v {k : IntKind} {n : Int} {K : Int → Option R} : aI k (.v (.int k n)) K = K n := by simp [aI]
theorem aB_v {b : Bool} {K : Bool → Option R} : aB (.v (.bool b)) K = K b := rfl
theorem aS_v {b : ByteArray} {K : ByteArray → Option R} : aS (.v (.string b)) K = K b := rfl
theorem aL_f {w : Nat} {r : Rows} {K : Rows → Option R} : aL w (.fz w r) K = K r := by simp [aL]
theorem aO_o {w : Nat} {r : Rows} {K : Rows → Option R} : aO w (.o w r) K = K r := by simp [aO]
theorem aX_b {r : List AV} {K : List AV → Option R} : aX (.b r) K = K r := rfl
theorem tst_t {K : Option R} : tst true K = K := rfl
theorem look_at {rows : Rows} {i : Nat} {x : Row} {K : Row → Option R} (h : rows[i]? = some x) : look rows i K = K x := by simp [look, h]
theorem look_mid {pre post : Rows} {x : Row} {K : Row → Option R} : look (pre ++ x :: post) pre.length K = K x := by simp [look]
theorem setD_mid {pre post : Rows} {x : Row} {c : Nat} {d : D} : setD (pre ++ x :: post) pre.length c d = pre ++ x.set c d :: post := by
  unfold setD
  induction pre with
  | nil => simp
  | cons y pre ih => simpa using ih
end
/-! ### shapes, taken apart -/
section
variable {E : TypeId → List Sh} {ks : List Sh} {r : Row}
/-- A slice of elements of this type. -/
def SL (E : TypeId → List Sh) (t : TypeId) (l : Rows) : Prop := l.length ≤ maxLen ∧ ShR E (E t) l
theorem SL.at {t : TypeId} {l : Rows} {i : Nat} {x : Row} (h : SL E t l) (hx : l[i]? = some x) : ShL E (E t) x := h.2.mem x (List.mem_of_getElem? hx)
theorem SL.le {t : TypeId} {l : Rows} (h : SL E t l) : l.length ≤ maxLen := h.1
theorem SL.mid {t : TypeId} {pre post : Rows} {x : Row} (h : SL E t (pre ++ x :: post)) : ShL E (E t) x := h.2.mem x (by simp)
theorem inv_nil (h : ShL E [] r) : r = [] := by cases h; rfl
theorem inv_i {k : IntKind} (h : ShL E (.i k :: ks) r) : ∃ n r', r = .v (.int k n) :: r' ∧ (k.min ≤ n ∧ n ≤ k.max) ∧ ShL E ks r' := by
  cases h with | cons h h' => cases h with | i h0 h1 => exact ⟨_, _, rfl, ⟨h0, h1⟩, h'⟩
theorem inv_b (h : ShL E (.b :: ks) r) : ∃ b r', r = .v (.bool b) :: r' ∧ ShL E ks r' := by
  cases h with | cons h h' => cases h with | b => exact ⟨_, _, rfl, h'⟩
theorem inv_s (h : ShL E (.s :: ks) r) : ∃ s r', r = .v (.string s) :: r' ∧ s.size ≤ maxLen ∧ ShL E ks r' := by
  cases h with | cons h h' => cases h with | s h0 => exact ⟨_, _, rfl, h0, h'⟩
theorem inv_sl {t : TypeId} {w : Nat} (hw : (E t).length = w) (h : ShL E (.sl t :: ks) r) : ∃ l r', r = .s w l :: r' ∧ SL E t l ∧ ShL E ks r' := by
  cases h with | cons h h' => cases h with | sl h0 h1 => subst hw; exact ⟨_, _, rfl, ⟨h0, h1⟩, h'⟩
theorem mk_i {k : IntKind} {n : Int} (h : k.min ≤ n ∧ n ≤ k.max) (h' : ShL E ks r) : ShL E (.i k :: ks) (.v (.int k n) :: r) := .cons (.i h.1 h.2) h'
theorem mk_b {b : Bool} (h' : ShL E ks r) : ShL E (.b :: ks) (.v (.bool b) :: r) := .cons .b h'
theorem mk_s {s : ByteArray} (h : s.size ≤ maxLen) (h' : ShL E ks r) : ShL E (.s :: ks) (.v (.string s) :: r) := .cons (.s h) h'
theorem mk_sl {t : TypeId} {w : Nat} {l : Rows} (hw : (E t).length = w) (h : SL E t l) (h' : ShL E ks r) : ShL E (.sl t :: ks) (.s w l :: r) := by
  subst hw
  exact .cons (.sl h.1 h.2) h'
end
/-! ### sizes -/
abbrev io (m : Int) : Out := ⟨.d (.v (.int .i64 m)), []⟩
/-- What is left of a measure, or that nothing is. -/
def SzG {R : Type} (N : R) (Y : Int → R) (F : Nat → Nat → Option R) (Q : Int → Prop) : Prop := Evt F N ∨ ∃ m, 0 ≤ m ∧ Q m ∧ Evt F (Y m)
abbrev SzF (fs : List (Nat × AFun)) (fn : Nat) (x : I) (left : Int) (w : Nat) : Prop := SzG (io (-1)) io (fun d _ => TabD fs d fn [x, .d (.v (.int .i64 left))]) fun m => m + w ≤ left
abbrev big : Int := 1048576
section
variable {R : Type} {fs : List (Nat × AFun)} {N : R} {Y : Int → R} {Q : Int → Prop}
theorem SzG.map {R' : Type} {N' : R'} {Y' : Int → R'} {F : Nat → Nat → Option R} {F' : Nat → Nat → Option R'} {Q' : Int → Prop} (h : SzG N Y F Q) (hn : Evt F N → Evt F' N') (hy : ∀ m, Evt F (Y m) → Evt F' (Y' m)) (hq : ∀ m, 0 ≤ m → Q m → Q' m) : SzG N' Y' F' Q' := by
  rcases h with h | ⟨m, h0, h1, h2⟩
  · exact .inl (hn h)
  · exact .inr ⟨m, h0, hq m h0 h1, hy m h2⟩
theorem sz_ret {left : Int} (h : 0 ≤ left) (hq : Q left) : SzG N Y (fun _ _ => some (Y left)) Q := .inr ⟨left, h, hq, Evt.ret⟩
theorem sz_call {fn : Nat} {x : I} {left : Int} {w : Nat} {B : Nat → Nat → Int → Option R} (h : SzF fs fn x left w) (hB : ∀ m, 0 ≤ m → m + w ≤ left → SzG N Y (fun d n => B d n m) Q) :
    SzG N Y (fun d n => callT (TabD fs d) fn [x, .d (.v (.int .i64 left))] fun o => oD o.res fun v => dI .i64 v fun m => bif decide (m < 0) then some N else B d n m) Q := by
  rcases h with h | ⟨m, h0, h1, h2⟩
  · left
    refine ev_call h ?_
    simp only [oD_d, dI_v]
    exact Evt.ret
  · have hd : decide (m < 0) = false := by simp; omega
    rcases hB m h0 h1 with h3 | ⟨m', g0, g1, g2⟩
    · left
      refine ev_call h2 ?_
      simp only [oD_d, dI_v, hd, cond_false]
      exact h3
    · right
      refine ⟨m', g0, g1, ev_call h2 ?_⟩
      simp only [oD_d, dI_v, hd, cond_false]
      exact g2
theorem wrap_sub {left : Int} {k : Nat} (h0 : 0 ≤ left) (h1 : left ≤ big) (hk : k ≤ maxLen) : IntKind.i64.wrap (left - k) = left - k := by
  simp only [big, maxLen] at h1 hk
  simp only [IntKind.wrap, IntKind.signed, IntKind.bits]
  rcases Int.lt_or_le (left - k) 0 with h | h
  · have : (left - (k : Int)) % 2 ^ 64 = left - k + 2 ^ 64 := by omega
    simp
    omega
  · have : (left - (k : Int)) % 2 ^ 64 = left - k := by omega
    simp
    omega
theorem sz_str {left : Int} {k : Nat} {B : Nat → Nat → Option R} (h0 : 0 ≤ left) (h1 : left ≤ big) (hk : k ≤ maxLen) (hB : ∀ m, IntKind.i64.wrap (left - k) = m → 0 ≤ m → m + k ≤ left → SzG N Y B Q) :
    SzG N Y (fun d n => bif decide (IntKind.i64.wrap (left - k) < 0) then some N else B d n) Q := by
  rw [wrap_sub h0 h1 hk]
  rcases Int.lt_or_le (left - k) 0 with h | h
  · left
    simp only [decide_eq_true h, cond_true]
    exact Evt.ret
  · have hd : decide (left - (k : Int) < 0) = false := by simp; omega
    simp only [hd, cond_false]
    exact hB _ (wrap_sub h0 h1 hk) h (by omega)
theorem sz_loop {L : Nat → Nat → Int → Int → Option (Ex × List AV)} {a : Rows} {NL : Ex × List AV} {YL : Int → Ex × List AV}
    (hend : ∀ d n left, L d (n + 1) left (a.length : Int) = some (YL left))
    (hstep : ∀ (i : Nat) (x : Row) (left : Int) (Q : Int → Prop), i < a.length → a[i]? = some x → 0 ≤ left → left ≤ big → (∀ m, 0 ≤ m → m + wtRow x ≤ left → SzG NL YL (fun d n => L d n m ((i + 1 : Nat) : Int)) Q) →
      SzG NL YL (fun d n => L d (n + 1) left (i : Int)) Q) :
    ∀ left, 0 ≤ left → left ≤ big → SzG NL YL (fun d n => L d n left 0) fun m => m + wtRows a ≤ left := by
  have key : ∀ (k i : Nat), a.length - i = k → i ≤ a.length → ∀ left, 0 ≤ left → left ≤ big → SzG NL YL (fun d n => L d n left (i : Int)) fun m => m + wtRows (a.drop i) ≤ left := by
    intro k
    induction k with
    | zero =>
      intro i hk hi left h0 h1
      have : i = a.length := by omega
      subst this
      rw [List.drop_length]
      exact .inr ⟨left, h0, by simp [wtRows], ev_succ ⟨0, fun d n _ _ => hend d n left⟩⟩
    | succ k ih =>
      intro i hk hi left h0 h1
      have hlt : i < a.length := by omega
      rw [List.drop_eq_getElem_cons hlt, wtRows]
      have := hstep i a[i] left (fun m => m + (wtRow a[i] + wtRows (a.drop (i + 1)) : Nat) ≤ left) hlt (List.getElem?_eq_getElem hlt) h0 h1 fun m hm0 hm1 =>
        (ih (i + 1) (by omega) (by omega) m hm0 (by omega)).map id (fun _ => id) fun m' _ h => by omega
      exact this.map (fun h => ev_succ h) (fun m h => ev_succ h) fun _ _ h => h
  intro left h0 h1
  simpa using key a.length 0 (by omega) (by omega) left h0 h1
/-- What a function makes of its loop. -/
def szEnd (e : Ex) (ys : List AV) : Option Out := bif e.same .ret then (aV ys 0 fun x => aI .i64 x fun n => some (io n)) else (bif e.same (.exit 0) then (aV ys 0 fun x => aI .i64 x fun n => some (io n)) else none)
theorem SzF.of {fn : Nat} {x : I} {af : AFun} {left : Int} {w : Nat} {F : Nat → Nat → Option Out} (hf : lookF fn fs = some af) (hn : lenIs [x, .d (.v (.int .i64 left))] af.modes = true)
    (heq : ∀ d n, evalF (TabD fs d) d af [x, .d (.v (.int .i64 left))] = F d n) (h : SzG (io (-1)) io F fun m => m + w ≤ left) : SzF fs fn x left w :=
  h.map (fun h => Ev.of hf hn (Evt.congr (fun d n => heq d n) h)) (fun m h => Ev.of hf hn (Evt.congr (fun d n => heq d n) h)) fun _ _ h => h
theorem sz_rows (L : Nat → Nat → Int → Int → Option (Ex × List AV)) {fn w : Nat} {af : AFun} {a : Rows} (hf : lookF fn fs = some af) (hn : af.modes = [.rd, .rd])
    (heq : ∀ d left, evalF (TabD fs d) d af [.d (.s w a), .d (.v (.int .i64 left))] = bif decide (IntKind.i64.wrap (left - a.length) < 0) then some (io (-1)) else aft (L d d (IntKind.i64.wrap (left - a.length)) 0) szEnd)
    (hm : a.length ≤ maxLen)
    (hend : ∀ d n left, L d (n + 1) left (a.length : Int) = some (.exit 0, [AV.v (.int .i64 left)]))
    (hstep : ∀ (i : Nat) (x : Row) (left : Int) (Q : Int → Prop), i < a.length → a[i]? = some x → 0 ≤ left → left ≤ big → (∀ m, 0 ≤ m → m + wtRow x ≤ left → SzG (Ex.ret, [AV.v (.int .i64 (-1))]) (fun m => (Ex.exit 0, [AV.v (.int .i64 m)])) (fun d n => L d n m ((i + 1 : Nat) : Int)) Q) →
      SzG (Ex.ret, [AV.v (.int .i64 (-1))]) (fun m => (Ex.exit 0, [AV.v (.int .i64 m)])) (fun d n => L d (n + 1) left (i : Int)) Q) :
    ∀ left, 0 ≤ left → left ≤ big → SzF fs fn (.d (.s w a)) left (a.length + wtRows a) := by
  intro left h0 h1
  refine SzF.of hf (by rw [hn]; rfl) (fun d n => heq d left) (sz_str h0 h1 hm fun m hm0 hm1 hm2 => ?_)
  rw [hm0]
  exact (sz_loop hend hstep m hm1 (by omega)).map (fun h => ev_aft (F := fun _ _ => szEnd) h Evt.ret) (fun m h => ev_aft (F := fun _ _ => szEnd) h Evt.ret) fun _ _ h => by omega
theorem wt_at {l : Rows} {i : Nat} {x : Row} (h : l[i]? = some x) : wtRow x + 1 ≤ l.length + wtRows l := by
  induction l generalizing i with
  | nil => simp at h
  | cons y l ih =>
    cases i with
    | zero => simp at h; subst h; simp only [wtRows, List.length_cons]; omega
    | succ i => have := ih (by simpa using h); simp only [wtRows, List.length_cons]; omega
theorem wt_mid {pre post : Rows} {x : Row} : wtRow x + 1 ≤ (pre ++ x :: post).length + wtRows (pre ++ x :: post) := wt_at (i := pre.length) (by simp)
end
/-! ### sameness -/
section
variable {R : Type} {fs : List (Nat × AFun)} {X A : Nat → Nat → Option R} {N : R} {b c : Bool}
/-- Goes on as X if b, and else ends with N. -/
def Stp (F X : Nat → Nat → Option R) (N : R) (b : Bool) : Prop := ∀ res, (b = true → Evt X res) → (b = false → res = N) → Evt F res
theorem stp_if (h : c = true → Stp A X N b) : Stp (fun d n => bif c then A d n else some N) X N (c && b) := by
  intro res k k'
  cases hc : c with
  | true => exact h hc res (fun h => k (by simp [hc, h])) (fun h => k' (by simp [hc, h]))
  | false => exact Evt.ret' (k' (by simp [hc]))
theorem stp_call {fn : Nat} {is : List I} {F : Nat → Nat → Bool → Option R} (h : Ev fs fn is (bo c)) (hF : Stp (fun d n => F d n c) X N b) : Stp (fun d n => callT (TabD fs d) fn is fun o => oD o.res fun v => dB v (F d n)) X N b := fun res k k' =>
  ev_call (F := fun d n o => oD o.res fun v => dB v (F d n)) h (hF res k k')
theorem stp_end : Stp X X N true := fun _ k _ => k rfl
theorem stp_ret : Stp (fun _ _ => some (bo b)) (fun _ _ => some (bo true)) (bo false) b := fun res k k' => by
  cases b with
  | true => exact k rfl
  | false => exact Evt.ret' (k' rfl)
theorem Stp.conv {F : Nat → Nat → Option R} {b' : Bool} (h : Stp F X N b) (hb : b = b') : Stp F X N b' := hb ▸ h
theorem stp_loop {L : Nat → Nat → Option (Ex × List AV)} {y : Ex × List AV} {F : Nat → Nat → Ex → List AV → Option R} (h : Evt L (bif c then y else (.ret, [.v (.bool false)]))) (hF : Stp (fun d n => F d n y.1 y.2) X N b) (hN : ∀ d n, F d n .ret [.v (.bool false)] = some N) :
    Stp (fun d n => aft (L d d) (F d n)) X N (c && b) := fun res k k' => by
  cases c with
  | true => exact ev_aft h (hF res (fun h => k (by simp [h])) (fun h => k' (by simp [h])))
  | false =>
    refine ev_aft h ?_
    rw [k' rfl]
    exact ⟨0, fun d n _ _ => hN d n⟩
/-- A function that says whether. -/
theorem Ev.bo {fn : Nat} {is : List I} {af : AFun} {F : Nat → Nat → Option Out} (hf : lookF fn fs = some af) (hn : lenIs is af.modes = true) (heq : ∀ d n, evalF (TabD fs d) d af is = F d n)
    (h : Stp F (fun _ _ => some (bo true)) (bo false) b) : Ev fs fn is (bo b) :=
  Ev.of hf hn (Evt.congr (fun d n => heq d n) (h _ (fun h => by subst h; exact Evt.ret) fun h => by subst h; rfl))
theorem eq_loopE {L : Nat → Nat → Int → Option (Ex × List AV)} {a b : Rows} {y : Ex × List AV} (hl : a.length = b.length)
    (hend : ∀ d n, L d (n + 1) (a.length : Int) = some y)
    (hstep : ∀ (i : Nat) (x x' : Row), i < a.length → i < b.length → a[i]? = some x → b[i]? = some x' → Stp (fun d n => L d (n + 1) (i : Int)) (fun d n => L d n ((i + 1 : Nat) : Int)) (.ret, [.v (.bool false)]) (eqRow x x')) :
    Evt (fun d n => L d n 0) (bif eqRows a b then y else (.ret, [.v (.bool false)])) := by
  have key : ∀ (k i : Nat), a.length - i = k → i ≤ a.length → Evt (fun d n => L d n (i : Int)) (bif eqRows (a.drop i) (b.drop i) then y else (.ret, [.v (.bool false)])) := by
    intro k
    induction k with
    | zero =>
      intro i hk hi
      have : i = a.length := by omega
      subst this
      rw [List.drop_length, hl, List.drop_length]
      exact ev_succ ⟨0, fun d n _ _ => by rw [← hl]; exact hend d n⟩
    | succ k ih =>
      intro i hk hi
      have hlt : i < a.length := by omega
      have hlt' : i < b.length := by omega
      rw [List.drop_eq_getElem_cons hlt, List.drop_eq_getElem_cons hlt', eqRows]
      refine ev_succ (hstep i a[i] b[i] hlt hlt' (List.getElem?_eq_getElem hlt) (List.getElem?_eq_getElem hlt') _ (fun h => ?_) fun h => ?_)
      · rw [h, Bool.true_and]
        exact ih (i + 1) (by omega) (by omega)
      · rw [h, Bool.false_and, cond_false]
  simpa using key a.length 0 (by omega) (by omega)
theorem beq_t {c : Bool} : (c == true) = c := by cases c <;> rfl
theorem beq_f {c : Bool} : (c == false) = !c := by cases c <;> rfl
theorem beq_nat {m n : Nat} : ((m : Int) == (n : Int)) = (m == n) := by
  rw [Bool.eq_iff_iff]; simp; omega
theorem bne_not {α : Type} [BEq α] {a b : α} : (a != b) = !(a == b) := rfl
theorem dec_nn {i : Nat} : decide (0 ≤ (i : Int)) = true := by simp
theorem len_of {m n : Nat} (h : (m == n) = true) : m = n := by simpa using h
end
/-! ### copies -/
theorem to_loop {L : Nat → Nat → Rows → Int → Option (Ex × List AV)} {a : Rows} {z : Row} {Y : Rows → Ex × List AV}
    (hend : ∀ d n acc, L d (n + 1) acc (a.length : Int) = some (Y acc))
    (hstep : ∀ (pre : Rows) (x : Row) (post : Rows) (res : Ex × List AV), a = pre ++ x :: post → pre.length < a.length → Evt (fun d n => L d n (pre ++ x :: List.replicate post.length z) ((pre.length + 1 : Nat) : Int)) res →
      Evt (fun d n => L d (n + 1) (pre ++ z :: List.replicate post.length z) (pre.length : Int)) res) :
    Evt (fun d n => L d n (List.replicate a.length z) 0) (Y a) := by
  have key : ∀ (post pre : Rows), a = pre ++ post → Evt (fun d n => L d n (pre ++ List.replicate post.length z) (pre.length : Int)) (Y a) := by
    intro post
    induction post with
    | nil =>
      intro pre h
      simp only [List.append_nil] at h
      subst h
      refine ev_succ ⟨0, fun d n _ _ => ?_⟩
      simpa using hend d n a
    | cons x post ih =>
      intro pre h
      have h' := ih (pre ++ [x]) (by simpa using h)
      simp only [List.append_assoc, List.cons_append, List.nil_append, List.length_append, List.length_cons, List.length_nil, Nat.zero_add] at h'
      exact ev_succ (hstep pre x post _ h (by rw [h]; simp) h')
  simpa using key a [] rfl
def toEnd (w : Nat) (e : Ex) (ys : List AV) : Option Out := bif e.same (.exit 0) then (aV ys 0 fun x => aO w x fun l => some ⟨.d (.s w l), []⟩) else none
theorem cut_same {n : Nat} (h : n ≤ maxLen) : cutOk (n : Int) (n : Int) maxLen = true := by simp [cutOk]; omega
theorem to_rows {fs : List (Nat × AFun)} (L : Nat → Nat → Rows → Int → Option (Ex × List AV)) {fn w c : Nat} {z : Row} {af : AFun} {a : Rows} (hf : lookF fn fs = some af) (hn : af.modes = [.rd])
    (heq : ∀ d, evalF (TabD fs d) d af [.d (.s w a)] = tst (cutOk (a.length : Int) (a.length : Int) maxLen && decide (Int.toNat (a.length : Int) * c ≤ maxBytes)) (aft (L d d (List.replicate (Int.toNat (a.length : Int)) z) 0) (toEnd w)))
    (hm : a.length ≤ 1048576) (hc : c ≤ 100000)
    (hend : ∀ d n acc, L d (n + 1) acc (a.length : Int) = some (.exit 0, [.o w acc]))
    (hstep : ∀ (pre : Rows) (x : Row) (post : Rows) (res : Ex × List AV), a = pre ++ x :: post → pre.length < a.length → Evt (fun d n => L d n (pre ++ x :: List.replicate post.length z) ((pre.length + 1 : Nat) : Int)) res →
      Evt (fun d n => L d (n + 1) (pre ++ z :: List.replicate post.length z) (pre.length : Int)) res) : Ev fs fn [.d (.s w a)] ⟨.d (.s w a), []⟩ := by
  refine Ev.of hf (by rw [hn]; rfl) (Evt.congr (fun d n => heq d) ?_)
  refine ev_tst ?_ ?_
  · rw [cut_same (by simp only [maxLen]; omega), Bool.true_and, Int.toNat_natCast]
    have : a.length * c ≤ 1048576 * 100000 := Nat.mul_le_mul hm hc
    exact decide_eq_true (by simp only [maxBytes]; omega)
  · rw [Int.toNat_natCast]
    refine ev_aft (F := fun _ _ => toEnd w) (to_loop hend hstep) ?_
    simp only [toEnd, Ex.same, Nat.beq, cond_true, aV_z, aO_o]
    exact Evt.ret
theorem mid_lt {pre post : Rows} {x : Row} : decide ((pre.length : Int) < ((pre ++ x :: post).length : Int)) = true := by simp; omega
theorem mid_lt' {pre post : Rows} {x : Row} : decide (pre.length < (pre ++ x :: post).length) = true := by simp
end Go.Am
