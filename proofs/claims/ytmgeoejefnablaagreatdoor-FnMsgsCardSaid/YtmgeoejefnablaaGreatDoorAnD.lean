/- The abstract machine AM, part D: what it computes keeps the contracts of the program. Nothing is assumed. -/
import Derived.Test.YtmgeoejefnablaaGreatDoorAnC
import Derived.Lib.Bytealg
set_option linter.unusedVariables false
set_option linter.unusedSimpArgs false
/- AM: the table of all functions, by depth; what data weigh, when they are the same; loops over rows. Nothing is assumed. -/
namespace Go.Am
def lookF (fn : Nat) : List (Nat × AFun) → Option AFun
 | [] => none
 | (n, a) :: l => bif Nat.beq n fn then some a else lookF fn l
def lenIs : List I → List Mode → Bool
 | [], [] => true
 | _ :: l, _ :: m => lenIs l m
 | _, _ => false
theorem lenIs_ok {l : List I} : ∀ {m : List Mode}, lenIs l m = true → l.length = m.length := by
 induction l with
 | nil => intro m h; cases m with
  | nil => rfl
  | cons => simp [lenIs] at h
 | cons x l ih => intro m h; cases m with
  | nil => simp [lenIs] at h
  | cons => simp only [lenIs] at h; simp [ih h]
theorem lookF_mem {fn : Nat} {funs : List (Nat × AFun)} {af : AFun} (h : lookF fn funs = some af) : (fn, af) ∈ funs := by
 induction funs with
 | nil => simp [lookF] at h
 | cons p l ih =>
  obtain ⟨n, a⟩ := p
  simp only [lookF] at h
  cases hb : Nat.beq n fn with
  | true =>
   have := Nat.eq_of_beq_eq_true hb
   subst this
   simp only [hb, cond_true, Option.some.injEq] at h
   subst h
   simp
  | false =>
   simp only [hb, cond_false] at h
   simp [ih h]
mutual
def wtD : D → Nat
 | .v (.string s) => s.size
 | .v _ => 0
 | .s _ rows => rows.length + wtRows rows
def wtRow : List D → Nat
 | [] => 0
 | d :: ds => wtD d + wtRow ds
def wtRows : List (List D) → Nat
 | [] => 0
 | r :: rs => wtRow r + wtRows rs
end
mutual
def eqD : D → D → Bool
 | .v (.int _ a), .v (.int _ b) => a == b
 | .v (.bool a), .v (.bool b) => a == b
 | .v (.string a), .v (.string b) => bytesEq a b
 | .s _ a, .s _ b => (a.length == b.length) && eqRows a b
 | _, _ => false
def eqRow : List D → List D → Bool
 | [], [] => true
 | a :: as, b :: bs => eqD a b && eqRow as bs
 | _, _ => false
def eqRows : List (List D) → List (List D) → Bool
 | [], [] => true
 | a :: as, b :: bs => eqRow a b && eqRows as bs
 | _, _ => false
end
abbrev bo (b : Bool) : Out := ⟨.d (.v (.bool b)), []⟩
theorem wrap_succ {i m : Nat} (h : i < m) (hm : m ≤ maxLen) : IntKind.i64.wrap ((i : Int) + 1) = ((i + 1 : Nat) : Int) := by
 rw [wrap64 (by omega) (by simp only [maxLen] at hm ⊢; omega)]
 omega
end Go.Am
/- AM: what a table says in the end; a small calculus for it. Nothing is assumed. -/
namespace Go.Am
structure Fns where
 funs : List (Nat × AFun)
 nat : Table → Table
noncomputable def TabD (fs : Fns) : Nat → Table
 | 0 => fun _ _ => none
 | d + 1 => fun fn is => match lookF fn fs.funs with
  | some af => bif lenIs is af.modes then evalF (TabD fs d) d af is else none
  | none => fs.nat (TabD fs d) fn is
theorem tabD_good {P : Program} {sg : Sigs} {K : Src} {fs : Fns} (h : ∀ p ∈ fs.funs, chkFun P sg p.1 p.2 = true) (hn : ∀ T, Good P sg K T → Good P sg K (fs.nat T)) (h0 : lookF 0 fs.funs = none) (d : Nat) : Good P sg K (TabD fs d) := by
 induction d with
 | zero => exact good_none
 | succ d ih =>
  refine ⟨fun fn is o ho => ?_, fun mk b n c i o ho => ?_⟩
  ·simp only [TabD] at ho
   split at ho
   ·rename_i af haf
    cases hl : lenIs is af.modes with
    | false => simp [hl] at ho
    | true =>
     simp only [hl, cond_true] at ho
     exact evalF_ok ih (h _ (lookF_mem haf)) (lenIs_ok hl) ho
   ·exact (hn _ ih).1 fn is o ho
  ·simp only [TabD, h0] at ho
   exact (hn _ ih).2 mk b n c i o ho
def Evt {R : Type} (F : Nat → Nat → Option R) (x : R) : Prop := ∃ r, ∀ d n, r ≤ d → r ≤ n → F d n = some x
def Ev (fs : Fns) (fn : Nat) (is : List I) (o : Out) : Prop := Evt (fun d _ => TabD fs d fn is) o
section
variable {R : Type} {fs : Fns} {x : R} {F G A B : Nat → Nat → Option R} {c : Bool}
theorem Evt.ret : Evt (fun _ _ => some x) x := ⟨0, fun _ _ _ _ => rfl⟩
theorem Evt.ret' {y : R} (h : y = x) : Evt (fun _ _ => some x) y := h ▸ Evt.ret
theorem Evt.congr (h : ∀ d n, F d n = G d n) (hG : Evt G x) : Evt F x := by
 obtain ⟨r, hr⟩ := hG
 exact ⟨r, fun d n h1 h2 => by rw [h]; exact hr d n h1 h2⟩
theorem ev_succ (h : Evt (fun d n => F d (n + 1)) x) : Evt F x := by
 obtain ⟨r, hr⟩ := h
 refine ⟨r + 1, fun d n h1 h2 => ?_⟩
 obtain ⟨m, rfl⟩ : ∃ m, n = m + 1 := ⟨n - 1, by omega⟩
 exact hr d m (by omega) (by omega)
theorem Ev.of {fn : Nat} {is : List I} {o : Out} {af : AFun} (hl : lookF fn fs.funs = some af) (hn : lenIs is af.modes = true) (h : Evt (fun d _ => evalF (TabD fs d) d af is) o) : Ev fs fn is o := by
 obtain ⟨r, hr⟩ := h
 refine ⟨r + 1, fun d n h1 h2 => ?_⟩
 obtain ⟨m, rfl⟩ : ∃ m, d = m + 1 := ⟨d - 1, by omega⟩
 simp only [TabD, hl, hn, cond_true]
 exact hr m m (by omega) (by omega)
theorem Ev.nat {fn : Nat} {is : List I} {o : Out} (hl : lookF fn fs.funs = none) (h : Evt (fun d _ => fs.nat (TabD fs d) fn is) o) : Ev fs fn is o := by
 obtain ⟨r, hr⟩ := h
 refine ⟨r + 1, fun d n h1 h2 => ?_⟩
 obtain ⟨m, rfl⟩ : ∃ m, d = m + 1 := ⟨d - 1, by omega⟩
 simp only [TabD, hl]
 exact hr m m (by omega) (by omega)
theorem ev_call {fn : Nat} {is : List I} {o : Out} {F : Nat → Nat → Out → Option R} (h : Ev fs fn is o) (hF : Evt (fun d n => F d n o) x) : Evt (fun d n => callT (TabD fs d) fn is (F d n)) x := by
 obtain ⟨r, hr⟩ := h
 obtain ⟨r', hr'⟩ := hF
 refine ⟨r + r', fun d n h1 h2 => ?_⟩
 have := hr d d (by omega) (by omega)
 simp only at this
 simp only [callT, this]
 exact hr' d n (by omega) (by omega)
theorem ev_if (ht : c = true → Evt A x) (hf : c = false → Evt B x) : Evt (fun d n => bif c then A d n else B d n) x := by
 cases c with
 | true => exact ht rfl
 | false => exact hf rfl
theorem ev_tst (h : c = true) (hA : Evt A x) : Evt (fun d n => tst c (A d n)) x := by
 subst h
 exact hA
theorem ev_aft {L : Nat → Nat → Option (Ex × List AV)} {y : Ex × List AV} {F : Nat → Nat → Ex → List AV → Option R} (h : Evt L y) (hF : Evt (fun d n => F d n y.1 y.2) x) : Evt (fun d n => aft (L d d) (F d n)) x := by
 obtain ⟨r, hr⟩ := h
 obtain ⟨r', hr'⟩ := hF
 refine ⟨r + r', fun d n h1 h2 => ?_⟩
 simp only [hr d d (by omega) (by omega), aft]
 exact hr' d n (by omega) (by omega)
end
section
variable {R : Type}
theorem rdl :
  (∀ (R : Type) (k : IntKind) (row : Row) (c : Nat) (K : Int → Option R), cI k row c K = cell row c fun d => dI k d K) ∧
  (∀ (R : Type) (row : Row) (c : Nat) (K : Bool → Option R), cB row c K = cell row c fun d => dB d K) ∧
  (∀ (R : Type) (row : Row) (c : Nat) (K : ByteArray → Option R), cS row c K = cell row c fun d => dS d K) ∧
  (∀ (R : Type) (w : Nat) (row : Row) (c : Nat) (K : Rows → Option R), cL w row c K = cell row c fun d => dL w d K) ∧
  (∀ (R : Type) (d : D) (K : D → Option R), oD (.d d) K = K d) ∧
  (∀ (R : Type) (r : Row) (K : Row → Option R), oG (.g r) K = K r) ∧
  (∀ (R : Type) (r : List I) (K : List I → Option R), oT (.t r) K = K r) ∧
  (∀ (R : Type) (r : Row) (K : Row → Option R), oP (.p r) K = K r) ∧
  (∀ (R : Type) (k : IntKind) (n : Int) (K : Int → Option R), dI k (.v (.int k n)) K = K n) ∧
  (∀ (R : Type) (b : Bool) (K : Bool → Option R), dB (.v (.bool b)) K = K b) ∧
  (∀ (R : Type) (b : ByteArray) (K : ByteArray → Option R), dS (.v (.string b)) K = K b) ∧
  (∀ (R : Type) (w : Nat) (r : Rows) (K : Rows → Option R), dL w (.s w r) K = K r) ∧
  (∀ (R : Type) (d : D) (ds : Row) (K : D → Option R), cell (d :: ds) 0 K = K d) ∧
  (∀ (R : Type) (d : D) (ds : Row) (c : Nat) (K : D → Option R), cell (d :: ds) (c + 1) K = cell ds c K) ∧
  (∀ (R : Type) (d : I) (ds : List I) (K : I → Option R), nth (d :: ds) 0 K = K d) ∧
  (∀ (R : Type) (d : I) (ds : List I) (c : Nat) (K : I → Option R), nth (d :: ds) (c + 1) K = nth ds c K) ∧
  (∀ (R : Type) (d : AV) (ds : List AV) (K : AV → Option R), aV (d :: ds) 0 K = K d) ∧
  (∀ (R : Type) (d : AV) (ds : List AV) (c : Nat) (K : AV → Option R), aV (d :: ds) (c + 1) K = aV ds c K) ∧
  (∀ (R : Type) (k : IntKind) (n : Int) (K : Int → Option R), aI k (.v (.int k n)) K = K n) ∧
  (∀ (R : Type) (b : Bool) (K : Bool → Option R), aB (.v (.bool b)) K = K b) ∧
  (∀ (R : Type) (b : ByteArray) (K : ByteArray → Option R), aS (.v (.string b)) K = K b) ∧
  (∀ (R : Type) (w : Nat) (r : Rows) (K : Rows → Option R), aL w (.fz w r) K = K r) ∧
  (∀ (R : Type) (w : Nat) (r : Rows) (K : Rows → Option R), aO w (.o w r) K = K r) ∧
  (∀ (R : Type) (r : List AV) (K : List AV → Option R), aX (.b r) K = K r) ∧
  (∀ (R : Type) (row : Row) (c : Nat) (K : Option Addr → Nat → Nat → Option R), cH row c K = cell row c fun d => dH d K) ∧
  (∀ (R : Type) (b : Option Addr) (n c : Nat) (K : Option Addr → Nat → Nat → Option R), dH (.v (.slice b n c)) K = K b n c) ∧
  (∀ (R : Type) (b : Option Addr) (n c : Nat) (K : Option Addr → Nat → Nat → Option R), aH (.v (.slice b n c)) K = K b n c) ∧
  (∀ (R : Type) (K : Option R), tst true K = K) ∧
  (∀ (α : Type) (a b : α), (bif true then a else b) = a) ∧
  (∀ (α : Type) (a b : α), (bif false then a else b) = b) ∧
  (∀ (α : Type) (a : α) (l : List α), (a :: l).length = l.length + 1) ∧
  (∀ (α : Type), ([] : List α).length = 0) ∧
  (∀ n : Nat, Int.toNat (n : Int) = n) ∧
  ((true == true) = true) ∧ ((true == false) = false) ∧ ((false == true) = false) ∧ ((false == false) = true) := by
 refine ⟨?_, ?_, ?_, ?_, ?_, ?_, ?_, ?_, ?_, ?_, ?_, ?_, ?_, ?_, ?_, ?_, ?_, ?_, ?_, ?_, ?_, ?_, ?_, ?_, ?_, ?_, ?_, ?_, ?_, ?_, ?_, ?_, ?_, ?_, ?_, ?_, ?_⟩ <;> intros <;> first | rfl | simp [dI, dL, aI, aL, aO]
theorem look_at {rows : Rows} {i : Nat} {x : Row} {K : Row → Option R} (h : rows[i]? = some x) : look rows i K = K x := by simp [look, h]
theorem setD_mid {pre post : Rows} {x : Row} {c : Nat} {d : D} : setD (pre ++ x :: post) pre.length c d = pre ++ x.set c d :: post := by
 unfold setD
 induction pre with
 | nil => simp
 | cons y pre ih => simpa using ih
end
section
variable {E : TypeId → List Sh} {ks : List Sh} {r : Row}
def SL (E : TypeId → List Sh) (t : TypeId) (l : Rows) : Prop := l.length ≤ maxLen ∧ ShR E (E t) l
theorem SL.at {t : TypeId} {l : Rows} {i : Nat} {x : Row} (h : SL E t l) (hx : l[i]? = some x) : ShL E (E t) x := h.2.mem x (List.mem_of_getElem? hx)
theorem SL.le {t : TypeId} {l : Rows} (h : SL E t l) : l.length ≤ maxLen := h.1
theorem inv_nil (h : ShL E [] r) : r = [] := by cases h; rfl
theorem inv_i {k : IntKind} (h : ShL E (.i k :: ks) r) : ∃ n r', r = .v (.int k n) :: r' ∧ (k.min ≤ n ∧ n ≤ k.max) ∧ ShL E ks r' := by
 cases h with | cons h h' => cases h with | i h0 h1 => exact ⟨_, _, rfl, ⟨h0, h1⟩, h'⟩
theorem inv_s (h : ShL E (.s :: ks) r) : ∃ s r', r = .v (.string s) :: r' ∧ s.size ≤ maxLen ∧ ShL E ks r' := by
 cases h with | cons h h' => cases h with | s h0 => exact ⟨_, _, rfl, h0, h'⟩
theorem inv_sl {t : TypeId} {w : Nat} (hw : (E t).length = w) (h : ShL E (.sl t :: ks) r) : ∃ l r', r = .s w l :: r' ∧ SL E t l ∧ ShL E ks r' := by
 cases h with | cons h h' => cases h with | sl h0 h1 => subst hw; exact ⟨_, _, rfl, ⟨h0, h1⟩, h'⟩
theorem mk_i {k : IntKind} {n : Int} (h : k.min ≤ n ∧ n ≤ k.max) (h' : ShL E ks r) : ShL E (.i k :: ks) (.v (.int k n) :: r) := .cons (.i h.1 h.2) h'
theorem mk_s {s : ByteArray} (h : s.size ≤ maxLen) (h' : ShL E ks r) : ShL E (.s :: ks) (.v (.string s) :: r) := .cons (.s h) h'
theorem mk_sl {t : TypeId} {w : Nat} {l : Rows} (hw : (E t).length = w) (h : SL E t l) (h' : ShL E ks r) : ShL E (.sl t :: ks) (.s w l :: r) := by
 subst hw
 exact .cons (.sl h.1 h.2) h'
end
abbrev io (m : Int) : Out := ⟨.d (.v (.int .i64 m)), []⟩
def SzG {R : Type} (N : R) (Y : Int → R) (F : Nat → Nat → Option R) (Q : Int → Prop) : Prop := Evt F N ∨ ∃ m, 0 ≤ m ∧ Q m ∧ Evt F (Y m)
abbrev SzF (fs : Fns) (fn : Nat) (x : I) (left : Int) (w : Nat) : Prop := SzG (io (-1)) io (fun d _ => TabD fs d fn [x, .d (.v (.int .i64 left))]) fun m => m + w ≤ left
abbrev big : Int := 1048576
section
variable {R : Type} {fs : Fns} {N : R} {Y : Int → R} {Q : Int → Prop}
theorem SzG.map {R' : Type} {N' : R'} {Y' : Int → R'} {F : Nat → Nat → Option R} {F' : Nat → Nat → Option R'} {Q' : Int → Prop} (h : SzG N Y F Q) (hn : Evt F N → Evt F' N') (hy : ∀ m, Evt F (Y m) → Evt F' (Y' m)) (hq : ∀ m, 0 ≤ m → Q m → Q' m) : SzG N' Y' F' Q' := by
 rcases h with h | ⟨m, h0, h1, h2⟩
 ·exact .inl (hn h)
 ·exact .inr ⟨m, h0, hq m h0 h1, hy m h2⟩
theorem SzF.of {fn : Nat} {x : I} {af : AFun} {left : Int} {w : Nat} {F : Nat → Nat → Option Out} (hf : lookF fn fs.funs = some af) (hn : lenIs [x, .d (.v (.int .i64 left))] af.modes = true)
  (heq : ∀ d n, evalF (TabD fs d) d af [x, .d (.v (.int .i64 left))] = F d n) (h : SzG (io (-1)) io F fun m => m + w ≤ left) : SzF fs fn x left w :=
 h.map (fun h => Ev.of hf hn (Evt.congr (fun d n => heq d n) h)) (fun m h => Ev.of hf hn (Evt.congr (fun d n => heq d n) h)) fun _ _ h => h
theorem wt_at {l : Rows} {i : Nat} {x : Row} (h : l[i]? = some x) : wtRow x + 1 ≤ l.length + wtRows l := by
 induction l generalizing i with
 | nil => simp at h
 | cons y l ih =>
  cases i with
  | zero => simp at h; subst h; simp only [wtRows, List.length_cons]; omega
  | succ i => have := ih (by simpa using h); simp only [wtRows, List.length_cons]; omega
end
section
variable {R : Type} {fs : Fns} {X A : Nat → Nat → Option R} {N : R} {b c : Bool}
def Stp (F X : Nat → Nat → Option R) (N : R) (b : Bool) : Prop := ∀ res, (b = true → Evt X res) → (b = false → res = N) → Evt F res
theorem Stp.conv {F : Nat → Nat → Option R} {b' : Bool} (h : Stp F X N b) (hb : b = b') : Stp F X N b' := hb ▸ h
theorem Ev.bo {fn : Nat} {is : List I} {af : AFun} {F : Nat → Nat → Option Out} (hf : lookF fn fs.funs = some af) (hn : lenIs is af.modes = true) (heq : ∀ d n, evalF (TabD fs d) d af is = F d n)
  (h : Stp F (fun _ _ => some (bo true)) (bo false) b) : Ev fs fn is (bo b) :=
 Ev.of hf hn (Evt.congr (fun d n => heq d n) (h _ (fun h => by subst h; exact Evt.ret) fun h => by subst h; rfl))
theorem beq_t {c : Bool} : (c == true) = c := by cases c <;> rfl
theorem beq_f {c : Bool} : (c == false) = !c := by cases c <;> rfl
theorem dec_nn {i : Nat} : decide (0 ≤ (i : Int)) = true := by simp
end
end Go.Am
/- AM: the same shape under other names; what is the same as itself. Nothing is assumed. -/
namespace Go.Am
def Sh.mp (σ : TypeId → TypeId) : Sh → Sh
 | .sl t => .sl (σ t)
 | k => k
section
variable {E : TypeId → List Sh} {σ : TypeId → TypeId} {L : List TypeId}
mutual
theorem ShD.conv (hE : ∀ t ∈ L, E (σ t) = (E t).map (Sh.mp σ) ∧ slIn L (E t) = true) : ∀ {k : Sh} {d : D}, ShD E k d → slIn L [k] = true → ShD E (k.mp σ) d
 | _, _, .i h0 h1, _ => .i h0 h1
 | _, _, .b, _ => .b
 | _, _, .s h, _ => .s h
 | _, _, .sl (t := t) hl h, hk => by
  have ht : t ∈ L := by simpa [slIn] using hk
  obtain ⟨h1, h2⟩ := hE t ht
  have h3 : (E t).length = (E (σ t)).length := by rw [h1, List.length_map]
  have h4 := ShR.conv hE h h2
  rw [h3]
  exact .sl hl (by rw [h1]; exact h4)
theorem ShL.conv (hE : ∀ t ∈ L, E (σ t) = (E t).map (Sh.mp σ) ∧ slIn L (E t) = true) : ∀ {ks : List Sh} {r : Row}, ShL E ks r → slIn L ks = true → ShL E (ks.map (Sh.mp σ)) r
 | _, _, .nil, _ => .nil
 | _, _, .cons (k := k) (ks := ks) h h', hk => by
  have h1 : slIn L [k] = true ∧ slIn L ks = true := slIn_append (a := [k]) hk
  exact .cons (ShD.conv hE h h1.1) (ShL.conv hE h' h1.2)
theorem ShR.conv (hE : ∀ t ∈ L, E (σ t) = (E t).map (Sh.mp σ) ∧ slIn L (E t) = true) : ∀ {ks : List Sh} {r : Rows}, ShR E ks r → slIn L ks = true → ShR E (ks.map (Sh.mp σ)) r
 | _, _, .nil, _ => .nil
 | _, _, .cons h h', hk => .cons (ShL.conv hE h hk) (ShR.conv hE h' hk)
end
mutual
theorem ShD.refl : ∀ {k : Sh} {d : D}, ShD E k d → eqD d d = true
 | _, _, .i h0 h1 => by simp [eqD]
 | _, _, .b => by simp [eqD]
 | _, _, .s h => by simp [eqD, bytesEq]
 | _, _, .sl (t := t) hl h => by simp [eqD, ShR.refl h]
theorem ShL.refl : ∀ {ks : List Sh} {r : Row}, ShL E ks r → eqRow r r = true
 | _, _, .nil => by simp [eqRow]
 | _, _, .cons (k := k) (ks := ks) h h' => by simp [eqRow, ShD.refl h, ShL.refl h']
theorem ShR.refl : ∀ {ks : List Sh} {r : Rows}, ShR E ks r → eqRows r r = true
 | _, _, .nil => by simp [eqRows]
 | _, _, .cons h h' => by simp [eqRows, ShL.refl h, ShR.refl h']
end
end
end Go.Am
/- AM: numbers as text; loops that gather. Nothing is assumed. -/
namespace Go.Am
def one (c : Nat) : ByteArray := ⟨#[UInt8.ofNat c]⟩
def dg (n : Nat) : ByteArray := if n < 10 then one (48 + n) else dg (n / 10) ++ one (48 + n % 10)
def decS (n : Int) : ByteArray := if n < 0 then one 45 ++ dg n.natAbs else dg n.natAbs
theorem dg_small {n : Nat} (h : n < 10) : dg n = one (48 + n) := by rw [dg]; simp [h]
theorem dg_big {n : Nat} (h : 10 ≤ n) : dg n = dg (n / 10) ++ one (48 + n % 10) := by
 rw [dg]
 have : ¬ n < 10 := by omega
 simp [this]
theorem one_size (c : Nat) : (one c).size = 1 := rfl
theorem dg_size : ∀ (k n : Nat), n < 10 ^ k → (dg n).size ≤ k + 1 := by
 intro k
 induction k with
 | zero => intro n h; rw [dg_small (by simp at h; omega), one_size]; omega
 | succ k ih =>
  intro n h
  rcases Nat.lt_or_ge n 10 with h1 | h1
  ·rw [dg_small h1, one_size]; omega
  ·rw [dg_big h1, ByteArray.size_append, one_size]
   have := ih (n / 10) (by rw [Nat.pow_succ] at h; omega)
   omega
theorem decS_size {n : Int} (h0 : IntKind.i64.min ≤ n) (h1 : n ≤ IntKind.i64.max) : (decS n).size ≤ 30 := by
 have : n.natAbs < 10 ^ 20 := by simp only [IntKind.min, IntKind.max, IntKind.signed, IntKind.bits] at h0 h1; simp at h0 h1; omega
 have := dg_size 20 _ this
 unfold decS
 split
 ·rw [ByteArray.size_append, one_size]; omega
 ·omega
theorem wrap_u8 {n : Int} (h0 : 0 ≤ n) (h1 : n < 256) : IntKind.u8.wrap n = n := by
 simp only [IntKind.wrap, IntKind.signed, IntKind.bits]
 simp
 omega
theorem wrap_i32 {n : Int} (h0 : 0 ≤ n) (h1 : n < 2147483648) : IntKind.i32.wrap n = n := by
 simp only [IntKind.wrap, IntKind.signed, IntKind.bits]
 simp
 omega
theorem wrap_i64 {n : Int} (h0 : -9223372036854775808 ≤ n) (h1 : n ≤ 9223372036854775807) : IntKind.i64.wrap n = n := by
 simp only [IntKind.wrap, IntKind.signed, IntKind.bits]
 rcases Int.lt_or_le n 0 with h | h
 ·have : n % 2 ^ 64 = n + 2 ^ 64 := by omega
  simp
  omega
 ·have : n % 2 ^ 64 = n := by omega
  simp
  omega
theorem enc_one {c : Nat} (h : c < 128) : Utf8.encode (c : Int) = one c := by
 have hv : Utf8.valid (c : Int) = true := by simp [Utf8.valid]; omega
 unfold Utf8.encode
 simp [one, hv, h]
theorem dig_i32 {m : Nat} (h : m < 10) : IntKind.i32.wrap (IntKind.i64.wrap (48 + (m : Int))) = ((48 + m : Nat) : Int) := by
 rw [wrap_i64 (by omega) (by omega), wrap_i32 (by omega) (by omega)]
 omega
theorem sz_le {x y : ByteArray} {n : Nat} (h : x.size + y.size ≤ n) : decide (x.size + y.size ≤ n) = true := decide_eq_true h
theorem fold_loop {σ : Type} {L : Nat → Nat → σ → Int → Option (Ex × List AV)} {a : Rows} {f : σ → Row → σ} {Y : σ → Ex × List AV} (Inv : Nat → σ → Prop)
  (hend : ∀ d n acc, L d (n + 1) acc (a.length : Int) = some (Y acc))
  (hstep : ∀ (i : Nat) (x : Row) (acc : σ) (res : Ex × List AV), i < a.length → a[i]? = some x → Inv i acc → Evt (fun d n => L d n (f acc x) ((i + 1 : Nat) : Int)) res → Evt (fun d n => L d (n + 1) acc (i : Int)) res)
  (hinv : ∀ (i : Nat) (x : Row) (acc : σ), i < a.length → a[i]? = some x → Inv i acc → Inv (i + 1) (f acc x)) {acc : σ} (h0 : Inv 0 acc) : Evt (fun d n => L d n acc 0) (Y (a.foldl f acc)) ∧ Inv a.length (a.foldl f acc) := by
 have key : ∀ (k i : Nat), a.length - i = k → i ≤ a.length → ∀ acc, Inv i acc → Evt (fun d n => L d n acc (i : Int)) (Y ((a.drop i).foldl f acc)) ∧ Inv a.length ((a.drop i).foldl f acc) := by
  intro k
  induction k with
  | zero =>
   intro i hk hi acc hI
   have : i = a.length := by omega
   subst this
   rw [List.drop_length]
   exact ⟨ev_succ ⟨0, fun d n _ _ => hend d n acc⟩, hI⟩
  | succ k ih =>
   intro i hk hi acc hI
   have hlt : i < a.length := by omega
   have hx := List.getElem?_eq_getElem hlt
   rw [List.drop_eq_getElem_cons hlt, List.foldl_cons]
   obtain ⟨h1, h2⟩ := ih (i + 1) (by omega) (by omega) _ (hinv i _ acc hlt hx hI)
   exact ⟨ev_succ (hstep i _ acc _ hlt hx hI h1), h2⟩
 simpa using key a.length 0 (by omega) (by omega) acc h0
end Go.Am
/- AM: loops that look for something; loops that gather with an early end. Nothing is assumed. -/
namespace Go.Am
section
variable {R : Type} {fs : Fns} {X A B : Nat → Nat → Option R} {N : R} {b c : Bool}
def findN (n : Nat) (p : Nat → Bool) : Option Nat := (List.range n).find? p
theorem findN_none {n : Nat} {p : Nat → Bool} : findN n p = none ↔ ∀ i, i < n → p i = false := by simp [findN]
theorem findN_some {n i : Nat} {p : Nat → Bool} : findN n p = some i ↔ i < n ∧ p i = true ∧ ∀ j, j < i → p j = false := by
 induction n with
 | zero => simp [findN]
 | succ n ih =>
  have hs : findN (n + 1) p = (findN n p).or (if p n then some n else none) := by
   simp only [findN, List.range_succ, List.find?_append]
   congr 1
   cases h : p n <;> simp [List.find?, h]
  rw [hs]
  cases hf : findN n p with
  | some j =>
   have := ih.trans (by rfl)
   simp only [Option.some_or]
   constructor
   ·intro h
    rw [← hf] at h
    have := ih.1 h
    exact ⟨by omega, this.2⟩
   ·intro ⟨h1, h2, h3⟩
    rw [← hf]
    refine ih.2 ⟨?_, h2, h3⟩
    rcases Nat.lt_or_ge i n with h | h
    ·exact h
    ·have : i = n := by omega
     subst this
     have hj : ∀ j, findN i p = some j → j < i ∧ p j = true := fun j hj => by
      simp only [findN] at hj
      exact ⟨by simpa using List.mem_of_find?_eq_some hj, List.find?_some hj⟩
     obtain ⟨q1, q2⟩ := hj j hf
     rw [h3 j q1] at q2
     exact absurd q2 (by simp)
  | none =>
   have hn := findN_none.1 hf
   simp only [Option.none_or]
   cases hp : p n with
   | true =>
    simp only [if_true, Option.some.injEq]
    constructor
    ·rintro rfl; exact ⟨by omega, hp, hn⟩
    ·intro ⟨h1, h2, h3⟩
     rcases Nat.lt_or_ge i n with h | h
     ·rw [hn i h] at h2; exact absurd h2 (by simp)
     ·omega
   | false =>
    simp only [Bool.false_eq_true, if_false, reduceCtorEq, false_iff]
    intro ⟨h1, h2, h3⟩
    rcases Nat.lt_or_ge i n with h | h
    ·rw [hn i h] at h2; exact absurd h2 (by simp)
    ·have : i = n := by omega
     subst this
     rw [hp] at h2
     exact absurd h2 (by simp)
theorem find_loop {L : Nat → Nat → Int → Option R} {n : Nat} {p : Nat → Bool} {g : Nat → R} {y : R}
  (hend : ∀ d m, L d (m + 1) (n : Int) = some y)
  (hstep : ∀ i, i < n → Stp (fun d m => L d (m + 1) (i : Int)) (fun d m => L d m ((i + 1 : Nat) : Int)) (g i) (!p i)) :
  Evt (fun d m => L d m 0) (match findN n p with | some i => g i | none => y) := by
 have key : ∀ (k i : Nat), n - i = k → i ≤ n → (∀ j, j < i → p j = false) → Evt (fun d m => L d m (i : Int)) (match findN n p with | some i => g i | none => y) := by
  intro k
  induction k with
  | zero =>
   intro i hk hi hp
   have : i = n := by omega
   subst this
   rw [findN_none.2 hp]
   exact ev_succ ⟨0, fun d m _ _ => hend d m⟩
  | succ k ih =>
   intro i hk hi hp
   refine ev_succ (hstep i (by omega) _ (fun h => ?_) fun h => ?_)
   ·refine ih (i + 1) (by omega) (by omega) fun j hj => ?_
    rcases Nat.lt_or_ge j i with h' | h'
    ·exact hp j h'
    ·have : j = i := by omega
     subst this
     simpa using h
   ·have : findN n p = some i := findN_some.2 ⟨by omega, by simpa using h, hp⟩
    rw [this]
 simpa using key n 0 (by omega) (by omega) (by simp)
def allN (n : Nat) (p : Nat → Bool) : Bool := (List.range n).all p
theorem allN_iff {n : Nat} {p : Nat → Bool} : allN n p = true ↔ ∀ i, i < n → p i = true := by simp [allN]
theorem all_loop {L : Nat → Nat → Int → Option R} {n : Nat} {p : Nat → Bool} {y z : R}
  (hend : ∀ d m, L d (m + 1) (n : Int) = some y)
  (hstep : ∀ i, i < n → Stp (fun d m => L d (m + 1) (i : Int)) (fun d m => L d m ((i + 1 : Nat) : Int)) z (p i)) :
  Evt (fun d m => L d m 0) (bif allN n p then y else z) := by
 have := find_loop (L := L) (n := n) (p := fun i => !p i) (g := fun _ => z) (y := y) hend (fun i hi => by simpa using hstep i hi)
 cases h : allN n p with
 | true =>
  have h2 : findN n (fun i => !p i) = none := findN_none.2 fun i hi => by simp [allN_iff.1 h i hi]
  rw [h2] at this
  exact this
 | false =>
  cases hf : findN n (fun i => !p i) with
  | none =>
   have h1 := findN_none.1 hf
   have : allN n p = true := allN_iff.2 fun i hi => by simpa using h1 i hi
   rw [this] at h
   exact absurd h (by simp)
  | some i =>
   rw [hf] at this
   exact this
end
end Go.Am
/- AM: data marked by numbers in order. Nothing is assumed. -/
namespace Go.Am
section
variable {E : TypeId → List Sh} {L : List TypeId}
end
end Go.Am
/- AM: functions without a text of their own. Nothing is assumed. -/
namespace Go.Am
theorem good_or {P : Program} {sg : Sigs} {K : Src} {T U : Table} (hT : Good P sg K T) (hU : Good P sg K U) : Good P sg K (fun fn is => (T fn is).or (U fn is)) := by
 refine ⟨fun fn is o h => ?_, fun mk b n c i o h => ?_⟩
 ·cases ht : T fn is with
  | some x => simp only [ht, Option.some_or] at h; cases h; exact hT.1 fn is _ ht
  | none => simp only [ht, Option.none_or] at h; exact hU.1 fn is o h
 ·cases ht : T 0 (codeQ mk b n c i) with
  | some x => simp only [ht, Option.some_or] at h; cases h; exact hT.2 mk b n c i _ ht
  | none => simp only [ht, Option.none_or] at h; exact hU.2 mk b n c i o h
open Classical in
noncomputable def natCode (K : Src) (mk : Nat) : Table := fun fn is => match is with
 | [.f m [], .d (.v (.slice b n _)), .d (.v (.int .i64 i))] => if fn = 0 ∧ m = mk ∧ n = K.bytes.length ∧ b = some ⟨K.b, K.off, none⟩ ∧ 0 ≤ i then (K.bytes[i.toNat]?).map fun x => ⟨.d (.v (.int .u8 (x.toNat : Int))), []⟩ else none
 | _ => none
theorem code_good {P : Program} {sg : Sigs} {K : Src} {mk : Nat} (hm : sg mk ≠ none) (h0 : sg 0 = none) : Good P sg K (natCode K mk) := by
 refine ⟨fun fn is o h => ?_, fun m b n c i o h w Z hp => ?_⟩
 ·unfold natCode at h
  split at h
  ·split at h
   ·rename_i hc
    obtain ⟨rfl, rfl, _⟩ := hc
    intro w Z vs cin _ ha _
    exfalso
    simp only [Sigs.modes, h0, Option.getD_none, List.length_cons, List.length_nil, List.replicate] at ha
    cases ha with
    | rd h1 _ => cases h1 with | f hx _ => exact hm hx
   ·simp at h
  ·simp at h
 ·simp only [natCode, codeQ] at h
  split at h
  ·rename_i hc
   obtain ⟨_, rfl, rfl, rfl, hi⟩ := hc
   rw [Option.map_eq_some_iff] at h
   obtain ⟨x, hx, rfl⟩ := h
   have hlt := (List.getElem?_eq_some_iff.1 hx).1
   have hne : K.bytes ≠ [] := by intro e; rw [e] at hlt; simp at hlt
   obtain ⟨hz, hh⟩ := hp.2 hne
   refine ⟨_, _, _, rfl, rfl, hi, by omega, hz, ?_⟩
   obtain ⟨cs, el, fz, h1, h2⟩ := hh
   refine ⟨cs, el, fz, h1, fun k v hk => ?_⟩
   cases k with
   | zero =>
    simp only [List.getElem?_cons_zero, Option.some.injEq] at hk
    subst hk
    exact h2 i.toNat _ (by simp [hx])
   | succ k => simp at hk
  ·simp at h
def cN (x : Row) (c : Nat) : Int := match x[c]? with
 | some (.v (.int _ n)) => n
 | _ => 0
def cT (x : Row) (c : Nat) : ByteArray := match x[c]? with
 | some (.v (.string s)) => s
 | _ => ByteArray.empty
def cE (x : Row) (c : Nat) : Bool := match x[c]? with
 | some (.v (.bool b)) => b
 | _ => false
def cR (x : Row) (c : Nat) : Rows := match x[c]? with
 | some (.s _ l) => l
 | _ => []
abbrev Fits (n : Int) : Prop := IntKind.i64.min ≤ n ∧ n ≤ IntKind.i64.max
end Go.Am
/- AM: what names, numbers, values, works and runs must be, as plain functions of data; loops that copy. Nothing is assumed. -/
namespace Go.Am
theorem byteAt_at {R : Type} {s : ByteArray} {i : Nat} {b : UInt8} {K : UInt8 → Option R} (h : s.toList[i]? = some b) : byteAt s i K = K b := by simp [byteAt, h]
theorem toList_length {s : ByteArray} : s.toList.length = s.size := by rw [ByteArray.toList_eq]; simp
theorem byte_get {s : ByteArray} {i : Nat} (h : i < s.size) : ∃ b, s.toList[i]? = some b := by
 rw [← toList_length] at h
 exact ⟨_, List.getElem?_eq_getElem h⟩
theorem byte_wrap {b : UInt8} : IntKind.i64.wrap (b.toNat : Int) = (b.toNat : Int) := by
 have := b.toNat_lt
 exact wrap_i64 (by omega) (by omega)
theorem wrap_pred {j : Nat} (h : j ≤ maxLen) : IntKind.i64.wrap (((j + 1 : Nat) : Int) - 1) = (j : Int) := by
 rw [wrap_i64 (by omega) (by simp only [maxLen] at h; omega)]
 omega
theorem pos_succ {j : Nat} : decide (((j + 1 : Nat) : Int) > 0) = true := by simp
theorem pos_zero : decide (((0 : Nat) : Int) > 0) = false := rfl
def inB (n lo hi : Int) : Bool := decide (n ≥ lo) && decide (n ≤ hi)
def nameCh (b : UInt8) : Bool := inB (b.toNat : Int) 97 122 || inB (b.toNat : Int) 48 57 || ((b.toNat : Int) == 45)
def byteOf (s : ByteArray) (i : Nat) : Int := ((s.toList[i]?.getD 0).toNat : Int)
def nameOk (s : ByteArray) : Bool := allN s.size (fun i => nameCh (s.toList[i]?.getD 0)) && (inB (s.size : Int) 1 20 && ((byteOf s 0 != 45) && (byteOf s (s.size - 1) != 45)))
def row_ (l : Rows) (i : Nat) : Row := l[i]?.getD []
def chain (lt : Row → Row → Bool) (l : Rows) (i : Nat) : Bool := match i with
 | 0 => true
 | j + 1 => lt (row_ l j) (row_ l (j + 1))
def upT (c : Nat) (a b : Row) : Bool := bytesLess (cT a c) (cT b c)
def upN (c : Nat) (a b : Row) : Bool := !decide (cN a c ≥ cN b c)
def keysB (l : Rows) : Bool := allN l.length (fun i => nameOk (cT (row_ l i) 0) && chain (upT 0) l i)
def namesOk (l : Rows) (most : Int) : Bool := keysB l && decide ((l.length : Int) ≤ most)
def runsOk (lo : Int) (l : Rows) : Bool := allN l.length (fun i => inB (cN (row_ l i) 0) 1 1000000 && (inB (cN (row_ l i) 1) lo 10000 && chain (upN 0) l i)) && decide ((l.length : Int) ≤ 80)
def textOk (s : ByteArray) : Bool := allN s.size (fun i => inB (byteOf s i) 32 126) && decide ((s.size : Int) ≤ 100)
def bare (s : ByteArray) : Bool := bytesEq s ⟨#[]⟩
def shapeB (k : Int) (s : ByteArray) (n : Int) (keys kids : Rows) : Bool :=
 if k = 1 then textOk s && ((n == 0) && (((keys.length : Int) == 0) && ((kids.length : Int) == 0)))
 else if k = 2 then bare s && (((keys.length : Int) == 0) && ((kids.length : Int) == 0))
 else if k = 3 then bare s && (inB n 0 1 && (((keys.length : Int) == 0) && ((kids.length : Int) == 0)))
 else if k = 4 then bare s && ((n == 0) && ((keys.length : Int) == 0))
 else if k = 5 then namesOk keys 300 && (((keys.length : Int) == (kids.length : Int)) && (bare s && (n == 0)))
 else false
def kidSum (f : Row → Int) : Rows → Int → Int
 | [], n => n
 | x :: l, n => if f x = 0 ∨ n + f x > 300 then 0 else kidSum f l (n + f x)
def valSz : Nat → Row → Int
 | 0, _ => 0
 | d + 1, v => if shapeB (cN v 0) (cT v 1) (cN v 2) (cR v 3) (cR v 4) then kidSum (valSz d) (cR v 4) 1 else 0
def valueOk (v : Row) : Bool := decide (valSz 6 v > 0)
theorem kidSum_rng {f : Row → Int} (hf : ∀ x, 0 ≤ f x ∧ f x ≤ 300) : ∀ (l : Rows) (n : Int), 1 ≤ n → n ≤ 300 → 0 ≤ kidSum f l n ∧ kidSum f l n ≤ 300 ∧ (kidSum f l n ≠ 0 → n + l.length ≤ kidSum f l n) := by
 intro l
 induction l with
 | nil => intro n h0 h1; simp only [kidSum, List.length_nil]; omega
 | cons x l ih =>
  intro n h0 h1
  simp only [kidSum]
  split
  ·simp
  ·rename_i h
   have := hf x
   have := ih (n + f x) (by omega) (by omega)
   simp only [List.length_cons]
   refine ⟨this.1, this.2.1, fun hne => ?_⟩
   have := this.2.2 hne
   omega
theorem valSz_rng : ∀ (d : Nat) (v : Row), 0 ≤ valSz d v ∧ valSz d v ≤ 300 := by
 intro d
 induction d with
 | zero => intro v; simp [valSz]
 | succ d ih =>
  intro v
  simp only [valSz]
  split
  ·have := kidSum_rng ih (cR v 4) 1 (by omega) (by omega)
   exact ⟨this.1, this.2.1⟩
  ·simp
def sumN (c : Nat) (l : Rows) : Int := l.foldl (fun acc x => IntKind.i64.wrap (acc + cN x c)) 0
def worksOk (l : Rows) : Bool := allN l.length (fun i => inB (cN (row_ l i) 0) 1 1000000 && (inB (cN (row_ l i) 1) 1 10000 && (valueOk ((row_ l i).drop 2) && chain (upN 0) l i))) && decide ((l.length : Int) ≤ 40)
def isleOk (v : Row) : Bool := nameOk (cT v 0) && (inB (cN v 1) 0 10000 && (inB (cN v 2) 0 1000000 && (worksOk (cR v 3) && (runsOk 1 (cR v 4) && decide (sumN 1 (cR v 4) ≤ cN v 1)))))
def msgOk (v : Row) : Bool := nameOk (cT v 1) && (
 if cN v 0 = 1 then inB (cN v 2) 0 1000000 && (runsOk 0 (cR v 4) && (((cR v 3).length : Int) == 0))
 else if cN v 0 = 2 then inB (cN v 2) 1 1000000 && (worksOk (cR v 3) && (((cR v 4).length : Int) == 0))
 else false)
theorem copy_loop {L : Nat → Nat → Rows → Int → Option (Ex × List AV)} {a : Rows} {Y : Rows → Ex × List AV}
  (hend : ∀ d n acc, L d (n + 1) acc (a.length : Int) = some (Y acc))
  (hstep : ∀ (i : Nat) (x : Row) (res : Ex × List AV), i < a.length → a[i]? = some x → Evt (fun d n => L d n (a.take i ++ [x]) ((i + 1 : Nat) : Int)) res → Evt (fun d n => L d (n + 1) (a.take i) (i : Int)) res) :
  Evt (fun d n => L d n [] 0) (Y a) := by
 have key : ∀ (k i : Nat), a.length - i = k → i ≤ a.length → Evt (fun d n => L d n (a.take i) (i : Int)) (Y a) := by
  intro k
  induction k with
  | zero =>
   intro i hk hi
   have : i = a.length := by omega
   subst this
   rw [List.take_length]
   exact ev_succ ⟨0, fun d n _ _ => hend d n a⟩
  | succ k ih =>
   intro i hk hi
   have hlt : i < a.length := by omega
   have := ih (i + 1) (by omega) (by omega)
   rw [List.take_succ_eq_append_getElem hlt] at this
   exact ev_succ (hstep i _ _ hlt (List.getElem?_eq_getElem hlt) this)
 simpa using key a.length 0 (by omega) (by omega)
theorem setD_last {l : Rows} {x : Row} {c : Nat} {d : D} : setD (l ++ [x]) (0 + l.length) c d = l ++ [x.set c d] := by
 rw [Nat.zero_add]
 exact setD_mid (pre := l) (post := [])
theorem app_fits {l : Rows} {i k c : Nat} (hm : l.length ≤ 1048576) (hk : k ≤ 1048576) (hc : c ≤ 100000) : decide (((l.take i).length + k) * c ≤ maxBytes) = true := by
 have h1 : (l.take i).length ≤ 1048576 := by simp; omega
 have : ((l.take i).length + k) * c ≤ 2097152 * 100000 := Nat.mul_le_mul (by omega) hc
 exact decide_eq_true (by simp only [maxBytes]; omega)
theorem app_fits0 {l : Rows} {c : Nat} (hm : l.length ≤ 1048576) (hc : c ≤ 100000) : decide ((0 + l.length) * c ≤ maxBytes) = true := by
 have : (0 + l.length) * c ≤ 1048576 * 100000 := Nat.mul_le_mul (by simpa using hm) hc
 exact decide_eq_true (by simp only [maxBytes]; omega)
end Go.Am
