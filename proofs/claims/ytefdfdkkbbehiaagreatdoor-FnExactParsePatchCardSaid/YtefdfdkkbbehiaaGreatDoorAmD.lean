/- The abstract machine AM, part D: what it computes keeps the contracts of the program. Nothing is assumed. -/
import Derived.Test.YtefdfdkkbbehiaaGreatDoorAmC
import Derived.Lib.Bytealg
set_option linter.unusedVariables false
set_option linter.unusedSimpArgs false
/- AM: the table of all functions, by depth; what data weigh, when they are the same; loops over rows. Nothing is assumed. -/
namespace Go.Am
def lookF (fn : Nat) : List (Nat × AFun) → Option AFun
 | [] => none
 | (n, a) :: l => bif Nat.beq n fn then some a else lookF fn l
def lenIs : List I → List Mode → Bool
 | [], [] => true
 | _ :: l, _ :: m => lenIs l m
 | _, _ => false
theorem lenIs_ok {l : List I} : ∀ {m : List Mode}, lenIs l m = true → l.length = m.length := by
 induction l with
 | nil => intro m h; cases m with
  | nil => rfl
  | cons => simp [lenIs] at h
 | cons x l ih => intro m h; cases m with
  | nil => simp [lenIs] at h
  | cons => simp only [lenIs] at h; simp [ih h]
theorem lookF_mem {fn : Nat} {funs : List (Nat × AFun)} {af : AFun} (h : lookF fn funs = some af) : (fn, af) ∈ funs := by
 induction funs with
 | nil => simp [lookF] at h
 | cons p l ih =>
  obtain ⟨n, a⟩ := p
  simp only [lookF] at h
  cases hb : Nat.beq n fn with
  | true =>
   have := Nat.eq_of_beq_eq_true hb
   subst this
   simp only [hb, cond_true, Option.some.injEq] at h
   subst h
   simp
  | false =>
   simp only [hb, cond_false] at h
   simp [ih h]
mutual
def wtD : D → Nat
 | .v (.string s) => s.size
 | .v _ => 0
 | .s _ rows => rows.length + wtRows rows
def wtRow : List D → Nat
 | [] => 0
 | d :: ds => wtD d + wtRow ds
def wtRows : List (List D) → Nat
 | [] => 0
 | r :: rs => wtRow r + wtRows rs
end
mutual
def eqD : D → D → Bool
 | .v (.int _ a), .v (.int _ b) => a == b
 | .v (.bool a), .v (.bool b) => a == b
 | .v (.string a), .v (.string b) => bytesEq a b
 | .s _ a, .s _ b => (a.length == b.length) && eqRows a b
 | _, _ => false
def eqRow : List D → List D → Bool
 | [], [] => true
 | a :: as, b :: bs => eqD a b && eqRow as bs
 | _, _ => false
def eqRows : List (List D) → List (List D) → Bool
 | [], [] => true
 | a :: as, b :: bs => eqRow a b && eqRows as bs
 | _, _ => false
end
theorem eqq :
  (eqRow [] [] = true) ∧ (∀ (a b : D) (r s : Row), eqRow (a :: r) (b :: s) = (eqD a b && eqRow r s)) ∧
  (∀ (k k' : IntKind) (a b : Int), eqD (.v (.int k a)) (.v (.int k' b)) = (a == b)) ∧
  (∀ a b : Bool, eqD (.v (.bool a)) (.v (.bool b)) = (a == b)) ∧
  (∀ a b : ByteArray, eqD (.v (.string a)) (.v (.string b)) = bytesEq a b) ∧
  (∀ (w w' : Nat) (a b : Rows), eqD (.s w a) (.s w' b) = ((a.length == b.length) && eqRows a b)) ∧
  (∀ b : Bool, (b && true) = b) ∧ (∀ b : Bool, (true && b) = b) ∧ (∀ a b c : Bool, (a && b && c) = (a && (b && c))) := by
 refine ⟨?_, ?_, ?_, ?_, ?_, ?_, ?_, ?_, ?_⟩ <;> intros <;> simp [eqRow, eqD, Bool.and_assoc]
abbrev bo (b : Bool) : Out := ⟨.d (.v (.bool b)), []⟩
theorem wrap_succ {i m : Nat} (h : i < m) (hm : m ≤ maxLen) : IntKind.i64.wrap ((i : Int) + 1) = ((i + 1 : Nat) : Int) := by
 rw [wrap64 (by omega) (by simp only [maxLen] at hm ⊢; omega)]
 omega
end Go.Am
/- AM: what a table says in the end; a small calculus for it. Nothing is assumed. -/
namespace Go.Am
structure Fns where
 funs : List (Nat × AFun)
 nat : Table → Table
noncomputable def TabD (fs : Fns) : Nat → Table
 | 0 => fun _ _ => none
 | d + 1 => fun fn is => match lookF fn fs.funs with
  | some af => bif lenIs is af.modes then evalF (TabD fs d) d af is else none
  | none => fs.nat (TabD fs d) fn is
theorem tabD_good {P : Program} {sg : Sigs} {K : Src} {fs : Fns} (h : ∀ p ∈ fs.funs, chkFun P sg p.1 p.2 = true) (hn : ∀ T, Good P sg K T → Good P sg K (fs.nat T)) (h0 : lookF 0 fs.funs = none) (d : Nat) : Good P sg K (TabD fs d) := by
 induction d with
 | zero => exact good_none
 | succ d ih =>
  refine ⟨fun fn is o ho => ?_, fun mk b n c i o ho => ?_⟩
  ·simp only [TabD] at ho
   split at ho
   ·rename_i af haf
    cases hl : lenIs is af.modes with
    | false => simp [hl] at ho
    | true =>
     simp only [hl, cond_true] at ho
     exact evalF_ok ih (h _ (lookF_mem haf)) (lenIs_ok hl) ho
   ·exact (hn _ ih).1 fn is o ho
  ·simp only [TabD, h0] at ho
   exact (hn _ ih).2 mk b n c i o ho
def Evt {R : Type} (F : Nat → Nat → Option R) (x : R) : Prop := ∃ r, ∀ d n, r ≤ d → r ≤ n → F d n = some x
def Ev (fs : Fns) (fn : Nat) (is : List I) (o : Out) : Prop := Evt (fun d _ => TabD fs d fn is) o
section
variable {R : Type} {fs : Fns} {x : R} {F G A B : Nat → Nat → Option R} {c : Bool}
theorem Evt.ret : Evt (fun _ _ => some x) x := ⟨0, fun _ _ _ _ => rfl⟩
theorem Evt.ret' {y : R} (h : y = x) : Evt (fun _ _ => some x) y := h ▸ Evt.ret
theorem Evt.congr (h : ∀ d n, F d n = G d n) (hG : Evt G x) : Evt F x := by
 obtain ⟨r, hr⟩ := hG
 exact ⟨r, fun d n h1 h2 => by rw [h]; exact hr d n h1 h2⟩
theorem ev_succ (h : Evt (fun d n => F d (n + 1)) x) : Evt F x := by
 obtain ⟨r, hr⟩ := h
 refine ⟨r + 1, fun d n h1 h2 => ?_⟩
 obtain ⟨m, rfl⟩ : ∃ m, n = m + 1 := ⟨n - 1, by omega⟩
 exact hr d m (by omega) (by omega)
theorem Ev.of {fn : Nat} {is : List I} {o : Out} {af : AFun} (hl : lookF fn fs.funs = some af) (hn : lenIs is af.modes = true) (h : Evt (fun d _ => evalF (TabD fs d) d af is) o) : Ev fs fn is o := by
 obtain ⟨r, hr⟩ := h
 refine ⟨r + 1, fun d n h1 h2 => ?_⟩
 obtain ⟨m, rfl⟩ : ∃ m, d = m + 1 := ⟨d - 1, by omega⟩
 simp only [TabD, hl, hn, cond_true]
 exact hr m m (by omega) (by omega)
theorem Ev.nat {fn : Nat} {is : List I} {o : Out} (hl : lookF fn fs.funs = none) (h : Evt (fun d _ => fs.nat (TabD fs d) fn is) o) : Ev fs fn is o := by
 obtain ⟨r, hr⟩ := h
 refine ⟨r + 1, fun d n h1 h2 => ?_⟩
 obtain ⟨m, rfl⟩ : ∃ m, d = m + 1 := ⟨d - 1, by omega⟩
 simp only [TabD, hl]
 exact hr m m (by omega) (by omega)
theorem ev_call {fn : Nat} {is : List I} {o : Out} {F : Nat → Nat → Out → Option R} (h : Ev fs fn is o) (hF : Evt (fun d n => F d n o) x) : Evt (fun d n => callT (TabD fs d) fn is (F d n)) x := by
 obtain ⟨r, hr⟩ := h
 obtain ⟨r', hr'⟩ := hF
 refine ⟨r + r', fun d n h1 h2 => ?_⟩
 have := hr d d (by omega) (by omega)
 simp only at this
 simp only [callT, this]
 exact hr' d n (by omega) (by omega)
theorem ev_if (ht : c = true → Evt A x) (hf : c = false → Evt B x) : Evt (fun d n => bif c then A d n else B d n) x := by
 cases c with
 | true => exact ht rfl
 | false => exact hf rfl
theorem ev_tst (h : c = true) (hA : Evt A x) : Evt (fun d n => tst c (A d n)) x := by
 subst h
 exact hA
theorem ev_aft {L : Nat → Nat → Option (Ex × List AV)} {y : Ex × List AV} {F : Nat → Nat → Ex → List AV → Option R} (h : Evt L y) (hF : Evt (fun d n => F d n y.1 y.2) x) : Evt (fun d n => aft (L d d) (F d n)) x := by
 obtain ⟨r, hr⟩ := h
 obtain ⟨r', hr'⟩ := hF
 refine ⟨r + r', fun d n h1 h2 => ?_⟩
 simp only [hr d d (by omega) (by omega), aft]
 exact hr' d n (by omega) (by omega)
end
section
variable {R : Type}
theorem aV_z {d : AV} {ds : List AV} {K : AV → Option R} : aV (d :: ds) 0 K = K d := rfl
theorem aI_v {k : IntKind} {n : Int} {K : Int → Option R} : aI k (.v (.int k n)) K = K n := by simp [aI]
theorem rdl :
  (∀ (R : Type) (k : IntKind) (row : Row) (c : Nat) (K : Int → Option R), cI k row c K = cell row c fun d => dI k d K) ∧
  (∀ (R : Type) (row : Row) (c : Nat) (K : Bool → Option R), cB row c K = cell row c fun d => dB d K) ∧
  (∀ (R : Type) (row : Row) (c : Nat) (K : ByteArray → Option R), cS row c K = cell row c fun d => dS d K) ∧
  (∀ (R : Type) (w : Nat) (row : Row) (c : Nat) (K : Rows → Option R), cL w row c K = cell row c fun d => dL w d K) ∧
  (∀ (R : Type) (d : D) (K : D → Option R), oD (.d d) K = K d) ∧
  (∀ (R : Type) (r : Row) (K : Row → Option R), oG (.g r) K = K r) ∧
  (∀ (R : Type) (r : List I) (K : List I → Option R), oT (.t r) K = K r) ∧
  (∀ (R : Type) (r : Row) (K : Row → Option R), oP (.p r) K = K r) ∧
  (∀ (R : Type) (k : IntKind) (n : Int) (K : Int → Option R), dI k (.v (.int k n)) K = K n) ∧
  (∀ (R : Type) (b : Bool) (K : Bool → Option R), dB (.v (.bool b)) K = K b) ∧
  (∀ (R : Type) (b : ByteArray) (K : ByteArray → Option R), dS (.v (.string b)) K = K b) ∧
  (∀ (R : Type) (w : Nat) (r : Rows) (K : Rows → Option R), dL w (.s w r) K = K r) ∧
  (∀ (R : Type) (d : D) (ds : Row) (K : D → Option R), cell (d :: ds) 0 K = K d) ∧
  (∀ (R : Type) (d : D) (ds : Row) (c : Nat) (K : D → Option R), cell (d :: ds) (c + 1) K = cell ds c K) ∧
  (∀ (R : Type) (d : I) (ds : List I) (K : I → Option R), nth (d :: ds) 0 K = K d) ∧
  (∀ (R : Type) (d : I) (ds : List I) (c : Nat) (K : I → Option R), nth (d :: ds) (c + 1) K = nth ds c K) ∧
  (∀ (R : Type) (d : AV) (ds : List AV) (K : AV → Option R), aV (d :: ds) 0 K = K d) ∧
  (∀ (R : Type) (d : AV) (ds : List AV) (c : Nat) (K : AV → Option R), aV (d :: ds) (c + 1) K = aV ds c K) ∧
  (∀ (R : Type) (k : IntKind) (n : Int) (K : Int → Option R), aI k (.v (.int k n)) K = K n) ∧
  (∀ (R : Type) (b : Bool) (K : Bool → Option R), aB (.v (.bool b)) K = K b) ∧
  (∀ (R : Type) (b : ByteArray) (K : ByteArray → Option R), aS (.v (.string b)) K = K b) ∧
  (∀ (R : Type) (w : Nat) (r : Rows) (K : Rows → Option R), aL w (.fz w r) K = K r) ∧
  (∀ (R : Type) (w : Nat) (r : Rows) (K : Rows → Option R), aO w (.o w r) K = K r) ∧
  (∀ (R : Type) (r : List AV) (K : List AV → Option R), aX (.b r) K = K r) ∧
  (∀ (R : Type) (row : Row) (c : Nat) (K : Option Addr → Nat → Nat → Option R), cH row c K = cell row c fun d => dH d K) ∧
  (∀ (R : Type) (b : Option Addr) (n c : Nat) (K : Option Addr → Nat → Nat → Option R), dH (.v (.slice b n c)) K = K b n c) ∧
  (∀ (R : Type) (b : Option Addr) (n c : Nat) (K : Option Addr → Nat → Nat → Option R), aH (.v (.slice b n c)) K = K b n c) ∧
  (∀ (R : Type) (K : Option R), tst true K = K) ∧
  (∀ (α : Type) (a b : α), (bif true then a else b) = a) ∧
  (∀ (α : Type) (a b : α), (bif false then a else b) = b) ∧
  (∀ (α : Type) (a : α) (l : List α), (a :: l).length = l.length + 1) ∧
  (∀ (α : Type), ([] : List α).length = 0) ∧
  (∀ n : Nat, Int.toNat (n : Int) = n) ∧
  ((true == true) = true) ∧ ((true == false) = false) ∧ ((false == true) = false) ∧ ((false == false) = true) := by
 refine ⟨?_, ?_, ?_, ?_, ?_, ?_, ?_, ?_, ?_, ?_, ?_, ?_, ?_, ?_, ?_, ?_, ?_, ?_, ?_, ?_, ?_, ?_, ?_, ?_, ?_, ?_, ?_, ?_, ?_, ?_, ?_, ?_, ?_, ?_, ?_, ?_, ?_⟩ <;> intros <;> first | rfl | simp [dI, dL, aI, aL, aO]
theorem look_at {rows : Rows} {i : Nat} {x : Row} {K : Row → Option R} (h : rows[i]? = some x) : look rows i K = K x := by simp [look, h]
theorem look_mid {pre post : Rows} {x : Row} {K : Row → Option R} : look (pre ++ x :: post) pre.length K = K x := by simp [look]
theorem setD_mid {pre post : Rows} {x : Row} {c : Nat} {d : D} : setD (pre ++ x :: post) pre.length c d = pre ++ x.set c d :: post := by
 unfold setD
 induction pre with
 | nil => simp
 | cons y pre ih => simpa using ih
end
section
variable {E : TypeId → List Sh} {ks : List Sh} {r : Row}
def SL (E : TypeId → List Sh) (t : TypeId) (l : Rows) : Prop := l.length ≤ maxLen ∧ ShR E (E t) l
theorem SL.at {t : TypeId} {l : Rows} {i : Nat} {x : Row} (h : SL E t l) (hx : l[i]? = some x) : ShL E (E t) x := h.2.mem x (List.mem_of_getElem? hx)
theorem SL.le {t : TypeId} {l : Rows} (h : SL E t l) : l.length ≤ maxLen := h.1
theorem inv_nil (h : ShL E [] r) : r = [] := by cases h; rfl
theorem inv_i {k : IntKind} (h : ShL E (.i k :: ks) r) : ∃ n r', r = .v (.int k n) :: r' ∧ (k.min ≤ n ∧ n ≤ k.max) ∧ ShL E ks r' := by
 cases h with | cons h h' => cases h with | i h0 h1 => exact ⟨_, _, rfl, ⟨h0, h1⟩, h'⟩
theorem inv_s (h : ShL E (.s :: ks) r) : ∃ s r', r = .v (.string s) :: r' ∧ s.size ≤ maxLen ∧ ShL E ks r' := by
 cases h with | cons h h' => cases h with | s h0 => exact ⟨_, _, rfl, h0, h'⟩
theorem inv_sl {t : TypeId} {w : Nat} (hw : (E t).length = w) (h : ShL E (.sl t :: ks) r) : ∃ l r', r = .s w l :: r' ∧ SL E t l ∧ ShL E ks r' := by
 cases h with | cons h h' => cases h with | sl h0 h1 => subst hw; exact ⟨_, _, rfl, ⟨h0, h1⟩, h'⟩
theorem mk_i {k : IntKind} {n : Int} (h : k.min ≤ n ∧ n ≤ k.max) (h' : ShL E ks r) : ShL E (.i k :: ks) (.v (.int k n) :: r) := .cons (.i h.1 h.2) h'
theorem mk_s {s : ByteArray} (h : s.size ≤ maxLen) (h' : ShL E ks r) : ShL E (.s :: ks) (.v (.string s) :: r) := .cons (.s h) h'
theorem mk_sl {t : TypeId} {w : Nat} {l : Rows} (hw : (E t).length = w) (h : SL E t l) (h' : ShL E ks r) : ShL E (.sl t :: ks) (.s w l :: r) := by
 subst hw
 exact .cons (.sl h.1 h.2) h'
end
abbrev io (m : Int) : Out := ⟨.d (.v (.int .i64 m)), []⟩
def SzG {R : Type} (N : R) (Y : Int → R) (F : Nat → Nat → Option R) (Q : Int → Prop) : Prop := Evt F N ∨ ∃ m, 0 ≤ m ∧ Q m ∧ Evt F (Y m)
abbrev SzF (fs : Fns) (fn : Nat) (x : I) (left : Int) (w : Nat) : Prop := SzG (io (-1)) io (fun d _ => TabD fs d fn [x, .d (.v (.int .i64 left))]) fun m => m + w ≤ left
section
variable {R : Type} {fs : Fns} {N : R} {Y : Int → R} {Q : Int → Prop}
theorem SzG.map {R' : Type} {N' : R'} {Y' : Int → R'} {F : Nat → Nat → Option R} {F' : Nat → Nat → Option R'} {Q' : Int → Prop} (h : SzG N Y F Q) (hn : Evt F N → Evt F' N') (hy : ∀ m, Evt F (Y m) → Evt F' (Y' m)) (hq : ∀ m, 0 ≤ m → Q m → Q' m) : SzG N' Y' F' Q' := by
 rcases h with h | ⟨m, h0, h1, h2⟩
 ·exact .inl (hn h)
 ·exact .inr ⟨m, h0, hq m h0 h1, hy m h2⟩
theorem SzF.of {fn : Nat} {x : I} {af : AFun} {left : Int} {w : Nat} {F : Nat → Nat → Option Out} (hf : lookF fn fs.funs = some af) (hn : lenIs [x, .d (.v (.int .i64 left))] af.modes = true)
  (heq : ∀ d n, evalF (TabD fs d) d af [x, .d (.v (.int .i64 left))] = F d n) (h : SzG (io (-1)) io F fun m => m + w ≤ left) : SzF fs fn x left w :=
 h.map (fun h => Ev.of hf hn (Evt.congr (fun d n => heq d n) h)) (fun m h => Ev.of hf hn (Evt.congr (fun d n => heq d n) h)) fun _ _ h => h
theorem wt_at {l : Rows} {i : Nat} {x : Row} (h : l[i]? = some x) : wtRow x + 1 ≤ l.length + wtRows l := by
 induction l generalizing i with
 | nil => simp at h
 | cons y l ih =>
  cases i with
  | zero => simp at h; subst h; simp only [wtRows, List.length_cons]; omega
  | succ i => have := ih (by simpa using h); simp only [wtRows, List.length_cons]; omega
end
section
variable {R : Type} {fs : Fns} {X A : Nat → Nat → Option R} {N : R} {b c : Bool}
def Stp (F X : Nat → Nat → Option R) (N : R) (b : Bool) : Prop := ∀ res, (b = true → Evt X res) → (b = false → res = N) → Evt F res
theorem stp_if (h : c = true → Stp A X N b) : Stp (fun d n => bif c then A d n else some N) X N (c && b) := by
 intro res k k'
 cases hc : c with
 | true => exact h hc res (fun h => k (by simp [hc, h])) (fun h => k' (by simp [hc, h]))
 | false => exact Evt.ret' (k' (by simp [hc]))
theorem stp_call {fn : Nat} {is : List I} {F : Nat → Nat → Bool → Option R} (h : Ev fs fn is (bo c)) (hF : Stp (fun d n => F d n c) X N b) : Stp (fun d n => callT (TabD fs d) fn is fun o => oD o.res fun v => dB v (F d n)) X N b := fun res k k' =>
 ev_call (F := fun d n o => oD o.res fun v => dB v (F d n)) h (hF res k k')
theorem stp_end : Stp X X N true := fun _ k _ => k rfl
theorem stp_ret : Stp (fun _ _ => some (bo b)) (fun _ _ => some (bo true)) (bo false) b := fun res k k' => by
 cases b with
 | true => exact k rfl
 | false => exact Evt.ret' (k' rfl)
theorem Stp.conv {F : Nat → Nat → Option R} {b' : Bool} (h : Stp F X N b) (hb : b = b') : Stp F X N b' := hb ▸ h
theorem stp_loop {L : Nat → Nat → Option (Ex × List AV)} {y : Ex × List AV} {F : Nat → Nat → Ex → List AV → Option R} (h : Evt L (bif c then y else (.ret, [.v (.bool false)]))) (hF : Stp (fun d n => F d n y.1 y.2) X N b) (hN : ∀ d n, F d n .ret [.v (.bool false)] = some N) :
  Stp (fun d n => aft (L d d) (F d n)) X N (c && b) := fun res k k' => by
 cases c with
 | true => exact ev_aft h (hF res (fun h => k (by simp [h])) (fun h => k' (by simp [h])))
 | false =>
  refine ev_aft h ?_
  rw [k' rfl]
  exact ⟨0, fun d n _ _ => hN d n⟩
theorem Ev.bo {fn : Nat} {is : List I} {af : AFun} {F : Nat → Nat → Option Out} (hf : lookF fn fs.funs = some af) (hn : lenIs is af.modes = true) (heq : ∀ d n, evalF (TabD fs d) d af is = F d n)
  (h : Stp F (fun _ _ => some (bo true)) (bo false) b) : Ev fs fn is (bo b) :=
 Ev.of hf hn (Evt.congr (fun d n => heq d n) (h _ (fun h => by subst h; exact Evt.ret) fun h => by subst h; rfl))
theorem eq_loopE {L : Nat → Nat → Int → Option (Ex × List AV)} {a b : Rows} {y : Ex × List AV} (hl : a.length = b.length)
  (hend : ∀ d n, L d (n + 1) (a.length : Int) = some y)
  (hstep : ∀ (i : Nat) (x x' : Row), i < a.length → i < b.length → a[i]? = some x → b[i]? = some x' → Stp (fun d n => L d (n + 1) (i : Int)) (fun d n => L d n ((i + 1 : Nat) : Int)) (.ret, [.v (.bool false)]) (eqRow x x')) :
  Evt (fun d n => L d n 0) (bif eqRows a b then y else (.ret, [.v (.bool false)])) := by
 have key : ∀ (k i : Nat), a.length - i = k → i ≤ a.length → Evt (fun d n => L d n (i : Int)) (bif eqRows (a.drop i) (b.drop i) then y else (.ret, [.v (.bool false)])) := by
  intro k
  induction k with
  | zero =>
   intro i hk hi
   have : i = a.length := by omega
   subst this
   rw [List.drop_length, hl, List.drop_length]
   exact ev_succ ⟨0, fun d n _ _ => by rw [← hl]; exact hend d n⟩
  | succ k ih =>
   intro i hk hi
   have hlt : i < a.length := by omega
   have hlt' : i < b.length := by omega
   rw [List.drop_eq_getElem_cons hlt, List.drop_eq_getElem_cons hlt', eqRows]
   refine ev_succ (hstep i a[i] b[i] hlt hlt' (List.getElem?_eq_getElem hlt) (List.getElem?_eq_getElem hlt') _ (fun h => ?_) fun h => ?_)
   ·rw [h, Bool.true_and]
    exact ih (i + 1) (by omega) (by omega)
   ·rw [h, Bool.false_and, cond_false]
 simpa using key a.length 0 (by omega) (by omega)
theorem beq_t {c : Bool} : (c == true) = c := by cases c <;> rfl
theorem beq_f {c : Bool} : (c == false) = !c := by cases c <;> rfl
theorem beq_nat {m n : Nat} : ((m : Int) == (n : Int)) = (m == n) := by
 rw [Bool.eq_iff_iff]; simp; omega
theorem bne_not {α : Type} [BEq α] {a b : α} : (a != b) = !(a == b) := rfl
theorem dec_nn {i : Nat} : decide (0 ≤ (i : Int)) = true := by simp
theorem len_of {m n : Nat} (h : (m == n) = true) : m = n := by simpa using h
end
end Go.Am
/- AM: the same shape under other names; what is the same as itself. Nothing is assumed. -/
namespace Go.Am
def Sh.mp (σ : TypeId → TypeId) : Sh → Sh
 | .sl t => .sl (σ t)
 | k => k
section
variable {E : TypeId → List Sh} {σ : TypeId → TypeId} {L : List TypeId}
mutual
theorem ShD.conv (hE : ∀ t ∈ L, E (σ t) = (E t).map (Sh.mp σ) ∧ slIn L (E t) = true) : ∀ {k : Sh} {d : D}, ShD E k d → slIn L [k] = true → ShD E (k.mp σ) d
 | _, _, .i h0 h1, _ => .i h0 h1
 | _, _, .b, _ => .b
 | _, _, .s h, _ => .s h
 | _, _, .sl (t := t) hl h, hk => by
  have ht : t ∈ L := by simpa [slIn] using hk
  obtain ⟨h1, h2⟩ := hE t ht
  have h3 : (E t).length = (E (σ t)).length := by rw [h1, List.length_map]
  have h4 := ShR.conv hE h h2
  rw [h3]
  exact .sl hl (by rw [h1]; exact h4)
theorem ShL.conv (hE : ∀ t ∈ L, E (σ t) = (E t).map (Sh.mp σ) ∧ slIn L (E t) = true) : ∀ {ks : List Sh} {r : Row}, ShL E ks r → slIn L ks = true → ShL E (ks.map (Sh.mp σ)) r
 | _, _, .nil, _ => .nil
 | _, _, .cons (k := k) (ks := ks) h h', hk => by
  have h1 : slIn L [k] = true ∧ slIn L ks = true := slIn_append (a := [k]) hk
  exact .cons (ShD.conv hE h h1.1) (ShL.conv hE h' h1.2)
theorem ShR.conv (hE : ∀ t ∈ L, E (σ t) = (E t).map (Sh.mp σ) ∧ slIn L (E t) = true) : ∀ {ks : List Sh} {r : Rows}, ShR E ks r → slIn L ks = true → ShR E (ks.map (Sh.mp σ)) r
 | _, _, .nil, _ => .nil
 | _, _, .cons h h', hk => .cons (ShL.conv hE h hk) (ShR.conv hE h' hk)
end
mutual
theorem ShD.refl : ∀ {k : Sh} {d : D}, ShD E k d → eqD d d = true
 | _, _, .i h0 h1 => by simp [eqD]
 | _, _, .b => by simp [eqD]
 | _, _, .s h => by simp [eqD, bytesEq]
 | _, _, .sl (t := t) hl h => by simp [eqD, ShR.refl h]
theorem ShL.refl : ∀ {ks : List Sh} {r : Row}, ShL E ks r → eqRow r r = true
 | _, _, .nil => by simp [eqRow]
 | _, _, .cons (k := k) (ks := ks) h h' => by simp [eqRow, ShD.refl h, ShL.refl h']
theorem ShR.refl : ∀ {ks : List Sh} {r : Rows}, ShR E ks r → eqRows r r = true
 | _, _, .nil => by simp [eqRows]
 | _, _, .cons h h' => by simp [eqRows, ShL.refl h, ShR.refl h']
end
end
end Go.Am
/- AM: numbers as text; loops that gather. Nothing is assumed. -/
namespace Go.Am
def one (c : Nat) : ByteArray := ⟨#[UInt8.ofNat c]⟩
def dg (n : Nat) : ByteArray := if n < 10 then one (48 + n) else dg (n / 10) ++ one (48 + n % 10)
def decS (n : Int) : ByteArray := if n < 0 then one 45 ++ dg n.natAbs else dg n.natAbs
theorem dg_small {n : Nat} (h : n < 10) : dg n = one (48 + n) := by rw [dg]; simp [h]
theorem dg_big {n : Nat} (h : 10 ≤ n) : dg n = dg (n / 10) ++ one (48 + n % 10) := by
 rw [dg]
 have : ¬ n < 10 := by omega
 simp [this]
theorem one_size (c : Nat) : (one c).size = 1 := rfl
theorem dg_size : ∀ (k n : Nat), n < 10 ^ k → (dg n).size ≤ k + 1 := by
 intro k
 induction k with
 | zero => intro n h; rw [dg_small (by simp at h; omega), one_size]; omega
 | succ k ih =>
  intro n h
  rcases Nat.lt_or_ge n 10 with h1 | h1
  ·rw [dg_small h1, one_size]; omega
  ·rw [dg_big h1, ByteArray.size_append, one_size]
   have := ih (n / 10) (by rw [Nat.pow_succ] at h; omega)
   omega
theorem decS_size {n : Int} (h0 : IntKind.i64.min ≤ n) (h1 : n ≤ IntKind.i64.max) : (decS n).size ≤ 30 := by
 have : n.natAbs < 10 ^ 20 := by simp only [IntKind.min, IntKind.max, IntKind.signed, IntKind.bits] at h0 h1; simp at h0 h1; omega
 have := dg_size 20 _ this
 unfold decS
 split
 ·rw [ByteArray.size_append, one_size]; omega
 ·omega
theorem wrap_u64 {n : Int} (h0 : 0 ≤ n) (h1 : n < 2 ^ 64) : IntKind.u64.wrap n = n := by
 simp only [IntKind.wrap, IntKind.signed, IntKind.bits]
 simp
 omega
theorem wrap_u8 {n : Int} (h0 : 0 ≤ n) (h1 : n < 256) : IntKind.u8.wrap n = n := by
 simp only [IntKind.wrap, IntKind.signed, IntKind.bits]
 simp
 omega
theorem wrap_i32 {n : Int} (h0 : 0 ≤ n) (h1 : n < 2147483648) : IntKind.i32.wrap n = n := by
 simp only [IntKind.wrap, IntKind.signed, IntKind.bits]
 simp
 omega
theorem wrap_i64 {n : Int} (h0 : -9223372036854775808 ≤ n) (h1 : n ≤ 9223372036854775807) : IntKind.i64.wrap n = n := by
 simp only [IntKind.wrap, IntKind.signed, IntKind.bits]
 rcases Int.lt_or_le n 0 with h | h
 ·have : n % 2 ^ 64 = n + 2 ^ 64 := by omega
  simp
  omega
 ·have : n % 2 ^ 64 = n := by omega
  simp
  omega
theorem bytes_one {c : Nat} : bytesOfRows ([[(.v (.int .u8 (c : Int)))]] : Rows) = one c := by
 simp [bytesOfRows, byteOfRow, one]
theorem enc_one {c : Nat} (h : c < 128) : Utf8.encode (c : Int) = one c := by
 have hv : Utf8.valid (c : Int) = true := by simp [Utf8.valid]; omega
 unfold Utf8.encode
 simp [one, hv, h]
theorem all_one {c : Nat} : allBytes ([[(.v (.int .u8 (c : Int)))]] : Rows) = true := by simp [allBytes, byteOfRow]
theorem dig_u8 {m : Nat} (h : m < 10) : IntKind.u8.wrap (IntKind.u64.wrap (48 + (m : Int))) = ((48 + m : Nat) : Int) := by
 rw [wrap_u64 (by omega) (by omega), wrap_u8 (by omega) (by omega)]
 omega
theorem dig_i32 {m : Nat} (h : m < 10) : IntKind.i32.wrap (IntKind.i64.wrap (48 + (m : Int))) = ((48 + m : Nat) : Int) := by
 rw [wrap_i64 (by omega) (by omega), wrap_i32 (by omega) (by omega)]
 omega
theorem sz_le {x y : ByteArray} {n : Nat} (h : x.size + y.size ≤ n) : decide (x.size + y.size ≤ n) = true := decide_eq_true h
theorem fold_loop {σ : Type} {L : Nat → Nat → σ → Int → Option (Ex × List AV)} {a : Rows} {f : σ → Row → σ} {Y : σ → Ex × List AV} (Inv : Nat → σ → Prop)
  (hend : ∀ d n acc, L d (n + 1) acc (a.length : Int) = some (Y acc))
  (hstep : ∀ (i : Nat) (x : Row) (acc : σ) (res : Ex × List AV), i < a.length → a[i]? = some x → Inv i acc → Evt (fun d n => L d n (f acc x) ((i + 1 : Nat) : Int)) res → Evt (fun d n => L d (n + 1) acc (i : Int)) res)
  (hinv : ∀ (i : Nat) (x : Row) (acc : σ), i < a.length → a[i]? = some x → Inv i acc → Inv (i + 1) (f acc x)) {acc : σ} (h0 : Inv 0 acc) : Evt (fun d n => L d n acc 0) (Y (a.foldl f acc)) ∧ Inv a.length (a.foldl f acc) := by
 have key : ∀ (k i : Nat), a.length - i = k → i ≤ a.length → ∀ acc, Inv i acc → Evt (fun d n => L d n acc (i : Int)) (Y ((a.drop i).foldl f acc)) ∧ Inv a.length ((a.drop i).foldl f acc) := by
  intro k
  induction k with
  | zero =>
   intro i hk hi acc hI
   have : i = a.length := by omega
   subst this
   rw [List.drop_length]
   exact ⟨ev_succ ⟨0, fun d n _ _ => hend d n acc⟩, hI⟩
  | succ k ih =>
   intro i hk hi acc hI
   have hlt : i < a.length := by omega
   have hx := List.getElem?_eq_getElem hlt
   rw [List.drop_eq_getElem_cons hlt, List.foldl_cons]
   obtain ⟨h1, h2⟩ := ih (i + 1) (by omega) (by omega) _ (hinv i _ acc hlt hx hI)
   exact ⟨ev_succ (hstep i _ acc _ hlt hx hI h1), h2⟩
 simpa using key a.length 0 (by omega) (by omega) acc h0
end Go.Am
/- AM: loops that look for something; loops that gather with an early end. Nothing is assumed. -/
namespace Go.Am
section
variable {R : Type} {fs : Fns} {X A B : Nat → Nat → Option R} {N : R} {b c : Bool}
def findN (n : Nat) (p : Nat → Bool) : Option Nat := (List.range n).find? p
theorem findN_none {n : Nat} {p : Nat → Bool} : findN n p = none ↔ ∀ i, i < n → p i = false := by simp [findN]
theorem findN_some {n i : Nat} {p : Nat → Bool} : findN n p = some i ↔ i < n ∧ p i = true ∧ ∀ j, j < i → p j = false := by
 induction n with
 | zero => simp [findN]
 | succ n ih =>
  have hs : findN (n + 1) p = (findN n p).or (if p n then some n else none) := by
   simp only [findN, List.range_succ, List.find?_append]
   congr 1
   cases h : p n <;> simp [List.find?, h]
  rw [hs]
  cases hf : findN n p with
  | some j =>
   have := ih.trans (by rfl)
   simp only [Option.some_or]
   constructor
   ·intro h
    rw [← hf] at h
    have := ih.1 h
    exact ⟨by omega, this.2⟩
   ·intro ⟨h1, h2, h3⟩
    rw [← hf]
    refine ih.2 ⟨?_, h2, h3⟩
    rcases Nat.lt_or_ge i n with h | h
    ·exact h
    ·have : i = n := by omega
     subst this
     have hj : ∀ j, findN i p = some j → j < i ∧ p j = true := fun j hj => by
      simp only [findN] at hj
      exact ⟨by simpa using List.mem_of_find?_eq_some hj, List.find?_some hj⟩
     obtain ⟨q1, q2⟩ := hj j hf
     rw [h3 j q1] at q2
     exact absurd q2 (by simp)
  | none =>
   have hn := findN_none.1 hf
   simp only [Option.none_or]
   cases hp : p n with
   | true =>
    simp only [if_true, Option.some.injEq]
    constructor
    ·rintro rfl; exact ⟨by omega, hp, hn⟩
    ·intro ⟨h1, h2, h3⟩
     rcases Nat.lt_or_ge i n with h | h
     ·rw [hn i h] at h2; exact absurd h2 (by simp)
     ·omega
   | false =>
    simp only [Bool.false_eq_true, if_false, reduceCtorEq, false_iff]
    intro ⟨h1, h2, h3⟩
    rcases Nat.lt_or_ge i n with h | h
    ·rw [hn i h] at h2; exact absurd h2 (by simp)
    ·have : i = n := by omega
     subst this
     rw [hp] at h2
     exact absurd h2 (by simp)
theorem find_loop {L : Nat → Nat → Int → Option R} {n : Nat} {p : Nat → Bool} {g : Nat → R} {y : R}
  (hend : ∀ d m, L d (m + 1) (n : Int) = some y)
  (hstep : ∀ i, i < n → Stp (fun d m => L d (m + 1) (i : Int)) (fun d m => L d m ((i + 1 : Nat) : Int)) (g i) (!p i)) :
  Evt (fun d m => L d m 0) (match findN n p with | some i => g i | none => y) := by
 have key : ∀ (k i : Nat), n - i = k → i ≤ n → (∀ j, j < i → p j = false) → Evt (fun d m => L d m (i : Int)) (match findN n p with | some i => g i | none => y) := by
  intro k
  induction k with
  | zero =>
   intro i hk hi hp
   have : i = n := by omega
   subst this
   rw [findN_none.2 hp]
   exact ev_succ ⟨0, fun d m _ _ => hend d m⟩
  | succ k ih =>
   intro i hk hi hp
   refine ev_succ (hstep i (by omega) _ (fun h => ?_) fun h => ?_)
   ·refine ih (i + 1) (by omega) (by omega) fun j hj => ?_
    rcases Nat.lt_or_ge j i with h' | h'
    ·exact hp j h'
    ·have : j = i := by omega
     subst this
     simpa using h
   ·have : findN n p = some i := findN_some.2 ⟨by omega, by simpa using h, hp⟩
    rw [this]
 simpa using key n 0 (by omega) (by omega) (by simp)
def allN (n : Nat) (p : Nat → Bool) : Bool := (List.range n).all p
theorem allN_iff {n : Nat} {p : Nat → Bool} : allN n p = true ↔ ∀ i, i < n → p i = true := by simp [allN]
theorem all_loop {L : Nat → Nat → Int → Option R} {n : Nat} {p : Nat → Bool} {y z : R}
  (hend : ∀ d m, L d (m + 1) (n : Int) = some y)
  (hstep : ∀ i, i < n → Stp (fun d m => L d (m + 1) (i : Int)) (fun d m => L d m ((i + 1 : Nat) : Int)) z (p i)) :
  Evt (fun d m => L d m 0) (bif allN n p then y else z) := by
 have := find_loop (L := L) (n := n) (p := fun i => !p i) (g := fun _ => z) (y := y) hend (fun i hi => by simpa using hstep i hi)
 cases h : allN n p with
 | true =>
  have h2 : findN n (fun i => !p i) = none := findN_none.2 fun i hi => by simp [allN_iff.1 h i hi]
  rw [h2] at this
  exact this
 | false =>
  cases hf : findN n (fun i => !p i) with
  | none =>
   have h1 := findN_none.1 hf
   have : allN n p = true := allN_iff.2 fun i hi => by simpa using h1 i hi
   rw [this] at h
   exact absurd h (by simp)
  | some i =>
   rw [hf] at this
   exact this
theorem stp_not (h : c = false → Stp A X N b) : Stp (fun d n => bif c then some N else A d n) X N (!c && b) := by
 intro res k k'
 cases hc : c with
 | false => exact h hc res (fun h => k (by simp [hc, h])) (fun h => k' (by simp [hc, h]))
 | true => exact Evt.ret' (k' (by simp [hc]))
end
end Go.Am
/- AM: data marked by numbers in order. Nothing is assumed. -/
namespace Go.Am
def mkText (k : Int) : ByteArray := if k ≤ 0 then ⟨#[109, 48]⟩ else one 109 ++ dg k.toNat
def mkV (k : Int) : Value → Value
 | .int kd _ => .int kd (kd.wrap k)
 | .string _ => .string (mkText k)
 | .bool _ => .bool (Int.tmod k 3 == 0)
 | v => v
mutual
def cnRow : List D → Nat
 | [] => 0
 | .v _ :: ds => 1 + cnRow ds
 | .s _ rows :: ds => cnRows rows + cnRow ds
def cnRows : List (List D) → Nat
 | [] => 0
 | r :: rs => cnRow r + cnRows rs
end
mutual
def mkRow : List D → Int → List D
 | [], _ => []
 | .v x :: ds, k => .v (mkV k x) :: mkRow ds (k + 1)
 | .s w rows :: ds, k => .s w (mkRows rows k) :: mkRow ds (k + (cnRows rows : Nat))
def mkRows : List (List D) → Int → List (List D)
 | [], _ => []
 | r :: rs, k => mkRow r k :: mkRows rs (k + (cnRow r : Nat))
end
def mkTop : List D → Int → List D
 | [], _ => []
 | .v x :: ds, k => .v x :: mkTop ds k
 | .s w rows :: ds, k => .s w (mkRows rows k) :: mkTop ds (k + (cnRows rows : Nat))
theorem cnRows_append {a b : Rows} : cnRows (a ++ b) = cnRows a + cnRows b := by
 induction a with
 | nil => simp [cnRows]
 | cons r a ih => simp only [List.cons_append, cnRows, ih]; omega
theorem mkRows_length {a : Rows} : ∀ {k : Int}, (mkRows a k).length = a.length := by
 induction a with
 | nil => intro k; simp [mkRows]
 | cons r a ih => intro k; simp [mkRows, ih]
theorem cn_at {l : Rows} : ∀ {i : Nat} {x : Row}, l[i]? = some x → cnRow x + cnRows (l.take i) ≤ cnRows l := by
 induction l with
 | nil => intro i x h; simp at h
 | cons y l ih =>
  intro i x h
  cases i with
  | zero => simp at h; subst h; simp only [List.take_zero, cnRows]; omega
  | succ i =>
   have := ih (i := i) (x := x) (by simpa using h)
   simp only [List.take_succ_cons, cnRows]
   omega
theorem mk_at {l : Rows} : ∀ {i : Nat} {x : Row} {k : Int}, l[i]? = some x → (mkRows l k)[i]? = some (mkRow x (k + (cnRows (l.take i) : Nat))) := by
 induction l with
 | nil => intro i x k h; simp at h
 | cons y l ih =>
  intro i x k h
  cases i with
  | zero => simp at h; subst h; simp [mkRows, cnRows]
  | succ i =>
   have := ih (i := i) (x := x) (k := k + (cnRow y : Nat)) (by simpa using h)
   simp only [mkRows, List.getElem?_cons_succ, this, List.take_succ_cons, cnRows, Int.natCast_add, Int.add_assoc]
theorem cn_take {l : Rows} {i : Nat} {x : Row} (h : l[i]? = some x) : cnRows (l.take (i + 1)) = cnRows (l.take i) + cnRow x := by
 obtain ⟨hi, rfl⟩ := List.getElem?_eq_some_iff.1 h
 rw [List.take_succ_eq_append_getElem hi, cnRows_append]
 simp [cnRows]
abbrev K62 : Int := 4611686018427387904
theorem wrap_k {k : Int} (h0 : 0 ≤ k) (h1 : k < K62) : IntKind.i64.wrap (k + 1) = k + 1 := wrap_i64 (by omega) (by simp only [K62] at h1; omega)
theorem wrap_v {k : Int} (h0 : 0 ≤ k) (h1 : k < K62) : IntKind.i64.wrap k = k := wrap_i64 (by omega) (by simp only [K62] at h1; omega)
theorem bytesEq_self {s : ByteArray} : bytesEq s s = true := by simp [bytesEq]
theorem tst3 {R : Type} {K : Option R} : tst (decide ((3 : Int) ≠ 0)) K = K := rfl
theorem mark_loop {L : Nat → Nat → Rows → Int → Int → Option (Ex × List AV)} {a : Rows} {k0 : Int} {Y : Rows → Int → Ex × List AV} (h0 : 0 ≤ k0) (hk : k0 + (cnRows a : Nat) < K62)
  (hend : ∀ d n l k, l.length = a.length → L d (n + 1) l k (a.length : Int) = some (Y l k))
  (hstep : ∀ (pre : Rows) (x : Row) (post : Rows) (k : Int) (res : Ex × List AV), a[pre.length]? = some x → pre.length + (post.length + 1) = a.length → 0 ≤ k → k + (cnRow x : Nat) < K62 →
   Evt (fun d n => L d n (pre ++ mkRow x k :: post) (k + (cnRow x : Nat)) ((pre.length + 1 : Nat) : Int)) res → Evt (fun d n => L d (n + 1) (pre ++ x :: post) k (pre.length : Int)) res) :
  Evt (fun d n => L d n a k0 0) (Y (mkRows a k0) (k0 + (cnRows a : Nat))) := by
 have key : ∀ (post old pre : Rows) (k : Int), a = old ++ post → pre.length = old.length → 0 ≤ k → k + (cnRows post : Nat) < K62 →
   Evt (fun d n => L d n (pre ++ post) k (pre.length : Int)) (Y (pre ++ mkRows post k) (k + (cnRows post : Nat))) := by
  intro post
  induction post with
  | nil =>
   intro old pre k ha hp _ _
   simp only [List.append_nil, mkRows, cnRows, Int.natCast_zero, Int.add_zero]
   refine ev_succ ⟨0, fun d n _ _ => ?_⟩
   have hl : pre.length = a.length := by rw [hp, ha]; simp
   rw [hl]
   exact hend d n pre k hl
  | cons x post ih =>
   intro old pre k ha hp hk0 hk1
   simp only [cnRows, Int.natCast_add] at hk1
   have h' := ih (old ++ [x]) (pre ++ [mkRow x k]) (k + (cnRow x : Nat)) (by simpa using ha) (by simp [hp]) (by omega) (by omega)
   simp only [List.append_assoc, List.cons_append, List.nil_append, List.length_append, List.length_cons, List.length_nil, Nat.zero_add] at h'
   refine ev_succ (hstep pre x post k _ (by rw [hp, ha]; simp) (by rw [hp, ha]; simp) hk0 (by omega) ?_)
   simp only [mkRows, cnRows, Int.natCast_add, ← Int.add_assoc]
   exact h'
 simpa using key a [] [] k0 rfl rfl h0 hk
theorem held_loop {L : Nat → Nat → Int → Int → Option (Ex × List AV)} {a : Rows} {k0 : Int} {Y : Int → Ex × List AV} (h0 : 0 ≤ k0) (hk : k0 + (cnRows a : Nat) < K62)
  (hend : ∀ d n k, L d (n + 1) k (a.length : Int) = some (Y k))
  (hstep : ∀ (i : Nat) (x : Row) (k : Int) (res : Ex × List AV), i < a.length → a[i]? = some x → (mkRows a k0)[i]? = some (mkRow x k) → 0 ≤ k → k + (cnRow x : Nat) < K62 →
   Evt (fun d n => L d n (k + (cnRow x : Nat)) ((i + 1 : Nat) : Int)) res → Evt (fun d n => L d (n + 1) k (i : Int)) res) :
  Evt (fun d n => L d n k0 0) (Y (k0 + (cnRows a : Nat))) := by
 have key : ∀ (m i : Nat), a.length - i = m → i ≤ a.length → Evt (fun d n => L d n (k0 + (cnRows (a.take i) : Nat)) (i : Int)) (Y (k0 + (cnRows a : Nat))) := by
  intro m
  induction m with
  | zero =>
   intro i hm hi
   have : i = a.length := by omega
   subst this
   rw [List.take_length]
   exact ev_succ ⟨0, fun d n _ _ => hend d n _⟩
  | succ m ih =>
   intro i hm hi
   have hlt : i < a.length := by omega
   have hx := List.getElem?_eq_getElem hlt
   have h1 := cn_at hx
   have h' := ih (i + 1) (by omega) (by omega)
   rw [cn_take hx, Int.natCast_add, ← Int.add_assoc] at h'
   exact ev_succ (hstep i _ _ _ hlt hx (mk_at hx) (by omega) (by omega) h')
 have := key a.length 0 (by omega) (by omega)
 simpa [cnRows] using this
theorem set_mid {pre post : Rows} {x : Row} {c : Nat} {d : D} : setD (pre ++ x :: post) pre.length c d = pre ++ x.set c d :: post := setD_mid
theorem mid_ok {pre post : Rows} {x : Row} : (decide ((0 : Int) ≤ (pre.length : Int)) && decide (pre.length < (pre ++ x :: post).length)) = true := by simp
theorem mid_go {pre post : Rows} {x : Row} : decide ((pre.length : Int) < ((pre ++ x :: post).length : Int)) = true := by simp; omega
theorem mark_text {L : Nat → Nat → Int → ByteArray → Option (Ex × List AV)}
  (hend : ∀ d n s, L d (n + 1) 0 s = some (.exit 0, [.v (.string s)]))
  (hstep : ∀ (x : Nat) (s : ByteArray) (res : Ex × List AV), 0 < x → x < 2 ^ 62 → s.size ≤ 60 → Evt (fun d n => L d n ((x / 10 : Nat) : Int) (one (48 + x % 10) ++ s)) res → Evt (fun d n => L d (n + 1) (x : Int) s) res) :
  ∀ (j x : Nat), x < 10 ^ j → x < 2 ^ 62 → j ≤ 20 → ∀ s : ByteArray, s.size + j ≤ 60 → Evt (fun d n => L d n (x : Int) s) (.exit 0, [.v (.string ((if x = 0 then ByteArray.empty else dg x) ++ s))]) := by
 intro j
 induction j with
 | zero =>
  intro x hx _ _ s _
  have : x = 0 := by simp at hx; omega
  subst this
  simp only [if_true, ByteArray.empty_append]
  exact ev_succ ⟨0, fun d n _ _ => hend d n s⟩
 | succ j ih =>
  intro x hx h62 hj s hs
  rcases Nat.eq_zero_or_pos x with rfl | hpos
  ·simp only [if_true, ByteArray.empty_append]
   exact ev_succ ⟨0, fun d n _ _ => hend d n s⟩
  ·have h1 : x / 10 < 10 ^ j := by rw [Nat.pow_succ] at hx; omega
   have h2 := ih (x / 10) h1 (by omega) (by omega) (one (48 + x % 10) ++ s) (by rw [ByteArray.size_append, one_size]; omega)
   refine ev_succ (hstep x s _ hpos h62 (by omega) ?_)
   have hne : ¬ (x = 0) := by omega
   simp only [hne, if_false]
   rcases Nat.lt_or_ge x 10 with h | h
   ·have h0 : x / 10 = 0 := by omega
    rw [h0] at h2 ⊢
    simp only [if_true, ByteArray.empty_append] at h2
    rw [dg_small h]
    rw [show x % 10 = x by omega] at h2 ⊢
    exact h2
   ·have h0 : ¬ (x / 10 = 0) := by omega
    simp only [h0, if_false, ← ByteArray.append_assoc] at h2
    rw [dg_big h]
    exact h2
section
variable {E : TypeId → List Sh} {L : List TypeId}
end
end Go.Am
/- AM: functions without a text of their own. Nothing is assumed. -/
namespace Go.Am
theorem good_or {P : Program} {sg : Sigs} {K : Src} {T U : Table} (hT : Good P sg K T) (hU : Good P sg K U) : Good P sg K (fun fn is => (T fn is).or (U fn is)) := by
 refine ⟨fun fn is o h => ?_, fun mk b n c i o h => ?_⟩
 ·cases ht : T fn is with
  | some x => simp only [ht, Option.some_or] at h; cases h; exact hT.1 fn is _ ht
  | none => simp only [ht, Option.none_or] at h; exact hU.1 fn is o h
 ·cases ht : T 0 (codeQ mk b n c i) with
  | some x => simp only [ht, Option.some_or] at h; cases h; exact hT.2 mk b n c i _ ht
  | none => simp only [ht, Option.none_or] at h; exact hU.2 mk b n c i o h
def idxR (p : Row → Bool) (l : Rows) : Int := match findN l.length (fun i => p (l[i]?.getD [])) with
 | some i => (i : Int)
 | none => -1
theorem idxR_any {p : Row → Bool} {l : Rows} : decide (idxR p l ≥ 0) = l.any p := by
 unfold idxR
 cases h : findN l.length (fun i => p (l[i]?.getD [])) with
 | some i =>
  obtain ⟨h1, h2, _⟩ := findN_some.1 h
  have : l.any p = true := List.any_eq_true.2 ⟨l[i], List.getElem_mem h1, by simpa [List.getElem?_eq_getElem h1] using h2⟩
  simp [this]
 | none =>
  have h1 := findN_none.1 h
  have : l.any p = false := by
   rw [List.any_eq_false]
   intro x hx
   obtain ⟨i, hi, rfl⟩ := List.mem_iff_getElem.1 hx
   have := h1 i hi
   simpa [List.getElem?_eq_getElem hi] using this
  simp [this]
theorem idx_loop {L : Nat → Nat → Int → Option (Ex × List AV)} {l : Rows} {p : Row → Bool}
  (hend : ∀ d m, L d (m + 1) (l.length : Int) = some (.exit 0, []))
  (hstep : ∀ (i : Nat) (x : Row), i < l.length → l[i]? = some x → Stp (fun d m => L d (m + 1) (i : Int)) (fun d m => L d m ((i + 1 : Nat) : Int)) (.ret, [.v (.int .i64 (i : Int))]) (!p x)) :
  Evt (fun d m => L d m 0) (match findN l.length (fun i => p (l[i]?.getD [])) with | some i => (.ret, [.v (.int .i64 (i : Int))]) | none => (.exit 0, [])) :=
 find_loop hend fun i hi => by
  have hx := List.getElem?_eq_getElem hi
  have := hstep i _ hi hx
  simpa [hx] using this
def idxEnd (e : Ex) (ys : List AV) : Option Out := bif e.same .ret then (aV ys 0 fun x => aI .i64 x fun n => some (io n)) else (bif e.same (.exit 0) then some (io (-1)) else none)
theorem idx_of {L : Nat → Nat → Option (Ex × List AV)} {l : Rows} {p : Row → Bool} (h : Evt L (match findN l.length (fun i => p (l[i]?.getD [])) with | some i => (.ret, [.v (.int .i64 (i : Int))]) | none => (.exit 0, []))) :
  Evt (fun d _ => aft (L d d) idxEnd) (io (idxR p l)) := by
 refine ev_aft (F := fun _ _ => idxEnd) h ?_
 unfold idxR
 cases findN l.length _ with
 | some i => simp only [idxEnd, Ex.same, cond_true, aV_z, aI_v]; exact Evt.ret
 | none => simp only [idxEnd, Ex.same, cond_true, cond_false, Nat.beq]; exact Evt.ret
def cN (x : Row) (c : Nat) : Int := match x[c]? with
 | some (.v (.int _ n)) => n
 | _ => 0
def cT (x : Row) (c : Nat) : ByteArray := match x[c]? with
 | some (.v (.string s)) => s
 | _ => ByteArray.empty
def cE (x : Row) (c : Nat) : Bool := match x[c]? with
 | some (.v (.bool b)) => b
 | _ => false
def cR (x : Row) (c : Nat) : Rows := match x[c]? with
 | some (.s _ l) => l
 | _ => []
abbrev Fits (n : Int) : Prop := IntKind.i64.min ≤ n ∧ n ≤ IntKind.i64.max
end Go.Am
/- AM: what names, numbers, values, works and runs must be, as plain functions of data; loops that copy. Nothing is assumed. -/
namespace Go.Am
theorem byteAt_at {R : Type} {s : ByteArray} {i : Nat} {b : UInt8} {K : UInt8 → Option R} (h : s.toList[i]? = some b) : byteAt s i K = K b := by simp [byteAt, h]
theorem toList_length {s : ByteArray} : s.toList.length = s.size := by rw [ByteArray.toList_eq]; simp
theorem byte_get {s : ByteArray} {i : Nat} (h : i < s.size) : ∃ b, s.toList[i]? = some b := by
 rw [← toList_length] at h
 exact ⟨_, List.getElem?_eq_getElem h⟩
theorem byte_wrap {b : UInt8} : IntKind.i64.wrap (b.toNat : Int) = (b.toNat : Int) := by
 have := b.toNat_lt
 exact wrap_i64 (by omega) (by omega)
theorem wrap_pred {j : Nat} (h : j ≤ maxLen) : IntKind.i64.wrap (((j + 1 : Nat) : Int) - 1) = (j : Int) := by
 rw [wrap_i64 (by omega) (by simp only [maxLen] at h; omega)]
 omega
theorem pos_succ {j : Nat} : decide (((j + 1 : Nat) : Int) > 0) = true := by simp
theorem pos_zero : decide (((0 : Nat) : Int) > 0) = false := rfl
def inB (n lo hi : Int) : Bool := decide (n ≥ lo) && decide (n ≤ hi)
def nameCh (b : UInt8) : Bool := inB (b.toNat : Int) 97 122 || inB (b.toNat : Int) 48 57 || ((b.toNat : Int) == 45)
def byteOf (s : ByteArray) (i : Nat) : Int := ((s.toList[i]?.getD 0).toNat : Int)
def nameOk (s : ByteArray) : Bool := allN s.size (fun i => nameCh (s.toList[i]?.getD 0)) && (inB (s.size : Int) 1 20 && ((byteOf s 0 != 45) && (byteOf s (s.size - 1) != 45)))
def row_ (l : Rows) (i : Nat) : Row := l[i]?.getD []
def chain (lt : Row → Row → Bool) (l : Rows) (i : Nat) : Bool := match i with
 | 0 => true
 | j + 1 => lt (row_ l j) (row_ l (j + 1))
def upT (c : Nat) (a b : Row) : Bool := bytesLess (cT a c) (cT b c)
def upN (c : Nat) (a b : Row) : Bool := !decide (cN a c ≥ cN b c)
def keysB (l : Rows) : Bool := allN l.length (fun i => nameOk (cT (row_ l i) 0) && chain (upT 0) l i)
def namesOk (l : Rows) (most : Int) : Bool := keysB l && decide ((l.length : Int) ≤ most)
def textOk (s : ByteArray) : Bool := allN s.size (fun i => inB (byteOf s i) 32 126) && decide ((s.size : Int) ≤ 100)
def bare (s : ByteArray) : Bool := bytesEq s ⟨#[]⟩
def shapeB (k : Int) (s : ByteArray) (n : Int) (keys kids : Rows) : Bool :=
 if k = 1 then textOk s && ((n == 0) && (((keys.length : Int) == 0) && ((kids.length : Int) == 0)))
 else if k = 2 then bare s && (((keys.length : Int) == 0) && ((kids.length : Int) == 0))
 else if k = 3 then bare s && (inB n 0 1 && (((keys.length : Int) == 0) && ((kids.length : Int) == 0)))
 else if k = 4 then bare s && ((n == 0) && ((keys.length : Int) == 0))
 else if k = 5 then namesOk keys 300 && (((keys.length : Int) == (kids.length : Int)) && (bare s && (n == 0)))
 else false
def kidSum (f : Row → Int) : Rows → Int → Int
 | [], n => n
 | x :: l, n => if f x = 0 ∨ n + f x > 300 then 0 else kidSum f l (n + f x)
def valSz : Nat → Row → Int
 | 0, _ => 0
 | d + 1, v => if shapeB (cN v 0) (cT v 1) (cN v 2) (cR v 3) (cR v 4) then kidSum (valSz d) (cR v 4) 1 else 0
def valueOk (v : Row) : Bool := decide (valSz 6 v > 0)
theorem kidSum_rng {f : Row → Int} (hf : ∀ x, 0 ≤ f x ∧ f x ≤ 300) : ∀ (l : Rows) (n : Int), 1 ≤ n → n ≤ 300 → 0 ≤ kidSum f l n ∧ kidSum f l n ≤ 300 ∧ (kidSum f l n ≠ 0 → n + l.length ≤ kidSum f l n) := by
 intro l
 induction l with
 | nil => intro n h0 h1; simp only [kidSum, List.length_nil]; omega
 | cons x l ih =>
  intro n h0 h1
  simp only [kidSum]
  split
  ·simp
  ·rename_i h
   have := hf x
   have := ih (n + f x) (by omega) (by omega)
   simp only [List.length_cons]
   refine ⟨this.1, this.2.1, fun hne => ?_⟩
   have := this.2.2 hne
   omega
theorem valSz_rng : ∀ (d : Nat) (v : Row), 0 ≤ valSz d v ∧ valSz d v ≤ 300 := by
 intro d
 induction d with
 | zero => intro v; simp [valSz]
 | succ d ih =>
  intro v
  simp only [valSz]
  split
  ·have := kidSum_rng ih (cR v 4) 1 (by omega) (by omega)
   exact ⟨this.1, this.2.1⟩
  ·simp
theorem setD_last {l : Rows} {x : Row} {c : Nat} {d : D} : setD (l ++ [x]) (0 + l.length) c d = l ++ [x.set c d] := by
 rw [Nat.zero_add]
 exact setD_mid (pre := l) (post := [])
end Go.Am
