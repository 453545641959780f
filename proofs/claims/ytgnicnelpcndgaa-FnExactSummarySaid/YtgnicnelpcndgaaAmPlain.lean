/- AM: the table of all functions, by depth; what data weigh, when they are the same; loops over rows. Nothing is assumed. -/
import Derived.Test.YtgnicnelpcndgaaAmLaw
import Derived.Test.YtgnicnelpcndgaaAmUni
set_option linter.unusedVariables false
set_option linter.unusedSimpArgs false
namespace Go.Am
/-! ### the table -/
def lookF (fn : Nat) : List (Nat × AFun) → Option AFun
  | [] => none
  | (n, a) :: l => bif Nat.beq n fn then some a else lookF fn l
def lenIs : List I → List Mode → Bool
  | [], [] => true
  | _ :: l, _ :: m => lenIs l m
  | _, _ => false
def Tab (funs : List (Nat × AFun)) (K : Nat) : Nat → Table
  | 0 => fun _ _ => none
  | d + 1 => fun fn is => match lookF fn funs with
    | some af => bif lenIs is af.modes then evalF (Tab funs K d) K af is else none
    | none => none
theorem lenIs_ok {l : List I} : ∀ {m : List Mode}, lenIs l m = true → l.length = m.length := by
  induction l with
  | nil => intro m h; cases m with
    | nil => rfl
    | cons => simp [lenIs] at h
  | cons x l ih => intro m h; cases m with
    | nil => simp [lenIs] at h
    | cons => simp only [lenIs] at h; simp [ih h]
theorem lookF_mem {fn : Nat} {funs : List (Nat × AFun)} {af : AFun} (h : lookF fn funs = some af) : (fn, af) ∈ funs := by
  induction funs with
  | nil => simp [lookF] at h
  | cons p l ih =>
    obtain ⟨n, a⟩ := p
    simp only [lookF] at h
    cases hb : Nat.beq n fn with
    | true =>
      have := Nat.eq_of_beq_eq_true hb
      subst this
      simp only [hb, cond_true, Option.some.injEq] at h
      subst h
      simp
    | false =>
      simp only [hb, cond_false] at h
      simp [ih h]
theorem tab_good {P : Program} {sg : Sigs} {funs : List (Nat × AFun)} {K : Nat} (h : ∀ p ∈ funs, chkFun P sg p.1 p.2 = true) (d : Nat) : Good P sg (Tab funs K d) := by
  induction d with
  | zero => exact good_none
  | succ d ih =>
    intro fn is o ho
    simp only [Tab] at ho
    split at ho
    · rename_i af haf
      cases hl : lenIs is af.modes with
      | false => simp [hl] at ho
      | true =>
        simp only [hl, cond_true] at ho
        exact evalF_ok ih (h _ (lookF_mem haf)) (lenIs_ok hl) ho
    · simp at ho
/-- From this depth on the table says so. -/
def Has (funs : List (Nat × AFun)) (K r fn : Nat) (is : List I) (o : Out) : Prop := ∀ d, r ≤ d → Tab funs K d fn is = some o
theorem Has.mono {funs : List (Nat × AFun)} {K r r' fn : Nat} {is : List I} {o : Out} (h : Has funs K r fn is o) (hr : r ≤ r') : Has funs K r' fn is o := fun d hd => h d (Nat.le_trans hr hd)
/-- A function, from what it calls. -/
theorem Has.of {funs : List (Nat × AFun)} {K r fn : Nat} {is : List I} {o : Out} {af : AFun} (hl : lookF fn funs = some af) (hn : lenIs is af.modes = true) (h : ∀ d, r ≤ d → evalF (Tab funs K d) K af is = some o) : Has funs K (r + 1) fn is o := by
  intro d hd
  cases d with
  | zero => omega
  | succ d =>
    simp only [Tab, hl, hn, cond_true]
    exact h d (by omega)
theorem callT_has {R : Type} {funs : List (Nat × AFun)} {K r fn d : Nat} {is : List I} {o : Out} {F : Out → Option R} (h : Has funs K r fn is o) (hd : r ≤ d) : callT (Tab funs K d) fn is F = F o := by
  unfold callT
  rw [h d hd]
/-! ### weight and sameness of data -/
mutual
def wtD : D → Nat
  | .v (.string s) => s.size
  | .v _ => 0
  | .s _ rows => rows.length + wtRows rows
def wtRow : List D → Nat
  | [] => 0
  | d :: ds => wtD d + wtRow ds
def wtRows : List (List D) → Nat
  | [] => 0
  | r :: rs => wtRow r + wtRows rs
end
mutual
def eqD : D → D → Bool
  | .v (.int _ a), .v (.int _ b) => a == b
  | .v (.bool a), .v (.bool b) => a == b
  | .v (.string a), .v (.string b) => bytesEq a b
  | .s _ a, .s _ b => (a.length == b.length) && eqRows a b
  | _, _ => false
def eqRow : List D → List D → Bool
  | [], [] => true
  | a :: as, b :: bs => eqD a b && eqRow as bs
  | _, _ => false
def eqRows : List (List D) → List (List D) → Bool
  | [], [] => true
  | a :: as, b :: bs => eqRow a b && eqRows as bs
  | _, _ => false
end
/-- A yes or a no. -/
abbrev bo (b : Bool) : Out := ⟨.d (.v (.bool b)), []⟩
theorem bo_and {c b : Bool} : (bif c == true then some (bo b) else some (bo false)) = some (bo (c && b)) := by cases c <;> rfl
theorem bo_not {c b : Bool} : (bif !c then some (bo false) else some (bo b)) = some (bo (c && b)) := by cases c <;> rfl
theorem bo_ne {a c : Int} {b : Bool} : (bif a != c then some (bo false) else some (bo b)) = some (bo ((a == c) && b)) := by
  cases h : a == c <;> simp [bne, h]
/-! ### loops over rows -/
theorem wrap_succ {i m : Nat} (h : i < m) (hm : m ≤ maxLen) : IntKind.i64.wrap ((i : Int) + 1) = ((i + 1 : Nat) : Int) := by
  rw [wrap64 (by omega) (by simp only [maxLen] at hm ⊢; omega)]
  omega
/-- A loop that compares two arrays row by row. -/
theorem eq_loop {L : Nat → List AV → Option (Ex × List AV)} {mk : Int → List AV} {f : Row → Row → Bool} {ex : Ex} {l3 l4 : Rows} (hl : l3.length = l4.length)
    (hstep : ∀ (n i : Nat), L (n + 1) (mk i) = match l3[i]?, l4[i]? with
      | some a, some b => bif f a b then L n (mk ((i + 1 : Nat) : Int)) else some (.ret, [.v (.bool false)])
      | _, _ => some (ex, [])) :
    ∀ (n i : Nat), l3.length - i < n → L n (mk i) = bif ((l3.drop i).zip (l4.drop i)).all (fun p => f p.1 p.2) then some (ex, []) else some (.ret, [.v (.bool false)]) := by
  intro n
  induction n with
  | zero => intro i h; omega
  | succ n ih =>
    intro i h
    rw [hstep]
    rcases Nat.lt_or_ge i l3.length with hi | hi
    · have hi4 : i < l4.length := by omega
      rw [List.getElem?_eq_getElem hi, List.getElem?_eq_getElem hi4, List.drop_eq_getElem_cons hi, List.drop_eq_getElem_cons hi4]
      simp only [List.zip_cons_cons, List.all_cons]
      cases hf : f l3[i] l4[i] with
      | false => simp
      | true =>
        simp only [cond_true, Bool.true_and]
        exact ih (i + 1) (by omega)
    · rw [List.getElem?_eq_none hi, List.drop_of_length_le hi]
      simp
theorem eqRows_zip : ∀ {l m : Rows}, l.length = m.length → eqRows l m = (l.zip m).all (fun p => eqRow p.1 p.2) := by
  intro l
  induction l with
  | nil => intro m h; cases m with
    | nil => rfl
    | cons => simp at h
  | cons a l ih => intro m h; cases m with
    | nil => simp at h
    | cons b m => simp only [eqRows, List.zip_cons_cons, List.all_cons]; rw [ih (by simpa using h)]
end Go.Am
