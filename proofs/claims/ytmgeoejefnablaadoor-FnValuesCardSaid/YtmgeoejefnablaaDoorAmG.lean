/- The abstract machine AM, part G: what it computes keeps the contracts of the program. Nothing is assumed. -/
import Derived.Test.YtmgeoejefnablaaDoorAmD
import Derived.Below
import Derived.Lib.Join
import Derived.Lib.IndexAny
import Derived.Lib.Strings
import Derived.Lib.ReplaceLaws
import Derived.Lib.SplitLaws
import Derived.Lib.IndexBytes
set_option linter.unusedVariables false
set_option linter.unusedSimpArgs false
/- AM: library functions on strings by contracts that stand already. Nothing is assumed. -/
namespace Go.Am
open Go.RowKit (Below)
theorem args_rd {X : Nat → Prop} {w : World} {Z : Nat → Prop} {is : List I} : ∀ {vs : List Value} {c : List Nat}, ArgsRel X w Z (List.replicate is.length .rd) is vs c → IFroL X w Z is vs ∧ c = [] := by
  induction is with
  | nil => intro vs c h; cases h; exact ⟨.nil, rfl⟩
  | cons i is ih =>
    intro vs c h
    cases h with
    | rd h h' =>
      obtain ⟨h1, h2⟩ := ih h'
      exact ⟨.cons h h1, h2⟩
theorem BackRel.rds {X : Nat → Prop} {w : World} : ∀ {vs : List Value}, BackRel X w (List.replicate vs.length .rd) vs [] []
  | [] => .nil
  | _ :: _ => .rd BackRel.rds
theorem WInv.below {w w' : World} {Z : Nat → Prop} (hw : WInv w [] Z w []) (hb : Below w.heap.size w w') : WInv w [] Z w' [] :=
  ⟨by simp, by simp, hw.zlt, hb.size, by simp, fun b h _ => hb.block b h, ⟨hb.os, hb.output, hb.tape⟩, fun b cs el fz h => ⟨cs, by rw [hb.block b (Array.getElem?_eq_some_iff.1 h).1]; exact h, rfl⟩⟩
theorem callsF_of {P : Program} {fn : Nat} {f : Func} {c : Code} {vs : Array Value} {w : World} {R : Ending → World → Prop} (hf : P.funcs[fn]? = some f) (hb : f.body = some c) (hname : (f.name == "runtime.NumGoroutine") = false) (h : Calls P fn vs w R) : CallsF P fn vs w R := by
  have hname' : f.name ≠ "runtime.NumGoroutine" := by simpa using hname
  exact .inl ⟨by simp [callFunc, hf, hname', hb], h⟩
theorem CallsF.mono {P : Program} {fn : Nat} {vs : Array Value} {w : World} {R R' : Ending → World → Prop} (h : CallsF P fn vs w R) (hR : ∀ e w', R e w' → R' e w') : CallsF P fn vs w R' := by
  rcases h with ⟨h1, h2⟩ | ⟨v, w', h1, h2⟩
  · exact .inl ⟨h1, h2.mono hR⟩
  · exact .inr ⟨v, w', h1, hR _ _ h2⟩
/-- A function that gives back data without slices and leaves the world below as it was. -/
theorem sat_below {K : Src} {P : Program} {sg : Sigs} {fn : Nat} {is : List I} {r : I} (hs : sg fn = none)
    (h : ∀ (w : World) (Z : Nat → Prop) (vs : List Value), Pin P K Z w → IFroL sg.X w Z is vs → CallsF P fn vs.toArray w fun e w' => ∃ v, e = .returned v ∧ IOwn sg.X w' r v [] ∧ Below w.heap.size w w') : Sat P sg K fn is ⟨r, []⟩ := by
  intro w Z vs cin hp ha hw
  have hm : sg.modes fn is.length = List.replicate is.length .rd := by simp [Sigs.modes, hs]
  rw [hm] at ha ⊢
  obtain ⟨hi, rfl⟩ := args_rd ha
  refine (h w Z vs hp hi).mono fun e w' ⟨v, he, hr, hb⟩ => ⟨v, [], [], he, hr, ?_, hw.below hb⟩
  have : is.length = vs.length := ha.lengths.2.symm
  rw [this]
  exact BackRel.rds
def natF (n : Nat) (f : List I → Option I) : Table := fun fn is => bif Nat.beq fn n then (f is).map fun r => ⟨r, []⟩ else none
theorem natF_good {K : Src} {P : Program} {sg : Sigs} {n : Nat} {f : List I → Option I} (hs : sg n = none)
    (h : ∀ is r, f is = some r → ∀ (w : World) (Z : Nat → Prop) (vs : List Value), Pin P K Z w → IFroL sg.X w Z is vs → CallsF P n vs.toArray w fun e w' => ∃ v, e = .returned v ∧ IOwn sg.X w' r v [] ∧ Below w.heap.size w w') (h0 : Nat.beq 0 n = false := by rfl) : Good P sg K (natF n f) := by
  refine ⟨fun fn is o ho => ?_, fun mk b m c i o h => by simp [natF, h0] at h⟩
  unfold natF at ho
  cases hb : Nat.beq fn n with
  | false => simp [hb] at ho
  | true =>
    have := Nat.eq_of_beq_eq_true hb
    subst this
    simp only [hb, cond_true, Option.map_eq_some_iff] at ho
    obtain ⟨r, hr, rfl⟩ := ho
    exact sat_below hs (h is r hr)
theorem str_in {X : Nat → Prop} {w : World} {Z : Nat → Prop} {s : ByteArray} {v : Value} (h : IFro X w Z (.d (.v (.string s))) v) : v = .string s := by
  cases h with | d h => cases h with | v h => rfl
theorem strs_in1 {X : Nat → Prop} {w : World} {Z : Nat → Prop} {a : ByteArray} {vs : List Value} (h : IFroL X w Z [.d (.v (.string a))] vs) : vs = [.string a] := by
  cases h with
  | cons h h' => cases h'; rw [str_in h]
theorem strs_in2 {X : Nat → Prop} {w : World} {Z : Nat → Prop} {a b : ByteArray} {vs : List Value} (h : IFroL X w Z [.d (.v (.string a)), .d (.v (.string b))] vs) : vs = [.string a, .string b] := by
  cases h with
  | cons h h' => rw [str_in h, strs_in1 h']
theorem strs_in3 {X : Nat → Prop} {w : World} {Z : Nat → Prop} {a b c : ByteArray} {vs : List Value} (h : IFroL X w Z [.d (.v (.string a)), .d (.v (.string b)), .d (.v (.string c))] vs) : vs = [.string a, .string b, .string c] := by
  cases h with
  | cons h h' => rw [str_in h, strs_in2 h']
theorem own_str {X : Nat → Prop} {w : World} {s : ByteArray} : IOwn X w (.d (.v (.string s))) (.string s) [] := .d (.v trivial)
theorem own_b {X : Nat → Prop} {w : World} {b : Bool} : IOwn X w (.d (.v (.bool b))) (.bool b) [] := .d (.v trivial)
theorem own_i {X : Nat → Prop} {w : World} {k : IntKind} {n : Int} : IOwn X w (.d (.v (.int k n))) (.int k n) [] := .d (.v trivial)
theorem own_sb {X : Nat → Prop} {w : World} {s : ByteArray} {b : Bool} : IOwn X w (.t [.d (.v (.string s)), .d (.v (.bool b))]) (.tuple #[.string s, .bool b]) [] := .t (.cons own_str (c' := []) (.cons own_b (c' := []) .nil))
theorem own_ssb {X : Nat → Prop} {w : World} {s t : ByteArray} {b : Bool} : IOwn X w (.t [.d (.v (.string s)), .d (.v (.string t)), .d (.v (.bool b))]) (.tuple #[.string s, .string t, .bool b]) [] :=
  .t (.cons own_str (c' := []) (.cons own_str (c' := []) (.cons own_b (c' := []) .nil)))
theorem below_same {w : World} : Below w.heap.size w w := Below.refl _ _
/-- The cell of a package variable. -/
theorem Pin.cell {K : Src} {P : Program} {Z : Nat → Prop} {w : World} {g : Nat} {Q : Value → Prop} (h : Pin P K Z w) (hg : g < P.globals.size) (hc : ∀ wt : World, wt.ShapedOpen P → ∃ v, wt.cell? ⟨g, 0, none⟩ = some v ∧ Q v) : ∃ v, w.cell? ⟨g, 0, none⟩ = some v ∧ Q v := by
  obtain ⟨⟨wt, h1, h2⟩, _⟩ := h
  obtain ⟨v, h3, h4⟩ := hc wt h1
  have hl : g < wt.heap.size := World.block_lt_of_cell? wt ⟨g, 0, none⟩ h3
  obtain ⟨_, h5⟩ := h2 g hg hl
  refine ⟨v, ?_, h4⟩
  unfold World.cell? at *
  simp only [h5]
  exact h3
/-! ### strings.ReplaceAll, strings.Join -/
abbrev bOf (l : List UInt8) : ByteArray := ⟨l.toArray⟩
def repS (s old new : ByteArray) : ByteArray := bOf (Lib.replaceAll s.data.toList old.data.toList new.data.toList)
def repOk (s old new : ByteArray) : Bool := decide (s.size < 4294967281) && decide (1 ≤ old.size) && decide (s.size + Lib.countB s old * new.size ≤ 140737488355328)
def fReplace : List I → Option I
  | [.d (.v (.string s)), .d (.v (.string old)), .d (.v (.string new))] => bif repOk s old new then some (.d (.v (.string (repS s old new)))) else none
  | _ => none
theorem replace_good {K : Src} {P : Program} {sg : Sigs} {n g : Nat} {f : Func} {c : Code} (hs : sg n = none) (hf : P.funcs[n]? = some f) (hb : f.body = some c) (hname : (f.name == "runtime.NumGoroutine") = false) (hg : g < P.globals.size)
    (hc : ∀ wt : World, wt.ShapedOpen P → ∃ m : Int, wt.cell? ⟨g, 0, none⟩ = some (.int .i64 m))
    (h : ∀ (s old new : ByteArray) (m : Int) (w : World), s.size < 4294967281 → w.cell? ⟨g, 0, none⟩ = some (.int .i64 m) → 1 ≤ old.size → s.size + Lib.countB s old * new.size ≤ 140737488355328 →
      Calls P n #[.string s, .string old, .string new] w fun e w' => e = .returned (.string ⟨(Lib.replaceAll s.data.toList old.data.toList new.data.toList).toArray⟩) ∧ Below w.heap.size w w') (h0 : Nat.beq 0 n = false := by rfl) : Good P sg K (natF n fReplace) :=
  natF_good (h0 := h0) hs fun is r hr w Z vs hp hi => by
    unfold fReplace at hr
    split at hr
    · rename_i s old new
      cases hk : repOk s old new with
      | false => simp [hk] at hr
      | true =>
        simp only [hk, cond_true, Option.some.injEq] at hr
        subst hr
        simp only [repOk, Bool.and_eq_true, decide_eq_true_eq] at hk
        rw [strs_in3 hi]
        obtain ⟨v, h1, m, rfl⟩ := hp.cell (Q := fun v => ∃ m : Int, v = .int .i64 m) hg fun wt h => by obtain ⟨m, hm⟩ := hc wt h; exact ⟨_, hm, m, rfl⟩
        exact callsF_of hf hb hname ((h s old new m w hk.1.1 h1 hk.1.2 hk.2).mono fun e w' ⟨he, hb⟩ => ⟨_, he, own_str, hb⟩)
    · simp at hr
def strsOf : Rows → Option (List ByteArray)
  | [] => some []
  | [.v (.string s)] :: l => (strsOf l).map fun r => s :: r
  | _ => none
def joinS (xs : List ByteArray) (sep : ByteArray) : ByteArray := bOf (Lib.join (xs.map (·.data.toList)) sep.data.toList)
def joinOk (xs : List ByteArray) (sep : ByteArray) : Bool := decide (xs.length ≤ 140737488355328) && decide ((joinS xs sep).size ≤ 140737488355328)
def fJoin : List I → Option I
  | [.d (.s 1 rows), .d (.v (.string sep))] => match strsOf rows with
    | some xs => bif joinOk xs sep then some (.d (.v (.string (joinS xs sep)))) else none
    | none => none
  | _ => none
theorem strsOf_some {rows : Rows} : ∀ {xs : List ByteArray}, strsOf rows = some xs → rows = xs.map fun s => [D.v (.string s)] := by
  induction rows with
  | nil => intro xs h; simp only [strsOf, Option.some.injEq] at h; subst h; rfl
  | cons r l ih =>
    intro xs h
    unfold strsOf at h
    split at h
    · rename_i e; cases e
    · rename_i s l' e
      cases e
      simp only [Option.map_eq_some_iff] at h
      obtain ⟨ys, h1, rfl⟩ := h
      rw [ih h1]
      rfl
    · simp at h
theorem fro_strs {w : World} {Z : Nat → Prop} : ∀ {xs : List ByteArray} {vs : List Value}, FroL w Z (xs.map fun s => [D.v (.string s)]).flatten vs → vs = xs.map Value.string
  | [], _, h => by cases h; rfl
  | x :: xs, _, h => by
    cases h with
    | cons h h' => cases h with | v h => rw [fro_strs h']; rfl
theorem join_good {K : Src} {P : Program} {sg : Sigs} {n : Nat} {f : Func} {c : Code} (hs : sg n = none) (hf : P.funcs[n]? = some f) (hb : f.body = some c) (hname : (f.name == "runtime.NumGoroutine") = false)
    (hz0 : ∀ (a : Option Addr) (c : Nat) (sep : ByteArray) (w : World), Calls P n #[.slice a 0 c, .string sep] w fun e w' => e = .returned (.string ⟨#[]⟩) ∧ w' = w)
    (h : ∀ (bk o c : Nat) (xs : List ByteArray) (sep : ByteArray) (w : World), (∀ (j : Nat) x, xs[j]? = some x → w.cell? ⟨bk, o + j, none⟩ = some (.string x)) → bk < w.heap.size → xs.length ≤ 140737488355328 → xs.length ≤ c → (Lib.join (xs.map (·.data.toList)) sep.data.toList).length ≤ 140737488355328 →
      Calls P n #[.slice (some ⟨bk, o, none⟩) xs.length c, .string sep] w fun e w' => e = .returned (.string ⟨(Lib.join (xs.map (·.data.toList)) sep.data.toList).toArray⟩) ∧ Below w.heap.size w w') (h0 : Nat.beq 0 n = false := by rfl) : Good P sg K (natF n fJoin) :=
  natF_good (h0 := h0) hs fun is r hr w Z vs hp hi => by
    unfold fJoin at hr
    split at hr
    · rename_i rows sep
      split at hr
      · rename_i xs hx
        cases hk : joinOk xs sep with
        | false => simp [hk] at hr
        | true =>
          simp only [hk, cond_true, Option.some.injEq] at hr
          subst hr
          simp only [joinOk, Bool.and_eq_true, decide_eq_true_eq] at hk
          have hrow := strsOf_some hx
          cases hi with
          | cons h1 h2 =>
            rw [strs_in1 h2]
            cases h1 with
            | d h1 =>
              cases h1 with
              | z =>
                have : xs = [] := by cases xs with | nil => rfl | cons => simp at hrow
                subst this
                exact callsF_of hf hb hname ((hz0 _ _ _ _).mono fun e w' ⟨he, hb⟩ => ⟨_, he, own_str, hb ▸ below_same⟩)
              | @s _ b off cap _ us hw hc hz hh hl =>
                subst hrow
                have hus := fro_strs hl
                subst hus
                obtain ⟨cs, el, fz, g1, g2⟩ := hh
                have hlen : (xs.map fun s => [D.v (.string s)]).length = xs.length := by simp
                rw [hlen] at hc ⊢
                refine callsF_of hf hb hname ((h b off cap xs sep w (fun j x hj => ?_) (Array.getElem?_eq_some_iff.1 g1).1 hk.1 hc (by simpa [joinS, bOf, ByteArray.size] using hk.2)).mono fun e w' ⟨he, hb⟩ => ⟨_, he, own_str, hb⟩)
                have := g2 j (.string x) (by simp [hj])
                simp [World.cell?, g1, this]
      · simp at hr
    · simp at hr
/-! ### strings.CutPrefix, strings.TrimPrefix, strings.IndexAny -/
def hasP (s p : ByteArray) : Bool := Lib.hasPrefix s.data.toList p.data.toList
def trimP (s p : ByteArray) : ByteArray := bOf (Lib.trimPrefix s.data.toList p.data.toList)
def fCut : List I → Option I
  | [.d (.v (.string s)), .d (.v (.string p))] => some (.t [.d (.v (.string (trimP s p))), .d (.v (.bool (hasP s p)))])
  | _ => none
theorem cut_good {K : Src} {P : Program} {sg : Sigs} {n : Nat} {f : Func} {c : Code} (hs : sg n = none) (hf : P.funcs[n]? = some f) (hb : f.body = some c) (hname : (f.name == "runtime.NumGoroutine") = false)
    (h : ∀ (s p : ByteArray) (w : World), Calls P n #[.string s, .string p] w fun e w' => e = .returned (.tuple #[.string ⟨(Lib.trimPrefix s.data.toList p.data.toList).toArray⟩, .bool (Lib.hasPrefix s.data.toList p.data.toList)]) ∧ w' = w) (h0 : Nat.beq 0 n = false := by rfl) : Good P sg K (natF n fCut) :=
  natF_good (h0 := h0) hs fun is r hr w Z vs hp hi => by
    unfold fCut at hr
    split at hr
    · simp only [Option.some.injEq] at hr
      subst hr
      rw [strs_in2 hi]
      exact callsF_of hf hb hname ((h _ _ w).mono fun e w' ⟨he, hw⟩ => ⟨_, he, own_sb, hw ▸ below_same⟩)
    · simp at hr
def fTrim : List I → Option I
  | [.d (.v (.string s)), .d (.v (.string p))] => some (.d (.v (.string (trimP s p))))
  | _ => none
theorem trim_good {K : Src} {P : Program} {sg : Sigs} {n : Nat} {f : Func} {c : Code} (hs : sg n = none) (hf : P.funcs[n]? = some f) (hb : f.body = some c) (hname : (f.name == "runtime.NumGoroutine") = false)
    (h : ∀ (s p : ByteArray) (w : World), Calls P n #[.string s, .string p] w fun e w' => e = .returned (.string ⟨(Lib.trimPrefix s.data.toList p.data.toList).toArray⟩) ∧ w' = w) (h0 : Nat.beq 0 n = false := by rfl) : Good P sg K (natF n fTrim) :=
  natF_good (h0 := h0) hs fun is r hr w Z vs hp hi => by
    unfold fTrim at hr
    split at hr
    · simp only [Option.some.injEq] at hr
      subst hr
      rw [strs_in2 hi]
      exact callsF_of hf hb hname ((h _ _ w).mono fun e w' ⟨he, hw⟩ => ⟨_, he, own_str, hw ▸ below_same⟩)
    · simp at hr
/-- The place of the first rune that is one of the three `,]}`; -1 without one. -/
def scan (s : ByteArray) : Nat → Nat → Int
  | 0, _ => -1
  | f + 1, pos => if pos < s.size then (if (Utf8.decode s pos).1 < 128 ∧ 0 ≤ Lib.indexByte [44, 93, 125] (UInt8.ofNat (Utf8.decode s pos).1) then (pos : Int) else scan s f (pos + (Utf8.decode s pos).2)) else -1
theorem scan_rng (s : ByteArray) : ∀ f pos, -1 ≤ scan s f pos ∧ scan s f pos ≤ s.size := by
  intro f
  induction f with
  | zero => intro pos; simp [scan]
  | succ f ih =>
    intro pos
    simp only [scan]
    split
    · split
      · omega
      · exact ih _
    · omega
def asciiB (s : ByteArray) : Bool := s.data.toList.all fun b => decide (b.toNat < 128)
/-- What strings.IndexAny says of a text and `,]}`. -/
def anyIx (s : ByteArray) : Int := bif asciiB s || decide (8 < s.size) then Lib.indexAny s.data.toList [44, 93, 125] else scan s s.size 0
theorem indexAny_rng (c : List UInt8) : ∀ l : List UInt8, -1 ≤ Lib.indexAny l c ∧ Lib.indexAny l c ≤ l.length
  | [] => by simp [Lib.indexAny]
  | b :: l => by
    have ih := indexAny_rng c l
    unfold Lib.indexAny
    simp only [List.length_cons]
    split
    · omega
    · split
      · omega
      · omega
theorem anyIx_rng (s : ByteArray) : -1 ≤ anyIx s ∧ anyIx s ≤ s.size := by
  unfold anyIx
  cases asciiB s || decide (8 < s.size) with
  | true =>
    have := indexAny_rng [44, 93, 125] s.data.toList
    have e : s.data.toList.length = s.size := by rw [Array.length_toList]; rfl
    rw [e] at this
    exact this
  | false => exact scan_rng s _ _
theorem list_bytes {c : ByteArray} {l : List UInt8} (h : c.data.toList = l) : c = ⟨l.toArray⟩ := ByteArray.ext (by rw [← h])
def fAny : List I → Option I
  | [.d (.v (.string s)), .d (.v (.string c))] => bif c.data.toList == [58] then some (.d (.v (.int .i64 (Lib.indexAny s.data.toList [58])))) else (bif c.data.toList == [44, 93, 125] && decide (s.size < 4294967281) then some (.d (.v (.int .i64 (anyIx s)))) else none)
  | _ => none
theorem any_good {K : Src} {P : Program} {sg : Sigs} {n : Nat} {f : Func} {c : Code} (hs : sg n = none) (hf : P.funcs[n]? = some f) (hb : f.body = some c) (hname : (f.name == "runtime.NumGoroutine") = false)
    (h1 : ∀ (s : ByteArray) (w : World), Calls P n #[.string s, .string ⟨#[58]⟩] w fun e w' => e = .returned (.int .i64 (Lib.indexAny s.data.toList [58])) ∧ w' = w)
    (h2 : ∀ (s : ByteArray) (w : World), s.size < 4294967281 → Calls P n #[.string s, .string ⟨#[44, 93, 125]⟩] w fun e w' => e = .returned (.int .i64 (anyIx s)) ∧ Below w.heap.size w w') (h0 : Nat.beq 0 n = false := by rfl) : Good P sg K (natF n fAny) :=
  natF_good (h0 := h0) hs fun is r hr w Z vs hp hi => by
    unfold fAny at hr
    split at hr
    · rename_i s c
      rw [strs_in2 hi]
      cases e1 : c.data.toList == [58] with
      | true =>
        have := list_bytes (eq_of_beq e1)
        subst this
        simp only [e1, cond_true, Option.some.injEq] at hr
        subst hr
        exact callsF_of hf hb hname ((h1 _ w).mono fun e w' ⟨he, hw⟩ => ⟨_, he, own_i, hw ▸ below_same⟩)
      | false =>
        simp only [e1, cond_false] at hr
        cases e2 : c.data.toList == [44, 93, 125] && decide (s.size < 4294967281) with
        | true =>
          simp only [e2, cond_true, Option.some.injEq] at hr
          subst hr
          simp only [Bool.and_eq_true, decide_eq_true_eq] at e2
          have := list_bytes (eq_of_beq e2.1)
          subst this
          exact callsF_of hf hb hname ((h2 _ w e2.2).mono fun e w' ⟨he, hw⟩ => ⟨_, he, own_i, hw⟩)
        | false => simp [e2] at hr
    · simp at hr
end Go.Am
/- AM: the text of a value, as both programs write it. Nothing is assumed. -/
namespace Go.Am
/-! ### quotes -/
def sub1 (c : UInt8) (new : List UInt8) (b : UInt8) : List UInt8 := if b = c then new else [b]
def esc (b : UInt8) : List UInt8 := if b = 34 ∨ b = 92 then [92, b] else [b]
theorem rep_k (c : UInt8) (new : List UInt8) : ∀ s : List UInt8, Lib.replaceK [c] new (s.count c) s = s.flatMap (sub1 c new)
  | [] => rfl
  | b :: l => by
    have ih := rep_k c new l
    by_cases hb : b = c
    · subst hb
      have hi : Lib.index (b :: l) [b] = 0 := by rw [Lib.index_one]; simp [Lib.indexByte]
      rw [List.count_cons_self, Lib.replaceK_hit [b] new _ _ 0 hi]
      simp [ih, sub1]
    · rw [List.count_cons_of_ne hb]
      cases hk : l.count c with
      | zero =>
        rw [hk] at ih
        simp only [Lib.replaceK] at ih ⊢
        simp only [List.flatMap_cons, ← ih, sub1, hb, if_false, List.singleton_append]
      | succ k =>
        rw [hk] at ih
        obtain ⟨j, hj⟩ := Lib.index_of_count (s := l) (old := [c]) (by rw [Lib.count_one]; omega)
        have hi : Lib.index (b :: l) [c] = ((j + 1 : Nat) : Int) := by
          rw [Lib.index_one] at hj ⊢
          have hbc : (b == c) = false := by simpa using hb
          simp only [Lib.indexByte, hbc, hj]
          have : ((j : Int) == -1) = false := by simp
          simp [this]
        rw [Lib.replaceK_hit [c] new k _ (j + 1) hi]
        rw [Lib.replaceK_hit [c] new k _ j hj] at ih
        simp only [List.take_succ_cons, List.length_singleton, List.drop_succ_cons, List.cons_append, List.flatMap_cons, ← ih, sub1, hb, if_false, List.singleton_append]
        simp
theorem rep_one {c : UInt8} {new : List UInt8} (hne : [c] ≠ new) (s : List UInt8) : Lib.replaceAll s [c] new = s.flatMap (sub1 c new) := by
  have h : ([c] == new) = false := by simpa using hne
  simp only [Lib.replaceAll, Lib.replace, h, Lib.replaceNum, Lib.count_one]
  simp [rep_k]
theorem esc_two (s : List UInt8) : (s.flatMap (sub1 92 [92, 92])).flatMap (sub1 34 [92, 34]) = s.flatMap esc := by
  induction s with
  | nil => rfl
  | cons b l ih =>
    simp only [List.flatMap_cons, List.flatMap_append, ih]
    congr 1
    unfold sub1 esc
    by_cases h1 : b = 92
    · subst h1; rfl
    · by_cases h2 : b = 34
      · subst h2; rfl
      · simp [h1, h2]
def quoL (s : ByteArray) : List UInt8 := 34 :: (s.data.toList.flatMap esc ++ [34])
def quoS (s : ByteArray) : ByteArray := bOf (quoL s)
theorem esc_len (b : UInt8) : (esc b).length ≤ 2 := by unfold esc; split <;> simp
theorem flat_len {f : UInt8 → List UInt8} (hf : ∀ b, (f b).length ≤ 2) : ∀ s : List UInt8, (s.flatMap f).length ≤ 2 * s.length
  | [] => by simp
  | b :: l => by
    have := flat_len hf l
    have := hf b
    simp only [List.flatMap_cons, List.length_append, List.length_cons]
    omega
theorem bOf_size (l : List UInt8) : (bOf l).size = l.length := by simp [bOf, ByteArray.size]
theorem quo_size {s : ByteArray} : (quoS s).size ≤ 2 * s.size + 2 := by
  have h := flat_len esc_len s.data.toList
  have e : s.data.toList.length = s.size := by rw [Array.length_toList]; rfl
  simp only [quoS, bOf_size, quoL, List.length_cons, List.length_append, List.length_nil]
  omega
theorem app_bOf (a b : List UInt8) : bOf a ++ bOf b = bOf (a ++ b) := by
  apply ByteArray.ext
  simp [bOf, ByteArray.data_append]
/-! ### texts joined -/
def comma : ByteArray := ⟨#[44]⟩
def J (l : List ByteArray) : ByteArray := joinS l comma
theorem J_nil : J [] = ByteArray.empty := rfl
theorem join_tail_snoc (sep x : List UInt8) : ∀ r : List (List UInt8), Lib.joinTail sep (r ++ [x]) = Lib.joinTail sep r ++ (sep ++ x) := by
  intro r; simp [Lib.joinTail]
theorem J_snoc (l : List ByteArray) (x : ByteArray) : J (l ++ [x]) = (bif l.isEmpty then x else J l ++ comma ++ x) := by
  cases l with
  | nil =>
    simp only [J, joinS, List.nil_append, List.map_cons, List.map_nil, Lib.join_one, List.isEmpty_nil, cond_true]
  | cons y l =>
    simp only [J, joinS, List.cons_append, List.map_cons, List.map_append, List.map_nil, Lib.join_cons, join_tail_snoc, List.isEmpty_cons, cond_false]
    apply ByteArray.ext
    simp [bOf, ByteArray.data_append, comma]
def sumB (l : List ByteArray) : Nat := (l.map fun x => x.size + 1).sum
theorem J_size : ∀ l : List ByteArray, (J l).size ≤ sumB l := by
  intro l
  induction h : l.length generalizing l with
  | zero => cases l with
    | nil => simp [J_nil, sumB]
    | cons => simp at h
  | succ n ih =>
    obtain ⟨r, x, rfl⟩ : ∃ r x, l = r ++ [x] := ⟨l.dropLast, l.getLast (by intro e; simp [e] at h), (List.dropLast_concat_getLast _).symm⟩
    have := ih r (by simpa using h)
    rw [J_snoc]
    have hc : comma.size = 1 := rfl
    cases r.isEmpty with
    | true => simp [sumB]; omega
    | false => simp only [cond_false, ByteArray.size_append, sumB, List.map_append, List.sum_append] at *; simp; omega
/-! ### the text of a value -/
def colon : ByteArray := ⟨#[58]⟩
def trueS : ByteArray := ⟨#[116, 114, 117, 101]⟩
def falseS : ByteArray := ⟨#[102, 97, 108, 115, 101]⟩
def kidTxt (f : Row → ByteArray) (v : Row) (i : Nat) : ByteArray := bif cN v 0 == 5 then cT (row_ (cR v 3) i) 0 ++ colon ++ f (row_ (cR v 4) i) else f (row_ (cR v 4) i)
def kidsTxt (f : Row → ByteArray) (v : Row) (n : Nat) : List ByteArray := (List.range n).map (kidTxt f v)
def vTxt : Nat → Row → ByteArray
  | 0, _ => ByteArray.empty
  | d + 1, v => bif cN v 0 == 1 then quoS (cT v 1) else (bif cN v 0 == 2 then decS (cN v 2) else (bif cN v 0 == 3 then (bif cN v 2 == 1 then trueS else falseS) else
    (bif cN v 0 == 5 then ⟨#[123]⟩ ++ J (kidsTxt (vTxt d) v (cR v 4).length) ++ ⟨#[125]⟩ else ⟨#[91]⟩ ++ J (kidsTxt (vTxt d) v (cR v 4).length) ++ ⟨#[93]⟩)))
theorem kidsTxt_succ {f : Row → ByteArray} {v : Row} {n : Nat} : kidsTxt f v (n + 1) = kidsTxt f v n ++ [kidTxt f v n] := by simp [kidsTxt, List.range_succ]
theorem kidsTxt_empty {f : Row → ByteArray} {v : Row} {n : Nat} : (kidsTxt f v n).isEmpty = (n == 0) := by
  cases n with
  | zero => rfl
  | succ n => simp [kidsTxt_succ]
/-- What a value that is right has: its kids are right, and their sizes and one make its own. -/
theorem kidSum_at {f : Row → Int} (hf : ∀ x, 0 ≤ f x) : ∀ (l : Rows) (n : Int), kidSum f l n ≠ 0 → (∀ x ∈ l, 0 < f x) ∧ kidSum f l n = n + (l.map f).sum ∧ (1 ≤ n → n ≤ 300 → kidSum f l n ≤ 300) := by
  intro l
  induction l with
  | nil => intro n h; simp [kidSum]
  | cons x l ih =>
    intro n h
    simp only [kidSum] at h ⊢
    split at h
    · exact absurd rfl h
    · rename_i hc
      have hx := hf x
      obtain ⟨h1, h2, h3⟩ := ih _ h
      rw [if_neg hc]
      refine ⟨fun y hy => ?_, by rw [h2]; simp; omega, fun a b => h3 (by omega) (by omega)⟩
      rcases List.mem_cons.1 hy with rfl | hy
      · omega
      · exact h1 y hy
structure ValAt (d : Nat) (v : Row) : Prop where
  shape : shapeB (cN v 0) (cT v 1) (cN v 2) (cR v 3) (cR v 4) = true
  kids : ∀ x ∈ cR v 4, 0 < valSz d x
  sum : valSz (d + 1) v = 1 + ((cR v 4).map (valSz d)).sum
theorem valAt {d : Nat} {v : Row} (h : 0 < valSz (d + 1) v) : ValAt d v := by
  simp only [valSz] at h
  split at h
  · rename_i hs
    obtain ⟨h1, h2, _⟩ := kidSum_at (fun x => (valSz_rng d x).1) (cR v 4) 1 (by omega)
    exact ⟨hs, h1, by simp only [valSz, hs, if_true]; exact h2⟩
  · omega
theorem row_at {l : Rows} {i : Nat} (h : i < l.length) : row_ l i = l[i] := by simp [row_, List.getElem?_eq_getElem h]
theorem row_mem {l : Rows} {i : Nat} (h : i < l.length) : row_ l i ∈ l := by rw [row_at h]; exact List.getElem_mem h
theorem sum_take {l : List Int} (hl : ∀ x ∈ l, 0 ≤ x) (n : Nat) : (l.take n).sum ≤ l.sum := by
  have : l.sum = (l.take n).sum + (l.drop n).sum := by rw [← List.sum_append, List.take_append_drop]
  have h2 : ∀ l : List Int, (∀ x ∈ l, 0 ≤ x) → 0 ≤ l.sum := by
    intro l
    induction l with
    | nil => simp
    | cons x l ih => intro h; have := h x (by simp); have := ih fun y hy => h y (by simp [hy]); simp; omega
  have := h2 (l.drop n) fun x hx => hl x (List.mem_of_mem_drop hx)
  omega
/-- Keys are short. -/
theorem key_size {l : Rows} {u : Int} (h : namesOk l u = true) {i : Nat} (hi : i < l.length) : (cT (row_ l i) 0).size ≤ 20 := by
  simp only [namesOk, keysB, Bool.and_eq_true, allN, List.all_eq_true, List.mem_range] at h
  have := (h.1 i hi)
  simp only [Bool.and_eq_true, nameOk, inB, decide_eq_true_eq] at this
  omega
theorem shape_keys {k : Int} {s : ByteArray} {n : Int} {keys kids : Rows} (h : shapeB k s n keys kids = true) (h5 : k = 5) : keys.length = kids.length ∧ namesOk keys 300 = true := by
  subst h5
  simp [shapeB] at h
  exact ⟨by omega, h.1⟩
theorem shape_text {k : Int} {s : ByteArray} {n : Int} {keys kids : Rows} (h : shapeB k s n keys kids = true) (h1 : k = 1) : s.size ≤ 100 ∧ textOk s = true := by
  subst h1
  simp [shapeB] at h
  refine ⟨?_, by simp_all⟩
  have : textOk s = true := by simp_all
  simp only [textOk, Bool.and_eq_true, decide_eq_true_eq] at this
  omega
theorem shape_kind {k : Int} {s : ByteArray} {n : Int} {keys kids : Rows} (h : shapeB k s n keys kids = true) : k = 1 ∨ k = 2 ∨ k = 3 ∨ k = 4 ∨ k = 5 := by
  unfold shapeB at h
  split at h
  · omega
  · split at h
    · omega
    · split at h
      · omega
      · split at h
        · omega
        · split at h
          · omega
          · simp at h
/-- The numbers in a value are numbers of their kind. -/
def numOk : Nat → Row → Prop
  | 0, _ => True
  | d + 1, v => (IntKind.i64.min ≤ cN v 2 ∧ cN v 2 ≤ IntKind.i64.max) ∧ ∀ x ∈ cR v 4, numOk d x
theorem kid_size {d : Nat} {v : Row} (h : ValAt d v) (hk : ∀ x ∈ cR v 4, ((vTxt d x).size : Int) + 22 ≤ 272 * valSz d x) {i : Nat} (hi : i < (cR v 4).length) : ((kidTxt (vTxt d) v i).size : Int) + 1 ≤ 272 * valSz d (row_ (cR v 4) i) := by
  have h1 := hk _ (row_mem hi)
  unfold kidTxt
  cases hc : cN v 0 == 5 with
  | false => simp only [cond_false]; omega
  | true =>
    obtain ⟨h2, h3⟩ := shape_keys h.shape (by simpa using hc)
    have h4 := key_size h3 (i := i) (by omega)
    have h5 : colon.size = 1 := rfl
    simp only [cond_true, ByteArray.size_append]
    omega
theorem kids_size {d : Nat} {v : Row} (h : ValAt d v) (hk : ∀ x ∈ cR v 4, ((vTxt d x).size : Int) + 22 ≤ 272 * valSz d x) : ∀ i, i ≤ (cR v 4).length → (sumB (kidsTxt (vTxt d) v i) : Int) ≤ 272 * (((cR v 4).take i).map (valSz d)).sum := by
  intro i
  induction i with
  | zero => intro _; simp [kidsTxt, sumB]
  | succ i ih =>
    intro hi
    have h1 := ih (by omega)
    have h2 := kid_size h hk (i := i) (by omega)
    rw [kidsTxt_succ, List.take_succ_eq_append_getElem (by omega)]
    rw [row_at (by omega)] at h2
    simp only [sumB, List.map_append, List.map_cons, List.map_nil, List.sum_append, List.sum_cons, List.sum_nil] at h1 ⊢
    omega
theorem kids_fit {d : Nat} {v : Row} (h : 0 < valSz (d + 1) v) (hk : ∀ x ∈ cR v 4, ((vTxt d x).size : Int) + 22 ≤ 272 * valSz d x) {i : Nat} (hi : i ≤ (cR v 4).length) : ((J (kidsTxt (vTxt d) v i)).size : Int) + 272 ≤ 272 * valSz (d + 1) v := by
  have hv := valAt h
  have h1 := kids_size hv hk i hi
  have h2 := J_size (kidsTxt (vTxt d) v i)
  have h3 := sum_take (l := (cR v 4).map (valSz d)) (fun x hx => by obtain ⟨y, _, rfl⟩ := List.mem_map.1 hx; exact (valSz_rng d y).1) i
  rw [← List.map_take] at h3
  have h4 := hv.sum
  omega
theorem vTxt_size : ∀ (d : Nat) (v : Row), 0 < valSz d v → numOk d v → ((vTxt d v).size : Int) + 22 ≤ 272 * valSz d v := by
  intro d
  induction d with
  | zero => intro v h; simp [valSz] at h
  | succ d ih =>
    intro v h hn
    have hv := valAt h
    have hk := kids_fit h (fun x hx => ih x (hv.kids x hx) (hn.2 x hx)) (Nat.le_refl _)
    have h1 : (trueS.size : Int) = 4 := rfl
    have h2 : (falseS.size : Int) = 5 := rfl
    have h3 := decS_size hn.1.1 hn.1.2
    unfold vTxt
    cases c1 : cN v 0 == 1 with
    | true =>
      have := shape_text hv.shape (by simpa using c1)
      have := quo_size (s := cT v 1)
      simp only [cond_true]; omega
    | false =>
      cases c2 : cN v 0 == 2 with
      | true => simp only [cond_true, cond_false]; omega
      | false =>
        cases c3 : cN v 0 == 3 with
        | true => cases c4 : cN v 2 == 1 <;> simp only [cond_true, cond_false] <;> omega
        | false =>
          have e1 : (⟨#[123]⟩ : ByteArray).size = 1 := rfl
          have e2 : (⟨#[125]⟩ : ByteArray).size = 1 := rfl
          have e3 : (⟨#[91]⟩ : ByteArray).size = 1 := rfl
          have e4 : (⟨#[93]⟩ : ByteArray).size = 1 := rfl
          cases c5 : cN v 0 == 5 <;> simp only [cond_true, cond_false, ByteArray.size_append] <;> omega
theorem len_sum {l : List Int} : (∀ x ∈ l, 0 < x) → (l.length : Int) ≤ l.sum := by
  induction l with
  | nil => simp
  | cons x l ih =>
    intro h
    have h1 := h x (by simp)
    have h2 := ih fun y hy => h y (by simp [hy])
    simp only [List.length_cons, List.sum_cons]
    omega
theorem shape_few {d : Nat} {v : Row} (h : 0 < valSz (d + 1) v) : (cR v 4).length ≤ 300 := by
  have hv := valAt h
  have h1 := (valSz_rng (d + 1) v).2
  have h2 := len_sum (l := (cR v 4).map (valSz d)) fun x hx => by obtain ⟨y, hy, rfl⟩ := List.mem_map.1 hx; exact hv.kids y hy
  have h3 := hv.sum
  simp only [List.length_map] at h2
  omega
theorem dig_u8i {m : Nat} (h : m < 10) : IntKind.u8.wrap (IntKind.i64.wrap (48 + (m : Int))) = ((48 + m : Nat) : Int) := by
  rw [wrap_i64 (by omega) (by omega), wrap_u8 (by omega) (by omega)]
  omega
theorem J_step {f : Row → ByteArray} {v : Row} {i : Nat} {b : ByteArray} : b ++ J (kidsTxt f v (i + 1)) = (bif (i == 0) then b ++ J (kidsTxt f v i) else (b ++ J (kidsTxt f v i)) ++ comma) ++ kidTxt f v i := by
  rw [kidsTxt_succ, J_snoc, kidsTxt_empty]
  cases i with
  | zero => simp [kidsTxt, J_nil]
  | succ i => simp [ByteArray.append_assoc]
theorem strsOf_map : ∀ l : List ByteArray, strsOf (l.map fun s => [D.v (.string s)]) = some l
  | [] => rfl
  | s :: l => by simp [strsOf, strsOf_map l]
theorem quo_two (s : ByteArray) : (⟨#[34]⟩ : ByteArray) ++ repS (repS s ⟨#[92]⟩ ⟨#[92, 92]⟩) ⟨#[34]⟩ ⟨#[92, 34]⟩ ++ ⟨#[34]⟩ = quoS s := by
  have h1 : Lib.replaceAll s.data.toList [92] [92, 92] = s.data.toList.flatMap (sub1 92 [92, 92]) := rep_one (by decide) _
  have h2 : ∀ l : List UInt8, Lib.replaceAll l [34] [92, 34] = l.flatMap (sub1 34 [92, 34]) := rep_one (by decide)
  apply ByteArray.ext
  simp [repS, bOf, quoS, quoL, h1, h2, esc_two, ByteArray.data_append]
theorem rep_size {s old new : ByteArray} {c : UInt8} {l : List UInt8} (ho : old = ⟨#[c]⟩) (hn : new = ⟨l.toArray⟩) (hl : l.length = 2) : (repS s old new).size ≤ 2 * s.size := by
  subst ho hn
  have hne : [c] ≠ l := by intro e; rw [← e] at hl; simp at hl
  have e : s.data.toList.length = s.size := by rw [Array.length_toList]; rfl
  have h1 := rep_one hne s.data.toList
  have h2 := flat_len (f := sub1 c l) (fun b => by unfold sub1; split <;> first | omega | simp) s.data.toList
  have h3 : repS s ⟨#[c]⟩ ⟨l.toArray⟩ = bOf (s.data.toList.flatMap (sub1 c l)) := by simp [repS, h1]
  rw [h3, bOf_size]
  omega
theorem rep_ok {s old new : ByteArray} (h1 : old.size = 1) (h2 : new.size = 2) (hs : s.size ≤ 1000000) : repOk s old new = true := by
  have h := Lib.countB_mul_le old (by omega) s.size s (Nat.le_refl _)
  rw [h1] at h
  have : Lib.countB s old * new.size ≤ 2 * s.size := by rw [h2]; omega
  simp [repOk, h1]
  omega
end Go.Am
/- AM: that a function comes to an end, with something that is right: a calculus beside Evt. Nothing is assumed. -/
namespace Go.Am
/-- In the end it says something of which P holds. -/
def EvtE {R : Type} (P : R → Prop) (F : Nat → Nat → Option R) : Prop := ∃ y, P y ∧ Evt F y
def EvE (fs : Fns) (fn : Nat) (is : List I) (Q : Out → Prop) : Prop := ∃ o, Q o ∧ Ev fs fn is o
section
variable {R : Type} {fs : Fns} {P : R → Prop} {F A B : Nat → Nat → Option R} {c : Bool}
theorem EvtE.ret {y : R} (h : P y) : EvtE P (fun _ _ => some y) := ⟨y, h, Evt.ret⟩
theorem EvtE.mono {P' : R → Prop} (h : EvtE P F) (hP : ∀ y, P y → P' y) : EvtE P' F := by
  obtain ⟨y, h1, h2⟩ := h
  exact ⟨y, hP y h1, h2⟩
theorem EvtE.congr {G : Nat → Nat → Option R} (h : ∀ d n, F d n = G d n) (hG : EvtE P G) : EvtE P F := by
  obtain ⟨y, h1, h2⟩ := hG
  exact ⟨y, h1, Evt.congr h h2⟩
theorem eve_of {y : R} (h : Evt F y) (hP : P y) : EvtE P F := ⟨y, hP, h⟩
theorem eve_succ (h : EvtE P (fun d n => F d (n + 1))) : EvtE P F := by
  obtain ⟨y, h1, h2⟩ := h
  exact ⟨y, h1, ev_succ h2⟩
theorem eve_if (ht : c = true → EvtE P A) (hf : c = false → EvtE P B) : EvtE P (fun d n => bif c then A d n else B d n) := by
  cases c with
  | true => exact ht rfl
  | false => exact hf rfl
theorem eve_tst (h : c = true) (hA : EvtE P A) : EvtE P (fun d n => tst c (A d n)) := by
  obtain ⟨y, h1, h2⟩ := hA
  exact ⟨y, h1, ev_tst h h2⟩
theorem eve_call {fn : Nat} {is : List I} {o : Out} {G : Nat → Nat → Out → Option R} (h : Ev fs fn is o) (hF : EvtE P fun d n => G d n o) : EvtE P (fun d n => callT (TabD fs d) fn is (G d n)) := by
  obtain ⟨y, h1, h2⟩ := hF
  exact ⟨y, h1, ev_call h h2⟩
theorem eve_callE {fn : Nat} {is : List I} {Q : Out → Prop} {G : Nat → Nat → Out → Option R} (h : EvE fs fn is Q) (hF : ∀ o, Q o → EvtE P fun d n => G d n o) : EvtE P (fun d n => callT (TabD fs d) fn is (G d n)) := by
  obtain ⟨o, h1, h2⟩ := h
  exact eve_call h2 (hF o h1)
theorem eve_aft {L : Nat → Nat → Option (Ex × List AV)} {Q : Ex × List AV → Prop} {G : Nat → Nat → Ex → List AV → Option R} (h : EvtE Q L) (hF : ∀ y, Q y → EvtE P fun d n => G d n y.1 y.2) : EvtE P (fun d n => aft (L d d) (G d n)) := by
  obtain ⟨y, h1, h2⟩ := h
  obtain ⟨z, h3, h4⟩ := hF y h1
  exact ⟨z, h3, ev_aft h2 h4⟩
theorem EvE.of {fn : Nat} {is : List I} {Q : Out → Prop} {af : AFun} (hl : lookF fn fs.funs = some af) (hn : lenIs is af.modes = true) (h : EvtE Q fun d _ => evalF (TabD fs d) d af is) : EvE fs fn is Q := by
  obtain ⟨o, h1, h2⟩ := h
  exact ⟨o, h1, Ev.of hl hn h2⟩
end
end Go.Am
/- AM: what is written is read again: plain lemmas on bytes, digits, joined texts. Nothing is assumed. -/
namespace Go.Am
theorem bOf_list (l : List UInt8) : (bOf l).toList = l := by rw [ByteArray.toList_eq]
theorem bOf_data (l : List UInt8) : (bOf l).data.toList = l := rfl
theorem toList_app (a b : ByteArray) : (a ++ b).toList = a.toList ++ b.toList := by simp [ByteArray.toList_eq, ByteArray.data_append]
theorem bOf_toList (s : ByteArray) : bOf s.toList = s := by apply ByteArray.ext; simp [ByteArray.toList_eq]
theorem bOf_of {s : ByteArray} {l : List UInt8} (h : s.toList = l) : s = bOf l := by rw [← h, bOf_toList]
theorem size_of {s : ByteArray} {l : List UInt8} (h : s.toList = l) : s.size = l.length := by rw [← h, toList_length]
theorem one_list {c : Nat} : (one c).toList = [UInt8.ofNat c] := by rw [ByteArray.toList_eq]; rfl
theorem bare_eq {s : ByteArray} (h : bare s = true) : s = ⟨#[]⟩ := by
  have : s.toList = [] := by
    have e : (⟨#[]⟩ : ByteArray).toList = [] := by rw [ByteArray.toList_eq]
    simpa [bare, bytesEq, e] using h
  exact bOf_of this
/-! ### texts in quotes -/
/-- A text behind its quote: what it says, and how many bytes it takes, with the quote at its end. -/
def rdT : List UInt8 → Option (List UInt8 × Nat)
  | [] => none
  | b :: l => if b = 34 then some ([], 1) else if b = 92 then (match l with
    | [] => none
    | c :: l' => if c = 0 then none else (rdT l').map fun p => (c :: p.1, p.2 + 2)) else if b = 0 then none else (rdT l).map fun p => (b :: p.1, p.2 + 1)
/-- A text behind its quote, as the program reads it. -/
def rdP : List UInt8 → Option (List UInt8 × Nat)
  | [] => none
  | b :: l => if b = 34 then some ([], 1) else if b = 92 then (match l with
    | [] => none
    | c :: l' => (rdP l').map fun p => (c :: p.1, p.2 + 2)) else (rdP l).map fun p => (b :: p.1, p.2 + 1)
theorem rdT_esc (r : List UInt8) : ∀ t : List UInt8, (∀ b ∈ t, b ≠ 0) → rdT (t.flatMap esc ++ 34 :: r) = some (t, (t.flatMap esc).length + 1)
  | [], _ => by
    show rdT (34 :: r) = _
    unfold rdT
    rfl
  | b :: t, h => by
    have ih := rdT_esc r t fun x hx => h x (by simp [hx])
    have hb := h b (by simp)
    rw [List.flatMap_cons, List.append_assoc]
    by_cases h1 : b = 34 ∨ b = 92
    · have e : esc b = [92, b] := by simp [esc, h1]
      rw [e]
      show rdT (92 :: b :: (t.flatMap esc ++ 34 :: r)) = _
      unfold rdT
      simp only [show (92 : UInt8) ≠ 34 from by decide, if_false, if_true, hb, ih, Option.map_some]
      simp
    · have e : esc b = [b] := by simp [esc, h1]
      have h2 : b ≠ 34 := fun e => h1 (.inl e)
      have h3 : b ≠ 92 := fun e => h1 (.inr e)
      rw [e]
      show rdT (b :: (t.flatMap esc ++ 34 :: r)) = _
      unfold rdT
      simp only [h2, h3, hb, if_false, ih, Option.map_some]
      simp
theorem rdP_esc (r : List UInt8) : ∀ t : List UInt8, rdP (t.flatMap esc ++ 34 :: r) = some (t, (t.flatMap esc).length + 1)
  | [] => by
    show rdP (34 :: r) = _
    unfold rdP
    rfl
  | b :: t => by
    have ih := rdP_esc r t
    rw [List.flatMap_cons, List.append_assoc]
    by_cases h1 : b = 34 ∨ b = 92
    · have e : esc b = [92, b] := by simp [esc, h1]
      rw [e]
      show rdP (92 :: b :: (t.flatMap esc ++ 34 :: r)) = _
      unfold rdP
      simp only [show (92 : UInt8) ≠ 34 from by decide, if_false, if_true, ih, Option.map_some]
      simp
    · have e : esc b = [b] := by simp [esc, h1]
      have h2 : b ≠ 34 := fun e => h1 (.inl e)
      have h3 : b ≠ 92 := fun e => h1 (.inr e)
      rw [e]
      show rdP (b :: (t.flatMap esc ++ 34 :: r)) = _
      unfold rdP
      simp only [h2, h3, if_false, ih, Option.map_some]
      simp
theorem textOk_nz {s : ByteArray} (h : textOk s = true) : ∀ b ∈ s.toList, b ≠ 0 := by
  intro b hb e
  obtain ⟨i, hi, hg⟩ := List.mem_iff_getElem.1 hb
  simp only [textOk, Bool.and_eq_true, allN_iff] at h
  have := h.1 i (by rw [← toList_length]; exact hi)
  rw [byteOf, List.getElem?_eq_getElem hi, hg, e] at this
  simp [inB] at this
/-! ### digits -/
def isDg (c : UInt8) : Bool := inB (c.toNat : Int) 48 57
/-- Digits, so many at most: what they say, and how many there are. -/
def digN : Nat → List UInt8 → Nat → Nat × Nat
  | 0, _, x => (x, 0)
  | _ + 1, [], x => (x, 0)
  | f + 1, c :: l, x => bif isDg c then ((digN f l (x * 10 + (c.toNat - 48))).1, (digN f l (x * 10 + (c.toNat - 48))).2 + 1) else (x, 0)
theorem digN_le : ∀ (f : Nat) (l : List UInt8) (x : Nat), (digN f l x).2 ≤ l.length ∧ (digN f l x).2 ≤ f
  | 0, l, x => by simp [digN]
  | f + 1, [], x => by simp [digN]
  | f + 1, c :: l, x => by
    have := digN_le f l (x * 10 + (c.toNat - 48))
    unfold digN
    cases isDg c <;> simp <;> omega
def dval (l : List UInt8) (x : Nat) : Nat := l.foldl (fun x c => x * 10 + (c.toNat - 48)) x
theorem digN_app : ∀ (L R : List UInt8) (f x : Nat), (∀ c ∈ L, isDg c = true) → digN (L.length + f) (L ++ R) x = ((digN f R (dval L x)).1, (digN f R (dval L x)).2 + L.length)
  | [], R, f, x, _ => by simp [dval]
  | c :: L, R, f, x, h => by
    have hc := h c (by simp)
    have ih := digN_app L R f (x * 10 + (c.toNat - 48)) (fun c hc => h c (by simp [hc]))
    rw [show (c :: L).length + f = (L.length + f) + 1 from by simp only [List.length_cons]; omega, List.cons_append]
    simp only [digN, hc, cond_true, ih]
    simp [dval, Nat.add_assoc]
def dl (n : Nat) : List UInt8 := (dg n).toList
theorem dl_small {n : Nat} (h : n < 10) : dl n = [UInt8.ofNat (48 + n)] := by rw [dl, dg_small h, one_list]
theorem dl_big {n : Nat} (h : 10 ≤ n) : dl n = dl (n / 10) ++ [UInt8.ofNat (48 + n % 10)] := by rw [dl, dg_big h, toList_app, one_list]; rfl
theorem dg_nat {m : Nat} (h : m < 10) : (UInt8.ofNat (48 + m)).toNat = 48 + m := by simp; omega
theorem dg_is {m : Nat} (h : m < 10) : isDg (UInt8.ofNat (48 + m)) = true := by
  simp only [isDg, inB, dg_nat h]
  simp
  omega
theorem dl_all : ∀ n : Nat, (∀ c ∈ dl n, isDg c = true) ∧ dval (dl n) 0 = n ∧ 1 ≤ (dl n).length := by
  intro n
  induction n using Nat.strongRecOn with
  | ind n ih =>
    rcases Nat.lt_or_ge n 10 with h | h
    · rw [dl_small h]
      refine ⟨fun c hc => ?_, ?_, by simp⟩
      · rw [List.mem_singleton] at hc; subst hc; exact dg_is h
      · simp only [dval, List.foldl_cons, List.foldl_nil, dg_nat h]; omega
    · obtain ⟨h1, h2, h3⟩ := ih (n / 10) (by omega)
      have hm : n % 10 < 10 := Nat.mod_lt _ (by omega)
      rw [dl_big h]
      refine ⟨fun c hc => ?_, ?_, by simp⟩
      · rcases List.mem_append.1 hc with hc | hc
        · exact h1 c hc
        · rw [List.mem_singleton] at hc; subst hc; exact dg_is hm
      · unfold dval at h2 ⊢
        rw [List.foldl_append, h2]
        simp only [List.foldl_cons, List.foldl_nil, dg_nat hm]
        omega
theorem dl_len : ∀ (k n : Nat), n < 10 ^ (k + 1) → (dl n).length ≤ k + 1 := by
  intro k
  induction k with
  | zero => intro n h; rw [dl_small (by simpa using h)]; simp
  | succ k ih =>
    intro n h
    rcases Nat.lt_or_ge n 10 with h1 | h1
    · rw [dl_small h1]; simp
    · rw [dl_big h1]
      have := ih (n / 10) (by rw [Nat.pow_succ] at h; omega)
      simp
      omega
theorem decS_list (n : Int) : (decS n).toList = if n < 0 then 45 :: dl n.natAbs else dl n.natAbs := by
  unfold decS
  split
  · rw [toList_app, one_list]; rfl
  · rfl
/-- What may stand behind a value: nothing, or a byte that is not of it. -/
def Stop (r : List UInt8) : Prop := ∀ c r', r = c :: r' → c = 44 ∨ c = 93 ∨ c = 125
theorem Stop.nil : Stop [] := fun _ _ h => by cases h
theorem Stop.cons {c : UInt8} {r : List UInt8} (h : c = 44 ∨ c = 93 ∨ c = 125) : Stop (c :: r) := fun _ _ e => by cases e; exact h
theorem digN_stop {f : Nat} {r : List UInt8} {x : Nat} (h : Stop r) : digN f r x = (x, 0) := by
  cases f with
  | zero => rfl
  | succ f =>
    cases r with
    | nil => rfl
    | cons c r => rcases h c r rfl with rfl | rfl | rfl <;> rfl
theorem fits_abs {n : Int} (h : Fits n) : n.natAbs < 10 ^ 19 := by
  simp only [Fits, IntKind.min, IntKind.max, IntKind.signed, IntKind.bits] at h
  simp at h
  omega
theorem digN_dec {n : Int} (h : Fits n) {r : List UInt8} (hr : Stop r) : digN 19 (dl n.natAbs ++ r) 0 = (n.natAbs, (dl n.natAbs).length) := by
  obtain ⟨h1, h2, h3⟩ := dl_all n.natAbs
  have h4 := dl_len 18 n.natAbs (fits_abs h)
  have := digN_app (dl n.natAbs) r (19 - (dl n.natAbs).length) 0 h1
  rw [show (dl n.natAbs).length + (19 - (dl n.natAbs).length) = 19 from by omega, digN_stop hr, h2] at this
  simpa using this
def intV (m : Bool) (x : Nat) : Int := bif m && decide ((x : Int) > 0) then IntKind.wrap .i64 (IntKind.wrap .i64 (0 - IntKind.wrap .i64 (IntKind.wrap .u64 ((x : Int) - 1))) - 1) else IntKind.wrap .i64 (x : Int)
def intBad (m : Bool) (x n : Nat) : Bool := (((n : Nat) : Int) == 0) || (decide ((x : Int) > 9223372036854775808) || (!m && ((x : Int) == 9223372036854775808)))
theorem fits_i64 {n : Int} (h : Fits n) : -9223372036854775808 ≤ n ∧ n ≤ 9223372036854775807 := by
  simp only [Fits, IntKind.min, IntKind.max, IntKind.signed, IntKind.bits] at h
  simp at h
  omega
theorem intV_dec {n : Int} (h : Fits n) : intV (decide (n < 0)) n.natAbs = n := by
  have h := fits_i64 h
  unfold intV
  by_cases hn : n < 0
  · have e1 : decide ((n.natAbs : Int) > 0) = true := decide_eq_true (by omega)
    rw [decide_eq_true hn, e1, wrap_u64 (by omega) (by omega), wrap_i64 (n := (n.natAbs : Int) - 1) (by omega) (by omega), wrap_i64 (n := 0 - ((n.natAbs : Int) - 1)) (by omega) (by omega), wrap_i64 (by omega) (by omega)]
    simp only [Bool.and_self, cond_true]
    omega
  · rw [decide_eq_false hn]
    simp only [Bool.false_and, cond_false]
    rw [wrap_i64 (by omega) (by omega)]
    omega
theorem intBad_dec {n : Int} (h : Fits n) {k : Nat} (hk : 1 ≤ k) : intBad (decide (n < 0)) n.natAbs k = false := by
  have h := fits_i64 h
  have e1 : (((k : Nat) : Int) == 0) = false := by simp; omega
  have e2 : decide ((n.natAbs : Int) > 9223372036854775808) = false := decide_eq_false (by omega)
  unfold intBad
  rw [e1, e2]
  by_cases hn : n < 0
  · rw [decide_eq_true hn]; rfl
  · have e3 : ((n.natAbs : Int) == 9223372036854775808) = false := by simp; omega
    rw [e3]
    simp
/-! ### words -/
def wordL (l : List UInt8) : Nat := (l.takeWhile fun c => c != 58 && c != 0).length
theorem wordL_app : ∀ (w r : List UInt8), (∀ c ∈ w, c ≠ 58 ∧ c ≠ 0) → wordL (w ++ 58 :: r) = w.length
  | [], r, _ => by simp [wordL]
  | c :: w, r, h => by
    have ih := wordL_app w r fun c hc => h c (by simp [hc])
    have hc := h c (by simp)
    unfold wordL at ih ⊢
    simp [hc.1, hc.2, ih]
theorem name_ch {s : ByteArray} (h : nameOk s = true) : (∀ c ∈ s.toList, nameCh c = true) ∧ 1 ≤ s.toList.length ∧ s.toList.length ≤ 20 := by
  simp only [nameOk, Bool.and_eq_true, allN_iff, inB, decide_eq_true_eq] at h
  refine ⟨fun c hc => ?_, by rw [toList_length]; omega, by rw [toList_length]; omega⟩
  obtain ⟨i, hi, hg⟩ := List.mem_iff_getElem.1 hc
  have := h.1 i (by rw [← toList_length]; exact hi)
  rw [List.getElem?_eq_getElem hi, hg] at this
  exact this
theorem nameCh_ne {c : UInt8} (h : nameCh c = true) : c ≠ 58 ∧ c ≠ 0 ∧ c ≠ 125 ∧ c ≠ 44 ∧ c ≠ 93 ∧ c ≠ 32 ∧ c ≠ 10 ∧ c ≠ 47 ∧ c.toNat < 128 := by
  have hh : (97 ≤ c.toNat ∧ c.toNat ≤ 122) ∨ (48 ≤ c.toNat ∧ c.toNat ≤ 57) ∨ c.toNat = 45 := by
    simp only [nameCh, inB, Bool.or_eq_true, Bool.and_eq_true, decide_eq_true_eq, beq_iff_eq] at h
    omega
  refine ⟨?_, ?_, ?_, ?_, ?_, ?_, ?_, ?_, by omega⟩ <;> (intro e; rw [e] at hh; simp at hh)
/-! ### kids, joined -/
/-- So many texts from one on, each but the first behind a comma. -/
def jt (f : Nat → List UInt8) : Nat → Nat → List UInt8
  | 0, _ => []
  | k + 1, m => (bif m == 0 then [] else [44]) ++ f m ++ jt f k (m + 1)
theorem jt_snoc (f : Nat → List UInt8) : ∀ (k m : Nat), jt f (k + 1) m = jt f k m ++ ((bif m + k == 0 then [] else [44]) ++ f (m + k))
  | 0, m => by simp [jt]
  | k + 1, m => by
    have ih := jt_snoc f k (m + 1)
    rw [jt, ih, jt, show m + 1 + k = m + (k + 1) from by omega]
    simp [List.append_assoc]
theorem comma_list : comma.toList = [44] := by rw [ByteArray.toList_eq]; rfl
theorem J_jt (f : Nat → ByteArray) : ∀ n, (J ((List.range n).map f)).toList = jt (fun i => (f i).toList) n 0
  | 0 => by rw [show J ((List.range 0).map f) = ByteArray.empty from rfl, ByteArray.toList_eq]; rfl
  | n + 1 => by
    have ih := J_jt f n
    rw [List.range_succ, List.map_append, List.map_cons, List.map_nil, J_snoc, jt_snoc, ← ih]
    cases n with
    | zero => simp [J_nil, ByteArray.toList_eq]
    | succ n =>
      have e : (List.map f (List.range (n + 1))).isEmpty = false := by cases h : List.map f (List.range (n + 1)) with
        | nil => simp at h
        | cons => rfl
      rw [e]
      simp only [cond_false, toList_app, comma_list, List.append_assoc]
      simp
def kidL (d : Nat) (v : Row) (i : Nat) : List UInt8 := (kidTxt (vTxt d) v i).toList
theorem kids_jt (d : Nat) (v : Row) (n : Nat) : (J (kidsTxt (vTxt d) v n)).toList = jt (kidL d v) n 0 := J_jt _ n
theorem lit_list (c : UInt8) : (⟨#[c]⟩ : ByteArray).toList = [c] := by rw [ByteArray.toList_eq]
theorem vTxt1 {d : Nat} {v : Row} (h : cN v 0 = 1) : (vTxt (d + 1) v).toList = 34 :: ((cT v 1).toList.flatMap esc ++ [34]) := by
  simp only [vTxt, h, show ((1 : Int) == 1) = true from rfl, cond_true, quoS, quoL, ByteArray.toList_eq]
theorem vTxt2 {d : Nat} {v : Row} (h : cN v 0 = 2) : (vTxt (d + 1) v).toList = (decS (cN v 2)).toList := by
  simp only [vTxt, h, show ((2 : Int) == 1) = false from rfl, show ((2 : Int) == 2) = true from rfl, cond_true, cond_false]
theorem vTxt3 {d : Nat} {v : Row} (h : cN v 0 = 3) : (vTxt (d + 1) v).toList = bif cN v 2 == 1 then [116, 114, 117, 101] else [102, 97, 108, 115, 101] := by
  simp only [vTxt, h, show ((3 : Int) == 1) = false from rfl, show ((3 : Int) == 2) = false from rfl, show ((3 : Int) == 3) = true from rfl, cond_true, cond_false]
  cases cN v 2 == 1 <;> simp only [cond_true, cond_false, trueS, falseS, ByteArray.toList_eq]
theorem vTxt4 {d : Nat} {v : Row} (h : cN v 0 = 4) : (vTxt (d + 1) v).toList = 91 :: (jt (kidL d v) (cR v 4).length 0 ++ [93]) := by
  simp only [vTxt, h, show ((4 : Int) == 1) = false from rfl, show ((4 : Int) == 2) = false from rfl, show ((4 : Int) == 3) = false from rfl, show ((4 : Int) == 5) = false from rfl, cond_false, toList_app, lit_list, kids_jt]
  rfl
theorem vTxt5 {d : Nat} {v : Row} (h : cN v 0 = 5) : (vTxt (d + 1) v).toList = 123 :: (jt (kidL d v) (cR v 4).length 0 ++ [125]) := by
  simp only [vTxt, h, show ((5 : Int) == 1) = false from rfl, show ((5 : Int) == 2) = false from rfl, show ((5 : Int) == 3) = false from rfl, show ((5 : Int) == 5) = true from rfl, cond_true, cond_false, toList_app, lit_list, kids_jt]
  rfl
theorem kidL4 {d : Nat} {v : Row} {i : Nat} (h : cN v 0 = 4) : kidL d v i = (vTxt d (row_ (cR v 4) i)).toList := by
  simp only [kidL, kidTxt, h, show ((4 : Int) == 5) = false from rfl, cond_false]
theorem kidL5 {d : Nat} {v : Row} {i : Nat} (h : cN v 0 = 5) : kidL d v i = (cT (row_ (cR v 3) i) 0).toList ++ 58 :: (vTxt d (row_ (cR v 4) i)).toList := by
  simp only [kidL, kidTxt, h, show ((5 : Int) == 5) = true from rfl, cond_true, toList_app, show colon.toList = [58] from lit_list 58, List.append_assoc]
  rfl
theorem dl_head (n : Nat) : ∃ c l, dl n = c :: l ∧ 48 ≤ c.toNat ∧ c.toNat ≤ 57 := by
  obtain ⟨h1, _, h3⟩ := dl_all n
  cases h : dl n with
  | nil => rw [h] at h3; simp at h3
  | cons c l =>
    have := h1 c (by rw [h]; simp)
    simp only [isDg, inB, Bool.and_eq_true, decide_eq_true_eq] at this
    exact ⟨c, l, rfl, by omega, by omega⟩
/-- How a number begins. -/
theorem dec_head (n : Int) : ∃ c l, (decS n).toList = c :: l ∧ c ≠ 34 ∧ c ≠ 116 ∧ c ≠ 102 ∧ c ≠ 91 ∧ c ≠ 123 ∧ c ≠ 93 ∧ c ≠ 125 ∧ c ≠ 44 := by
  have key : ∀ c : UInt8, 45 ≤ c.toNat → c.toNat ≤ 57 → c ≠ 34 ∧ c ≠ 116 ∧ c ≠ 102 ∧ c ≠ 91 ∧ c ≠ 123 ∧ c ≠ 93 ∧ c ≠ 125 ∧ c ≠ 44 := by
    intro c h1 h2
    refine ⟨?_, ?_, ?_, ?_, ?_, ?_, ?_, ?_⟩ <;> (intro e; rw [e] at h1 h2; simp at h1 h2)
  rw [decS_list]
  split
  · exact ⟨45, _, rfl, key 45 (by decide) (by decide)⟩
  · obtain ⟨c, l, h1, h2, h3⟩ := dl_head n.natAbs
    exact ⟨c, l, h1, key c (by omega) h3⟩
/-- How a value begins. -/
theorem val_head {d : Nat} {v : Row} (h : 0 < valSz (d + 1) v) : ∃ c l, (vTxt (d + 1) v).toList = c :: l ∧ c ≠ 93 ∧ c ≠ 125 ∧ c ≠ 44 := by
  rcases shape_kind (valAt h).shape with k | k | k | k | k
  · exact ⟨_, _, vTxt1 k, by decide⟩
  · obtain ⟨c, l, h1, h2⟩ := dec_head (cN v 2)
    exact ⟨c, l, by rw [vTxt2 k, h1], h2.2.2.2.2.2⟩
  · rw [vTxt3 k]
    cases cN v 2 == 1
    · exact ⟨_, _, rfl, by decide⟩
    · exact ⟨_, _, rfl, by decide⟩
  · exact ⟨_, _, vTxt4 k, by decide⟩
  · exact ⟨_, _, vTxt5 k, by decide⟩
end Go.Am
