/- The abstract machine AM, part G: what it computes keeps the contracts of the program. Nothing is assumed. -/
import Derived.Test.YtefdfdkkbbehiaaGreatDoorAmD
import Derived.Below
import Derived.Lib.Join
import Derived.Lib.IndexAny
import Derived.Lib.Strings
import Derived.Lib.ReplaceLaws
import Derived.Lib.SplitLaws
import Derived.Lib.IndexBytes
set_option linter.unusedVariables false
set_option linter.unusedSimpArgs false
/- AM: library functions on strings by contracts that stand already. Nothing is assumed. -/
namespace Go.Am
open Go.RowKit (Below)
theorem args_rd {X : Nat → Prop} {w : World} {Z : Nat → Prop} {is : List I} : ∀ {vs : List Value} {c : List Nat}, ArgsRel X w Z (List.replicate is.length .rd) is vs c → IFroL X w Z is vs ∧ c = [] := by
 induction is with
 | nil => intro vs c h; cases h; exact ⟨.nil, rfl⟩
 | cons i is ih =>
  intro vs c h
  cases h with
  | rd h h' =>
   obtain ⟨h1, h2⟩ := ih h'
   exact ⟨.cons h h1, h2⟩
theorem BackRel.rds {X : Nat → Prop} {w : World} : ∀ {vs : List Value}, BackRel X w (List.replicate vs.length .rd) vs [] []
 | [] => .nil
 | _ :: _ => .rd BackRel.rds
theorem WInv.below {w w' : World} {Z : Nat → Prop} (hw : WInv w [] Z w []) (hb : Below w.heap.size w w') : WInv w [] Z w' [] :=
 ⟨by simp, by simp, hw.zlt, hb.size, by simp, fun b h _ => hb.block b h, ⟨hb.os, hb.output, hb.tape⟩, fun b cs el fz h => ⟨cs, by rw [hb.block b (Array.getElem?_eq_some_iff.1 h).1]; exact h, rfl⟩⟩
theorem callsF_of {P : Program} {fn : Nat} {f : Func} {c : Code} {vs : Array Value} {w : World} {R : Ending → World → Prop} (hf : P.funcs[fn]? = some f) (hb : f.body = some c) (hname : (f.name == "runtime.NumGoroutine") = false) (h : Calls P fn vs w R) : CallsF P fn vs w R := by
 have hname' : f.name ≠ "runtime.NumGoroutine" := by simpa using hname
 exact .inl ⟨by simp [callFunc, hf, hname', hb], h⟩
theorem CallsF.mono {P : Program} {fn : Nat} {vs : Array Value} {w : World} {R R' : Ending → World → Prop} (h : CallsF P fn vs w R) (hR : ∀ e w', R e w' → R' e w') : CallsF P fn vs w R' := by
 rcases h with ⟨h1, h2⟩ | ⟨v, w', h1, h2⟩
 ·exact .inl ⟨h1, h2.mono hR⟩
 ·exact .inr ⟨v, w', h1, hR _ _ h2⟩
theorem sat_below {K : Src} {P : Program} {sg : Sigs} {fn : Nat} {is : List I} {r : I} (hs : sg fn = none)
  (h : ∀ (w : World) (Z : Nat → Prop) (vs : List Value), Pin P K Z w → IFroL sg.X w Z is vs → CallsF P fn vs.toArray w fun e w' => ∃ v, e = .returned v ∧ IOwn sg.X w' r v [] ∧ Below w.heap.size w w') : Sat P sg K fn is ⟨r, []⟩ := by
 intro w Z vs cin hp ha hw
 have hm : sg.modes fn is.length = List.replicate is.length .rd := by simp [Sigs.modes, hs]
 rw [hm] at ha ⊢
 obtain ⟨hi, rfl⟩ := args_rd ha
 refine (h w Z vs hp hi).mono fun e w' ⟨v, he, hr, hb⟩ => ⟨v, [], [], he, hr, ?_, hw.below hb⟩
 have : is.length = vs.length := ha.lengths.2.symm
 rw [this]
 exact BackRel.rds
def natF (n : Nat) (f : List I → Option I) : Table := fun fn is => bif Nat.beq fn n then (f is).map fun r => ⟨r, []⟩ else none
theorem natF_good {K : Src} {P : Program} {sg : Sigs} {n : Nat} {f : List I → Option I} (hs : sg n = none)
  (h : ∀ is r, f is = some r → ∀ (w : World) (Z : Nat → Prop) (vs : List Value), Pin P K Z w → IFroL sg.X w Z is vs → CallsF P n vs.toArray w fun e w' => ∃ v, e = .returned v ∧ IOwn sg.X w' r v [] ∧ Below w.heap.size w w') (h0 : Nat.beq 0 n = false := by rfl) : Good P sg K (natF n f) := by
 refine ⟨fun fn is o ho => ?_, fun mk b m c i o h => by simp [natF, h0] at h⟩
 unfold natF at ho
 cases hb : Nat.beq fn n with
 | false => simp [hb] at ho
 | true =>
  have := Nat.eq_of_beq_eq_true hb
  subst this
  simp only [hb, cond_true, Option.map_eq_some_iff] at ho
  obtain ⟨r, hr, rfl⟩ := ho
  exact sat_below hs (h is r hr)
theorem str_in {X : Nat → Prop} {w : World} {Z : Nat → Prop} {s : ByteArray} {v : Value} (h : IFro X w Z (.d (.v (.string s))) v) : v = .string s := by
 cases h with | d h => cases h with | v h => rfl
theorem strs_in1 {X : Nat → Prop} {w : World} {Z : Nat → Prop} {a : ByteArray} {vs : List Value} (h : IFroL X w Z [.d (.v (.string a))] vs) : vs = [.string a] := by
 cases h with
 | cons h h' => cases h'; rw [str_in h]
theorem strs_in2 {X : Nat → Prop} {w : World} {Z : Nat → Prop} {a b : ByteArray} {vs : List Value} (h : IFroL X w Z [.d (.v (.string a)), .d (.v (.string b))] vs) : vs = [.string a, .string b] := by
 cases h with
 | cons h h' => rw [str_in h, strs_in1 h']
theorem strs_in3 {X : Nat → Prop} {w : World} {Z : Nat → Prop} {a b c : ByteArray} {vs : List Value} (h : IFroL X w Z [.d (.v (.string a)), .d (.v (.string b)), .d (.v (.string c))] vs) : vs = [.string a, .string b, .string c] := by
 cases h with
 | cons h h' => rw [str_in h, strs_in2 h']
theorem own_str {X : Nat → Prop} {w : World} {s : ByteArray} : IOwn X w (.d (.v (.string s))) (.string s) [] := .d (.v trivial)
theorem own_b {X : Nat → Prop} {w : World} {b : Bool} : IOwn X w (.d (.v (.bool b))) (.bool b) [] := .d (.v trivial)
theorem own_i {X : Nat → Prop} {w : World} {k : IntKind} {n : Int} : IOwn X w (.d (.v (.int k n))) (.int k n) [] := .d (.v trivial)
theorem own_sb {X : Nat → Prop} {w : World} {s : ByteArray} {b : Bool} : IOwn X w (.t [.d (.v (.string s)), .d (.v (.bool b))]) (.tuple #[.string s, .bool b]) [] := .t (.cons own_str (c' := []) (.cons own_b (c' := []) .nil))
theorem own_ssb {X : Nat → Prop} {w : World} {s t : ByteArray} {b : Bool} : IOwn X w (.t [.d (.v (.string s)), .d (.v (.string t)), .d (.v (.bool b))]) (.tuple #[.string s, .string t, .bool b]) [] :=
 .t (.cons own_str (c' := []) (.cons own_str (c' := []) (.cons own_b (c' := []) .nil)))
theorem below_same {w : World} : Below w.heap.size w w := Below.refl _ _
theorem Pin.cell {K : Src} {P : Program} {Z : Nat → Prop} {w : World} {g : Nat} {Q : Value → Prop} (h : Pin P K Z w) (hg : g < P.globals.size) (hc : ∀ wt : World, wt.ShapedOpen P → ∃ v, wt.cell? ⟨g, 0, none⟩ = some v ∧ Q v) : ∃ v, w.cell? ⟨g, 0, none⟩ = some v ∧ Q v := by
 obtain ⟨⟨wt, h1, h2⟩, _⟩ := h
 obtain ⟨v, h3, h4⟩ := hc wt h1
 have hl : g < wt.heap.size := World.block_lt_of_cell? wt ⟨g, 0, none⟩ h3
 obtain ⟨_, h5⟩ := h2 g hg hl
 refine ⟨v, ?_, h4⟩
 unfold World.cell? at *
 simp only [h5]
 exact h3
abbrev bOf (l : List UInt8) : ByteArray := ⟨l.toArray⟩
def repS (s old new : ByteArray) : ByteArray := bOf (Lib.replaceAll s.data.toList old.data.toList new.data.toList)
def repOk (s old new : ByteArray) : Bool := decide (s.size < 4294967281) && decide (1 ≤ old.size) && decide (s.size + Lib.countB s old * new.size ≤ 140737488355328)
def fReplace : List I → Option I
 | [.d (.v (.string s)), .d (.v (.string old)), .d (.v (.string new))] => bif repOk s old new then some (.d (.v (.string (repS s old new)))) else none
 | _ => none
theorem replace_good {K : Src} {P : Program} {sg : Sigs} {n g : Nat} {f : Func} {c : Code} (hs : sg n = none) (hf : P.funcs[n]? = some f) (hb : f.body = some c) (hname : (f.name == "runtime.NumGoroutine") = false) (hg : g < P.globals.size)
  (hc : ∀ wt : World, wt.ShapedOpen P → ∃ m : Int, wt.cell? ⟨g, 0, none⟩ = some (.int .i64 m))
  (h : ∀ (s old new : ByteArray) (m : Int) (w : World), s.size < 4294967281 → w.cell? ⟨g, 0, none⟩ = some (.int .i64 m) → 1 ≤ old.size → s.size + Lib.countB s old * new.size ≤ 140737488355328 →
   Calls P n #[.string s, .string old, .string new] w fun e w' => e = .returned (.string ⟨(Lib.replaceAll s.data.toList old.data.toList new.data.toList).toArray⟩) ∧ Below w.heap.size w w') (h0 : Nat.beq 0 n = false := by rfl) : Good P sg K (natF n fReplace) :=
 natF_good (h0 := h0) hs fun is r hr w Z vs hp hi => by
  unfold fReplace at hr
  split at hr
  ·rename_i s old new
   cases hk : repOk s old new with
   | false => simp [hk] at hr
   | true =>
    simp only [hk, cond_true, Option.some.injEq] at hr
    subst hr
    simp only [repOk, Bool.and_eq_true, decide_eq_true_eq] at hk
    rw [strs_in3 hi]
    obtain ⟨v, h1, m, rfl⟩ := hp.cell (Q := fun v => ∃ m : Int, v = .int .i64 m) hg fun wt h => by obtain ⟨m, hm⟩ := hc wt h; exact ⟨_, hm, m, rfl⟩
    exact callsF_of hf hb hname ((h s old new m w hk.1.1 h1 hk.1.2 hk.2).mono fun e w' ⟨he, hb⟩ => ⟨_, he, own_str, hb⟩)
  ·simp at hr
def strsOf : Rows → Option (List ByteArray)
 | [] => some []
 | [.v (.string s)] :: l => (strsOf l).map fun r => s :: r
 | _ => none
def joinS (xs : List ByteArray) (sep : ByteArray) : ByteArray := bOf (Lib.join (xs.map (·.data.toList)) sep.data.toList)
def joinOk (xs : List ByteArray) (sep : ByteArray) : Bool := decide (xs.length ≤ 140737488355328) && decide ((joinS xs sep).size ≤ 140737488355328)
def fJoin : List I → Option I
 | [.d (.s 1 rows), .d (.v (.string sep))] => match strsOf rows with
  | some xs => bif joinOk xs sep then some (.d (.v (.string (joinS xs sep)))) else none
  | none => none
 | _ => none
theorem strsOf_some {rows : Rows} : ∀ {xs : List ByteArray}, strsOf rows = some xs → rows = xs.map fun s => [D.v (.string s)] := by
 induction rows with
 | nil => intro xs h; simp only [strsOf, Option.some.injEq] at h; subst h; rfl
 | cons r l ih =>
  intro xs h
  unfold strsOf at h
  split at h
  ·rename_i e; cases e
  ·rename_i s l' e
   cases e
   simp only [Option.map_eq_some_iff] at h
   obtain ⟨ys, h1, rfl⟩ := h
   rw [ih h1]
   rfl
  ·simp at h
theorem fro_strs {w : World} {Z : Nat → Prop} : ∀ {xs : List ByteArray} {vs : List Value}, FroL w Z (xs.map fun s => [D.v (.string s)]).flatten vs → vs = xs.map Value.string
 | [], _, h => by cases h; rfl
 | x :: xs, _, h => by
  cases h with
  | cons h h' => cases h with | v h => rw [fro_strs h']; rfl
theorem join_good {K : Src} {P : Program} {sg : Sigs} {n : Nat} {f : Func} {c : Code} (hs : sg n = none) (hf : P.funcs[n]? = some f) (hb : f.body = some c) (hname : (f.name == "runtime.NumGoroutine") = false)
  (hz0 : ∀ (a : Option Addr) (c : Nat) (sep : ByteArray) (w : World), Calls P n #[.slice a 0 c, .string sep] w fun e w' => e = .returned (.string ⟨#[]⟩) ∧ w' = w)
  (h : ∀ (bk o c : Nat) (xs : List ByteArray) (sep : ByteArray) (w : World), (∀ (j : Nat) x, xs[j]? = some x → w.cell? ⟨bk, o + j, none⟩ = some (.string x)) → bk < w.heap.size → xs.length ≤ 140737488355328 → xs.length ≤ c → (Lib.join (xs.map (·.data.toList)) sep.data.toList).length ≤ 140737488355328 →
   Calls P n #[.slice (some ⟨bk, o, none⟩) xs.length c, .string sep] w fun e w' => e = .returned (.string ⟨(Lib.join (xs.map (·.data.toList)) sep.data.toList).toArray⟩) ∧ Below w.heap.size w w') (h0 : Nat.beq 0 n = false := by rfl) : Good P sg K (natF n fJoin) :=
 natF_good (h0 := h0) hs fun is r hr w Z vs hp hi => by
  unfold fJoin at hr
  split at hr
  ·rename_i rows sep
   split at hr
   ·rename_i xs hx
    cases hk : joinOk xs sep with
    | false => simp [hk] at hr
    | true =>
     simp only [hk, cond_true, Option.some.injEq] at hr
     subst hr
     simp only [joinOk, Bool.and_eq_true, decide_eq_true_eq] at hk
     have hrow := strsOf_some hx
     cases hi with
     | cons h1 h2 =>
      rw [strs_in1 h2]
      cases h1 with
      | d h1 =>
       cases h1 with
       | z =>
        have : xs = [] := by cases xs with | nil => rfl | cons => simp at hrow
        subst this
        exact callsF_of hf hb hname ((hz0 _ _ _ _).mono fun e w' ⟨he, hb⟩ => ⟨_, he, own_str, hb ▸ below_same⟩)
       | @s _ b off cap _ us hw hc hz hh hl =>
        subst hrow
        have hus := fro_strs hl
        subst hus
        obtain ⟨cs, el, fz, g1, g2⟩ := hh
        have hlen : (xs.map fun s => [D.v (.string s)]).length = xs.length := by simp
        rw [hlen] at hc ⊢
        refine callsF_of hf hb hname ((h b off cap xs sep w (fun j x hj => ?_) (Array.getElem?_eq_some_iff.1 g1).1 hk.1 hc (by simpa [joinS, bOf, ByteArray.size] using hk.2)).mono fun e w' ⟨he, hb⟩ => ⟨_, he, own_str, hb⟩)
        have := g2 j (.string x) (by simp [hj])
        simp [World.cell?, g1, this]
   ·simp at hr
  ·simp at hr
def hasP (s p : ByteArray) : Bool := Lib.hasPrefix s.data.toList p.data.toList
def trimP (s p : ByteArray) : ByteArray := bOf (Lib.trimPrefix s.data.toList p.data.toList)
def fCut : List I → Option I
 | [.d (.v (.string s)), .d (.v (.string p))] => some (.t [.d (.v (.string (trimP s p))), .d (.v (.bool (hasP s p)))])
 | _ => none
theorem cut_good {K : Src} {P : Program} {sg : Sigs} {n : Nat} {f : Func} {c : Code} (hs : sg n = none) (hf : P.funcs[n]? = some f) (hb : f.body = some c) (hname : (f.name == "runtime.NumGoroutine") = false)
  (h : ∀ (s p : ByteArray) (w : World), Calls P n #[.string s, .string p] w fun e w' => e = .returned (.tuple #[.string ⟨(Lib.trimPrefix s.data.toList p.data.toList).toArray⟩, .bool (Lib.hasPrefix s.data.toList p.data.toList)]) ∧ w' = w) (h0 : Nat.beq 0 n = false := by rfl) : Good P sg K (natF n fCut) :=
 natF_good (h0 := h0) hs fun is r hr w Z vs hp hi => by
  unfold fCut at hr
  split at hr
  ·simp only [Option.some.injEq] at hr
   subst hr
   rw [strs_in2 hi]
   exact callsF_of hf hb hname ((h _ _ w).mono fun e w' ⟨he, hw⟩ => ⟨_, he, own_sb, hw ▸ below_same⟩)
  ·simp at hr
def fTrim : List I → Option I
 | [.d (.v (.string s)), .d (.v (.string p))] => some (.d (.v (.string (trimP s p))))
 | _ => none
theorem trim_good {K : Src} {P : Program} {sg : Sigs} {n : Nat} {f : Func} {c : Code} (hs : sg n = none) (hf : P.funcs[n]? = some f) (hb : f.body = some c) (hname : (f.name == "runtime.NumGoroutine") = false)
  (h : ∀ (s p : ByteArray) (w : World), Calls P n #[.string s, .string p] w fun e w' => e = .returned (.string ⟨(Lib.trimPrefix s.data.toList p.data.toList).toArray⟩) ∧ w' = w) (h0 : Nat.beq 0 n = false := by rfl) : Good P sg K (natF n fTrim) :=
 natF_good (h0 := h0) hs fun is r hr w Z vs hp hi => by
  unfold fTrim at hr
  split at hr
  ·simp only [Option.some.injEq] at hr
   subst hr
   rw [strs_in2 hi]
   exact callsF_of hf hb hname ((h _ _ w).mono fun e w' ⟨he, hw⟩ => ⟨_, he, own_str, hw ▸ below_same⟩)
  ·simp at hr
def scan (s : ByteArray) : Nat → Nat → Int
 | 0, _ => -1
 | f + 1, pos => if pos < s.size then (if (Utf8.decode s pos).1 < 128 ∧ 0 ≤ Lib.indexByte [44, 93, 125] (UInt8.ofNat (Utf8.decode s pos).1) then (pos : Int) else scan s f (pos + (Utf8.decode s pos).2)) else -1
theorem scan_rng (s : ByteArray) : ∀ f pos, -1 ≤ scan s f pos ∧ scan s f pos ≤ s.size := by
 intro f
 induction f with
 | zero => intro pos; simp [scan]
 | succ f ih =>
  intro pos
  simp only [scan]
  split
  ·split
   ·omega
   ·exact ih _
  ·omega
def asciiB (s : ByteArray) : Bool := s.data.toList.all fun b => decide (b.toNat < 128)
def anyIx (s : ByteArray) : Int := bif asciiB s || decide (8 < s.size) then Lib.indexAny s.data.toList [44, 93, 125] else scan s s.size 0
theorem indexAny_rng (c : List UInt8) : ∀ l : List UInt8, -1 ≤ Lib.indexAny l c ∧ Lib.indexAny l c ≤ l.length
 | [] => by simp [Lib.indexAny]
 | b :: l => by
  have ih := indexAny_rng c l
  unfold Lib.indexAny
  simp only [List.length_cons]
  split
  ·omega
  ·split
   ·omega
   ·omega
theorem anyIx_rng (s : ByteArray) : -1 ≤ anyIx s ∧ anyIx s ≤ s.size := by
 unfold anyIx
 cases asciiB s || decide (8 < s.size) with
 | true =>
  have := indexAny_rng [44, 93, 125] s.data.toList
  have e : s.data.toList.length = s.size := by rw [Array.length_toList]; rfl
  rw [e] at this
  exact this
 | false => exact scan_rng s _ _
theorem list_bytes {c : ByteArray} {l : List UInt8} (h : c.data.toList = l) : c = ⟨l.toArray⟩ := ByteArray.ext (by rw [← h])
def fAny : List I → Option I
 | [.d (.v (.string s)), .d (.v (.string c))] => bif c.data.toList == [58] then some (.d (.v (.int .i64 (Lib.indexAny s.data.toList [58])))) else (bif c.data.toList == [44, 93, 125] && decide (s.size < 4294967281) then some (.d (.v (.int .i64 (anyIx s)))) else none)
 | _ => none
theorem any_good {K : Src} {P : Program} {sg : Sigs} {n : Nat} {f : Func} {c : Code} (hs : sg n = none) (hf : P.funcs[n]? = some f) (hb : f.body = some c) (hname : (f.name == "runtime.NumGoroutine") = false)
  (h1 : ∀ (s : ByteArray) (w : World), Calls P n #[.string s, .string ⟨#[58]⟩] w fun e w' => e = .returned (.int .i64 (Lib.indexAny s.data.toList [58])) ∧ w' = w)
  (h2 : ∀ (s : ByteArray) (w : World), s.size < 4294967281 → Calls P n #[.string s, .string ⟨#[44, 93, 125]⟩] w fun e w' => e = .returned (.int .i64 (anyIx s)) ∧ Below w.heap.size w w') (h0 : Nat.beq 0 n = false := by rfl) : Good P sg K (natF n fAny) :=
 natF_good (h0 := h0) hs fun is r hr w Z vs hp hi => by
  unfold fAny at hr
  split at hr
  ·rename_i s c
   rw [strs_in2 hi]
   cases e1 : c.data.toList == [58] with
   | true =>
    have := list_bytes (eq_of_beq e1)
    subst this
    simp only [e1, cond_true, Option.some.injEq] at hr
    subst hr
    exact callsF_of hf hb hname ((h1 _ w).mono fun e w' ⟨he, hw⟩ => ⟨_, he, own_i, hw ▸ below_same⟩)
   | false =>
    simp only [e1, cond_false] at hr
    cases e2 : c.data.toList == [44, 93, 125] && decide (s.size < 4294967281) with
    | true =>
     simp only [e2, cond_true, Option.some.injEq] at hr
     subst hr
     simp only [Bool.and_eq_true, decide_eq_true_eq] at e2
     have := list_bytes (eq_of_beq e2.1)
     subst this
     exact callsF_of hf hb hname ((h2 _ w e2.2).mono fun e w' ⟨he, hw⟩ => ⟨_, he, own_i, hw⟩)
    | false => simp [e2] at hr
  ·simp at hr
end Go.Am
/- AM: the text of a value, as both programs write it. Nothing is assumed. -/
namespace Go.Am
def sub1 (c : UInt8) (new : List UInt8) (b : UInt8) : List UInt8 := if b = c then new else [b]
def esc (b : UInt8) : List UInt8 := if b = 34 ∨ b = 92 then [92, b] else [b]
theorem rep_k (c : UInt8) (new : List UInt8) : ∀ s : List UInt8, Lib.replaceK [c] new (s.count c) s = s.flatMap (sub1 c new)
 | [] => rfl
 | b :: l => by
  have ih := rep_k c new l
  by_cases hb : b = c
  ·subst hb
   have hi : Lib.index (b :: l) [b] = 0 := by rw [Lib.index_one]; simp [Lib.indexByte]
   rw [List.count_cons_self, Lib.replaceK_hit [b] new _ _ 0 hi]
   simp [ih, sub1]
  ·rw [List.count_cons_of_ne hb]
   cases hk : l.count c with
   | zero =>
    rw [hk] at ih
    simp only [Lib.replaceK] at ih ⊢
    simp only [List.flatMap_cons, ← ih, sub1, hb, if_false, List.singleton_append]
   | succ k =>
    rw [hk] at ih
    obtain ⟨j, hj⟩ := Lib.index_of_count (s := l) (old := [c]) (by rw [Lib.count_one]; omega)
    have hi : Lib.index (b :: l) [c] = ((j + 1 : Nat) : Int) := by
     rw [Lib.index_one] at hj ⊢
     have hbc : (b == c) = false := by simpa using hb
     simp only [Lib.indexByte, hbc, hj]
     have : ((j : Int) == -1) = false := by simp
     simp [this]
    rw [Lib.replaceK_hit [c] new k _ (j + 1) hi]
    rw [Lib.replaceK_hit [c] new k _ j hj] at ih
    simp only [List.take_succ_cons, List.length_singleton, List.drop_succ_cons, List.cons_append, List.flatMap_cons, ← ih, sub1, hb, if_false, List.singleton_append]
    simp
theorem rep_one {c : UInt8} {new : List UInt8} (hne : [c] ≠ new) (s : List UInt8) : Lib.replaceAll s [c] new = s.flatMap (sub1 c new) := by
 have h : ([c] == new) = false := by simpa using hne
 simp only [Lib.replaceAll, Lib.replace, h, Lib.replaceNum, Lib.count_one]
 simp [rep_k]
theorem esc_two (s : List UInt8) : (s.flatMap (sub1 92 [92, 92])).flatMap (sub1 34 [92, 34]) = s.flatMap esc := by
 induction s with
 | nil => rfl
 | cons b l ih =>
  simp only [List.flatMap_cons, List.flatMap_append, ih]
  congr 1
  unfold sub1 esc
  by_cases h1 : b = 92
  ·subst h1; rfl
  ·by_cases h2 : b = 34
   ·subst h2; rfl
   ·simp [h1, h2]
def quoL (s : ByteArray) : List UInt8 := 34 :: (s.data.toList.flatMap esc ++ [34])
def quoS (s : ByteArray) : ByteArray := bOf (quoL s)
theorem esc_len (b : UInt8) : (esc b).length ≤ 2 := by unfold esc; split <;> simp
theorem flat_len {f : UInt8 → List UInt8} (hf : ∀ b, (f b).length ≤ 2) : ∀ s : List UInt8, (s.flatMap f).length ≤ 2 * s.length
 | [] => by simp
 | b :: l => by
  have := flat_len hf l
  have := hf b
  simp only [List.flatMap_cons, List.length_append, List.length_cons]
  omega
theorem bOf_size (l : List UInt8) : (bOf l).size = l.length := by simp [bOf, ByteArray.size]
theorem quo_size {s : ByteArray} : (quoS s).size ≤ 2 * s.size + 2 := by
 have h := flat_len esc_len s.data.toList
 have e : s.data.toList.length = s.size := by rw [Array.length_toList]; rfl
 simp only [quoS, bOf_size, quoL, List.length_cons, List.length_append, List.length_nil]
 omega
def comma : ByteArray := ⟨#[44]⟩
def J (l : List ByteArray) : ByteArray := joinS l comma
theorem J_nil : J [] = ByteArray.empty := rfl
theorem join_tail_snoc (sep x : List UInt8) : ∀ r : List (List UInt8), Lib.joinTail sep (r ++ [x]) = Lib.joinTail sep r ++ (sep ++ x) := by
 intro r; simp [Lib.joinTail]
theorem J_snoc (l : List ByteArray) (x : ByteArray) : J (l ++ [x]) = (bif l.isEmpty then x else J l ++ comma ++ x) := by
 cases l with
 | nil =>
  simp only [J, joinS, List.nil_append, List.map_cons, List.map_nil, Lib.join_one, List.isEmpty_nil, cond_true]
 | cons y l =>
  simp only [J, joinS, List.cons_append, List.map_cons, List.map_append, List.map_nil, Lib.join_cons, join_tail_snoc, List.isEmpty_cons, cond_false]
  apply ByteArray.ext
  simp [bOf, ByteArray.data_append, comma]
def sumB (l : List ByteArray) : Nat := (l.map fun x => x.size + 1).sum
theorem J_size : ∀ l : List ByteArray, (J l).size ≤ sumB l := by
 intro l
 induction h : l.length generalizing l with
 | zero => cases l with
  | nil => simp [J_nil, sumB]
  | cons => simp at h
 | succ n ih =>
  obtain ⟨r, x, rfl⟩ : ∃ r x, l = r ++ [x] := ⟨l.dropLast, l.getLast (by intro e; simp [e] at h), (List.dropLast_concat_getLast _).symm⟩
  have := ih r (by simpa using h)
  rw [J_snoc]
  have hc : comma.size = 1 := rfl
  cases r.isEmpty with
  | true => simp [sumB]; omega
  | false => simp only [cond_false, ByteArray.size_append, sumB, List.map_append, List.sum_append] at *; simp; omega
def colon : ByteArray := ⟨#[58]⟩
def trueS : ByteArray := ⟨#[116, 114, 117, 101]⟩
def falseS : ByteArray := ⟨#[102, 97, 108, 115, 101]⟩
def kidTxt (f : Row → ByteArray) (v : Row) (i : Nat) : ByteArray := bif cN v 0 == 5 then cT (row_ (cR v 3) i) 0 ++ colon ++ f (row_ (cR v 4) i) else f (row_ (cR v 4) i)
def kidsTxt (f : Row → ByteArray) (v : Row) (n : Nat) : List ByteArray := (List.range n).map (kidTxt f v)
def vTxt : Nat → Row → ByteArray
 | 0, _ => ByteArray.empty
 | d + 1, v => bif cN v 0 == 1 then quoS (cT v 1) else (bif cN v 0 == 2 then decS (cN v 2) else (bif cN v 0 == 3 then (bif cN v 2 == 1 then trueS else falseS) else
  (bif cN v 0 == 5 then ⟨#[123]⟩ ++ J (kidsTxt (vTxt d) v (cR v 4).length) ++ ⟨#[125]⟩ else ⟨#[91]⟩ ++ J (kidsTxt (vTxt d) v (cR v 4).length) ++ ⟨#[93]⟩)))
theorem kidsTxt_succ {f : Row → ByteArray} {v : Row} {n : Nat} : kidsTxt f v (n + 1) = kidsTxt f v n ++ [kidTxt f v n] := by simp [kidsTxt, List.range_succ]
theorem kidsTxt_empty {f : Row → ByteArray} {v : Row} {n : Nat} : (kidsTxt f v n).isEmpty = (n == 0) := by
 cases n with
 | zero => rfl
 | succ n => simp [kidsTxt_succ]
theorem kidSum_at {f : Row → Int} (hf : ∀ x, 0 ≤ f x) : ∀ (l : Rows) (n : Int), kidSum f l n ≠ 0 → (∀ x ∈ l, 0 < f x) ∧ kidSum f l n = n + (l.map f).sum ∧ (1 ≤ n → n ≤ 300 → kidSum f l n ≤ 300) := by
 intro l
 induction l with
 | nil => intro n h; simp [kidSum]
 | cons x l ih =>
  intro n h
  simp only [kidSum] at h ⊢
  split at h
  ·exact absurd rfl h
  ·rename_i hc
   have hx := hf x
   obtain ⟨h1, h2, h3⟩ := ih _ h
   rw [if_neg hc]
   refine ⟨fun y hy => ?_, by rw [h2]; simp; omega, fun a b => h3 (by omega) (by omega)⟩
   rcases List.mem_cons.1 hy with rfl | hy
   ·omega
   ·exact h1 y hy
structure ValAt (d : Nat) (v : Row) : Prop where
 shape : shapeB (cN v 0) (cT v 1) (cN v 2) (cR v 3) (cR v 4) = true
 kids : ∀ x ∈ cR v 4, 0 < valSz d x
 sum : valSz (d + 1) v = 1 + ((cR v 4).map (valSz d)).sum
theorem valAt {d : Nat} {v : Row} (h : 0 < valSz (d + 1) v) : ValAt d v := by
 simp only [valSz] at h
 split at h
 ·rename_i hs
  obtain ⟨h1, h2, _⟩ := kidSum_at (fun x => (valSz_rng d x).1) (cR v 4) 1 (by omega)
  exact ⟨hs, h1, by simp only [valSz, hs, if_true]; exact h2⟩
 ·omega
theorem row_at {l : Rows} {i : Nat} (h : i < l.length) : row_ l i = l[i] := by simp [row_, List.getElem?_eq_getElem h]
theorem row_mem {l : Rows} {i : Nat} (h : i < l.length) : row_ l i ∈ l := by rw [row_at h]; exact List.getElem_mem h
theorem sum_take {l : List Int} (hl : ∀ x ∈ l, 0 ≤ x) (n : Nat) : (l.take n).sum ≤ l.sum := by
 have : l.sum = (l.take n).sum + (l.drop n).sum := by rw [← List.sum_append, List.take_append_drop]
 have h2 : ∀ l : List Int, (∀ x ∈ l, 0 ≤ x) → 0 ≤ l.sum := by
  intro l
  induction l with
  | nil => simp
  | cons x l ih => intro h; have := h x (by simp); have := ih fun y hy => h y (by simp [hy]); simp; omega
 have := h2 (l.drop n) fun x hx => hl x (List.mem_of_mem_drop hx)
 omega
theorem key_size {l : Rows} {u : Int} (h : namesOk l u = true) {i : Nat} (hi : i < l.length) : (cT (row_ l i) 0).size ≤ 20 := by
 simp only [namesOk, keysB, Bool.and_eq_true, allN, List.all_eq_true, List.mem_range] at h
 have := (h.1 i hi)
 simp only [Bool.and_eq_true, nameOk, inB, decide_eq_true_eq] at this
 omega
theorem shape_keys {k : Int} {s : ByteArray} {n : Int} {keys kids : Rows} (h : shapeB k s n keys kids = true) (h5 : k = 5) : keys.length = kids.length ∧ namesOk keys 300 = true := by
 subst h5
 simp [shapeB] at h
 exact ⟨by omega, h.1⟩
theorem shape_text {k : Int} {s : ByteArray} {n : Int} {keys kids : Rows} (h : shapeB k s n keys kids = true) (h1 : k = 1) : s.size ≤ 100 ∧ textOk s = true := by
 subst h1
 simp [shapeB] at h
 refine ⟨?_, by simp_all⟩
 have : textOk s = true := by simp_all
 simp only [textOk, Bool.and_eq_true, decide_eq_true_eq] at this
 omega
theorem shape_kind {k : Int} {s : ByteArray} {n : Int} {keys kids : Rows} (h : shapeB k s n keys kids = true) : k = 1 ∨ k = 2 ∨ k = 3 ∨ k = 4 ∨ k = 5 := by
 unfold shapeB at h
 split at h
 ·omega
 ·split at h
  ·omega
  ·split at h
   ·omega
   ·split at h
    ·omega
    ·split at h
     ·omega
     ·simp at h
def numOk : Nat → Row → Prop
 | 0, _ => True
 | d + 1, v => (IntKind.i64.min ≤ cN v 2 ∧ cN v 2 ≤ IntKind.i64.max) ∧ ∀ x ∈ cR v 4, numOk d x
theorem kid_size {d : Nat} {v : Row} (h : ValAt d v) (hk : ∀ x ∈ cR v 4, ((vTxt d x).size : Int) + 22 ≤ 272 * valSz d x) {i : Nat} (hi : i < (cR v 4).length) : ((kidTxt (vTxt d) v i).size : Int) + 1 ≤ 272 * valSz d (row_ (cR v 4) i) := by
 have h1 := hk _ (row_mem hi)
 unfold kidTxt
 cases hc : cN v 0 == 5 with
 | false => simp only [cond_false]; omega
 | true =>
  obtain ⟨h2, h3⟩ := shape_keys h.shape (by simpa using hc)
  have h4 := key_size h3 (i := i) (by omega)
  have h5 : colon.size = 1 := rfl
  simp only [cond_true, ByteArray.size_append]
  omega
theorem kids_size {d : Nat} {v : Row} (h : ValAt d v) (hk : ∀ x ∈ cR v 4, ((vTxt d x).size : Int) + 22 ≤ 272 * valSz d x) : ∀ i, i ≤ (cR v 4).length → (sumB (kidsTxt (vTxt d) v i) : Int) ≤ 272 * (((cR v 4).take i).map (valSz d)).sum := by
 intro i
 induction i with
 | zero => intro _; simp [kidsTxt, sumB]
 | succ i ih =>
  intro hi
  have h1 := ih (by omega)
  have h2 := kid_size h hk (i := i) (by omega)
  rw [kidsTxt_succ, List.take_succ_eq_append_getElem (by omega)]
  rw [row_at (by omega)] at h2
  simp only [sumB, List.map_append, List.map_cons, List.map_nil, List.sum_append, List.sum_cons, List.sum_nil] at h1 ⊢
  omega
theorem kids_fit {d : Nat} {v : Row} (h : 0 < valSz (d + 1) v) (hk : ∀ x ∈ cR v 4, ((vTxt d x).size : Int) + 22 ≤ 272 * valSz d x) {i : Nat} (hi : i ≤ (cR v 4).length) : ((J (kidsTxt (vTxt d) v i)).size : Int) + 272 ≤ 272 * valSz (d + 1) v := by
 have hv := valAt h
 have h1 := kids_size hv hk i hi
 have h2 := J_size (kidsTxt (vTxt d) v i)
 have h3 := sum_take (l := (cR v 4).map (valSz d)) (fun x hx => by obtain ⟨y, _, rfl⟩ := List.mem_map.1 hx; exact (valSz_rng d y).1) i
 rw [← List.map_take] at h3
 have h4 := hv.sum
 omega
theorem vTxt_size : ∀ (d : Nat) (v : Row), 0 < valSz d v → numOk d v → ((vTxt d v).size : Int) + 22 ≤ 272 * valSz d v := by
 intro d
 induction d with
 | zero => intro v h; simp [valSz] at h
 | succ d ih =>
  intro v h hn
  have hv := valAt h
  have hk := kids_fit h (fun x hx => ih x (hv.kids x hx) (hn.2 x hx)) (Nat.le_refl _)
  have h1 : (trueS.size : Int) = 4 := rfl
  have h2 : (falseS.size : Int) = 5 := rfl
  have h3 := decS_size hn.1.1 hn.1.2
  unfold vTxt
  cases c1 : cN v 0 == 1 with
  | true =>
   have := shape_text hv.shape (by simpa using c1)
   have := quo_size (s := cT v 1)
   simp only [cond_true]; omega
  | false =>
   cases c2 : cN v 0 == 2 with
   | true => simp only [cond_true, cond_false]; omega
   | false =>
    cases c3 : cN v 0 == 3 with
    | true => cases c4 : cN v 2 == 1 <;> simp only [cond_true, cond_false] <;> omega
    | false =>
     have e1 : (⟨#[123]⟩ : ByteArray).size = 1 := rfl
     have e2 : (⟨#[125]⟩ : ByteArray).size = 1 := rfl
     have e3 : (⟨#[91]⟩ : ByteArray).size = 1 := rfl
     have e4 : (⟨#[93]⟩ : ByteArray).size = 1 := rfl
     cases c5 : cN v 0 == 5 <;> simp only [cond_true, cond_false, ByteArray.size_append] <;> omega
theorem len_sum {l : List Int} : (∀ x ∈ l, 0 < x) → (l.length : Int) ≤ l.sum := by
 induction l with
 | nil => simp
 | cons x l ih =>
  intro h
  have h1 := h x (by simp)
  have h2 := ih fun y hy => h y (by simp [hy])
  simp only [List.length_cons, List.sum_cons]
  omega
theorem shape_few {d : Nat} {v : Row} (h : 0 < valSz (d + 1) v) : (cR v 4).length ≤ 300 := by
 have hv := valAt h
 have h1 := (valSz_rng (d + 1) v).2
 have h2 := len_sum (l := (cR v 4).map (valSz d)) fun x hx => by obtain ⟨y, hy, rfl⟩ := List.mem_map.1 hx; exact hv.kids y hy
 have h3 := hv.sum
 simp only [List.length_map] at h2
 omega
theorem J_step {f : Row → ByteArray} {v : Row} {i : Nat} {b : ByteArray} : b ++ J (kidsTxt f v (i + 1)) = (bif (i == 0) then b ++ J (kidsTxt f v i) else (b ++ J (kidsTxt f v i)) ++ comma) ++ kidTxt f v i := by
 rw [kidsTxt_succ, J_snoc, kidsTxt_empty]
 cases i with
 | zero => simp [kidsTxt, J_nil]
 | succ i => simp [ByteArray.append_assoc]
theorem strsOf_map : ∀ l : List ByteArray, strsOf (l.map fun s => [D.v (.string s)]) = some l
 | [] => rfl
 | s :: l => by simp [strsOf, strsOf_map l]
theorem quo_two (s : ByteArray) : (⟨#[34]⟩ : ByteArray) ++ repS (repS s ⟨#[92]⟩ ⟨#[92, 92]⟩) ⟨#[34]⟩ ⟨#[92, 34]⟩ ++ ⟨#[34]⟩ = quoS s := by
 have h1 : Lib.replaceAll s.data.toList [92] [92, 92] = s.data.toList.flatMap (sub1 92 [92, 92]) := rep_one (by decide) _
 have h2 : ∀ l : List UInt8, Lib.replaceAll l [34] [92, 34] = l.flatMap (sub1 34 [92, 34]) := rep_one (by decide)
 apply ByteArray.ext
 simp [repS, bOf, quoS, quoL, h1, h2, esc_two, ByteArray.data_append]
theorem rep_size {s old new : ByteArray} {c : UInt8} {l : List UInt8} (ho : old = ⟨#[c]⟩) (hn : new = ⟨l.toArray⟩) (hl : l.length = 2) : (repS s old new).size ≤ 2 * s.size := by
 subst ho hn
 have hne : [c] ≠ l := by intro e; rw [← e] at hl; simp at hl
 have e : s.data.toList.length = s.size := by rw [Array.length_toList]; rfl
 have h1 := rep_one hne s.data.toList
 have h2 := flat_len (f := sub1 c l) (fun b => by unfold sub1; split <;> first | omega | simp) s.data.toList
 have h3 : repS s ⟨#[c]⟩ ⟨l.toArray⟩ = bOf (s.data.toList.flatMap (sub1 c l)) := by simp [repS, h1]
 rw [h3, bOf_size]
 omega
theorem rep_ok {s old new : ByteArray} (h1 : old.size = 1) (h2 : new.size = 2) (hs : s.size ≤ 1000000) : repOk s old new = true := by
 have h := Lib.countB_mul_le old (by omega) s.size s (Nat.le_refl _)
 rw [h1] at h
 have : Lib.countB s old * new.size ≤ 2 * s.size := by rw [h2]; omega
 simp [repOk, h1]
 omega
end Go.Am
/- AM: that a function comes to an end, with something that is right: a calculus beside Evt. Nothing is assumed. -/
namespace Go.Am
def EvtE {R : Type} (P : R → Prop) (F : Nat → Nat → Option R) : Prop := ∃ y, P y ∧ Evt F y
def EvE (fs : Fns) (fn : Nat) (is : List I) (Q : Out → Prop) : Prop := ∃ o, Q o ∧ Ev fs fn is o
section
variable {R : Type} {fs : Fns} {P : R → Prop} {F A B : Nat → Nat → Option R} {c : Bool}
theorem EvtE.ret {y : R} (h : P y) : EvtE P (fun _ _ => some y) := ⟨y, h, Evt.ret⟩
theorem EvtE.mono {P' : R → Prop} (h : EvtE P F) (hP : ∀ y, P y → P' y) : EvtE P' F := by
 obtain ⟨y, h1, h2⟩ := h
 exact ⟨y, hP y h1, h2⟩
theorem EvtE.congr {G : Nat → Nat → Option R} (h : ∀ d n, F d n = G d n) (hG : EvtE P G) : EvtE P F := by
 obtain ⟨y, h1, h2⟩ := hG
 exact ⟨y, h1, Evt.congr h h2⟩
theorem eve_succ (h : EvtE P (fun d n => F d (n + 1))) : EvtE P F := by
 obtain ⟨y, h1, h2⟩ := h
 exact ⟨y, h1, ev_succ h2⟩
theorem eve_if (ht : c = true → EvtE P A) (hf : c = false → EvtE P B) : EvtE P (fun d n => bif c then A d n else B d n) := by
 cases c with
 | true => exact ht rfl
 | false => exact hf rfl
theorem eve_tst (h : c = true) (hA : EvtE P A) : EvtE P (fun d n => tst c (A d n)) := by
 obtain ⟨y, h1, h2⟩ := hA
 exact ⟨y, h1, ev_tst h h2⟩
theorem eve_call {fn : Nat} {is : List I} {o : Out} {G : Nat → Nat → Out → Option R} (h : Ev fs fn is o) (hF : EvtE P fun d n => G d n o) : EvtE P (fun d n => callT (TabD fs d) fn is (G d n)) := by
 obtain ⟨y, h1, h2⟩ := hF
 exact ⟨y, h1, ev_call h h2⟩
theorem eve_callE {fn : Nat} {is : List I} {Q : Out → Prop} {G : Nat → Nat → Out → Option R} (h : EvE fs fn is Q) (hF : ∀ o, Q o → EvtE P fun d n => G d n o) : EvtE P (fun d n => callT (TabD fs d) fn is (G d n)) := by
 obtain ⟨o, h1, h2⟩ := h
 exact eve_call h2 (hF o h1)
theorem eve_aft {L : Nat → Nat → Option (Ex × List AV)} {Q : Ex × List AV → Prop} {G : Nat → Nat → Ex → List AV → Option R} (h : EvtE Q L) (hF : ∀ y, Q y → EvtE P fun d n => G d n y.1 y.2) : EvtE P (fun d n => aft (L d d) (G d n)) := by
 obtain ⟨y, h1, h2⟩ := h
 obtain ⟨z, h3, h4⟩ := hF y h1
 exact ⟨z, h3, ev_aft h2 h4⟩
theorem EvE.of {fn : Nat} {is : List I} {Q : Out → Prop} {af : AFun} (hl : lookF fn fs.funs = some af) (hn : lenIs is af.modes = true) (h : EvtE Q fun d _ => evalF (TabD fs d) d af is) : EvE fs fn is Q := by
 obtain ⟨o, h1, h2⟩ := h
 exact ⟨o, h1, Ev.of hl hn h2⟩
end
end Go.Am
/- AM: what is written is read again: plain lemmas on bytes, digits, joined texts. Nothing is assumed. -/
namespace Go.Am
theorem bOf_list (l : List UInt8) : (bOf l).toList = l := by rw [ByteArray.toList_eq]
theorem bOf_data (l : List UInt8) : (bOf l).data.toList = l := rfl
theorem toList_app (a b : ByteArray) : (a ++ b).toList = a.toList ++ b.toList := by simp [ByteArray.toList_eq, ByteArray.data_append]
theorem bOf_toList (s : ByteArray) : bOf s.toList = s := by apply ByteArray.ext; simp [ByteArray.toList_eq]
theorem bOf_of {s : ByteArray} {l : List UInt8} (h : s.toList = l) : s = bOf l := by rw [← h, bOf_toList]
theorem size_of {s : ByteArray} {l : List UInt8} (h : s.toList = l) : s.size = l.length := by rw [← h, toList_length]
theorem one_list {c : Nat} : (one c).toList = [UInt8.ofNat c] := by rw [ByteArray.toList_eq]; rfl
theorem bare_eq {s : ByteArray} (h : bare s = true) : s = ⟨#[]⟩ := by
 have : s.toList = [] := by
  have e : (⟨#[]⟩ : ByteArray).toList = [] := by rw [ByteArray.toList_eq]
  simpa [bare, bytesEq, e] using h
 exact bOf_of this
def rdT : List UInt8 → Option (List UInt8 × Nat)
 | [] => none
 | b :: l => if b = 34 then some ([], 1) else if b = 92 then (match l with
  | [] => none
  | c :: l' => if c = 0 then none else (rdT l').map fun p => (c :: p.1, p.2 + 2)) else if b = 0 then none else (rdT l).map fun p => (b :: p.1, p.2 + 1)
def rdP : List UInt8 → Option (List UInt8 × Nat)
 | [] => none
 | b :: l => if b = 34 then some ([], 1) else if b = 92 then (match l with
  | [] => none
  | c :: l' => (rdP l').map fun p => (c :: p.1, p.2 + 2)) else (rdP l).map fun p => (b :: p.1, p.2 + 1)
theorem rdT_esc (r : List UInt8) : ∀ t : List UInt8, (∀ b ∈ t, b ≠ 0) → rdT (t.flatMap esc ++ 34 :: r) = some (t, (t.flatMap esc).length + 1)
 | [], _ => by
  show rdT (34 :: r) = _
  unfold rdT
  rfl
 | b :: t, h => by
  have ih := rdT_esc r t fun x hx => h x (by simp [hx])
  have hb := h b (by simp)
  rw [List.flatMap_cons, List.append_assoc]
  by_cases h1 : b = 34 ∨ b = 92
  ·have e : esc b = [92, b] := by simp [esc, h1]
   rw [e]
   show rdT (92 :: b :: (t.flatMap esc ++ 34 :: r)) = _
   unfold rdT
   simp only [show (92 : UInt8) ≠ 34 from by decide, if_false, if_true, hb, ih, Option.map_some]
   simp
  ·have e : esc b = [b] := by simp [esc, h1]
   have h2 : b ≠ 34 := fun e => h1 (.inl e)
   have h3 : b ≠ 92 := fun e => h1 (.inr e)
   rw [e]
   show rdT (b :: (t.flatMap esc ++ 34 :: r)) = _
   unfold rdT
   simp only [h2, h3, hb, if_false, ih, Option.map_some]
   simp
theorem rdP_esc (r : List UInt8) : ∀ t : List UInt8, rdP (t.flatMap esc ++ 34 :: r) = some (t, (t.flatMap esc).length + 1)
 | [] => by
  show rdP (34 :: r) = _
  unfold rdP
  rfl
 | b :: t => by
  have ih := rdP_esc r t
  rw [List.flatMap_cons, List.append_assoc]
  by_cases h1 : b = 34 ∨ b = 92
  ·have e : esc b = [92, b] := by simp [esc, h1]
   rw [e]
   show rdP (92 :: b :: (t.flatMap esc ++ 34 :: r)) = _
   unfold rdP
   simp only [show (92 : UInt8) ≠ 34 from by decide, if_false, if_true, ih, Option.map_some]
   simp
  ·have e : esc b = [b] := by simp [esc, h1]
   have h2 : b ≠ 34 := fun e => h1 (.inl e)
   have h3 : b ≠ 92 := fun e => h1 (.inr e)
   rw [e]
   show rdP (b :: (t.flatMap esc ++ 34 :: r)) = _
   unfold rdP
   simp only [h2, h3, if_false, ih, Option.map_some]
   simp
theorem textOk_nz {s : ByteArray} (h : textOk s = true) : ∀ b ∈ s.toList, b ≠ 0 := by
 intro b hb e
 obtain ⟨i, hi, hg⟩ := List.mem_iff_getElem.1 hb
 simp only [textOk, Bool.and_eq_true, allN_iff] at h
 have := h.1 i (by rw [← toList_length]; exact hi)
 rw [byteOf, List.getElem?_eq_getElem hi, hg, e] at this
 simp [inB] at this
def isDg (c : UInt8) : Bool := inB (c.toNat : Int) 48 57
def digN : Nat → List UInt8 → Nat → Nat × Nat
 | 0, _, x => (x, 0)
 | _ + 1, [], x => (x, 0)
 | f + 1, c :: l, x => bif isDg c then ((digN f l (x * 10 + (c.toNat - 48))).1, (digN f l (x * 10 + (c.toNat - 48))).2 + 1) else (x, 0)
theorem digN_le : ∀ (f : Nat) (l : List UInt8) (x : Nat), (digN f l x).2 ≤ l.length ∧ (digN f l x).2 ≤ f
 | 0, l, x => by simp [digN]
 | f + 1, [], x => by simp [digN]
 | f + 1, c :: l, x => by
  have := digN_le f l (x * 10 + (c.toNat - 48))
  unfold digN
  cases isDg c <;> simp <;> omega
def dval (l : List UInt8) (x : Nat) : Nat := l.foldl (fun x c => x * 10 + (c.toNat - 48)) x
theorem digN_app : ∀ (L R : List UInt8) (f x : Nat), (∀ c ∈ L, isDg c = true) → digN (L.length + f) (L ++ R) x = ((digN f R (dval L x)).1, (digN f R (dval L x)).2 + L.length)
 | [], R, f, x, _ => by simp [dval]
 | c :: L, R, f, x, h => by
  have hc := h c (by simp)
  have ih := digN_app L R f (x * 10 + (c.toNat - 48)) (fun c hc => h c (by simp [hc]))
  rw [show (c :: L).length + f = (L.length + f) + 1 from by simp only [List.length_cons]; omega, List.cons_append]
  simp only [digN, hc, cond_true, ih]
  simp [dval, Nat.add_assoc]
def dl (n : Nat) : List UInt8 := (dg n).toList
theorem dl_small {n : Nat} (h : n < 10) : dl n = [UInt8.ofNat (48 + n)] := by rw [dl, dg_small h, one_list]
theorem dl_big {n : Nat} (h : 10 ≤ n) : dl n = dl (n / 10) ++ [UInt8.ofNat (48 + n % 10)] := by rw [dl, dg_big h, toList_app, one_list]; rfl
theorem dg_nat {m : Nat} (h : m < 10) : (UInt8.ofNat (48 + m)).toNat = 48 + m := by simp; omega
theorem dg_is {m : Nat} (h : m < 10) : isDg (UInt8.ofNat (48 + m)) = true := by
 simp only [isDg, inB, dg_nat h]
 simp
 omega
theorem dl_all : ∀ n : Nat, (∀ c ∈ dl n, isDg c = true) ∧ dval (dl n) 0 = n ∧ 1 ≤ (dl n).length := by
 intro n
 induction n using Nat.strongRecOn with
 | ind n ih =>
  rcases Nat.lt_or_ge n 10 with h | h
  ·rw [dl_small h]
   refine ⟨fun c hc => ?_, ?_, by simp⟩
   ·rw [List.mem_singleton] at hc; subst hc; exact dg_is h
   ·simp only [dval, List.foldl_cons, List.foldl_nil, dg_nat h]; omega
  ·obtain ⟨h1, h2, h3⟩ := ih (n / 10) (by omega)
   have hm : n % 10 < 10 := Nat.mod_lt _ (by omega)
   rw [dl_big h]
   refine ⟨fun c hc => ?_, ?_, by simp⟩
   ·rcases List.mem_append.1 hc with hc | hc
    ·exact h1 c hc
    ·rw [List.mem_singleton] at hc; subst hc; exact dg_is hm
   ·unfold dval at h2 ⊢
    rw [List.foldl_append, h2]
    simp only [List.foldl_cons, List.foldl_nil, dg_nat hm]
    omega
theorem dl_len : ∀ (k n : Nat), n < 10 ^ (k + 1) → (dl n).length ≤ k + 1 := by
 intro k
 induction k with
 | zero => intro n h; rw [dl_small (by simpa using h)]; simp
 | succ k ih =>
  intro n h
  rcases Nat.lt_or_ge n 10 with h1 | h1
  ·rw [dl_small h1]; simp
  ·rw [dl_big h1]
   have := ih (n / 10) (by rw [Nat.pow_succ] at h; omega)
   simp
   omega
theorem decS_list (n : Int) : (decS n).toList = if n < 0 then 45 :: dl n.natAbs else dl n.natAbs := by
 unfold decS
 split
 ·rw [toList_app, one_list]; rfl
 ·rfl
def Stop (r : List UInt8) : Prop := ∀ c r', r = c :: r' → c = 44 ∨ c = 93 ∨ c = 125
theorem Stop.nil : Stop [] := fun _ _ h => by cases h
theorem Stop.cons {c : UInt8} {r : List UInt8} (h : c = 44 ∨ c = 93 ∨ c = 125) : Stop (c :: r) := fun _ _ e => by cases e; exact h
theorem digN_stop {f : Nat} {r : List UInt8} {x : Nat} (h : Stop r) : digN f r x = (x, 0) := by
 cases f with
 | zero => rfl
 | succ f =>
  cases r with
  | nil => rfl
  | cons c r => rcases h c r rfl with rfl | rfl | rfl <;> rfl
theorem fits_abs {n : Int} (h : Fits n) : n.natAbs < 10 ^ 19 := by
 simp only [Fits, IntKind.min, IntKind.max, IntKind.signed, IntKind.bits] at h
 simp at h
 omega
theorem digN_dec {n : Int} (h : Fits n) {r : List UInt8} (hr : Stop r) : digN 19 (dl n.natAbs ++ r) 0 = (n.natAbs, (dl n.natAbs).length) := by
 obtain ⟨h1, h2, h3⟩ := dl_all n.natAbs
 have h4 := dl_len 18 n.natAbs (fits_abs h)
 have := digN_app (dl n.natAbs) r (19 - (dl n.natAbs).length) 0 h1
 rw [show (dl n.natAbs).length + (19 - (dl n.natAbs).length) = 19 from by omega, digN_stop hr, h2] at this
 simpa using this
def intV (m : Bool) (x : Nat) : Int := bif m && decide ((x : Int) > 0) then IntKind.wrap .i64 (IntKind.wrap .i64 (0 - IntKind.wrap .i64 (IntKind.wrap .u64 ((x : Int) - 1))) - 1) else IntKind.wrap .i64 (x : Int)
def intBad (m : Bool) (x n : Nat) : Bool := (((n : Nat) : Int) == 0) || (decide ((x : Int) > 9223372036854775808) || (!m && ((x : Int) == 9223372036854775808)))
theorem fits_i64 {n : Int} (h : Fits n) : -9223372036854775808 ≤ n ∧ n ≤ 9223372036854775807 := by
 simp only [Fits, IntKind.min, IntKind.max, IntKind.signed, IntKind.bits] at h
 simp at h
 omega
theorem intV_dec {n : Int} (h : Fits n) : intV (decide (n < 0)) n.natAbs = n := by
 have h := fits_i64 h
 unfold intV
 by_cases hn : n < 0
 ·have e1 : decide ((n.natAbs : Int) > 0) = true := decide_eq_true (by omega)
  rw [decide_eq_true hn, e1, wrap_u64 (by omega) (by omega), wrap_i64 (n := (n.natAbs : Int) - 1) (by omega) (by omega), wrap_i64 (n := 0 - ((n.natAbs : Int) - 1)) (by omega) (by omega), wrap_i64 (by omega) (by omega)]
  simp only [Bool.and_self, cond_true]
  omega
 ·rw [decide_eq_false hn]
  simp only [Bool.false_and, cond_false]
  rw [wrap_i64 (by omega) (by omega)]
  omega
theorem intBad_dec {n : Int} (h : Fits n) {k : Nat} (hk : 1 ≤ k) : intBad (decide (n < 0)) n.natAbs k = false := by
 have h := fits_i64 h
 have e1 : (((k : Nat) : Int) == 0) = false := by simp; omega
 have e2 : decide ((n.natAbs : Int) > 9223372036854775808) = false := decide_eq_false (by omega)
 unfold intBad
 rw [e1, e2]
 by_cases hn : n < 0
 ·rw [decide_eq_true hn]; rfl
 ·have e3 : ((n.natAbs : Int) == 9223372036854775808) = false := by simp; omega
  rw [e3]
  simp
def wordL (l : List UInt8) : Nat := (l.takeWhile fun c => c != 58 && c != 0).length
theorem wordL_app : ∀ (w r : List UInt8), (∀ c ∈ w, c ≠ 58 ∧ c ≠ 0) → wordL (w ++ 58 :: r) = w.length
 | [], r, _ => by simp [wordL]
 | c :: w, r, h => by
  have ih := wordL_app w r fun c hc => h c (by simp [hc])
  have hc := h c (by simp)
  unfold wordL at ih ⊢
  simp [hc.1, hc.2, ih]
theorem name_ch {s : ByteArray} (h : nameOk s = true) : (∀ c ∈ s.toList, nameCh c = true) ∧ 1 ≤ s.toList.length ∧ s.toList.length ≤ 20 := by
 simp only [nameOk, Bool.and_eq_true, allN_iff, inB, decide_eq_true_eq] at h
 refine ⟨fun c hc => ?_, by rw [toList_length]; omega, by rw [toList_length]; omega⟩
 obtain ⟨i, hi, hg⟩ := List.mem_iff_getElem.1 hc
 have := h.1 i (by rw [← toList_length]; exact hi)
 rw [List.getElem?_eq_getElem hi, hg] at this
 exact this
theorem nameCh_ne {c : UInt8} (h : nameCh c = true) : c ≠ 58 ∧ c ≠ 0 ∧ c ≠ 125 ∧ c ≠ 44 ∧ c ≠ 93 ∧ c ≠ 32 ∧ c ≠ 10 ∧ c ≠ 47 ∧ c.toNat < 128 := by
 have hh : (97 ≤ c.toNat ∧ c.toNat ≤ 122) ∨ (48 ≤ c.toNat ∧ c.toNat ≤ 57) ∨ c.toNat = 45 := by
  simp only [nameCh, inB, Bool.or_eq_true, Bool.and_eq_true, decide_eq_true_eq, beq_iff_eq] at h
  omega
 refine ⟨?_, ?_, ?_, ?_, ?_, ?_, ?_, ?_, by omega⟩ <;> (intro e; rw [e] at hh; simp at hh)
def jt (f : Nat → List UInt8) : Nat → Nat → List UInt8
 | 0, _ => []
 | k + 1, m => (bif m == 0 then [] else [44]) ++ f m ++ jt f k (m + 1)
theorem jt_snoc (f : Nat → List UInt8) : ∀ (k m : Nat), jt f (k + 1) m = jt f k m ++ ((bif m + k == 0 then [] else [44]) ++ f (m + k))
 | 0, m => by simp [jt]
 | k + 1, m => by
  have ih := jt_snoc f k (m + 1)
  rw [jt, ih, jt, show m + 1 + k = m + (k + 1) from by omega]
  simp [List.append_assoc]
theorem comma_list : comma.toList = [44] := by rw [ByteArray.toList_eq]; rfl
theorem J_jt (f : Nat → ByteArray) : ∀ n, (J ((List.range n).map f)).toList = jt (fun i => (f i).toList) n 0
 | 0 => by rw [show J ((List.range 0).map f) = ByteArray.empty from rfl, ByteArray.toList_eq]; rfl
 | n + 1 => by
  have ih := J_jt f n
  rw [List.range_succ, List.map_append, List.map_cons, List.map_nil, J_snoc, jt_snoc, ← ih]
  cases n with
  | zero => simp [J_nil, ByteArray.toList_eq]
  | succ n =>
   have e : (List.map f (List.range (n + 1))).isEmpty = false := by cases h : List.map f (List.range (n + 1)) with
    | nil => simp at h
    | cons => rfl
   rw [e]
   simp only [cond_false, toList_app, comma_list, List.append_assoc]
   simp
def kidL (d : Nat) (v : Row) (i : Nat) : List UInt8 := (kidTxt (vTxt d) v i).toList
theorem kids_jt (d : Nat) (v : Row) (n : Nat) : (J (kidsTxt (vTxt d) v n)).toList = jt (kidL d v) n 0 := J_jt _ n
theorem lit_list (c : UInt8) : (⟨#[c]⟩ : ByteArray).toList = [c] := by rw [ByteArray.toList_eq]
theorem vTxt1 {d : Nat} {v : Row} (h : cN v 0 = 1) : (vTxt (d + 1) v).toList = 34 :: ((cT v 1).toList.flatMap esc ++ [34]) := by
 simp only [vTxt, h, show ((1 : Int) == 1) = true from rfl, cond_true, quoS, quoL, ByteArray.toList_eq]
theorem vTxt2 {d : Nat} {v : Row} (h : cN v 0 = 2) : (vTxt (d + 1) v).toList = (decS (cN v 2)).toList := by
 simp only [vTxt, h, show ((2 : Int) == 1) = false from rfl, show ((2 : Int) == 2) = true from rfl, cond_true, cond_false]
theorem vTxt3 {d : Nat} {v : Row} (h : cN v 0 = 3) : (vTxt (d + 1) v).toList = bif cN v 2 == 1 then [116, 114, 117, 101] else [102, 97, 108, 115, 101] := by
 simp only [vTxt, h, show ((3 : Int) == 1) = false from rfl, show ((3 : Int) == 2) = false from rfl, show ((3 : Int) == 3) = true from rfl, cond_true, cond_false]
 cases cN v 2 == 1 <;> simp only [cond_true, cond_false, trueS, falseS, ByteArray.toList_eq]
theorem vTxt4 {d : Nat} {v : Row} (h : cN v 0 = 4) : (vTxt (d + 1) v).toList = 91 :: (jt (kidL d v) (cR v 4).length 0 ++ [93]) := by
 simp only [vTxt, h, show ((4 : Int) == 1) = false from rfl, show ((4 : Int) == 2) = false from rfl, show ((4 : Int) == 3) = false from rfl, show ((4 : Int) == 5) = false from rfl, cond_false, toList_app, lit_list, kids_jt]
 rfl
theorem vTxt5 {d : Nat} {v : Row} (h : cN v 0 = 5) : (vTxt (d + 1) v).toList = 123 :: (jt (kidL d v) (cR v 4).length 0 ++ [125]) := by
 simp only [vTxt, h, show ((5 : Int) == 1) = false from rfl, show ((5 : Int) == 2) = false from rfl, show ((5 : Int) == 3) = false from rfl, show ((5 : Int) == 5) = true from rfl, cond_true, cond_false, toList_app, lit_list, kids_jt]
 rfl
theorem kidL4 {d : Nat} {v : Row} {i : Nat} (h : cN v 0 = 4) : kidL d v i = (vTxt d (row_ (cR v 4) i)).toList := by
 simp only [kidL, kidTxt, h, show ((4 : Int) == 5) = false from rfl, cond_false]
theorem kidL5 {d : Nat} {v : Row} {i : Nat} (h : cN v 0 = 5) : kidL d v i = (cT (row_ (cR v 3) i) 0).toList ++ 58 :: (vTxt d (row_ (cR v 4) i)).toList := by
 simp only [kidL, kidTxt, h, show ((5 : Int) == 5) = true from rfl, cond_true, toList_app, show colon.toList = [58] from lit_list 58, List.append_assoc]
 rfl
theorem dl_head (n : Nat) : ∃ c l, dl n = c :: l ∧ 48 ≤ c.toNat ∧ c.toNat ≤ 57 := by
 obtain ⟨h1, _, h3⟩ := dl_all n
 cases h : dl n with
 | nil => rw [h] at h3; simp at h3
 | cons c l =>
  have := h1 c (by rw [h]; simp)
  simp only [isDg, inB, Bool.and_eq_true, decide_eq_true_eq] at this
  exact ⟨c, l, rfl, by omega, by omega⟩
theorem dec_head (n : Int) : ∃ c l, (decS n).toList = c :: l ∧ c ≠ 34 ∧ c ≠ 116 ∧ c ≠ 102 ∧ c ≠ 91 ∧ c ≠ 123 ∧ c ≠ 93 ∧ c ≠ 125 ∧ c ≠ 44 := by
 have key : ∀ c : UInt8, 45 ≤ c.toNat → c.toNat ≤ 57 → c ≠ 34 ∧ c ≠ 116 ∧ c ≠ 102 ∧ c ≠ 91 ∧ c ≠ 123 ∧ c ≠ 93 ∧ c ≠ 125 ∧ c ≠ 44 := by
  intro c h1 h2
  refine ⟨?_, ?_, ?_, ?_, ?_, ?_, ?_, ?_⟩ <;> (intro e; rw [e] at h1 h2; simp at h1 h2)
 rw [decS_list]
 split
 ·exact ⟨45, _, rfl, key 45 (by decide) (by decide)⟩
 ·obtain ⟨c, l, h1, h2, h3⟩ := dl_head n.natAbs
  exact ⟨c, l, h1, key c (by omega) h3⟩
theorem val_head {d : Nat} {v : Row} (h : 0 < valSz (d + 1) v) : ∃ c l, (vTxt (d + 1) v).toList = c :: l ∧ c ≠ 93 ∧ c ≠ 125 ∧ c ≠ 44 := by
 rcases shape_kind (valAt h).shape with k | k | k | k | k
 ·exact ⟨_, _, vTxt1 k, by decide⟩
 ·obtain ⟨c, l, h1, h2⟩ := dec_head (cN v 2)
  exact ⟨c, l, by rw [vTxt2 k, h1], h2.2.2.2.2.2⟩
 ·rw [vTxt3 k]
  cases cN v 2 == 1
  ·exact ⟨_, _, rfl, by decide⟩
  ·exact ⟨_, _, rfl, by decide⟩
 ·exact ⟨_, _, vTxt4 k, by decide⟩
 ·exact ⟨_, _, vTxt5 k, by decide⟩
end Go.Am
/- AM: strings.Split, strings.Cut, strings.TrimSuffix by contracts that stand already; texts that are split at a byte. Nothing is assumed. -/
namespace Go.Am
set_option linter.unusedVariables false
open Go.RowKit (Below)
theorem sat_new {K : Src} {P : Program} {sg : Sigs} {fn : Nat} {is : List I} {r : I} (hs : sg fn = none)
  (h : ∀ (w : World) (Z : Nat → Prop) (vs : List Value), Pin P K Z w → IFroL sg.X w Z is vs → CallsF P fn vs.toArray w fun e w' => ∃ v c, e = .returned v ∧ IOwn sg.X w' r v c ∧ Below w.heap.size w w' ∧ (∀ b, c.count b ≤ 1) ∧ ∀ b ∈ c, w.heap.size ≤ b) : Sat P sg K fn is ⟨r, []⟩ := by
 intro w Z vs cin hp ha hw
 have hm : sg.modes fn is.length = List.replicate is.length .rd := by simp [Sigs.modes, hs]
 rw [hm] at ha ⊢
 obtain ⟨hi, rfl⟩ := args_rd ha
 refine (h w Z vs hp hi).mono fun e w' ⟨v, c, he, hr, hb, h1, h2⟩ => ⟨v, c, [], he, hr, ?_, ?_⟩
 ·have : is.length = vs.length := ha.lengths.2.symm
  rw [this]
  exact BackRel.rds
 ·rw [List.append_nil]
  have g := hw.below hb
  exact ⟨h1, fun b hz hc => Nat.not_le_of_lt (hw.zlt b hz).1 (h2 b hc), hw.zlt, hb.size, fun b hc => .inr (h2 b hc), g.frame, g.mute, g.stay⟩
theorem natO_good {K : Src} {P : Program} {sg : Sigs} {n : Nat} {f : List I → Option I} (hs : sg n = none)
  (h : ∀ is r, f is = some r → ∀ (w : World) (Z : Nat → Prop) (vs : List Value), Pin P K Z w → IFroL sg.X w Z is vs → CallsF P n vs.toArray w fun e w' => ∃ v c, e = .returned v ∧ IOwn sg.X w' r v c ∧ Below w.heap.size w w' ∧ (∀ b, c.count b ≤ 1) ∧ ∀ b ∈ c, w.heap.size ≤ b) (h0 : Nat.beq 0 n = false := by rfl) : Good P sg K (natF n f) := by
 refine ⟨fun fn is o ho => ?_, fun mk b m c i o h => by simp [natF, h0] at h⟩
 unfold natF at ho
 cases hb : Nat.beq fn n with
 | false => simp [hb] at ho
 | true =>
  have := Nat.eq_of_beq_eq_true hb
  subst this
  simp only [hb, cond_true, Option.map_eq_some_iff] at ho
  obtain ⟨r, hr, rfl⟩ := ho
  exact sat_new hs (h is r hr)
def strR (l : List ByteArray) : Rows := l.map fun s => [D.v (.string s)]
def splB (s p : ByteArray) : List ByteArray := Lib.splitB p 0 (Lib.countB s p) s
def splOk (s p : ByteArray) : Bool := decide (s.size < 4294967281) && decide (1 ≤ p.size)
def fSplit : List I → Option I
 | [.d (.v (.string s)), .d (.v (.string p))] => bif splOk s p then some (.d (.s 1 (strR (splB s p)))) else none
 | _ => none
theorem own_strs {w : World} : ∀ l : List ByteArray, OwnL w (strR l).flatten (l.map Value.string) []
 | [] => .nil
 | s :: l => OwnL.cons (c := []) (c' := []) (.v trivial) (own_strs l)
theorem own_new {w : World} {t : TypeId} (l : List ByteArray) : OwnD (w.alloc (.cells (l.map Value.string).toArray t)) (.s 1 (strR l)) (.slice (some ⟨w.heap.size, 0, none⟩) l.length l.length) [w.heap.size] := by
 have e : (strR l).length = l.length := by simp [strR]
 have hg : (w.alloc (.cells (l.map Value.string).toArray t)).heap[w.heap.size]? = some (.cells (l.map Value.string).toArray t) := by
  show (w.heap.push _)[w.heap.size]? = _
  exact Array.getElem?_push_size ..
 have := OwnD.s (w := w.alloc (.cells (l.map Value.string).toArray t)) (wd := 1) (b := w.heap.size) (off := 0) (cap := l.length) (rows := strR l) (vs := l.map Value.string) (c := [])
  (by intro r hr; simp only [strR, List.mem_map] at hr; obtain ⟨_, _, rfl⟩ := hr; rfl) (by rw [e]; exact Nat.le_refl _)
  ⟨_, _, _, hg, fun k v h => by simpa using h⟩ ⟨_, _, _, hg, by simp, fun k _ _ h => by simp at h⟩ (own_strs l)
 rw [e] at this
 exact this
theorem split_good {K : Src} {P : Program} {sg : Sigs} {n g : Nat} {f : Func} {c : Code} (hs : sg n = none) (hf : P.funcs[n]? = some f) (hb : f.body = some c) (hname : (f.name == "runtime.NumGoroutine") = false) (hg : g < P.globals.size)
  (hc : ∀ wt : World, wt.ShapedOpen P → ∃ m : Int, wt.cell? ⟨g, 0, none⟩ = some (.int .i64 m))
  (h : ∀ (s p : ByteArray) (m : Int) (w : World), s.size < 4294967281 → w.cell? ⟨g, 0, none⟩ = some (.int .i64 m) → 1 ≤ p.size →
   Calls P n #[.string s, .string p] w fun e w' => e = .returned (.slice (some ⟨w.heap.size, 0, none⟩) (Lib.countB s p + 1) (Lib.countB s p + 1)) ∧ ∃ t, w' = w.alloc (.cells ((Lib.splitB p 0 (Lib.countB s p) s).map Value.string).toArray t)) (h0 : Nat.beq 0 n = false := by rfl) : Good P sg K (natF n fSplit) :=
 natO_good (h0 := h0) hs fun is r hr w Z vs hp hi => by
  unfold fSplit at hr
  split at hr
  ·rename_i s p
   cases hk : splOk s p with
   | false => simp [hk] at hr
   | true =>
    simp only [hk, cond_true, Option.some.injEq] at hr
    subst hr
    simp only [splOk, Bool.and_eq_true, decide_eq_true_eq] at hk
    rw [strs_in2 hi]
    obtain ⟨v, h1, m, rfl⟩ := hp.cell (Q := fun v => ∃ m : Int, v = .int .i64 m) hg fun wt h => by obtain ⟨m, hm⟩ := hc wt h; exact ⟨_, hm, m, rfl⟩
    refine callsF_of hf hb hname ((h s p m w hk.1 h1 hk.2).mono fun e w' ⟨he, t, hw⟩ => ⟨_, [w.heap.size], he, ?_, ?_, ?_, ?_⟩)
    ·subst hw
     have hl := Lib.splitB_all p hk.2 0 _ s rfl
     have := own_new (w := w) (t := t) (splB s p)
     rw [show (splB s p).length = Lib.countB s p + 1 from hl] at this
     exact .d this
    ·subst hw
     refine ⟨rfl, rfl, rfl, ?_, fun k hk => ?_⟩
     ·show w.heap.size ≤ (w.heap.push _).size
      rw [Array.size_push]; omega
     ·show (w.heap.push _)[k]? = _
      rw [Array.getElem?_push, if_neg (Nat.ne_of_lt hk)]
    ·intro b; simp only [List.count_cons, List.count_nil]; split <;> omega
    ·intro b hb; simp at hb; omega
  ·simp at hr
def cutB (s p : ByteArray) : ByteArray × ByteArray × Bool := (bOf (Lib.cut s.data.toList p.data.toList).1, bOf (Lib.cut s.data.toList p.data.toList).2.1, (Lib.cut s.data.toList p.data.toList).2.2)
def fCut3 : List I → Option I
 | [.d (.v (.string s)), .d (.v (.string p))] => bif decide (s.size < 4294967281) then some (.t [.d (.v (.string (cutB s p).1)), .d (.v (.string (cutB s p).2.1)), .d (.v (.bool (cutB s p).2.2))]) else none
 | _ => none
theorem cut3_good {K : Src} {P : Program} {sg : Sigs} {n g : Nat} {f : Func} {c : Code} (hs : sg n = none) (hf : P.funcs[n]? = some f) (hb : f.body = some c) (hname : (f.name == "runtime.NumGoroutine") = false) (hg : g < P.globals.size)
  (hc : ∀ wt : World, wt.ShapedOpen P → ∃ m : Int, wt.cell? ⟨g, 0, none⟩ = some (.int .i64 m))
  (h : ∀ (s p : ByteArray) (m : Int) (w : World), s.size < 4294967281 → w.cell? ⟨g, 0, none⟩ = some (.int .i64 m) →
   Calls P n #[.string s, .string p] w fun e w' => e = .returned (.tuple #[.string ⟨(Lib.cut s.data.toList p.data.toList).1.toArray⟩, .string ⟨(Lib.cut s.data.toList p.data.toList).2.1.toArray⟩, .bool (Lib.cut s.data.toList p.data.toList).2.2]) ∧ Below w.heap.size w w') (h0 : Nat.beq 0 n = false := by rfl) : Good P sg K (natF n fCut3) :=
 natF_good (h0 := h0) hs fun is r hr w Z vs hp hi => by
  unfold fCut3 at hr
  split at hr
  ·rename_i s p
   cases hk : decide (s.size < 4294967281) with
   | false => simp [hk] at hr
   | true =>
    simp only [hk, cond_true, Option.some.injEq] at hr
    subst hr
    rw [strs_in2 hi]
    obtain ⟨v, h1, m, rfl⟩ := hp.cell (Q := fun v => ∃ m : Int, v = .int .i64 m) hg fun wt h => by obtain ⟨m, hm⟩ := hc wt h; exact ⟨_, hm, m, rfl⟩
    exact callsF_of hf hb hname ((h s p m w (of_decide_eq_true hk) h1).mono fun e w' ⟨he, hb⟩ => ⟨_, he, own_ssb, hb⟩)
  ·simp at hr
def sufB (s p : ByteArray) : ByteArray := bOf (Lib.trimSuffix s.data.toList p.data.toList)
def fSuf : List I → Option I
 | [.d (.v (.string s)), .d (.v (.string p))] => bif decide (s.size ≤ 9223372036854775807) then some (.d (.v (.string (sufB s p)))) else none
 | _ => none
theorem suf_good {K : Src} {P : Program} {sg : Sigs} {n : Nat} {f : Func} {c : Code} (hs : sg n = none) (hf : P.funcs[n]? = some f) (hb : f.body = some c) (hname : (f.name == "runtime.NumGoroutine") = false)
  (h : ∀ (s p : ByteArray) (w : World), s.size ≤ 9223372036854775807 → Calls P n #[.string s, .string p] w fun e w' => e = .returned (.string ⟨(Lib.trimSuffix s.data.toList p.data.toList).toArray⟩) ∧ w' = w) (h0 : Nat.beq 0 n = false := by rfl) : Good P sg K (natF n fSuf) :=
 natF_good (h0 := h0) hs fun is r hr w Z vs hp hi => by
  unfold fSuf at hr
  split at hr
  ·rename_i s p
   cases hk : decide (s.size ≤ 9223372036854775807) with
   | false => simp [hk] at hr
   | true =>
    simp only [hk, cond_true, Option.some.injEq] at hr
    subst hr
    rw [strs_in2 hi]
    exact callsF_of hf hb hname ((h _ _ w (of_decide_eq_true hk)).mono fun e w' ⟨he, hw⟩ => ⟨_, he, own_str, hw ▸ below_same⟩)
  ·simp at hr
def spl (c : UInt8) : List UInt8 → List (List UInt8)
 | [] => [[]]
 | b :: l => if b = c then [] :: spl c l else match spl c l with
  | [] => [[b]]
  | x :: xs => (b :: x) :: xs
theorem spl_end {c : UInt8} : ∀ {a : List UInt8}, c ∉ a → spl c a = [a]
 | [], _ => rfl
 | b :: l, h => by
  have h1 : b ≠ c := fun e => h (by simp [e])
  have h2 : c ∉ l := fun e => h (by simp [e])
  simp only [spl, if_neg h1, spl_end h2]
theorem spl_mid {c : UInt8} {r : List UInt8} : ∀ {a : List UInt8}, c ∉ a → spl c (a ++ c :: r) = a :: spl c r
 | [], _ => by simp [spl]
 | b :: l, h => by
  have h1 : b ≠ c := fun e => h (by simp [e])
  have h2 : c ∉ l := fun e => h (by simp [e])
  simp only [List.cons_append, spl, if_neg h1, spl_mid h2]
theorem spl_ne (c : UInt8) : ∀ l : List UInt8, ∃ x xs, spl c l = x :: xs
 | [] => ⟨_, _, rfl⟩
 | b :: l => by
  obtain ⟨x, xs, e⟩ := spl_ne c l
  simp only [spl, e]
  split <;> exact ⟨_, _, rfl⟩
theorem spl_len (c : UInt8) : ∀ l : List UInt8, (spl c l).length ≤ l.length + 1
 | [] => by simp [spl]
 | b :: l => by
  have := spl_len c l
  obtain ⟨x, xs, e⟩ := spl_ne c l
  rw [e] at this
  simp only [spl, e]
  split <;> simp_all <;> omega
theorem spl_size (c : UInt8) : ∀ (l : List UInt8), ∀ x ∈ spl c l, x.length ≤ l.length
 | [], x, h => by simp [spl] at h; simp [h]
 | b :: l, x, h => by
  have ih := spl_size c l
  obtain ⟨y, ys, e⟩ := spl_ne c l
  rw [e] at ih
  simp only [spl, e] at h
  split at h
  ·rcases List.mem_cons.1 h with rfl | h
   ·simp
   ·have := ih x h; simp only [List.length_cons]; omega
  ·rcases List.mem_cons.1 h with rfl | h
   ·have := ih y (by simp); simp only [List.length_cons]; omega
   ·have := ih x (by simp [h]); simp only [List.length_cons]; omega
theorem cases_at (c : UInt8) : ∀ l : List UInt8, c ∉ l ∨ ∃ a r, c ∉ a ∧ l = a ++ c :: r
 | [] => .inl (by simp)
 | b :: l => by
  by_cases h : b = c
  ·exact .inr ⟨[], l, by simp, by simp [h]⟩
  ·rcases cases_at c l with h1 | ⟨a, r, h1, rfl⟩
   ·exact .inl fun e => (List.mem_cons.1 e).elim (fun e => h e.symm) h1
   ·exact .inr ⟨b :: a, r, fun e => (List.mem_cons.1 e).elim (fun e => h e.symm) h1, rfl⟩
theorem index_none {c : UInt8} : ∀ {a : List UInt8}, c ∉ a → Lib.index a [c] = -1
 | [], _ => rfl
 | b :: l, h => by
  have h1 : c ≠ b := fun e => h (by simp [e])
  have h2 : c ∉ l := fun e => h (by simp [e])
  simp [Lib.index, List.isPrefixOf, h1, index_none h2]
theorem index_mid {c : UInt8} {r : List UInt8} : ∀ {a : List UInt8}, c ∉ a → Lib.index (a ++ c :: r) [c] = a.length
 | [], _ => by simp [Lib.index, List.isPrefixOf]
 | b :: l, h => by
  have h1 : c ≠ b := fun e => h (by simp [e])
  have h2 : c ∉ l := fun e => h (by simp [e])
  have ih := index_mid (r := r) h2
  simp only [List.cons_append, Lib.index, List.isPrefixOf, ih]
  simp [h1]
theorem splitK_spl (c : UInt8) : ∀ (n : Nat) (l : List UInt8), l.length ≤ n → Lib.splitK [c] 0 (Lib.count l [c]) l = spl c l
 | n, l, hn => by
  rcases cases_at c l with h | ⟨a, r, h, rfl⟩
  ·rw [spl_end h, Lib.count_one, List.count_eq_zero.2 h]
   rfl
  ·have e : Lib.count (a ++ c :: r) [c] = Lib.count r [c] + 1 := by
    rw [Lib.count_one, Lib.count_one, List.count_append, List.count_eq_zero.2 h, List.count_cons_self]
    omega
   match n with
   | 0 => simp at hn
   | n + 1 =>
    have ih := splitK_spl c n r (by simp at hn; omega)
    rw [e, spl_mid h, Lib.splitK, index_mid h]
    rw [if_neg (by simp)]
    simp [ih]
theorem splB_spl (s : ByteArray) (c : UInt8) : splB s (bOf [c]) = (spl c s.data.toList).map bOf := by
 have h := Lib.splitB_data (bOf [c]) 0 (Lib.countB s (bOf [c])) s
 have e : Lib.countB s (bOf [c]) = Lib.count s.data.toList [c] := rfl
 rw [e] at h
 rw [show (bOf [c]).data.toList = [c] from rfl, splitK_spl c _ _ (Nat.le_refl _)] at h
 rw [← h, List.map_map]
 show splB s (bOf [c]) = (splB s (bOf [c])).map (bOf ∘ fun x => x.data.toList)
 rw [show (bOf ∘ fun x : ByteArray => x.data.toList) = id from rfl, List.map_id]
theorem cut_none {c : UInt8} {a : List UInt8} (h : c ∉ a) : Lib.cut a [c] = (a, [], false) := by simp [Lib.cut, index_none h]
theorem cut_mid {c : UInt8} {a r : List UInt8} (h : c ∉ a) : Lib.cut (a ++ c :: r) [c] = (a, r, true) := by
 have e := index_mid (r := r) h
 simp [Lib.cut, e]
theorem cut_size (c : UInt8) (l : List UInt8) : (Lib.cut l [c]).1.length ≤ l.length ∧ (Lib.cut l [c]).2.1.length ≤ l.length := by
 rcases cases_at c l with h | ⟨a, r, h, rfl⟩
 ·rw [cut_none h]; simp
 ·rw [cut_mid h]; simp; omega
theorem suf_end {c : UInt8} {a : List UInt8} : Lib.trimSuffix (a ++ [c]) [c] = a := by
 simp [Lib.trimSuffix, Lib.hasSuffix]
theorem suf_size (c : UInt8) (l : List UInt8) : (Lib.trimSuffix l [c]).length ≤ l.length := by
 unfold Lib.trimSuffix
 split
 ·simp
 ·exact Nat.le_refl _
end Go.Am
/- AM: texts of messages, line by line. Nothing is assumed. -/
namespace Go.Am
set_option linter.unusedVariables false
theorem jt_mem {f : Nat → List UInt8} {c : UInt8} : ∀ (k m : Nat), c ∈ jt f k m → c = 44 ∨ ∃ i, i < k ∧ c ∈ f (m + i)
 | 0, m, h => by simp [jt] at h
 | k + 1, m, h => by
  simp only [jt, List.mem_append] at h
  rcases h with (h | h) | h
  ·left
   cases e : m == 0 <;> simp [e] at h
   exact h
  ·exact .inr ⟨0, by omega, h⟩
  ·rcases jt_mem k (m + 1) h with h | ⟨i, h1, h2⟩
   ·exact .inl h
   ·exact .inr ⟨i + 1, by omega, by rw [show m + (i + 1) = m + 1 + i from by omega]; exact h2⟩
theorem dg_ne {c : UInt8} (h : isDg c = true) : c ≠ 10 ∧ c ≠ 32 ∧ c ≠ 47 := by
 simp only [isDg, inB, Bool.and_eq_true, decide_eq_true_eq] at h
 refine ⟨?_, ?_, ?_⟩ <;> (intro e; rw [e] at h; simp at h)
theorem dl_ne {n : Nat} {c : UInt8} (h : c ∈ dl n) : c ≠ 10 ∧ c ≠ 32 ∧ c ≠ 47 := dg_ne ((dl_all n).1 c h)
theorem dec_nl {n : Int} {c : UInt8} (h : c ∈ (decS n).toList) : c ≠ 10 := by
 rw [decS_list] at h
 split at h
 ·rcases List.mem_cons.1 h with rfl | h
  ·decide
  ·exact (dl_ne h).1
 ·exact (dl_ne h).1
theorem text_hi {s : ByteArray} (h : textOk s = true) : ∀ b ∈ s.toList, 32 ≤ b.toNat := by
 intro b hb
 obtain ⟨i, hi, hg⟩ := List.mem_iff_getElem.1 hb
 simp only [textOk, Bool.and_eq_true, allN_iff] at h
 have := h.1 i (by rw [← toList_length]; exact hi)
 rw [byteOf, List.getElem?_eq_getElem hi, hg] at this
 simp only [inB, Option.getD_some, Bool.and_eq_true, decide_eq_true_eq] at this
 omega
theorem names_at {l : Rows} {m : Int} (h : namesOk l m = true) {i : Nat} (hi : i < l.length) : nameOk (cT (row_ l i) 0) = true := by
 simp only [namesOk, keysB, Bool.and_eq_true, allN_iff] at h
 exact (h.1 i hi).1
theorem val_nl : ∀ (d : Nat) (v : Row), 0 < valSz d v → ∀ c ∈ (vTxt d v).toList, c ≠ 10
 | 0, v, h => by simp [valSz] at h
 | d + 1, v, h => by
  intro c hc
  have hk := (valAt h).kids
  have kid : ∀ i, i < (cR v 4).length → ∀ c ∈ (vTxt d (row_ (cR v 4) i)).toList, c ≠ 10 := fun i hi => val_nl d _ (hk _ (row_mem hi))
  rcases shape_kind (valAt h).shape with h1 | h2 | h3 | h4 | h5
  ·have ht := (shape_text (valAt h).shape h1).2
   rw [vTxt1 h1] at hc
   rcases List.mem_cons.1 hc with rfl | hc
   ·decide
   ·rcases List.mem_append.1 hc with hc | hc
    ·obtain ⟨b, hb, hc⟩ := List.mem_flatMap.1 hc
     have hb := text_hi ht b hb
     unfold esc at hc
     split at hc
     ·simp only [List.mem_cons, List.not_mem_nil, or_false] at hc
      rcases hc with rfl | rfl
      ·decide
      ·intro e; rw [e] at hb; simp at hb
     ·simp only [List.mem_cons, List.not_mem_nil, or_false] at hc
      subst hc
      intro e; rw [e] at hb; simp at hb
    ·simp at hc; subst hc; decide
  ·rw [vTxt2 h2] at hc
   exact dec_nl hc
  ·rw [vTxt3 h3] at hc
   intro e
   subst e
   cases h : cN v 2 == 1 <;> simp [h] at hc
  ·rw [vTxt4 h4] at hc
   rcases List.mem_cons.1 hc with rfl | hc
   ·decide
   ·rcases List.mem_append.1 hc with hc | hc
    ·rcases jt_mem _ _ hc with rfl | ⟨i, hi, hc⟩
     ·decide
     ·rw [Nat.zero_add, kidL4 h4] at hc
      exact kid i hi c hc
    ·simp at hc; subst hc; decide
  ·obtain ⟨hl, hn⟩ := shape_keys (valAt h).shape h5
   rw [vTxt5 h5] at hc
   rcases List.mem_cons.1 hc with rfl | hc
   ·decide
   ·rcases List.mem_append.1 hc with hc | hc
    ·rcases jt_mem _ _ hc with rfl | ⟨i, hi, hc⟩
     ·decide
     ·rw [Nat.zero_add, kidL5 h5] at hc
      rcases List.mem_append.1 hc with hc | hc
      ·exact (nameCh_ne ((name_ch (names_at hn (by omega))).1 c hc)).2.2.2.2.2.2.1
      ·rcases List.mem_cons.1 hc with rfl | hc
       ·decide
       ·exact kid i hi c hc
    ·simp at hc; subst hc; decide
def linesT (ls : List (List UInt8)) : List UInt8 := ls.flatMap fun l => l ++ [10]
theorem linesT_cons (a : List UInt8) (b : List (List UInt8)) : linesT (a :: b) = a ++ 10 :: linesT b := by simp [linesT]
theorem spl_lines : ∀ {ls : List (List UInt8)}, (∀ l ∈ ls, (10 : UInt8) ∉ l) → spl 10 (linesT ls) = ls ++ [[]]
 | [], _ => rfl
 | l :: ls, h => by rw [linesT_cons, spl_mid (h l (by simp)), spl_lines fun x hx => h x (by simp [hx])]; rfl
theorem spl_snoc (c : UInt8) : ∀ x : List UInt8, spl c (x ++ [c]) = spl c x ++ [[]]
 | [] => by simp [spl]
 | b :: l => by
  have ih := spl_snoc c l
  obtain ⟨y, ys, e⟩ := spl_ne c l
  simp only [List.cons_append, spl, ih, e]
  split <;> rfl
theorem lines_end : ∀ {ls : List (List UInt8)}, ls ≠ [] → ∃ x, linesT ls = x ++ [10]
 | [l], _ => ⟨l, by simp [linesT]⟩
 | l :: m :: ls, _ => by
  obtain ⟨x, e⟩ := lines_end (ls := m :: ls) (by simp)
  exact ⟨l ++ 10 :: x, by rw [linesT_cons, e]; simp⟩
theorem spl_suf {ls : List (List UInt8)} (hn : ls ≠ []) (h : ∀ l ∈ ls, (10 : UInt8) ∉ l) : spl 10 (Lib.trimSuffix (linesT ls) [10]) = ls := by
 obtain ⟨x, e⟩ := lines_end hn
 have e2 := spl_lines h
 rw [e, spl_snoc] at e2
 rw [e, suf_end]
 exact List.append_cancel_right e2
def sp : ByteArray := ({ data := #[32] } : ByteArray)
def nl : ByteArray := ({ data := #[10] } : ByteArray)
theorem sp_list : sp.toList = [32] := lit_list 32
theorem nl_list : nl.toList = [10] := lit_list 10
def digV : List UInt8 → Nat → Option Nat
 | [], x => some x
 | c :: l, x => bif isDg c then digV l (x * 10 + (c.toNat - 48)) else none
def numG (l : List UInt8) : Bool := decide (1 ≤ l.length) && decide (l.length ≤ 9) && !(decide (1 < l.length) && (l[0]?.getD 0 == 48))
def numL (l : List UInt8) : Option Nat := bif numG l then digV l 0 else none
end Go.Am
/- AM: texts of patches, line by line. Nothing is assumed. -/
namespace Go.Am
set_option linter.unusedVariables false
def stepOk (s : ByteArray) : Bool := nameOk s || (numL s.toList).isSome
def pathOk (l : Rows) : Bool := allN l.length (fun i => stepOk (cT (row_ l i) 0)) && inB (l.length : Int) 1 5
def slash : ByteArray := ({ data := #[47] } : ByteArray)
def steps (l : Rows) : List ByteArray := l.map fun r => cT r 0
def pathB (l : Rows) : ByteArray := joinS (steps l) slash
def pathL (l : Rows) : List UInt8 := Lib.join ((steps l).map ByteArray.toList) [47]
theorem pathB_list (l : Rows) : (pathB l).toList = pathL l := by
 unfold pathB pathL joinS
 rw [bOf_list]
 congr 1
 exact List.map_congr_left fun x _ => (ByteArray.toList_eq x).symm
theorem joinS_snoc (sep : ByteArray) (l : List ByteArray) (x : ByteArray) : joinS (l ++ [x]) sep = (bif l.isEmpty then x else joinS l sep ++ sep ++ x) := by
 cases l with
 | nil => simp only [joinS, List.nil_append, List.map_cons, List.map_nil, Lib.join_one, List.isEmpty_nil, cond_true]
 | cons y l =>
  simp only [joinS, List.cons_append, List.map_cons, List.map_append, List.map_nil, Lib.join_cons, join_tail_snoc, List.isEmpty_cons, cond_false]
  apply ByteArray.ext
  simp [bOf, ByteArray.data_append]
theorem joinS_size {sep : ByteArray} (hs : sep.size = 1) : ∀ l : List ByteArray, (joinS l sep).size ≤ sumB l := by
 intro l
 induction h : l.length generalizing l with
 | zero => cases l with
  | nil =>
   show (bOf (Lib.join [] sep.data.toList)).size ≤ 0
   rw [Lib.join_nil]
   exact Nat.le_refl 0
  | cons => simp at h
 | succ n ih =>
  obtain ⟨r, x, rfl⟩ : ∃ r x, l = r ++ [x] := ⟨l.dropLast, l.getLast (by intro e; simp [e] at h), (List.dropLast_concat_getLast _).symm⟩
  have := ih r (by simpa using h)
  rw [joinS_snoc]
  cases r.isEmpty with
  | true => simp [sumB]; omega
  | false => simp only [cond_false, ByteArray.size_append, sumB, List.map_append, List.sum_append] at *; simp; omega
theorem spl_join {c : UInt8} : ∀ {r : List (List UInt8)} {x : List UInt8}, c ∉ x → (∀ y ∈ r, c ∉ y) → spl c (x ++ Lib.joinTail [c] r) = x :: r
 | [], x, h, _ => by rw [show Lib.joinTail [c] [] = [] from rfl, List.append_nil, spl_end h]
 | y :: r, x, h, h' => by
  have e : Lib.joinTail [c] (y :: r) = c :: (y ++ Lib.joinTail [c] r) := by simp [Lib.joinTail]
  rw [e, spl_mid h, spl_join (h' y (by simp)) fun z hz => h' z (by simp [hz])]
theorem digV_dg : ∀ (l : List UInt8) (x : Nat), (digV l x).isSome = true → ∀ c ∈ l, isDg c = true
 | [], _, _, c, hc => by cases hc
 | d :: l, x, h, c, hc => by
  rw [digV] at h
  cases hd : isDg d with
  | false => rw [hd] at h; cases h
  | true =>
   rw [hd, cond_true] at h
   rcases List.mem_cons.1 hc with rfl | hc
   ·exact hd
   ·exact digV_dg l _ h c hc
theorem step_ch {s : ByteArray} (h : stepOk s = true) : (∀ c ∈ s.toList, c ≠ 10 ∧ c ≠ 32 ∧ c ≠ 47) ∧ 1 ≤ s.toList.length ∧ s.toList.length ≤ 20 := by
 unfold stepOk at h
 rw [Bool.or_eq_true] at h
 rcases h with h | h
 ·obtain ⟨h1, h2, h3⟩ := name_ch h
  refine ⟨fun c hc => ?_, h2, h3⟩
  have := nameCh_ne (h1 c hc)
  exact ⟨this.2.2.2.2.2.2.1, this.2.2.2.2.2.1, this.2.2.2.2.2.2.2.1⟩
 ·unfold numL at h
  cases hg : numG s.toList with
  | false => rw [hg] at h; cases h
  | true =>
   rw [hg, cond_true] at h
   refine ⟨fun c hc => dg_ne (digV_dg _ _ h c hc), ?_⟩
   simp only [numG, Bool.and_eq_true, decide_eq_true_eq] at hg
   omega
theorem path_at {l : Rows} (h : pathOk l = true) : 1 ≤ l.length ∧ l.length ≤ 5 ∧ ∀ s ∈ steps l, stepOk s = true := by
 simp only [pathOk, Bool.and_eq_true, allN_iff, inB, decide_eq_true_eq] at h
 refine ⟨by omega, by omega, fun s hs => ?_⟩
 obtain ⟨r, hr, rfl⟩ := List.mem_map.1 hs
 obtain ⟨i, hi⟩ := List.mem_iff_getElem?.1 hr
 have hlt := (List.getElem?_eq_some_iff.1 hi).1
 have := h.1 i hlt
 rwa [row_, hi] at this
theorem path_size {l : Rows} (h : pathOk l = true) : (pathB l).size ≤ 105 := by
 obtain ⟨_, h2, h3⟩ := path_at h
 have h4 := joinS_size (sep := slash) rfl (steps l)
 have key : ∀ q : List ByteArray, (∀ s ∈ q, stepOk s = true) → sumB q ≤ 21 * q.length := by
  intro q
  induction q with
  | nil => intro _; simp [sumB]
  | cons x q ih =>
   intro h
   have h1 := (step_ch (h x (by simp))).2.2
   have h2 := ih fun s hs => h s (by simp [hs])
   have e : x.toList.length = x.size := toList_length
   simp only [sumB, List.map_cons, List.sum_cons, List.length_cons] at *
   omega
 have h5 := key _ h3
 have e : (steps l).length = l.length := by simp [steps]
 have : (pathB l).size = (joinS (steps l) slash).size := rfl
 omega
theorem pathL_no {l : Rows} (h : pathOk l = true) : (∀ c ∈ pathL l, c ≠ 10 ∧ c ≠ 32) ∧ (pathL l ≠ []) ∧ spl 47 (pathL l) = (steps l).map ByteArray.toList := by
 obtain ⟨h1, _, h3⟩ := path_at h
 unfold pathL
 obtain ⟨x, r, e⟩ : ∃ x r, steps l = x :: r := by
  cases hs : steps l with
  | nil => have := congrArg List.length hs; simp [steps] at this; subst this; simp at h1
  | cons x r => exact ⟨x, r, rfl⟩
 rw [e] at h3 ⊢
 have hx := step_ch (h3 x (by simp))
 have hr : ∀ y ∈ r, ∀ c ∈ y.toList, c ≠ 10 ∧ c ≠ 32 ∧ c ≠ 47 := fun y hy => (step_ch (h3 y (by simp [hy]))).1
 rw [List.map_cons, Lib.join_cons]
 refine ⟨fun c hc => ?_, ?_, ?_⟩
 ·rcases List.mem_append.1 hc with hc | hc
  ·exact ⟨(hx.1 c hc).1, (hx.1 c hc).2.1⟩
  ·simp only [Lib.joinTail, List.map_map, List.mem_flatten, List.mem_map] at hc
   obtain ⟨_, ⟨y, hy, rfl⟩, hc⟩ := hc
   simp only [Function.comp, List.cons_append, List.nil_append, List.mem_cons] at hc
   rcases hc with rfl | hc
   ·decide
   ·exact ⟨(hr y hy c hc).1, (hr y hy c hc).2.1⟩
 ·intro hn
  have := congrArg List.length hn
  simp only [List.length_append, List.length_nil] at this
  omega
 ·refine spl_join (fun hc => (hx.1 _ hc).2.2 rfl) fun y hy hc => ?_
  obtain ⟨z, hz, rfl⟩ := List.mem_map.1 hy
  exact (hr z hz _ hc).2.2 rfl
def zeroV (v : Row) : Bool := cN v 0 == 0 && (bytesEq (cT v 1) ({ data := #[] } : ByteArray) && (cN v 2 == 0 && ((((cR v 3).length : Int) == 0) && (((cR v 4).length : Int) == 0))))
def opOk (o : Row) : Bool := inB (cN o 0) 1 3 && (pathOk (cR o 1) && (if cN o 0 = 2 then zeroV (o.drop 2) else valueOk (o.drop 2)))
def opsOk (l : Rows) : Bool := allN l.length (fun i => opOk (row_ l i)) && decide ((l.length : Int) ≤ 20)
def opWord (k : Int) : ByteArray := if k = 1 then ({ data := #[115, 101, 116, 32] } : ByteArray) else if k = 2 then ({ data := #[100, 114, 111, 112, 32] } : ByteArray) else ({ data := #[110, 101, 101, 100, 32] } : ByteArray)
def wordL' (k : Int) : List UInt8 := if k = 1 then [115, 101, 116] else if k = 2 then [100, 114, 111, 112] else [110, 101, 101, 100]
def opTail (o : Row) : ByteArray := bif cN o 0 == 2 then ByteArray.empty else sp ++ vTxt 6 (o.drop 2)
def opLine (o : Row) : ByteArray := opWord (cN o 0) ++ pathB (cR o 1) ++ opTail o ++ nl
def opsT (l : Rows) (a : ByteArray) : ByteArray := l.foldl (fun a x => a ++ opLine x) a
def opsTxt (l : Rows) : ByteArray := bif opsOk l then opsT l ByteArray.empty else ByteArray.empty
def tailL (o : Row) : List UInt8 := bif cN o 0 == 2 then [] else 32 :: (vTxt 6 (o.drop 2)).toList
def opL (o : Row) : List UInt8 := wordL' (cN o 0) ++ 32 :: (pathL (cR o 1) ++ tailL o)
theorem opWord_list (k : Int) : (opWord k).toList = wordL' k ++ [32] := by
 unfold opWord wordL'
 split
 ·rw [ByteArray.toList_eq]; rfl
 ·split <;> (rw [ByteArray.toList_eq]; rfl)
theorem opTail_list (o : Row) : (opTail o).toList = tailL o := by
 unfold opTail tailL
 cases cN o 0 == 2 with
 | true => rw [ByteArray.toList_eq]; rfl
 | false => simp only [cond_false, toList_app, sp_list]; rfl
theorem opLine_list (o : Row) : (opLine o).toList = opL o ++ [10] := by
 simp [opLine, opL, toList_app, opWord_list, pathB_list, opTail_list, nl_list]
theorem opsT_list : ∀ (l : Rows) (a : ByteArray), (opsT l a).toList = a.toList ++ linesT (l.map opL)
 | [], a => by simp [opsT, linesT]
 | x :: l, a => by
  have ih := opsT_list l (a ++ opLine x)
  rw [show opsT (x :: l) a = opsT l (a ++ opLine x) from rfl, ih, toList_app, opLine_list, List.map_cons, linesT_cons]
  simp
theorem empty_list : ByteArray.empty.toList = [] := by rw [ByteArray.toList_eq]; rfl
theorem ops_lines {l : Rows} (h : opsOk l = true) : (opsTxt l).toList = linesT (l.map opL) := by
 rw [opsTxt, h, cond_true, opsT_list, empty_list, List.nil_append]
theorem ops_at {l : Rows} (h : opsOk l = true) : l.length ≤ 20 ∧ ∀ x ∈ l, opOk x = true := by
 simp only [opsOk, Bool.and_eq_true, allN_iff, decide_eq_true_eq] at h
 refine ⟨by omega, fun x hx => ?_⟩
 obtain ⟨i, hi⟩ := List.mem_iff_getElem?.1 hx
 have := h.1 i (List.getElem?_eq_some_iff.1 hi).1
 rwa [row_, hi] at this
theorem wordL_no (k : Int) : (10 : UInt8) ∉ wordL' k ∧ (32 : UInt8) ∉ wordL' k := by
 unfold wordL'
 split
 ·decide
 ·split <;> decide
theorem op_parts {o : Row} (h : opOk o = true) : 1 ≤ cN o 0 ∧ cN o 0 ≤ 3 ∧ pathOk (cR o 1) = true ∧ (cN o 0 = 2 → zeroV (o.drop 2) = true) ∧ (cN o 0 ≠ 2 → 0 < valSz 6 (o.drop 2)) := by
 simp only [opOk, Bool.and_eq_true, inB, decide_eq_true_eq] at h
 refine ⟨h.1.1, h.1.2, h.2.1, fun e => ?_, fun e => ?_⟩
 ·have := h.2.2
  rwa [if_pos e] at this
 ·have := h.2.2
  rw [if_neg e] at this
  simpa [valueOk] using this
theorem opL_no {o : Row} (h : opOk o = true) : (10 : UInt8) ∉ opL o := fun hc => by
 obtain ⟨_, _, hp, _, hv⟩ := op_parts h
 rcases List.mem_append.1 hc with hc | hc
 ·exact (wordL_no _).1 hc
 ·rcases List.mem_cons.1 hc with hc | hc
  ·exact absurd hc (by decide)
  ·rcases List.mem_append.1 hc with hc | hc
   ·exact ((pathL_no hp).1 _ hc).1 rfl
   ·unfold tailL at hc
    by_cases h2 : cN o 0 = 2
    ·rw [h2] at hc; cases hc
    ·rw [show (cN o 0 == 2) = false from by simpa using h2, cond_false] at hc
     rcases List.mem_cons.1 hc with hc | hc
     ·exact absurd hc (by decide)
     ·exact val_nl 6 _ (hv h2) _ hc rfl
def kindW (w : List UInt8) : Int := if w = [115, 101, 116] then 1 else if w = [100, 114, 111, 112] then 2 else if w = [110, 101, 101, 100] then 3 else 0
theorem kindW_word {k : Int} (h1 : 1 ≤ k) (h3 : k ≤ 3) : kindW (wordL' k) = k := by
 have : k = 1 ∨ k = 2 ∨ k = 3 := by omega
 rcases this with rfl | rfl | rfl <;> decide
def stripW (l : List UInt8) : Int × List UInt8 :=
 if 4 < l.length ∧ l.take 4 = [115, 101, 116, 32] then (1, l.drop 4)
 else if 5 < l.length ∧ l.take 5 = [100, 114, 111, 112, 32] then (2, l.drop 5)
 else if 5 < l.length ∧ l.take 5 = [110, 101, 101, 100, 32] then (3, l.drop 5) else (0, l)
theorem stripW_word {k : Int} (h1 : 1 ≤ k) (h3 : k ≤ 3) {r : List UInt8} (hr : r ≠ []) : stripW (wordL' k ++ 32 :: r) = (k, r) := by
 have hl : 1 ≤ r.length := by cases r with | nil => exact absurd rfl hr | cons => simp
 have : k = 1 ∨ k = 2 ∨ k = 3 := by omega
 rcases this with rfl | rfl | rfl
 ·rw [show wordL' 1 = [115, 101, 116] from rfl]
  simp [stripW]; omega
 ·rw [show wordL' 2 = [100, 114, 111, 112] from rfl]
  simp [stripW]; omega
 ·rw [show wordL' 3 = [110, 101, 101, 100] from rfl]
  simp [stripW]; omega
end Go.Am
