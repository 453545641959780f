/- The abstract machine AM, part G: what it computes keeps the contracts of the program. Nothing is assumed. -/
import Derived.Test.YtmgeoejefnablaaGreatDoorAmD
import Derived.Below
import Derived.Lib.Join
import Derived.Lib.IndexAny
import Derived.Lib.Strings
import Derived.Lib.ReplaceLaws
import Derived.Lib.SplitLaws
import Derived.Lib.IndexBytes
set_option linter.unusedVariables false
set_option linter.unusedSimpArgs false
/- AM: library functions on strings by contracts that stand already. Nothing is assumed. -/
namespace Go.Am
open Go.RowKit (Below)
theorem B9r {X : Nat → Prop} {w : World} {Z : Nat → Prop} {is : List I} : ∀ {vs : List Value} {c : List Nat}, ArgsRel X w Z (List.replicate is.length .rd) is vs c → IFroL X w Z is vs ∧ c = [] := by
 induction is with
 | nil => intro vs c h; cases h; exact ⟨.nil, rfl⟩
 | cons i is ih =>
  intro vs c h
  cases h with
  | rd h h' =>
   obtain ⟨h1, h2⟩ := ih h'
   exact ⟨.cons h h1, h2⟩
theorem BackRel.rds {X : Nat → Prop} {w : World} : ∀ {vs : List Value}, BackRel X w (List.replicate vs.length .rd) vs [] []
 | [] => .nil
 | _ :: _ => .rd BackRel.rds
theorem WInv.below {w w' : World} {Z : Nat → Prop} (hw : WInv w [] Z w []) (hb : Below w.heap.size w w') : WInv w [] Z w' [] :=
 ⟨by simp, by simp, hw.zlt, hb.size, by simp, fun b h _ => hb.block b h, ⟨hb.os, hb.output, hb.tape⟩, fun b cs el fz h => ⟨cs, by rw [hb.block b (Array.getElem?_eq_some_iff.1 h).1]; exact h, rfl⟩⟩
theorem X4 {P : Program} {fn : Nat} {f : Func} {c : Code} {vs : Array Value} {w : World} {R : Ending → World → Prop} (hf : P.funcs[fn]? = some f) (hb : f.body = some c) (hname : (f.name == "runtime.NumGoroutine") = false) (h : Calls P fn vs w R) : CallsF P fn vs w R := by
 have hname' : f.name ≠ "runtime.NumGoroutine" := by simpa using hname
 exact .inl ⟨by simp [callFunc, hf, hname', hb], h⟩
theorem CallsF.mono {P : Program} {fn : Nat} {vs : Array Value} {w : World} {R R' : Ending → World → Prop} (h : CallsF P fn vs w R) (hR : ∀ e w', R e w' → R' e w') : CallsF P fn vs w R' := by
 rcases h with ⟨h1, h2⟩ | ⟨v, w', h1, h2⟩
 ·exact .inl ⟨h1, h2.mono hR⟩
 ·exact .inr ⟨v, w', h1, hR _ _ h2⟩
theorem C1g {K : Src} {P : Program} {sg : Sigs} {fn : Nat} {is : List I} {r : I} (hs : sg fn = none)
  (h : ∀ (w : World) (Z : Nat → Prop) (vs : List Value), Pin P K Z w → IFroL sg.X w Z is vs → CallsF P fn vs.toArray w fun e w' => ∃ v, e = .returned v ∧ IOwn sg.X w' r v [] ∧ Below w.heap.size w w') : Sat P sg K fn is ⟨r, []⟩ := by
 intro w Z vs cin hp ha hw
 have hm : sg.modes fn is.length = List.replicate is.length .rd := by simp [Sigs.modes, hs]
 rw [hm] at ha ⊢
 obtain ⟨hi, rfl⟩ := B9r ha
 refine (h w Z vs hp hi).mono fun e w' ⟨v, he, hr, hb⟩ => ⟨v, [], [], he, hr, ?_, hw.below hb⟩
 have : is.length = vs.length := ha.lengths.2.symm
 rw [this]
 exact BackRel.rds
def J6 (n : Nat) (f : List I → Option I) : Table := fun fn is => bif Nat.beq fn n then (f is).map fun r => ⟨r, []⟩ else none
theorem A12 {K : Src} {P : Program} {sg : Sigs} {n : Nat} {f : List I → Option I} (hs : sg n = none)
  (h : ∀ is r, f is = some r → ∀ (w : World) (Z : Nat → Prop) (vs : List Value), Pin P K Z w → IFroL sg.X w Z is vs → CallsF P n vs.toArray w fun e w' => ∃ v, e = .returned v ∧ IOwn sg.X w' r v [] ∧ Below w.heap.size w w') (h0 : Nat.beq 0 n = false := by rfl) : Good P sg K (J6 n f) := by
 refine ⟨fun fn is o ho => ?_, fun mk b m c i o h => by simp [J6, h0] at h⟩
 unfold J6 at ho
 cases hb : Nat.beq fn n with
 | false => simp [hb] at ho
 | true =>
  have := Nat.eq_of_beq_eq_true hb
  subst this
  simp only [hb, cond_true, Option.map_eq_some_iff] at ho
  obtain ⟨r, hr, rfl⟩ := ho
  exact C1g hs (h is r hr)
theorem B8p {X : Nat → Prop} {w : World} {Z : Nat → Prop} {s : ByteArray} {v : Value} (h : IFro X w Z (.d (.v (.string s))) v) : v = .string s := by
 cases h with | d h => cases h with | v h => rfl
theorem B6g {X : Nat → Prop} {w : World} {Z : Nat → Prop} {a : ByteArray} {vs : List Value} (h : IFroL X w Z [.d (.v (.string a))] vs) : vs = [.string a] := by
 cases h with
 | cons h h' => cases h'; rw [B8p h]
theorem A2k {X : Nat → Prop} {w : World} {Z : Nat → Prop} {a b : ByteArray} {vs : List Value} (h : IFroL X w Z [.d (.v (.string a)), .d (.v (.string b))] vs) : vs = [.string a, .string b] := by
 cases h with
 | cons h h' => rw [B8p h, B6g h']
theorem C3g {X : Nat → Prop} {w : World} {Z : Nat → Prop} {a b c : ByteArray} {vs : List Value} (h : IFroL X w Z [.d (.v (.string a)), .d (.v (.string b)), .d (.v (.string c))] vs) : vs = [.string a, .string b, .string c] := by
 cases h with
 | cons h h' => rw [B8p h, A2k h']
theorem A31 {X : Nat → Prop} {w : World} {s : ByteArray} : IOwn X w (.d (.v (.string s))) (.string s) [] := .d (.v trivial)
theorem C7g {X : Nat → Prop} {w : World} {b : Bool} : IOwn X w (.d (.v (.bool b))) (.bool b) [] := .d (.v trivial)
theorem C7h {X : Nat → Prop} {w : World} {k : IntKind} {n : Int} : IOwn X w (.d (.v (.int k n))) (.int k n) [] := .d (.v trivial)
theorem D0e {X : Nat → Prop} {w : World} {s : ByteArray} {b : Bool} : IOwn X w (.t [.d (.v (.string s)), .d (.v (.bool b))]) (.tuple #[.string s, .bool b]) [] := .t (.cons A31 (c' := []) (.cons C7g (c' := []) .nil))
theorem C6o {X : Nat → Prop} {w : World} {s t : ByteArray} {b : Bool} : IOwn X w (.t [.d (.v (.string s)), .d (.v (.string t)), .d (.v (.bool b))]) (.tuple #[.string s, .string t, .bool b]) [] :=
 .t (.cons A31 (c' := []) (.cons A31 (c' := []) (.cons C7g (c' := []) .nil)))
theorem A2l {w : World} : Below w.heap.size w w := Below.refl _ _
theorem Pin.cell {K : Src} {P : Program} {Z : Nat → Prop} {w : World} {g : Nat} {Q : Value → Prop} (h : Pin P K Z w) (hg : g < P.globals.size) (hc : ∀ wt : World, wt.ShapedOpen P → ∃ v, wt.cell? ⟨g, 0, none⟩ = some v ∧ Q v) : ∃ v, w.cell? ⟨g, 0, none⟩ = some v ∧ Q v := by
 obtain ⟨⟨wt, h1, h2⟩, _⟩ := h
 obtain ⟨v, h3, h4⟩ := hc wt h1
 have hl : g < wt.heap.size := World.block_lt_of_cell? wt ⟨g, 0, none⟩ h3
 obtain ⟨_, h5⟩ := h2 g hg hl
 refine ⟨v, ?_, h4⟩
 unfold World.cell? at *
 simp only [h5]
 exact h3
abbrev bOf (l : List UInt8) : ByteArray := ⟨l.toArray⟩
def B4b (s old new : ByteArray) : ByteArray := bOf (Lib.replaceAll s.data.toList old.data.toList new.data.toList)
def B2v (s old new : ByteArray) : Bool := decide (s.size < 4294967281) && decide (1 ≤ old.size) && decide (s.size + Lib.countB s old * new.size ≤ 140737488355328)
def V4 : List I → Option I
 | [.d (.v (.string s)), .d (.v (.string old)), .d (.v (.string new))] => bif B2v s old new then some (.d (.v (.string (B4b s old new)))) else none
 | _ => none
theorem B4c {K : Src} {P : Program} {sg : Sigs} {n g : Nat} {f : Func} {c : Code} (hs : sg n = none) (hf : P.funcs[n]? = some f) (hb : f.body = some c) (hname : (f.name == "runtime.NumGoroutine") = false) (hg : g < P.globals.size)
  (hc : ∀ wt : World, wt.ShapedOpen P → ∃ m : Int, wt.cell? ⟨g, 0, none⟩ = some (.int .i64 m))
  (h : ∀ (s old new : ByteArray) (m : Int) (w : World), s.size < 4294967281 → w.cell? ⟨g, 0, none⟩ = some (.int .i64 m) → 1 ≤ old.size → s.size + Lib.countB s old * new.size ≤ 140737488355328 →
   Calls P n #[.string s, .string old, .string new] w fun e w' => e = .returned (.string ⟨(Lib.replaceAll s.data.toList old.data.toList new.data.toList).toArray⟩) ∧ Below w.heap.size w w') (h0 : Nat.beq 0 n = false := by rfl) : Good P sg K (J6 n V4) :=
 A12 (h0 := h0) hs fun is r hr w Z vs hp hi => by
  unfold V4 at hr
  split at hr
  ·rename_i s old new
   cases hk : B2v s old new with
   | false => simp [hk] at hr
   | true =>
    simp only [hk, cond_true, Option.some.injEq] at hr
    subst hr
    simp only [B2v, Bool.and_eq_true, decide_eq_true_eq] at hk
    rw [C3g hi]
    obtain ⟨v, h1, m, rfl⟩ := hp.cell (Q := fun v => ∃ m : Int, v = .int .i64 m) hg fun wt h => by obtain ⟨m, hm⟩ := hc wt h; exact ⟨_, hm, m, rfl⟩
    exact X4 hf hb hname ((h s old new m w hk.1.1 h1 hk.1.2 hk.2).mono fun e w' ⟨he, hb⟩ => ⟨_, he, A31, hb⟩)
  ·simp at hr
def strsOf : Rows → Option (List ByteArray)
 | [] => some []
 | [.v (.string s)] :: l => (strsOf l).map fun r => s :: r
 | _ => none
def B0x (xs : List ByteArray) (sep : ByteArray) : ByteArray := bOf (Lib.join (xs.map (·.data.toList)) sep.data.toList)
def B0y (xs : List ByteArray) (sep : ByteArray) : Bool := decide (xs.length ≤ 140737488355328) && decide ((B0x xs sep).size ≤ 140737488355328)
def A4j : List I → Option I
 | [.d (.s 1 rows), .d (.v (.string sep))] => match strsOf rows with
  | some xs => bif B0y xs sep then some (.d (.v (.string (B0x xs sep)))) else none
  | none => none
 | _ => none
theorem B6h {rows : Rows} : ∀ {xs : List ByteArray}, strsOf rows = some xs → rows = xs.map fun s => [D.v (.string s)] := by
 induction rows with
 | nil => intro xs h; simp only [strsOf, Option.some.injEq] at h; subst h; rfl
 | cons r l ih =>
  intro xs h
  unfold strsOf at h
  split at h
  ·rename_i e; cases e
  ·rename_i s l' e
   cases e
   simp only [Option.map_eq_some_iff] at h
   obtain ⟨ys, h1, rfl⟩ := h
   rw [ih h1]
   rfl
  ·simp at h
theorem B6i {w : World} {Z : Nat → Prop} : ∀ {xs : List ByteArray} {vs : List Value}, FroL w Z (xs.map fun s => [D.v (.string s)]).flatten vs → vs = xs.map Value.string
 | [], _, h => by cases h; rfl
 | x :: xs, _, h => by
  cases h with
  | cons h h' => cases h with | v h => rw [B6i h']; rfl
theorem C1h {K : Src} {P : Program} {sg : Sigs} {n : Nat} {f : Func} {c : Code} (hs : sg n = none) (hf : P.funcs[n]? = some f) (hb : f.body = some c) (hname : (f.name == "runtime.NumGoroutine") = false)
  (hz0 : ∀ (a : Option Addr) (c : Nat) (sep : ByteArray) (w : World), Calls P n #[.slice a 0 c, .string sep] w fun e w' => e = .returned (.string ⟨#[]⟩) ∧ w' = w)
  (h : ∀ (bk o c : Nat) (xs : List ByteArray) (sep : ByteArray) (w : World), (∀ (j : Nat) x, xs[j]? = some x → w.cell? ⟨bk, o + j, none⟩ = some (.string x)) → bk < w.heap.size → xs.length ≤ 140737488355328 → xs.length ≤ c → (Lib.join (xs.map (·.data.toList)) sep.data.toList).length ≤ 140737488355328 →
   Calls P n #[.slice (some ⟨bk, o, none⟩) xs.length c, .string sep] w fun e w' => e = .returned (.string ⟨(Lib.join (xs.map (·.data.toList)) sep.data.toList).toArray⟩) ∧ Below w.heap.size w w') (h0 : Nat.beq 0 n = false := by rfl) : Good P sg K (J6 n A4j) :=
 A12 (h0 := h0) hs fun is r hr w Z vs hp hi => by
  unfold A4j at hr
  split at hr
  ·rename_i rows sep
   split at hr
   ·rename_i xs hx
    cases hk : B0y xs sep with
    | false => simp [hk] at hr
    | true =>
     simp only [hk, cond_true, Option.some.injEq] at hr
     subst hr
     simp only [B0y, Bool.and_eq_true, decide_eq_true_eq] at hk
     have hrow := B6h hx
     cases hi with
     | cons h1 h2 =>
      rw [B6g h2]
      cases h1 with
      | d h1 =>
       cases h1 with
       | z =>
        have : xs = [] := by cases xs with | nil => rfl | cons => simp at hrow
        subst this
        exact X4 hf hb hname ((hz0 _ _ _ _).mono fun e w' ⟨he, hb⟩ => ⟨_, he, A31, hb ▸ A2l⟩)
       | @s _ b off cap _ us hw hc hz hh hl =>
        subst hrow
        have hus := B6i hl
        subst hus
        obtain ⟨cs, el, fz, g1, g2⟩ := hh
        have hlen : (xs.map fun s => [D.v (.string s)]).length = xs.length := by simp
        rw [hlen] at hc ⊢
        refine X4 hf hb hname ((h b off cap xs sep w (fun j x hj => ?_) (Array.getElem?_eq_some_iff.1 g1).1 hk.1 hc (by simpa [B0x, bOf, ByteArray.size] using hk.2)).mono fun e w' ⟨he, hb⟩ => ⟨_, he, A31, hb⟩)
        have := g2 j (.string x) (by simp [hj])
        simp [World.cell?, g1, this]
   ·simp at hr
  ·simp at hr
def A9d (s p : ByteArray) : Bool := Lib.hasPrefix s.data.toList p.data.toList
def A1f (s p : ByteArray) : ByteArray := bOf (Lib.trimPrefix s.data.toList p.data.toList)
def A9e : List I → Option I
 | [.d (.v (.string s)), .d (.v (.string p))] => some (.t [.d (.v (.string (A1f s p))), .d (.v (.bool (A9d s p)))])
 | _ => none
theorem C3h {K : Src} {P : Program} {sg : Sigs} {n : Nat} {f : Func} {c : Code} (hs : sg n = none) (hf : P.funcs[n]? = some f) (hb : f.body = some c) (hname : (f.name == "runtime.NumGoroutine") = false)
  (h : ∀ (s p : ByteArray) (w : World), Calls P n #[.string s, .string p] w fun e w' => e = .returned (.tuple #[.string ⟨(Lib.trimPrefix s.data.toList p.data.toList).toArray⟩, .bool (Lib.hasPrefix s.data.toList p.data.toList)]) ∧ w' = w) (h0 : Nat.beq 0 n = false := by rfl) : Good P sg K (J6 n A9e) :=
 A12 (h0 := h0) hs fun is r hr w Z vs hp hi => by
  unfold A9e at hr
  split at hr
  ·simp only [Option.some.injEq] at hr
   subst hr
   rw [A2k hi]
   exact X4 hf hb hname ((h _ _ w).mono fun e w' ⟨he, hw⟩ => ⟨_, he, D0e, hw ▸ A2l⟩)
  ·simp at hr
def A4k : List I → Option I
 | [.d (.v (.string s)), .d (.v (.string p))] => some (.d (.v (.string (A1f s p))))
 | _ => none
theorem C1i {K : Src} {P : Program} {sg : Sigs} {n : Nat} {f : Func} {c : Code} (hs : sg n = none) (hf : P.funcs[n]? = some f) (hb : f.body = some c) (hname : (f.name == "runtime.NumGoroutine") = false)
  (h : ∀ (s p : ByteArray) (w : World), Calls P n #[.string s, .string p] w fun e w' => e = .returned (.string ⟨(Lib.trimPrefix s.data.toList p.data.toList).toArray⟩) ∧ w' = w) (h0 : Nat.beq 0 n = false := by rfl) : Good P sg K (J6 n A4k) :=
 A12 (h0 := h0) hs fun is r hr w Z vs hp hi => by
  unfold A4k at hr
  split at hr
  ·simp only [Option.some.injEq] at hr
   subst hr
   rw [A2k hi]
   exact X4 hf hb hname ((h _ _ w).mono fun e w' ⟨he, hw⟩ => ⟨_, he, A31, hw ▸ A2l⟩)
  ·simp at hr
def scan (s : ByteArray) : Nat → Nat → Int
 | 0, _ => -1
 | f + 1, pos => if pos < s.size then (if (Utf8.decode s pos).1 < 128 ∧ 0 ≤ Lib.indexByte [44, 93, 125] (UInt8.ofNat (Utf8.decode s pos).1) then (pos : Int) else scan s f (pos + (Utf8.decode s pos).2)) else -1
theorem C3i (s : ByteArray) : ∀ f pos, -1 ≤ scan s f pos ∧ scan s f pos ≤ s.size := by
 intro f
 induction f with
 | zero => intro pos; simp [scan]
 | succ f ih =>
  intro pos
  simp only [scan]
  split
  ·split
   ·omega
   ·exact ih _
  ·omega
def asciiB (s : ByteArray) : Bool := s.data.toList.all fun b => decide (b.toNat < 128)
def anyIx (s : ByteArray) : Int := bif asciiB s || decide (8 < s.size) then Lib.indexAny s.data.toList [44, 93, 125] else scan s s.size 0
theorem A49 (c : List UInt8) : ∀ l : List UInt8, -1 ≤ Lib.indexAny l c ∧ Lib.indexAny l c ≤ l.length
 | [] => by simp [Lib.indexAny]
 | b :: l => by
  have ih := A49 c l
  unfold Lib.indexAny
  simp only [List.length_cons]
  split
  ·omega
  ·split
   ·omega
   ·omega
theorem C1j (s : ByteArray) : -1 ≤ anyIx s ∧ anyIx s ≤ s.size := by
 unfold anyIx
 cases asciiB s || decide (8 < s.size) with
 | true =>
  have := A49 [44, 93, 125] s.data.toList
  have e : s.data.toList.length = s.size := by rw [Array.length_toList]; rfl
  rw [e] at this
  exact this
 | false => exact C3i s _ _
theorem B0z {c : ByteArray} {l : List UInt8} (h : c.data.toList = l) : c = ⟨l.toArray⟩ := ByteArray.ext (by rw [← h])
def A9f : List I → Option I
 | [.d (.v (.string s)), .d (.v (.string c))] => bif c.data.toList == [58] then some (.d (.v (.int .i64 (Lib.indexAny s.data.toList [58])))) else (bif c.data.toList == [44, 93, 125] && decide (s.size < 4294967281) then some (.d (.v (.int .i64 (anyIx s)))) else none)
 | _ => none
theorem C3j {K : Src} {P : Program} {sg : Sigs} {n : Nat} {f : Func} {c : Code} (hs : sg n = none) (hf : P.funcs[n]? = some f) (hb : f.body = some c) (hname : (f.name == "runtime.NumGoroutine") = false)
  (h1 : ∀ (s : ByteArray) (w : World), Calls P n #[.string s, .string ⟨#[58]⟩] w fun e w' => e = .returned (.int .i64 (Lib.indexAny s.data.toList [58])) ∧ w' = w)
  (h2 : ∀ (s : ByteArray) (w : World), s.size < 4294967281 → Calls P n #[.string s, .string ⟨#[44, 93, 125]⟩] w fun e w' => e = .returned (.int .i64 (anyIx s)) ∧ Below w.heap.size w w') (h0 : Nat.beq 0 n = false := by rfl) : Good P sg K (J6 n A9f) :=
 A12 (h0 := h0) hs fun is r hr w Z vs hp hi => by
  unfold A9f at hr
  split at hr
  ·rename_i s c
   rw [A2k hi]
   cases e1 : c.data.toList == [58] with
   | true =>
    have := B0z (eq_of_beq e1)
    subst this
    simp only [e1, cond_true, Option.some.injEq] at hr
    subst hr
    exact X4 hf hb hname ((h1 _ w).mono fun e w' ⟨he, hw⟩ => ⟨_, he, C7h, hw ▸ A2l⟩)
   | false =>
    simp only [e1, cond_false] at hr
    cases e2 : c.data.toList == [44, 93, 125] && decide (s.size < 4294967281) with
    | true =>
     simp only [e2, cond_true, Option.some.injEq] at hr
     subst hr
     simp only [Bool.and_eq_true, decide_eq_true_eq] at e2
     have := B0z (eq_of_beq e2.1)
     subst this
     exact X4 hf hb hname ((h2 _ w e2.2).mono fun e w' ⟨he, hw⟩ => ⟨_, he, C7h, hw⟩)
    | false => simp [e2] at hr
  ·simp at hr
end Go.Am
/- AM: the text of a value, as both programs write it. Nothing is assumed. -/
namespace Go.Am
def A8f (c : UInt8) (new : List UInt8) (b : UInt8) : List UInt8 := if b = c then new else [b]
def esc (b : UInt8) : List UInt8 := if b = 34 ∨ b = 92 then [92, b] else [b]
theorem C7i (c : UInt8) (new : List UInt8) : ∀ s : List UInt8, Lib.replaceK [c] new (s.count c) s = s.flatMap (A8f c new)
 | [] => rfl
 | b :: l => by
  have ih := C7i c new l
  by_cases hb : b = c
  ·subst hb
   have hi : Lib.index (b :: l) [b] = 0 := by rw [Lib.index_one]; simp [Lib.indexByte]
   rw [List.count_cons_self, Lib.replaceK_hit [b] new _ _ 0 hi]
   simp [ih, A8f]
  ·rw [List.count_cons_of_ne hb]
   cases hk : l.count c with
   | zero =>
    rw [hk] at ih
    simp only [Lib.replaceK] at ih ⊢
    simp only [List.flatMap_cons, ← ih, A8f, hb, if_false, List.singleton_append]
   | succ k =>
    rw [hk] at ih
    obtain ⟨j, hj⟩ := Lib.index_of_count (s := l) (old := [c]) (by rw [Lib.count_one]; omega)
    have hi : Lib.index (b :: l) [c] = ((j + 1 : Nat) : Int) := by
     rw [Lib.index_one] at hj ⊢
     have hbc : (b == c) = false := by simpa using hb
     simp only [Lib.indexByte, hbc, hj]
     have : ((j : Int) == -1) = false := by simp
     simp [this]
    rw [Lib.replaceK_hit [c] new k _ (j + 1) hi]
    rw [Lib.replaceK_hit [c] new k _ j hj] at ih
    simp only [List.take_succ_cons, List.length_singleton, List.drop_succ_cons, List.cons_append, List.flatMap_cons, ← ih, A8f, hb, if_false, List.singleton_append]
    simp
theorem B4d {c : UInt8} {new : List UInt8} (hne : [c] ≠ new) (s : List UInt8) : Lib.replaceAll s [c] new = s.flatMap (A8f c new) := by
 have h : ([c] == new) = false := by simpa using hne
 simp only [Lib.replaceAll, Lib.replace, h, Lib.replaceNum, Lib.count_one]
 simp [C7i]
theorem C6p (s : List UInt8) : (s.flatMap (A8f 92 [92, 92])).flatMap (A8f 34 [92, 34]) = s.flatMap esc := by
 induction s with
 | nil => rfl
 | cons b l ih =>
  simp only [List.flatMap_cons, List.flatMap_append, ih]
  congr 1
  unfold A8f esc
  by_cases h1 : b = 92
  ·subst h1; rfl
  ·by_cases h2 : b = 34
   ·subst h2; rfl
   ·simp [h1, h2]
def C3k (s : ByteArray) : List UInt8 := 34 :: (s.data.toList.flatMap esc ++ [34])
def B4e (s : ByteArray) : ByteArray := bOf (C3k s)
theorem B9s (b : UInt8) : (esc b).length ≤ 2 := by unfold esc; split <;> simp
theorem A7o {f : UInt8 → List UInt8} (hf : ∀ b, (f b).length ≤ 2) : ∀ s : List UInt8, (s.flatMap f).length ≤ 2 * s.length
 | [] => by simp
 | b :: l => by
  have := A7o hf l
  have := hf b
  simp only [List.flatMap_cons, List.length_append, List.length_cons]
  omega
theorem J8 (l : List UInt8) : (bOf l).size = l.length := by simp [bOf, ByteArray.size]
theorem C3l {s : ByteArray} : (B4e s).size ≤ 2 * s.size + 2 := by
 have h := A7o B9s s.data.toList
 have e : s.data.toList.length = s.size := by rw [Array.length_toList]; rfl
 simp only [B4e, J8, C3k, List.length_cons, List.length_append, List.length_nil]
 omega
def comma : ByteArray := ⟨#[44]⟩
def J (l : List ByteArray) : ByteArray := B0x l comma
theorem C3m : J [] = ByteArray.empty := rfl
theorem B12 (sep x : List UInt8) : ∀ r : List (List UInt8), Lib.joinTail sep (r ++ [x]) = Lib.joinTail sep r ++ (sep ++ x) := by
 intro r; simp [Lib.joinTail]
theorem B8q (l : List ByteArray) (x : ByteArray) : J (l ++ [x]) = (bif l.isEmpty then x else J l ++ comma ++ x) := by
 cases l with
 | nil =>
  simp only [J, B0x, List.nil_append, List.map_cons, List.map_nil, Lib.join_one, List.isEmpty_nil, cond_true]
 | cons y l =>
  simp only [J, B0x, List.cons_append, List.map_cons, List.map_append, List.map_nil, Lib.join_cons, B12, List.isEmpty_cons, cond_false]
  apply ByteArray.ext
  simp [bOf, ByteArray.data_append, comma]
def B8r (l : List ByteArray) : Nat := (l.map fun x => x.size + 1).sum
theorem D0f : ∀ l : List ByteArray, (J l).size ≤ B8r l := by
 intro l
 induction h : l.length generalizing l with
 | zero => cases l with
  | nil => simp [C3m, B8r]
  | cons => simp at h
 | succ n ih =>
  obtain ⟨r, x, rfl⟩ : ∃ r x, l = r ++ [x] := ⟨l.dropLast, l.getLast (by intro e; simp [e] at h), (List.dropLast_concat_getLast _).symm⟩
  have := ih r (by simpa using h)
  rw [B8q]
  have hc : comma.size = 1 := rfl
  cases r.isEmpty with
  | true => simp [B8r]; omega
  | false => simp only [cond_false, ByteArray.size_append, B8r, List.map_append, List.sum_append] at *; simp; omega
def colon : ByteArray := ⟨#[58]⟩
def trueS : ByteArray := ⟨#[116, 114, 117, 101]⟩
def falseS : ByteArray := ⟨#[102, 97, 108, 115, 101]⟩
def A3b (f : Row → ByteArray) (v : Row) (i : Nat) : ByteArray := bif cN v 0 == 5 then cT (J4 (cR v 3) i) 0 ++ colon ++ f (J4 (cR v 4) i) else f (J4 (cR v 4) i)
def L9 (f : Row → ByteArray) (v : Row) (n : Nat) : List ByteArray := (List.range n).map (A3b f v)
def I6 : Nat → Row → ByteArray
 | 0, _ => ByteArray.empty
 | d + 1, v => bif cN v 0 == 1 then B4e (cT v 1) else (bif cN v 0 == 2 then J3 (cN v 2) else (bif cN v 0 == 3 then (bif cN v 2 == 1 then trueS else falseS) else
  (bif cN v 0 == 5 then ⟨#[123]⟩ ++ J (L9 (I6 d) v (cR v 4).length) ++ ⟨#[125]⟩ else ⟨#[91]⟩ ++ J (L9 (I6 d) v (cR v 4).length) ++ ⟨#[93]⟩)))
theorem A1u {f : Row → ByteArray} {v : Row} {n : Nat} : L9 f v (n + 1) = L9 f v n ++ [A3b f v n] := by simp [L9, List.range_succ]
theorem B21 {f : Row → ByteArray} {v : Row} {n : Nat} : (L9 f v n).isEmpty = (n == 0) := by
 cases n with
 | zero => rfl
 | succ n => simp [A1u]
theorem C1k {f : Row → Int} (hf : ∀ x, 0 ≤ f x) : ∀ (l : Rows) (n : Int), Q0 f l n ≠ 0 → (∀ x ∈ l, 0 < f x) ∧ Q0 f l n = n + (l.map f).sum ∧ (1 ≤ n → n ≤ 300 → Q0 f l n ≤ 300) := by
 intro l
 induction l with
 | nil => intro n h; simp [Q0]
 | cons x l ih =>
  intro n h
  simp only [Q0] at h ⊢
  split at h
  ·exact absurd rfl h
  ·rename_i hc
   have hx := hf x
   obtain ⟨h1, h2, h3⟩ := ih _ h
   rw [if_neg hc]
   refine ⟨fun y hy => ?_, by rw [h2]; simp; omega, fun a b => h3 (by omega) (by omega)⟩
   rcases List.mem_cons.1 hy with rfl | hy
   ·omega
   ·exact h1 y hy
structure ValAt (d : Nat) (v : Row) : Prop where
 shape : A9 (cN v 0) (cT v 1) (cN v 2) (cR v 3) (cR v 4) = true
 kids : ∀ x ∈ cR v 4, 0 < G9 d x
 sum : G9 (d + 1) v = 1 + ((cR v 4).map (G9 d)).sum
theorem A0n {d : Nat} {v : Row} (h : 0 < G9 (d + 1) v) : ValAt d v := by
 simp only [G9] at h
 split at h
 ·rename_i hs
  obtain ⟨h1, h2, _⟩ := C1k (fun x => (N8 d x).1) (cR v 4) 1 (by omega)
  exact ⟨hs, h1, by simp only [G9, hs, if_true]; exact h2⟩
 ·omega
theorem A4a {l : Rows} {i : Nat} (h : i < l.length) : J4 l i = l[i] := by simp [J4, List.getElem?_eq_getElem h]
theorem A4b {l : Rows} {i : Nat} (h : i < l.length) : J4 l i ∈ l := by rw [A4a h]; exact List.getElem_mem h
theorem C3n {l : List Int} (hl : ∀ x ∈ l, 0 ≤ x) (n : Nat) : (l.take n).sum ≤ l.sum := by
 have : l.sum = (l.take n).sum + (l.drop n).sum := by rw [← List.sum_append, List.take_append_drop]
 have h2 : ∀ l : List Int, (∀ x ∈ l, 0 ≤ x) → 0 ≤ l.sum := by
  intro l
  induction l with
  | nil => simp
  | cons x l ih => intro h; have := h x (by simp); have := ih fun y hy => h y (by simp [hy]); simp; omega
 have := h2 (l.drop n) fun x hx => hl x (List.mem_of_mem_drop hx)
 omega
theorem B13 {l : Rows} {u : Int} (h : D5 l u = true) {i : Nat} (hi : i < l.length) : (cT (J4 l i) 0).size ≤ 20 := by
 simp only [D5, A7n, Bool.and_eq_true, A1t, List.all_eq_true, List.mem_range] at h
 have := (h.1 i hi)
 simp only [Bool.and_eq_true, O3, inB, decide_eq_true_eq] at this
 omega
theorem A2m {k : Int} {s : ByteArray} {n : Int} {keys kids : Rows} (h : A9 k s n keys kids = true) (h5 : k = 5) : keys.length = kids.length ∧ D5 keys 300 = true := by
 subst h5
 simp [A9] at h
 exact ⟨by omega, h.1⟩
theorem A4c {k : Int} {s : ByteArray} {n : Int} {keys kids : Rows} (h : A9 k s n keys kids = true) (h1 : k = 1) : s.size ≤ 100 ∧ F5 s = true := by
 subst h1
 simp [A9] at h
 refine ⟨?_, by simp_all⟩
 have : F5 s = true := by simp_all
 simp only [F5, Bool.and_eq_true, decide_eq_true_eq] at this
 omega
theorem A2n {k : Int} {s : ByteArray} {n : Int} {keys kids : Rows} (h : A9 k s n keys kids = true) : k = 1 ∨ k = 2 ∨ k = 3 ∨ k = 4 ∨ k = 5 := by
 unfold A9 at h
 split at h
 ·omega
 ·split at h
  ·omega
  ·split at h
   ·omega
   ·split at h
    ·omega
    ·split at h
     ·omega
     ·simp at h
def C3o : Nat → Row → Prop
 | 0, _ => True
 | d + 1, v => (IntKind.i64.min ≤ cN v 2 ∧ cN v 2 ≤ IntKind.i64.max) ∧ ∀ x ∈ cR v 4, C3o d x
theorem C3p {d : Nat} {v : Row} (h : ValAt d v) (hk : ∀ x ∈ cR v 4, ((I6 d x).size : Int) + 22 ≤ 272 * G9 d x) {i : Nat} (hi : i < (cR v 4).length) : ((A3b (I6 d) v i).size : Int) + 1 ≤ 272 * G9 d (J4 (cR v 4) i) := by
 have h1 := hk _ (A4b hi)
 unfold A3b
 cases hc : cN v 0 == 5 with
 | false => simp only [cond_false]; omega
 | true =>
  obtain ⟨h2, h3⟩ := A2m h.shape (by simpa using hc)
  have h4 := B13 h3 (i := i) (by omega)
  have h5 : colon.size = 1 := rfl
  simp only [cond_true, ByteArray.size_append]
  omega
theorem C1l {d : Nat} {v : Row} (h : ValAt d v) (hk : ∀ x ∈ cR v 4, ((I6 d x).size : Int) + 22 ≤ 272 * G9 d x) : ∀ i, i ≤ (cR v 4).length → (B8r (L9 (I6 d) v i) : Int) ≤ 272 * (((cR v 4).take i).map (G9 d)).sum := by
 intro i
 induction i with
 | zero => intro _; simp [L9, B8r]
 | succ i ih =>
  intro hi
  have h1 := ih (by omega)
  have h2 := C3p h hk (i := i) (by omega)
  rw [A1u, List.take_succ_eq_append_getElem (by omega)]
  rw [A4a (by omega)] at h2
  simp only [B8r, List.map_append, List.map_cons, List.map_nil, List.sum_append, List.sum_cons, List.sum_nil] at h1 ⊢
  omega
theorem B14 {d : Nat} {v : Row} (h : 0 < G9 (d + 1) v) (hk : ∀ x ∈ cR v 4, ((I6 d x).size : Int) + 22 ≤ 272 * G9 d x) {i : Nat} (hi : i ≤ (cR v 4).length) : ((J (L9 (I6 d) v i)).size : Int) + 272 ≤ 272 * G9 (d + 1) v := by
 have hv := A0n h
 have h1 := C1l hv hk i hi
 have h2 := D0f (L9 (I6 d) v i)
 have h3 := C3n (l := (cR v 4).map (G9 d)) (fun x hx => by obtain ⟨y, _, rfl⟩ := List.mem_map.1 hx; exact (N8 d y).1) i
 rw [← List.map_take] at h3
 have h4 := hv.sum
 omega
theorem A13 : ∀ (d : Nat) (v : Row), 0 < G9 d v → C3o d v → ((I6 d v).size : Int) + 22 ≤ 272 * G9 d v := by
 intro d
 induction d with
 | zero => intro v h; simp [G9] at h
 | succ d ih =>
  intro v h hn
  have hv := A0n h
  have hk := B14 h (fun x hx => ih x (hv.kids x hx) (hn.2 x hx)) (Nat.le_refl _)
  have h1 : (trueS.size : Int) = 4 := rfl
  have h2 : (falseS.size : Int) = 5 := rfl
  have h3 := B2u hn.1.1 hn.1.2
  unfold I6
  cases c1 : cN v 0 == 1 with
  | true =>
   have := A4c hv.shape (by simpa using c1)
   have := C3l (s := cT v 1)
   simp only [cond_true]; omega
  | false =>
   cases c2 : cN v 0 == 2 with
   | true => simp only [cond_true, cond_false]; omega
   | false =>
    cases c3 : cN v 0 == 3 with
    | true => cases c4 : cN v 2 == 1 <;> simp only [cond_true, cond_false] <;> omega
    | false =>
     have e1 : (⟨#[123]⟩ : ByteArray).size = 1 := rfl
     have e2 : (⟨#[125]⟩ : ByteArray).size = 1 := rfl
     have e3 : (⟨#[91]⟩ : ByteArray).size = 1 := rfl
     have e4 : (⟨#[93]⟩ : ByteArray).size = 1 := rfl
     cases c5 : cN v 0 == 5 <;> simp only [cond_true, cond_false, ByteArray.size_append] <;> omega
theorem C6q {l : List Int} : (∀ x ∈ l, 0 < x) → (l.length : Int) ≤ l.sum := by
 induction l with
 | nil => simp
 | cons x l ih =>
  intro h
  have h1 := h x (by simp)
  have h2 := ih fun y hy => h y (by simp [hy])
  simp only [List.length_cons, List.sum_cons]
  omega
theorem A5t {d : Nat} {v : Row} (h : 0 < G9 (d + 1) v) : (cR v 4).length ≤ 300 := by
 have hv := A0n h
 have h1 := (N8 (d + 1) v).2
 have h2 := C6q (l := (cR v 4).map (G9 d)) fun x hx => by obtain ⟨y, hy, rfl⟩ := List.mem_map.1 hx; exact hv.kids y hy
 have h3 := hv.sum
 simp only [List.length_map] at h2
 omega
theorem B4f {m : Nat} (h : m < 10) : IntKind.u8.wrap (IntKind.i64.wrap (48 + (m : Int))) = ((48 + m : Nat) : Int) := by
 rw [wrap_i64 (by omega) (by omega), wrap_u8 (by omega) (by omega)]
 omega
theorem D0g {f : Row → ByteArray} {v : Row} {i : Nat} {b : ByteArray} : b ++ J (L9 f v (i + 1)) = (bif (i == 0) then b ++ J (L9 f v i) else (b ++ J (L9 f v i)) ++ comma) ++ A3b f v i := by
 rw [A1u, B8q, B21]
 cases i with
 | zero => simp [L9, C3m]
 | succ i => simp [ByteArray.append_assoc]
theorem B15 : ∀ l : List ByteArray, strsOf (l.map fun s => [D.v (.string s)]) = some l
 | [] => rfl
 | s :: l => by simp [strsOf, B15 l]
theorem C6r (s : ByteArray) : (⟨#[34]⟩ : ByteArray) ++ B4b (B4b s ⟨#[92]⟩ ⟨#[92, 92]⟩) ⟨#[34]⟩ ⟨#[92, 34]⟩ ++ ⟨#[34]⟩ = B4e s := by
 have h1 : Lib.replaceAll s.data.toList [92] [92, 92] = s.data.toList.flatMap (A8f 92 [92, 92]) := B4d (by decide) _
 have h2 : ∀ l : List UInt8, Lib.replaceAll l [34] [92, 34] = l.flatMap (A8f 34 [92, 34]) := B4d (by decide)
 apply ByteArray.ext
 simp [B4b, bOf, B4e, C3k, h1, h2, C6p, ByteArray.data_append]
theorem B6j {s old new : ByteArray} {c : UInt8} {l : List UInt8} (ho : old = ⟨#[c]⟩) (hn : new = ⟨l.toArray⟩) (hl : l.length = 2) : (B4b s old new).size ≤ 2 * s.size := by
 subst ho hn
 have hne : [c] ≠ l := by intro e; rw [← e] at hl; simp at hl
 have e : s.data.toList.length = s.size := by rw [Array.length_toList]; rfl
 have h1 := B4d hne s.data.toList
 have h2 := A7o (f := A8f c l) (fun b => by unfold A8f; split <;> first | omega | simp) s.data.toList
 have h3 : B4b s ⟨#[c]⟩ ⟨l.toArray⟩ = bOf (s.data.toList.flatMap (A8f c l)) := by simp [B4b, h1]
 rw [h3, J8]
 omega
theorem C3q {s old new : ByteArray} (h1 : old.size = 1) (h2 : new.size = 2) (hs : s.size ≤ 1000000) : B2v s old new = true := by
 have h := Lib.countB_mul_le old (by omega) s.size s (Nat.le_refl _)
 rw [h1] at h
 have : Lib.countB s old * new.size ≤ 2 * s.size := by rw [h2]; omega
 simp [B2v, h1]
 omega
end Go.Am
/- AM: that a function comes to an end, with something that is right: a calculus beside Evt. Nothing is assumed. -/
namespace Go.Am
def EvtE {R : Type} (P : R → Prop) (F : Nat → Nat → Option R) : Prop := ∃ y, P y ∧ Evt F y
def EvE (fs : Fns) (fn : Nat) (is : List I) (Q : Out → Prop) : Prop := ∃ o, Q o ∧ Ev fs fn is o
section
variable {R : Type} {fs : Fns} {P : R → Prop} {F A B : Nat → Nat → Option R} {c : Bool}
theorem EvtE.ret {y : R} (h : P y) : EvtE P (fun _ _ => some y) := ⟨y, h, Evt.ret⟩
theorem EvtE.mono {P' : R → Prop} (h : EvtE P F) (hP : ∀ y, P y → P' y) : EvtE P' F := by
 obtain ⟨y, h1, h2⟩ := h
 exact ⟨y, hP y h1, h2⟩
theorem EvtE.congr {G : Nat → Nat → Option R} (h : ∀ d n, F d n = G d n) (hG : EvtE P G) : EvtE P F := by
 obtain ⟨y, h1, h2⟩ := hG
 exact ⟨y, h1, Evt.congr h h2⟩
theorem A58 (h : EvtE P (fun d n => F d (n + 1))) : EvtE P F := by
 obtain ⟨y, h1, h2⟩ := h
 exact ⟨y, h1, F7 h2⟩
theorem M3 (ht : c = true → EvtE P A) (hf : c = false → EvtE P B) : EvtE P (fun d n => bif c then A d n else B d n) := by
 cases c with
 | true => exact ht rfl
 | false => exact hf rfl
theorem A08 (h : c = true) (hA : EvtE P A) : EvtE P (fun d n => tst c (A d n)) := by
 obtain ⟨y, h1, h2⟩ := hA
 exact ⟨y, h1, D8 h h2⟩
theorem A7p {fn : Nat} {is : List I} {o : Out} {G : Nat → Nat → Out → Option R} (h : Ev fs fn is o) (hF : EvtE P fun d n => G d n o) : EvtE P (fun d n => C8 (TabD fs d) fn is (G d n)) := by
 obtain ⟨y, h1, h2⟩ := hF
 exact ⟨y, h1, A7 h h2⟩
theorem G6 {fn : Nat} {is : List I} {Q : Out → Prop} {G : Nat → Nat → Out → Option R} (h : EvE fs fn is Q) (hF : ∀ o, Q o → EvtE P fun d n => G d n o) : EvtE P (fun d n => C8 (TabD fs d) fn is (G d n)) := by
 obtain ⟨o, h1, h2⟩ := h
 exact A7p h2 (hF o h1)
theorem B4g {L : Nat → Nat → Option (Ex × List AV)} {Q : Ex × List AV → Prop} {G : Nat → Nat → Ex → List AV → Option R} (h : EvtE Q L) (hF : ∀ y, Q y → EvtE P fun d n => G d n y.1 y.2) : EvtE P (fun d n => aft (L d d) (G d n)) := by
 obtain ⟨y, h1, h2⟩ := h
 obtain ⟨z, h3, h4⟩ := hF y h1
 exact ⟨z, h3, I4 h2 h4⟩
theorem EvE.of {fn : Nat} {is : List I} {Q : Out → Prop} {af : AFun} (hl : A54 fn fs.funs = some af) (hn : A55 is af.modes = true) (h : EvtE Q fun d _ => H9 (TabD fs d) d af is) : EvE fs fn is Q := by
 obtain ⟨o, h1, h2⟩ := h
 exact ⟨o, h1, Ev.of hl hn h2⟩
end
end Go.Am
/- AM: what is written is read again: plain lemmas on bytes, digits, joined texts. Nothing is assumed. -/
namespace Go.Am
theorem R6 (l : List UInt8) : (bOf l).toList = l := by rw [ByteArray.toList_eq]
theorem C3r (l : List UInt8) : (bOf l).data.toList = l := rfl
theorem Q8 (a b : ByteArray) : (a ++ b).toList = a.toList ++ b.toList := by simp [ByteArray.toList_eq, ByteArray.data_append]
theorem M7 (s : ByteArray) : bOf s.toList = s := by apply ByteArray.ext; simp [ByteArray.toList_eq]
theorem A6k {s : ByteArray} {l : List UInt8} (h : s.toList = l) : s = bOf l := by rw [← h, M7]
theorem A9l {s : ByteArray} {l : List UInt8} (h : s.toList = l) : s.size = l.length := by rw [← h, M4]
theorem B16 {c : Nat} : (one c).toList = [UInt8.ofNat c] := by rw [ByteArray.toList_eq]; rfl
theorem bare_eq {s : ByteArray} (h : bare s = true) : s = ⟨#[]⟩ := by
 have : s.toList = [] := by
  have e : (⟨#[]⟩ : ByteArray).toList = [] := by rw [ByteArray.toList_eq]
  simpa [bare, D9, e] using h
 exact A6k this
def rdT : List UInt8 → Option (List UInt8 × Nat)
 | [] => none
 | b :: l => if b = 34 then some ([], 1) else if b = 92 then (match l with
  | [] => none
  | c :: l' => if c = 0 then none else (rdT l').map fun p => (c :: p.1, p.2 + 2)) else if b = 0 then none else (rdT l).map fun p => (b :: p.1, p.2 + 1)
def rdP : List UInt8 → Option (List UInt8 × Nat)
 | [] => none
 | b :: l => if b = 34 then some ([], 1) else if b = 92 then (match l with
  | [] => none
  | c :: l' => (rdP l').map fun p => (c :: p.1, p.2 + 2)) else (rdP l).map fun p => (b :: p.1, p.2 + 1)
theorem B9t (r : List UInt8) : ∀ t : List UInt8, (∀ b ∈ t, b ≠ 0) → rdT (t.flatMap esc ++ 34 :: r) = some (t, (t.flatMap esc).length + 1)
 | [], _ => by
  show rdT (34 :: r) = _
  unfold rdT
  rfl
 | b :: t, h => by
  have ih := B9t r t fun x hx => h x (by simp [hx])
  have hb := h b (by simp)
  rw [List.flatMap_cons, List.append_assoc]
  by_cases h1 : b = 34 ∨ b = 92
  ·have e : esc b = [92, b] := by simp [esc, h1]
   rw [e]
   show rdT (92 :: b :: (t.flatMap esc ++ 34 :: r)) = _
   unfold rdT
   simp only [show (92 : UInt8) ≠ 34 from by decide, if_false, if_true, hb, ih, Option.map_some]
   simp
  ·have e : esc b = [b] := by simp [esc, h1]
   have h2 : b ≠ 34 := fun e => h1 (.inl e)
   have h3 : b ≠ 92 := fun e => h1 (.inr e)
   rw [e]
   show rdT (b :: (t.flatMap esc ++ 34 :: r)) = _
   unfold rdT
   simp only [h2, h3, hb, if_false, ih, Option.map_some]
   simp
theorem B9u (r : List UInt8) : ∀ t : List UInt8, rdP (t.flatMap esc ++ 34 :: r) = some (t, (t.flatMap esc).length + 1)
 | [] => by
  show rdP (34 :: r) = _
  unfold rdP
  rfl
 | b :: t => by
  have ih := B9u r t
  rw [List.flatMap_cons, List.append_assoc]
  by_cases h1 : b = 34 ∨ b = 92
  ·have e : esc b = [92, b] := by simp [esc, h1]
   rw [e]
   show rdP (92 :: b :: (t.flatMap esc ++ 34 :: r)) = _
   unfold rdP
   simp only [show (92 : UInt8) ≠ 34 from by decide, if_false, if_true, ih, Option.map_some]
   simp
  ·have e : esc b = [b] := by simp [esc, h1]
   have h2 : b ≠ 34 := fun e => h1 (.inl e)
   have h3 : b ≠ 92 := fun e => h1 (.inr e)
   rw [e]
   show rdP (b :: (t.flatMap esc ++ 34 :: r)) = _
   unfold rdP
   simp only [h2, h3, if_false, ih, Option.map_some]
   simp
theorem C1m {s : ByteArray} (h : F5 s = true) : ∀ b ∈ s.toList, b ≠ 0 := by
 intro b hb e
 obtain ⟨i, hi, hg⟩ := List.mem_iff_getElem.1 hb
 simp only [F5, Bool.and_eq_true, A2g] at h
 have := h.1 i (by rw [← M4]; exact hi)
 rw [byteOf, List.getElem?_eq_getElem hi, hg, e] at this
 simp [inB] at this
def A14 (c : UInt8) : Bool := inB (c.toNat : Int) 48 57
def Z8 : Nat → List UInt8 → Nat → Nat × Nat
 | 0, _, x => (x, 0)
 | _ + 1, [], x => (x, 0)
 | f + 1, c :: l, x => bif A14 c then ((Z8 f l (x * 10 + (c.toNat - 48))).1, (Z8 f l (x * 10 + (c.toNat - 48))).2 + 1) else (x, 0)
theorem B9v : ∀ (f : Nat) (l : List UInt8) (x : Nat), (Z8 f l x).2 ≤ l.length ∧ (Z8 f l x).2 ≤ f
 | 0, l, x => by simp [Z8]
 | f + 1, [], x => by simp [Z8]
 | f + 1, c :: l, x => by
  have := B9v f l (x * 10 + (c.toNat - 48))
  unfold Z8
  cases A14 c <;> simp <;> omega
def A0m (l : List UInt8) (x : Nat) : Nat := l.foldl (fun x c => x * 10 + (c.toNat - 48)) x
theorem B6k : ∀ (L R : List UInt8) (f x : Nat), (∀ c ∈ L, A14 c = true) → Z8 (L.length + f) (L ++ R) x = ((Z8 f R (A0m L x)).1, (Z8 f R (A0m L x)).2 + L.length)
 | [], R, f, x, _ => by simp [A0m]
 | c :: L, R, f, x, h => by
  have hc := h c (by simp)
  have ih := B6k L R f (x * 10 + (c.toNat - 48)) (fun c hc => h c (by simp [hc]))
  rw [show (c :: L).length + f = (L.length + f) + 1 from by simp only [List.length_cons]; omega, List.cons_append]
  simp only [Z8, hc, cond_true, ih]
  simp [A0m, Nat.add_assoc]
def dl (n : Nat) : List UInt8 := (dg n).toList
theorem A59 {n : Nat} (h : n < 10) : dl n = [UInt8.ofNat (48 + n)] := by rw [dl, Y4 h, B16]
theorem B8s {n : Nat} (h : 10 ≤ n) : dl n = dl (n / 10) ++ [UInt8.ofNat (48 + n % 10)] := by rw [dl, A6i h, Q8, B16]; rfl
theorem B4h {m : Nat} (h : m < 10) : (UInt8.ofNat (48 + m)).toNat = 48 + m := by simp; omega
theorem C7j {m : Nat} (h : m < 10) : A14 (UInt8.ofNat (48 + m)) = true := by
 simp only [A14, inB, B4h h]
 simp
 omega
theorem A6l : ∀ n : Nat, (∀ c ∈ dl n, A14 c = true) ∧ A0m (dl n) 0 = n ∧ 1 ≤ (dl n).length := by
 intro n
 induction n using Nat.strongRecOn with
 | ind n ih =>
  rcases Nat.lt_or_ge n 10 with h | h
  ·rw [A59 h]
   refine ⟨fun c hc => ?_, ?_, by simp⟩
   ·rw [List.mem_singleton] at hc; subst hc; exact C7j h
   ·simp only [A0m, List.foldl_cons, List.foldl_nil, B4h h]; omega
  ·obtain ⟨h1, h2, h3⟩ := ih (n / 10) (by omega)
   have hm : n % 10 < 10 := Nat.mod_lt _ (by omega)
   rw [B8s h]
   refine ⟨fun c hc => ?_, ?_, by simp⟩
   ·rcases List.mem_append.1 hc with hc | hc
    ·exact h1 c hc
    ·rw [List.mem_singleton] at hc; subst hc; exact C7j hm
   ·unfold A0m at h2 ⊢
    rw [List.foldl_append, h2]
    simp only [List.foldl_cons, List.foldl_nil, B4h hm]
    omega
theorem B8t : ∀ (k n : Nat), n < 10 ^ (k + 1) → (dl n).length ≤ k + 1 := by
 intro k
 induction k with
 | zero => intro n h; rw [A59 (by simpa using h)]; simp
 | succ k ih =>
  intro n h
  rcases Nat.lt_or_ge n 10 with h1 | h1
  ·rw [A59 h1]; simp
  ·rw [B8s h1]
   have := ih (n / 10) (by rw [Nat.pow_succ] at h; omega)
   simp
   omega
theorem U3 (n : Int) : (J3 n).toList = if n < 0 then 45 :: dl n.natAbs else dl n.natAbs := by
 unfold J3
 split
 ·rw [Q8, B16]; rfl
 ·rfl
def Stop (r : List UInt8) : Prop := ∀ c r', r = c :: r' → c = 44 ∨ c = 93 ∨ c = 125
theorem Stop.nil : Stop [] := fun _ _ h => by cases h
theorem Stop.cons {c : UInt8} {r : List UInt8} (h : c = 44 ∨ c = 93 ∨ c = 125) : Stop (c :: r) := fun _ _ e => by cases e; exact h
theorem C1n {f : Nat} {r : List UInt8} {x : Nat} (h : Stop r) : Z8 f r x = (x, 0) := by
 cases f with
 | zero => rfl
 | succ f =>
  cases r with
  | nil => rfl
  | cons c r => rcases h c r rfl with rfl | rfl | rfl <;> rfl
theorem B6l {n : Int} (h : Fits n) : n.natAbs < 10 ^ 19 := by
 simp only [Fits, IntKind.min, IntKind.max, IntKind.signed, IntKind.bits] at h
 simp at h
 omega
theorem B6m {n : Int} (h : Fits n) {r : List UInt8} (hr : Stop r) : Z8 19 (dl n.natAbs ++ r) 0 = (n.natAbs, (dl n.natAbs).length) := by
 obtain ⟨h1, h2, h3⟩ := A6l n.natAbs
 have h4 := B8t 18 n.natAbs (B6l h)
 have := B6k (dl n.natAbs) r (19 - (dl n.natAbs).length) 0 h1
 rw [show (dl n.natAbs).length + (19 - (dl n.natAbs).length) = 19 from by omega, C1n hr, h2] at this
 simpa using this
def C1o (m : Bool) (x : Nat) : Int := bif m && decide ((x : Int) > 0) then IntKind.wrap .i64 (IntKind.wrap .i64 (0 - IntKind.wrap .i64 (IntKind.wrap .u64 ((x : Int) - 1))) - 1) else IntKind.wrap .i64 (x : Int)
def B4i (m : Bool) (x n : Nat) : Bool := (((n : Nat) : Int) == 0) || (decide ((x : Int) > 9223372036854775808) || (!m && ((x : Int) == 9223372036854775808)))
theorem B17 {n : Int} (h : Fits n) : -9223372036854775808 ≤ n ∧ n ≤ 9223372036854775807 := by
 simp only [Fits, IntKind.min, IntKind.max, IntKind.signed, IntKind.bits] at h
 simp at h
 omega
theorem B6n {n : Int} (h : Fits n) : C1o (decide (n < 0)) n.natAbs = n := by
 have h := B17 h
 unfold C1o
 by_cases hn : n < 0
 ·have e1 : decide ((n.natAbs : Int) > 0) = true := decide_eq_true (by omega)
  rw [decide_eq_true hn, e1, wrap_u64 (by omega) (by omega), wrap_i64 (n := (n.natAbs : Int) - 1) (by omega) (by omega), wrap_i64 (n := 0 - ((n.natAbs : Int) - 1)) (by omega) (by omega), wrap_i64 (by omega) (by omega)]
  simp only [Bool.and_self, cond_true]
  omega
 ·rw [decide_eq_false hn]
  simp only [Bool.false_and, cond_false]
  rw [wrap_i64 (by omega) (by omega)]
  omega
theorem B18 {n : Int} (h : Fits n) {k : Nat} (hk : 1 ≤ k) : B4i (decide (n < 0)) n.natAbs k = false := by
 have h := B17 h
 have e1 : (((k : Nat) : Int) == 0) = false := by simp; omega
 have e2 : decide ((n.natAbs : Int) > 9223372036854775808) = false := decide_eq_false (by omega)
 unfold B4i
 rw [e1, e2]
 by_cases hn : n < 0
 ·rw [decide_eq_true hn]; rfl
 ·have e3 : ((n.natAbs : Int) == 9223372036854775808) = false := by simp; omega
  rw [e3]
  simp
def A1m (l : List UInt8) : Nat := (l.takeWhile fun c => c != 58 && c != 0).length
theorem B2w : ∀ (w r : List UInt8), (∀ c ∈ w, c ≠ 58 ∧ c ≠ 0) → A1m (w ++ 58 :: r) = w.length
 | [], r, _ => by simp [A1m]
 | c :: w, r, h => by
  have ih := B2w w r fun c hc => h c (by simp [hc])
  have hc := h c (by simp)
  unfold A1m at ih ⊢
  simp [hc.1, hc.2, ih]
theorem A32 {s : ByteArray} (h : O3 s = true) : (∀ c ∈ s.toList, I5 c = true) ∧ 1 ≤ s.toList.length ∧ s.toList.length ≤ 20 := by
 simp only [O3, Bool.and_eq_true, A2g, inB, decide_eq_true_eq] at h
 refine ⟨fun c hc => ?_, by rw [M4]; omega, by rw [M4]; omega⟩
 obtain ⟨i, hi, hg⟩ := List.mem_iff_getElem.1 hc
 have := h.1 i (by rw [← M4]; exact hi)
 rw [List.getElem?_eq_getElem hi, hg] at this
 exact this
theorem A0d {c : UInt8} (h : I5 c = true) : c ≠ 58 ∧ c ≠ 0 ∧ c ≠ 125 ∧ c ≠ 44 ∧ c ≠ 93 ∧ c ≠ 32 ∧ c ≠ 10 ∧ c ≠ 47 ∧ c.toNat < 128 := by
 have hh : (97 ≤ c.toNat ∧ c.toNat ≤ 122) ∨ (48 ≤ c.toNat ∧ c.toNat ≤ 57) ∨ c.toNat = 45 := by
  simp only [I5, inB, Bool.or_eq_true, Bool.and_eq_true, decide_eq_true_eq, beq_iff_eq] at h
  omega
 refine ⟨?_, ?_, ?_, ?_, ?_, ?_, ?_, ?_, by omega⟩ <;> (intro e; rw [e] at hh; simp at hh)
def jt (f : Nat → List UInt8) : Nat → Nat → List UInt8
 | 0, _ => []
 | k + 1, m => (bif m == 0 then [] else [44]) ++ f m ++ jt f k (m + 1)
theorem B9w (f : Nat → List UInt8) : ∀ (k m : Nat), jt f (k + 1) m = jt f k m ++ ((bif m + k == 0 then [] else [44]) ++ f (m + k))
 | 0, m => by simp [jt]
 | k + 1, m => by
  have ih := B9w f k (m + 1)
  rw [jt, ih, jt, show m + 1 + k = m + (k + 1) from by omega]
  simp [List.append_assoc]
theorem B8u : comma.toList = [44] := by rw [ByteArray.toList_eq]; rfl
theorem D1y (f : Nat → ByteArray) : ∀ n, (J ((List.range n).map f)).toList = jt (fun i => (f i).toList) n 0
 | 0 => by rw [show J ((List.range 0).map f) = ByteArray.empty from rfl, ByteArray.toList_eq]; rfl
 | n + 1 => by
  have ih := D1y f n
  rw [List.range_succ, List.map_append, List.map_cons, List.map_nil, B8q, B9w, ← ih]
  cases n with
  | zero => simp [C3m, ByteArray.toList_eq]
  | succ n =>
   have e : (List.map f (List.range (n + 1))).isEmpty = false := by cases h : List.map f (List.range (n + 1)) with
    | nil => simp at h
    | cons => rfl
   rw [e]
   simp only [cond_false, Q8, B8u, List.append_assoc]
   simp
def M9 (d : Nat) (v : Row) (i : Nat) : List UInt8 := (A3b (I6 d) v i).toList
theorem B9x (d : Nat) (v : Row) (n : Nat) : (J (L9 (I6 d) v n)).toList = jt (M9 d v) n 0 := D1y _ n
theorem M5 (c : UInt8) : (⟨#[c]⟩ : ByteArray).toList = [c] := by rw [ByteArray.toList_eq]
theorem B9y {d : Nat} {v : Row} (h : cN v 0 = 1) : (I6 (d + 1) v).toList = 34 :: ((cT v 1).toList.flatMap esc ++ [34]) := by
 simp only [I6, h, show ((1 : Int) == 1) = true from rfl, cond_true, B4e, C3k, ByteArray.toList_eq]
theorem B9z {d : Nat} {v : Row} (h : cN v 0 = 2) : (I6 (d + 1) v).toList = (J3 (cN v 2)).toList := by
 simp only [I6, h, show ((2 : Int) == 1) = false from rfl, show ((2 : Int) == 2) = true from rfl, cond_true, cond_false]
theorem C00 {d : Nat} {v : Row} (h : cN v 0 = 3) : (I6 (d + 1) v).toList = bif cN v 2 == 1 then [116, 114, 117, 101] else [102, 97, 108, 115, 101] := by
 simp only [I6, h, show ((3 : Int) == 1) = false from rfl, show ((3 : Int) == 2) = false from rfl, show ((3 : Int) == 3) = true from rfl, cond_true, cond_false]
 cases cN v 2 == 1 <;> simp only [cond_true, cond_false, trueS, falseS, ByteArray.toList_eq]
theorem C01 {d : Nat} {v : Row} (h : cN v 0 = 4) : (I6 (d + 1) v).toList = 91 :: (jt (M9 d v) (cR v 4).length 0 ++ [93]) := by
 simp only [I6, h, show ((4 : Int) == 1) = false from rfl, show ((4 : Int) == 2) = false from rfl, show ((4 : Int) == 3) = false from rfl, show ((4 : Int) == 5) = false from rfl, cond_false, Q8, M5, B9x]
 rfl
theorem C02 {d : Nat} {v : Row} (h : cN v 0 = 5) : (I6 (d + 1) v).toList = 123 :: (jt (M9 d v) (cR v 4).length 0 ++ [125]) := by
 simp only [I6, h, show ((5 : Int) == 1) = false from rfl, show ((5 : Int) == 2) = false from rfl, show ((5 : Int) == 3) = false from rfl, show ((5 : Int) == 5) = true from rfl, cond_true, cond_false, Q8, M5, B9x]
 rfl
theorem A93 {d : Nat} {v : Row} {i : Nat} (h : cN v 0 = 4) : M9 d v i = (I6 d (J4 (cR v 4) i)).toList := by
 simp only [M9, A3b, h, show ((4 : Int) == 5) = false from rfl, cond_false]
theorem B2x {d : Nat} {v : Row} {i : Nat} (h : cN v 0 = 5) : M9 d v i = (cT (J4 (cR v 3) i) 0).toList ++ 58 :: (I6 d (J4 (cR v 4) i)).toList := by
 simp only [M9, A3b, h, show ((5 : Int) == 5) = true from rfl, cond_true, Q8, show colon.toList = [58] from M5 58, List.append_assoc]
 rfl
theorem B4j (n : Nat) : ∃ c l, dl n = c :: l ∧ 48 ≤ c.toNat ∧ c.toNat ≤ 57 := by
 obtain ⟨h1, _, h3⟩ := A6l n
 cases h : dl n with
 | nil => rw [h] at h3; simp at h3
 | cons c l =>
  have := h1 c (by rw [h]; simp)
  simp only [A14, inB, Bool.and_eq_true, decide_eq_true_eq] at this
  exact ⟨c, l, rfl, by omega, by omega⟩
theorem B19 (n : Int) : ∃ c l, (J3 n).toList = c :: l ∧ c ≠ 34 ∧ c ≠ 116 ∧ c ≠ 102 ∧ c ≠ 91 ∧ c ≠ 123 ∧ c ≠ 93 ∧ c ≠ 125 ∧ c ≠ 44 := by
 have key : ∀ c : UInt8, 45 ≤ c.toNat → c.toNat ≤ 57 → c ≠ 34 ∧ c ≠ 116 ∧ c ≠ 102 ∧ c ≠ 91 ∧ c ≠ 123 ∧ c ≠ 93 ∧ c ≠ 125 ∧ c ≠ 44 := by
  intro c h1 h2
  refine ⟨?_, ?_, ?_, ?_, ?_, ?_, ?_, ?_⟩ <;> (intro e; rw [e] at h1 h2; simp at h1 h2)
 rw [U3]
 split
 ·exact ⟨45, _, rfl, key 45 (by decide) (by decide)⟩
 ·obtain ⟨c, l, h1, h2, h3⟩ := B4j n.natAbs
  exact ⟨c, l, h1, key c (by omega) h3⟩
theorem C3s {d : Nat} {v : Row} (h : 0 < G9 (d + 1) v) : ∃ c l, (I6 (d + 1) v).toList = c :: l ∧ c ≠ 93 ∧ c ≠ 125 ∧ c ≠ 44 := by
 rcases A2n (A0n h).shape with k | k | k | k | k
 ·exact ⟨_, _, B9y k, by decide⟩
 ·obtain ⟨c, l, h1, h2⟩ := B19 (cN v 2)
  exact ⟨c, l, by rw [B9z k, h1], h2.2.2.2.2.2⟩
 ·rw [C00 k]
  cases cN v 2 == 1
  ·exact ⟨_, _, rfl, by decide⟩
  ·exact ⟨_, _, rfl, by decide⟩
 ·exact ⟨_, _, C01 k, by decide⟩
 ·exact ⟨_, _, C02 k, by decide⟩
end Go.Am
/- AM: strings.Split, strings.Cut, strings.TrimSuffix by contracts that stand already; texts that are split at a byte. Nothing is assumed. -/
namespace Go.Am
set_option linter.unusedVariables false
open Go.RowKit (Below)
theorem C6s {K : Src} {P : Program} {sg : Sigs} {fn : Nat} {is : List I} {r : I} (hs : sg fn = none)
  (h : ∀ (w : World) (Z : Nat → Prop) (vs : List Value), Pin P K Z w → IFroL sg.X w Z is vs → CallsF P fn vs.toArray w fun e w' => ∃ v c, e = .returned v ∧ IOwn sg.X w' r v c ∧ Below w.heap.size w w' ∧ (∀ b, c.count b ≤ 1) ∧ ∀ b ∈ c, w.heap.size ≤ b) : Sat P sg K fn is ⟨r, []⟩ := by
 intro w Z vs cin hp ha hw
 have hm : sg.modes fn is.length = List.replicate is.length .rd := by simp [Sigs.modes, hs]
 rw [hm] at ha ⊢
 obtain ⟨hi, rfl⟩ := B9r ha
 refine (h w Z vs hp hi).mono fun e w' ⟨v, c, he, hr, hb, h1, h2⟩ => ⟨v, c, [], he, hr, ?_, ?_⟩
 ·have : is.length = vs.length := ha.lengths.2.symm
  rw [this]
  exact BackRel.rds
 ·rw [List.append_nil]
  have g := hw.below hb
  exact ⟨h1, fun b hz hc => Nat.not_le_of_lt (hw.zlt b hz).1 (h2 b hc), hw.zlt, hb.size, fun b hc => .inr (h2 b hc), g.frame, g.mute, g.stay⟩
theorem C1p {K : Src} {P : Program} {sg : Sigs} {n : Nat} {f : List I → Option I} (hs : sg n = none)
  (h : ∀ is r, f is = some r → ∀ (w : World) (Z : Nat → Prop) (vs : List Value), Pin P K Z w → IFroL sg.X w Z is vs → CallsF P n vs.toArray w fun e w' => ∃ v c, e = .returned v ∧ IOwn sg.X w' r v c ∧ Below w.heap.size w w' ∧ (∀ b, c.count b ≤ 1) ∧ ∀ b ∈ c, w.heap.size ≤ b) (h0 : Nat.beq 0 n = false := by rfl) : Good P sg K (J6 n f) := by
 refine ⟨fun fn is o ho => ?_, fun mk b m c i o h => by simp [J6, h0] at h⟩
 unfold J6 at ho
 cases hb : Nat.beq fn n with
 | false => simp [hb] at ho
 | true =>
  have := Nat.eq_of_beq_eq_true hb
  subst this
  simp only [hb, cond_true, Option.map_eq_some_iff] at ho
  obtain ⟨r, hr, rfl⟩ := ho
  exact C6s hs (h is r hr)
def S9 (l : List ByteArray) : Rows := l.map fun s => [D.v (.string s)]
def C1q (s p : ByteArray) : List ByteArray := Lib.splitB p 0 (Lib.countB s p) s
def B6o (s p : ByteArray) : Bool := decide (s.size < 4294967281) && decide (1 ≤ p.size)
def A1k : List I → Option I
 | [.d (.v (.string s)), .d (.v (.string p))] => bif B6o s p then some (.d (.s 1 (S9 (C1q s p)))) else none
 | _ => none
theorem B6p {w : World} : ∀ l : List ByteArray, OwnL w (S9 l).flatten (l.map Value.string) []
 | [] => .nil
 | s :: l => OwnL.cons (c := []) (c' := []) (.v trivial) (B6p l)
theorem C6t {w : World} {t : TypeId} (l : List ByteArray) : OwnD (w.alloc (.cells (l.map Value.string).toArray t)) (.s 1 (S9 l)) (.slice (some ⟨w.heap.size, 0, none⟩) l.length l.length) [w.heap.size] := by
 have e : (S9 l).length = l.length := by simp [S9]
 have hg : (w.alloc (.cells (l.map Value.string).toArray t)).heap[w.heap.size]? = some (.cells (l.map Value.string).toArray t) := by
  show (w.heap.push _)[w.heap.size]? = _
  exact Array.getElem?_push_size ..
 have := OwnD.s (w := w.alloc (.cells (l.map Value.string).toArray t)) (wd := 1) (b := w.heap.size) (off := 0) (cap := l.length) (rows := S9 l) (vs := l.map Value.string) (c := [])
  (by intro r hr; simp only [S9, List.mem_map] at hr; obtain ⟨_, _, rfl⟩ := hr; rfl) (by rw [e]; exact Nat.le_refl _)
  ⟨_, _, _, hg, fun k v h => by simpa using h⟩ ⟨_, _, _, hg, by simp, fun k _ _ h => by simp at h⟩ (B6p l)
 rw [e] at this
 exact this
theorem B8v {K : Src} {P : Program} {sg : Sigs} {n g : Nat} {f : Func} {c : Code} (hs : sg n = none) (hf : P.funcs[n]? = some f) (hb : f.body = some c) (hname : (f.name == "runtime.NumGoroutine") = false) (hg : g < P.globals.size)
  (hc : ∀ wt : World, wt.ShapedOpen P → ∃ m : Int, wt.cell? ⟨g, 0, none⟩ = some (.int .i64 m))
  (h : ∀ (s p : ByteArray) (m : Int) (w : World), s.size < 4294967281 → w.cell? ⟨g, 0, none⟩ = some (.int .i64 m) → 1 ≤ p.size →
   Calls P n #[.string s, .string p] w fun e w' => e = .returned (.slice (some ⟨w.heap.size, 0, none⟩) (Lib.countB s p + 1) (Lib.countB s p + 1)) ∧ ∃ t, w' = w.alloc (.cells ((Lib.splitB p 0 (Lib.countB s p) s).map Value.string).toArray t)) (h0 : Nat.beq 0 n = false := by rfl) : Good P sg K (J6 n A1k) :=
 C1p (h0 := h0) hs fun is r hr w Z vs hp hi => by
  unfold A1k at hr
  split at hr
  ·rename_i s p
   cases hk : B6o s p with
   | false => simp [hk] at hr
   | true =>
    simp only [hk, cond_true, Option.some.injEq] at hr
    subst hr
    simp only [B6o, Bool.and_eq_true, decide_eq_true_eq] at hk
    rw [A2k hi]
    obtain ⟨v, h1, m, rfl⟩ := hp.cell (Q := fun v => ∃ m : Int, v = .int .i64 m) hg fun wt h => by obtain ⟨m, hm⟩ := hc wt h; exact ⟨_, hm, m, rfl⟩
    refine X4 hf hb hname ((h s p m w hk.1 h1 hk.2).mono fun e w' ⟨he, t, hw⟩ => ⟨_, [w.heap.size], he, ?_, ?_, ?_, ?_⟩)
    ·subst hw
     have hl := Lib.splitB_all p hk.2 0 _ s rfl
     have := C6t (w := w) (t := t) (C1q s p)
     rw [show (C1q s p).length = Lib.countB s p + 1 from hl] at this
     exact .d this
    ·subst hw
     refine ⟨rfl, rfl, rfl, ?_, fun k hk => ?_⟩
     ·show w.heap.size ≤ (w.heap.push _).size
      rw [Array.size_push]; omega
     ·show (w.heap.push _)[k]? = _
      rw [Array.getElem?_push, if_neg (Nat.ne_of_lt hk)]
    ·intro b; simp only [List.count_cons, List.count_nil]; split <;> omega
    ·intro b hb; simp at hb; omega
  ·simp at hr
def C6u (s p : ByteArray) : ByteArray × ByteArray × Bool := (bOf (Lib.cut s.data.toList p.data.toList).1, bOf (Lib.cut s.data.toList p.data.toList).2.1, (Lib.cut s.data.toList p.data.toList).2.2)
def A4l : List I → Option I
 | [.d (.v (.string s)), .d (.v (.string p))] => bif decide (s.size < 4294967281) then some (.t [.d (.v (.string (C6u s p).1)), .d (.v (.string (C6u s p).2.1)), .d (.v (.bool (C6u s p).2.2))]) else none
 | _ => none
theorem C1r {K : Src} {P : Program} {sg : Sigs} {n g : Nat} {f : Func} {c : Code} (hs : sg n = none) (hf : P.funcs[n]? = some f) (hb : f.body = some c) (hname : (f.name == "runtime.NumGoroutine") = false) (hg : g < P.globals.size)
  (hc : ∀ wt : World, wt.ShapedOpen P → ∃ m : Int, wt.cell? ⟨g, 0, none⟩ = some (.int .i64 m))
  (h : ∀ (s p : ByteArray) (m : Int) (w : World), s.size < 4294967281 → w.cell? ⟨g, 0, none⟩ = some (.int .i64 m) →
   Calls P n #[.string s, .string p] w fun e w' => e = .returned (.tuple #[.string ⟨(Lib.cut s.data.toList p.data.toList).1.toArray⟩, .string ⟨(Lib.cut s.data.toList p.data.toList).2.1.toArray⟩, .bool (Lib.cut s.data.toList p.data.toList).2.2]) ∧ Below w.heap.size w w') (h0 : Nat.beq 0 n = false := by rfl) : Good P sg K (J6 n A4l) :=
 A12 (h0 := h0) hs fun is r hr w Z vs hp hi => by
  unfold A4l at hr
  split at hr
  ·rename_i s p
   cases hk : decide (s.size < 4294967281) with
   | false => simp [hk] at hr
   | true =>
    simp only [hk, cond_true, Option.some.injEq] at hr
    subst hr
    rw [A2k hi]
    obtain ⟨v, h1, m, rfl⟩ := hp.cell (Q := fun v => ∃ m : Int, v = .int .i64 m) hg fun wt h => by obtain ⟨m, hm⟩ := hc wt h; exact ⟨_, hm, m, rfl⟩
    exact X4 hf hb hname ((h s p m w (of_decide_eq_true hk) h1).mono fun e w' ⟨he, hb⟩ => ⟨_, he, C6o, hb⟩)
  ·simp at hr
def D1z (s p : ByteArray) : ByteArray := bOf (Lib.trimSuffix s.data.toList p.data.toList)
def A9g : List I → Option I
 | [.d (.v (.string s)), .d (.v (.string p))] => bif decide (s.size ≤ 9223372036854775807) then some (.d (.v (.string (D1z s p)))) else none
 | _ => none
theorem C3t {K : Src} {P : Program} {sg : Sigs} {n : Nat} {f : Func} {c : Code} (hs : sg n = none) (hf : P.funcs[n]? = some f) (hb : f.body = some c) (hname : (f.name == "runtime.NumGoroutine") = false)
  (h : ∀ (s p : ByteArray) (w : World), s.size ≤ 9223372036854775807 → Calls P n #[.string s, .string p] w fun e w' => e = .returned (.string ⟨(Lib.trimSuffix s.data.toList p.data.toList).toArray⟩) ∧ w' = w) (h0 : Nat.beq 0 n = false := by rfl) : Good P sg K (J6 n A9g) :=
 A12 (h0 := h0) hs fun is r hr w Z vs hp hi => by
  unfold A9g at hr
  split at hr
  ·rename_i s p
   cases hk : decide (s.size ≤ 9223372036854775807) with
   | false => simp [hk] at hr
   | true =>
    simp only [hk, cond_true, Option.some.injEq] at hr
    subst hr
    rw [A2k hi]
    exact X4 hf hb hname ((h _ _ w (of_decide_eq_true hk)).mono fun e w' ⟨he, hw⟩ => ⟨_, he, A31, hw ▸ A2l⟩)
  ·simp at hr
def spl (c : UInt8) : List UInt8 → List (List UInt8)
 | [] => [[]]
 | b :: l => if b = c then [] :: spl c l else match spl c l with
  | [] => [[b]]
  | x :: xs => (b :: x) :: xs
theorem A7q {c : UInt8} : ∀ {a : List UInt8}, c ∉ a → spl c a = [a]
 | [], _ => rfl
 | b :: l, h => by
  have h1 : b ≠ c := fun e => h (by simp [e])
  have h2 : c ∉ l := fun e => h (by simp [e])
  simp only [spl, if_neg h1, A7q h2]
theorem A1v {c : UInt8} {r : List UInt8} : ∀ {a : List UInt8}, c ∉ a → spl c (a ++ c :: r) = a :: spl c r
 | [], _ => by simp [spl]
 | b :: l, h => by
  have h1 : b ≠ c := fun e => h (by simp [e])
  have h2 : c ∉ l := fun e => h (by simp [e])
  simp only [List.cons_append, spl, if_neg h1, A1v h2]
theorem A4d (c : UInt8) : ∀ l : List UInt8, ∃ x xs, spl c l = x :: xs
 | [] => ⟨_, _, rfl⟩
 | b :: l => by
  obtain ⟨x, xs, e⟩ := A4d c l
  simp only [spl, e]
  split <;> exact ⟨_, _, rfl⟩
theorem B4k (c : UInt8) : ∀ l : List UInt8, (spl c l).length ≤ l.length + 1
 | [] => by simp [spl]
 | b :: l => by
  have := B4k c l
  obtain ⟨x, xs, e⟩ := A4d c l
  rw [e] at this
  simp only [spl, e]
  split <;> simp_all <;> omega
theorem A1g (c : UInt8) : ∀ (l : List UInt8), ∀ x ∈ spl c l, x.length ≤ l.length
 | [], x, h => by simp [spl] at h; simp [h]
 | b :: l, x, h => by
  have ih := A1g c l
  obtain ⟨y, ys, e⟩ := A4d c l
  rw [e] at ih
  simp only [spl, e] at h
  split at h
  ·rcases List.mem_cons.1 h with rfl | h
   ·simp
   ·have := ih x h; simp only [List.length_cons]; omega
  ·rcases List.mem_cons.1 h with rfl | h
   ·have := ih y (by simp); simp only [List.length_cons]; omega
   ·have := ih x (by simp [h]); simp only [List.length_cons]; omega
theorem B1a (c : UInt8) : ∀ l : List UInt8, c ∉ l ∨ ∃ a r, c ∉ a ∧ l = a ++ c :: r
 | [] => .inl (by simp)
 | b :: l => by
  by_cases h : b = c
  ·exact .inr ⟨[], l, by simp, by simp [h]⟩
  ·rcases B1a c l with h1 | ⟨a, r, h1, rfl⟩
   ·exact .inl fun e => (List.mem_cons.1 e).elim (fun e => h e.symm) h1
   ·exact .inr ⟨b :: a, r, fun e => (List.mem_cons.1 e).elim (fun e => h e.symm) h1, rfl⟩
theorem index_none {c : UInt8} : ∀ {a : List UInt8}, c ∉ a → Lib.index a [c] = -1
 | [], _ => rfl
 | b :: l, h => by
  have h1 : c ≠ b := fun e => h (by simp [e])
  have h2 : c ∉ l := fun e => h (by simp [e])
  simp [Lib.index, List.isPrefixOf, h1, index_none h2]
theorem A8g {c : UInt8} {r : List UInt8} : ∀ {a : List UInt8}, c ∉ a → Lib.index (a ++ c :: r) [c] = a.length
 | [], _ => by simp [Lib.index, List.isPrefixOf]
 | b :: l, h => by
  have h1 : c ≠ b := fun e => h (by simp [e])
  have h2 : c ∉ l := fun e => h (by simp [e])
  have ih := A8g (r := r) h2
  simp only [List.cons_append, Lib.index, List.isPrefixOf, ih]
  simp [h1]
theorem B1b (c : UInt8) : ∀ (n : Nat) (l : List UInt8), l.length ≤ n → Lib.splitK [c] 0 (Lib.count l [c]) l = spl c l
 | n, l, hn => by
  rcases B1a c l with h | ⟨a, r, h, rfl⟩
  ·rw [A7q h, Lib.count_one, List.count_eq_zero.2 h]
   rfl
  ·have e : Lib.count (a ++ c :: r) [c] = Lib.count r [c] + 1 := by
    rw [Lib.count_one, Lib.count_one, List.count_append, List.count_eq_zero.2 h, List.count_cons_self]
    omega
   match n with
   | 0 => simp at hn
   | n + 1 =>
    have ih := B1b c n r (by simp at hn; omega)
    rw [e, A1v h, Lib.splitK, A8g h]
    rw [if_neg (by simp)]
    simp [ih]
theorem C3u (s : ByteArray) (c : UInt8) : C1q s (bOf [c]) = (spl c s.data.toList).map bOf := by
 have h := Lib.splitB_data (bOf [c]) 0 (Lib.countB s (bOf [c])) s
 have e : Lib.countB s (bOf [c]) = Lib.count s.data.toList [c] := rfl
 rw [e] at h
 rw [show (bOf [c]).data.toList = [c] from rfl, B1b c _ _ (Nat.le_refl _)] at h
 rw [← h, List.map_map]
 show C1q s (bOf [c]) = (C1q s (bOf [c])).map (bOf ∘ fun x => x.data.toList)
 rw [show (bOf ∘ fun x : ByteArray => x.data.toList) = id from rfl, List.map_id]
theorem B6q {c : UInt8} {a : List UInt8} (h : c ∉ a) : Lib.cut a [c] = (a, [], false) := by simp [Lib.cut, index_none h]
theorem A5u {c : UInt8} {a r : List UInt8} (h : c ∉ a) : Lib.cut (a ++ c :: r) [c] = (a, r, true) := by
 have e := A8g (r := r) h
 simp [Lib.cut, e]
theorem A3q (c : UInt8) (l : List UInt8) : (Lib.cut l [c]).1.length ≤ l.length ∧ (Lib.cut l [c]).2.1.length ≤ l.length := by
 rcases B1a c l with h | ⟨a, r, h, rfl⟩
 ·rw [B6q h]; simp
 ·rw [A5u h]; simp; omega
theorem C6v {c : UInt8} {a : List UInt8} : Lib.trimSuffix (a ++ [c]) [c] = a := by
 simp [Lib.trimSuffix, Lib.hasSuffix]
theorem B6r (c : UInt8) (l : List UInt8) : (Lib.trimSuffix l [c]).length ≤ l.length := by
 unfold Lib.trimSuffix
 split
 ·simp
 ·exact Nat.le_refl _
end Go.Am
/- AM: texts of messages, line by line. Nothing is assumed. -/
namespace Go.Am
set_option linter.unusedVariables false
theorem B8w {f : Nat → List UInt8} {c : UInt8} : ∀ (k m : Nat), c ∈ jt f k m → c = 44 ∨ ∃ i, i < k ∧ c ∈ f (m + i)
 | 0, m, h => by simp [jt] at h
 | k + 1, m, h => by
  simp only [jt, List.mem_append] at h
  rcases h with (h | h) | h
  ·left
   cases e : m == 0 <;> simp [e] at h
   exact h
  ·exact .inr ⟨0, by omega, h⟩
  ·rcases B8w k (m + 1) h with h | ⟨i, h1, h2⟩
   ·exact .inl h
   ·exact .inr ⟨i + 1, by omega, by rw [show m + (i + 1) = m + 1 + i from by omega]; exact h2⟩
theorem D20 {c : UInt8} (h : A14 c = true) : c ≠ 10 ∧ c ≠ 32 ∧ c ≠ 47 := by
 simp only [A14, inB, Bool.and_eq_true, decide_eq_true_eq] at h
 refine ⟨?_, ?_, ?_⟩ <;> (intro e; rw [e] at h; simp at h)
theorem C3v {n : Nat} {c : UInt8} (h : c ∈ dl n) : c ≠ 10 ∧ c ≠ 32 ∧ c ≠ 47 := D20 ((A6l n).1 c h)
theorem A8h {n : Int} {c : UInt8} (h : c ∈ (J3 n).toList) : c ≠ 10 := by
 rw [U3] at h
 split at h
 ·rcases List.mem_cons.1 h with rfl | h
  ·decide
  ·exact (C3v h).1
 ·exact (C3v h).1
theorem C6w {s : ByteArray} (h : F5 s = true) : ∀ b ∈ s.toList, 32 ≤ b.toNat := by
 intro b hb
 obtain ⟨i, hi, hg⟩ := List.mem_iff_getElem.1 hb
 simp only [F5, Bool.and_eq_true, A2g] at h
 have := h.1 i (by rw [← M4]; exact hi)
 rw [byteOf, List.getElem?_eq_getElem hi, hg] at this
 simp only [inB, Option.getD_some, Bool.and_eq_true, decide_eq_true_eq] at this
 omega
theorem C3w {l : Rows} {m : Int} (h : D5 l m = true) {i : Nat} (hi : i < l.length) : O3 (cT (J4 l i) 0) = true := by
 simp only [D5, A7n, Bool.and_eq_true, A2g] at h
 exact (h.1 i hi).1
theorem C3x : ∀ (d : Nat) (v : Row), 0 < G9 d v → ∀ c ∈ (I6 d v).toList, c ≠ 10
 | 0, v, h => by simp [G9] at h
 | d + 1, v, h => by
  intro c hc
  have hk := (A0n h).kids
  have kid : ∀ i, i < (cR v 4).length → ∀ c ∈ (I6 d (J4 (cR v 4) i)).toList, c ≠ 10 := fun i hi => C3x d _ (hk _ (A4b hi))
  rcases A2n (A0n h).shape with h1 | h2 | h3 | h4 | h5
  ·have ht := (A4c (A0n h).shape h1).2
   rw [B9y h1] at hc
   rcases List.mem_cons.1 hc with rfl | hc
   ·decide
   ·rcases List.mem_append.1 hc with hc | hc
    ·obtain ⟨b, hb, hc⟩ := List.mem_flatMap.1 hc
     have hb := C6w ht b hb
     unfold esc at hc
     split at hc
     ·simp only [List.mem_cons, List.not_mem_nil, or_false] at hc
      rcases hc with rfl | rfl
      ·decide
      ·intro e; rw [e] at hb; simp at hb
     ·simp only [List.mem_cons, List.not_mem_nil, or_false] at hc
      subst hc
      intro e; rw [e] at hb; simp at hb
    ·simp at hc; subst hc; decide
  ·rw [B9z h2] at hc
   exact A8h hc
  ·rw [C00 h3] at hc
   intro e
   subst e
   cases h : cN v 2 == 1 <;> simp [h] at hc
  ·rw [C01 h4] at hc
   rcases List.mem_cons.1 hc with rfl | hc
   ·decide
   ·rcases List.mem_append.1 hc with hc | hc
    ·rcases B8w _ _ hc with rfl | ⟨i, hi, hc⟩
     ·decide
     ·rw [Nat.zero_add, A93 h4] at hc
      exact kid i hi c hc
    ·simp at hc; subst hc; decide
  ·obtain ⟨hl, hn⟩ := A2m (A0n h).shape h5
   rw [C02 h5] at hc
   rcases List.mem_cons.1 hc with rfl | hc
   ·decide
   ·rcases List.mem_append.1 hc with hc | hc
    ·rcases B8w _ _ hc with rfl | ⟨i, hi, hc⟩
     ·decide
     ·rw [Nat.zero_add, B2x h5] at hc
      rcases List.mem_append.1 hc with hc | hc
      ·exact (A0d ((A32 (C3w hn (by omega))).1 c hc)).2.2.2.2.2.2.1
      ·rcases List.mem_cons.1 hc with rfl | hc
       ·decide
       ·exact kid i hi c hc
    ·simp at hc; subst hc; decide
def Y5 (ls : List (List UInt8)) : List UInt8 := ls.flatMap fun l => l ++ [10]
theorem B8x (a b : List (List UInt8)) : Y5 (a ++ b) = Y5 a ++ Y5 b := by simp [Y5]
theorem A0e (a : List UInt8) (b : List (List UInt8)) : Y5 (a :: b) = a ++ 10 :: Y5 b := by simp [Y5]
theorem A8i : ∀ {ls : List (List UInt8)}, (∀ l ∈ ls, (10 : UInt8) ∉ l) → spl 10 (Y5 ls) = ls ++ [[]]
 | [], _ => rfl
 | l :: ls, h => by rw [A0e, A1v (h l (by simp)), A8i fun x hx => h x (by simp [hx])]; rfl
theorem B6s (c : UInt8) : ∀ x : List UInt8, spl c (x ++ [c]) = spl c x ++ [[]]
 | [] => by simp [spl]
 | b :: l => by
  have ih := B6s c l
  obtain ⟨y, ys, e⟩ := A4d c l
  simp only [List.cons_append, spl, ih, e]
  split <;> rfl
theorem B2y : ∀ {ls : List (List UInt8)}, ls ≠ [] → ∃ x, Y5 ls = x ++ [10]
 | [l], _ => ⟨l, by simp [Y5]⟩
 | l :: m :: ls, _ => by
  obtain ⟨x, e⟩ := B2y (ls := m :: ls) (by simp)
  exact ⟨l ++ 10 :: x, by rw [A0e, e]; simp⟩
theorem C6x {ls : List (List UInt8)} (hn : ls ≠ []) (h : ∀ l ∈ ls, (10 : UInt8) ∉ l) : spl 10 (Lib.trimSuffix (Y5 ls) [10]) = ls := by
 obtain ⟨x, e⟩ := B2y hn
 have e2 := A8i h
 rw [e, B6s] at e2
 rw [e, C6v]
 exact List.append_cancel_right e2
def sp : ByteArray := ({ data := #[32] } : ByteArray)
def nl : ByteArray := ({ data := #[10] } : ByteArray)
def A0l (x : Row) : ByteArray := J3 (cN x 0) ++ sp ++ J3 (cN x 1) ++ nl
def Y6 (x : Row) : ByteArray := J3 (cN x 0) ++ sp ++ J3 (cN x 1) ++ sp ++ I6 6 (x.drop 2) ++ nl
def A7r (n : Int) (s : ByteArray) (r : Int) : ByteArray := (bif n == 2 then ({ data := #[108, 105, 115, 116, 32] } : ByteArray) else ({ data := #[116, 101, 108, 108, 32] } : ByteArray)) ++ s ++ sp ++ J3 r ++ nl
def A1h (l : Rows) (a : ByteArray) : ByteArray := l.foldl (fun a x => a ++ A0l x) a
def A6m (l : Rows) (a : ByteArray) : ByteArray := l.foldl (fun a x => a ++ Y6 x) a
def R8 (m : Row) : ByteArray := bif X6 m then A6m (cR m 3) (A1h (cR m 4) (A7r (cN m 0) (cT m 1) (cN m 2))) else ({ data := #[] } : ByteArray)
def A6n (x : Row) : List UInt8 := (J3 (cN x 0)).toList ++ 32 :: (J3 (cN x 1)).toList
def A2o (x : Row) : List UInt8 := (J3 (cN x 0)).toList ++ 32 :: ((J3 (cN x 1)).toList ++ 32 :: (I6 6 (x.drop 2)).toList)
def headW (n : Int) : List UInt8 := bif n == 2 then [108, 105, 115, 116] else [116, 101, 108, 108]
def A7s (n : Int) (s : ByteArray) (r : Int) : List UInt8 := headW n ++ 32 :: (s.toList ++ 32 :: (J3 r).toList)
theorem B4l : sp.toList = [32] := M5 32
theorem B4m : nl.toList = [10] := M5 10
theorem B4n (x : Row) : (A0l x).toList = A6n x ++ [10] := by simp [A0l, A6n, Q8, B4l, B4m]
theorem B22 (x : Row) : (Y6 x).toList = A2o x ++ [10] := by simp [Y6, A2o, Q8, B4l, B4m]
theorem C1s (n : Int) (s : ByteArray) (r : Int) : (A7r n s r).toList = A7s n s r ++ [10] := by
 unfold A7r A7s headW
 cases n == 2 <;> simp only [cond_true, cond_false, Q8, B4l, B4m] <;> simp only [ByteArray.toList_eq] <;> simp
theorem B1c : ∀ (l : Rows) (a : ByteArray), (A1h l a).toList = a.toList ++ Y5 (l.map A6n)
 | [], a => by simp [A1h, Y5]
 | x :: l, a => by
  have ih := B1c l (a ++ A0l x)
  rw [show A1h (x :: l) a = A1h l (a ++ A0l x) from rfl, ih, Q8, B4n, List.map_cons, A0e]
  simp
theorem A94 : ∀ (l : Rows) (a : ByteArray), (A6m l a).toList = a.toList ++ Y5 (l.map A2o)
 | [], a => by simp [A6m, Y5]
 | x :: l, a => by
  have ih := A94 l (a ++ Y6 x)
  rw [show A6m (x :: l) a = A6m l (a ++ Y6 x) from rfl, ih, Q8, B22, List.map_cons, A0e]
  simp
theorem B2z {m : Row} (h : X6 m = true) : (R8 m).toList = Y5 (A7s (cN m 0) (cT m 1) (cN m 2) :: ((cR m 4).map A6n ++ (cR m 3).map A2o)) := by
 rw [R8, h, cond_true, A94, B1c, C1s, A0e, B8x]
 simp
def A6o : List UInt8 → Nat → Option Nat
 | [], x => some x
 | c :: l, x => bif A14 c then A6o l (x * 10 + (c.toNat - 48)) else none
def A4p (l : List UInt8) : Bool := decide (1 ≤ l.length) && decide (l.length ≤ 9) && !(decide (1 < l.length) && (l[0]?.getD 0 == 48))
def A4q (l : List UInt8) : Option Nat := bif A4p l then A6o l 0 else none
theorem C03 : ∀ (l : List UInt8) (x y k : Nat), x < 10 ^ k → A6o l x = some y → y < 10 ^ (k + l.length)
 | [], x, y, k, hx, h => by simp only [A6o, Option.some.injEq] at h; subst h; exact hx
 | c :: l, x, y, k, hx, h => by
  unfold A6o at h
  cases hc : A14 c with
  | false => simp [hc] at h
  | true =>
   simp only [hc, cond_true] at h
   simp only [A14, inB, Bool.and_eq_true, decide_eq_true_eq] at hc
   have := C03 l _ y (k + 1) (by rw [Nat.pow_succ]; omega) h
   rw [List.length_cons, show k + (l.length + 1) = k + 1 + l.length from by omega]
   exact this
theorem C04 {l : List UInt8} {x : Nat} (h : A4q l = some x) : x < 1000000000 := by
 unfold A4q at h
 cases hg : A4p l with
 | false => simp [hg] at h
 | true =>
  simp only [hg, cond_true] at h
  simp only [A4p, Bool.and_eq_true, decide_eq_true_eq] at hg
  have h1 := C03 l 0 x 0 (by decide) h
  have h2 : 10 ^ (0 + l.length) ≤ 10 ^ 9 := Nat.pow_le_pow_right (by decide) (by omega)
  omega
theorem B6t : ∀ (l : List UInt8) (x : Nat), (∀ c ∈ l, A14 c = true) → A6o l x = some (A0m l x)
 | [], x, _ => rfl
 | c :: l, x, h => by
  rw [A6o, h c (by simp), cond_true, B6t l _ fun d hd => h d (by simp [hd])]
  rfl
theorem C3y : ∀ (n : Nat), 1 ≤ n → ∃ c l, dl n = c :: l ∧ c ≠ 48 := by
 intro n
 induction n using Nat.strongRecOn with
 | ind n ih =>
  intro h
  by_cases h10 : n < 10
  ·refine ⟨_, _, A59 h10, fun e => ?_⟩
   have := congrArg UInt8.toNat e
   rw [B4h h10] at this
   simp at this
   omega
  ·obtain ⟨c, l, e, hc⟩ := ih (n / 10) (by omega) (by omega)
   exact ⟨c, l ++ [UInt8.ofNat (48 + n % 10)], by rw [B8s (by omega), e]; rfl, hc⟩
theorem C6y {n : Nat} (h : n < 1000000000) : A4q (dl n) = some n := by
 obtain ⟨h1, h2, h3⟩ := A6l n
 have h4 := B8t 8 n (by omega)
 have hg : A4p (dl n) = true := by
  simp only [A4p, Bool.and_eq_true, decide_eq_true_eq, Bool.not_eq_true', Bool.and_eq_false_iff, decide_eq_false_iff_not]
  refine ⟨⟨h3, h4⟩, ?_⟩
  by_cases h10 : n < 10
  ·left; rw [A59 h10]; simp
  ·right
   obtain ⟨c, l, e, hc⟩ := C3y n (by omega)
   rw [e]
   simpa using hc
 rw [A4q, hg, cond_true, B6t _ _ h1, h2]
theorem B6u {n : Int} (h0 : 0 ≤ n) (h1 : n ≤ 1000000) : A4q (J3 n).toList = some n.natAbs := by
 rw [U3, if_neg (by omega)]
 exact C6y (by omega)
end Go.Am
