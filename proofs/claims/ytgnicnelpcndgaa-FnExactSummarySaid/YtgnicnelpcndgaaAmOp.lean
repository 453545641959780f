/- AM: an operation that the checker passes does what the evaluator says. Nothing is assumed. -/
import Derived.Test.YtgnicnelpcndgaaAmGeq
set_option linter.unusedVariables false
set_option linter.unusedSimpArgs false
namespace Go.Am
def chkZero (P : Program) (t : TypeId) (zero : Row) : Bool := match P.info? t with
  | some ti => (match ti.zero with | some z => chkZ zero z.cells.toList | none => false)
  | none => false
def sizeIs (P : Program) (t : TypeId) (n : Nat) : Bool := match P.info? t with | some ti => ti.size == n | none => false
def isU8 (P : Program) (t : TypeId) : Bool := match P.underlying t with | some (.int .u8) => true | _ => false
def isStr (P : Program) (t : TypeId) : Bool := match P.underlying t with | some .string => true | _ => false
def chkOp (P : Program) (sg : Sigs) (ao : AOp) (o : Op) : Bool := match ao, o with
  | .mv x, .move y => chkOpd sg x y
  | .mv x, .assign y => chkOpd sg x y
  | .pick c x y, .pick c' x' y' => chkOpd sg c c' && chkOpd sg x x' && chkOpd sg y y'
  | .box x, .box _ x' => chkOpd sg x x'
  | .alloc zero, .alloc t => chkZero P t zero
  | .build zero ps, .build t ps' => chkZero P t zero && (match P.underlying t with
    | some (.struct fs) => fs.toList.all (fun f => (P.info? f.type).isSome) && chkParts sg (fieldPlace P fs) ps ps'.toList
    | some (.array _ e) => (match P.info? e with | some te => chkParts sg (fun i => some (i * te.size, te.size)) ps ps'.toList | none => false)
    | _ => false)
  | .lit wd rows ps, .buildSlice t len ps' => (match P.underlying t with
    | some (.slice e) => (match P.info? e with
      | some ti => (match ti.zero with
        | some z => ti.size == wd && z.cells.size == wd && rows.all (fun r => chkZ r z.cells.toList && r.length == wd) && rows.length == len && decide (len * wd ≤ 2 ^ 24) && chkLits sg ps ps'.toList
        | none => false)
      | none => false)
    | _ => false)
  | .load agg ks x, .load t x' => chkOpd sg x x' && aggB P t == some agg && sizeIs P t ks.length
  | .store k x y, .store t x' y' => chkOpd sg x x' && chkOpd sg y y' && sizeIs P t k
  | .bin op x y, .binOp op' _ x' y' _ => op == op' && chkOpd sg x x' && chkOpd sg y y'
  | .beq neg x y, .binOp op t x' y' _ => chkOpd sg x x' && chkOpd sg y y' && op == (if neg then .neq else .eql) && (match P.underlying t with | some .bool => true | _ => false)
  | .geq neg ks x y, .binOp op t x' y' _ => chkOpd sg x x' && chkOpd sg y y' && op == (if neg then .neq else .eql) && !P.stoodInHeld t && !P.eqGuardType P.depth t && (match P.underlying t with
    | some (.struct fs) => chkFields P fs.toList ks 0
    | _ => false)
  | .un op x, .unOp op' _ x' => op == op' && chkOpd sg x x'
  | .conv k x, .convert src dst x' => chkOpd sg x x' && (match k with
    | .int k => (P.underlying src).isSome && (match P.underlying dst with | some (.int k') => k == k' | _ => false)
    | .same => isStr P src && isStr P dst
    | .intStr => (match P.underlying src with | some (.int _) => true | _ => false) && isStr P dst
    | .strBytes => isStr P src && (match P.underlying dst with | some (.slice e) => isU8 P e | _ => false)
    | .bytesStr => isStr P dst && (match P.underlying src with | some (.slice e) => isU8 P e | _ => false))
  | .fn f caps, .makeFunc (.func f') first cs => f == f' && first.toList.isEmpty && chkX sg f && chkOpds sg caps cs.toList
  | .mk zero bytes x y, .makeSlice t x' y' => chkOpd sg x x' && chkOpd sg y y' && (match P.underlying t with
    | some (.slice e) => chkZero P e zero && (match P.info? e with | some ti => ti.size == zero.length && ti.bytes == bytes | none => false)
    | _ => false)
  | .slc wd x lo hi, .slice t x' lo' hi' none => chkOpd sg x x' && chkOpt sg lo lo' && chkOpt sg hi hi' && (match wd, P.underlying t with
    | none, some .string => true
    | some wd, some (.slice e) => sizeIs P e wd
    | _, _ => false)
  | .fad off x, .fieldAddr s x' f => chkOpd sg x x' && (match P.underlying s with
    | some (.struct fs) => (match fs[f]? with
      | some fd => fd.offset == off && (match P.info? fd.type with | some ti => ti.size != 0 | none => false)
      | none => false)
    | _ => false)
  | .fld agg off n x, .field s x' f => chkOpd sg x x' && (match P.underlying s with
    | some (.struct fs) => (match fs[f]? with
      | some fd => fd.offset == off && sizeIs P fd.type n && aggB P fd.type == some agg
      | none => false)
    | _ => false)
  | .iad wd x y, .indexAddr t x' y' => chkOpd sg x x' && chkOpd sg y y' && (match P.underlying t with | some (.slice e) => sizeIs P e wd | _ => false)
  | .idx x y, .index t x' y' => chkOpd sg x x' && chkOpd sg y y' && isStr P t
  | .ext x i, .extract x' i' => chkOpd sg x x' && i == i'
  | .call f modes fz _ xs, .call c => (match c.callee with
    | .value f' => !fz && chkCallee sg f f' modes xs.length && chkOpds sg xs c.args.toList
    | _ => false)
  | .app wd bytes x y, .call c => (match c.callee, c.args.toList, c.argTypes.toList with
    | .builtin .append, [x', y'], [t, t2] => chkOpd sg x x' && chkOpd sg y y' && (match P.underlying t, P.underlying t2 with
      | some (.slice e), some (.slice _) => (match P.info? e with
        | some ti => (match ti.zero with | some z => z.cells.size == wd && ti.size == wd && ti.bytes == bytes && bytes != 0 | none => false)
        | none => false)
      | _, _ => false)
    | _, _, _ => false)
  | .len str x, .call c => (match c.callee, c.args.toList, c.argTypes.toList with
    | .builtin .len, [x'], t :: _ => chkOpd sg x x' && (match P.underlying t with
      | some .string => str
      | some (.slice _) => !str
      | _ => false)
    | _, _, _ => false)
  | .mx x y, .call c => (match c.callee, c.args.toList with
    | .builtin .max, [x', y'] => chkOpd sg x x' && chkOpd sg y y'
    | _, _ => false)
  | _, _ => false
section
variable {P : Program} {sg : Sigs} {T : Table} {keep : List Nat} {N : Nat} {args : Nat → Value} {w0 : World} {c0 : List Nat} {Z : Nat → Prop}
theorem chkZero_some {t : TypeId} {zero : Row} (h : chkZero P t zero = true) : ∃ ti z, P.info? t = some ti ∧ ti.zero = some z ∧ chkZ zero z.cells.toList = true := by
  unfold chkZero at h
  split at h
  · rename_i ti hi
    split at h
    · rename_i z hz; exact ⟨ti, z, hi, hz, h⟩
    · simp at h
  · simp at h
theorem sizeIs_some {t : TypeId} {n : Nat} (h : sizeIs P t n = true) : ∃ ti, P.info? t = some ti ∧ ti.size = n := by
  unfold sizeIs at h
  split at h
  · rename_i ti hi; exact ⟨ti, hi, by simpa using h⟩
  · simp at h
theorem isU8some {t : TypeId} (h : isU8 P t = true) : P.underlying t = some (.int .u8) := by
  unfold isU8 at h
  split at h
  · assumption
  · simp at h
theorem isStr_some {t : TypeId} (h : isStr P t = true) : P.underlying t = some .string := by
  unfold isStr at h
  split at h
  · assumption
  · simp at h
theorem ret1some {R : Type} {r : R} {K : AV → Mem → Option R} {m : Mem} {x : Option AV} (h : ret1 K m x = some r) : ∃ y, x = some y ∧ K y m = some r := by
  unfold ret1 at h
  split at h
  · exact ⟨_, rfl, h⟩
  · simp at h
abbrev Done (P : Program) (sg : Sigs) (keep : List Nat) (N : Nat) (args : Nat → Value) (w0 : World) (c0 : List Nat) (Z : Nat → Prop) (o : Oper) (st : St) {R : Type} (K : AV → Mem → Option R) (r : R) : Prop :=
  ∃ av m', K av m' = some r ∧ OpOk P sg keep N args w0 c0 Z o st av m'
theorem evalOp_ok {R : Type} {r : R} {o : Oper} {st : St} {ao : AOp} {K : AV → Mem → Option R} (hT : Good P sg T) (hc : chkOp P sg ao o.op = true) (h : evalOp T st.t st.m ao K = some r) :
    Done P sg keep N args w0 c0 Z o st K r := by
  generalize hop : o.op = op at hc
  unfold chkOp at hc
  split at hc
  · exact ⟨_, _, by simpa only [evalOp] using h, mv_ok hc (.inl hop)⟩
  · exact ⟨_, _, by simpa only [evalOp] using h, mv_ok hc (.inr hop)⟩
  · rename_i c x y c' x' y'
    simp only [Bool.and_eq_true] at hc
    simp only [evalOp] at h
    split at h
    · rename_i b ec
      refine ⟨_, _, ?_, pick_ok hc.1.1 hc.1.2 hc.2 hop ec⟩
      cases b <;> simpa using h
    · simp at h
  · exact box_ok hc hop h
  · obtain ⟨ti, z, h1, h2, h3⟩ := chkZero_some hc
    exact alloc_ok h1 h2 h3 hop h
  · rename_i zero ps t ps'
    simp only [Bool.and_eq_true] at hc
    obtain ⟨hc, hc'⟩ := hc
    obtain ⟨ti, z, h1, h2, h3⟩ := chkZero_some hc
    split at hc'
    · rename_i fs hu
      simp only [Bool.and_eq_true] at hc'
      exact build_ok h1 h2 h3 hc'.2 (.inl ⟨fs, hu, hc'.1, rfl⟩) hop h
    · rename_i n e hu
      split at hc'
      · rename_i te he
        exact build_ok h1 h2 h3 hc' (.inr ⟨n, e, te, hu, he, rfl⟩) hop h
      · simp at hc'
    · simp at hc'
  · rename_i wd rows ps t len ps'
    split at hc
    · rename_i e hu
      split at hc
      · rename_i ti hi
        split at hc
        · rename_i z hz
          simp only [Bool.and_eq_true, beq_iff_eq, List.all_eq_true, decide_eq_true_eq] at hc
          obtain ⟨⟨⟨⟨⟨a1, a2⟩, a3⟩, a4⟩, a5⟩, a6⟩ := hc
          exact lit_ok hu hi hz a1 a2 a3 a4 a5 a6 hop h
        · simp at hc
      · simp at hc
    · simp at hc
  · rename_i agg ks x t x'
    simp only [Bool.and_eq_true, beq_iff_eq] at hc
    obtain ⟨⟨a1, a2⟩, a3⟩ := hc
    obtain ⟨ti, hi, hs⟩ := sizeIs_some a3
    exact load_ok a1 a2 hi hs.symm hop h
  · simp only [Bool.and_eq_true] at hc
    obtain ⟨⟨a1, a2⟩, a3⟩ := hc
    obtain ⟨ti, hi, hs⟩ := sizeIs_some a3
    exact store_ok a1 a2 hi hs.symm hop h
  · simp only [Bool.and_eq_true, beq_iff_eq] at hc
    obtain ⟨⟨rfl, a2⟩, a3⟩ := hc
    simp only [evalOp] at h
    split at h
    · rename_i a b ea eb
      obtain ⟨z, hz, g⟩ := bin_ok (K := fun z => K (.v z) st.m) a2 a3 hop ea eb h
      exact ⟨_, _, hz, g⟩
    · simp at h
  · rename_i neg x y op t x' y' t'
    simp only [Bool.and_eq_true, beq_iff_eq] at hc
    obtain ⟨⟨⟨a1, a2⟩, a3⟩, a4⟩ := hc
    split at a4
    · rename_i hu
      simp only [evalOp] at h
      split at h
      · rename_i a b ea eb
        exact ⟨_, _, h, beq_ok a1 a2 hu a3 hop ea eb⟩
      · simp at h
    · simp at a4
  · rename_i neg ks x y op t x' y' t'
    simp only [Bool.and_eq_true, beq_iff_eq, Bool.not_eq_true'] at hc
    obtain ⟨⟨⟨⟨⟨a1, a2⟩, a3⟩, a4⟩, a5⟩, a6⟩ := hc
    split at a6
    · rename_i fs hu
      simp only [evalOp] at h
      split at h
      · rename_i a b ea eb
        split at h
        · rename_i z hz
          exact ⟨_, _, h, geq_ok a1 a2 hu a4 a5 a6 a3 hop ea eb hz⟩
        · simp at h
      · simp at h
    · simp at a6
  · simp only [Bool.and_eq_true, beq_iff_eq] at hc
    obtain ⟨rfl, a2⟩ := hc
    simp only [evalOp] at h
    split at h
    · rename_i a ea
      obtain ⟨z, hz, g⟩ := un_ok (K := fun z => K (.v z) st.m) a2 hop ea h
      exact ⟨_, _, hz, g⟩
    · simp at h
  · rename_i k x src dst x'
    simp only [Bool.and_eq_true] at hc
    obtain ⟨a1, a2⟩ := hc
    cases k with
    | int k =>
      simp only [Bool.and_eq_true] at a2
      obtain ⟨d, hd⟩ := Option.isSome_iff_exists.1 a2.1
      have a3 := a2.2
      split at a3
      · rename_i k' hk
        have : k = k' := by simpa using a3
        subst this
        simp only [evalOp] at h
        split at h
        · rename_i heq ea; cases heq; exact ⟨_, _, h, conv_int_ok a1 hd hk hop ea⟩
        all_goals simp_all
      · simp at a3
    | same =>
      simp only [Bool.and_eq_true] at a2
      simp only [evalOp] at h
      split at h
      · simp_all
      · rename_i ea; exact ⟨_, _, h, conv_str_ok a1 (isStr_some a2.1) (isStr_some a2.2) hop ea⟩
      all_goals simp_all
    | intStr =>
      simp only [Bool.and_eq_true] at a2
      have a3 := a2.1
      split at a3
      · rename_i k' hk
        simp only [evalOp] at h
        split at h
        · simp_all
        · simp_all
        · rename_i ea; exact ⟨_, _, h, conv_intStr_ok a1 hk (isStr_some a2.2) hop ea⟩
        all_goals simp_all
      · simp at a3
    | strBytes =>
      simp only [Bool.and_eq_true] at a2
      have a3 := a2.2
      split at a3
      · rename_i e he
        simp only [evalOp] at h
        split at h
        · simp_all
        · simp_all
        · simp_all
        · rename_i ea; exact strBytes_ok a1 (isStr_some a2.1) he (isU8some a3) hop ea h
        all_goals simp_all
      · simp at a3
    | bytesStr =>
      simp only [Bool.and_eq_true] at a2
      have a3 := a2.2
      split at a3
      · rename_i e he
        exact bytesStr_ok a1 he (isU8some a3) (isStr_some a2.1) hop h
      · simp at a3
  · rename_i f caps f' first cs
    simp only [Bool.and_eq_true, beq_iff_eq] at hc
    obtain ⟨⟨⟨rfl, a2⟩, a3⟩, a4⟩ := hc
    have hf : first = #[] := by
      apply Array.ext'
      simpa using a2
    exact ⟨_, _, by simpa only [evalOp] using h, fn_ok a3 (fun hs c a w hi => by simpa using chkOpds_ok a4 hi) hf hop⟩
  · rename_i zero bytes x y t x' y'
    simp only [Bool.and_eq_true] at hc
    obtain ⟨⟨a1, a2⟩, a3⟩ := hc
    split at a3
    · rename_i e hu
      simp only [Bool.and_eq_true] at a3
      obtain ⟨ti, z, h1, h2, h3⟩ := chkZero_some a3.1
      have a4 := a3.2
      rw [h1] at a4
      simp only [Bool.and_eq_true, beq_iff_eq] at a4
      exact mk_ok a1 a2 hu h1 h2 h3 a4.1 a4.2 hop h
    · simp at a3
  · rename_i wd x lo hi t x' lo' hi'
    simp only [Bool.and_eq_true] at hc
    obtain ⟨⟨⟨a1, a2⟩, a3⟩, a4⟩ := hc
    split at a4
    · rename_i hu
      simp only [evalOp] at h
      split at h
      · rename_i s ex
        split at h
        · rename_i l hh el eh
          obtain ⟨hc, h⟩ := tst_some h
          exact ⟨_, _, h, cutS_ok a1 a2 a3 hu hop ex el eh hc⟩
        · simp at h
      · simp_all
      · simp at h
    · rename_i wd e hu
      obtain ⟨ti, hi', hs⟩ := sizeIs_some a4
      simp only [evalOp] at h
      split at h
      · simp_all
      · rename_i wd2 wd' rows heq ex
        cases heq
        cases hb : Nat.beq wd' wd with
        | false => simp [hb] at h
        | true =>
          simp only [hb, cond_true] at h
          have hb := Nat.eq_of_beq_eq_true hb
          split at h
          · rename_i l hh el eh
            obtain ⟨hc, h⟩ := tst_some h
            exact ⟨_, _, h, cutF_ok a1 a2 a3 hu hi' hop ex (hs.trans hb.symm) el eh hc⟩
          · simp at h
      · simp at h
    · simp at a4
  · rename_i off x s x' f
    simp only [Bool.and_eq_true] at hc
    obtain ⟨a1, a2⟩ := hc
    split at a2
    · rename_i fs hu
      split at a2
      · rename_i fd hf
        simp only [Bool.and_eq_true, beq_iff_eq] at a2
        obtain ⟨a2, a3⟩ := a2
        split at a3
        · rename_i ti hi
          have hz : ti.size ≠ 0 := by simpa using a3
          simp only [evalOp] at h
          split at h
          · rename_i id i c ex; exact ⟨_, _, h, fad_ok a1 hu hf hi hz a2 hop (.inl ⟨_, _, _, ex, rfl⟩)⟩
          · rename_i row c ex; exact ⟨_, _, h, fad_ok a1 hu hf hi hz a2 hop (.inr ⟨_, _, ex, rfl⟩)⟩
          · simp at h
        · simp at a3
      · simp at a2
    · simp at a2
  · rename_i agg off n x s x' f
    simp only [Bool.and_eq_true] at hc
    obtain ⟨a1, a2⟩ := hc
    split at a2
    · rename_i fs hu
      split at a2
      · rename_i fd hf
        simp only [Bool.and_eq_true, beq_iff_eq] at a2
        obtain ⟨⟨a2, a3⟩, a4⟩ := a2
        obtain ⟨ti, hi, hs⟩ := sizeIs_some a3
        simp only [evalOp] at h
        split at h
        · rename_i xs ex
          cases hb : Nat.ble (off + n) xs.length with
          | false => simp [hb] at h
          | true =>
            simp only [hb, cond_true] at h
            obtain ⟨y, hy, h⟩ := ret1some h
            exact ⟨_, _, h, fld_ok a1 hu hf hi hs a2 a4 hop ex (Nat.le_of_ble_eq_true hb) hy⟩
        · simp at h
      · simp at a2
    · simp at a2
  · rename_i wd x y t x' y'
    simp only [Bool.and_eq_true] at hc
    obtain ⟨⟨a1, a2⟩, a3⟩ := hc
    split at a3
    · rename_i e hu
      obtain ⟨ti, hi, hs⟩ := sizeIs_some a3
      simp only [evalOp] at h
      split at h
      · rename_i i id ei ex
        split at h
        · rename_i n hn
          cases hb : Nat.beq n.wd wd with
          | false => simp [hb] at h
          | true =>
            simp only [hb, cond_true] at h
            have hb := Nat.eq_of_beq_eq_true hb
            obtain ⟨ht, h⟩ := tst_some h
            simp only [Bool.and_eq_true, decide_eq_true_eq] at ht
            exact ⟨_, _, h, iad_ok a1 a2 hu hi hop ei ht.1 (.inl ⟨id, n, ex, hn, by rw [hb, hs], ht.2, rfl⟩)⟩
        · simp at h
      · rename_i i wd' rows ei ex
        cases hb : Nat.beq wd' wd with
        | false => simp [hb] at h
        | true =>
          simp only [hb, cond_true] at h
          have hb := Nat.eq_of_beq_eq_true hb
          obtain ⟨ht, h⟩ := tst_some h
          obtain ⟨row, hr, h⟩ := look_some h
          exact ⟨_, _, h, iad_ok a1 a2 hu hi hop ei (of_decide_eq_true ht) (.inr ⟨rows, row, by rw [ex, hb, hs], hr, rfl⟩)⟩
      · simp at h
    · simp at a3
  · rename_i x y t x' y'
    simp only [Bool.and_eq_true] at hc
    obtain ⟨⟨a1, a2⟩, a3⟩ := hc
    simp only [evalOp] at h
    split at h
    · rename_i i s ei ex
      obtain ⟨ht, h⟩ := tst_some h
      unfold byteAt at h
      split at h
      · rename_i b hb
        exact ⟨_, _, h, idx_ok a1 a2 (isStr_some a3) hop ei ex (of_decide_eq_true ht) hb⟩
      · simp at h
    · simp at h
  · rename_i x i x' i'
    simp only [Bool.and_eq_true, beq_iff_eq] at hc
    obtain ⟨a1, rfl⟩ := hc
    simp only [evalOp] at h
    split at h
    · rename_i xs ex
      obtain ⟨y, hy, h⟩ := ret1some h
      exact ⟨_, _, h, ext_ok a1 hop ex hy⟩
    · simp at h
  · rename_i f modes fz res xs c
    obtain ⟨callee, cargs, ctys⟩ := c
    simp only at hc
    split at hc
    · rename_i f'
      simp only [Bool.and_eq_true, Bool.not_eq_true'] at hc
      obtain ⟨⟨rfl, a2⟩, a3⟩ := hc
      exact call_ok hT a2 a3 hop h
    · simp at hc
  · rename_i wd bytes x y c
    obtain ⟨callee, cargs, ctys⟩ := c
    simp only at hc
    split at hc
    · rename_i x' y' t t2 e1 e2
      have e1 : cargs = #[x', y'] := by apply Array.ext'; simpa using e1
      have e2 : ctys = #[t, t2] := by apply Array.ext'; simpa using e2
      subst e1
      subst e2
      simp only [Bool.and_eq_true] at hc
      obtain ⟨⟨a1, a2⟩, a3⟩ := hc
      split at a3
      · rename_i e e2 hu hu2
        split at a3
        · rename_i ti hi
          split at a3
          · rename_i z hz
            simp only [Bool.and_eq_true, beq_iff_eq, bne_iff_ne, ne_eq] at a3
            obtain ⟨⟨⟨b1, b2⟩, b3⟩, b4⟩ := a3
            exact app_ok a1 a2 hu hu2 hi hz b1 b2 b3 b4 hop h
          · simp at a3
        · simp at a3
      · simp at a3
    · simp at hc
  · rename_i str x c
    obtain ⟨callee, cargs, ctys⟩ := c
    simp only at hc
    split at hc
    · rename_i x' t l e1 e2
      have e1 : cargs = #[x'] := by apply Array.ext'; simpa using e1
      subst e1
      simp only [Bool.and_eq_true] at hc
      obtain ⟨a1, a2⟩ := hc
      have ht : ctys[0]? = some t := by rw [← Array.getElem?_toList, e2]; rfl
      simp only [evalOp] at h
      split at h
      · rename_i n hn
        refine ⟨_, _, h, len_ok a1 ht hop ?_ hn⟩
        split at a2
        · rename_i hu; exact .inl ⟨a2, hu⟩
        · rename_i e hu; exact .inr ⟨by simpa using a2, e, hu⟩
        · simp at a2
      · simp at h
    · simp at hc
  · rename_i x y c
    obtain ⟨callee, cargs, ctys⟩ := c
    simp only at hc
    split at hc
    · rename_i x' y' e1
      have e1 : cargs = #[x', y'] := by apply Array.ext'; simpa using e1
      subst e1
      simp only [Bool.and_eq_true] at hc
      simp only [evalOp] at h
      split at h
      · rename_i k a k' b ea eb
        unfold sameKind at h
        split at h
        · rename_i hk
          subst hk
          exact ⟨_, _, h, mx_ok hc.1 hc.2 hop ea eb⟩
        · simp at h
      · simp at h
    · simp at hc
  · simp at hc
end
end Go.Am
