/- The abstract machine AM, part B: what it computes keeps the contracts of the program. Nothing is assumed. -/
import Derived.Test.YtefdfdkkbbehiaaGreatDoorAmA
import Derived.Laws.AppendOwn
import Derived.Laws.IdiomStrings
import Derived.Laws.Strings
import Derived.Tactics
set_option linter.unusedVariables false
set_option linter.unusedSimpArgs false
/- AM: cuts of strings and of frozen slices. Nothing is assumed. -/
namespace Go.Am
section
variable {P : Program} {sg : Sigs} {T : Table} {keep : List Nat} {N : Nat} {args : Nat → Value} {w0 : World} {c0 : List Nat} {Z : Nat → Prop}
def chkOpt (sg : Sigs) : Option Opd → Option Operand → Bool
 | none, none => true
 | some x, some y => chkOpd sg x y
 | _, _ => false
theorem bound_ok {st : St} {hs : List Hd} {c : List Nat} {a : Act} {w : World} (hin : SInv sg.X keep N args w0 c0 Z hs c st a w) {x : Option Opd} {y : Option Operand} (h : chkOpt sg x y = true)
  {d i : Int} (hb : boundOf st.t d x = some i) : (y.map a.eval = none ∧ i = d) ∨ y.map a.eval = some (.int .i64 i) := by
 cases x with
 | none => cases y with
  | none => simp [boundOf] at hb; exact .inl ⟨rfl, hb.symm⟩
  | some => simp [chkOpt] at h
 | some x => cases y with
  | none => simp [chkOpt] at h
  | some y =>
   have h1 := chkOpd_ok (x := x) (y := y) h hin
   simp only [boundOf] at hb
   rw [intOf_ok hb] at h1
   exact .inr (by simp [val_of h1])
theorem run_sliceBounds {isS : Bool} {len cap : Nat} {lo hi : Option Value} {l h : Int} {w : World} (hl : (lo = none ∧ l = 0) ∨ lo = some (.int .i64 l)) (hh : (hi = none ∧ h = len) ∨ hi = some (.int .i64 h))
  (h0 : 0 ≤ l) (h1 : l ≤ h) (h2 : h ≤ len) (h3 : len ≤ cap) : (Instr.sliceBounds isS len cap lo hi none).run P w = .ok (l.toNat, h.toNat, cap) w := by
 have hc : 0 ≤ h ∧ h ≤ (cap : Int) := by omega
 have hb : ∀ (x : Int) (y : Nat) (code : BoundsCode), 0 ≤ x → x ≤ y → (Instr.sliceBound (.int .i64 x) y code).run P w = .ok x.toNat w := by
  intro x y code hx hy
  simp [Instr.sliceBound, asIntOf, hx, hy]
 have hln : l ≤ (h.toNat : Int) := by omega
 rcases hl with ⟨rfl, rfl⟩ | rfl <;> rcases hh with ⟨rfl, rfl⟩ | rfl
 ·simp [Instr.sliceBounds]
 ·simp [Instr.sliceBounds, hb h cap _ hc.1 hc.2]
 ·simp [Instr.sliceBounds, hb l len _ h0 (by omega)]
 ·simp [Instr.sliceBounds, hb h cap _ hc.1 hc.2, hb l h.toNat _ h0 hln]
theorem cutS_ok {o : Oper} {st : St} {x : Opd} {lo hi : Option Opd} {x' : Operand} {lo' hi' : Option Operand} {t : TypeId} {s : ByteArray} {l h : Int} (hx : chkOpd sg x x' = true) (hl : chkOpt sg lo lo' = true) (hh : chkOpt sg hi hi' = true)
  (hu : P.underlying t = some .string) (ho : o.op = .slice t x' lo' hi' none) (ex : ev st.t x = .v (.string s)) (el : boundOf st.t 0 lo = some l) (eh : boundOf st.t s.size hi = some h)
  (hc : cutOk l h s.size = true) : OpOk P sg keep N args w0 c0 Z o st (.v (.string (s.extract l.toNat h.toNat))) st.m :=
 pure_ok fun hs cc a w hin => by
  have h1 := chkOpd_ok hx hin
  rw [ex] at h1
  obtain ⟨g0, g1, g2⟩ := cutOk_iff hc
  have hr := run_sliceBounds (P := P) (isS := false) (len := s.size) (cap := s.size) (w := w) (bound_ok hin hl el) (bound_ok hin hh eh) g0 g1 g2 (Nat.le_refl _)
  refine ⟨_, ?_, .v (x := .string (s.extract l.toNat h.toNat)) trivial⟩
  simp [execOp, ho, val_of h1, Instr.sliceAt, Instr.slice, run_underlying hu, hr]
theorem flatten_drop {wd : Nat} {rows : Rows} (hw : ∀ r ∈ rows, r.length = wd) (l : Nat) : (rows.drop l).flatten = rows.flatten.drop (l * wd) := by
 induction l generalizing rows with
 | zero => simp
 | succ l ih => cases rows with
  | nil => simp
  | cons r rs =>
   have h1 := hw r (by simp)
   simp only [List.drop_succ_cons, List.flatten_cons]
   rw [ih fun r h => hw r (by simp [h]), Nat.succ_mul, List.drop_append, List.drop_of_length_le (l := r) (by omega)]
   simp only [List.nil_append]
   congr 1
   omega
theorem flatten_take {wd : Nat} {rows : Rows} (hw : ∀ r ∈ rows, r.length = wd) (l : Nat) : (rows.take l).flatten = rows.flatten.take (l * wd) := by
 induction l generalizing rows with
 | zero => simp
 | succ l ih => cases rows with
  | nil => simp
  | cons r rs =>
   have h1 := hw r (by simp)
   simp only [List.take_succ_cons, List.flatten_cons]
   rw [ih fun r h => hw r (by simp [h]), Nat.succ_mul, List.take_append, List.take_of_length_le (l := r) (by omega)]
   congr 2
   omega
theorem Holds.take {w : World} {b off : Nat} {vs : List Value} (h : Holds w b off vs) (k : Nat) : Holds w b off (vs.take k) := by
 obtain ⟨cs, e, f, h1, h2⟩ := h
 refine ⟨cs, e, f, h1, fun j v hj => h2 j v ?_⟩
 rw [List.getElem?_take] at hj
 split at hj
 ·exact hj
 ·simp at hj
theorem cutF_ok {o : Oper} {st : St} {x : Opd} {lo hi : Option Opd} {x' : Operand} {lo' hi' : Option Operand} {t e : TypeId} {ti : TypeInfo} {wd : Nat} {rows : Rows} {l h : Int} (hx : chkOpd sg x x' = true) (hl : chkOpt sg lo lo' = true) (hh : chkOpt sg hi hi' = true)
  (hu : P.underlying t = some (.slice e)) (hin' : P.info? e = some ti) (ho : o.op = .slice t x' lo' hi' none) (ex : ev st.t x = .fz wd rows) (hs : ti.size = wd) (el : boundOf st.t 0 lo = some l) (eh : boundOf st.t rows.length hi = some h)
  (hc : cutOk l h rows.length = true) : OpOk P sg keep N args w0 c0 Z o st (.fz wd ((rows.take h.toNat).drop l.toNat)) st.m :=
 pure_ok fun hs' cc a w hin => by
  have h1 := chkOpd_ok hx hin
  rw [ex] at h1
  generalize hv : a.eval x' = v at h1
  obtain ⟨g0, g1, g2⟩ := cutOk_iff hc
  have run : ∀ (base : Option Addr) (cap : Nat), rows.length ≤ cap → v = .slice base rows.length cap →
    (execOp a.eval o).run P w = .ok (.value (.slice (if cap = l.toNat then base else base.map (·.add (l.toNat * ti.size))) (h.toNat - l.toNat) (cap - l.toNat))) w := fun base cap hcap e => by
   subst e
   have hr := run_sliceBounds (P := P) (isS := true) (len := rows.length) (cap := cap) (w := w) (bound_ok hin hl el) (bound_ok hin hh eh) g0 g1 g2 hcap
   simp [execOp, ho, hv, Instr.sliceAt, Instr.slice, run_underlying hu, hr, run_sizeOf' hin']
  cases h1 with
  | fz h1 =>
   generalize hrows : ((rows.take h.toNat).drop l.toNat) = rows'
   have hlen : rows'.length = h.toNat - l.toNat := by rw [← hrows]; simp; omega
   cases h1 with
   | @z _ cap base =>
    refine ⟨_, run base cap (by simp) rfl, ?_⟩
    have : rows' = [] := by rw [← hrows]; simp
    subst this
    rw [← hlen]
    exact .fz .z
   | @s _ b off cap _ vs hw hc' hz hho hfl =>
    refine ⟨_, run _ cap hc' rfl, ?_⟩
    rw [← hlen]
    by_cases h0 : rows' = []
    ·subst h0
     exact .fz .z
    ·have hpos : 0 < rows'.length := List.length_pos_iff.2 h0
     have hne : ¬ (cap = l.toNat) := by omega
     have hw' : ∀ r ∈ rows.take h.toNat, r.length = wd := fun r hr => hw r (List.mem_of_mem_take hr)
     simp only [hne, if_false, Option.map_some, addr_add, hs]
     refine .fz (.s (vs := (vs.take (h.toNat * wd)).drop (l.toNat * wd)) (fun r hr => ?_) (by omega) hz ((hho.take _).drop _) ?_)
     ·rw [← hrows] at hr
      exact hw' r (List.mem_of_mem_drop hr)
     ·rw [← hrows, flatten_drop hw', flatten_take hw]
      exact (hfl.take _).drop _
end
end Go.Am
/- AM: what a call gives is opened at once. Nothing is assumed. -/
namespace Go.Am
section
variable {X : Nat → Prop} {Z : Nat → Prop} {R : Type} {r : R}
def InOk (X : Nat → Prop) (Z : Nat → Prop) (m m' : Mem) (own : World → List Nat → Prop) (rel : World → List Hd → Prop) : Prop :=
 ∀ (w : World) (hs : List Hd) (c cd : List Nat), MemL w Z hs hs m c → own w cd → ∃ hs' c', Ext hs hs' ∧ MemL w Z hs' hs' m' c' ∧ (∀ b, c'.count b ≤ (c ++ cd).count b) ∧ rel w hs'
theorem outCell_some {k : Kd} {d : D} {m : Mem} {K : AV → Mem → Option R} (h : outCell false k d m K = some r) :
  ∃ x m', K x m' = some r ∧ ∀ v, InOk X Z m m' (fun w cd => OwnD w d v cd) (fun w hs => ARel X w Z hs x v) := by
 have scal : ∀ x, d = .v x → K (.v x) m = some r → ∃ x m', K x m' = some r ∧ ∀ v, InOk X Z m m' (fun w cd => OwnD w d v cd) (fun w hs => ARel X w Z hs x v) := by
  intro x e hK
  subst e
  refine ⟨_, _, hK, fun v w hs c cd hm ho => ?_⟩
  cases ho with
  | v h => exact ⟨hs, c, Ext.refl _, hm, fun b => by simp, .v h⟩
 cases k with
 | i k => obtain ⟨n, e, h'⟩ := dI_some (by simpa only [outCell] using h); exact scal _ e h'
 | b => obtain ⟨n, e, h'⟩ := dB_some (by simpa only [outCell] using h); exact scal _ e h'
 | s => obtain ⟨n, e, h'⟩ := dS_some (by simpa only [outCell] using h); exact scal _ e h'
 | h => obtain ⟨b, n, c, e, h'⟩ := dH_some (by simpa only [outCell] using h); exact scal _ e h'
 | sl wd =>
  obtain ⟨rows, e, h'⟩ := dL_some (by simpa only [outCell] using h)
  subst e
  refine ⟨_, _, h', fun v w hs c cd hm ho => ?_⟩
  obtain ⟨hd, h1, _, h3⟩ := own_node (Z := Z) ho
  refine ⟨hs ++ [hd], c ++ cd, Ext.append _ _, (hm.frame (fun _ h => h) (fun _ _ => rfl) (fun _ _ => rfl) (Ext.append _ _)).append (h3 _), fun _ => Nat.le_refl _, ?_⟩
  show ARel X w Z (hs ++ [hd]) (.r m.length) v
  rw [h1]
  exact .r (by rw [← hm.length]; simp)
theorem OwnL.head {w : World} {d : D} {ds : List D} {vs : List Value} {c : List Nat} (h : OwnL w (d :: ds) vs c) : ∃ v vs' c1 c2, vs = v :: vs' ∧ c = c1 ++ c2 ∧ OwnD w d v c1 ∧ OwnL w ds vs' c2 := by
 cases h with | cons h h' => exact ⟨_, _, _, _, rfl, rfl, h, h'⟩
theorem outCells_ok {ks : List Kd} : ∀ {row : Row} {j : Nat} {m : Mem} {K : List AV → Mem → Option R}, outCells false ks row j m K = some r →
  ∃ xs m', K xs m' = some r ∧ ∀ vs, InOk X Z m m' (fun w cd => OwnL w (row.drop j) vs cd) (fun w hs => ARelL X w Z hs xs (vs.take ks.length) ∧ ks.length ≤ vs.length) := by
 induction ks with
 | nil =>
  intro row j m K h
  exact ⟨[], m, h, fun vs w hs c cd hm ho => ⟨hs, c, Ext.refl _, hm, fun b => by rw [List.count_append]; omega, by simpa using ARelL.nil, by simp⟩⟩
 | cons k ks ih =>
  intro row j m K h
  simp only [outCells] at h
  obtain ⟨d, hd, h⟩ := cell_some h
  obtain ⟨x, m1, h1, g1⟩ := outCell_some (X := X) (Z := Z) h
  obtain ⟨xs, m2, h2, g2⟩ := ih h1
  refine ⟨x :: xs, m2, h2, fun vs w hs c cd hm ho => ?_⟩
  have hlt : j < row.length := (List.getElem?_eq_some_iff.1 hd).1
  have e : row.drop j = d :: row.drop (j + 1) := by
   rw [List.drop_eq_getElem_cons hlt, (List.getElem?_eq_some_iff.1 hd).2]
  rw [e] at ho
  obtain ⟨v, vs', c1, c2, rfl, rfl, o1, o2⟩ := ho.head
  obtain ⟨hs1, c3, a1, a2, a3, a4⟩ := g1 v w hs c c1 hm o1
  obtain ⟨hs2, c4, b1, b2, b3, b4, b5⟩ := g2 vs' w hs1 c3 c2 a2 o2
  refine ⟨hs2, c4, fun id h hh => b1 _ _ (a1 _ _ hh), b2, fun b => ?_, ?_, ?_⟩
  ·have := a3 b
   have := b3 b
   simp only [List.count_append] at *
   omega
  ·simpa using ARelL.cons (a4.frame (fun _ h => h) (fun _ _ => rfl) b1) b4
  ·simpa using b5
theorem oD_some {x : I} {K : D → Option R} (h : oD x K = some r) : ∃ d, x = .d d ∧ K d = some r := by
 unfold oD at h
 split at h
 ·exact ⟨_, rfl, h⟩
 ·simp at h
theorem oG_some {x : I} {K : Row → Option R} (h : oG x K = some r) : ∃ d, x = .g d ∧ K d = some r := by
 unfold oG at h
 split at h
 ·exact ⟨_, rfl, h⟩
 ·simp at h
theorem oP_some {x : I} {K : Row → Option R} (h : oP x K = some r) : ∃ d, x = .p d ∧ K d = some r := by
 unfold oP at h
 split at h
 ·exact ⟨_, rfl, h⟩
 ·simp at h
theorem oT_some {x : I} {K : List I → Option R} (h : oT x K = some r) : ∃ d, x = .t d ∧ K d = some r := by
 unfold oT at h
 split at h
 ·exact ⟨_, rfl, h⟩
 ·simp at h
theorem nth_some {xs : List I} {i : Nat} {K : I → Option R} (h : nth xs i K = some r) : ∃ x, xs[i]? = some x ∧ K x = some r := by
 unfold nth at h
 split at h
 ·rename_i x e; exact ⟨x, e, h⟩
 ·simp at h
theorem callT_some {T : Table} {fn : Nat} {xs : List I} {K : Out → Option R} (h : callT T fn xs K = some r) : ∃ o, T fn xs = some o ∧ K o = some r := by
 unfold callT at h
 split at h
 ·rename_i x e; exact ⟨x, e, h⟩
 ·simp at h
theorem kdCell_some {k : Kd} {d : D} {K : D → Option R} (h : kdCell k d K = some r) : K d = some r := by
 cases k with
 | i k => obtain ⟨n, e, h'⟩ := dI_some (by simpa only [kdCell] using h); subst e; exact h'
 | b => obtain ⟨n, e, h'⟩ := dB_some (by simpa only [kdCell] using h); subst e; exact h'
 | s => obtain ⟨n, e, h'⟩ := dS_some (by simpa only [kdCell] using h); subst e; exact h'
 | sl wd => obtain ⟨n, e, h'⟩ := dL_some (by simpa only [kdCell] using h); subst e; exact h'
 | h => obtain ⟨b, n, c, e, h'⟩ := dH_some (by simpa only [kdCell] using h); subst e; exact h'
theorem kdCells_some : ∀ {ks : List Kd} {row : Row} {c : Nat} {K : Row → Option R}, kdCells ks row c K = some r → K ((row.drop c).take ks.length) = some r
 | [], row, c, K, h => by simpa [kdCells] using h
 | k :: ks, row, c, K, h => by
  simp only [kdCells] at h
  obtain ⟨d, hd, h⟩ := cell_some h
  have h := kdCells_some (kdCell_some h)
  have hlt : c < row.length := (List.getElem?_eq_some_iff.1 hd).1
  have e : row.drop c = d :: row.drop (c + 1) := by
   rw [List.drop_eq_getElem_cons hlt, (List.getElem?_eq_some_iff.1 hd).2]
  rw [e, List.length_cons, List.take_succ_cons]
  exact h
theorem outOne_ok {k : RK} {x : I} {m : Mem} {K : AV → Mem → Option R} (h : outOne false k x m K = some r) :
  ∃ y m', K y m' = some r ∧ ∀ v, InOk X Z m m' (fun w cd => IOwn X w x v cd) (fun w hs => ARel X w Z hs y v) := by
 cases k with
 | c k =>
  simp only [outOne] at h
  obtain ⟨d, rfl, h⟩ := oD_some h
  obtain ⟨y, m', h1, g⟩ := outCell_some (X := X) (Z := Z) h
  exact ⟨y, m', h1, fun v w hs c cd hm ho => by cases ho with | d ho => exact g v w hs c cd hm ho⟩
 | g ks =>
  simp only [outOne] at h
  obtain ⟨row, rfl, h⟩ := oG_some h
  obtain ⟨hl, h⟩ := tst_some h
  have hl := Nat.eq_of_beq_eq_true hl
  obtain ⟨xs, m', h1, g⟩ := outCells_ok (X := X) (Z := Z) h
  refine ⟨_, m', h1, fun v w hs c cd hm ho => ?_⟩
  cases ho with
  | @g _ vs _ ho =>
   obtain ⟨hs', c', a1, a2, a3, a4, a5⟩ := g vs.toList w hs c cd hm (by simpa using ho)
   have : vs.toList.take ks.length = vs.toList := by
    have := ho.length
    rw [← hl, ← this, List.take_length]
   rw [this] at a4
   exact ⟨hs', c', a1, a2, a3, .g a4⟩
 | p ks =>
  simp only [outOne] at h
  obtain ⟨row, rfl, h⟩ := oP_some h
  obtain ⟨hl, h⟩ := tst_some h
  have hl := Nat.eq_of_beq_eq_true (Bool.and_eq_true_iff.1 hl).1
  have h := kdCells_some h
  rw [List.drop_zero, ← hl, List.take_length] at h
  refine ⟨_, _, h, fun v w hs c cd hm ho => ?_⟩
  cases ho with
  | @p _ b off vs cc hh hf h =>
   have hlen := h.length
   refine ⟨hs ++ [⟨some ⟨b, off, none⟩, row.length, 1, 1⟩], c ++ (b :: cc), Ext.append _ _, (hm.frame (fun _ h => h) (fun _ _ => rfl) (fun _ _ => rfl) (Ext.append _ _)).append ?_, fun b => Nat.le_refl _, ?_⟩
   ·refine ⟨rfl, rfl, by simp, by simp, by simp, by simp, .inr ⟨b, off, vs, cc, rfl, Nat.le_refl _, hh, by simpa using hf, ?_, rfl⟩⟩
    show CRelL w Z _ (viewRows [] 0 [row]) vs cc
    rw [viewRows_nil]
    simpa using CRelL.of_own h
   ·have := ARel.a (X := X) (w := w) (Z := Z) (hs := hs ++ [⟨some ⟨b, off, none⟩, row.length, 1, 1⟩]) (id := m.length) (i := 0) (c := 0) (b := b) (off := off) (h := ⟨some ⟨b, off, none⟩, row.length, 1, 1⟩) (by rw [← hm.length]; simp) rfl (by simp)
    simpa using this
theorem IOwnL.head {w : World} {d : I} {ds : List I} {vs : List Value} {c : List Nat} (h : IOwnL X w (d :: ds) vs c) : ∃ v vs' c1 c2, vs = v :: vs' ∧ c = c1 ++ c2 ∧ IOwn X w d v c1 ∧ IOwnL X w ds vs' c2 := by
 cases h with | cons h h' => exact ⟨_, _, _, _, rfl, rfl, h, h'⟩
theorem outMany_ok {ks : List RK} : ∀ {is : List I} {j : Nat} {m : Mem} {K : List AV → Mem → Option R}, outMany false ks is j m K = some r →
  ∃ xs m', K xs m' = some r ∧ ∀ vs, InOk X Z m m' (fun w cd => IOwnL X w (is.drop j) vs cd) (fun w hs => ARelL X w Z hs xs (vs.take ks.length) ∧ ks.length ≤ vs.length) := by
 induction ks with
 | nil =>
  intro is j m K h
  exact ⟨[], m, h, fun vs w hs c cd hm ho => ⟨hs, c, Ext.refl _, hm, fun b => by rw [List.count_append]; omega, by simpa using ARelL.nil, by simp⟩⟩
 | cons k ks ih =>
  intro is j m K h
  simp only [outMany] at h
  obtain ⟨d, hd, h⟩ := nth_some h
  obtain ⟨x, m1, h1, g1⟩ := outOne_ok (X := X) (Z := Z) h
  obtain ⟨xs, m2, h2, g2⟩ := ih h1
  refine ⟨x :: xs, m2, h2, fun vs w hs c cd hm ho => ?_⟩
  have hlt : j < is.length := (List.getElem?_eq_some_iff.1 hd).1
  have e : is.drop j = d :: is.drop (j + 1) := by
   rw [List.drop_eq_getElem_cons hlt, (List.getElem?_eq_some_iff.1 hd).2]
  rw [e] at ho
  obtain ⟨v, vs', c1, c2, rfl, rfl, o1, o2⟩ := ho.head
  obtain ⟨hs1, c3, a1, a2, a3, a4⟩ := g1 v w hs c c1 hm o1
  obtain ⟨hs2, c4, b1, b2, b3, b4, b5⟩ := g2 vs' w hs1 c3 c2 a2 o2
  refine ⟨hs2, c4, fun id h hh => b1 _ _ (a1 _ _ hh), b2, fun b => ?_, ?_, ?_⟩
  ·have := a3 b
   have := b3 b
   simp only [List.count_append] at *
   omega
  ·simpa using ARelL.cons (a4.frame (fun _ h => h) (fun _ _ => rfl) b1) b4
  ·simpa using b5
theorem IOwnL.length {w : World} {xs : List I} : ∀ {vs : List Value} {c : List Nat}, IOwnL X w xs vs c → vs.length = xs.length := by
 induction xs with
 | nil => intro vs c h; cases h; rfl
 | cons x xs ih => intro vs c h; cases h with | cons h h' => simp [ih h']
theorem outAll_ok {ks : List RK} {x : I} {m : Mem} {K : AV → Mem → Option R} (h : outAll false ks x m K = some r) :
  ∃ y m', K y m' = some r ∧ ∀ v, InOk X Z m m' (fun w cd => IOwn X w x v cd) (fun w hs => ARel X w Z hs y v) := by
 unfold outAll at h
 split at h
 ·exact outOne_ok h
 ·obtain ⟨is, rfl, h⟩ := oT_some h
  obtain ⟨hl, h⟩ := tst_some h
  have hl := Nat.eq_of_beq_eq_true hl
  obtain ⟨xs, m', h1, g⟩ := outMany_ok (X := X) (Z := Z) h
  refine ⟨_, m', h1, fun v w hs c cd hm ho => ?_⟩
  cases ho with
  | @t _ vs _ ho =>
   obtain ⟨hs', c', a1, a2, a3, a4, a5⟩ := g vs.toList w hs c cd hm (by simpa using ho)
   have : vs.toList.take ks.length = vs.toList := by
    have := ho.length
    rw [← hl, ← this, List.take_length]
   rw [this] at a4
   exact ⟨hs', c', a1, a2, a3, .t a4⟩
end
end Go.Am
/- AM: what was lent comes back into its place. Nothing is assumed. -/
namespace Go.Am
section
variable {X : Nat → Prop} {Z : Nat → Prop} {R : Type} {r : R}
theorem MemL.put {w : World} {hs l : List Hd} {m : Mem} {c cn : List Nat} (rel : MemL w Z hs l m c) {id : Nat} {h : Hd} {n : Node} (hid : l[id]? = some h) (hn : NodeRel w Z hs h n cn) :
  ∃ c', MemL w Z hs l (m.set id (some n)) c' ∧ ∀ b, c'.count b ≤ (c ++ cn).count b := by
 induction rel generalizing id with
 | nil => simp at hid
 | @dead h0 l m c rel ih => cases id with
  | zero =>
   simp at hid; subst hid
   exact ⟨cn ++ c, by simpa using MemL.live hn rel, fun b => by simp only [List.count_append]; omega⟩
  | succ id =>
   obtain ⟨c', h1, h2⟩ := ih (by simpa using hid)
   exact ⟨c', by simpa using MemL.dead h1, h2⟩
 | @live h0 l n0 m c0 c' hn0 rel ih => cases id with
  | zero =>
   simp at hid; subst hid
   exact ⟨cn ++ c', by simpa using MemL.live hn rel, fun b => by simp only [List.count_append]; omega⟩
  | succ id =>
   obtain ⟨c2, h1, h2⟩ := ih (by simpa using hid)
   exact ⟨c0 ++ c2, by simpa using MemL.live hn0 h1, fun b => by have := h2 b; simp only [List.count_append] at *; omega⟩
theorem back_one {w : World} {hs : List Hd} {m : Mem} {c cd : List Nat} (hm : MemL w Z hs hs m c) {id : Nat} {h : Hd} (hid : hs[id]? = some h) {wd : Nat} (hwd : h.wd = wd) {rows : Rows}
  (ho : OwnD w (.s wd rows) (.slice h.base h.len h.cap) cd) : ∃ c', MemL w Z hs hs (m.set id (some ⟨wd, rows, []⟩)) c' ∧ ∀ b, c'.count b ≤ (c ++ cd).count b := by
 obtain ⟨hd, h1, h2, h3⟩ := own_node (Z := Z) ho
 have : hd = h := by
  obtain ⟨x1, x2, x3, x4⟩ := hd
  obtain ⟨y1, y2, y3, y4⟩ := h
  simp only [Value.slice.injEq] at h1
  simp only at h2 hwd
  simp [h1.1, h1.2.1, h1.2.2, h2, hwd]
 subst this
 exact hm.put hid (h3 hs)
theorem backCells_ok {m0 : Mem} (xs : List AV) : ∀ {m : Mem} {row : Row} {j : Nat} {K : Mem → Option R}, backCells m0 m xs row j K = some r →
  ∃ m', K m' = some r ∧ ∀ (w0 w : World) (hs : List Hd) (c cd cm : List Nat) (vs : List Value), MemL w0 Z hs hs m0 cm → MemL w Z hs hs m c → ARelL X w0 Z hs xs vs → OwnL w (row.drop j) vs cd →
   ∃ c', MemL w Z hs hs m' c' ∧ ∀ b, c'.count b ≤ (c ++ cd).count b := by
 induction xs with
 | nil =>
  intro m row j K h
  exact ⟨m, h, fun w0 w hs c cd cm vs _ hm _ _ => ⟨c, hm, fun b => by rw [List.count_append]; omega⟩⟩
 | cons x xs ih =>
  have drop1 : ∀ {w : World} {row : Row} {j : Nat} {v : Value} {vs : List Value} {cd : List Nat}, OwnL w (row.drop j) (v :: vs) cd →
    ∃ d c1 c2, row[j]? = some d ∧ cd = c1 ++ c2 ∧ OwnD w d v c1 ∧ OwnL w (row.drop (j + 1)) vs c2 := by
   intro w row j v vs cd ho
   have hl := ho.length
   have hlt : j < row.length := by simp at hl; omega
   rw [List.drop_eq_getElem_cons hlt] at ho
   cases ho with | cons h h' => exact ⟨_, _, _, List.getElem?_eq_getElem hlt, rfl, h, h'⟩
  intro m row j K h
  have skip : backCells m0 m xs row (j + 1) K = some r → ∃ m', K m' = some r ∧ ∀ (w0 w : World) (hs : List Hd) (c cd cm : List Nat) (vs : List Value), MemL w0 Z hs hs m0 cm → MemL w Z hs hs m c → ARelL X w0 Z hs (x :: xs) vs → OwnL w (row.drop j) vs cd →
    ∃ c', MemL w Z hs hs m' c' ∧ ∀ b, c'.count b ≤ (c ++ cd).count b := by
   intro h
   obtain ⟨m', h1, g⟩ := ih h
   refine ⟨m', h1, fun w0 w hs c cd cm vs hm0 hm hx ho => ?_⟩
   cases hx with
   | cons hx hx' =>
    obtain ⟨d, c1, c2, _, rfl, _, o2⟩ := drop1 ho
    obtain ⟨c', a1, a2⟩ := g w0 w hs c c2 cm _ hm0 hm hx' o2
    exact ⟨c', a1, fun b => by have := a2 b; simp only [List.count_append] at *; omega⟩
  cases x with
  | r id =>
   simp only [backCells] at h
   split at h
   ·rename_i n hn
    obtain ⟨d, hd, h⟩ := cell_some h
    obtain ⟨rows, rfl, h'⟩ := dL_some h
    obtain ⟨m', h1, g⟩ := ih h'
    refine ⟨m', h1, fun w0 w hs c cd cm vs hm0 hm hx ho => ?_⟩
    cases hx with
    | cons hx hx' =>
     obtain ⟨d', c1, c2, e1, rfl, o1, o2⟩ := drop1 ho
     rw [hd] at e1
     cases e1
     cases hx with
     | r hh =>
      obtain ⟨hd', _, cn, _, f1, _, f3, _⟩ := hm0.at hn
      rw [f1] at hh
      cases hh
      obtain ⟨c3, b1, b2⟩ := back_one hm f1 f3.wd o1
      obtain ⟨c', a1, a2⟩ := g w0 w hs c3 c2 cm _ hm0 b1 hx' o2
      exact ⟨c', a1, fun b => by have := a2 b; have := b2 b; simp only [List.count_append] at *; omega⟩
   ·simp at h
  | _ => exact skip (by simpa only [backCells] using h)
theorem likeCell_some {m0 : Mem} {n : Node} {c : Nat} {d0 d : D} {K : D → Option R} (h : likeCell m0 n c d0 d K = some r) : K d = some r := by
 unfold likeCell at h
 split at h
 ·split at h
  ·obtain ⟨_, rfl, g⟩ := dL_some h; exact g
  ·simp at h
 ·simp at h
 ·split at h
  ·obtain ⟨_, rfl, g⟩ := dI_some h; exact g
  ·obtain ⟨_, rfl, g⟩ := dB_some h; exact g
  ·obtain ⟨_, rfl, g⟩ := dS_some h; exact g
  ·obtain ⟨_, rfl, g⟩ := dL_some h; exact g
  ·obtain ⟨b, n, c, e, h'⟩ := dH_some h; subst e; exact h'
  ·simp at h
theorem likeRow_some {m0 : Mem} {n : Node} {row : Row} : ∀ (r0 : Row) (c : Nat) {K : Row → Option R}, c + r0.length = row.length → likeRow m0 n row r0 c K = some r → K (row.drop c) = some r
 | [], c, K, hl, h => by
  have : row.drop c = [] := List.drop_of_length_le (by simp at hl; omega)
  rw [this]; exact h
 | d0 :: r0, c, K, hl, h => by
  obtain ⟨d, hd, h⟩ := cell_some h
  have h := likeRow_some r0 (c + 1) (by simp at hl; omega) (likeCell_some h)
  have hlt : c < row.length := (List.getElem?_eq_some_iff.1 hd).1
  rw [List.drop_eq_getElem_cons hlt, (List.getElem?_eq_some_iff.1 hd).2]
  exact h
theorem likeRow_any {m0 : Mem} {n : Node} {row : Row} : ∀ {r0 : Row} {c : Nat} {K : Row → Option R}, likeRow m0 n row r0 c K = some r → ∃ x, K x = some r
 | [], c, K, h => ⟨_, h⟩
 | d0 :: r0, c, K, h => by
  obtain ⟨d, hd, h⟩ := cell_some h
  obtain ⟨x, h⟩ := likeRow_any (likeCell_some h)
  exact ⟨_, h⟩
theorem backI_ok {m0 m : Mem} {x : AV} {i : I} {K : Mem → Option R} (h : backI m0 m x i K = some r) :
  ∃ m', K m' = some r ∧ ∀ (w0 w : World) (hs : List Hd) (c cd cm : List Nat) (v : Value), Stay w0 w → MemL w0 Z hs hs m0 cm → MemL w Z hs hs m c → ARel X w0 Z hs x v → IOwn X w i v cd →
   ∃ c', MemL w Z hs hs m' c' ∧ ∀ b, c'.count b ≤ (c ++ cd).count b := by
 unfold backI at h
 split at h
 ·obtain ⟨row, rfl, h⟩ := oG_some h
  obtain ⟨m', h1, g⟩ := backCells_ok (X := X) (Z := Z) _ h
  refine ⟨m', h1, fun w0 w hs c cd cm v hst hm0 hm hx ho => ?_⟩
  cases hx with
  | g hx => cases ho with | g ho => exact g w0 w hs c cd cm _ hm0 hm hx (by simpa using ho)
 ·rename_i id
  split at h
  ·rename_i n hn
   obtain ⟨d, rfl, h⟩ := oD_some h
   obtain ⟨rows, rfl, h'⟩ := dL_some h
   refine ⟨_, h', fun w0 w hs c cd cm v hst hm0 hm hx ho => ?_⟩
   cases hx with
   | r hh =>
    obtain ⟨hd', _, cn, _, f1, _, f3, _⟩ := hm0.at hn
    rw [f1] at hh
    cases hh
    cases ho with | d o1 => exact back_one hm f1 f3.wd o1
  ·simp at h
 ·rename_i id
  split at h
  ·rename_i n hn
   split at h
   ·rename_i r0 hr0
    have hn1 : n.rows.length = 1 := by rw [hr0]; rfl
    obtain ⟨row, rfl, h'⟩ := oP_some h
    unfold tst at h'
    cases hw : Nat.beq row.length n.wd with
    | false => rw [hw] at h'; simp at h'
    | true =>
     have hwl : row.length = n.wd := Nat.eq_of_beq_eq_true hw
     rw [hw] at h'
     by_cases hlr : r0.length = row.length
     case neg =>
      obtain ⟨x, hx'⟩ := likeRow_any h'
      exact ⟨_, hx', fun w0 w hs c cd cm v hst hm0 hm hx ho => by
       obtain ⟨_, _, _, _, _, _, f3, _⟩ := hm0.at hn
       exact absurd ((f3.rows r0 (by rw [hr0]; simp)).trans hwl.symm) hlr⟩
     have h' := likeRow_some _ _ (by omega) h'
     rw [List.drop_zero] at h'
     refine ⟨_, h', fun w0 w hs c cd cm v hst hm0 hm hx ho => ?_⟩
     cases hx with
     | @a _ _ _ b off hd hh hbase hi =>
      obtain ⟨hd', _, cn, _, f1, _, f3, _⟩ := hm0.at hn
      rw [f1] at hh
      cases hh
      simp only [Nat.zero_mul, Nat.add_zero] at ho
      cases ho with
      | @p _ _ _ vs c2 p1 p2 p3 =>
       refine hm.put f1 ?_
       refine ⟨f3.wd, by rw [f3.len, hn1]; rfl, fun r hr => ?_, by simp, by simp, by simp, .inr ⟨b, off, vs, c2, hbase, ?_, p1, ?_, ?_, rfl⟩⟩
       ·simp only [List.mem_cons, List.not_mem_nil, or_false] at hr
        rw [hr]; exact hwl
       ·rcases f3.mem with ⟨e, _⟩ | ⟨_, _, _, _, _, g2, _⟩
        ·rw [e] at hn1; simp at hn1
        ·rw [hn1] at g2; exact g2
       ·rcases f3.mem with ⟨e, _⟩ | ⟨b', off', _, _, g1, _, _, g4, _⟩
        ·rw [e] at hn1; simp at hn1
        ·rw [hbase] at g1
         cases g1
         exact g4.stay hst
       ·show CRelL w Z hs (viewRows [] 0 [row]) vs c2
        rw [viewRows_nil]
        have : ([row] : Rows).flatten = row := by simp
        rw [this]
        exact .of_own p3
   ·simp at h
  ·simp at h
 ·simp at h
theorem backArgs_ok {m0 : Mem} {is : List I} (ms : List Mode) : ∀ {m : Mem} {xs : List AV} {j : Nat} {K : Mem → Option R}, backArgs m0 m ms xs is j K = some r →
  ∃ m', K m' = some r ∧ ∀ (w0 w : World) (hs : List Hd) (c cd cm : List Nat) (vs : List Value), Stay w0 w → MemL w0 Z hs hs m0 cm → MemL w Z hs hs m c → ARelL X w0 Z hs xs vs → BackRel X w ms vs (is.drop j) cd →
   ∃ c', MemL w Z hs hs m' c' ∧ ∀ b, c'.count b ≤ (c ++ cd).count b := by
 induction ms with
 | nil =>
  intro m xs j K h
  exact ⟨m, by simpa only [backArgs] using h, fun w0 w hs c cd cm vs _ _ hm _ _ => ⟨c, hm, fun b => by rw [List.count_append]; omega⟩⟩
 | cons md ms ih =>
  intro m xs j K h
  cases xs with
  | nil => exact ⟨m, by cases md <;> simpa only [backArgs] using h, fun w0 w hs c cd cm vs _ _ hm _ _ => ⟨c, hm, fun b => by rw [List.count_append]; omega⟩⟩
  | cons x xs =>
   cases md with
   | rd =>
    obtain ⟨m', h1, g⟩ := ih (by simpa only [backArgs] using h)
    refine ⟨m', h1, fun w0 w hs c cd cm vs hst hm0 hm hx ho => ?_⟩
    cases hx with
    | cons hx hx' => generalize is.drop j = l at *; cases ho with | rd ho => exact g w0 w hs c cd cm _ hst hm0 hm hx' ho
   | own =>
    obtain ⟨m', h1, g⟩ := ih (by simpa only [backArgs] using h)
    refine ⟨m', h1, fun w0 w hs c cd cm vs hst hm0 hm hx ho => ?_⟩
    cases hx with
    | cons hx hx' => generalize is.drop j = l at *; cases ho with | own ho => exact g w0 w hs c cd cm _ hst hm0 hm hx' ho
   | lent =>
    simp only [backArgs] at h
    obtain ⟨i, hi, h⟩ := nth_some h
    obtain ⟨m1, h1, g1⟩ := backI_ok (X := X) (Z := Z) h
    obtain ⟨m', h2, g2⟩ := ih h1
    refine ⟨m', h2, fun w0 w hs c cd cm vs hst hm0 hm hx ho => ?_⟩
    have hlt : j < is.length := (List.getElem?_eq_some_iff.1 hi).1
    have e : is.drop j = i :: is.drop (j + 1) := by
     rw [List.drop_eq_getElem_cons hlt, (List.getElem?_eq_some_iff.1 hi).2]
    rw [e] at ho
    cases hx with
    | cons hx hx' =>
     cases ho with
     | lent o1 o2 =>
      obtain ⟨c3, b1, b2⟩ := g1 w0 w hs c _ cm _ hst hm0 hm hx o1
      obtain ⟨c', a1, a2⟩ := g2 w0 w hs c3 _ cm _ hst hm0 b1 hx' o2
      exact ⟨c', a1, fun b => by have := a2 b; have := b2 b; simp only [List.count_append] at *; omega⟩
end
end Go.Am
/- AM: a call, whatever is called, in the middle of an activation. Nothing is assumed. -/
namespace Go.Am
def chkOpds (sg : Sigs) : List Opd → List Operand → Bool
 | [], [] => true
 | x :: xs, y :: ys => chkOpd sg x y && chkOpds sg xs ys
 | _, _ => false
def chkCallee (sg : Sigs) (f : Opd) (f' : Operand) (modes : List Mode) (n : Nat) : Bool := match f, f' with
 | .f fn, .func fn' => fn == fn' && modes == sg.modes fn n
 | .t i, .tmp j => i == j && modes == List.replicate n .rd
 | _, _ => false
section
variable {X : Nat → Prop} {w w' : World} {Z Z' : Nat → Prop}
theorem ArgsRel.more {ms : List Mode} {is : List I} {vs : List Value} {cin : List Nat} (h : ArgsRel X w Z ms is vs cin) {js : List I} {us : List Value} (h' : IFroL X w Z js us) :
  ArgsRel X w Z (ms ++ List.replicate js.length .rd) (is ++ js) (vs ++ us) cin := by
 induction h with
 | nil =>
  induction js generalizing us with
  | nil => cases h'; exact .nil
  | cons j js ih => cases h' with | cons h h' => exact .rd h (ih h')
 | rd h _ ih => exact .rd h ih
 | own h _ ih => exact .own h ih
 | lent h _ ih => exact .lent h ih
theorem ArgsRel.lengths {ms : List Mode} {is : List I} {vs : List Value} {cin : List Nat} (h : ArgsRel X w Z ms is vs cin) : ms.length = is.length ∧ vs.length = is.length := by
 induction h with
 | nil => simp
 | rd _ _ ih => simp [ih]
 | own _ _ ih => simp [ih]
 | lent _ _ ih => simp [ih]
theorem BackRel.less {ms : List Mode} {k : Nat} {us : List Value} : ∀ {vs : List Value} {is : List I} {c : List Nat}, ms.length = vs.length → BackRel X w (ms ++ List.replicate k .rd) (vs ++ us) is c → BackRel X w ms vs is c := by
 induction ms with
 | nil =>
  intro vs is c hl h
  cases vs with
  | cons => simp at hl
  | nil =>
   suffices is = [] ∧ c = [] by obtain ⟨rfl, rfl⟩ := this; exact .nil
   simp only [List.nil_append] at h
   clear hl
   induction k generalizing us is c with
   | zero => cases h; simp
   | succ k ih => cases h with | rd h => exact ih h
 | cons m ms ih =>
  intro vs is c hl h
  cases vs with
  | nil => simp at hl
  | cons v vs =>
   simp only [List.length_cons, Nat.add_right_cancel_iff] at hl
   cases h with
   | rd h => exact .rd (ih hl h)
   | own h => exact .own (ih hl h)
   | lent h h' => exact .lent h (ih hl h')
end
section
variable {P : Program} {sg : Sigs} {T : Table} {keep : List Nat} {N : Nat} {args : Nat → Value} {w0 : World} {c0 : List Nat} {Z : Nat → Prop}
theorem chkOpds_ok {xs : List Opd} : ∀ {ys : List Operand}, chkOpds sg xs ys = true → ∀ {hs : List Hd} {c : List Nat} {st : St} {a : Act} {w : World}, SInv sg.X keep N args w0 c0 Z hs c st a w →
  ARelL sg.X w Z hs (evs st.t xs) (ys.map a.eval) := by
 induction xs with
 | nil => intro ys h hs c st a w hi; cases ys with
  | nil => exact .nil
  | cons => simp [chkOpds] at h
 | cons x xs ih => intro ys h hs c st a w hi; cases ys with
  | nil => simp [chkOpds] at h
  | cons y ys =>
   simp [chkOpds] at h
   exact .cons (chkOpd_ok h.1 hi) (ih h.2 hi)
theorem callOp_ok {R : Type} {r : R} {st : St} {modes : List Mode} {res : List RK} {fn : Nat} {xs : List AV} {more : Mem → Option (List I)} {K : AV → Mem → Option R} (hT : GoodAt P sg w0 Z T)
  (h : callOp T st.m modes false res fn xs more K = some r) : ∃ av m', K av m' = some r ∧
  ∀ (hs : List Hd) (c : List Nat) (a : Act) (w : World), SInv sg.X keep N args w0 c0 Z hs c st a w → ∀ (vs us : List Value), ARelL sg.X w Z hs xs vs →
   (∀ m1 js, more m1 = some js → sg.modes fn (xs.length + js.length) = modes ++ List.replicate js.length .rd ∧
    ∀ (c' : List Nat) (Z' : Nat → Prop), MemL w Z hs hs m1 c' → (∀ b, Z b → Z' b) → (∀ b ∈ c', Z' b) → IFroL sg.X w Z' js us) →
   CallsF P fn (vs ++ us).toArray w fun e w' => ∃ v, e = .returned v ∧ OpPost sg.X w0 c0 Z hs av m' v w' := by
 unfold callOp at h
 split at h
 ·rename_i is m1 hp
  split at h
  ·simp at h
  ·rename_i js hm
   obtain ⟨o, ho, h⟩ := callT_some h
   obtain ⟨m2, h, gb⟩ := backArgs_ok (X := sg.X) (Z := Z) _ h
   obtain ⟨av, m3, h, go⟩ := outAll_ok (X := sg.X) (Z := Z) h
   refine ⟨av, m3, h, fun hs c a w hin vs us hx hmore => ?_⟩
   obtain ⟨hmod, hmore⟩ := hmore m1 js hm
   obtain ⟨c', cin, q1, q2, q3⟩ := passArgs_ok hp hx hin.mem
   have hc' : ∀ b ∈ c', b ∈ c ∧ b ∉ cin := fun b hb => by
    have h1 := q2 b
    have h2 := hin.win.cnt b
    have h3 := List.count_pos_iff.2 hb
    simp only [List.count_append] at h1
    exact ⟨List.count_pos_iff.1 (by omega), fun h => by have := List.count_pos_iff.2 h; omega⟩
   have hci : ∀ b ∈ cin, b ∈ c := fun b hb => by
    have h1 := q2 b
    have h3 := List.count_pos_iff.2 hb
    simp only [List.count_append] at h1
    exact List.count_pos_iff.1 (by omega)
   let Z' : Nat → Prop := fun b => Z b ∨ b ∈ c'
   have hz : ∀ b, Z b → Z' b := fun b h => .inl h
   have hz' : ∀ b ∈ c', Z' b := fun b h => .inr h
   have ha := (q3 Z' hz hz').more (hmore c' Z' q1 hz hz')
   have hlen := (q3 Z' hz hz').lengths
   have hxl : vs.length = xs.length := hx.length
   have hZ' : ∀ b, Z' b → b < w.heap.size ∧ b ∉ cin := fun b hb => by
    rcases hb with hb | hb
    ·have h1 := hin.win.zlt b hb
     have h2 := hin.win.size
     exact ⟨by omega, fun h => hin.win.dis b hb (hci b h)⟩
    ·exact ⟨q1.lt b hb, (hc' b hb).2⟩
   have hw : WInv w cin Z' w cin := ⟨fun b => by have h1 := q2 b; have h2 := hin.win.cnt b; simp only [List.count_append] at h1; omega,
    fun b hb => (hZ' b hb).2, hZ', Nat.le_refl _, fun b hb => .inl hb, fun _ _ _ => rfl, Mute.refl w, Stay.refl w⟩
   have hmod' : sg.modes fn (is ++ js).length = modes ++ List.replicate js.length .rd := by
    rw [List.length_append, ← hlen.2, hxl]; exact hmod
   have hg := hT.1 _ _ _ ho w Z' (vs ++ us) cin hz (fun b hb => hin.win.frame b (hin.win.zlt b hb).1 (hin.win.zlt b hb).2) (by rw [hmod']; exact ha) hw
   rw [hmod'] at hg
   have post : ∀ e w', (∃ v cres cbk, e = Ending.returned v ∧ IOwn sg.X w' o.res v cres ∧ BackRel sg.X w' (modes ++ List.replicate js.length .rd) (vs ++ us) o.back cbk ∧ WInv w cin Z' w' (cres ++ cbk)) →
     ∃ v, e = Ending.returned v ∧ OpPost sg.X w0 c0 Z hs av m3 v w' := by
    rintro e w' ⟨v, cres, cbk, rfl, o1, o2, o3⟩
    refine ⟨v, rfl, ?_⟩
    have hsame : ∀ b, Z' b → w'.heap[b]? = w.heap[b]? := fun b hb => o3.frame b (hZ' b hb).1 (hZ' b hb).2
    have hm1 : MemL w' Z hs hs m1 c' := q1.frame (fun _ h => h) (fun b hb => hsame b (hz b hb)) (fun b hb => hsame b (hz' b hb)) (Ext.refl _)
    have hbk := BackRel.less (by omega) o2
    obtain ⟨c2, r1, r2⟩ := gb w w' hs c' cbk c vs o3.stay hin.mem hm1 hx (by simpa using hbk)
    obtain ⟨hs', c3, s1, s2, s3, s4⟩ := go v w' hs c2 cres r1 o1
    have cnt3 : ∀ b, c3.count b ≤ c'.count b + (cres ++ cbk).count b := fun b => by
     have h1 := r2 b
     have h2 := s3 b
     simp only [List.count_append] at *
     omega
    have mem3 : ∀ b ∈ c3, b ∈ c' ∨ b ∈ cres ++ cbk := fun b hb => by
     have h1 := cnt3 b
     have h2 := List.count_pos_iff.2 hb
     by_cases h3 : b ∈ c'
     ·exact .inl h3
     ·have := List.count_eq_zero.2 h3
      exact .inr (List.count_pos_iff.1 (by omega))
    refine ⟨hs', c3, s1, s2, s4, ⟨fun b => ?_, fun b hb h => ?_, hin.win.zlt, Nat.le_trans hin.win.size o3.size, fun b hb => ?_, fun b hb hn => ?_, hin.win.mute.trans o3.mute, hin.win.stay.trans o3.stay⟩⟩
    ·have h1 := cnt3 b
     have h2 := o3.cnt b
     have h3 := q2 b
     have h4 := hin.win.cnt b
     simp only [List.count_append] at h3
     by_cases hb : b ∈ c'
     ·have := List.count_eq_zero.2 (o3.dis b (hz' b hb))
      omega
     ·have := List.count_eq_zero.2 hb
      omega
    ·rcases mem3 b h with h | h
     ·exact hin.win.dis b hb (hc' b h).1
     ·exact o3.dis b (hz b hb) h
    ·rcases mem3 b hb with h | h
     ·exact hin.win.own b (hc' b h).1
     ·rcases o3.own b h with h | h
      ·exact hin.win.own b (hci b h)
      ·exact .inr (Nat.le_trans hin.win.size h)
    ·have hni : b ∉ cin := fun h => by
      rcases hin.win.own b (hci b h) with h | h
      ·exact hn h
      ·omega
     rw [o3.frame b (Nat.lt_of_lt_of_le hb hin.win.size) hni, hin.win.frame b hb hn]
   rcases hg with ⟨e1, e2⟩ | ⟨v, w', e1, e2⟩
   ·exact .inl ⟨e1, e2.mono post⟩
   ·exact .inr ⟨v, w', e1, post _ _ e2⟩
 ·simp at h
theorem call_run {o : Oper} {a : Act} {w : World} {fn : Nat} {vs : Array Value} {Rr : Value → World → Prop} {next : Act → World → Prop} {Q : Exit → Act → World → Prop}
  (he : (execOp a.eval o).run P w = (callFunc fn vs).run P w) (hc : CallsF P fn vs w fun e w' => ∃ v, e = .returned v ∧ Rr v w') (hn : ∀ v w', Rr v w' → next (a.put o.dst v) w') : o.wp P a w next Q := by
 unfold Oper.wp
 rw [he]
 rcases hc with ⟨e1, e2⟩ | ⟨v, w', e1, v', e2, e3⟩
 ·rw [e1]
  rw [Oper.upon_enter]
  exact e2.mono fun e w' ⟨v, h1, h2⟩ => by subst h1; exact hn v w' h2
 ·rw [e1]
  cases e2
  exact hn v w' e3
theorem evs_length (t : Tmps) (xs : List Opd) : (evs t xs).length = xs.length := by
 induction xs with
 | nil => rfl
 | cons x xs ih => simp [evs, ih]
theorem call_ok {R : Type} {r : R} {o : Oper} {st : St} {f : Opd} {modes : List Mode} {res : List RK} {xs : List Opd} {f' : Operand} {xs' : Array Operand} {ats : Array TypeId} {K : AV → Mem → Option R} (hT : GoodAt P sg w0 Z T)
  (hf : chkCallee sg f f' modes xs.length = true) (hx : chkOpds sg xs xs'.toList = true) (ho : o.op = .call ⟨.value f', xs', ats⟩)
  (h : evalOp T st.t st.m (.call f modes false res xs) K = some r) : ∃ av m', K av m' = some r ∧ OpOk P sg keep N args w0 c0 Z o st av m' := by
 unfold chkCallee at hf
 split at hf
 ·rename_i fn fn'
  simp only [Bool.and_eq_true, beq_iff_eq] at hf
  obtain ⟨rfl, hf⟩ := hf
  simp only [evalOp, ev] at h
  obtain ⟨av, m', h1, g⟩ := callOp_ok (keep := keep) (N := N) (args := args) (w0 := w0) (c0 := c0) (Z := Z) hT h
  refine ⟨av, m', h1, fun hs c a w hin next Q hnext => ?_⟩
  have := g hs c a w hin _ [] (chkOpds_ok hx hin) (fun m1 js hj => by
   simp only [snapI1s, Option.some.injEq] at hj
   subst hj
   exact ⟨by simp [evs_length, hf], fun _ _ _ _ _ => .nil⟩)
  have e : (List.map a.eval xs'.toList ++ []).toArray = xs'.map a.eval := by apply Array.ext'; simp
  rw [e] at this
  refine call_run (vs := xs'.map a.eval) ?_ this hnext
  simp [execOp, ho, resolve, Act.eval, Deferred.ofValue, invoke]
 ·rename_i i j
  simp only [Bool.and_eq_true, beq_iff_eq] at hf
  obtain ⟨rfl, hf⟩ := hf
  have run : ∀ {a : Act} {fn : Nat} {cs : Array Value} {w : World}, a.tmps.getD i undef = .func (.func fn) #[] cs → (execOp a.eval o).run P w = (callFunc fn (xs'.map a.eval ++ cs)).run P w := fun {a fn cs w} hv => by
   have e : a.eval (.tmp i) = .func (.func fn) #[] cs := hv
   simp [execOp, ho, resolve, e, Deferred.ofValue, invoke]
  have modes_eq : ∀ fn k, sg.X fn → sg.modes fn ((evs st.t xs).length + k) = modes ++ List.replicate k .rd := fun fn k hX => by
   have : sg fn = none := hX
   simp [Sigs.modes, this, hf, evs_length, List.replicate_append_replicate]
  simp only [evalOp] at h
  split at h
  ·rename_i fn caps he
   obtain ⟨av, m', h1, g⟩ := callOp_ok (keep := keep) (N := N) (args := args) (w0 := w0) (c0 := c0) (Z := Z) hT h
   refine ⟨av, m', h1, fun hs c a w hin next Q hnext => ?_⟩
   have hp : ARel sg.X w Z hs (.f fn caps) (a.tmps.getD i undef) := by
    have := hin.tmp i
    rwa [show st.t i = .f fn caps from he] at this
   generalize hv : a.tmps.getD i undef = u at hp
   cases hp with
   | @f _ _ cs hX hl =>
    have := g hs c a w hin _ cs.toList (chkOpds_ok hx hin) (fun m1 js hj => ⟨modes_eq _ _ hX, fun c' Z' hm hz hc => snapI1s_ok hm hz hc hj hl⟩)
    have e : (List.map a.eval xs'.toList ++ cs.toList).toArray = xs'.map a.eval ++ cs := by apply Array.ext'; simp
    rw [e] at this
    exact call_run (vs := xs'.map a.eval ++ cs) (run hv) this hnext
  ·rename_i fn caps he
   obtain ⟨av, m', h1, g⟩ := callOp_ok (keep := keep) (N := N) (args := args) (w0 := w0) (c0 := c0) (Z := Z) hT h
   refine ⟨av, m', h1, fun hs c a w hin next Q hnext => ?_⟩
   have hp : ARel sg.X w Z hs (.ff fn caps) (a.tmps.getD i undef) := by
    have := hin.tmp i
    rwa [show st.t i = .ff fn caps from he] at this
   generalize hv : a.tmps.getD i undef = u at hp
   cases hp with
   | @ff _ _ cs hX hl =>
    have := g hs c a w hin _ cs.toList (chkOpds_ok hx hin) (fun m1 js hj => by
     simp only [Option.some.injEq] at hj
     subst hj
     exact ⟨modes_eq _ _ hX, fun c' Z' hm hz hc => hl.frame hz fun _ _ => rfl⟩)
    have e : (List.map a.eval xs'.toList ++ cs.toList).toArray = xs'.map a.eval ++ cs := by apply Array.ext'; simp
    rw [e] at this
    exact call_run (vs := xs'.map a.eval ++ cs) (run hv) this hnext
  ·simp at h
 ·simp at hf
end
end Go.Am
/- AM: structs and arrays of parts, slices of parts. Nothing is assumed. -/
namespace Go.Am
theorem fold_set (off : Nat) (l : List Value) : ∀ (k : Nat) (cells : Array Value), off + k + l.length ≤ cells.size →
  ((l.zipIdx k).foldl (fun cs x => cs.setIfInBounds (off + x.2) x.1) cells).toList = cells.toList.take (off + k) ++ l ++ cells.toList.drop (off + k + l.length) := by
 induction l with
 | nil => intro k cells _; simp
 | cons v l ih =>
  intro k cells h
  simp only [List.zipIdx_cons, List.foldl_cons]
  simp only [List.length_cons] at h
  rw [ih (k + 1) _ (by simp; omega)]
  have hk : off + k < cells.toList.length := by simp; omega
  simp only [Array.toList_setIfInBounds]
  have e1 : (cells.toList.set (off + k) v).take (off + (k + 1)) = cells.toList.take (off + k) ++ [v] := by
   rw [← Nat.add_assoc, List.take_add_one, List.take_set_of_le (Nat.le_refl _)]
   rw [List.getElem?_set_self hk]
   rfl
  have e2 : (cells.toList.set (off + k) v).drop (off + (k + 1) + l.length) = cells.toList.drop (off + k + (v :: l).length) := by
   rw [List.drop_set_of_lt (by omega)]
   congr 1
   simp; omega
  rw [e1, e2]
  simp
theorem fill_one {place : Nat → Option (Nat × Nat)} {cells : Array Value} {i off size : Nat} {v : Value} {l : List (Nat × Value)} (hp : place i = some (off, size)) (hs : v.cells.size = size) (hb : off + size ≤ cells.size) :
  Instr.fill place cells ((i, v) :: l) = Instr.fill place (cells.toList.take off ++ v.cells.toList ++ cells.toList.drop (off + size)).toArray l := by
 have e : v.cells.zipIdx.foldl (fun cs x => cs.setIfInBounds (off + x.2) x.1) cells = (cells.toList.take off ++ v.cells.toList ++ cells.toList.drop (off + size)).toArray := by
  apply Array.ext'
  rw [← Array.foldl_toList, Array.toList_zipIdx, fold_set off v.cells.toList 0 cells (by simpa [hs] using hb)]
  simp [hs]
 have hn : ¬ ((decide (v.cells.size ≠ size) || decide (off + v.cells.size > cells.size)) = true) := by simp; omega
 simp only [Instr.fill, hp]
 rw [if_neg hn, ← e]
section
variable {P : Program} {sg : Sigs} {T : Table} {keep : List Nat} {N : Nat} {args : Nat → Value} {w0 : World} {c0 : List Nat} {Z : Nat → Prop}
def chkParts (sg : Sigs) (place : Nat → Option (Nat × Nat)) : List (Nat × Nat × Opd) → List (Nat × Operand) → Bool
 | [], [] => true
 | (off, size, x) :: l, (i, y) :: l' => place i == some (off, size) && chkOpd sg x y && chkParts sg place l l'
 | _, _ => false
theorem ARelL.append {X : Nat → Prop} {w : World} {hs : List Hd} {xs ys : List AV} {vs us : List Value} (h : ARelL X w Z hs xs vs) (h' : ARelL X w Z hs ys us) : ARelL X w Z hs (xs ++ ys) (vs ++ us) := by
 induction xs generalizing vs with
 | nil => cases h; simpa using h'
 | cons d ds ih => cases h with | cons h h1 => simpa using ARelL.cons h (ih h1)
theorem parts_ok {place : Nat → Option (Nat × Nat)} {hs : List Hd} {c : List Nat} {st : St} {a : Act} {w : World} (hin : SInv sg.X keep N args w0 c0 Z hs c st a w) (ps : List (Nat × Nat × Opd)) :
  ∀ {ps' : List (Nat × Operand)} {xs ys : List AV} {cells : Array Value}, chkParts sg place ps ps' = true → setParts xs st.t ps = some ys → ARelL sg.X w Z hs xs cells.toList →
  ∃ cells', Instr.fill place cells (ps'.map fun (i, x) => (i, a.eval x)) = some cells' ∧ ARelL sg.X w Z hs ys cells'.toList := by
 induction ps with
 | nil =>
  intro ps' xs ys cells hc h hx
  cases ps' with
  | cons => simp [chkParts] at hc
  | nil =>
   simp only [setParts, Option.some.injEq] at h
   subst h
   exact ⟨cells, rfl, hx⟩
 | cons p ps ih =>
  intro ps' xs ys cells hc h hx
  obtain ⟨off, size, x⟩ := p
  cases ps' with
  | nil => simp [chkParts] at hc
  | cons p' ps' =>
   obtain ⟨i, y⟩ := p'
   simp only [chkParts, Bool.and_eq_true, beq_iff_eq] at hc
   obtain ⟨⟨hp, hy⟩, hc⟩ := hc
   simp only [setParts] at h
   split at h
   ·rename_i cs ec
    cases hb : (Nat.beq cs.length size && Nat.ble (off + cs.length) xs.length) with
    | false => simp [hb] at h
    | true =>
     simp only [hb, cond_true] at h
     simp only [Bool.and_eq_true] at hb
     have h1 := Nat.eq_of_beq_eq_true hb.1
     have h2 := Nat.le_of_ble_eq_true hb.2
     have hcs := cellsOf_ok ec (chkOpd_ok hy hin)
     have hl1 := hcs.length
     have hl2 := hx.length
     simp only [Array.length_toList] at hl1 hl2
     simp only [List.map_cons]
     rw [fill_one hp (by omega) (by omega)]
     refine ih hc h ?_
     unfold setL
     simp only [h1]
     exact ((hx.take off).append hcs).append (hx.drop (off + size))
   ·simp at h
theorem chkZ_arel {X : Nat → Prop} {w : World} {hs : List Hd} {ds : List D} : ∀ {vs : List Value}, chkZ ds vs = true → ARelL X w Z hs (ds.map D.up) vs := by
 induction ds with
 | nil => intro vs h; cases vs with
  | nil => exact .nil
  | cons => simp [chkZ] at h
 | cons d ds ih =>
  intro vs h
  cases vs with
  | nil => cases d with
   | v x => simp [chkZ] at h
   | s wd rows => cases rows <;> simp [chkZ] at h
  | cons v vs => cases d with
   | v x => simp [chkZ] at h; exact .cons (chkV_ok h.1) (ih h.2)
   | s wd rows =>
    unfold chkZ at h
    split at h
    ·simp at *
    ·simp at *
    ·rename_i e1 e2; cases e1; cases e2; exact .cons .o (ih h)
    ·simp at h
def fieldPlace (P : Program) (fs : Array Field) (i : Nat) : Option (Nat × Nat) := (fs[i]?).bind fun f => (P.info? f.type).map fun ti => (f.offset, ti.size)
theorem run_places {w : World} (fs : List Field) (h : fs.all (fun f => (P.info? f.type).isSome) = true) :
  ∃ l, (fs.mapM fun f => (do pure (f.offset, ← sizeOf f.type) : Sem (Nat × Nat))).run P w = .ok l w ∧ l = fs.map (fun f => (f.offset, ((P.info? f.type).map (·.size)).getD 0)) := by
 induction fs with
 | nil => exact ⟨[], by simp, rfl⟩
 | cons f fs ih =>
  simp only [List.all_cons, Bool.and_eq_true] at h
  obtain ⟨l, h1, h2⟩ := ih h.2
  obtain ⟨ti, hti⟩ := Option.isSome_iff_exists.1 h.1
  subst h2
  refine ⟨_, ?_, rfl⟩
  simp only [List.mapM_cons, Sem.run_bind, run_sizeOf' hti, Result.andThen_ok, h1, Sem.run_pure, List.map_cons, hti, Option.map_some, Option.getD_some]
theorem build_ok {R : Type} {r : R} {o : Oper} {st : St} {t : TypeId} {ti : TypeInfo} {z : Value} {zero : Row} {ps : List (Nat × Nat × Opd)} {ps' : Array (Nat × Operand)} {K : AV → Mem → Option R} {place : Nat → Option (Nat × Nat)}
  (hi : P.info? t = some ti) (hz : ti.zero = some z) (hc : chkZ zero z.cells.toList = true) (hp : chkParts sg place ps ps'.toList = true)
  (hu : (∃ fs, P.underlying t = some (.struct fs) ∧ fs.toList.all (fun f => (P.info? f.type).isSome) = true ∧ place = fieldPlace P fs) ∨
   ∃ n e te, P.underlying t = some (.array n e) ∧ P.info? e = some te ∧ place = fun i => some (i * te.size, te.size)) (ho : o.op = .build t ps')
  (h : evalOp T st.t st.m (.build zero ps) K = some r) : ∃ av m', K av m' = some r ∧ OpOk P sg keep N args w0 c0 Z o st av m' := by
 simp only [evalOp] at h
 split at h
 ·rename_i xs hs'
  refine ⟨_, _, h, pure_ok fun hs c a w hin => ?_⟩
  obtain ⟨cells', e1, e2⟩ := parts_ok hin ps hp hs' (chkZ_arel hc)
  refine ⟨.agg cells', ?_, .g e2⟩
  have hrun : (Instr.build t (ps'.map fun (i, x) => (i, a.eval x))).run P w = .ok (.agg cells') w := by
   have e3 : (ps'.map fun (i, x) => (i, a.eval x)).toList = ps'.toList.map fun (i, x) => (i, a.eval x) := by simp
   rcases hu with ⟨fs, hu, hall, rfl⟩ | ⟨n, e, te, hu, he, rfl⟩
   ·obtain ⟨l, h1, h2⟩ := run_places (P := P) (w := w) fs.toList hall
    have h3 : (fun i => (l.toArray)[i]?) = fieldPlace P fs := by
     funext i
     subst h2
     simp only [fieldPlace, List.getElem?_toArray, List.getElem?_map, Array.getElem?_toList]
     cases hf : fs[i]? with
     | none => rfl
     | some f =>
      have : f ∈ fs.toList := by
       rw [← Array.getElem?_toList] at hf
       exact List.mem_of_getElem? hf
      obtain ⟨ti, hti⟩ := Option.isSome_iff_exists.1 (List.all_eq_true.1 hall f this)
      simp [hti]
    have h4 : (fs.mapM fun f => (do pure (f.offset, ← sizeOf f.type) : Sem (Nat × Nat))).run P w = .ok l.toArray w := by
     have : fs = fs.toList.toArray := by simp
     rw [this, List.mapM_toArray]
     simp only [map_eq_pure_bind, Sem.run_bind, h1, Result.andThen_ok, Sem.run_pure]
    simp only [Instr.build, Sem.run_bind, run_zeroValue hi hz, Result.andThen_ok, run_underlying hu, h4, h3, e3, e1, Sem.run_pure]
   ·simp only [Instr.build, Sem.run_bind, run_zeroValue hi hz, Result.andThen_ok, run_underlying hu, run_sizeOf' he, e3, e1, Sem.run_pure]
  simp [execOp, ho, hrun]
 ·simp at h
end
end Go.Am
/- AM: a slice of parts. Nothing is assumed. -/
namespace Go.Am
section
variable {P : Program} {sg : Sigs} {T : Table} {keep : List Nat} {N : Nat} {args : Nat → Value} {w0 : World} {c0 : List Nat} {Z : Nat → Prop}
structure NInv (n : Node) : Prop where
 rows : ∀ r ∈ n.rows, r.length = n.wd
 opens : ∀ e ∈ n.opens, e.1.1 < n.rows.length ∧ e.1.2 < n.wd
 keys : n.opens.Pairwise fun e e' => e.1 ≠ e'.1
 kind : ∀ e ∈ n.opens, (∃ id, e.2 = .r id) ∨ ∃ wd rows, e.2 = .fz wd rows
theorem set_take (vs us : List Value) (v : Value) (k : Nat) (hk : k < vs.length) : (vs.set k v).take (k + 1) ++ us ++ (vs.set k v).drop (k + 1 + us.length) = vs.take k ++ (v :: us) ++ vs.drop (k + (v :: us).length) := by
 have e1 : (vs.set k v).take (k + 1) = vs.take k ++ [v] := by
  rw [List.take_add_one, List.take_set_of_le (Nat.le_refl _), List.getElem?_set_self hk]
  rfl
 have e2 : (vs.set k v).drop (k + 1 + us.length) = vs.drop (k + (v :: us).length) := by
  rw [List.drop_set_of_lt (by omega)]
  congr 1
  simp; omega
 rw [e1, e2]
 simp
theorem setCells_pure {X : Nat → Prop} {w : World} {hs : List Hd} (xs : List AV) : ∀ {n n' : Node} {i c : Nat} {vs us : List Value}, setCells n i c xs = some n' → NInv n → i < n.rows.length →
  CRelL w Z hs n.view vs [] → ARelL X w Z hs xs us → NInv n' ∧ n'.wd = n.wd ∧ n'.rows.length = n.rows.length ∧ (CRelL w Z hs n'.view (vs.take (i * n.wd + c) ++ us ++ vs.drop (i * n.wd + c + us.length)) []) := by
 induction xs with
 | nil =>
  intro n n' i c vs us h hn hi hv hx
  simp only [setCells, Option.some.injEq] at h
  subst h
  cases hx
  exact ⟨hn, rfl, rfl, by simpa using hv⟩
 | cons x xs ih =>
  intro n n' i c vs us h hn hi hv hx
  cases hx with
  | @cons _ _ v us hx hx' =>
   simp only [setCells] at h
   split at h
   ·rename_i d o hci
    cases hlt : Nat.blt c n.wd with
    | false => simp [hlt] at h
    | true =>
     simp only [hlt, cond_true] at h
     have hcw : c < n.wd := Nat.blt_eq.mp hlt
     obtain ⟨hcr, hkind⟩ := cellIn_ok hci hx
     have hrow : n.rows[i]? = some n.rows[i] := List.getElem?_eq_getElem hi
     have hlen : (n.rows[i]).length = n.wd := hn.rows _ (List.getElem_mem hi)
     have hcell : (n.rows[i])[c]? = some (n.rows[i])[c] := List.getElem?_eq_getElem (by rw [hlen]; exact hcw)
     obtain ⟨u, a1, ak, a2, g1, g2, g3, g4⟩ := hv.at (view_get hn.rows hcw hrow hcell)
     obtain ⟨e1, e2⟩ := List.append_eq_nil_iff.1 g3.symm
     obtain ⟨e1, _⟩ := List.append_eq_nil_iff.1 e1
     have g5 := g4 _ _ _ hcr
     rw [← view_set hn.rows hi hcw d o, e1, e2] at g5
     obtain ⟨r1, r2, r3, r4⟩ := ih (vs := vs.set (i * n.wd + c) v) h ⟨setD_wd hn.rows i c d, fun e he => by
       simp only [setD_length]
       rcases addO_mem he with ⟨h1, _⟩ | ⟨h1, _⟩
       ·rw [h1]; exact ⟨hi, hcw⟩
       ·exact hn.opens e h1, addO_keys hn.keys, fun e he => by
       rcases addO_mem he with ⟨_, h2⟩ | ⟨h1, _⟩
       ·exact hkind _ h2
       ·exact hn.kind e h1⟩ (by simpa [setD_length] using hi) (by simpa using g5) hx'
     refine ⟨r1, r2, by simpa [setD_length] using r3, ?_⟩
     have := set_take vs us v (i * n.wd + c) (List.getElem?_eq_some_iff.1 g1).1
     rw [← this]
     exact r4
   ·simp at h
def chkLits (sg : Sigs) : List (Nat × Opd) → List (Nat × Operand) → Bool
 | [], [] => true
 | (i, x) :: l, (i', y) :: l' => i == i' && chkOpd sg x y && chkLits sg l l'
 | _, _ => false
theorem lits_ok {hs : List Hd} {c : List Nat} {st : St} {a : Act} {w : World} (hin : SInv sg.X keep N args w0 c0 Z hs c st a w) (ps : List (Nat × Opd)) :
  ∀ {ps' : List (Nat × Operand)} {n n' : Node} {cells : Array Value}, chkLits sg ps ps' = true → litParts n st.t ps = some n' → NInv n → CRelL w Z hs n.view cells.toList [] →
  ∃ cells', Instr.fill (fun i => some (i * n.wd, n.wd)) cells (ps'.map fun (i, x) => (i, a.eval x)) = some cells' ∧ NInv n' ∧ n'.wd = n.wd ∧ n'.rows.length = n.rows.length ∧ CRelL w Z hs n'.view cells'.toList [] := by
 induction ps with
 | nil =>
  intro ps' n n' cells hc h hn hv
  cases ps' with
  | cons => simp [chkLits] at hc
  | nil =>
   simp only [litParts, Option.some.injEq] at h
   subst h
   exact ⟨cells, rfl, hn, rfl, rfl, hv⟩
 | cons p ps ih =>
  intro ps' n n' cells hc h hn hv
  obtain ⟨i, x⟩ := p
  cases ps' with
  | nil => simp [chkLits] at hc
  | cons p' ps' =>
   obtain ⟨i', y⟩ := p'
   simp only [chkLits, Bool.and_eq_true, beq_iff_eq] at hc
   obtain ⟨⟨rfl, hy⟩, hc⟩ := hc
   simp only [litParts] at h
   split at h
   ·rename_i cs ec
    cases hb : (Nat.beq cs.length n.wd && Nat.blt i n.rows.length) with
    | false => simp [hb] at h
    | true =>
     simp only [hb, cond_true] at h
     simp only [Bool.and_eq_true] at hb
     have h1 := Nat.eq_of_beq_eq_true hb.1
     have h2 : i < n.rows.length := Nat.blt_eq.mp hb.2
     split at h
     ·rename_i n2 hn2
      have hcs := cellsOf_ok ec (chkOpd_ok hy hin)
      have hl1 := hcs.length
      have hl2 := hv.length
      simp only [Array.length_toList] at hl1 hl2
      unfold Node.view at hl2
      rw [viewRows_length _ n.wd _ hn.rows 0] at hl2
      have hle : i * n.wd + n.wd ≤ n.rows.length * n.wd := by rw [← Nat.succ_mul]; exact Nat.mul_le_mul_right _ h2
      obtain ⟨r1, r2, r3, r4⟩ := setCells_pure cs hn2 hn h2 hv hcs
      simp only [Nat.add_zero, Array.length_toList, hl1, h1] at r4
      have := ih (cells := (cells.toList.take (i * n.wd) ++ (a.eval y).cells.toList ++ cells.toList.drop (i * n.wd + n.wd)).toArray) hc h r1 (by simpa using r4)
      rw [r2, r3] at this
      obtain ⟨cells', s1, s2, s3, s4, s5⟩ := this
      refine ⟨cells', ?_, s2, s3, s4, s5⟩
      simp only [List.map_cons]
      rw [fill_one (off := i * n.wd) (size := n.wd) rfl (by omega) (by omega)]
      exact s1
     ·simp at h
   ·simp at h
theorem rep_array (len : Nat) (z : Array Value) (hz : len * z.size ≠ 0) : ((Array.range (len * z.size)).map (fun i => z[i % z.size]!)).toList = (List.replicate len z.toList).flatten := by
 apply List.ext_getElem?
 intro k
 by_cases hk : k < len * z.size
 ·have hl : k < (List.replicate len z.toList).flatten.length := by simpa using hk
  have h1 := List.getElem?_eq_getElem hl
  rw [h1]
  have h2 := rep_get _ _ _ _ h1
  have hpos : 0 < z.size := Nat.pos_of_ne_zero fun h => by simp [h] at hz
  have h3 : k % z.size < z.size := Nat.mod_lt _ hpos
  simp only [Array.length_toList, Array.getElem?_toList] at h2
  simp only [Array.toList_map, List.getElem?_map, Array.getElem?_toList, Array.getElem?_range, hk, if_true, Option.map_some]
  rw [getElem!_def, h2]
 ·have hl : ¬ k < (List.replicate len z.toList).flatten.length := by simpa using hk
  rw [List.getElem?_eq_none (by simpa using hk), List.getElem?_eq_none (by simpa using hk)]
theorem rows_rel {w : World} {hs : List Hd} {zs : List Value} {rows : Rows} (h : ∀ r ∈ rows, chkZ r zs = true) : CRelL w Z hs (rows.flatten.map D.up) (List.replicate rows.length zs).flatten [] := by
 induction rows with
 | nil => exact .nil
 | cons r rs ih => simpa [List.replicate_succ] using (chkZ_ok (h r (by simp))).append (ih fun r h' => h r (by simp [h']))
theorem lit_ok {R : Type} {r : R} {o : Oper} {st : St} {t e : TypeId} {ti : TypeInfo} {z : Value} {wd len : Nat} {rows : Rows} {ps : List (Nat × Opd)} {ps' : Array (Nat × Operand)} {K : AV → Mem → Option R}
  (hu : P.underlying t = some (.slice e)) (hi : P.info? e = some ti) (hz : ti.zero = some z) (hs : ti.size = wd) (hlen : z.cells.size = wd)
  (hr : ∀ r ∈ rows, chkZ r z.cells.toList = true ∧ r.length = wd) (hrl : rows.length = len) (hb : len * wd ≤ 2 ^ 24) (hp : chkLits sg ps ps'.toList = true) (ho : o.op = .buildSlice t len ps')
  (h : evalOp T st.t st.m (.lit wd rows ps) K = some r) : ∃ av m', K av m' = some r ∧ OpOk P sg keep N args w0 c0 Z o st av m' := by
 simp only [evalOp] at h
 split at h
 ·subst hrl
  cases ps' with
  | mk l =>
   cases l with
   | cons x l => obtain ⟨i, y⟩ := x; simp [chkLits] at hp
   | nil =>
    refine ⟨_, _, h, fun hs' cc a w hin next Q hnext => ?_⟩
    have hrun : (execOp a.eval o).run P w = .ok (.value (.slice (some ⟨w.heap.size, 0, none⟩) 0 0)) { w with heap := w.heap.push (.cells #[] e) } := by
     have hmap : ∀ f : Nat → Value, Array.map f (Array.range 0) = #[] := fun f => by simp
     simp [execOp, ho, Instr.buildSlice, run_underlying hu, run_sizeOf' hi, Instr.fill, newRow, newObj, Sem.run]
     rw [hmap]
    unfold Oper.wp
    rw [hrun]
    have hlt := hin.mem.lt
    have hheap : ({ w with heap := w.heap.push (.cells #[] e) } : World).heap = w.heap.push (.cells #[] e) := rfl
    obtain ⟨p1, p2, p3⟩ := push_get hheap
    have hz : ∀ b, Z b → ({ w with heap := w.heap.push (.cells #[] e) } : World).heap[b]? = w.heap[b]? := fun b hb => p1 b (by have := hin.win.zlt b hb; have := hin.win.size; omega)
    refine hnext _ _ ⟨hs', cc, Ext.refl _, hin.mem.frame (fun _ h => h) hz (fun b hb => p1 b (hlt b hb)) (Ext.refl _), .o, (hin.win.push hlt hheap).less fun b => by simp only [List.count_append]; omega⟩
 split at h
 ·rename_i n hn
  refine ⟨_, _, h, fun hs' cc a w hin next Q hnext => ?_⟩
  generalize hcells : (Array.range (len * wd)).map (fun i => (if len * wd = 0 then #[] else z.cells)[i % (if len * wd = 0 then (#[] : Array Value) else z.cells).size]!) = cells
  have hl : cells.toList = (List.replicate len z.cells.toList).flatten := by
   by_cases h0 : len * wd = 0
   ·rw [← hcells]
    have : (List.replicate len z.cells.toList).flatten.length = 0 := by simp [hlen, h0]
    rw [List.length_eq_zero_iff.1 this]
    simp [h0]
   ·rw [← hcells]
    simp only [h0, if_false]
    have := rep_array len z.cells (by rw [hlen]; exact h0)
    rw [hlen] at this
    rw [← this, hlen]
  have hinit : NInv ⟨wd, rows, []⟩ := ⟨fun r hr' => (hr r hr').2, by simp, by simp, by simp⟩
  have hview : CRelL w Z hs' (Node.mk wd rows []).view cells.toList [] := by
   rw [hl, ← hrl]
   show CRelL w Z hs' (viewRows [] 0 _) _ []
   rw [viewRows_nil]
   exact rows_rel fun r h => (hr r h).1
  obtain ⟨cells', f1, f2, f3, f4, f5⟩ := lits_ok hin ps hp hn hinit hview
  simp only at f1 f3 f4
  have hsz : cells'.size = len * wd := by
   have := f5.length
   unfold Node.view at this
   rw [viewRows_length _ _ _ f2.rows 0, f3, f4, hrl] at this
   simpa using this
  obtain ⟨hs2, c2, q1, q2, q3, q4⟩ := new_ok (w' := { w with heap := w.heap.push (.cells cells' e) }) (e := e) (cells := cells') (cap := len) hin (n := n)
   (vals := cells'.toList) rfl (by rw [hsz, f3]; exact Nat.le_refl _) (by rw [f4, hrl]; exact Nat.le_refl _) (fun k v h => by simpa using h) f2.rows f2.opens f2.keys f2.kind f5
  have hrun : (execOp a.eval o).run P w = .ok (.value (.slice (some ⟨w.heap.size, 0, none⟩) len len)) { w with heap := w.heap.push (.cells cells' e) } := by
   have hbig : ¬ (len * wd > 2 ^ 24) := by omega
   have e3 : (ps'.map fun (i, x) => (i, a.eval x)).toList = ps'.toList.map fun (i, x) => (i, a.eval x) := by simp
   by_cases h0 : len * wd = 0
   ·have hce : cells = #[] := by
     rw [← hcells]
     simp [h0]
    rw [hce] at f1
    have hmap : ∀ f : Nat → Value, Array.map f (Array.range 0) = #[] := fun f => by simp
    simp only [execOp, ho, Instr.buildSlice, Sem.run_bind, run_underlying hu, Result.andThen_ok, run_sizeOf' hi, hs, hbig, h0, if_true, if_false, Sem.run_pure, e3, hmap, f1]
    simp [newRow, newObj, Sem.run, f1]
   ·simp only [h0, if_false] at hcells
    simp only [execOp, ho, Instr.buildSlice, Sem.run_bind, run_underlying hu, Result.andThen_ok, run_sizeOf' hi, hs, hbig, h0, if_false, Sem.run_pure, run_zeroValue hi hz, e3]
    simp only [hcells, f1]
    simp [newRow, newObj, Sem.run]
  unfold Oper.wp
  rw [hrun]
  refine hnext _ _ ⟨hs2, c2, q1, q2, ?_, q4⟩
  have := ARel.r (X := sg.X) (w := { w with heap := w.heap.push (.cells cells' e) }) (Z := Z) q3
  simpa [f4, hrl] using this
 ·simp at h
end
end Go.Am
/- AM: append. Nothing is assumed. -/
namespace Go.Am
theorem joinO_eq (a b : Opens) : joinO a b = a ++ b := by
 induction a with
 | nil => rfl
 | cons x a ih => simp [joinO, ih]
theorem shiftO_mem {k : Nat} {o : Opens} {e : (Nat × Nat) × AV} (h : e ∈ shiftO k o) : ∃ i c x, ((i, c), x) ∈ o ∧ e = ((i + k, c), x) := by
 induction o with
 | nil => simp [shiftO] at h
 | cons a o ih =>
  obtain ⟨⟨i, c⟩, x⟩ := a
  simp only [shiftO, List.mem_cons] at h
  rcases h with rfl | h
  ·exact ⟨i, c, x, by simp, rfl⟩
  ·obtain ⟨i, c, x, h1, h2⟩ := ih h
   exact ⟨i, c, x, by simp [h1], h2⟩
theorem findO_append (i c : Nat) (a b : Opens) : findO i c (a ++ b) = (findO i c a).orElse fun _ => findO i c b := by
 induction a with
 | nil => simp [findO]
 | cons e a ih =>
  obtain ⟨⟨i', c'⟩, x⟩ := e
  simp only [List.cons_append, findO, ih]
  split <;> simp
theorem findO_out {i c : Nat} {o : Opens} (h : ∀ e ∈ o, e.1.1 ≠ i) : findO i c o = none := by
 induction o with
 | nil => rfl
 | cons e o ih =>
  obtain ⟨⟨i', c'⟩, x⟩ := e
  have h1 := h _ List.mem_cons_self
  simp only at h1
  simp only [findO]
  rw [if_neg (fun h2 => h1 h2.2.symm)]
  exact ih fun e he => h e (by simp [he])
theorem findO_shift (k i c : Nat) (o : Opens) : findO (i + k) c (shiftO k o) = findO i c o := by
 induction o with
 | nil => rfl
 | cons e o ih =>
  obtain ⟨⟨i', c'⟩, x⟩ := e
  simp only [shiftO, findO, ih, Nat.add_right_cancel_iff]
theorem viewRow_congr {o o' : Opens} {i i' : Nat} (h : ∀ c, findO i c o = findO i' c o') (j : Nat) (r : Row) : viewRow o i j r = viewRow o' i' j r := by
 induction r generalizing j with
 | nil => rfl
 | cons d ds ih => simp [viewRow, h, ih]
theorem viewRows_congr {o o' : Opens} (rows : Rows) : ∀ {i i' : Nat}, (∀ k c, k < rows.length → findO (i + k) c o = findO (i' + k) c o') → viewRows o i rows = viewRows o' i' rows := by
 induction rows with
 | nil => intro i i' _; rfl
 | cons r rs ih =>
  intro i i' h
  simp only [viewRows]
  rw [viewRow_congr (o := o) (o' := o') (i := i) (i' := i') (fun c => by simpa using h 0 c (by simp)), ih (i := i + 1) (i' := i' + 1) fun k c hk => by
   have := h (k + 1) c (by simp; omega)
   rw [show i + 1 + k = i + (k + 1) by omega, show i' + 1 + k = i' + (k + 1) by omega]
   exact this]
theorem viewRows_append (o : Opens) (r1 r2 : Rows) : ∀ i, viewRows o i (r1 ++ r2) = viewRows o i r1 ++ viewRows o (i + r1.length) r2 := by
 induction r1 with
 | nil => intro i; simp [viewRows]
 | cons r rs ih =>
  intro i
  simp only [List.cons_append, viewRows, ih, List.append_assoc, List.length_cons]
  rw [show i + 1 + rs.length = i + (rs.length + 1) by omega]
theorem view_join {wd : Nat} {r1 r2 : Rows} {o1 o2 : Opens} (h1 : ∀ e ∈ o1, e.1.1 < r1.length) :
  (Node.mk wd (r1 ++ r2) (joinO o1 (shiftO r1.length o2))).view = (Node.mk wd r1 o1).view ++ (Node.mk wd r2 o2).view := by
 unfold Node.view
 rw [joinO_eq, viewRows_append]
 congr 1
 ·refine viewRows_congr r1 fun k c hk => ?_
  rw [findO_append]
  have : findO (0 + k) c (shiftO r1.length o2) = none := findO_out fun e he => by
   obtain ⟨i, c, x, _, rfl⟩ := shiftO_mem he
   simp only
   omega
  rw [this]
  cases findO (0 + k) c o1 <;> rfl
 ·refine viewRows_congr r2 fun k c hk => ?_
  rw [findO_append, findO_out (o := o1) fun e he => by have := h1 e he; omega]
  simp only [Nat.zero_add, Option.orElse_none]
  rw [Nat.add_comm]
  exact findO_shift ..
theorem join_inv {wd : Nat} {r1 r2 : Rows} {o1 o2 : Opens} (h1 : NInv ⟨wd, r1, o1⟩) (h2 : NInv ⟨wd, r2, o2⟩) : NInv ⟨wd, r1 ++ r2, joinO o1 (shiftO r1.length o2)⟩ := by
 have sh : ∀ e ∈ shiftO r1.length o2, r1.length ≤ e.1.1 ∧ e.1.1 < r1.length + r2.length ∧ e.1.2 < wd ∧ ((∃ id, e.2 = .r id) ∨ ∃ wd rows, e.2 = .fz wd rows) := fun e he => by
  obtain ⟨i, c, x, h, rfl⟩ := shiftO_mem he
  have := h2.opens _ h
  have hk := h2.kind _ h
  simp only at this
  exact ⟨by simp, by simp only; omega, this.2, hk⟩
 refine ⟨fun r hr => ?_, fun e he => ?_, ?_, fun e he => ?_⟩
 ·rcases List.mem_append.1 hr with h | h
  ·exact h1.rows r h
  ·exact h2.rows r h
 ·rw [joinO_eq] at he
  simp only [List.length_append]
  rcases List.mem_append.1 he with h | h
  ·have := h1.opens e h
   simp only at this
   exact ⟨by omega, this.2⟩
  ·have := sh e h
   exact ⟨this.2.1, this.2.2.1⟩
 ·rw [joinO_eq]
  refine List.pairwise_append.2 ⟨h1.keys, ?_, fun e he e' he' h => ?_⟩
  ·have := h2.keys
   simp only at this
   clear sh h2
   induction o2 with
   | nil => exact .nil
   | cons e o ih =>
    obtain ⟨⟨i, c⟩, x⟩ := e
    obtain ⟨g1, g2⟩ := List.pairwise_cons.1 this
    refine List.pairwise_cons.2 ⟨fun e he h => ?_, ih g2⟩
    obtain ⟨i', c', x', h3, rfl⟩ := shiftO_mem he
    refine g1 _ h3 ?_
    simp only [Prod.mk.injEq, Nat.add_right_cancel_iff] at h ⊢
    exact h
  ·have g1 := h1.opens e he
   have g2 := sh e' he'
   simp only at g1
   rw [h] at g1
   omega
 ·rw [joinO_eq] at he
  rcases List.mem_append.1 he with h | h
  ·exact h1.kind e h
  ·exact (sh e h).2.2.2
section
variable {X : Nat → Prop} {Z : Nat → Prop} {R : Type} {r : R}
theorem NodeRel.inv {w : World} {hs : List Hd} {h : Hd} {n : Node} {c : List Nat} (r : NodeRel w Z hs h n c) : NInv n := ⟨r.rows, r.opens, r.keys, r.kind⟩
theorem rowsOf_own {wd : Nat} {m : Mem} {x : AV} {K : Rows → Opens → Mem → Option R} (h : rowsOf false wd m x K = some r) :
  ∃ r1 o1 m1, K r1 o1 m1 = some r ∧ ∀ (w : World) (hs : List Hd) (c : List Nat) (v : Value), MemL w Z hs hs m c → ARel X w Z hs x v →
   ∃ hd cn c1, v = .slice hd.base hd.len hd.cap ∧ NodeRel w Z hs hd ⟨wd, r1, o1⟩ cn ∧ MemL w Z hs hs m1 c1 ∧ ∀ b, c1.count b + cn.count b ≤ c.count b := by
 unfold rowsOf at h
 split at h
 ·simp at h
 ·refine ⟨_, _, _, h, fun w hs c v hm hx => ?_⟩
  cases hx with
  | @o _ base =>
   refine ⟨⟨base, wd, 0, 0⟩, [], c, rfl, ⟨rfl, rfl, by simp, by simp, by simp, by simp, .inl ⟨rfl, rfl, rfl⟩⟩, hm, fun b => by simp⟩
 ·rename_i id
  split at h
  ·rename_i n hn
   cases hb : Nat.beq n.wd wd with
   | false => simp [hb] at h
   | true =>
    simp only [hb, cond_true] at h
    have hb := Nat.eq_of_beq_eq_true hb
    refine ⟨_, _, _, h, fun w hs c v hm hx => ?_⟩
    obtain ⟨hd, c1, cn, c2, e1, e2, e3, e4, e5, _⟩ := hm.at hn
    cases hx with
    | r hh =>
     rw [e1] at hh
     cases hh
     obtain ⟨nwd, nrows, nopens⟩ := n
     simp only at hb
     subst hb
     exact ⟨hd, cn, c1 ++ c2, rfl, e3, e5, fun b => by rw [e4]; simp only [List.count_append]; omega⟩
  ·simp at h
 ·simp at h
theorem flat_cells {w : World} {hs : List Hd} : ∀ {ds : Row} {vs : List Value}, flatRow ds = true → FroL w Z ds vs → CRelL w Z hs (ds.map D.up) vs [] := by
 intro ds
 induction ds with
 | nil => intro vs _ h; cases h; exact .nil
 | cons d ds ih =>
  intro vs hf h
  simp only [flatRow, List.all_cons, Bool.and_eq_true] at hf
  cases h with
  | cons h h' =>
   cases d with
   | v x => cases h with | v h => simpa [D.up] using CRelL.cons (CRel.v h) (ih (by simpa [flatRow] using hf.2) h')
   | s => simp at hf
theorem rowsOf_any {wd : Nat} {m : Mem} {x : AV} {K : Rows → Opens → Mem → Option R} (h : rowsOf true wd m x K = some r) :
  ∃ r2 o2 m2, K r2 o2 m2 = some r ∧ ∀ (w : World) (hs : List Hd) (c : List Nat) (v : Value), MemL w Z hs hs m c → ARel X w Z hs x v →
   ∃ base cap vs cn c2, v = .slice base r2.length cap ∧ NInv ⟨wd, r2, o2⟩ ∧ CRelL w Z hs (Node.mk wd r2 o2).view vs cn ∧ (r2 ≠ [] → ∃ b off, base = some ⟨b, off, none⟩ ∧ Holds w b off vs) ∧
    MemL w Z hs hs m2 c2 ∧ ∀ b, c2.count b + cn.count b ≤ c.count b := by
 unfold rowsOf at h
 split at h
 ·rename_i wd' rows
  cases hb : Nat.beq wd' wd with
  | false => simp [hb] at h
  | true =>
   simp only [hb, Bool.true_and, cond_true] at h
   have hb := Nat.eq_of_beq_eq_true hb
   subst hb
   obtain ⟨hf, h⟩ := tst_some h
   refine ⟨_, _, _, h, fun w hs c v hm hx => ?_⟩
   cases hx with
   | fz hx =>
    cases hx with
    | @z _ cap base => exact ⟨base, cap, [], [], c, rfl, ⟨by simp, by simp, by simp, by simp⟩, .nil, by simp, hm, fun b => by simp⟩
    | @s _ b off cap _ vs hw hc hz hh hl =>
     refine ⟨_, cap, vs, [], c, rfl, ⟨hw, by simp, by simp, by simp⟩, ?_, fun _ => ⟨b, off, rfl, hh⟩, hm, fun b => by simp⟩
     show CRelL w Z hs (viewRows [] 0 rows) vs []
     rw [viewRows_nil]
     refine flat_cells ?_ hl
     rw [flatRow, List.all_flatten]
     exact hf
 ·refine ⟨_, _, _, h, fun w hs c v hm hx => ?_⟩
  cases hx with
  | @o _ base => exact ⟨base, 0, [], [], c, rfl, ⟨by simp, by simp, by simp, by simp⟩, .nil, by simp, hm, fun b => by simp⟩
 ·rename_i id
  split at h
  ·rename_i n hn
   cases hb : Nat.beq n.wd wd with
   | false => simp [hb] at h
   | true =>
    simp only [hb, cond_true] at h
    have hb := Nat.eq_of_beq_eq_true hb
    refine ⟨_, _, _, h, fun w hs c v hm hx => ?_⟩
    obtain ⟨hd, c1, cn, c2, e1, e2, e3, e4, e5, _⟩ := hm.at hn
    cases hx with
    | r hh =>
     rw [e1] at hh
     cases hh
     obtain ⟨nwd, nrows, nopens⟩ := n
     simp only at hb
     subst hb
     have hlen := e3.len
     simp only at hlen
     rcases e3.mem with ⟨z1, z2, rfl⟩ | ⟨b, off, vs, c', f1, f2, f3, f4, f5, rfl⟩
     ·simp only at z1
      refine ⟨hd.base, hd.cap, [], [], c1 ++ c2, by rw [hlen], e3.inv, ?_, fun h => absurd z1 h, e5, fun b => by rw [e4]; simp [List.count_append]⟩
      simp only [Node.view, z1, viewRows]
      exact .nil
     ·refine ⟨hd.base, hd.cap, vs, c', c1 ++ c2, by rw [hlen], e3.inv, f5, fun _ => ⟨b, off, f1, f3⟩, e5, fun b => by rw [e4]; simp only [List.count_append, List.count_cons]; omega⟩
  ·simp at h
 ·simp at h
theorem Holds.cells {w : World} {b off : Nat} {vs : List Value} (h : Holds w b off vs) : ∀ j v, vs[j]? = some v → w.cell? ((⟨b, off, none⟩ : Addr).add j) = some v := fun j v hj => by
 obtain ⟨cs, e, f, h1, h2⟩ := h
 rw [addr_add]
 simp [World.cell?, h1, h2 j v hj]
theorem run_first {P : Program} {w w' : World} {base : Option Addr} {size n cap : Nat} {vs : List Value} (hw : w'.heap = w.heap) (hl : vs.length = n * size) (hb : vs = [] ∨ ∃ b off, base = some ⟨b, off, none⟩ ∧ Holds w b off vs) :
  (Builtin.firstCells size n (.slice base n cap)).run P w' = .ok vs.toArray w' := by
 rcases hb with rfl | ⟨b, off, rfl, hh⟩
 ·have h0 : n * size = 0 := by simpa using hl.symm
  cases base with
  | none => simp [Builtin.firstCells]
  | some a => simp [Builtin.firstCells, h0, loadCells, loadCellsFrom]
 ·have hh' : Holds w' b off vs := by unfold Holds at *; rwa [hw]
  exact run_firstCells_some (P := P) w' size n ⟨b, off, none⟩ n cap vs hl hh'.cells
theorem run_app_room {P : Program} {w : World} {t t2 ty e e2 : TypeId} {ti : TypeInfo} {base base2 : Option Addr} {sLen sCap n cap2 : Nat} {vs : List Value} (ht : P.underlying t = some (.slice e)) (ht2 : P.underlying t2 = some (.slice e2))
  (hi : P.info? e = some ti) (hf : (Builtin.firstCells ti.size n (.slice base2 n cap2)).run P w = .ok vs.toArray w) (hroom : sLen + n ≤ sCap) {w' : World}
  (hst : match base with | some a => (storeCells (a.add (sLen * ti.size)) vs 0).run P w = .ok () w' | none => w' = w) :
  (Builtin.append_ #[t, t2] ty #[.slice base sLen sCap, .slice base2 n cap2]).run P w = .ok (.slice base (sLen + n) sCap) w' := by
 cases base with
 | none =>
  simp only at hst
  subst hst
  simp [Builtin.append_, run_underlying ht, run_underlying ht2, sizeOf, typeInfo, hi, Builtin.lenOf, hroom, hf]
 | some a =>
  simp only at hst
  simp [Builtin.append_, run_underlying ht, run_underlying ht2, sizeOf, typeInfo, hi, Builtin.lenOf, hroom, hf, hst]
theorem run_app_grow {P : Program} {w : World} {t t2 ty e e2 : TypeId} {ti : TypeInfo} {z : Value} {base base2 : Option Addr} {sLen sCap n cap2 : Nat} {vs us : List Value} (ht : P.underlying t = some (.slice e)) (ht2 : P.underlying t2 = some (.slice e2))
  (hi : P.info? e = some ti) (hz : ti.zero = some z) (hfo : (Builtin.firstCells ti.size sLen (.slice base sLen sCap)).run P w.drew = .ok us.toArray w.drew)
  (hf : (Builtin.firstCells ti.size n (.slice base2 n cap2)).run P w.drew = .ok vs.toArray w.drew) (hg : sCap < sLen + n) (h63 : ((sLen + n : Nat) : Int) ≤ 9223372036854775807)
  (hfit : Builtin.nextslicecap (sLen + n) sCap * ti.bytes ≤ 281474976710656) :
  (Builtin.append_ #[t, t2] ty #[.slice base sLen sCap, .slice base2 n cap2]).run P w =
   .ok (.slice (some ⟨w.heap.size, 0, none⟩) (sLen + n) (grownCap w (sLen + n) sCap e))
    (w.drew.alloc (.cells (us.toArray ++ vs.toArray ++ Builtin.zeroCells z.cells (grownCap w (sLen + n) sCap e - (sLen + n))) e)) := by
 have hn : ¬ (sLen + n ≤ sCap) := by omega
 have h63' : ¬ (9223372036854775807 < ((sLen : Int) + (n : Int))) := by omega
 have h48' : ¬ (281474976710656 < Builtin.nextslicecap (sLen + n) sCap * ti.bytes) := by omega
 simp [Builtin.append_, run_underlying ht, run_underlying ht2, sizeOf, typeInfo, zeroValue, hi, hz, Builtin.lenOf, hn, h63', h48', Question.forced, hf, hfo, newRow, grownCap]
 congr 2
 apply Array.ext'
 simp [List.append_assoc]
theorem Holds.push {w : World} {b off : Nat} : ∀ {us : List Value} {vs : List Value}, Holds w b off vs → Free w b (off + vs.length) us.length → Holds (w.setCells b (off + vs.length) us) b off (vs ++ us) := by
 intro us
 induction us generalizing w with
 | nil => intro vs h _; simpa [World.setCells] using h
 | cons u us ih =>
  intro vs h hf
  have h1 : Holds (w.setCell ⟨b, off + vs.length, none⟩ u) b off (vs ++ [u]) := by
   obtain ⟨cs, e, fz, g1, g2⟩ := h
   obtain ⟨cs', e', fz', f1, f2, f3⟩ := hf
   rw [g1] at f1
   cases f1
   refine ⟨_, e, fz, setCell_heap.2.2 _ _ _ g1, fun k v hk => ?_⟩
   rw [List.getElem?_append] at hk
   split at hk
   ·rename_i hlt
    have := g2 _ _ hk
    rw [Array.getElem?_setIfInBounds]
    have : ¬ (off + vs.length = off + k) := by omega
    simp only [this, if_false]
    exact g2 _ _ hk
   ·have hk0 : k = vs.length := by
     have := (List.getElem?_eq_some_iff.1 hk).1
     simp at this
     omega
    subst hk0
    simp only [Nat.sub_self, List.getElem?_cons_zero, Option.some.injEq] at hk
    subst hk
    rw [Array.getElem?_setIfInBounds]
    have : off + vs.length < cs.size := by simp at f2; omega
    simp [this]
  have h2 : Free (w.setCell ⟨b, off + vs.length, none⟩ u) b (off + (vs ++ [u]).length) us.length := by
   have : Free w b (off + (vs ++ [u]).length) us.length := by
    obtain ⟨cs', e', fz', f1, f2, f3⟩ := hf
    simp only [List.length_cons, List.length_append, List.length_nil] at *
    exact ⟨cs', e', fz', f1, by omega, fun k hk hk' => f3 k (by omega) (by omega)⟩
   exact this.set
  have := ih h1 h2
  simpa [List.append_assoc, World.setCells, Nat.add_assoc] using this
theorem setCells_other {b : Nat} : ∀ {us : List Value} {o : Nat} {w : World}, (∀ x, x ≠ b → (w.setCells b o us).heap[x]? = w.heap[x]?) ∧ (w.setCells b o us).heap.size = w.heap.size := by
 intro us
 induction us with
 | nil => intro o w; exact ⟨fun _ _ => rfl, rfl⟩
 | cons u us ih =>
  intro o w
  obtain ⟨h1, h2⟩ := ih (o := o + 1) (w := w.setCell ⟨b, o, none⟩ u)
  exact ⟨fun x hx => (h1 x hx).trans (setCell_heap.1 x hx), h2.trans setCell_heap.2.1⟩
theorem Free.setCells {b off n : Nat} : ∀ {us : List Value} {o : Nat} {w : World}, Free w b off n → Free (w.setCells b o us) b off n := by
 intro us
 induction us with
 | nil => intro o w h; exact h
 | cons u us ih => intro o w h; exact ih h.set
theorem run_storeFree {P : Program} {w : World} {b o : Nat} {us : List Value} (hf : Free w b o us.length) (h1 : ∀ v ∈ us, v.oneCell' = true) : (storeCells ⟨b, o, none⟩ us 0).run P w = .ok () (w.setCells b o us) := by
 obtain ⟨cs, e, fz, g1, g2, g3⟩ := hf
 have := run_storeCells_cells (P := P) b o us 0 w (fun j hj => by
  have : o + 0 + j < cs.size := by omega
  simp only [Nat.add_zero] at this
  simp [World.cell?, g1, this]) (fun j hj => by
  have := g3 (o + 0 + j) (by omega) (by omega)
  simp only [World.frozen?, g1]
  simpa using this) h1
 simpa using this
theorem CRel.one {w : World} {hs : List Hd} {x : AV} {v : Value} {c : List Nat} (h : CRel w Z hs x v c) : v.oneCell' = true := by
 cases h with
 | v h => rcases sc_cases h with ⟨k, n, rfl⟩ | ⟨b, rfl⟩ | ⟨s, rfl⟩ | ⟨b, n, c, rfl⟩ <;> rfl
 | o h => cases h <;> rfl
 | fz h => cases h <;> rfl
 | r h => rfl
theorem CRelL.one {w : World} {hs : List Hd} {xs : List AV} : ∀ {vs : List Value} {c : List Nat}, CRelL w Z hs xs vs c → ∀ v ∈ vs, v.oneCell' = true := by
 induction xs with
 | nil => intro vs c h; cases h; simp
 | cons x xs ih => intro vs c h; cases h with
  | cons h h' =>
   intro v hv
   rcases List.mem_cons.1 hv with rfl | hv
   ·exact h.one
   ·exact ih h' v hv
end
section
variable {P : Program} {sg : Sigs} {T : Table} {keep : List Nat} {N : Nat} {args : Nat → Value} {w0 : World} {c0 : List Nat} {Z : Nat → Prop}
theorem post_new {X : Nat → Prop} {w' : World} {hs : List Hd} {m : Mem} {c cn : List Nat} {hd : Hd} {n : Node} (hm : MemL w' Z hs hs m c) (hn : NodeRel w' Z hs hd n cn) (hw : WInv w0 c0 Z w' (c ++ cn)) :
  OpPost X w0 c0 Z hs (.r m.length) (m ++ [some n]) (.slice hd.base hd.len hd.cap) w' :=
 ⟨hs ++ [hd], c ++ cn, Ext.append _ _, (hm.frame (fun _ h => h) (fun _ _ => rfl) (fun _ _ => rfl) (Ext.append _ _)).append (hn.frame (fun _ h => h) (fun _ _ => rfl) (fun _ _ => rfl) (Ext.append _ _)),
  .r (by rw [← hm.length]; simp), hw⟩
theorem app_ok {R : Type} {r : R} {o : Oper} {st : St} {x y : Opd} {x' y' : Operand} {t t2 e e2 : TypeId} {ti : TypeInfo} {z : Value} {wd bytes : Nat} {K : AV → Mem → Option R} (hx : chkOpd sg x x' = true) (hy : chkOpd sg y y' = true)
  (ht : P.underlying t = some (.slice e)) (ht2 : P.underlying t2 = some (.slice e2)) (hi : P.info? e = some ti) (hz : ti.zero = some z) (hzs : z.cells.size = wd) (hs : ti.size = wd) (hb : ti.bytes = bytes) (hb0 : bytes ≠ 0)
  (ho : o.op = .call { callee := .builtin .append, args := #[x', y'], argTypes := #[t, t2] })
  (h : evalOp T st.t st.m (.app wd bytes x y) K = some r) : ∃ av m', K av m' = some r ∧ OpOk P sg keep N args w0 c0 Z o st av m' := by
 simp only [evalOp] at h
 obtain ⟨r1, o1, m1, h, g1⟩ := rowsOf_own (X := sg.X) (Z := Z) h
 obtain ⟨r2, o2, m2, h, g2⟩ := rowsOf_any (X := sg.X) (Z := Z) h
 obtain ⟨hsz, h⟩ := tst_some h
 have hsz : (r1.length + r2.length) * bytes ≤ 140737488355328 := of_decide_eq_true hsz
 refine ⟨_, _, h, fun hs' c a w hin next Q hnext => ?_⟩
 have hp := chkOpd_ok hx hin
 have hq := chkOpd_ok hy hin
 obtain ⟨hd, cn1, c1, e1, n1, em1, k1⟩ := g1 w hs' c _ hin.mem hp
 obtain ⟨base2, cap2, vs2, cn2, c2, f1, n2, f3, f4, em2, k2⟩ := g2 w hs' c1 _ em1 hq
 have hl1 : hd.len = r1.length := n1.len
 have hw1 : hd.wd = wd := n1.wd
 have hl2 : vs2.length = r2.length * wd := by
  have := f3.length
  unfold Node.view at this
  rw [viewRows_length _ _ _ n2.rows 0] at this
  exact this
 have hneed : r1.length + r2.length ≤ 140737488355328 := Nat.le_trans (Nat.le_mul_of_pos_right _ (Nat.pos_of_ne_zero hb0)) hsz
 have hb2 : vs2 = [] ∨ ∃ b off, base2 = some ⟨b, off, none⟩ ∧ Holds w b off vs2 := by
  by_cases h0 : r2 = []
  ·exact .inl (List.length_eq_zero_iff.1 (by rw [hl2, h0]; simp))
  ·exact .inr (f4 h0)
 have hinv := join_inv n1.inv n2
 have hview := view_join (wd := wd) (r1 := r1) (r2 := r2) (o1 := o1) (o2 := o2) (fun e he => (n1.opens e he).1)
 have run : ∀ {v : Value} {w' : World}, (Builtin.append_ #[t, t2] o.type #[.slice hd.base r1.length hd.cap, .slice base2 r2.length cap2]).run P w = .ok v w' → (execOp a.eval o).run P w = .ok (.value v) w' := fun {v w'} hr => by
  rw [hl1] at e1
  simp [execOp, ho, resolve, invoke, builtin, e1, f1, hr]
 have cnt : ∀ b, c2.count b + (cn1.count b + cn2.count b) ≤ c.count b := fun b => by
  have := k1 b
  have := k2 b
  omega
 unfold Oper.wp
 by_cases hroom : r1.length + r2.length ≤ hd.cap
 ·rcases n1.mem with ⟨z1, z2, rfl⟩ | ⟨b, off, vs1, c1', q1, q2, q3, q4, q5, rfl⟩
  ·simp only at z1
   have h20 : r2 = [] := List.length_eq_zero_iff.1 (by omega)
   have hv0 : vs2 = [] := List.length_eq_zero_iff.1 (by rw [hl2, h20]; simp)
   subst hv0
   have hr := run_app_room (P := P) (ty := o.type) (w' := w) (base := hd.base) ht ht2 hi (run_first (P := P) (cap := cap2) rfl (by rw [hs]; exact hl2) hb2) hroom (by
    split
    ·rfl
    ·rfl)
   rw [run hr]
   refine hnext _ _ ?_
   refine post_new (hd := ⟨hd.base, wd, r1.length + r2.length, hd.cap⟩) (cn := []) em2 ⟨rfl, by simp, hinv.rows, hinv.opens, hinv.keys, hinv.kind, .inl ⟨by simp [z1, h20], z2, rfl⟩⟩ ?_
   exact hin.win.less fun b => by have := cnt b; simp only [List.append_nil]; omega
  ·have hlv : vs1.length = r1.length * wd := by
    have := q5.length
    unfold Node.view at this
    rw [viewRows_length _ _ _ n1.rows 0] at this
    exact this
   have hbc : b ∈ c := by
    have := cnt b
    simp only [List.count_cons_self] at this
    exact List.count_pos_iff.1 (by omega)
   have hcb : ∀ l : List Nat, l.count b = 0 → ∀ y ∈ l, y ≠ b := fun l hl y hy e => by
    subst e
    exact List.count_eq_zero.1 hl hy
   have hone := hin.win.cnt b
   have hcntb := cnt b
   simp only [List.count_cons_self] at hcntb
   have hzb : ¬ Z b := fun hz => hin.win.dis b hz hbc
   have hfree : Free w b (off + vs1.length) vs2.length := by
    obtain ⟨cs, el, fz, j1, j2, j3⟩ := q4
    have h1 : (r1.length + r2.length) * wd ≤ hd.cap * wd := Nat.mul_le_mul_right _ hroom
    rw [Nat.add_mul] at h1
    exact ⟨cs, el, fz, j1, by simp only at j2; omega, fun k hk hk' => j3 k (by omega) (by simp only; omega)⟩
   have hst := run_storeFree (P := P) hfree (CRelL.one f3)
   have hr := run_app_room (P := P) (ty := o.type) (w' := w.setCells b (off + vs1.length) vs2) (base := hd.base) ht ht2 hi (run_first (P := P) (cap := cap2) rfl (by rw [hs]; exact hl2) hb2) hroom (by
    rw [q1]
    simp only [addr_add, hs, ← hlv]
    exact hst)
   rw [run hr]
   refine hnext _ _ ?_
   obtain ⟨hoth, hsize⟩ := setCells_other (b := b) (us := vs2) (o := off + vs1.length) (w := w)
   have hz' : ∀ y, Z y → (w.setCells b (off + vs1.length) vs2).heap[y]? = w.heap[y]? := fun y hy => hoth y (by rintro rfl; exact hzb hy)
   refine post_new (hd := ⟨hd.base, wd, r1.length + r2.length, hd.cap⟩) (cn := b :: (c1' ++ cn2)) (em2.frame (fun _ h => h) hz' (fun y hy => hoth y (hcb _ (by omega) y hy)) (Ext.refl _))
    ⟨rfl, by simp, hinv.rows, hinv.opens, hinv.keys, hinv.kind, .inr ⟨b, off, vs1 ++ vs2, c1' ++ cn2, q1, by simpa using hroom, q3.push hfree, q4.setCells, ?_, rfl⟩⟩ ?_
   ·rw [hview]
    exact (q5.frame (fun _ h => h) hz' (fun y hy => hoth y (hcb _ (by omega) y hy)) (Ext.refl _)).append (f3.frame (fun _ h => h) hz' (fun y hy => hoth y (hcb _ (by omega) y hy)) (Ext.refl _))
   ·refine (hin.win.write hbc hoth hsize (setCells_mute _ _ _) (setCells_stay _ _ _)).less fun y => ?_
    have := cnt y
    simp only [List.count_append, List.count_cons] at *
    omega
 ·have hcap : r1.length ≤ hd.cap := by
   rcases n1.mem with ⟨z1, z2, _⟩ | ⟨b, off, vs1, c1', q1, q2, _⟩
   ·simp only at z1; simp [z1]
   ·exact q2
  obtain ⟨vs1, c1', q1, q5, q6⟩ : ∃ vs1 c1', (vs1 = [] ∨ ∃ b off, hd.base = some ⟨b, off, none⟩ ∧ Holds w b off vs1) ∧ CRelL w Z hs' (Node.mk wd r1 o1).view vs1 c1' ∧ ∀ b, c1'.count b ≤ cn1.count b := by
   rcases n1.mem with ⟨z1, z2, rfl⟩ | ⟨b, off, vs1, c1', q1, q2, q3, q4, q5, rfl⟩
   ·simp only at z1
    refine ⟨[], [], .inl rfl, ?_, fun b => Nat.le_refl _⟩
    simp only [Node.view, z1, viewRows]
    exact .nil
   ·exact ⟨vs1, c1', .inr ⟨b, off, q1, q3⟩, q5, fun b => by simp only [List.count_cons]; omega⟩
  have hlv : vs1.length = r1.length * wd := by
   have := q5.length
   unfold Node.view at this
   rw [viewRows_length _ _ _ n1.rows 0] at this
   exact this
  have hfit : Builtin.nextslicecap (r1.length + r2.length) hd.cap * ti.bytes ≤ 281474976710656 := growslice_fits (by omega) (by rw [hb]; exact hsz)
  have hr := run_app_grow (P := P) (ty := o.type) (w := w) ht ht2 hi hz (run_first (P := P) (w' := w.drew) (cap := hd.cap) rfl (by rw [hs]; exact hlv) q1) (run_first (P := P) (w' := w.drew) (cap := cap2) rfl (by rw [hs]; exact hl2) hb2) (by omega) (by omega) hfit
  generalize hnc : grownCap w (r1.length + r2.length) hd.cap e = newCap at hr
  have hge : r1.length + r2.length ≤ newCap := by rw [← hnc]; exact grownCap_ge ..
  generalize hcells : vs1.toArray ++ vs2.toArray ++ Builtin.zeroCells z.cells (newCap - (r1.length + r2.length)) = cells at hr
  have hcs : cells.size = newCap * wd := by
   rw [← hcells]
   simp only [Array.size_append, List.size_toArray, size_zeroCells, hzs, hlv, hl2, ← Nat.add_mul]
   congr 1
   omega
  rw [run hr]
  refine hnext _ _ ?_
  have hheap : (w.drew.alloc (.cells cells e)).heap = w.heap.push (.cells cells e) := rfl
  obtain ⟨p1, p2, p3⟩ := push_get hheap
  have hlt := hin.mem.lt
  have hltc : ∀ (l : List Nat), (∀ b, l.count b ≤ c.count b) → ∀ b ∈ l, b < w.heap.size := fun l hl b hb => hlt b (List.count_pos_iff.1 (by have := hl b; have := List.count_pos_iff.2 hb; omega))
  have hz' : ∀ b, Z b → (w.drew.alloc (.cells cells e)).heap[b]? = w.heap[b]? := fun b hb => p1 b (by have := hin.win.zlt b hb; have := hin.win.size; omega)
  refine post_new (hd := ⟨some ⟨w.heap.size, 0, none⟩, wd, r1.length + r2.length, newCap⟩) (cn := w.heap.size :: (c1' ++ cn2))
   (em2.frame (fun _ h => h) hz' (fun b hb => p1 b (hltc c2 (fun b => by have := cnt b; omega) b hb)) (Ext.refl _))
   ⟨rfl, by simp, hinv.rows, hinv.opens, hinv.keys, hinv.kind, .inr ⟨w.heap.size, 0, vs1 ++ vs2, c1' ++ cn2, rfl, by simpa using hge, ⟨cells, e, (0, 0), p2, fun k v hk => ?_⟩, ⟨cells, e, (0, 0), p2, by simp only [hcs]; omega, fun k _ _ => by simp⟩, ?_, rfl⟩⟩ ?_
  ·rw [← hcells, ← Array.getElem?_toList]
   simp only [Array.toList_append, Nat.zero_add]
   rw [List.getElem?_append_left (by simpa using (List.getElem?_eq_some_iff.1 hk).1)]
   exact hk
  ·rw [hview]
   exact (q5.frame (fun _ h => h) hz' (fun b hb => p1 b (hltc c1' (fun b => by have := cnt b; have := q6 b; omega) b hb)) (Ext.refl _)).append
    (f3.frame (fun _ h => h) hz' (fun b hb => p1 b (hltc cn2 (fun b => by have := cnt b; omega) b hb)) (Ext.refl _))
  ·refine (hin.win.push hlt hheap ⟨rfl, rfl, rfl⟩).less fun b => ?_
   have := cnt b
   have := q6 b
   simp only [List.count_append, List.count_cons, List.count_nil] at *
   omega
end
end Go.Am
/- AM: strings to bytes and back. Nothing is assumed. -/
namespace Go.Am
section
variable {P : Program} {sg : Sigs} {T : Table} {keep : List Nat} {N : Nat} {args : Nat → Value} {w0 : World} {c0 : List Nat} {Z : Nat → Prop}
theorem bytesRows_view (s : ByteArray) : (Node.mk 1 (rowsOfBytes s) []).view = s.toList.map fun b => AV.v (.int .u8 b.toNat) := by
 show viewRows [] 0 _ = _
 rw [viewRows_nil]
 unfold rowsOfBytes
 induction s.toList with
 | nil => rfl
 | cons b l ih => simpa [D.up] using ih
theorem strBytes_ok {R : Type} {r : R} {o : Oper} {st : St} {x : Opd} {x' : Operand} {src dst e : TypeId} {s : ByteArray} {K : AV → Mem → Option R} (hx : chkOpd sg x x' = true)
  (hs : P.underlying src = some .string) (hd : P.underlying dst = some (.slice e)) (he : P.underlying e = some (.int .u8)) (ho : o.op = .convert src dst x') (ea : ev st.t x = .v (.string s))
  (h : K (.r st.m.length) (st.m ++ [some ⟨1, rowsOfBytes s, []⟩]) = some r) : ∃ av m', K av m' = some r ∧ OpOk P sg keep N args w0 c0 Z o st av m' := by
 refine ⟨_, _, h, fun hs' c a w hin next Q hnext => ?_⟩
 have hx' := chkOpd_ok hx hin
 rw [ea] at hx'
 have hv := val_of hx'
 have hr := run_bytes_of_string (P := P) w src dst e s hs hd he
 have hge : s.size ≤ grownCap w s.size 0 e := grownCap_ge w s.size 0 e
 generalize grownCap w s.size 0 e = cap at hr hge
 have hrun : (execOp a.eval o).run P w = .ok (.value (.slice (some ⟨w.heap.size, 0, none⟩) s.size cap)) (w.drew.alloc (.cells (bytesRow s cap) e ((bytesRow s cap).size, (bytesRow s cap).size + 1))) := by
  simp [execOp, ho, hv, hr]
 have hsz : (bytesRow s cap).size = cap := by
  simp only [bytesRow, Array.size_append, Array.size_map, Array.size_replicate]
  show s.size + (cap - s.size) = cap
  omega
 have hheap : (w.drew.alloc (.cells (bytesRow s cap) e ((bytesRow s cap).size, (bytesRow s cap).size + 1))).heap = w.heap.push (.cells (bytesRow s cap) e ((bytesRow s cap).size, (bytesRow s cap).size + 1)) := rfl
 have hmu : Mute w (w.drew.alloc (.cells (bytesRow s cap) e ((bytesRow s cap).size, (bytesRow s cap).size + 1))) := ⟨rfl, rfl, rfl⟩
 generalize hw' : (w.drew.alloc (.cells (bytesRow s cap) e ((bytesRow s cap).size, (bytesRow s cap).size + 1))) = w' at hrun hheap hmu
 obtain ⟨p1, p2, p3⟩ := push_get hheap
 have hlt := hin.mem.lt
 have hz' : ∀ b, Z b → w'.heap[b]? = w.heap[b]? := fun b hb => p1 b (by have := hin.win.zlt b hb; have := hin.win.size; omega)
 have hlen : (rowsOfBytes s).length = s.size := by
  simp only [rowsOfBytes, List.length_map, ByteArray.toList_eq, Array.length_toList]
  rfl
 unfold Oper.wp
 rw [hrun]
 refine hnext _ _ ?_
 have := post_new (X := sg.X) (hd := ⟨some ⟨w.heap.size, 0, none⟩, 1, s.size, cap⟩) (cn := [w.heap.size]) (n := ⟨1, rowsOfBytes s, []⟩) (hin.mem.frame (fun _ h => h) hz' (fun b hb => p1 b (hlt b hb)) (Ext.refl _))
  ⟨rfl, hlen.symm, by simp [rowsOfBytes], by simp, by simp, by simp, .inr ⟨w.heap.size, 0, s.data.toList.map (fun b => Value.int .u8 b.toNat), [], rfl, by simp only [hlen]; exact hge,
   ⟨_, e, _, p2, fun k v hk => ?_⟩, ⟨_, e, _, p2, by simp only [hsz]; omega, fun k _ hk => by simp only [Nat.mul_one] at hk; simp only [hsz]; omega⟩, ?_, rfl⟩⟩ (hin.win.push hlt hheap hmu)
 ·exact this
 ·simp only [bytesRow, Nat.zero_add]
  have hk1 : k < s.data.size := by simpa using (List.getElem?_eq_some_iff.1 hk).1
  rw [Array.getElem?_append_left (by simpa using hk1)]
  simpa using hk
 ·rw [bytesRows_view, ByteArray.toList_eq]
  induction s.data.toList with
  | nil => exact .nil
  | cons b l ih => simpa using CRelL.cons (CRel.v (x := .int .u8 b.toNat) trivial) ih
theorem byteOfRow_some {r : Row} (h : (byteOfRow r).isSome = true) : ∃ n, r = [.v (.int .u8 n)] := by
 unfold byteOfRow at h
 split at h
 ·exact ⟨_, rfl⟩
 ·simp at h
theorem allBytes_some {rows : Rows} (h : allBytes rows = true) : ∃ ns : List Int, rows = ns.map fun n => [.v (.int .u8 n)] := by
 induction rows with
 | nil => exact ⟨[], rfl⟩
 | cons r rs ih =>
  simp only [allBytes, List.all_cons, Bool.and_eq_true] at h
  obtain ⟨n, rfl⟩ := byteOfRow_some h.1
  obtain ⟨ns, rfl⟩ := ih h.2
  exact ⟨n :: ns, rfl⟩
theorem foldl_bytes (ns : List Int) : ∀ r : ByteArray, ns.foldl (fun r n => r.push (UInt8.ofNat n.toNat)) r = ⟨r.data ++ (ns.map fun n => UInt8.ofNat n.toNat).toArray⟩ := by
 induction ns with
 | nil => intro r; simp
 | cons n ns ih =>
  intro r
  simp only [List.foldl_cons, List.map_cons]
  rw [ih]
  simp [ByteArray.push]
theorem bytesOf_map (ns : List Int) : bytesOfRows (ns.map fun n => [.v (.int .u8 n)]) = ⟨(ns.map fun n => UInt8.ofNat n.toNat).toArray⟩ := by
 unfold bytesOfRows
 congr 2
 induction ns with
 | nil => rfl
 | cons n ns ih => simp only [List.map_cons, List.filterMap_cons, byteOfRow, ih]
theorem froBytes {w : World} {ns : List Int} : ∀ {vs : List Value}, FroL w Z (ns.map fun n => [D.v (.int .u8 n)]).flatten vs → vs = ns.map (Value.int .u8) := by
 induction ns with
 | nil => intro vs h; cases h; rfl
 | cons n ns ih =>
  intro vs h
  simp only [List.map_cons, List.flatten_cons, List.cons_append, List.nil_append] at h
  cases h with
  | cons h h' => cases h with | v _ => simp [ih h']
theorem cellBytes {w : World} {hs : List Hd} {ns : List Int} : ∀ {vs : List Value} {c : List Nat}, CRelL w Z hs ((ns.map fun n => [D.v (.int .u8 n)]).flatten.map D.up) vs c → vs = ns.map (Value.int .u8) := by
 induction ns with
 | nil => intro vs c h; cases h; rfl
 | cons n ns ih =>
  intro vs c h
  simp only [List.map_cons, List.flatten_cons, List.cons_append, List.nil_append, D.up] at h
  cases h with
  | cons h h' => cases h with | v _ => simp [ih h']
theorem bytesStr_run {o : Oper} {a : Act} {w : World} {x' : Operand} {src dst e : TypeId} {ns : List Int} {base : Option Addr} {len cap : Nat} (hs : P.underlying src = some (.slice e)) (he : P.underlying e = some (.int .u8)) (hd : P.underlying dst = some .string)
  (ho : o.op = .convert src dst x') (hv : a.eval x' = .slice base len cap) (hlen : len = ns.length) (hb : ns = [] ∨ ∃ b off, base = some ⟨b, off, none⟩ ∧ Holds w b off (ns.map (Value.int .u8))) :
  (execOp a.eval o).run P w = .ok (.value (.string (bytesOfRows (ns.map fun n => [.v (.int .u8 n)])))) w := by
 have key : (convert src dst (.slice base len cap)).run P w = .ok (.string (bytesOfRows (ns.map fun n => [.v (.int .u8 n)]))) w := by
  rw [run_convert_bytes_string w src dst e base len cap hs he hd, bytesOf_map]
  have he0 : ByteArray.empty.data = #[] := rfl
  have he1 : (⟨#[]⟩ : ByteArray) = ByteArray.empty := rfl
  cases base with
  | none =>
   rcases hb with rfl | ⟨b, off, h, _⟩
   ·simp [Conv.bytesToString, he1]
   ·simp at h
  | some ad =>
   have hl : (loadCells ad len).run P w = .ok (ns.map (Value.int .u8)).toArray w := by
    have := run_loadCells_list (P := P) w ad (ns.map (Value.int .u8)) (by
     rcases hb with rfl | ⟨b, off, h, hh⟩
     ·simp
     ·cases h; exact hh.cells)
    simpa [hlen] using this
   rw [run_bytesToString w ad len cap ns hl, foldl_bytes, he0]
   simp
 simp [execOp, ho, hv, key]
theorem bytesStr_ok {R : Type} {r : R} {o : Oper} {st : St} {x : Opd} {x' : Operand} {src dst e : TypeId} {K : AV → Mem → Option R} (hx : chkOpd sg x x' = true)
  (hs : P.underlying src = some (.slice e)) (he : P.underlying e = some (.int .u8)) (hd : P.underlying dst = some .string) (ho : o.op = .convert src dst x')
  (h : evalOp T st.t st.m (.conv .bytesStr x) K = some r) : ∃ av m', K av m' = some r ∧ OpOk P sg keep N args w0 c0 Z o st av m' := by
 simp only [evalOp] at h
 split at h
 ·exact absurd ‹CK.bytesStr = _› (by simp)
 ·exact absurd ‹CK.bytesStr = _› (by simp)
 ·exact absurd ‹CK.bytesStr = _› (by simp)
 ·exact absurd ‹CK.bytesStr = _› (by simp)
 ·rename_i rows ea
  obtain ⟨hb, h⟩ := tst_some h
  obtain ⟨ns, rfl⟩ := allBytes_some hb
  refine ⟨_, _, h, pure_ok fun hs' c a w hin => ?_⟩
  have hx' := chkOpd_ok hx hin
  rw [ea] at hx'
  generalize hv : a.eval x' = v at hx'
  cases hx' with
  | fz hx' =>
   generalize hrows : (ns.map fun n => [D.v (.int .u8 n)]) = rows at hx' ⊢
   cases hx' with
   | z =>
    have : ns = [] := by simpa using hrows
    subst this
    exact ⟨_, by rw [← hrows]; exact bytesStr_run hs he hd ho hv rfl (.inl rfl), .v (x := .string _) trivial⟩
   | @s _ b off cap _ vs hw hc hz hh hl =>
    subst hrows
    have := froBytes hl
    subst this
    exact ⟨_, bytesStr_run hs he hd ho hv (by simp) (.inr ⟨b, off, rfl, hh⟩), .v (x := .string _) trivial⟩
 ·rename_i ea
  refine ⟨_, _, h, pure_ok fun hs' c a w hin => ?_⟩
  have hx' := chkOpd_ok hx hin
  rw [ea] at hx'
  generalize hv : a.eval x' = v at hx'
  cases hx' with
  | o => exact ⟨_, bytesStr_run (ns := []) hs he hd ho hv rfl (.inl rfl), .v (x := .string _) trivial⟩
 ·rename_i id ea
  split at h
  ·rename_i rows hn
   obtain ⟨hb, h⟩ := tst_some h
   obtain ⟨ns, rfl⟩ := allBytes_some hb
   refine ⟨_, _, h, pure_ok fun hs' c a w hin => ?_⟩
   have hx' := chkOpd_ok hx hin
   rw [ea] at hx'
   generalize hv : a.eval x' = v at hx'
   obtain ⟨hd', c1, cn, c2, e1, e2, e3, e4, e5, _⟩ := hin.mem.at hn
   cases hx' with
   | r hh =>
    rw [e1] at hh
    cases hh
    have hlen := e3.len
    simp only [List.length_map] at hlen
    rcases e3.mem with ⟨z1, z2, rfl⟩ | ⟨b, off, vs, c', f1, f2, f3, f4, f5, rfl⟩
    ·have : ns = [] := by simpa using z1
     exact ⟨_, bytesStr_run hs he hd ho hv hlen (.inl this), .v (x := .string _) trivial⟩
    ·unfold Node.view at f5
     simp only [viewRows_nil] at f5
     have := cellBytes f5
     subst this
     exact ⟨_, bytesStr_run hs he hd ho hv hlen (.inr ⟨b, off, f1, f3⟩), .v (x := .string _) trivial⟩
  ·simp at h
 ·simp at h
end
end Go.Am
/- AM: structs of scalars, compared. Nothing is assumed. -/
namespace Go.Am
def chkFields (P : Program) : List Field → List Kd → Nat → Bool
 | [], [], _ => true
 | f :: fs, k :: ks, j => f.name != "_" && f.offset == j && (match k, P.underlying f.type with
   | .i _, some (.int _) => true
   | .b, some .bool => true
   | .s, some .string => true
   | _, _ => false) && aggB P f.type == some false && chkFields P fs ks (j + 1)
 | _, _, _ => false
section
variable {P : Program} {sg : Sigs} {T : Table} {keep : List Nat} {N : Nat} {args : Nat → Value} {w0 : World} {c0 : List Nat} {Z : Nat → Prop}
theorem run_part {w : World} {t : TypeId} {vs : Array Value} {j : Nat} {v : Value} (ha : aggB P t = some false) (hv : vs[j]? = some v) : (part t vs j).run P w = .ok v w := by
 simp [part, run_isAgg ha, hv]
theorem eqFields_ok {w : World} {hs : List Hd} {X : Nat → Prop} {us vs : Array Value} {d : Nat} (fs : List Field) : ∀ {ks : List Kd} {xs ys : List AV} {j : Nat} {z : Bool}, chkFields P fs ks j = true →
  eqCells ks xs ys = some z → ARelL X w Z hs xs (us.toList.drop j) → ARelL X w Z hs ys (vs.toList.drop j) → (Op.eqFields (d + 1) us vs fs).run P w = .ok z w := by
 induction fs with
 | nil =>
  intro ks xs ys j z hc h _ _
  cases ks with
  | cons => simp [chkFields] at hc
  | nil =>
   cases xs with
   | cons => simp [eqCells] at h
   | nil =>
    cases ys with
    | cons => simp [eqCells] at h
    | nil => simp [eqCells] at h; subst h; simp [Op.eqFields]
 | cons f fs ih =>
  intro ks xs ys j z hc h hx hy
  cases ks with
  | nil => simp [chkFields] at hc
  | cons k ks =>
   simp only [chkFields, Bool.and_eq_true, bne_iff_ne, ne_eq, beq_iff_eq] at hc
   obtain ⟨⟨⟨⟨hn, rfl⟩, hk⟩, ha⟩, hc⟩ := hc
   generalize e1 : us.toList.drop f.offset = us0 at hx
   generalize e2 : vs.toList.drop f.offset = vs0 at hy
   cases hx with
   | nil => cases k <;> simp [eqCells] at h
   | @cons x xs u us' hx hx' =>
    cases hy with
    | nil => cases k <;> cases x <;> simp [eqCells] at h
    | @cons y ys v vs' hy hy' =>
     have g1 : us[f.offset]? = some u := by
      have := congrArg (·[0]?) e1
      simpa using this
     have g2 : vs[f.offset]? = some v := by
      have := congrArg (·[0]?) e2
      simpa using this
     have t1 : us' = us.toList.drop (f.offset + 1) := by
      have := congrArg List.tail e1
      simpa using this.symm
     have t2 : vs' = vs.toList.drop (f.offset + 1) := by
      have := congrArg List.tail e2
      simpa using this.symm
     rw [t1] at hx'
     rw [t2] at hy'
     have step : ∀ (q r : Bool), (Op.equalIn (d + 1) f.type u v).run P w = .ok q w → eqCells ks xs ys = some r → z = (q && r) → (Op.eqFields (d + 1) us vs (f :: fs)).run P w = .ok z w := by
      intro q r hq hr hz
      have hrest := ih hc hr hx' hy'
      simp only [Op.eqFields, Sem.run_ite, Sem.run_bind, run_part ha g1, run_part ha g2, Result.andThen_ok, hq, hrest, hn, not_false_eq_true, if_true, ne_eq]
      subst hz
      cases q <;> simp
     clear e1 e2
     unfold eqCells at h
     split at h
     ·simp at *
     ·rename_i k1 ks1 k2 a xs1 k3 b ys1 q1 q2 q3
      cases q1; cases q2; cases q3
      split at h
      ·rename_i r hr
       split at h
       ·simp only [Option.some.injEq] at h
        rename_i hkk
        subst hkk
        split at hk
        ·rename_i hu
         cases hx; cases hy
         exact step _ _ (run_equalIn_int w d f.type _ _ a b hu) hr h.symm
        all_goals simp_all
       ·simp at h
      ·simp at h
     ·rename_i ks1 a xs1 b ys1 q1 q2 q3
      cases q1; cases q2; cases q3
      split at h
      ·rename_i r hr
       simp only [Option.some.injEq] at h
       split at hk
       ·simp_all
       ·simp_all
       ·rename_i hu
        cases hx; cases hy
        exact step _ _ (run_equalIn_string w d f.type a b hu) hr h.symm
       ·simp_all
      ·simp at h
     ·rename_i ks1 a xs1 b ys1 q1 q2 q3
      cases q1; cases q2; cases q3
      split at h
      ·rename_i r hr
       simp only [Option.some.injEq] at h
       split at hk
       ·simp_all
       ·rename_i hu
        cases hx; cases hy
        exact step _ _ (run_equalIn_bool' w d f.type a b hu) hr h.symm
       ·simp_all
       ·simp_all
      ·simp at h
     ·simp at h
theorem geq_ok {o : Oper} {st : St} {op : BinOp} {t t' : TypeId} {x y : Opd} {x' y' : Operand} {fs : Array Field} {neg z : Bool} {ks : List Kd} {xs ys : List AV} (hx : chkOpd sg x x' = true) (hy : chkOpd sg y y' = true)
  (hu : P.underlying t = some (.struct fs)) (hst : P.stoodInHeld t = false) (hg : P.eqGuardType P.depth t = false) (hc : chkFields P fs.toList ks 0 = true) (hop : op = if neg then .neq else .eql)
  (ho : o.op = .binOp op t x' y' t') (ea : ev st.t x = .g xs) (eb : ev st.t y = .g ys) (hz : eqCells ks xs ys = some z) :
  OpOk P sg keep N args w0 c0 Z o st (.v (.bool (if neg then !z else z))) st.m :=
 pure_ok fun hs cc a w hin => by
  have h1 := chkOpd_ok hx hin
  have h2 := chkOpd_ok hy hin
  rw [ea] at h1
  rw [eb] at h2
  generalize hv1 : a.eval x' = v1 at h1
  generalize hv2 : a.eval y' = v2 at h2
  cases h1 with
  | @g _ us h1 =>
   cases h2 with
   | @g _ vs h2 =>
    have hf : P.fieldsOf t = fs := by simp [Program.fieldsOf, hu]
    have key : (Op.equalIn 10000 t (.agg us) (.agg vs)).run P w = .ok z w := by
     rw [run_equalIn_struct w 9999 t us vs (by rw [hf]; exact hu) hst, hf]
     exact eqFields_ok fs.toList hc hz (by simpa using h1) (by simpa using h2)
    refine ⟨_, ?_, .v (x := .bool (if neg then !z else z)) trivial⟩
    cases neg
    ·simp only [Bool.false_eq_true, if_false] at hop
     subst hop
     simp [execOp, ho, hv1, hv2, run_eqGuard_agg w _ t x' y' us vs hg, run_eql_struct, key]
    ·simp only [if_true] at hop
     subst hop
     simp [execOp, ho, hv1, hv2, run_eqGuard_agg w _ t x' y' us vs hg, run_neq_struct, key]
end
end Go.Am
/- AM: further operations: shifts, tests for nil, the lesser of two, views of one's own arrays. Nothing is assumed. -/
namespace Go.Am
def isSl (P : Program) (t : TypeId) (wd : Nat) : Bool := match P.underlying t with
 | some (.slice e) => (match P.info? e with | some ti => ti.size == wd | none => false)
 | _ => false
theorem isSl_some {P : Program} {t : TypeId} {wd : Nat} (h : isSl P t wd = true) : ∃ e ti, P.underlying t = some (.slice e) ∧ P.info? e = some ti ∧ ti.size = wd := by
 unfold isSl at h
 split at h
 ·rename_i e hu
  split at h
  ·rename_i ti hi; exact ⟨e, ti, hu, hi, by simpa using h⟩
  ·simp at h
 ·simp at h
def clrT (P : Program) (t : TypeId) (zero : Row) : Bool := match P.underlying t with
 | some (.slice e) => (match P.info? e with
  | some ti => ti.size == zero.length && (match ti.zero with | some z => chkZ zero z.cells.toList | none => false)
  | none => false)
 | _ => false
theorem clrT_some {P : Program} {t : TypeId} {zero : Row} (h : clrT P t zero = true) : ∃ e ti z, P.underlying t = some (.slice e) ∧ P.info? e = some ti ∧ ti.size = zero.length ∧ ti.zero = some z ∧ chkZ zero z.cells.toList = true := by
 unfold clrT at h
 split at h
 ·rename_i e he
  split at h
  ·rename_i ti hi
   simp only [Bool.and_eq_true, beq_iff_eq] at h
   obtain ⟨h1, h2⟩ := h
   split at h2
   ·rename_i z hz
    exact ⟨e, ti, z, he, hi, h1, hz, h2⟩
   ·simp at h2
  ·simp at h
 ·simp at h
def chkMore (P : Program) (sg : Sigs) (op : MOp) (o : Op) : Bool := match op, o with
 | .shr n x, .binOp .shr _ x' (.const (.int _ m)) _ => chkOpd sg x x' && decide (m = (n : Int))
 | .nilq wd x, .binOp .eql t x' (.const (.slice none _ _)) _ => chkOpd sg x x' && isSl P t wd
 | .mn x y, .call c => (match c.callee, c.args.toList with
  | .builtin .min, [x', y'] => chkOpd sg x x' && chkOpd sg y y'
  | _, _ => false)
 | .slo wd x lo hi, .slice t x' lo' hi' none => chkOpd sg x x' && chkOpt sg lo lo' && chkOpt sg hi hi' && isSl P t wd
 | .lnw x, .call c => (match c.callee, c.args.toList, c.argTypes.toList with
  | .builtin .len, [x'], t :: _ => chkOpd sg x x' && (match P.underlying t with
   | some (.slice _) => true
   | _ => false)
  | _, _, _ => false)
 | .lnh x, .call c => (match c.callee, c.args.toList, c.argTypes.toList with
  | .builtin .len, [x'], t :: _ => chkOpd sg x x' && (match P.underlying t with
   | some (.slice _) => true
   | _ => false)
  | _, _, _ => false)
 | .ste k x y, .store t x' y' => chkOpd sg x x' && chkOpd sg y y' && (match P.info? t with | some ti => ti.size == k | none => false)
 | .iaw wd x y, .indexAddr t x' y' => chkOpd sg x x' && chkOpd sg y y' && isSl P t wd
 | .nck x, .nilCheck x' => chkOpd sg x x'
 | .clr zero x, .call c => (match c.callee, c.args.toList, c.argTypes.toList with
  | .builtin .clear, [x'], [t] => chkOpd sg x x' && clrT P t zero
  | _, _, _ => false)
 | _, _ => false
theorem dropO_eq {i c : Nat} : ∀ o : Opens, dropO i c o = o.filter fun e => !(decide (c = e.1.2) && decide (i = e.1.1))
 | [] => rfl
 | ((i', c'), x) :: l => by
  have ih := dropO_eq (i := i) (c := c) l
  by_cases h : c = c' ∧ i = i'
  ·simp only [dropO, if_pos h, ih, List.filter_cons]
   simp [h.1, h.2]
  ·simp only [dropO, if_neg h, ih, List.filter_cons]
   have : (decide (c = c') && decide (i = i')) = false := by simpa using h
   simp [this]
theorem dropC_eq {c k : Nat} : ∀ o : Opens, dropC c k o = o.filter fun e => !(Nat.ble c e.1.2 && Nat.blt e.1.2 (c + k))
 | [] => rfl
 | ((i', c'), x) :: l => by
  have ih := dropC_eq (c := c) (k := k) l
  simp only [dropC, ih, List.filter_cons]
  cases Nat.ble c c' && Nat.blt c' (c + k) <;> simp
theorem dropC_step {i c k : Nat} {o : Opens} (h : ∀ e ∈ o, c ≤ e.1.2 → e.1.2 < c + (k + 1) → e.1.1 = i) : dropC (c + 1) k (dropO i c o) = dropC c (k + 1) o ∧ dropC (c + 1) k (dropC c (k + 1) o) = dropC c (k + 1) o := by
 constructor
 ·rw [dropO_eq, dropC_eq, dropC_eq, List.filter_filter]
  refine List.filter_congr fun e he => ?_
  have := h e he
  rw [Bool.eq_iff_iff]
  simp only [Bool.and_eq_true, Bool.not_eq_true', Nat.ble_eq, Nat.blt_eq, decide_eq_true_eq, Bool.eq_false_iff, ne_eq]
  omega
 ·rw [dropC_eq, dropC_eq, List.filter_filter]
  refine List.filter_congr fun e _ => ?_
  rw [Bool.eq_iff_iff]
  simp only [Bool.and_eq_true, Bool.not_eq_true', Nat.ble_eq, Nat.blt_eq, Bool.eq_false_iff, ne_eq]
  omega
theorem dropO_pre {i c : Nat} {p o : Opens} (h : ∀ e ∈ p, e.1.2 < c) : dropO i c (p ++ o) = p ++ dropO i c o := by
 rw [dropO_eq, dropO_eq, List.filter_append]
 congr 1
 refine List.filter_eq_self.2 fun e he => ?_
 have := h e he
 have : ¬ c = e.1.2 := by omega
 simp [this]
theorem dropO_none {i c k : Nat} {o : Opens} : dropO i c (dropC c (k + 1) o) = dropC c (k + 1) o := by
 rw [dropO_eq, dropC_eq, List.filter_filter]
 refine List.filter_congr fun e _ => ?_
 rw [Bool.eq_iff_iff]
 simp only [Bool.and_eq_true, Bool.not_eq_true', Nat.ble_eq, Nat.blt_eq, decide_eq_true_eq, Bool.eq_false_iff, ne_eq]
 omega
theorem setCells_drop {wd i : Nat} : ∀ (xs : List AV) (rows : Rows) (c : Nat) (p o : Opens), (∀ e ∈ p, e.1.2 < c) → (∀ e ∈ o, c ≤ e.1.2 → e.1.2 < c + xs.length → e.1.1 = i) →
  setCells ⟨wd, rows, p ++ o⟩ i c xs = setCells ⟨wd, rows, p ++ dropC c xs.length o⟩ i c xs
 | [], rows, c, p, o, _, _ => by
  have : dropC c 0 o = o := by
   rw [dropC_eq]
   refine List.filter_eq_self.2 fun e _ => ?_
   simp only [Bool.not_eq_true', Bool.and_eq_false_imp, Nat.ble_eq]
   intro h
   rw [Bool.eq_false_iff]
   intro h2
   have := Nat.blt_eq.mp h2
   omega
  simp only [setCells, List.length_nil, this]
 | x :: xs, rows, c, p, o, hp, ho => by
  simp only [setCells]
  cases cellIn x with
  | none => rfl
  | some q =>
   obtain ⟨d, ox⟩ := q
   simp only
   cases Nat.blt c wd with
   | false => rfl
   | true =>
    simp only [cond_true]
    obtain ⟨s1, s2⟩ := dropC_step (i := i) (c := c) (k := xs.length) (o := o) (by simpa using ho)
    have hl : (x :: xs).length = xs.length + 1 := rfl
    have key : ∀ p' : Opens, (∀ e ∈ p', e.1.2 < c + 1) → setCells ⟨wd, setD rows i c d, p' ++ dropO i c o⟩ i (c + 1) xs = setCells ⟨wd, setD rows i c d, p' ++ dropC c (xs.length + 1) o⟩ i (c + 1) xs := fun p' hp' => by
     rw [setCells_drop xs (setD rows i c d) (c + 1) p' (dropO i c o) hp' (fun e he h1 h2 => by
      rw [dropO_eq] at he
      exact ho e (List.mem_filter.1 he).1 (by omega) (by rw [hl]; omega)), s1]
    rw [hl]
    cases ox with
    | none =>
     simp only [addO]
     rw [dropO_pre hp, dropO_pre hp, dropO_none]
     exact key p fun e he => Nat.lt_succ_of_lt (hp e he)
    | some y =>
     simp only [addO]
     rw [dropO_pre hp, dropO_pre hp, dropO_none]
     exact key (((i, c), y) :: p) fun e he => by
      rcases List.mem_cons.1 he with rfl | he
      ·exact Nat.lt_succ_self _
      ·exact Nat.lt_succ_of_lt (hp e he)
theorem oneE_some {R : Type} {r : R} {i c : Nat} {K : Option R} : ∀ {o : Opens}, oneE i c K o = some r → K = some r ∧ ∀ e ∈ o, e.1.2 = c → e.1.1 = i
 | [], h => ⟨h, by simp⟩
 | ((i', c'), x) :: l, h => by
  simp only [oneE] at h
  cases hc : Nat.beq c' c with
  | true =>
   simp only [hc, cond_true] at h
   have h1 : Nat.beq i' i = true ∧ oneE i c K l = some r := by
    cases hb : Nat.beq i' i with
    | false => simp [hb, tst] at h
    | true => simp only [hb, tst, cond_true] at h; exact ⟨rfl, h⟩
   obtain ⟨h2, h3⟩ := oneE_some h1.2
   refine ⟨h2, fun e he hec => ?_⟩
   rcases List.mem_cons.1 he with rfl | he
   ·exact Nat.eq_of_beq_eq_true h1.1
   ·exact h3 e he hec
  | false =>
   simp only [hc, cond_false] at h
   obtain ⟨h2, h3⟩ := oneE_some h
   refine ⟨h2, fun e he hec => ?_⟩
   rcases List.mem_cons.1 he with rfl | he
   ·have : Nat.beq c' c = true := by rw [show c' = c from hec]; exact Nat.beq_refl c
    rw [hc] at this; cases this
   ·exact h3 e he hec
theorem allE_some {R : Type} {r : R} {i : Nat} {K : Option R} {o : Opens} : ∀ {k c : Nat}, allE i K o c k = some r → K = some r ∧ ∀ e ∈ o, c ≤ e.1.2 → e.1.2 < c + k → e.1.1 = i
 | 0, c, h => ⟨h, fun e _ h1 h2 => by omega⟩
 | k + 1, c, h => by
  simp only [allE] at h
  obtain ⟨h1, h2⟩ := oneE_some h
  obtain ⟨h3, h4⟩ := allE_some h1
  refine ⟨h3, fun e he h5 h6 => ?_⟩
  rcases Nat.lt_or_ge c e.1.2 with h7 | h7
  ·exact h4 e he (by omega) (by omega)
  ·exact h2 e he (by omega)
theorem ste_store {R : Type} {r : R} {T : Table} {t : Tmps} {m : Mem} {k : Nat} {x y : Opd} {K : AV → Mem → Option R} (h : evalMore t m (.ste k x y) K = some r) : evalOp T t m (.store k x y) K = some r := by
 simp only [evalMore, evalOp] at h ⊢
 split at h
 ·rename_i id i c cs ex ec
  cases hl : Nat.beq cs.length k with
  | false => simp [hl] at h
  | true =>
   have hk := Nat.eq_of_beq_eq_true hl
   simp only [hl, cond_true] at h ⊢
   split at h
   ·rename_i n hn
    obtain ⟨h1, h2⟩ := allE_some h
    subst hk
    have := setCells_drop (wd := n.wd) (i := i) cs n.rows c [] n.opens (by simp) h2
    simp only [List.nil_append] at this
    have e : setCells n i c cs = setCells ⟨n.wd, n.rows, n.opens⟩ i c cs := rfl
    rw [e, this]
    exact h1
   ·simp at h
 ·simp at h
section
variable {P : Program} {sg : Sigs} {T : Table} {keep : List Nat} {N : Nat} {args : Nat → Value} {w0 : World} {c0 : List Nat} {Z : Nat → Prop}
theorem shr_ok {o : Oper} {st : St} {x : Opd} {x' : Operand} {k k' : IntKind} {a m : Int} {n : Nat} {t t' : TypeId} (hx : chkOpd sg x x' = true) (hm : m = (n : Int)) (hn : n < k.bits)
  (ho : o.op = .binOp .shr t x' (.const (.int k' m)) t') (ea : ev st.t x = .v (.int k a)) : OpOk P sg keep N args w0 c0 Z o st (.v (.int k (Int.fdiv a (2 ^ n)))) st.m :=
 two_ok hx hx ea ea trivial fun ac w e1 _ _ _ => by
  subst hm
  have h0 : ¬ ((n : Int) < 0) := by omega
  have h1 : min n k.bits = n := by omega
  have e2 : ac.eval (.const (.int k' (n : Int))) = .int k' (n : Int) := rfl
  simp [execOp, ho, e1, e2, eqGuard, binOp, Op.shift, h1]
  exact fun h => absurd h h0
theorem mn_ok {o : Oper} {st : St} {x y : Opd} {x' y' : Operand} {k : IntKind} {a b : Int} {tys : Array TypeId} (hx : chkOpd sg x x' = true) (hy : chkOpd sg y y' = true)
  (ho : o.op = .call { callee := .builtin .min, args := #[x', y'], argTypes := tys }) (ea : ev st.t x = .v (.int k a)) (eb : ev st.t y = .v (.int k b)) :
  OpOk P sg keep N args w0 c0 Z o st (.v (.int k (bif decide (b < a) then b else a))) st.m :=
 two_ok hx hy ea eb trivial fun ac w e1 e2 _ _ => by
  simp [execOp, ho, resolve, invoke, builtin, Builtin.min_, e1, e2, Builtin.min2]
theorem run_eqsl {t e : TypeId} {base : Option Addr} {l c ln cp : Nat} {w : World} (d : Nat) (hu : P.underlying t = some (.slice e)) : (Op.equalIn (d + 1) t (.slice base ln cp) (.slice none l c)).run P w = .ok base.isNone w := by
 cases base with
 | none => simp [Op.equalIn, run_underlying hu]
 | some b => simp [Op.equalIn, run_underlying hu]
theorem run_slnil {t e : TypeId} {x' : Operand} {t' : TypeId} {l c : Nat} {base : Option Addr} {ln cp : Nat} {o : Oper} {a : Act} {w : World} (hu : P.underlying t = some (.slice e)) (ho : o.op = .binOp .eql t x' (.const (.slice none l c)) t')
  (hv : a.eval x' = .slice base ln cp) : (execOp a.eval o).run P w = .ok (.value (.bool base.isNone)) w := by
 have h1 : (Op.equalIn 10000 t (.slice base ln cp) (.slice none l c)).run P w = .ok base.isNone w := run_eqsl 9999 hu
 have h2 : (eqGuard .eql t x' (.const (.slice none l c)) (.slice base ln cp) (.slice none l c)).run P w = .ok () w := by
  unfold eqGuard
  simp
 have h3 : a.eval (.const (.slice none l c)) = .slice none l c := rfl
 simp [execOp, ho, hv, h3, h2, binOp, Op.equal, Op.maxDepth, h1]
theorem nilq_ok {o : Oper} {st : St} {x : Opd} {x' : Operand} {t t' : TypeId} {wd l c : Nat} {rows : Rows} {e : TypeId} (hx : chkOpd sg x x' = true) (hu : P.underlying t = some (.slice e))
  (ho : o.op = .binOp .eql t x' (.const (.slice none l c)) t') (ea : ev st.t x = .fz wd rows) : OpOk P sg keep N args w0 c0 Z o st (bif rows.isEmpty then .ub else .v (.bool false)) st.m :=
 pure_ok fun hs cc a w hin => by
  have h1 := chkOpd_ok hx hin
  rw [ea] at h1
  generalize hv : a.eval x' = v at h1
  cases h1 with
  | fz h1 =>
   cases h1 with
   | z => exact ⟨_, run_slnil hu ho hv, .ub⟩
   | s =>
    refine ⟨_, run_slnil hu ho hv, ?_⟩
    cases hr : rows.isEmpty with
    | true => exact .ub
    | false => exact .v (x := .bool false) trivial
theorem slo_ok {o : Oper} {st : St} {x : Opd} {lo hi : Option Opd} {x' : Operand} {lo' hi' : Option Operand} {t e : TypeId} {ti : TypeInfo} {id : Nat} {n : Node} {l h : Int} (hx : chkOpd sg x x' = true) (hl : chkOpt sg lo lo' = true) (hh : chkOpt sg hi hi' = true)
  (hu : P.underlying t = some (.slice e)) (hin' : P.info? e = some ti) (ho : o.op = .slice t x' lo' hi' none) (ex : ev st.t x = .r id) (hn : getNode st.m id = some n) (hs : ti.size = n.wd) (el : boundOf st.t 0 lo = some l) (eh : boundOf st.t n.rows.length hi = some h)
  (hc : cutOk l h n.rows.length = true) : OpOk P sg keep N args w0 c0 Z o st (.w id l.toNat h.toNat) st.m :=
 pure_ok fun hs' cc a w hin => by
  have h1 := chkOpd_ok hx hin
  rw [ex] at h1
  obtain ⟨g0, g1, g2⟩ := cutOk_iff hc
  obtain ⟨hd, c1, cn, c2, e1, e2, e3, _, e5, _⟩ := hin.mem.at hn
  generalize hv : a.eval x' = v at h1
  cases h1 with
  | r hh' =>
   rw [e1] at hh'
   cases hh'
   have hcap : n.rows.length ≤ hd.cap := by
    rcases e3.mem with ⟨z1, z2, _⟩ | ⟨b, off, vs, c', f1, f2, _⟩
    ·simp [z1]
    ·exact f2
   have hr := run_sliceBounds (P := P) (isS := true) (len := n.rows.length) (cap := hd.cap) (w := w) (bound_ok hin hl el) (bound_ok hin hh eh) g0 g1 g2 hcap
   rw [e3.len] at hv
   refine ⟨.slice (if hd.cap = l.toNat then hd.base else hd.base.map (·.add (l.toNat * ti.size))) (h.toNat - l.toNat) (hd.cap - l.toNat), ?_, .w e1 (by omega) (by rw [e3.len]; omega) (fun h0 => ?_) (fun b off hlt hb => ?_)⟩
   ·simp [execOp, ho, hv, Instr.sliceAt, Instr.slice, run_underlying hu, hr, run_sizeOf' hin']
   ·rw [h0]
    refine ⟨?_, by simp⟩
    split
    ·rfl
    ·cases hd.base with
     | none => rfl
     | some b => simp [Addr.add]
   ·have hne : ¬ (hd.cap = l.toNat) := by omega
    simp only [hne, if_false, hb, Option.map_some, addr_add, hs, e3.wd]
theorem lnw_ok {o : Oper} {st : St} {x : Opd} {x' : Operand} {id lo hi : Nat} {tys : Array TypeId} {t e : TypeId} (hx : chkOpd sg x x' = true) (ht : tys[0]? = some t)
  (ho : o.op = .call { callee := .builtin .len, args := #[x'], argTypes := tys }) (hu : P.underlying t = some (.slice e)) (ex : ev st.t x = .w id lo hi) :
  OpOk P sg keep N args w0 c0 Z o st (.v (.int .i64 ((hi - lo : Nat) : Int))) st.m :=
 pure_ok fun hs cc a w hin => by
  have h1 := chkOpd_ok hx hin
  rw [ex] at h1
  generalize hv : a.eval x' = v at h1
  cases h1 with
  | w hh h1 h2 h3 h4 =>
   exact ⟨_, by simp [execOp, ho, resolve, invoke, builtin, Builtin.len_, ht, hv, run_underlying hu, goInt], .v trivial⟩
theorem lnh_ok {o : Oper} {st : St} {x : Opd} {x' : Operand} {b : Option Addr} {n c : Nat} {tys : Array TypeId} {t e : TypeId} (hx : chkOpd sg x x' = true) (ht : tys[0]? = some t)
  (ho : o.op = .call { callee := .builtin .len, args := #[x'], argTypes := tys }) (hu : P.underlying t = some (.slice e)) (ex : ev st.t x = .v (.slice b n c)) :
  OpOk P sg keep N args w0 c0 Z o st (.v (.int .i64 (n : Int))) st.m :=
 pure_ok fun hs cc a w hin => by
  have h1 := chkOpd_ok hx hin
  rw [ex] at h1
  have hv := val_of h1
  exact ⟨_, by simp [execOp, ho, resolve, invoke, builtin, Builtin.len_, ht, hv, run_underlying hu, goInt], .v trivial⟩
theorem iaw_ok {o : Oper} {st : St} {x y : Opd} {x' y' : Operand} {t e : TypeId} {i : Int} {ti : TypeInfo} {id lo hi : Nat} {n : Node} (hx : chkOpd sg x x' = true) (hy : chkOpd sg y y' = true)
  (hu : P.underlying t = some (.slice e)) (hi' : P.info? e = some ti) (ho : o.op = .indexAddr t x' y') (ei : intOf (ev st.t y) = some i) (h0 : 0 ≤ i)
  (ex : ev st.t x = .w id lo hi) (hn : getNode st.m id = some n) (hwd : n.wd = ti.size) (hlt : i.toNat < hi - lo) : OpOk P sg keep N args w0 c0 Z o st (.a id (lo + i.toNat) 0) st.m :=
 pure_ok fun hs cc a w hin => by
  have h1 := chkOpd_ok hx hin
  have h2 := chkOpd_ok hy hin
  rw [intOf_ok ei] at h2
  have h2 := val_of h2
  have run : ∀ b o2 len cap, a.eval x' = .slice (some ⟨b, o2, none⟩) len cap → i.toNat < len → (execOp a.eval o).run P w = .ok (.value (.pointer (some ⟨b, o2 + i.toNat * ti.size, none⟩))) w := by
   intro b o2 len cap e1 hlt
   have h3 : i < (len : Int) := by omega
   have h4 : 0 ≤ i ∧ i < (len : Int) := ⟨h0, h3⟩
   simp only [execOp, ho, h2, e1, Instr.indexAt, asIntOf, Sem.run_bind, Sem.run_pure, Result.andThen_ok, run_underlying hu]
   rw [if_pos h4]
   simp [run_sizeOf' hi', addr_add]
  rw [ex] at h1
  obtain ⟨hd, c1, cn, c2, e1, e2, e3, _, e5, _⟩ := hin.mem.at hn
  generalize hv : a.eval x' = u at h1
  cases h1 with
  | w hh k1 k2 k3 k4 =>
   rw [e1] at hh
   cases hh
   have hlen := e3.len
   rcases e3.mem with ⟨z1, _⟩ | ⟨b, off, vs, c', f1, f2, f3, f4, f5, _⟩
   ·rw [z1] at hlen
    simp only [List.length_nil] at hlen
    omega
   ·rw [k4 b off (by omega) f1] at hv
    refine ⟨_, run b _ _ _ hv hlt, ?_⟩
    have := ARel.a (X := sg.X) (w := w) (Z := Z) (c := 0) e1 f1 (i := lo + i.toNat) (by omega)
    rw [e3.wd, hwd, Nat.add_zero] at this
    rw [e3.wd, hwd, Nat.add_assoc, ← Nat.add_mul]
    exact this
theorem clr_ok {o : Oper} {st : St} {x : Opd} {x' : Operand} {t e : TypeId} {ti : TypeInfo} {z : Value} {zero : Row} {id lo hi : Nat} {n : Node} (hx : chkOpd sg x x' = true)
  (hu : P.underlying t = some (.slice e)) (hi' : P.info? e = some ti) (hsz : ti.size = zero.length) (hz : ti.zero = some z) (hc : chkZ zero z.cells.toList = true)
  (ho : o.op = .call { callee := .builtin .clear, args := #[x'], argTypes := #[t] })
  (ex : ev st.t x = .w id lo hi) (hn : getNode st.m id = some n) (hop : n.opens = []) (hwd : n.wd = zero.length) (hlt : lo < hi) (hhi : hi = n.rows.length) :
  OpOk P sg keep N args w0 c0 Z o st .u (st.m.set id (some ⟨n.wd, n.rows.take lo ++ List.replicate (hi - lo) zero, []⟩)) := by
 intro hs cc a w hin next Q hnext
 have h1 := chkOpd_ok hx hin
 rw [ex] at h1
 obtain ⟨hd, c1, cn, c2, e1, e2, e3, e4, e6⟩ := hin.mem.at2 hn
 have hcr := chkZ_ok (w := w) (Z := Z) (hs := hs) hc
 have hzl : z.cells.size = zero.length := by
  have := hcr.length
  simpa using this
 generalize hv : a.eval x' = u at h1
 cases h1 with
 | @w _ _ _ cap base hd' hh k1 k2 k3 k4 =>
  rw [e1] at hh
  cases hh
  rcases e3.mem with ⟨z1, _⟩ | ⟨b, off, vs, c', f1, f2, f3, f4, f5, f6⟩
  ·rw [z1] at hhi
   simp only [List.length_nil] at hhi
   omega
  ·rw [k4 b off (by omega) f1] at hv
   have hbn : b ∈ cc := by rw [e4, f6]; simp
   have hzb : ¬ Z b := fun hz => hin.win.dis b hz hbn
   have hcnt : ∀ x, cn.count x ≤ 1 := fun x => by
    have := hin.win.cnt x
    rw [e4] at this
    simp only [List.count_append] at this
    omega
   have hbc : b ∉ c' := by
    have := hcnt b
    rw [f6] at this
    simp only [List.count_cons_self] at this
    exact List.count_eq_zero.1 (by omega)
   have hnb : ∀ y ∈ c1 ++ c2, y ≠ b := by
    rintro y hy rfl
    have := hin.win.cnt y
    rw [e4, f6] at this
    simp only [List.count_append, List.count_cons_self] at this
    have : (c1 ++ c2).count y ≠ 0 := fun h0 => List.count_eq_zero.1 h0 hy
    simp only [List.count_append] at this
    omega
   have hfl : n.rows.flatten.length = n.rows.length * n.wd := by
    have : ∀ (l : Rows), (∀ r ∈ l, r.length = n.wd) → l.flatten.length = l.length * n.wd := by
     intro l
     induction l with
     | nil => intro _; simp
     | cons r l ih => intro h; simp only [List.flatten_cons, List.length_append, List.length_cons, ih fun r h' => h r (by simp [h']), h r (by simp), Nat.add_mul]; omega
    exact this _ e3.rows
   have hview : n.view = n.rows.flatten.map D.up := by
    obtain ⟨nw, nr, no⟩ := n
    simp only at hop
    subst hop
    exact viewRows_nil nr 0
   rw [hview] at f5
   have hown := CRelL.own f5
   have hvl : vs.length = n.rows.length * n.wd := by rw [hown.length, hfl]
   obtain ⟨c'', g1, g2⟩ := hown.take (lo * n.wd)
   have hlo : lo * n.wd ≤ n.rows.length * n.wd := Nat.mul_le_mul_right _ (by omega)
   have htl : (vs.take (lo * n.wd)).length = lo * n.wd := by simp only [List.length_take]; omega
   generalize hus : (List.replicate (hi - lo) z.cells.toList).flatten = us
   have hul : us.length = (hi - lo) * n.wd := by
    rw [← hus]
    simp only [List.length_flatten, List.map_replicate, List.sum_replicate_nat, Array.length_toList, hzl, hwd]
   have hroom : off + lo * n.wd + us.length ≤ off + hd.cap * n.wd := by
    rw [hul]
    have h5 : n.rows.length * n.wd ≤ hd.cap * n.wd := Nat.mul_le_mul_right _ f2
    have h6 : (hi - lo) * n.wd + lo * n.wd = hi * n.wd := by rw [← Nat.add_mul]; congr 1; omega
    rw [hhi] at h6
    rw [hhi]
    omega
   have hfree : Free w b (off + (vs.take (lo * n.wd)).length) us.length := by
    rw [htl]
    obtain ⟨cs, el, fz, j1, j2, j3⟩ := f4
    exact ⟨cs, el, fz, j1, by omega, fun k h7 h8 => j3 k (by omega) (by omega)⟩
   have hrel := rep_rel (hs := hs) hcr (hi - lo)
   rw [hus] at hrel
   have hone := hrel.one
   have hst := run_storeFree (P := P) hfree hone
   rw [htl] at hst
   have hholds := (f3.take (lo * n.wd)).push hfree
   rw [htl] at hholds
   obtain ⟨r3, r4⟩ := setCells_other (b := b) (us := us) (o := off + lo * n.wd) (w := w)
   have hsub : ∀ y ∈ c'', y ∈ c' := fun y hy => by
    have := g2 y
    have h0 : c''.count y ≠ 0 := fun h0 => List.count_eq_zero.1 h0 hy
    exact List.count_pos_iff.1 (by omega)
   have hzs : ∀ y, Z y → (w.setCells b (off + lo * n.wd) us).heap[y]? = w.heap[y]? := fun y hy => r3 y (by rintro rfl; exact hzb hy)
   have g3 : OwnL (w.setCells b (off + lo * n.wd) us) (n.rows.flatten.take (lo * n.wd)) (vs.take (lo * n.wd)) c'' := g1.frame fun y hy => r3 y (by rintro rfl; exact hbc (hsub _ hy))
   have g4 : CRelL (w.setCells b (off + lo * n.wd) us) Z hs ((n.rows.take lo ++ List.replicate (hi - lo) zero).flatten.map D.up) (vs.take (lo * n.wd) ++ us) c'' := by
    rw [List.flatten_append, List.map_append, rows_take e3.rows]
    have := (CRelL.of_own (Z := Z) (hs := hs) g3).append (hrel.frame (fun _ h => h) hzs (fun _ h => by simp at h) (fun _ _ h => h))
    simpa using this
   have node : NodeRel (w.setCells b (off + lo * n.wd) us) Z hs hd ⟨n.wd, n.rows.take lo ++ List.replicate (hi - lo) zero, []⟩ (b :: c'') := by
    have hrl : (n.rows.take lo ++ List.replicate (hi - lo) zero).length = n.rows.length := by simp; omega
    refine ⟨e3.wd, by rw [e3.len]; exact hrl.symm, fun r hr => ?_, by simp, by simp, by simp, .inr ⟨b, off, _, c'', f1, by rw [hrl]; exact f2, hholds, f4.setCells, ?_, rfl⟩⟩
    ·rcases List.mem_append.1 hr with h | h
     ·exact e3.rows r (List.mem_of_mem_take h)
     ·rw [(List.mem_replicate.1 h).2]; exact hwd.symm
    ·show CRelL _ Z hs (viewRows [] 0 _) _ _
     rw [viewRows_nil]
     exact g4
   have hmem := e6 _ hzs (fun y hy => r3 y (hnb y hy)) _ _ node
   have hwin : WInv w0 c0 Z (w.setCells b (off + lo * n.wd) us) (c1 ++ (b :: c'') ++ c2) := by
    refine (hin.win.write hbn r3 r4 (setCells_mute _ _ _) (setCells_stay _ _ _)).less fun y => ?_
    have := g2 y
    rw [e4, f6]
    simp only [List.count_append, List.count_cons]
    omega
   rw [e3.wd] at hv
   have hzc : (Builtin.zeroCells z.cells (hi - lo)).toList = us := by
    rw [← hus]
    by_cases h0 : (hi - lo) * z.cells.size = 0
    ·have h9 : z.cells.size = 0 := by
      rcases Nat.mul_eq_zero.1 h0 with h | h
      ·omega
      ·exact h
     have h10 : z.cells = #[] := Array.eq_empty_of_size_eq_zero h9
     rw [h10]
     simp [Builtin.zeroCells]
    ·exact rep_array _ _ h0
   have hrun : (execOp a.eval o).run P w = .ok (.value (.tuple #[])) (w.setCells b (off + lo * n.wd) us) := by
    have hpos : hi - lo ≠ 0 := by omega
    have hzr : (zeroValue e).run P w = .ok z w := run_zeroValue hi' hz w
    obtain ⟨kk, hkk⟩ : ∃ kk, hi - lo = kk + 1 := ⟨hi - lo - 1, by omega⟩
    rw [hkk] at hv hzc
    simp [execOp, ho, resolve, invoke, builtin, Builtin.clear_, hv, run_underlying hu, hzr, hzc, hst, Nat.succ_ne_zero]
   unfold Oper.wp
   rw [hrun]
   exact hnext _ _ ⟨hs, _, Ext.refl _, hmem, .u, hwin⟩
theorem nck_ok {o : Oper} {st : St} {x : Opd} {x' : Operand} (hx : chkOpd sg x x' = true) (ho : o.op = .nilCheck x')
  (hav : (∃ id i c, ev st.t x = .a id i c) ∨ (∃ row c, ev st.t x = .fa row c)) : OpOk P sg keep N args w0 c0 Z o st (ev st.t x) st.m :=
 pure_ok fun hs cc a w hin => by
  have h1 := chkOpd_ok hx hin
  refine ⟨a.eval x', ?_, h1⟩
  generalize hv : a.eval x' = v at h1
  rcases hav with ⟨id, i, c, e⟩ | ⟨row, c, e⟩
  ·rw [e] at h1
   cases h1 with
   | a hh hb hi => simp [execOp, ho, hv]
  ·rw [e] at h1
   cases h1 with
   | fa hz hh h => simp [execOp, ho, hv]
abbrev Done' (P : Program) (sg : Sigs) (keep : List Nat) (N : Nat) (args : Nat → Value) (w0 : World) (c0 : List Nat) (Z : Nat → Prop) (o : Oper) (st : St) {R : Type} (K : AV → Mem → Option R) (r : R) : Prop :=
 ∃ av m', K av m' = some r ∧ OpOk P sg keep N args w0 c0 Z o st av m'
theorem evalMore_ok {R : Type} {r : R} {o : Oper} {st : St} {ao : MOp} {K : AV → Mem → Option R} (hc : chkMore P sg ao o.op = true) (h : evalMore st.t st.m ao K = some r) :
  Done' P sg keep N args w0 c0 Z o st K r := by
 generalize hop : o.op = op at hc
 unfold chkMore at hc
 split at hc
 ·rename_i n x t x' k' m t'
  simp only [Bool.and_eq_true, decide_eq_true_eq] at hc
  simp only [evalMore] at h
  split at h
  ·rename_i k a ea
   cases hb : Nat.blt n k.bits with
   | false => simp [hb] at h
   | true =>
    simp only [hb, cond_true] at h
    exact ⟨_, _, h, shr_ok hc.1 hc.2 (Nat.blt_eq.mp hb) hop ea⟩
  ·simp at h
 ·rename_i wd x t x' l c t'
  simp only [Bool.and_eq_true] at hc
  obtain ⟨e, ti, hu, hi, hs⟩ := isSl_some hc.2
  simp only [evalMore] at h
  split at h
  ·rename_i wd' rows ea
   cases hb : Nat.beq wd' wd with
   | false => simp [hb] at h
   | true =>
    simp only [hb, cond_true] at h
    refine ⟨_, _, ?_, nilq_ok hc.1 hu hop ea⟩
    cases hr : rows.isEmpty <;> simpa [hr] using h
  ·simp at h
 ·rename_i x y c
  obtain ⟨callee, cargs, ctys⟩ := c
  simp only at hc
  split at hc
  ·rename_i x' y' e1
   have e1 : cargs = #[x', y'] := by apply Array.ext'; simpa using e1
   subst e1
   simp only [Bool.and_eq_true] at hc
   simp only [evalMore] at h
   split at h
   ·rename_i k a k' b ea eb
    unfold sameKind at h
    split at h
    ·rename_i hk
     subst hk
     exact ⟨_, _, h, mn_ok hc.1 hc.2 hop ea eb⟩
    ·simp at h
   ·simp at h
  ·simp at hc
 ·rename_i wd x lo hi t x' lo' hi'
  simp only [Bool.and_eq_true] at hc
  obtain ⟨⟨⟨a1, a2⟩, a3⟩, a4⟩ := hc
  obtain ⟨e, ti, hu, hi, hs⟩ := isSl_some a4
  simp only [evalMore] at h
  split at h
  ·rename_i id ex
   split at h
   ·rename_i n hn
    cases hb : Nat.beq n.wd wd with
    | false => simp [hb] at h
    | true =>
     simp only [hb, cond_true] at h
     have hb := Nat.eq_of_beq_eq_true hb
     split at h
     ·rename_i l hh el eh
      obtain ⟨hc, h⟩ := tst_some h
      exact ⟨_, _, h, slo_ok a1 a2 a3 hu hi hop ex hn (hs.trans hb.symm) el eh hc⟩
     ·simp at h
   ·simp at h
  ·simp at h
 ·rename_i x c
  obtain ⟨callee, cargs, ctys⟩ := c
  simp only at hc
  split at hc
  ·rename_i x' t l e1 e2
   have e1 : cargs = #[x'] := by apply Array.ext'; simpa using e1
   subst e1
   simp only [Bool.and_eq_true] at hc
   obtain ⟨a1, a2⟩ := hc
   have ht : ctys[0]? = some t := by rw [← Array.getElem?_toList, e2]; rfl
   split at a2
   ·rename_i e hu
    simp only [evalMore] at h
    split at h
    ·rename_i id lo hi ex
     exact ⟨_, _, h, lnw_ok a1 ht hop hu ex⟩
    ·simp at h
   ·simp at a2
  ·simp at hc
 ·rename_i x c
  obtain ⟨callee, cargs, ctys⟩ := c
  simp only at hc
  split at hc
  ·rename_i x' t l e1 e2
   have e1 : cargs = #[x'] := by apply Array.ext'; simpa using e1
   subst e1
   simp only [Bool.and_eq_true] at hc
   obtain ⟨a1, a2⟩ := hc
   have ht : ctys[0]? = some t := by rw [← Array.getElem?_toList, e2]; rfl
   split at a2
   ·rename_i e hu
    simp only [evalMore] at h
    split at h
    ·rename_i b n c ex
     exact ⟨_, _, h, lnh_ok a1 ht hop hu ex⟩
    ·simp at h
   ·simp at a2
  ·simp at hc
 ·rename_i k x y t x' y'
  simp only [Bool.and_eq_true] at hc
  obtain ⟨⟨a1, a2⟩, a3⟩ := hc
  split at a3
  ·rename_i ti hi
   exact store_ok a1 a2 hi (eq_of_beq a3).symm hop (ste_store (T := fun _ _ => none) h)
  ·simp at a3
 ·rename_i wd x y t x' y'
  simp only [Bool.and_eq_true] at hc
  obtain ⟨⟨a1, a2⟩, a3⟩ := hc
  obtain ⟨e, ti, hu, hi, hs⟩ := isSl_some a3
  simp only [evalMore] at h
  split at h
  ·rename_i i id lo hi' ei ex
   split at h
   ·rename_i n hn
    cases hb : Nat.beq n.wd wd with
    | false => simp [hb] at h
    | true =>
     simp only [hb, cond_true] at h
     have hb := Nat.eq_of_beq_eq_true hb
     obtain ⟨ht, h⟩ := tst_some h
     simp only [Bool.and_eq_true, decide_eq_true_eq] at ht
     exact ⟨_, _, h, iaw_ok a1 a2 hu hi hop ei ht.1 ex hn (hb.trans hs.symm) ht.2⟩
   ·simp at h
  ·simp at h
 ·rename_i x x'
  simp only [evalMore] at h
  split at h
  ·rename_i id i c ex
   exact ⟨_, _, by rw [ex]; exact h, nck_ok hc hop (.inl ⟨_, _, _, ex⟩)⟩
  ·rename_i row c ex
   exact ⟨_, _, by rw [ex]; exact h, nck_ok hc hop (.inr ⟨_, _, ex⟩)⟩
  ·simp at h
 ·rename_i zero x c
  split at hc
  ·rename_i x' t e1 e2 e3
   simp only [Bool.and_eq_true] at hc
   obtain ⟨a1, a2⟩ := hc
   obtain ⟨e, ti, z, q1, q2, q3, q4, q5⟩ := clrT_some a2
   simp only [evalMore] at h
   split at h
   ·rename_i id lo hi ex
    split at h
    ·rename_i n hn
     split at h
     ·rename_i hno
      cases hb : Nat.beq n.wd zero.length with
      | false => simp [hb] at h
      | true =>
       simp only [hb, cond_true] at h
       obtain ⟨ht, h⟩ := tst_some h
       simp only [Bool.and_eq_true, decide_eq_true_eq] at ht
       refine ⟨_, _, h, clr_ok a1 q1 q2 q3 q4 q5 ?_ ex hn hno (Nat.eq_of_beq_eq_true hb) ht.1 (Nat.eq_of_beq_eq_true ht.2)⟩
       rw [hop]
       obtain ⟨callee, ar, ty⟩ := c
       simp only at e1 e2 e3
       subst e1
       have h1 : ar = #[x'] := Array.toList_inj.1 (by simpa using e2)
       have h2 : ty = #[t] := Array.toList_inj.1 (by simpa using e3)
       subst h1 h2
       rfl
     ·simp at h
    ·simp at h
   ·simp at h
  ·simp at hc
 ·simp at hc
end
end Go.Am
/- AM: an operation that the checker passes does what the evaluator says. Nothing is assumed. -/
namespace Go.Am
def chkZero (P : Program) (t : TypeId) (zero : Row) : Bool := match P.info? t with
 | some ti => (match ti.zero with | some z => chkZ zero z.cells.toList | none => false)
 | none => false
def sizeIs (P : Program) (t : TypeId) (n : Nat) : Bool := match P.info? t with | some ti => ti.size == n | none => false
def isU8 (P : Program) (t : TypeId) : Bool := match P.underlying t with | some (.int .u8) => true | _ => false
def isStr (P : Program) (t : TypeId) : Bool := match P.underlying t with | some .string => true | _ => false
def chkOp (P : Program) (sg : Sigs) (ao : AOp) (o : Op) : Bool := match ao, o with
 | .mv x, .move y => chkOpd sg x y
 | .mv x, .assign y => chkOpd sg x y
 | .pick c x y, .pick c' x' y' => chkOpd sg c c' && chkOpd sg x x' && chkOpd sg y y'
 | .box x, .box _ x' => chkOpd sg x x'
 | .alloc zero, .alloc t => chkZero P t zero
 | .build zero ps, .build t ps' => chkZero P t zero && (match P.underlying t with
  | some (.struct fs) => fs.toList.all (fun f => (P.info? f.type).isSome) && chkParts sg (fieldPlace P fs) ps ps'.toList
  | some (.array _ e) => (match P.info? e with | some te => chkParts sg (fun i => some (i * te.size, te.size)) ps ps'.toList | none => false)
  | _ => false)
 | .lit wd rows ps, .buildSlice t len ps' => (match P.underlying t with
  | some (.slice e) => (match P.info? e with
   | some ti => (match ti.zero with
    | some z => ti.size == wd && z.cells.size == wd && rows.all (fun r => chkZ r z.cells.toList && r.length == wd) && rows.length == len && decide (len * wd ≤ 2 ^ 24) && chkLits sg ps ps'.toList
    | none => false)
   | none => false)
  | _ => false)
 | .load agg ks x, .load t x' => chkOpd sg x x' && aggB P t == some agg && sizeIs P t ks.length
 | .store k x y, .store t x' y' => chkOpd sg x x' && chkOpd sg y y' && sizeIs P t k
 | .bin op x y, .binOp op' _ x' y' _ => op == op' && chkOpd sg x x' && chkOpd sg y y'
 | .beq neg x y, .binOp op t x' y' _ => chkOpd sg x x' && chkOpd sg y y' && op == (if neg then .neq else .eql) && (match P.underlying t with | some .bool => true | _ => false)
 | .geq neg ks x y, .binOp op t x' y' _ => chkOpd sg x x' && chkOpd sg y y' && op == (if neg then .neq else .eql) && !P.stoodInHeld t && !P.eqGuardType P.depth t && (match P.underlying t with
  | some (.struct fs) => chkFields P fs.toList ks 0
  | _ => false)
 | .un op x, .unOp op' _ x' => op == op' && chkOpd sg x x'
 | .conv k x, .convert src dst x' => chkOpd sg x x' && (match k with
  | .int k => (P.underlying src).isSome && (match P.underlying dst with | some (.int k') => k == k' | _ => false)
  | .same => isStr P src && isStr P dst
  | .intStr => (match P.underlying src with | some (.int _) => true | _ => false) && isStr P dst
  | .strBytes => isStr P src && (match P.underlying dst with | some (.slice e) => isU8 P e | _ => false)
  | .bytesStr => isStr P dst && (match P.underlying src with | some (.slice e) => isU8 P e | _ => false))
 | .fn f caps, .makeFunc (.func f') first cs => f == f' && first.toList.isEmpty && chkX sg f && chkOpds sg caps cs.toList
 | .mk zero bytes x y, .makeSlice t x' y' => chkOpd sg x x' && chkOpd sg y y' && (match P.underlying t with
  | some (.slice e) => chkZero P e zero && (match P.info? e with | some ti => ti.size == zero.length && ti.bytes == bytes | none => false)
  | _ => false)
 | .slc wd x lo hi, .slice t x' lo' hi' none => chkOpd sg x x' && chkOpt sg lo lo' && chkOpt sg hi hi' && (match wd, P.underlying t with
  | none, some .string => true
  | some wd, some (.slice e) => sizeIs P e wd
  | _, _ => false)
 | .fad off x, .fieldAddr s x' f => chkOpd sg x x' && (match P.underlying s with
  | some (.struct fs) => (match fs[f]? with
   | some fd => fd.offset == off && (match P.info? fd.type with | some ti => ti.size != 0 | none => false)
   | none => false)
  | _ => false)
 | .fld agg off n x, .field s x' f => chkOpd sg x x' && (match P.underlying s with
  | some (.struct fs) => (match fs[f]? with
   | some fd => fd.offset == off && sizeIs P fd.type n && aggB P fd.type == some agg
   | none => false)
  | _ => false)
 | .iad wd x y, .indexAddr t x' y' => chkOpd sg x x' && chkOpd sg y y' && (match P.underlying t with | some (.slice e) => sizeIs P e wd | _ => false)
 | .idx x y, .index t x' y' => chkOpd sg x x' && chkOpd sg y y' && isStr P t
 | .ext x i, .extract x' i' => chkOpd sg x x' && i == i'
 | .call f modes fz _ xs, .call c => (match c.callee with
  | .value f' => !fz && chkCallee sg f f' modes xs.length && chkOpds sg xs c.args.toList
  | _ => false)
 | .app wd bytes x y, .call c => (match c.callee, c.args.toList, c.argTypes.toList with
  | .builtin .append, [x', y'], [t, t2] => chkOpd sg x x' && chkOpd sg y y' && (match P.underlying t, P.underlying t2 with
   | some (.slice e), some (.slice _) => (match P.info? e with
    | some ti => (match ti.zero with | some z => z.cells.size == wd && ti.size == wd && ti.bytes == bytes && bytes != 0 | none => false)
    | none => false)
   | _, _ => false)
  | _, _, _ => false)
 | .len str x, .call c => (match c.callee, c.args.toList, c.argTypes.toList with
  | .builtin .len, [x'], t :: _ => chkOpd sg x x' && (match P.underlying t with
   | some .string => str
   | some (.slice _) => !str
   | _ => false)
  | _, _, _ => false)
 | .mx x y, .call c => (match c.callee, c.args.toList with
  | .builtin .max, [x', y'] => chkOpd sg x x' && chkOpd sg y y'
  | _, _ => false)
 | .more op, o => chkMore P sg op o
 | .cod _ x y, .indexAddr t x' y' => chkOpd sg x x' && chkOpd sg y y' && (match P.underlying t with | some (.slice e) => sizeIs P e 1 | _ => false)
 | _, _ => false
section
variable {P : Program} {sg : Sigs} {T : Table} {keep : List Nat} {N : Nat} {args : Nat → Value} {w0 : World} {c0 : List Nat} {Z : Nat → Prop}
theorem chkZero_some {t : TypeId} {zero : Row} (h : chkZero P t zero = true) : ∃ ti z, P.info? t = some ti ∧ ti.zero = some z ∧ chkZ zero z.cells.toList = true := by
 unfold chkZero at h
 split at h
 ·rename_i ti hi
  split at h
  ·rename_i z hz; exact ⟨ti, z, hi, hz, h⟩
  ·simp at h
 ·simp at h
theorem sizeIs_some {t : TypeId} {n : Nat} (h : sizeIs P t n = true) : ∃ ti, P.info? t = some ti ∧ ti.size = n := by
 unfold sizeIs at h
 split at h
 ·rename_i ti hi; exact ⟨ti, hi, by simpa using h⟩
 ·simp at h
theorem isU8some {t : TypeId} (h : isU8 P t = true) : P.underlying t = some (.int .u8) := by
 unfold isU8 at h
 split at h
 ·assumption
 ·simp at h
theorem isStr_some {t : TypeId} (h : isStr P t = true) : P.underlying t = some .string := by
 unfold isStr at h
 split at h
 ·assumption
 ·simp at h
theorem ret1some {R : Type} {r : R} {K : AV → Mem → Option R} {m : Mem} {x : Option AV} (h : ret1 K m x = some r) : ∃ y, x = some y ∧ K y m = some r := by
 unfold ret1 at h
 split at h
 ·exact ⟨_, rfl, h⟩
 ·simp at h
abbrev Done (P : Program) (sg : Sigs) (keep : List Nat) (N : Nat) (args : Nat → Value) (w0 : World) (c0 : List Nat) (Z : Nat → Prop) (o : Oper) (st : St) {R : Type} (K : AV → Mem → Option R) (r : R) : Prop :=
 ∃ av m', K av m' = some r ∧ OpOk P sg keep N args w0 c0 Z o st av m'
theorem evalOp_ok {R : Type} {r : R} {o : Oper} {st : St} {ao : AOp} {K : AV → Mem → Option R} (hT : GoodAt P sg w0 Z T) (hc : chkOp P sg ao o.op = true) (h : evalOp T st.t st.m ao K = some r) :
  Done P sg keep N args w0 c0 Z o st K r := by
 generalize hop : o.op = op at hc
 unfold chkOp at hc
 split at hc
 ·exact ⟨_, _, by simpa only [evalOp] using h, mv_ok hc (.inl hop)⟩
 ·exact ⟨_, _, by simpa only [evalOp] using h, mv_ok hc (.inr hop)⟩
 ·rename_i c x y c' x' y'
  simp only [Bool.and_eq_true] at hc
  simp only [evalOp] at h
  split at h
  ·rename_i b ec
   refine ⟨_, _, ?_, pick_ok hc.1.1 hc.1.2 hc.2 hop ec⟩
   cases b <;> simpa using h
  ·simp at h
 ·exact box_ok hc hop h
 ·obtain ⟨ti, z, h1, h2, h3⟩ := chkZero_some hc
  exact alloc_ok h1 h2 h3 hop h
 ·rename_i zero ps t ps'
  simp only [Bool.and_eq_true] at hc
  obtain ⟨hc, hc'⟩ := hc
  obtain ⟨ti, z, h1, h2, h3⟩ := chkZero_some hc
  split at hc'
  ·rename_i fs hu
   simp only [Bool.and_eq_true] at hc'
   exact build_ok h1 h2 h3 hc'.2 (.inl ⟨fs, hu, hc'.1, rfl⟩) hop h
  ·rename_i n e hu
   split at hc'
   ·rename_i te he
    exact build_ok h1 h2 h3 hc' (.inr ⟨n, e, te, hu, he, rfl⟩) hop h
   ·simp at hc'
  ·simp at hc'
 ·rename_i wd rows ps t len ps'
  split at hc
  ·rename_i e hu
   split at hc
   ·rename_i ti hi
    split at hc
    ·rename_i z hz
     simp only [Bool.and_eq_true, beq_iff_eq, List.all_eq_true, decide_eq_true_eq] at hc
     obtain ⟨⟨⟨⟨⟨a1, a2⟩, a3⟩, a4⟩, a5⟩, a6⟩ := hc
     exact lit_ok hu hi hz a1 a2 a3 a4 a5 a6 hop h
    ·simp at hc
   ·simp at hc
  ·simp at hc
 ·rename_i agg ks x t x'
  simp only [Bool.and_eq_true, beq_iff_eq] at hc
  obtain ⟨⟨a1, a2⟩, a3⟩ := hc
  obtain ⟨ti, hi, hs⟩ := sizeIs_some a3
  exact load_ok a1 a2 hi hs.symm hop h
 ·simp only [Bool.and_eq_true] at hc
  obtain ⟨⟨a1, a2⟩, a3⟩ := hc
  obtain ⟨ti, hi, hs⟩ := sizeIs_some a3
  exact store_ok a1 a2 hi hs.symm hop h
 ·simp only [Bool.and_eq_true, beq_iff_eq] at hc
  obtain ⟨⟨rfl, a2⟩, a3⟩ := hc
  simp only [evalOp] at h
  split at h
  ·rename_i a b ea eb
   obtain ⟨z, hz, g⟩ := bin_ok (K := fun z => K (.v z) st.m) a2 a3 hop ea eb h
   exact ⟨_, _, hz, g⟩
  ·simp at h
 ·rename_i neg x y op t x' y' t'
  simp only [Bool.and_eq_true, beq_iff_eq] at hc
  obtain ⟨⟨⟨a1, a2⟩, a3⟩, a4⟩ := hc
  split at a4
  ·rename_i hu
   simp only [evalOp] at h
   split at h
   ·rename_i a b ea eb
    exact ⟨_, _, h, beq_ok a1 a2 hu a3 hop ea eb⟩
   ·simp at h
  ·simp at a4
 ·rename_i neg ks x y op t x' y' t'
  simp only [Bool.and_eq_true, beq_iff_eq, Bool.not_eq_true'] at hc
  obtain ⟨⟨⟨⟨⟨a1, a2⟩, a3⟩, a4⟩, a5⟩, a6⟩ := hc
  split at a6
  ·rename_i fs hu
   simp only [evalOp] at h
   split at h
   ·rename_i a b ea eb
    split at h
    ·rename_i z hz
     exact ⟨_, _, h, geq_ok a1 a2 hu a4 a5 a6 a3 hop ea eb hz⟩
    ·simp at h
   ·simp at h
  ·simp at a6
 ·simp only [Bool.and_eq_true, beq_iff_eq] at hc
  obtain ⟨rfl, a2⟩ := hc
  simp only [evalOp] at h
  split at h
  ·rename_i a ea
   obtain ⟨z, hz, g⟩ := un_ok (K := fun z => K (.v z) st.m) a2 hop ea h
   exact ⟨_, _, hz, g⟩
  ·simp at h
 ·rename_i k x src dst x'
  simp only [Bool.and_eq_true] at hc
  obtain ⟨a1, a2⟩ := hc
  cases k with
  | int k =>
   simp only [Bool.and_eq_true] at a2
   obtain ⟨d, hd⟩ := Option.isSome_iff_exists.1 a2.1
   have a3 := a2.2
   split at a3
   ·rename_i k' hk
    have : k = k' := by simpa using a3
    subst this
    simp only [evalOp] at h
    split at h
    ·rename_i heq ea; cases heq; exact ⟨_, _, h, conv_int_ok a1 hd hk hop ea⟩
    all_goals simp_all
   ·simp at a3
  | same =>
   simp only [Bool.and_eq_true] at a2
   simp only [evalOp] at h
   split at h
   ·simp_all
   ·rename_i ea; exact ⟨_, _, h, conv_str_ok a1 (isStr_some a2.1) (isStr_some a2.2) hop ea⟩
   all_goals simp_all
  | intStr =>
   simp only [Bool.and_eq_true] at a2
   have a3 := a2.1
   split at a3
   ·rename_i k' hk
    simp only [evalOp] at h
    split at h
    ·simp_all
    ·simp_all
    ·rename_i ea; exact ⟨_, _, h, conv_intStr_ok a1 hk (isStr_some a2.2) hop ea⟩
    all_goals simp_all
   ·simp at a3
  | strBytes =>
   simp only [Bool.and_eq_true] at a2
   have a3 := a2.2
   split at a3
   ·rename_i e he
    simp only [evalOp] at h
    split at h
    ·simp_all
    ·simp_all
    ·simp_all
    ·rename_i ea; exact strBytes_ok a1 (isStr_some a2.1) he (isU8some a3) hop ea h
    all_goals simp_all
   ·simp at a3
  | bytesStr =>
   simp only [Bool.and_eq_true] at a2
   have a3 := a2.2
   split at a3
   ·rename_i e he
    exact bytesStr_ok a1 he (isU8some a3) (isStr_some a2.1) hop h
   ·simp at a3
 ·rename_i f caps f' first cs
  simp only [Bool.and_eq_true, beq_iff_eq] at hc
  obtain ⟨⟨⟨rfl, a2⟩, a3⟩, a4⟩ := hc
  have hf : first = #[] := by
   apply Array.ext'
   simpa using a2
  exact ⟨_, _, by simpa only [evalOp] using h, fn_ok a3 (fun hs c a w hi => by simpa using chkOpds_ok a4 hi) hf hop⟩
 ·rename_i zero bytes x y t x' y'
  simp only [Bool.and_eq_true] at hc
  obtain ⟨⟨a1, a2⟩, a3⟩ := hc
  split at a3
  ·rename_i e hu
   simp only [Bool.and_eq_true] at a3
   obtain ⟨ti, z, h1, h2, h3⟩ := chkZero_some a3.1
   have a4 := a3.2
   rw [h1] at a4
   simp only [Bool.and_eq_true, beq_iff_eq] at a4
   exact mk_ok a1 a2 hu h1 h2 h3 a4.1 a4.2 hop h
  ·simp at a3
 ·rename_i wd x lo hi t x' lo' hi'
  simp only [Bool.and_eq_true] at hc
  obtain ⟨⟨⟨a1, a2⟩, a3⟩, a4⟩ := hc
  split at a4
  ·rename_i hu
   simp only [evalOp] at h
   split at h
   ·rename_i s ex
    split at h
    ·rename_i l hh el eh
     obtain ⟨hc, h⟩ := tst_some h
     exact ⟨_, _, h, cutS_ok a1 a2 a3 hu hop ex el eh hc⟩
    ·simp at h
   ·simp_all
   ·simp at h
  ·rename_i wd e hu
   obtain ⟨ti, hi', hs⟩ := sizeIs_some a4
   simp only [evalOp] at h
   split at h
   ·simp_all
   ·rename_i wd2 wd' rows heq ex
    cases heq
    cases hb : Nat.beq wd' wd with
    | false => simp [hb] at h
    | true =>
     simp only [hb, cond_true] at h
     have hb := Nat.eq_of_beq_eq_true hb
     split at h
     ·rename_i l hh el eh
      obtain ⟨hc, h⟩ := tst_some h
      exact ⟨_, _, h, cutF_ok a1 a2 a3 hu hi' hop ex (hs.trans hb.symm) el eh hc⟩
     ·simp at h
   ·simp at h
  ·simp at a4
 ·rename_i off x s x' f
  simp only [Bool.and_eq_true] at hc
  obtain ⟨a1, a2⟩ := hc
  split at a2
  ·rename_i fs hu
   split at a2
   ·rename_i fd hf
    simp only [Bool.and_eq_true, beq_iff_eq] at a2
    obtain ⟨a2, a3⟩ := a2
    split at a3
    ·rename_i ti hi
     have hz : ti.size ≠ 0 := by simpa using a3
     simp only [evalOp] at h
     split at h
     ·rename_i id i c ex; exact ⟨_, _, h, fad_ok a1 hu hf hi hz a2 hop (.inl ⟨_, _, _, ex, rfl⟩)⟩
     ·rename_i row c ex; exact ⟨_, _, h, fad_ok a1 hu hf hi hz a2 hop (.inr ⟨_, _, ex, rfl⟩)⟩
     ·simp at h
    ·simp at a3
   ·simp at a2
  ·simp at a2
 ·rename_i agg off n x s x' f
  simp only [Bool.and_eq_true] at hc
  obtain ⟨a1, a2⟩ := hc
  split at a2
  ·rename_i fs hu
   split at a2
   ·rename_i fd hf
    simp only [Bool.and_eq_true, beq_iff_eq] at a2
    obtain ⟨⟨a2, a3⟩, a4⟩ := a2
    obtain ⟨ti, hi, hs⟩ := sizeIs_some a3
    simp only [evalOp] at h
    split at h
    ·rename_i xs ex
     cases hb : Nat.ble (off + n) xs.length with
     | false => simp [hb] at h
     | true =>
      simp only [hb, cond_true] at h
      obtain ⟨y, hy, h⟩ := ret1some h
      exact ⟨_, _, h, fld_ok a1 hu hf hi hs a2 a4 hop ex (Nat.le_of_ble_eq_true hb) hy⟩
    ·simp at h
   ·simp at a2
  ·simp at a2
 ·rename_i wd x y t x' y'
  simp only [Bool.and_eq_true] at hc
  obtain ⟨⟨a1, a2⟩, a3⟩ := hc
  split at a3
  ·rename_i e hu
   obtain ⟨ti, hi, hs⟩ := sizeIs_some a3
   simp only [evalOp] at h
   split at h
   ·rename_i i id ei ex
    split at h
    ·rename_i n hn
     cases hb : Nat.beq n.wd wd with
     | false => simp [hb] at h
     | true =>
      simp only [hb, cond_true] at h
      have hb := Nat.eq_of_beq_eq_true hb
      obtain ⟨ht, h⟩ := tst_some h
      simp only [Bool.and_eq_true, decide_eq_true_eq] at ht
      exact ⟨_, _, h, iad_ok a1 a2 hu hi hop ei ht.1 (.inl ⟨id, n, ex, hn, by rw [hb, hs], ht.2, rfl⟩)⟩
    ·simp at h
   ·rename_i i wd' rows ei ex
    cases hb : Nat.beq wd' wd with
    | false => simp [hb] at h
    | true =>
     simp only [hb, cond_true] at h
     have hb := Nat.eq_of_beq_eq_true hb
     obtain ⟨ht, h⟩ := tst_some h
     obtain ⟨row, hr, h⟩ := look_some h
     exact ⟨_, _, h, iad_ok a1 a2 hu hi hop ei (of_decide_eq_true ht) (.inr ⟨rows, row, by rw [ex, hb, hs], hr, rfl⟩)⟩
   ·simp at h
  ·simp at a3
 ·rename_i x y t x' y'
  simp only [Bool.and_eq_true] at hc
  obtain ⟨⟨a1, a2⟩, a3⟩ := hc
  simp only [evalOp] at h
  split at h
  ·rename_i i s ei ex
   obtain ⟨ht, h⟩ := tst_some h
   unfold byteAt at h
   split at h
   ·rename_i b hb
    exact ⟨_, _, h, idx_ok a1 a2 (isStr_some a3) hop ei ex (of_decide_eq_true ht) hb⟩
   ·simp at h
  ·simp at h
 ·rename_i x i x' i'
  simp only [Bool.and_eq_true, beq_iff_eq] at hc
  obtain ⟨a1, rfl⟩ := hc
  simp only [evalOp] at h
  split at h
  ·rename_i xs ex
   obtain ⟨y, hy, h⟩ := ret1some h
   exact ⟨_, _, h, ext_ok a1 hop ex hy⟩
  ·simp at h
 ·rename_i f modes fz res xs c
  obtain ⟨callee, cargs, ctys⟩ := c
  simp only at hc
  split at hc
  ·rename_i f'
   simp only [Bool.and_eq_true, Bool.not_eq_true'] at hc
   obtain ⟨⟨rfl, a2⟩, a3⟩ := hc
   exact call_ok hT a2 a3 hop h
  ·simp at hc
 ·rename_i wd bytes x y c
  obtain ⟨callee, cargs, ctys⟩ := c
  simp only at hc
  split at hc
  ·rename_i x' y' t t2 e1 e2
   have e1 : cargs = #[x', y'] := by apply Array.ext'; simpa using e1
   have e2 : ctys = #[t, t2] := by apply Array.ext'; simpa using e2
   subst e1
   subst e2
   simp only [Bool.and_eq_true] at hc
   obtain ⟨⟨a1, a2⟩, a3⟩ := hc
   split at a3
   ·rename_i e e2 hu hu2
    split at a3
    ·rename_i ti hi
     split at a3
     ·rename_i z hz
      simp only [Bool.and_eq_true, beq_iff_eq, bne_iff_ne, ne_eq] at a3
      obtain ⟨⟨⟨b1, b2⟩, b3⟩, b4⟩ := a3
      exact app_ok a1 a2 hu hu2 hi hz b1 b2 b3 b4 hop h
     ·simp at a3
    ·simp at a3
   ·simp at a3
  ·simp at hc
 ·rename_i str x c
  obtain ⟨callee, cargs, ctys⟩ := c
  simp only at hc
  split at hc
  ·rename_i x' t l e1 e2
   have e1 : cargs = #[x'] := by apply Array.ext'; simpa using e1
   subst e1
   simp only [Bool.and_eq_true] at hc
   obtain ⟨a1, a2⟩ := hc
   have ht : ctys[0]? = some t := by rw [← Array.getElem?_toList, e2]; rfl
   simp only [evalOp] at h
   split at h
   ·rename_i n hn
    refine ⟨_, _, h, len_ok a1 ht hop ?_ hn⟩
    split at a2
    ·rename_i hu; exact .inl ⟨a2, hu⟩
    ·rename_i e hu; exact .inr ⟨by simpa using a2, e, hu⟩
    ·simp at a2
   ·simp at h
  ·simp at hc
 ·rename_i x y c
  obtain ⟨callee, cargs, ctys⟩ := c
  simp only at hc
  split at hc
  ·rename_i x' y' e1
   have e1 : cargs = #[x', y'] := by apply Array.ext'; simpa using e1
   subst e1
   simp only [Bool.and_eq_true] at hc
   simp only [evalOp] at h
   split at h
   ·rename_i k a k' b ea eb
    unfold sameKind at h
    split at h
    ·rename_i hk
     subst hk
     exact ⟨_, _, h, mx_ok hc.1 hc.2 hop ea eb⟩
    ·simp at h
   ·simp at h
  ·simp at hc
 ·rename_i mop _
  subst hop
  exact evalMore_ok hc (by simpa only [evalOp] using h)
 ·rename_i mk x y t x' y'
  simp only [Bool.and_eq_true] at hc
  obtain ⟨⟨a1, a2⟩, a3⟩ := hc
  split at a3
  ·rename_i e hu
   obtain ⟨ti, hi, hs⟩ := sizeIs_some a3
   simp only [evalOp] at h
   split at h
   ·rename_i b n c i ex ey
    obtain ⟨out, ho, h⟩ := callT_some h
    obtain ⟨d, hd, h⟩ := oD_some h
    obtain ⟨v, rfl, h⟩ := dI_some h
    refine ⟨_, _, h, pure_ok fun hs' cc a w hin => ?_⟩
    obtain ⟨bk, off, v', g1, rfl, g3, g4, g5, g6⟩ := hT.2 mk b n c i out ho w fun b hb => hin.win.frame b (hin.win.zlt b hb).1 (hin.win.zlt b hb).2
    rw [hd] at g1
    cases g1
    have h1 := chkOpd_ok a1 hin
    have h2 := chkOpd_ok a2 hin
    rw [ex] at h1
    rw [ey] at h2
    have h1 := val_of h1
    have h2 := val_of h2
    refine ⟨.pointer (some ⟨bk, off + i.toNat, none⟩), ?_, .fa (vs := [.int .u8 v]) g5 g6 (show FroL w Z [.v (.int .u8 v)] [.int .u8 v] from .cons (.v trivial) .nil)⟩
    have hin2 : 0 ≤ i ∧ i < (n : Int) := ⟨g3, g4⟩
    simp only [execOp, hop, h2, h1, Instr.indexAt, asIntOf, Sem.run_bind, Sem.run_pure, Result.andThen_ok, run_underlying hu]
    rw [if_pos hin2]
    simp [run_sizeOf' hi, addr_add, hs]
   ·simp at h
  ·simp at a3
 ·simp at hc
end
end Go.Am
/- AM: what an operation yields does not hang on what follows. Nothing is assumed. -/
namespace Go.Am
section
variable {R : Type}
theorem tst_uni {b : Bool} {A : Type} {f : Option A} {K : A → Option R} : tst b (f.bind K) = (tst b f).bind K := by cases b <;> rfl
theorem look_uni {rows : Rows} {i : Nat} {K : Row → Option R} : look rows i K = rows[i]?.bind K := by unfold look; cases rows[i]? <;> rfl
theorem cell_uni {row : Row} {i : Nat} {K : D → Option R} : cell row i K = row[i]?.bind K := by unfold cell; cases row[i]? <;> rfl
theorem nth_uni {xs : List I} {i : Nat} {K : I → Option R} : nth xs i K = xs[i]?.bind K := by unfold nth; cases xs[i]? <;> rfl
theorem callT_uni {T : Table} {fn : Nat} {xs : List I} {K : Out → Option R} : callT T fn xs K = (T fn xs).bind K := by unfold callT; cases T fn xs <;> rfl
theorem byteAt_uni {s : ByteArray} {i : Nat} {K : UInt8 → Option R} : byteAt s i K = s.toList[i]?.bind K := by unfold byteAt; cases s.toList[i]? <;> rfl
def dI' (k : IntKind) (d : D) : Option Int := match d with | .v (.int k' n) => if k' = k then some n else none | _ => none
def dB' (d : D) : Option Bool := match d with | .v (.bool b) => some b | _ => none
def dS' (d : D) : Option ByteArray := match d with | .v (.string s) => some s | _ => none
def dL' (wd : Nat) (d : D) : Option Rows := match d with | .s wd' rows => if wd' = wd then some rows else none | _ => none
theorem dI_uni {k : IntKind} {d : D} {K : Int → Option R} : dI k d K = (dI' k d).bind K := by
 cases d with
 | s => rfl
 | v x => cases x <;> first | rfl | (simp only [dI, dI']; split <;> rfl)
theorem dB_uni {d : D} {K : Bool → Option R} : dB d K = (dB' d).bind K := by
 cases d with
 | s => rfl
 | v x => cases x <;> rfl
theorem dS_uni {d : D} {K : ByteArray → Option R} : dS d K = (dS' d).bind K := by
 cases d with
 | s => rfl
 | v x => cases x <;> rfl
theorem dL_uni {wd : Nat} {d : D} {K : Rows → Option R} : dL wd d K = (dL' wd d).bind K := by
 cases d with
 | v => rfl
 | s => simp only [dL, dL']; split <;> rfl
def dH' (d : D) : Option (Option Addr × Nat × Nat) := match d with | .v (.slice b n c) => some (b, n, c) | _ => none
theorem dH_uni {d : D} {K : Option Addr → Nat → Nat → Option R} : dH d K = (dH' d).bind fun p => K p.1 p.2.1 p.2.2 := by
 cases d with
 | s => rfl
 | v x => cases x <;> rfl
def oP' (x : I) : Option Row := match x with | .p d => some d | _ => none
theorem oP_uni {x : I} {K : Row → Option R} : oP x K = (oP' x).bind K := by cases x <;> rfl
def oD' (x : I) : Option D := match x with | .d d => some d | _ => none
def oG' (x : I) : Option Row := match x with | .g d => some d | _ => none
def oT' (x : I) : Option (List I) := match x with | .t d => some d | _ => none
theorem oD_uni {x : I} {K : D → Option R} : oD x K = (oD' x).bind K := by cases x <;> rfl
theorem oG_uni {x : I} {K : Row → Option R} : oG x K = (oG' x).bind K := by cases x <;> rfl
theorem oT_uni {x : I} {K : List I → Option R} : oT x K = (oT' x).bind K := by cases x <;> rfl
theorem ldF_uni {k : Kd} {d : D} {K : AV → Option R} : ldF k d K = (ldF k d some).bind K := by
 cases k <;> simp only [ldF, dI_uni, dB_uni, dS_uni, dL_uni, dH_uni, Option.bind_assoc, Option.bind_some]
theorem ldFs_uni {ks : List Kd} : ∀ {R : Type} {row : Row} {c : Nat} {K : List AV → Option R}, ldFs ks row c K = (ldFs ks row c some).bind K := by
 induction ks with
 | nil => intro R row c K; rfl
 | cons k ks ih =>
  intro R row c K
  simp only [ldFs, cell_uni, Option.bind_assoc]
  congr 1
  funext d
  rw [ldF_uni, ldF_uni (K := fun x => ldFs ks row (c + 1) fun xs => some (x :: xs)), Option.bind_assoc]
  congr 1
  funext x
  rw [ih, ih (K := fun xs => some (x :: xs)), Option.bind_assoc]
  rfl
theorem tst_uni1 {c : Bool} {A : Type} {K : A → Option R} {a : A} : tst c (K a) = (tst c (some a)).bind K := by cases c <;> rfl
abbrev pr {A B : Type} (K : A → B → Option R) : A × B → Option R := fun p => K p.1 p.2
abbrev mk2 {A B : Type} : A → B → Option (A × B) := fun a b => some (a, b)
theorem tst_uni2 {c : Bool} {A B : Type} {K : A → B → Option R} {a : A} {b : B} : tst c (K a b) = (tst c (mk2 a b)).bind (pr K) := by cases c <;> rfl
theorem sameKind_uni2 {k k' : IntKind} {A B : Type} {K : A → B → Option R} {a : A} {b : B} : sameKind k k' (K a b) = (sameKind k k' (mk2 a b)).bind (pr K) := by
 unfold sameKind
 split <;> rfl
theorem ldO_uni {k : Kd} {m : Mem} {id i c : Nat} {K : AV → Mem → Option R} : ldO k m id i c K = (ldO k m id i c mk2).bind (pr K) := by
 unfold ldO
 split
 ·rfl
 ·split
  ·rfl
  ·cases k <;> simp only [look_uni, cell_uni, dI_uni, dB_uni, dS_uni, dL_uni, dH_uni, Option.bind_assoc, Option.bind_some]
theorem ldOs_uni {ks : List Kd} : ∀ {R : Type} {m : Mem} {id i c : Nat} {K : List AV → Mem → Option R}, ldOs ks m id i c K = (ldOs ks m id i c mk2).bind (pr K) := by
 induction ks with
 | nil => intro R m id i c K; rfl
 | cons k ks ih =>
  intro R m id i c K
  simp only [ldOs]
  rw [ldO_uni, ldO_uni (K := fun x m => ldOs ks m id i (c + 1) fun xs m => mk2 (x :: xs) m), Option.bind_assoc]
  congr 1
  funext p
  simp only [pr]
  rw [ih, ih (K := fun xs m => mk2 (p.1 :: xs) m), Option.bind_assoc]
  rfl
theorem sameKind_uni {k k' : IntKind} {A : Type} {f : Option A} {K : A → Option R} : sameKind k k' (f.bind K) = (sameKind k k' f).bind K := by
 unfold sameKind
 split <;> rfl
theorem binI_uni {op : BinOp} {k : IntKind} {a b : Int} {K : Value → Option R} : binI op k a b K = (binI op k a b some).bind K := by
 cases op <;> simp only [binI] <;> first | rfl | exact tst_uni1
theorem binS_uni {op : BinOp} {a b : ByteArray} {K : Value → Option R} : binS op a b K = (binS op a b some).bind K := by
 cases op <;> simp only [binS] <;> first | rfl | exact tst_uni1
theorem binV_uni {op : BinOp} {a b : Value} {K : Value → Option R} : binV op a b K = (binV op a b some).bind K := by
 unfold binV
 split
 ·cases isShl op with
  | true => exact tst_uni1
  | false => simp only [cond_false]; rw [binI_uni, sameKind_uni]
 ·exact binS_uni
 ·rfl
theorem unV_uni {op : UnOp} {a : Value} {K : Value → Option R} : unV op a K = (unV op a some).bind K := by
 unfold unV
 split <;> rfl
theorem ret1uni {m : Mem} {x : Option AV} {K : AV → Mem → Option R} : ret1 K m x = (x.map fun y => (y, m)).bind (pr K) := by
 cases x <;> rfl
theorem backCells_uni {m0 : Mem} (xs : List AV) : ∀ {m : Mem} {row : Row} {c : Nat} {K : Mem → Option R}, backCells m0 m xs row c K = (backCells m0 m xs row c some).bind K := by
 induction xs with
 | nil => intro m row c K; rfl
 | cons x xs ih =>
  intro m row c K
  cases x <;> simp only [backCells] <;> try exact ih
  split
  ·simp only [cell_uni, dL_uni, Option.bind_assoc]
   congr 1
   funext d
   congr 1
   funext rows
   exact ih
  ·rfl
theorem likeCell_uni {m0 : Mem} {n : Node} {c : Nat} {d0 d : D} {K : D → Option R} : likeCell m0 n c d0 d K = (likeCell m0 n c d0 d some).bind K := by
 unfold likeCell
 split
 ·split
  ·simp only [dL_uni, Option.bind_assoc, Option.bind_some]
  ·rfl
 ·rfl
 ·split
  ·simp only [dI_uni, Option.bind_assoc, Option.bind_some]
  ·simp only [dB_uni, Option.bind_assoc, Option.bind_some]
  ·simp only [dS_uni, Option.bind_assoc, Option.bind_some]
  ·simp only [dL_uni, Option.bind_assoc, Option.bind_some]
  ·simp only [dH_uni, Option.bind_assoc, Option.bind_some]
  ·rfl
theorem likeRow_uni {m0 : Mem} {n : Node} {row : Row} (r0 : Row) : ∀ {A : Type} {c : Nat} {K : Row → Option A}, likeRow m0 n row r0 c K = (likeRow m0 n row r0 c some).bind K := by
 induction r0 with
 | nil => intro A c K; rfl
 | cons d0 r0 ih =>
  intro A c K
  simp only [likeRow]
  rw [cell_uni, cell_uni (K := fun d => likeCell m0 n c d0 d fun d => likeRow m0 n row r0 (c + 1) fun r => some (d :: r)), Option.bind_assoc]
  congr 1
  funext d
  rw [likeCell_uni, likeCell_uni (K := fun d => likeRow m0 n row r0 (c + 1) fun r => some (d :: r)), Option.bind_assoc]
  congr 1
  funext d
  rw [ih, ih (K := fun r => some (d :: r)), Option.bind_assoc]
  rfl
theorem backI_uni {m0 m : Mem} {x : AV} {i : I} {K : Mem → Option R} : backI m0 m x i K = (backI m0 m x i some).bind K := by
 unfold backI
 split
 ·simp only [oG_uni, Option.bind_assoc]
  congr 1
  funext row
  exact backCells_uni _
 ·split
  ·simp only [oD_uni, dL_uni, Option.bind_assoc, Option.bind_some]
  ·rfl
 ·split
  ·rename_i n _
   split
   ·rename_i r0 _
    cases i with
    | p row =>
     show tst _ (likeRow m0 n row r0 0 fun row => K _) = (tst _ (likeRow m0 n row r0 0 fun row => some _)).bind K
     rw [← tst_uni]
     congr 1
     rw [likeRow_uni, likeRow_uni r0 (K := fun row => some (List.set m _ (some ⟨n.wd, [row], []⟩))), Option.bind_assoc]
     rfl
    | _ => rfl
   ·rfl
  ·rfl
 ·rfl
theorem backArgs_uni {m0 : Mem} (ms : List Mode) : ∀ {m : Mem} {xs : List AV} {is : List I} {j : Nat} {K : Mem → Option R}, backArgs m0 m ms xs is j K = (backArgs m0 m ms xs is j some).bind K := by
 induction ms with
 | nil => intro m xs is j K; simp only [backArgs]; rfl
 | cons md ms ih =>
  intro m xs is j K
  cases xs with
  | nil => cases md <;> simp only [backArgs] <;> rfl
  | cons x xs =>
   cases md with
   | rd => simp only [backArgs]; exact ih
   | own => simp only [backArgs]; exact ih
   | lent =>
    simp only [backArgs, nth_uni, Option.bind_assoc]
    congr 1
    funext i
    rw [backI_uni, backI_uni (K := fun m => backArgs m0 m ms xs is (j + 1) some), Option.bind_assoc]
    congr 1
    funext m'
    exact ih
theorem outCell_uni {fz : Bool} {k : Kd} {d : D} {m : Mem} {K : AV → Mem → Option R} : outCell fz k d m K = (outCell fz k d m mk2).bind (pr K) := by
 cases k <;> simp only [outCell, dI_uni, dB_uni, dS_uni, dL_uni, dH_uni, Option.bind_assoc, Option.bind_some]
 cases fz <;> simp
theorem outCells_uni {fz : Bool} {ks : List Kd} : ∀ {R : Type} {row : Row} {c : Nat} {m : Mem} {K : List AV → Mem → Option R}, outCells fz ks row c m K = (outCells fz ks row c m mk2).bind (pr K) := by
 induction ks with
 | nil => intro R row c m K; rfl
 | cons k ks ih =>
  intro R row c m K
  simp only [outCells, cell_uni, Option.bind_assoc]
  congr 1
  funext d
  rw [outCell_uni, outCell_uni (K := fun x m => outCells fz ks row (c + 1) m fun xs m => mk2 (x :: xs) m), Option.bind_assoc]
  congr 1
  funext p
  simp only [pr]
  rw [ih, ih (K := fun xs m => mk2 (p.1 :: xs) m), Option.bind_assoc]
  rfl
theorem kdCell_uni {k : Kd} {d : D} {K : D → Option R} : kdCell k d K = (kdCell k d some).bind K := by
 cases k <;> simp only [kdCell, dI_uni, dB_uni, dS_uni, dL_uni, dH_uni, Option.bind_assoc, Option.bind_some]
theorem kdCells_uni {ks : List Kd} : ∀ {R : Type} {row : Row} {c : Nat} {K : Row → Option R}, kdCells ks row c K = (kdCells ks row c some).bind K := by
 induction ks with
 | nil => intro R row c K; rfl
 | cons k ks ih =>
  intro R row c K
  simp only [kdCells, cell_uni, Option.bind_assoc]
  congr 1
  funext d
  rw [kdCell_uni, kdCell_uni (K := fun d => kdCells ks row (c + 1) fun ds => some (d :: ds)), Option.bind_assoc]
  congr 1
  funext d
  rw [ih, ih (K := fun ds => some (d :: ds)), Option.bind_assoc]
  rfl
theorem outOne_uni {fz : Bool} {k : RK} {x : I} {m : Mem} {K : AV → Mem → Option R} : outOne fz k x m K = (outOne fz k x m mk2).bind (pr K) := by
 cases k with
 | c k =>
  simp only [outOne, oD_uni, Option.bind_assoc]
  congr 1
  funext d
  exact outCell_uni
 | g ks =>
  simp only [outOne, oG_uni, Option.bind_assoc]
  congr 1
  funext row
  rw [outCells_uni, outCells_uni (K := fun xs m => mk2 (AV.g xs) m), ← tst_uni, Option.bind_assoc]
  rfl
 | p ks =>
  simp only [outOne, oP_uni, Option.bind_assoc]
  congr 1
  funext row
  rw [kdCells_uni, kdCells_uni (K := fun r : Row => mk2 (AV.a m.length 0 0) (m ++ [some (⟨ks.length, [r], []⟩ : Node)])), ← tst_uni, Option.bind_assoc]
  rfl
theorem outMany_uni {fz : Bool} {ks : List RK} : ∀ {R : Type} {is : List I} {j : Nat} {m : Mem} {K : List AV → Mem → Option R}, outMany fz ks is j m K = (outMany fz ks is j m mk2).bind (pr K) := by
 induction ks with
 | nil => intro R is j m K; rfl
 | cons k ks ih =>
  intro R is j m K
  simp only [outMany, nth_uni, Option.bind_assoc]
  congr 1
  funext d
  rw [outOne_uni, outOne_uni (K := fun x m => outMany fz ks is (j + 1) m fun xs m => mk2 (x :: xs) m), Option.bind_assoc]
  congr 1
  funext p
  simp only [pr]
  rw [ih, ih (K := fun xs m => mk2 (p.1 :: xs) m), Option.bind_assoc]
  rfl
theorem outAll_uni {fz : Bool} {ks : List RK} {x : I} {m : Mem} {K : AV → Mem → Option R} : outAll fz ks x m K = (outAll fz ks x m mk2).bind (pr K) := by
 unfold outAll
 split
 ·exact outOne_uni
 ·simp only [oT_uni, Option.bind_assoc]
  congr 1
  funext is
  rw [outMany_uni, outMany_uni (K := fun xs m => mk2 (AV.t xs) m), ← tst_uni, Option.bind_assoc]
  rfl
theorem callOp_uni {T : Table} {m : Mem} {modes : List Mode} {fz : Bool} {res : List RK} {fn : Nat} {xs : List AV} {more : Mem → Option (List I)} {K : AV → Mem → Option R} :
  callOp T m modes fz res fn xs more K = (callOp T m modes fz res fn xs more mk2).bind (pr K) := by
 unfold callOp
 split
 ·split
  ·rfl
  ·simp only [callT_uni, Option.bind_assoc]
   congr 1
   funext o
   rw [backArgs_uni, backArgs_uni (K := fun m2 => outAll fz res o.res m2 mk2), Option.bind_assoc]
   congr 1
   funext m2
   exact outAll_uni
 ·rfl
theorem rowsOf_uni {b : Bool} {wd : Nat} {m : Mem} {x : AV} {K : Rows → Opens → Mem → Option R} : rowsOf b wd m x K = (rowsOf b wd m x fun r o m => some (r, o, m)).bind fun p => K p.1 p.2.1 p.2.2 := by
 unfold rowsOf
 split
 ·cases (b && Nat.beq _ wd) <;> simp only [cond_true, cond_false]
  ·rfl
  ·cases flatRows _ <;> rfl
 ·rfl
 ·split
  ·cases Nat.beq _ wd <;> rfl
  ·rfl
 ·rfl
theorem rowsOf_cong {A : Type} {b : Bool} {wd : Nat} {m : Mem} {x : AV} {F : Rows → Opens → Mem → Option R} {F' : Rows → Opens → Mem → Option A} {G : A → Option R} (h : ∀ r o m, F r o m = (F' r o m).bind G) :
  rowsOf b wd m x F = (rowsOf b wd m x F').bind G := by
 rw [rowsOf_uni, rowsOf_uni (K := F'), Option.bind_assoc]
 congr 1
 funext p
 exact h _ _ _
end
theorem oneE_uni {A R : Type} {i c : Nat} {f : Option A} {K : A → Option R} : ∀ {o : Opens}, oneE i c (f.bind K) o = (oneE i c f o).bind K
 | [] => rfl
 | ((i', c'), x) :: l => by
  have ih := oneE_uni (i := i) (c := c) (f := f) (K := K) (o := l)
  simp only [oneE]
  cases Nat.beq c' c
  ·exact ih
  ·simp only [cond_true]; rw [ih, tst_uni]
theorem allE_uni {A R : Type} {i : Nat} {o : Opens} {f : Option A} {K : A → Option R} : ∀ {k c : Nat}, allE i (f.bind K) o c k = (allE i f o c k).bind K
 | 0, c => rfl
 | k + 1, c => by
  simp only [allE]
  rw [allE_uni, oneE_uni]
def EO (T : Table) (t : Tmps) (m : Mem) (op : AOp) : Option (AV × Mem) := evalOp T t m op mk2
theorem evalOp_uni {R : Type} {T : Table} {t : Tmps} {m : Mem} {op : AOp} {K : AV → Mem → Option R} : evalOp T t m op K = (EO T t m op).bind (pr K) := by
 unfold EO
 cases op with
 | mv x => rfl
 | pick c x y =>
  simp only [evalOp]
  split
  ·rename_i b _; cases b <;> rfl
  ·rfl
 | box x =>
  simp only [evalOp]
  split
  ·rename_i cs _; cases boxable cs <;> rfl
  ·rfl
 | alloc zero => rfl
 | build zero ps => simp only [evalOp]; split <;> rfl
 | lit wd rows ps =>
  simp only [evalOp]
  split
  ·rfl
  ·split <;> rfl
 | load agg ks x =>
  simp only [evalOp]
  split
  ·rw [ldOs_uni, ldOs_uni (K := fun xs m => ret1 mk2 m (mkAgg agg xs)), Option.bind_assoc]
   congr 1
   funext p
   simp only [pr]
   rw [ret1uni, ret1uni (K := mk2), Option.bind_assoc]
   rfl
  ·rw [ldFs_uni, ldFs_uni (K := fun xs => ret1 mk2 m (mkAgg agg xs)), Option.bind_assoc]
   congr 1
   funext p
   rw [ret1uni, ret1uni (K := mk2), Option.bind_assoc]
   rfl
  ·rfl
 | store n x y =>
  simp only [evalOp]
  split
  ·cases Nat.beq _ n
   ·rfl
   ·simp only [cond_true]
    split
    ·split <;> rfl
    ·rfl
  ·rfl
 | bin op x y =>
  simp only [evalOp]
  split
  ·rw [binV_uni, binV_uni (K := fun z => mk2 (AV.v z) m), Option.bind_assoc]; rfl
  ·rfl
 | beq neg x y => simp only [evalOp]; split <;> rfl
 | geq neg ks x y =>
  simp only [evalOp]
  split
  ·split <;> rfl
  ·rfl
 | un op x =>
  simp only [evalOp]
  split
  ·rw [unV_uni, unV_uni (K := fun z => mk2 (AV.v z) m), Option.bind_assoc]; rfl
  ·rfl
 | conv k x =>
  simp only [evalOp]
  split <;> try rfl
  ·exact tst_uni2
  ·split
   ·exact tst_uni2
   ·rfl
 | fn f caps => rfl
 | mk zero bytes n c =>
  simp only [evalOp]
  split
  ·exact tst_uni2
  ·rfl
 | slc wd x lo hi =>
  simp only [evalOp]
  split
  ·split
   ·exact tst_uni2
   ·rfl
  ·cases Nat.beq _ _
   ·rfl
   ·simp only [cond_true]
    split
    ·exact tst_uni2
    ·rfl
  ·rfl
 | fad off x => simp only [evalOp]; split <;> rfl
 | fld agg off n x =>
  simp only [evalOp]
  split
  ·cases Nat.ble _ _
   ·rfl
   ·simp only [cond_true]
    rw [ret1uni, ret1uni (K := mk2), Option.bind_assoc]
    rfl
  ·rfl
 | iad wd x i =>
  simp only [evalOp]
  split
  ·split
   ·cases Nat.beq _ _
    ·rfl
    ·simp only [cond_true]; exact tst_uni2
   ·rfl
  ·cases Nat.beq _ _
   ·rfl
   ·simp only [cond_true, look_uni]
    rw [← tst_uni, Option.bind_assoc]
    rfl
  ·rfl
 | idx x i =>
  simp only [evalOp]
  split
  ·simp only [byteAt_uni]
   rw [← tst_uni, Option.bind_assoc]
   rfl
  ·rfl
 | ext x i =>
  simp only [evalOp]
  split
  ·rw [ret1uni, ret1uni (K := mk2), Option.bind_assoc]; rfl
  ·rfl
 | call f modes fz res xs =>
  simp only [evalOp]
  split
  ·exact callOp_uni
  ·exact callOp_uni
  ·rfl
 | app wd bytes x y =>
  simp only [evalOp]
  exact rowsOf_cong fun _ _ _ => rowsOf_cong fun _ _ _ => tst_uni2
 | len str x => simp only [evalOp]; split <;> rfl
 | mx x y =>
  simp only [evalOp]
  split
  ·exact sameKind_uni2
  ·rfl
 | more op =>
  cases op with
  | shr n x =>
   simp only [evalOp, evalMore]
   split
   ·cases Nat.blt _ _ <;> rfl
   ·rfl
  | nilq wd x =>
   simp only [evalOp, evalMore]
   split
   ·cases Nat.beq _ _
    ·rfl
    ·simp only [cond_true]; cases List.isEmpty _ <;> rfl
   ·rfl
  | mn x y =>
   simp only [evalOp, evalMore]
   split
   ·exact sameKind_uni2
   ·rfl
  | slo wd x lo hi =>
   simp only [evalOp, evalMore]
   split
   ·split
    ·cases Nat.beq _ _
     ·rfl
     ·simp only [cond_true]
      split
      ·exact tst_uni2
      ·rfl
    ·rfl
   ·rfl
  | lnw x => simp only [evalOp, evalMore]; split <;> rfl
  | nck x => simp only [evalOp, evalMore]; split <;> rfl
  | lnh x => simp only [evalOp, evalMore]; split <;> rfl
  | ste k x y =>
   simp only [evalOp, evalMore]
   split
   ·cases Nat.beq _ _
    ·rfl
    ·simp only [cond_true]
     split
     ·rw [← allE_uni]
      congr 1
      split <;> rfl
     ·rfl
   ·rfl
  | iaw wd x y =>
   simp only [evalOp, evalMore]
   split
   ·split
    ·cases Nat.beq _ _
     ·rfl
     ·simp only [cond_true]; exact tst_uni2
    ·rfl
   ·rfl
  | clr zero x =>
   simp only [evalOp, evalMore]
   split
   ·split
    ·split
     ·cases Nat.beq _ _
      ·rfl
      ·simp only [cond_true]; exact tst_uni2
     ·rfl
    ·rfl
   ·rfl
 | cod mk x y =>
  simp only [evalOp]
  split
  ·simp only [callT_uni, oD_uni, dI_uni, Option.bind_assoc, Option.bind_some]
  ·rfl
theorem EO_of {R : Type} {r : R} {T : Table} {t : Tmps} {m : Mem} {op : AOp} {K : AV → Mem → Option R} (h : evalOp T t m op K = some r) : ∃ x m', EO T t m op = some (x, m') ∧ K x m' = some r := by
 rw [evalOp_uni] at h
 obtain ⟨p, h1, h2⟩ := Option.bind_eq_some_iff.1 h
 exact ⟨p.1, p.2, h1, h2⟩
end Go.Am
/- AM: light and heavy operations: what they read and what they leave. Nothing is assumed. -/
namespace Go.Am
def opdT : Opd → List Nat
 | .t i => [i]
 | _ => []
def opdsT : List Opd → List Nat
 | [] => []
 | x :: xs => opdT x ++ opdsT xs
def optT : Option Opd → List Nat
 | some x => opdT x
 | none => []
def partsT : List (Nat × Nat × Opd) → List Nat
 | [] => []
 | (_, _, x) :: l => opdT x ++ partsT l
def litsT : List (Nat × Opd) → List Nat
 | [] => []
 | (_, x) :: l => opdT x ++ litsT l
def readsOf : AOp → List Nat
 | .mv x => opdT x
 | .pick c x y => opdT c ++ (opdT x ++ opdT y)
 | .box x => opdT x
 | .alloc _ => []
 | .build _ ps => partsT ps
 | .lit _ _ ps => litsT ps
 | .load _ _ x => opdT x
 | .store _ x y => opdT x ++ opdT y
 | .bin _ x y => opdT x ++ opdT y
 | .beq _ x y => opdT x ++ opdT y
 | .geq _ _ x y => opdT x ++ opdT y
 | .un _ x => opdT x
 | .conv _ x => opdT x
 | .fn _ caps => opdsT caps
 | .mk _ _ x y => opdT x ++ opdT y
 | .slc _ x lo hi => opdT x ++ (optT lo ++ optT hi)
 | .fad _ x => opdT x
 | .fld _ _ _ x => opdT x
 | .iad _ x y => opdT x ++ opdT y
 | .idx x y => opdT x ++ opdT y
 | .ext x _ => opdT x
 | .call f _ _ _ xs => opdT f ++ opdsT xs
 | .app _ _ x y => opdT x ++ opdT y
 | .len _ x => opdT x
 | .mx x y => opdT x ++ opdT y
 | .more (.shr _ x) => opdT x
 | .more (.nilq _ x) => opdT x
 | .more (.mn x y) => opdT x ++ opdT y
 | .more (.slo _ x lo hi) => opdT x ++ (optT lo ++ optT hi)
 | .more (.lnw x) => opdT x
 | .more (.iaw _ x y) => opdT x ++ opdT y
 | .more (.clr _ x) => opdT x
 | .more (.nck x) => opdT x
 | .more (.lnh x) => opdT x
 | .more (.ste _ x y) => opdT x ++ opdT y
 | .cod _ x y => opdT x ++ opdT y
section
variable {T : Table} {t t' : Tmps}
theorem ev_congr {x : Opd} (h : ∀ p ∈ opdT x, t p = t' p) : ev t x = ev t' x := by
 cases x with
 | t i => exact h i (by simp [opdT])
 | _ => rfl
theorem evs_congr {xs : List Opd} (h : ∀ p ∈ opdsT xs, t p = t' p) : evs t xs = evs t' xs := by
 induction xs with
 | nil => rfl
 | cons x xs ih =>
  simp only [opdsT, List.mem_append] at h
  simp only [evs]
  rw [ev_congr fun p hp => h p (.inl hp), ih fun p hp => h p (.inr hp)]
theorem bound_congr {d : Int} {x : Option Opd} (h : ∀ p ∈ optT x, t p = t' p) : boundOf t d x = boundOf t' d x := by
 cases x with
 | none => rfl
 | some x => simp only [boundOf]; rw [ev_congr h]
theorem parts_congr {ps : List (Nat × Nat × Opd)} : ∀ {xs : List AV}, (∀ p ∈ partsT ps, t p = t' p) → setParts xs t ps = setParts xs t' ps := by
 induction ps with
 | nil => intro xs _; rfl
 | cons p ps ih =>
  obtain ⟨a, b, x⟩ := p
  intro xs h
  simp only [partsT, List.mem_append] at h
  simp only [setParts]
  rw [ev_congr fun p hp => h p (.inl hp)]
  split
  ·rw [ih fun p hp => h p (.inr hp)]
  ·rfl
theorem lits_congr {ps : List (Nat × Opd)} : ∀ {n : Node}, (∀ p ∈ litsT ps, t p = t' p) → litParts n t ps = litParts n t' ps := by
 induction ps with
 | nil => intro n _; rfl
 | cons p ps ih =>
  obtain ⟨a, x⟩ := p
  intro n h
  simp only [litsT, List.mem_append] at h
  simp only [litParts]
  rw [ev_congr fun p hp => h p (.inl hp)]
  split
  ·cases (Nat.beq _ _ && Nat.blt _ _)
   ·rfl
   ·simp only [cond_true]
    split
    ·rw [ih fun p hp => h p (.inr hp)]
    ·rfl
  ·rfl
theorem EO_congr {m : Mem} {op : AOp} (h : ∀ p ∈ readsOf op, t p = t' p) : EO T t m op = EO T t' m op := by
 unfold EO
 cases op with
 | mv x => simp only [evalOp]; rw [ev_congr h]
 | pick c x y =>
  simp only [readsOf, List.mem_append] at h
  simp only [evalOp]
  rw [ev_congr (x := c) fun p hp => h p (.inl hp), ev_congr (x := x) fun p hp => h p (.inr (.inl hp)), ev_congr (x := y) fun p hp => h p (.inr (.inr hp))]
 | box x => simp only [evalOp]; rw [ev_congr h]
 | alloc zero => rfl
 | build zero ps => simp only [evalOp]; rw [parts_congr h]
 | lit wd rows ps => simp only [evalOp]; rw [lits_congr h]
 | load agg ks x => simp only [evalOp]; rw [ev_congr h]
 | un op x => simp only [evalOp]; rw [ev_congr h]
 | conv k x => simp only [evalOp]; rw [ev_congr h]
 | fn f caps => simp only [evalOp]; rw [evs_congr h]
 | fad off x => simp only [evalOp]; rw [ev_congr h]
 | fld agg off n x => simp only [evalOp]; rw [ev_congr h]
 | ext x i => simp only [evalOp]; rw [ev_congr h]
 | len str x => simp only [evalOp]; rw [ev_congr h]
 | slc wd x lo hi =>
  simp only [readsOf, List.mem_append] at h
  have h1 := ev_congr (x := x) fun p hp => h p (.inl hp)
  have h2 : ∀ d, boundOf t d lo = boundOf t' d lo := fun d => bound_congr fun p hp => h p (.inr (.inl hp))
  have h3 : ∀ d, boundOf t d hi = boundOf t' d hi := fun d => bound_congr fun p hp => h p (.inr (.inr hp))
  simp only [evalOp]
  rw [h1]
  simp only [h2, h3]
 | call f modes fz res xs =>
  simp only [readsOf, List.mem_append] at h
  simp only [evalOp]
  rw [ev_congr (x := f) fun p hp => h p (.inl hp), evs_congr fun p hp => h p (.inr hp)]
 | store n x y =>
  simp only [readsOf, List.mem_append] at h
  simp only [evalOp]
  rw [ev_congr (x := x) fun p hp => h p (.inl hp), ev_congr (x := y) fun p hp => h p (.inr hp)]
 | bin op x y =>
  simp only [readsOf, List.mem_append] at h
  simp only [evalOp]
  rw [ev_congr (x := x) fun p hp => h p (.inl hp), ev_congr (x := y) fun p hp => h p (.inr hp)]
 | beq neg x y =>
  simp only [readsOf, List.mem_append] at h
  simp only [evalOp]
  rw [ev_congr (x := x) fun p hp => h p (.inl hp), ev_congr (x := y) fun p hp => h p (.inr hp)]
 | geq neg ks x y =>
  simp only [readsOf, List.mem_append] at h
  simp only [evalOp]
  rw [ev_congr (x := x) fun p hp => h p (.inl hp), ev_congr (x := y) fun p hp => h p (.inr hp)]
 | mk zero bytes x y =>
  simp only [readsOf, List.mem_append] at h
  simp only [evalOp]
  rw [ev_congr (x := x) fun p hp => h p (.inl hp), ev_congr (x := y) fun p hp => h p (.inr hp)]
 | iad wd x y =>
  simp only [readsOf, List.mem_append] at h
  simp only [evalOp]
  rw [ev_congr (x := x) fun p hp => h p (.inl hp), ev_congr (x := y) fun p hp => h p (.inr hp)]
 | idx x y =>
  simp only [readsOf, List.mem_append] at h
  simp only [evalOp]
  rw [ev_congr (x := x) fun p hp => h p (.inl hp), ev_congr (x := y) fun p hp => h p (.inr hp)]
 | app wd bytes x y =>
  simp only [readsOf, List.mem_append] at h
  simp only [evalOp]
  rw [ev_congr (x := x) fun p hp => h p (.inl hp), ev_congr (x := y) fun p hp => h p (.inr hp)]
 | mx x y =>
  simp only [readsOf, List.mem_append] at h
  simp only [evalOp]
  rw [ev_congr (x := x) fun p hp => h p (.inl hp), ev_congr (x := y) fun p hp => h p (.inr hp)]
 | more op =>
  cases op with
  | shr n x => simp only [evalOp, evalMore]; rw [ev_congr h]
  | nilq wd x => simp only [evalOp, evalMore]; rw [ev_congr h]
  | mn x y =>
   simp only [readsOf, List.mem_append] at h
   simp only [evalOp, evalMore]
   rw [ev_congr (x := x) fun p hp => h p (.inl hp), ev_congr (x := y) fun p hp => h p (.inr hp)]
  | slo wd x lo hi =>
   simp only [readsOf, List.mem_append] at h
   have h1 := ev_congr (x := x) fun p hp => h p (.inl hp)
   have h2 : ∀ d, boundOf t d lo = boundOf t' d lo := fun d => bound_congr fun p hp => h p (.inr (.inl hp))
   have h3 : ∀ d, boundOf t d hi = boundOf t' d hi := fun d => bound_congr fun p hp => h p (.inr (.inr hp))
   simp only [evalOp, evalMore]
   rw [h1]
   simp only [h2, h3]
  | lnw x => simp only [evalOp, evalMore]; rw [ev_congr h]
  | nck x => simp only [evalOp, evalMore]; rw [ev_congr h]
  | lnh x => simp only [evalOp, evalMore]; rw [ev_congr h]
  | ste k x y =>
   simp only [readsOf, List.mem_append] at h
   simp only [evalOp, evalMore]
   rw [ev_congr (x := x) fun p hp => h p (.inl hp), ev_congr (x := y) fun p hp => h p (.inr hp)]
  | iaw wd x y =>
   simp only [readsOf, List.mem_append] at h
   simp only [evalOp, evalMore]
   rw [ev_congr (x := x) fun p hp => h p (.inl hp), ev_congr (x := y) fun p hp => h p (.inr hp)]
  | clr zero x => simp only [evalOp, evalMore]; rw [ev_congr h]
 | cod mk x y =>
  simp only [readsOf, List.mem_append] at h
  simp only [evalOp]
  rw [ev_congr (x := x) fun p hp => h p (.inl hp), ev_congr (x := y) fun p hp => h p (.inr hp)]
theorem getNode_app {m l : Mem} {id : Nat} {n : Node} (h : getNode m id = some n) : getNode (m ++ l) id = some n := by
 unfold getNode at *
 have : id < m.length := by
  rcases Nat.lt_or_ge id m.length with h' | h'
  ·exact h'
  ·rw [List.getElem?_eq_none h'] at h; simp at h
 rw [List.getElem?_append_left this]
 exact h
theorem ldO_len {k : Kd} {m m' : Mem} {id i c : Nat} {x : AV} (h : ldO k m id i c mk2 = some (x, m')) : m.length ≤ m'.length ∧ (m'.length = m.length → m' = m ∧ ∀ m2, (∀ n, getNode m id = some n → getNode m2 id = some n) → ldO k m2 id i c mk2 = some (x, m2)) := by
 unfold ldO at h
 split at h
 ·simp at h
 ·rename_i n hn
  split at h
  ·rename_i y hy
   simp only [mk2, Option.some.injEq, Prod.mk.injEq] at h
   obtain ⟨rfl, rfl⟩ := h
   exact ⟨Nat.le_refl _, fun _ => ⟨rfl, fun m2 hm2 => by unfold ldO; rw [hm2 n hn]; simp only [hy]⟩⟩
  ·rename_i hy
   simp only [look_uni, cell_uni] at h
   obtain ⟨row, h1, h⟩ := Option.bind_eq_some_iff.1 h
   obtain ⟨d, h2, h⟩ := Option.bind_eq_some_iff.1 h
   cases k with
   | sl wd =>
    simp only [dL_uni] at h
    obtain ⟨rows, _, h⟩ := Option.bind_eq_some_iff.1 h
    simp only [mk2, Option.some.injEq, Prod.mk.injEq] at h
    obtain ⟨rfl, rfl⟩ := h
    simp
   | i k =>
    simp only [dI_uni] at h
    obtain ⟨n', h3, h⟩ := Option.bind_eq_some_iff.1 h
    simp only [mk2, Option.some.injEq, Prod.mk.injEq] at h
    obtain ⟨rfl, rfl⟩ := h
    exact ⟨Nat.le_refl _, fun _ => ⟨rfl, fun m2 hm2 => by unfold ldO; rw [hm2 n hn]; simp only [hy, look_uni, cell_uni, h1, h2, Option.bind_some, dI_uni, h3]⟩⟩
   | b =>
    simp only [dB_uni] at h
    obtain ⟨n', h3, h⟩ := Option.bind_eq_some_iff.1 h
    simp only [mk2, Option.some.injEq, Prod.mk.injEq] at h
    obtain ⟨rfl, rfl⟩ := h
    exact ⟨Nat.le_refl _, fun _ => ⟨rfl, fun m2 hm2 => by unfold ldO; rw [hm2 n hn]; simp only [hy, look_uni, cell_uni, h1, h2, Option.bind_some, dB_uni, h3]⟩⟩
   | s =>
    simp only [dS_uni] at h
    obtain ⟨n', h3, h⟩ := Option.bind_eq_some_iff.1 h
    simp only [mk2, Option.some.injEq, Prod.mk.injEq] at h
    obtain ⟨rfl, rfl⟩ := h
    exact ⟨Nat.le_refl _, fun _ => ⟨rfl, fun m2 hm2 => by unfold ldO; rw [hm2 n hn]; simp only [hy, look_uni, cell_uni, h1, h2, Option.bind_some, dS_uni, h3]⟩⟩
   | h =>
    simp only [dH_uni] at h
    obtain ⟨n', h3, h⟩ := Option.bind_eq_some_iff.1 h
    simp only [mk2, Option.some.injEq, Prod.mk.injEq] at h
    obtain ⟨rfl, rfl⟩ := h
    exact ⟨Nat.le_refl _, fun _ => ⟨rfl, fun m2 hm2 => by unfold ldO; rw [hm2 n hn]; simp only [hy, look_uni, cell_uni, h1, h2, Option.bind_some, dH_uni, h3]⟩⟩
theorem ldOs_len {ks : List Kd} : ∀ {m m' : Mem} {id i c : Nat} {xs : List AV}, ldOs ks m id i c mk2 = some (xs, m') → m.length ≤ m'.length ∧ (m'.length = m.length → m' = m ∧ ∀ m2, (∀ n, getNode m id = some n → getNode m2 id = some n) → ldOs ks m2 id i c mk2 = some (xs, m2)) := by
 induction ks with
 | nil =>
  intro m m' id i c xs h
  simp only [ldOs, mk2, Option.some.injEq, Prod.mk.injEq] at h
  obtain ⟨rfl, rfl⟩ := h
  exact ⟨Nat.le_refl _, fun _ => ⟨rfl, fun m2 _ => rfl⟩⟩
 | cons k ks ih =>
  intro m m' id i c xs h
  simp only [ldOs] at h
  rw [ldO_uni] at h
  obtain ⟨⟨x, m1⟩, h1, h⟩ := Option.bind_eq_some_iff.1 h
  simp only [pr] at h
  rw [ldOs_uni] at h
  obtain ⟨⟨ys, m2⟩, h2, h⟩ := Option.bind_eq_some_iff.1 h
  simp only [pr, mk2, Option.some.injEq, Prod.mk.injEq] at h
  obtain ⟨rfl, rfl⟩ := h
  obtain ⟨a1, a2⟩ := ldO_len h1
  obtain ⟨b1, b2⟩ := ih h2
  refine ⟨by omega, fun he => ?_⟩
  obtain ⟨rfl, a3⟩ := a2 (by omega)
  obtain ⟨rfl, b3⟩ := b2 he
  refine ⟨rfl, fun m2 hm2 => ?_⟩
  simp only [ldOs]
  rw [ldO_uni, a3 m2 hm2]
  simp only [Option.bind_some, pr]
  rw [ldOs_uni, b3 m2 hm2]
  rfl
theorem snapOpens_mono {f g : Nat → Option D} (hfg : ∀ id d, f id = some d → g id = some d) {l : Opens} : ∀ {rows r : Rows}, snapOpens f rows l = some r → snapOpens g rows l = some r := by
 induction l with
 | nil => intro rows r h; exact h
 | cons p l ih =>
  intro rows r h
  obtain ⟨⟨i, c⟩, x⟩ := p
  cases x with
  | r id =>
   simp only [snapOpens] at h ⊢
   cases hf : f id with
   | none => simp [hf] at h
   | some d =>
    simp only [hf] at h
    simp only [hfg _ _ hf]
    exact ih h
  | fz wd rs => simp only [snapOpens] at h ⊢; exact ih h
  | _ => simp [snapOpens] at h
theorem snapId_ext {m l : Mem} : ∀ {k k' : Nat}, k ≤ k' → ∀ id d, snapId m k id = some d → snapId (m ++ l) k' id = some d := by
 intro k
 induction k with
 | zero => intro k' _ id d h; simp [snapId] at h
 | succ k ih =>
  intro k' hk id d h
  obtain ⟨k2, rfl⟩ : ∃ k2, k' = k2 + 1 := ⟨k' - 1, by omega⟩
  simp only [snapId] at h ⊢
  cases hn : getNode m id with
  | none => simp [hn] at h
  | some n =>
   simp only [hn] at h
   rw [getNode_app hn]
   cases ho : snapOpens (snapId m k) n.rows n.opens with
   | none => simp [ho] at h
   | some rows =>
    simp only [ho] at h
    have e := snapOpens_mono (ih (k' := k2) (by omega)) ho
    simp only [e]
    exact h
theorem snapCell_ext {m l : Mem} {x : AV} {d : D} (h : snapCell m x = some d) : snapCell (m ++ l) x = some d := by
 cases x with
 | r id => exact snapId_ext (by simp) _ _ h
 | _ => exact h
theorem snapCells_ext {m l : Mem} {xs : List AV} : ∀ {ds : Row}, snapCells m xs = some ds → snapCells (m ++ l) xs = some ds := by
 induction xs with
 | nil => intro ds h; exact h
 | cons x xs ih =>
  intro ds h
  simp only [snapCells] at h ⊢
  cases h1 : snapCell m x with
  | none => simp [h1] at h
  | some d =>
   simp only [h1] at h
   rw [snapCell_ext h1]
   cases h2 : snapCells m xs with
   | none => simp [h2] at h
   | some ds' => simp only [h2] at h; simp only [ih h2]; exact h
theorem snapI1_ext {m l : Mem} {x : AV} {i : I} (h : snapI1 m x = some i) : snapI1 (m ++ l) x = some i := by
 unfold snapI1 at h
 split at h
 ·rename_i xs
  cases h1 : snapCells m xs with
  | none => simp [h1] at h
  | some ds => simp only [h1] at h; simp only [snapI1, snapCells_ext h1]; exact h
 ·exact h
 ·rename_i id
  cases h1 : snapId m m.length id with
  | none => simp [h1] at h
  | some d => simp only [h1] at h; simp only [snapI1, snapId_ext (l := l) (k' := (m ++ l).length) (by simp) _ _ h1]; exact h
 ·rename_i n1 n2 n3
  cases h1 : snapCell m x with
  | none => simp [h1] at h
  | some d =>
   simp only [h1] at h
   have h2 := snapCell_ext (l := l) h1
   unfold snapI1
   split
   ·exact absurd rfl (n1 _)
   ·exact absurd rfl (n2 _)
   ·exact absurd rfl (n3 _)
   ·rw [h2]; exact h
theorem snapI1s_ext {m l : Mem} {xs : List AV} : ∀ {is : List I}, snapI1s m xs = some is → snapI1s (m ++ l) xs = some is := by
 induction xs with
 | nil => intro ds h; exact h
 | cons x xs ih =>
  intro ds h
  simp only [snapI1s] at h ⊢
  cases h1 : snapI1 m x with
  | none => simp [h1] at h
  | some d =>
   simp only [h1] at h
   rw [snapI1_ext h1]
   cases h2 : snapI1s m xs with
   | none => simp [h2] at h
   | some ds' => simp only [h2] at h; simp only [ih h2]; exact h
theorem snapI_ext {m l : Mem} {x : AV} {i : I} (h : snapI m x = some i) : snapI (m ++ l) x = some i := by
 unfold snapI at h
 split at h
 ·rename_i fn caps
  cases h1 : snapI1s m caps with
  | none => simp [h1] at h
  | some ds => simp only [h1] at h; simp only [snapI, snapI1s_ext h1]; exact h
 ·exact h
 ·rename_i n1 n2
  unfold snapI
  split
  ·exact absurd rfl (n1 _ _)
  ·exact absurd rfl (n2 _ _)
  ·exact snapI1_ext h
def plainK : Kd → Bool
 | .sl _ => false
 | _ => true
theorem passArgs_ext {modes : List Mode} : ∀ {m m1 : Mem} {xs : List AV} {is : List I}, rdB modes = true → passArgs m modes xs = some (is, m1) → m1 = m ∧ ∀ l, passArgs (m ++ l) modes xs = some (is, m ++ l) := by
 induction modes with
 | nil =>
  intro m m1 xs is _ h
  cases xs with
  | nil => simp only [passArgs, Option.some.injEq, Prod.mk.injEq] at h; obtain ⟨rfl, rfl⟩ := h; exact ⟨rfl, fun l => rfl⟩
  | cons => simp [passArgs] at h
 | cons md modes ih =>
  intro m m1 xs is hr h
  cases md with
  | rd =>
   cases xs with
   | nil => simp [passArgs] at h
   | cons x xs =>
    simp only [passArgs] at h
    cases h1 : passArgs m modes xs with
    | none => simp [h1] at h
    | some p =>
     obtain ⟨is', m2⟩ := p
     simp only [h1] at h
     obtain ⟨rfl, h2⟩ := ih hr h1
     cases h3 : snapI m2 x with
     | none => simp [h3] at h
     | some i =>
      simp only [h3, Option.some.injEq, Prod.mk.injEq] at h
      obtain ⟨rfl, rfl⟩ := h
      exact ⟨rfl, fun l => by simp only [passArgs, h2 l, snapI_ext h3]⟩
  | _ => simp [rdB] at hr
theorem backArgs_rd {R : Type} {m0 m : Mem} {is : List I} {j : Nat} {K : Mem → Option R} {modes : List Mode} : ∀ {xs : List AV}, rdB modes = true → backArgs m0 m modes xs is j K = K m := by
 induction modes with
 | nil => intro xs _; cases xs <;> rfl
 | cons md modes ih =>
  intro xs hr
  cases md with
  | rd => cases xs with
   | nil => rfl
   | cons x xs => simp only [backArgs]; exact ih hr
  | _ => simp [rdB] at hr
theorem callOp_ext {modes : List Mode} {k : Kd} {fn : Nat} {xs : List AV} {more : Mem → Option (List I)} {m m' : Mem} {x : AV} (hr : rdB modes = true) (hk : plainK k = true) (hmore : ∀ js, more m = some js → ∀ l, more (m ++ l) = some js)
  (h : callOp T m modes false [.c k] fn xs more mk2 = some (x, m')) : m' = m ∧ ∀ l, callOp T (m ++ l) modes false [.c k] fn xs more mk2 = some (x, m ++ l) := by
 unfold callOp at h
 split at h
 ·rename_i is m1 hp
  obtain ⟨rfl, hp'⟩ := passArgs_ext hr hp
  split at h
  ·simp at h
  ·rename_i js hm
   simp only [callT_uni, backArgs_rd hr, outAll, outOne, oD_uni] at h
   obtain ⟨o, ho, h⟩ := Option.bind_eq_some_iff.1 h
   obtain ⟨d, hd, h⟩ := Option.bind_eq_some_iff.1 h
   have key : ∀ l, callOp T (m1 ++ l) modes false [.c k] fn xs more mk2 = outCell false k d (m1 ++ l) mk2 := fun l => by
    unfold callOp
    simp only [hp' l, hmore js hm l, callT_uni, backArgs_rd hr, outAll, outOne, oD_uni, ho, Option.bind_some, hd]
   cases k with
   | sl wd => simp [plainK] at hk
   | i k =>
    simp only [outCell, dI_uni] at h key
    obtain ⟨n, hn, h⟩ := Option.bind_eq_some_iff.1 h
    simp only [mk2, Option.some.injEq, Prod.mk.injEq] at h
    obtain ⟨rfl, rfl⟩ := h
    exact ⟨rfl, fun l => by rw [key, hn]; rfl⟩
   | b =>
    simp only [outCell, dB_uni] at h key
    obtain ⟨n, hn, h⟩ := Option.bind_eq_some_iff.1 h
    simp only [mk2, Option.some.injEq, Prod.mk.injEq] at h
    obtain ⟨rfl, rfl⟩ := h
    exact ⟨rfl, fun l => by rw [key, hn]; rfl⟩
   | s =>
    simp only [outCell, dS_uni] at h key
    obtain ⟨n, hn, h⟩ := Option.bind_eq_some_iff.1 h
    simp only [mk2, Option.some.injEq, Prod.mk.injEq] at h
    obtain ⟨rfl, rfl⟩ := h
    exact ⟨rfl, fun l => by rw [key, hn]; rfl⟩
   | h =>
    simp only [outCell, dH_uni] at h key
    obtain ⟨n, hn, h⟩ := Option.bind_eq_some_iff.1 h
    simp only [mk2, Option.some.injEq, Prod.mk.injEq] at h
    obtain ⟨rfl, rfl⟩ := h
    exact ⟨rfl, fun l => by rw [key, hn]; rfl⟩
 ·simp at h
def lightK : AOp → Bool
 | .mv _ => true
 | .pick _ _ _ => true
 | .build _ _ => true
 | .lit _ [] [] => true
 | .load _ _ _ => true
 | .bin _ _ _ => true
 | .beq _ _ _ => true
 | .geq _ _ _ _ => true
 | .un _ _ => true
 | .conv .strBytes _ => false
 | .conv .bytesStr _ => false
 | .conv _ _ => true
 | .fn _ _ => true
 | .slc _ _ _ _ => true
 | .fad _ _ => true
 | .fld _ _ _ _ => true
 | .iad _ _ _ => true
 | .idx _ _ => true
 | .ext _ _ => true
 | .len _ _ => true
 | .mx _ _ => true
 | .more (.shr _ _) => true
 | .more (.nilq _ _) => true
 | .more (.mn _ _) => true
 | .more (.nck _) => true
 | .more (.iaw _ _ _) => true
 | .more (.lnh _) => true
 | .cod _ _ _ => true
 | .call _ modes false [.c k] _ => rdB modes && plainK k
 | _ => false
theorem light_ext {m m' : Mem} {op : AOp} {x : AV} (hk : lightK op = true) (h : EO T t m op = some (x, m')) (hl : m'.length = m.length) : m' = m ∧ ∀ l, EO T t (m ++ l) op = some (x, m ++ l) := by
 unfold EO at *
 have triv : ∀ {f : Mem → Option (AV × Mem)} {o : Option AV}, (∀ m, f m = o.map fun y => (y, m)) → f m = some (x, m') → m' = m ∧ ∀ l, f (m ++ l) = some (x, m ++ l) := by
  intro f o hf h
  rw [hf] at h
  cases o with
  | none => simp at h
  | some y =>
   simp only [Option.map_some, Option.some.injEq, Prod.mk.injEq] at h
   obtain ⟨rfl, rfl⟩ := h
   exact ⟨rfl, fun l => by rw [hf]; rfl⟩
 cases op with
 | mv y => exact triv (f := fun m => evalOp T t m (.mv y) mk2) (o := some (ev t y)) (fun m => rfl) h
 | fn f caps => exact triv (f := fun m => evalOp T t m (.fn f caps) mk2) (o := some (.f f (evs t caps))) (fun m => rfl) h
 | pick c y z =>
  refine triv (f := fun m => evalOp T t m (.pick c y z) mk2) (o := (evalOp T t [] (.pick c y z) mk2).map (·.1)) (fun m => ?_) h
  simp only [evalOp]
  split
  ·rename_i b _; cases b <;> rfl
  ·rfl
 | build zero ps =>
  refine triv (f := fun m => evalOp T t m (.build zero ps) mk2) (o := (evalOp T t [] (.build zero ps) mk2).map (·.1)) (fun m => ?_) h
  simp only [evalOp]
  split <;> simp_all
 | lit wd rows ps =>
  cases rows with
  | cons => simp [lightK] at hk
  | nil => cases ps with
   | cons => simp [lightK] at hk
   | nil => exact triv (f := fun m => evalOp T t m (.lit wd [] []) mk2) (o := some (.o wd [])) (fun m => rfl) h
 | load agg ks y =>
  simp only [evalOp] at h ⊢
  cases hy : ev t y with
  | a id i c =>
   simp only [hy] at h ⊢
   rw [ldOs_uni] at h
   obtain ⟨⟨ys, m1⟩, h1, h⟩ := Option.bind_eq_some_iff.1 h
   simp only [pr] at h
   cases hag : mkAgg agg ys with
   | none => simp [hag, ret1] at h
   | some z =>
    simp only [hag, ret1, mk2, Option.some.injEq, Prod.mk.injEq] at h
    obtain ⟨rfl, rfl⟩ := h
    obtain ⟨rfl, h2⟩ := (ldOs_len h1).2 hl
    refine ⟨rfl, fun l => ?_⟩
    rw [ldOs_uni, h2 (m1 ++ l) fun n hn => getNode_app hn]
    simp only [Option.bind_some, pr, hag, ret1]
  | fa row c =>
   simp only [hy] at h ⊢
   rw [ldFs_uni] at h
   obtain ⟨ys, h1, h⟩ := Option.bind_eq_some_iff.1 h
   cases hag : mkAgg agg ys with
   | none => simp [hag, ret1] at h
   | some z =>
    simp only [hag, ret1, mk2, Option.some.injEq, Prod.mk.injEq] at h
    obtain ⟨rfl, rfl⟩ := h
    refine ⟨rfl, fun l => ?_⟩
    rw [ldFs_uni, h1]
    simp only [Option.bind_some, hag, ret1]
  | _ => simp [hy] at h
 | bin op y z =>
  refine triv (f := fun m => evalOp T t m (.bin op y z) mk2) (o := (evalOp T t [] (.bin op y z) mk2).map (·.1)) (fun m => ?_) h
  simp only [evalOp]
  split
  ·rw [binV_uni, binV_uni (K := fun z => mk2 (AV.v z) [])]
   rename_i a b _ _
   cases binV op a b some <;> rfl
  ·rfl
 | beq neg y z =>
  refine triv (f := fun m => evalOp T t m (.beq neg y z) mk2) (o := (evalOp T t [] (.beq neg y z) mk2).map (·.1)) (fun m => ?_) h
  simp only [evalOp]
  split <;> rfl
 | geq neg ks y z =>
  refine triv (f := fun m => evalOp T t m (.geq neg ks y z) mk2) (o := (evalOp T t [] (.geq neg ks y z) mk2).map (·.1)) (fun m => ?_) h
  simp only [evalOp]
  split
  ·split <;> simp_all
  ·rfl
 | un op y =>
  refine triv (f := fun m => evalOp T t m (.un op y) mk2) (o := (evalOp T t [] (.un op y) mk2).map (·.1)) (fun m => ?_) h
  simp only [evalOp]
  split
  ·rw [unV_uni, unV_uni (K := fun z => mk2 (AV.v z) [])]
   rename_i a _
   cases unV op a some <;> rfl
  ·rfl
 | conv k y =>
  cases k with
  | strBytes => simp [lightK] at hk
  | bytesStr => simp [lightK] at hk
  | int k =>
   refine triv (f := fun m => evalOp T t m (.conv (.int k) y) mk2) (o := (evalOp T t [] (.conv (.int k) y) mk2).map (·.1)) (fun m => ?_) h
   simp only [evalOp]
   cases ev t y <;> try rfl
   rename_i v; cases v <;> rfl
  | same =>
   refine triv (f := fun m => evalOp T t m (.conv .same y) mk2) (o := (evalOp T t [] (.conv .same y) mk2).map (·.1)) (fun m => ?_) h
   simp only [evalOp]
   cases ev t y <;> try rfl
   rename_i v; cases v <;> rfl
  | intStr =>
   refine triv (f := fun m => evalOp T t m (.conv .intStr y) mk2) (o := (evalOp T t [] (.conv .intStr y) mk2).map (·.1)) (fun m => ?_) h
   simp only [evalOp]
   cases ev t y <;> try rfl
   rename_i v; cases v <;> rfl
 | slc wd y lo hi =>
  refine triv (f := fun m => evalOp T t m (.slc wd y lo hi) mk2) (o := (evalOp T t [] (.slc wd y lo hi) mk2).map (·.1)) (fun m => ?_) h
  simp only [evalOp]
  split
  ·split
   ·cases cutOk _ _ _ <;> rfl
   ·rfl
  ·cases Nat.beq _ _
   ·rfl
   ·simp only [cond_true]
    split
    ·cases cutOk _ _ _ <;> rfl
    ·rfl
  ·rfl
 | fad off y =>
  refine triv (f := fun m => evalOp T t m (.fad off y) mk2) (o := (evalOp T t [] (.fad off y) mk2).map (·.1)) (fun m => ?_) h
  simp only [evalOp]
  split <;> rfl
 | fld agg off n y =>
  refine triv (f := fun m => evalOp T t m (.fld agg off n y) mk2) (o := (evalOp T t [] (.fld agg off n y) mk2).map (·.1)) (fun m => ?_) h
  simp only [evalOp]
  split
  ·cases Nat.ble _ _
   ·rfl
   ·simp only [cond_true]
    cases mkAgg agg _ <;> rfl
  ·rfl
 | ext y i =>
  refine triv (f := fun m => evalOp T t m (.ext y i) mk2) (o := (evalOp T t [] (.ext y i) mk2).map (·.1)) (fun m => ?_) h
  simp only [evalOp]
  split
  ·rename_i xs _
   cases xs[i]? <;> rfl
  ·rfl
 | idx y i =>
  refine triv (f := fun m => evalOp T t m (.idx y i) mk2) (o := (evalOp T t [] (.idx y i) mk2).map (·.1)) (fun m => ?_) h
  simp only [evalOp]
  split
  ·rename_i i s _ _
   cases decide (0 ≤ i)
   ·rfl
   ·simp only [tst, cond_true, byteAt_uni]
    cases s.toList[i.toNat]? <;> rfl
  ·rfl
 | mx y z =>
  refine triv (f := fun m => evalOp T t m (.mx y z) mk2) (o := (evalOp T t [] (.mx y z) mk2).map (·.1)) (fun m => ?_) h
  simp only [evalOp]
  split
  ·unfold sameKind
   split <;> rfl
  ·rfl
 | iad wd y z =>
  simp only [evalOp] at h ⊢
  cases hz : intOf (ev t z) with
  | none => simp [hz] at h
  | some i =>
   cases hy : ev t y with
   | r id =>
    simp only [hz, hy] at h ⊢
    cases hn : getNode m id with
    | none => simp [hn] at h
    | some n =>
     simp only [hn] at h
     have hn' : ∀ l, getNode (m ++ l) id = some n := fun l => getNode_app hn
     simp only [hn']
     cases hb : Nat.beq n.wd wd with
     | false => simp [hb] at h
     | true =>
      simp only [hb, cond_true] at h ⊢
      obtain ⟨ht, h⟩ := tst_some h
      simp only [mk2, Option.some.injEq, Prod.mk.injEq] at h
      obtain ⟨rfl, rfl⟩ := h
      exact ⟨rfl, fun l => by rw [ht]; rfl⟩
   | fz wd' rows =>
    simp only [hz, hy] at h ⊢
    cases hb : Nat.beq wd' wd with
    | false => simp [hb] at h
    | true =>
     simp only [hb, cond_true] at h ⊢
     obtain ⟨ht, h⟩ := tst_some h
     obtain ⟨row, hr, h⟩ := look_some h
     simp only [mk2, Option.some.injEq, Prod.mk.injEq] at h
     obtain ⟨rfl, rfl⟩ := h
     exact ⟨rfl, fun l => by rw [ht]; simp only [tst, cond_true, look_uni, hr]; rfl⟩
   | _ => simp [hz, hy] at h
 | len str y =>
  simp only [evalOp] at h ⊢
  cases hn : lenAV str m (ev t y) with
  | none => simp [hn] at h
  | some n =>
   simp only [hn, mk2, Option.some.injEq, Prod.mk.injEq] at h
   obtain ⟨rfl, rfl⟩ := h
   refine ⟨rfl, fun l => ?_⟩
   have : lenAV str (m ++ l) (ev t y) = some n := by
    unfold lenAV at hn ⊢
    split at hn
    ·exact hn
    ·exact hn
    ·exact hn
    ·split at hn
     ·rename_i nd hnd
      rw [getNode_app hnd]
      exact hn
     ·simp at hn
    ·simp at hn
   rw [this]
 | more op =>
  cases op with
  | iaw wd y z =>
   simp only [evalOp, evalMore] at h ⊢
   cases hz : intOf (ev t z) with
   | none => simp [hz] at h
   | some i =>
    cases hy : ev t y with
    | w id lo hi =>
     simp only [hz, hy] at h ⊢
     cases hn : getNode m id with
     | none => simp [hn] at h
     | some n =>
      simp only [hn] at h
      have hn' : ∀ l, getNode (m ++ l) id = some n := fun l => getNode_app hn
      simp only [hn']
      cases hb : Nat.beq n.wd wd with
      | false => simp [hb] at h
      | true =>
       simp only [hb, cond_true] at h ⊢
       obtain ⟨ht, h⟩ := tst_some h
       simp only [mk2, Option.some.injEq, Prod.mk.injEq] at h
       obtain ⟨rfl, rfl⟩ := h
       exact ⟨rfl, fun l => by rw [ht]; rfl⟩
    | _ => simp [hz, hy] at h
  | shr n x =>
   refine triv (f := fun m => evalOp T t m (.more (.shr n x)) mk2) (o := (evalOp T t [] (.more (.shr n x)) mk2).map (·.1)) (fun m => ?_) h
   simp only [evalOp, evalMore]
   split
   ·cases Nat.blt _ _ <;> rfl
   ·rfl
  | nilq wd x =>
   refine triv (f := fun m => evalOp T t m (.more (.nilq wd x)) mk2) (o := (evalOp T t [] (.more (.nilq wd x)) mk2).map (·.1)) (fun m => ?_) h
   simp only [evalOp, evalMore]
   split
   ·cases Nat.beq _ _
    ·rfl
    ·simp only [cond_true]; cases List.isEmpty _ <;> rfl
   ·rfl
  | mn x y =>
   refine triv (f := fun m => evalOp T t m (.more (.mn x y)) mk2) (o := (evalOp T t [] (.more (.mn x y)) mk2).map (·.1)) (fun m => ?_) h
   simp only [evalOp, evalMore]
   split
   ·unfold sameKind; split <;> rfl
   ·rfl
  | nck x =>
   refine triv (f := fun m => evalOp T t m (.more (.nck x)) mk2) (o := (evalOp T t [] (.more (.nck x)) mk2).map (·.1)) (fun m => ?_) h
   simp only [evalOp, evalMore]; split <;> rfl
  | lnh x =>
   refine triv (f := fun m => evalOp T t m (.more (.lnh x)) mk2) (o := (evalOp T t [] (.more (.lnh x)) mk2).map (·.1)) (fun m => ?_) h
   simp only [evalOp, evalMore]; split <;> rfl
  | _ => simp [lightK] at hk
 | cod mk y z =>
  refine triv (f := fun m => evalOp T t m (.cod mk y z) mk2) (o := (evalOp T t [] (.cod mk y z) mk2).map (·.1)) (fun m => ?_) h
  simp only [evalOp]
  split
  ·rename_i b n c i _ _
   simp only [callT_uni, oD_uni, dI_uni]
   cases T 0 [.f mk [], .d (.v (.slice b n c)), .d (.v (.int .i64 i))] with
   | none => rfl
   | some o =>
    simp only [Option.bind_some]
    cases oD' o.res with
    | none => rfl
    | some d =>
     simp only [Option.bind_some]
     cases dI' IntKind.u8 d <;> rfl
  ·rfl
 | call f modes fz res args =>
  unfold lightK at hk
  split at hk
  all_goals first | (simp at hk; done) | skip
  all_goals first | (rename_i e; cases e; done) | skip
  rename_i e
  cases e
  simp only [Bool.and_eq_true] at hk
  simp only [evalOp] at h ⊢
  cases hf : ev t f with
  | f fn caps =>
   simp only [hf] at h ⊢
   exact callOp_ext hk.1 hk.2 (fun js hj l => snapI1s_ext hj) h
  | ff fn caps =>
   simp only [hf] at h ⊢
   exact callOp_ext hk.1 hk.2 (fun js hj l => hj) h
  | _ => simp [hf] at h
 | _ => simp [lightK] at hk
def Agree (D : List Nat) (m m' : Mem) : Prop := m.length ≤ m'.length ∧ ∀ id, id < m.length → memN id D = false → m'[id]? = m[id]?
theorem Agree.refl {D : List Nat} {m : Mem} : Agree D m m := ⟨Nat.le_refl _, fun _ _ _ => rfl⟩
theorem Agree.trans {D : List Nat} {a b c : Mem} (h : Agree D a b) (h' : Agree D b c) : Agree D a c := ⟨Nat.le_trans h.1 h'.1, fun id hi hn => (h'.2 id (Nat.lt_of_lt_of_le hi h.1) hn).trans (h.2 id hi hn)⟩
theorem Agree.app {D : List Nat} {m l : Mem} : Agree D m (m ++ l) := ⟨by simp, fun id hi _ => List.getElem?_append_left hi⟩
theorem Agree.nil {m m' : Mem} (h : Agree [] m m') : ∃ l, m' = m ++ l := by
 refine ⟨m'.drop m.length, ?_⟩
 have : m'.take m.length = m := by
  apply List.ext_getElem?
  intro i
  rcases Nat.lt_or_ge i m.length with hi | hi
  ·rw [List.getElem?_take_of_lt hi]; exact h.2 i hi rfl
  ·rw [List.getElem?_eq_none (by simp; omega), List.getElem?_eq_none hi]
 rw [← this, List.length_take, Nat.min_eq_left h.1]
 exact (List.take_append_drop _ _).symm
theorem Agree.node {D : List Nat} {m m' : Mem} {id : Nat} (h : Agree D m m') (hid : memN id D = false) : ∀ n, getNode m id = some n → getNode m' id = some n := fun n hn => by
 unfold getNode at *
 have : id < m.length := by
  rcases Nat.lt_or_ge id m.length with h' | h'
  ·exact h'
  ·rw [List.getElem?_eq_none h'] at hn; simp at hn
 rw [h.2 id this hid]
 exact hn
theorem free_any {op : AOp} {m m' : Mem} {x : AV} (hk : freeM op = true) (h : EO T t m op = some (x, m')) : ∀ m2, EO T t m2 op = some (x, m2) := by
 unfold EO at *
 have triv : ∀ {f : Mem → Option (AV × Mem)} {o : Option AV}, (∀ m, f m = o.map fun y => (y, m)) → f m = some (x, m') → ∀ m2, f m2 = some (x, m2) := by
  intro f o hf h m2
  rw [hf] at h
  cases o with
  | none => simp at h
  | some y =>
   simp only [Option.map_some, Option.some.injEq, Prod.mk.injEq] at h
   obtain ⟨rfl, rfl⟩ := h
   rw [hf]; rfl
 cases op with
 | mv y => exact triv (f := fun m => evalOp T t m (.mv y) mk2) (o := some (ev t y)) (fun m => rfl) h
 | bin op y z =>
  refine triv (f := fun m => evalOp T t m (.bin op y z) mk2) (o := (evalOp T t [] (.bin op y z) mk2).map (·.1)) (fun m => ?_) h
  simp only [evalOp]
  split
  ·rw [binV_uni, binV_uni (K := fun z => mk2 (AV.v z) [])]
   rename_i a b _ _
   cases binV op a b some <;> rfl
  ·rfl
 | un op y =>
  refine triv (f := fun m => evalOp T t m (.un op y) mk2) (o := (evalOp T t [] (.un op y) mk2).map (·.1)) (fun m => ?_) h
  simp only [evalOp]
  split
  ·rw [unV_uni, unV_uni (K := fun z => mk2 (AV.v z) [])]
   rename_i a _
   cases unV op a some <;> rfl
  ·rfl
 | fad off y =>
  refine triv (f := fun m => evalOp T t m (.fad off y) mk2) (o := (evalOp T t [] (.fad off y) mk2).map (·.1)) (fun m => ?_) h
  simp only [evalOp]
  split <;> rfl
 | ext y i =>
  refine triv (f := fun m => evalOp T t m (.ext y i) mk2) (o := (evalOp T t [] (.ext y i) mk2).map (·.1)) (fun m => ?_) h
  simp only [evalOp]
  split
  ·rename_i xs _
   cases xs[i]? <;> rfl
  ·rfl
 | mx y z =>
  refine triv (f := fun m => evalOp T t m (.mx y z) mk2) (o := (evalOp T t [] (.mx y z) mk2).map (·.1)) (fun m => ?_) h
  simp only [evalOp]
  split
  ·unfold sameKind
   split <;> rfl
  ·rfl
 | _ => simp [freeM] at hk
theorem light_any {D : List Nat} {m m' : Mem} {op : AOp} {x : AV} (hk : lightK op = true) (hd : lightD D t op = true) (h : EO T t m op = some (x, m')) (hl : m'.length = m.length) : ∀ m2, Agree D m m2 → EO T t m2 op = some (x, m2) := by
 intro m2 ha
 cases D with
 | nil =>
  obtain ⟨l, rfl⟩ := ha.nil
  obtain ⟨_, h4⟩ := light_ext hk h hl
  exact h4 l
 | cons d D =>
  simp only [lightD, Bool.or_eq_true] at hd
  rcases hd with hd | hd
  ·exact free_any hd h m2
  ·split at hd
   ·rename_i agg ks y
    split at hd
    ·rename_i id i c hy
     simp only [Bool.not_eq_true'] at hd
     unfold EO at *
     simp only [evalOp, hy] at h ⊢
     rw [ldOs_uni] at h
     obtain ⟨⟨ys, m1⟩, h1, h⟩ := Option.bind_eq_some_iff.1 h
     simp only [pr] at h
     cases hag : mkAgg agg ys with
     | none => simp [hag, ret1] at h
     | some z =>
      simp only [hag, ret1, mk2, Option.some.injEq, Prod.mk.injEq] at h
      obtain ⟨rfl, rfl⟩ := h
      obtain ⟨_, h2⟩ := (ldOs_len h1).2 hl
      rw [ldOs_uni, h2 m2 (ha.node hd)]
      simp only [Option.bind_some, pr, hag, ret1, mk2]
    ·rename_i row c hy
     unfold EO at *
     simp only [evalOp, hy] at h ⊢
     rw [ldFs_uni] at h ⊢
     obtain ⟨ys, h1, h⟩ := Option.bind_eq_some_iff.1 h
     rw [h1]
     cases hag : mkAgg agg ys with
     | none => simp [hag, ret1] at h
     | some z =>
      simp only [hag, ret1, mk2, Option.some.injEq, Prod.mk.injEq] at h
      obtain ⟨rfl, rfl⟩ := h
      simp only [Option.bind_some, hag, ret1, mk2]
    ·simp at hd
   ·rename_i wd y z
    split at hd
    ·rename_i id hy
     simp only [Bool.not_eq_true'] at hd
     unfold EO at *
     simp only [evalOp] at h ⊢
     cases hz : intOf (ev t z) with
     | none => simp [hz] at h
     | some i =>
      simp only [hz, hy] at h ⊢
      cases hn : getNode m id with
      | none => simp [hn] at h
      | some n =>
       simp only [hn] at h
       simp only [ha.node hd n hn]
       cases hb : Nat.beq n.wd wd with
       | false => simp [hb] at h
       | true =>
        simp only [hb, cond_true] at h ⊢
        obtain ⟨ht, h⟩ := tst_some h
        simp only [mk2, Option.some.injEq, Prod.mk.injEq] at h
        obtain ⟨rfl, rfl⟩ := h
        rw [ht]; rfl
    ·rename_i wd' rows hy
     unfold EO at *
     simp only [evalOp] at h ⊢
     cases hz : intOf (ev t z) with
     | none => simp [hz] at h
     | some i =>
      simp only [hz, hy] at h ⊢
      cases hb : Nat.beq wd' wd with
      | false => simp [hb] at h
      | true =>
       simp only [hb, cond_true] at h ⊢
       obtain ⟨ht, h⟩ := tst_some h
       rw [ht]
       cases hr : rows[i.toNat]? with
       | none => simp [look, hr] at h
       | some row =>
        simp only [look, hr, mk2, Option.some.injEq, Prod.mk.injEq] at h
        obtain ⟨rfl, rfl⟩ := h
        simp only [tst, look, hr, mk2, cond_true]
    ·simp at hd
   ·simp at hd
theorem newD_no {n : Nat} : ∀ {D : List Nat}, newD n D = true → ∀ i, i < n → memN i D = false
 | [], _, _, _ => rfl
 | d :: D, h, i, hi => by
  simp only [newD, Bool.and_eq_true] at h
  have h1 := Nat.le_of_ble_eq_true h.1
  simp only [memN, newD_no h.2 i hi, Bool.or_false]
  cases hb : Nat.beq d i with
  | false => rfl
  | true => have := Nat.eq_of_beq_eq_true hb; omega
theorem light_all {D : List Nat} {m m' : Mem} {op : AOp} {x : AV} (hk : lightK op = true) (hd : (lightD D t op || newD m.length D) = true) (h : EO T t m op = some (x, m')) (hl : m'.length = m.length) : ∀ m2, Agree D m m2 → EO T t m2 op = some (x, m2) := by
 cases hb : lightD D t op with
 | true => exact light_any hk hb h hl
 | false =>
  rw [hb, Bool.false_or] at hd
  intro m2 ha
  obtain ⟨l, rfl⟩ := Agree.nil (m := m) (m' := m2) ⟨ha.1, fun id hi _ => ha.2 id hi (newD_no hd id hi)⟩
  obtain ⟨_, h4⟩ := light_ext hk h hl
  exact h4 l
end
end Go.Am
/- AM: heavy operations leave what is there and add to it. Nothing is assumed. -/
namespace Go.Am
theorem outCell_app {k : Kd} {d : D} {m m' : Mem} {x : AV} (h : outCell false k d m mk2 = some (x, m')) : ∃ l, m' = m ++ l := by
 cases k with
 | i k =>
  simp only [outCell, dI_uni] at h
  obtain ⟨n, _, h⟩ := Option.bind_eq_some_iff.1 h
  simp only [mk2, Option.some.injEq, Prod.mk.injEq] at h
  exact ⟨[], by simp [h.2]⟩
 | b =>
  simp only [outCell, dB_uni] at h
  obtain ⟨n, _, h⟩ := Option.bind_eq_some_iff.1 h
  simp only [mk2, Option.some.injEq, Prod.mk.injEq] at h
  exact ⟨[], by simp [h.2]⟩
 | s =>
  simp only [outCell, dS_uni] at h
  obtain ⟨n, _, h⟩ := Option.bind_eq_some_iff.1 h
  simp only [mk2, Option.some.injEq, Prod.mk.injEq] at h
  exact ⟨[], by simp [h.2]⟩
 | h =>
  simp only [outCell, dH_uni] at h
  obtain ⟨n, _, h⟩ := Option.bind_eq_some_iff.1 h
  simp only [mk2, Option.some.injEq, Prod.mk.injEq] at h
  exact ⟨[], by simp [h.2]⟩
 | sl wd =>
  simp only [outCell, dL_uni] at h
  obtain ⟨n, _, h⟩ := Option.bind_eq_some_iff.1 h
  simp only [mk2, Option.some.injEq, Prod.mk.injEq] at h
  exact ⟨_, h.2.symm⟩
theorem outCells_app {ks : List Kd} : ∀ {row : Row} {c : Nat} {m m' : Mem} {xs : List AV}, outCells false ks row c m mk2 = some (xs, m') → ∃ l, m' = m ++ l := by
 induction ks with
 | nil =>
  intro row c m m' xs h
  simp only [outCells, mk2, Option.some.injEq, Prod.mk.injEq] at h
  exact ⟨[], by simp [h.2]⟩
 | cons k ks ih =>
  intro row c m m' xs h
  simp only [outCells, cell_uni] at h
  obtain ⟨d, _, h⟩ := Option.bind_eq_some_iff.1 h
  rw [outCell_uni] at h
  obtain ⟨⟨x, m1⟩, h1, h⟩ := Option.bind_eq_some_iff.1 h
  simp only [pr] at h
  rw [outCells_uni] at h
  obtain ⟨⟨ys, m2⟩, h2, h⟩ := Option.bind_eq_some_iff.1 h
  simp only [pr, mk2, Option.some.injEq, Prod.mk.injEq] at h
  obtain ⟨l1, rfl⟩ := outCell_app h1
  obtain ⟨l2, rfl⟩ := ih h2
  exact ⟨l1 ++ l2, by rw [← h.2, List.append_assoc]⟩
theorem outOne_app {k : RK} {i : I} {m m' : Mem} {x : AV} (h : outOne false k i m mk2 = some (x, m')) : ∃ l, m' = m ++ l := by
 cases k with
 | c k =>
  simp only [outOne, oD_uni] at h
  obtain ⟨d, _, h⟩ := Option.bind_eq_some_iff.1 h
  exact outCell_app h
 | g ks =>
  simp only [outOne, oG_uni] at h
  obtain ⟨row, _, h⟩ := Option.bind_eq_some_iff.1 h
  obtain ⟨_, h⟩ := tst_some h
  rw [outCells_uni] at h
  obtain ⟨⟨ys, m2⟩, h2, h⟩ := Option.bind_eq_some_iff.1 h
  simp only [pr, mk2, Option.some.injEq, Prod.mk.injEq] at h
  obtain ⟨l, rfl⟩ := outCells_app h2
  exact ⟨l, h.2.symm⟩
 | p ks =>
  simp only [outOne, oP_uni] at h
  obtain ⟨row, _, h⟩ := Option.bind_eq_some_iff.1 h
  obtain ⟨_, h⟩ := tst_some h
  rw [kdCells_uni] at h
  obtain ⟨q, _, h⟩ := Option.bind_eq_some_iff.1 h
  simp only [mk2, Option.some.injEq, Prod.mk.injEq] at h
  exact ⟨_, h.2.symm⟩
theorem outMany_app {ks : List RK} : ∀ {is : List I} {j : Nat} {m m' : Mem} {xs : List AV}, outMany false ks is j m mk2 = some (xs, m') → ∃ l, m' = m ++ l := by
 induction ks with
 | nil =>
  intro is j m m' xs h
  simp only [outMany, mk2, Option.some.injEq, Prod.mk.injEq] at h
  exact ⟨[], by simp [h.2]⟩
 | cons k ks ih =>
  intro is j m m' xs h
  simp only [outMany, nth_uni] at h
  obtain ⟨d, _, h⟩ := Option.bind_eq_some_iff.1 h
  rw [outOne_uni] at h
  obtain ⟨⟨x, m1⟩, h1, h⟩ := Option.bind_eq_some_iff.1 h
  simp only [pr] at h
  rw [outMany_uni] at h
  obtain ⟨⟨ys, m2⟩, h2, h⟩ := Option.bind_eq_some_iff.1 h
  simp only [pr, mk2, Option.some.injEq, Prod.mk.injEq] at h
  obtain ⟨l1, rfl⟩ := outOne_app h1
  obtain ⟨l2, rfl⟩ := ih h2
  exact ⟨l1 ++ l2, by rw [← h.2, List.append_assoc]⟩
theorem outAll_app {ks : List RK} {i : I} {m m' : Mem} {x : AV} (h : outAll false ks i m mk2 = some (x, m')) : ∃ l, m' = m ++ l := by
 unfold outAll at h
 split at h
 ·exact outOne_app h
 ·simp only [oT_uni] at h
  obtain ⟨is, _, h⟩ := Option.bind_eq_some_iff.1 h
  obtain ⟨_, h⟩ := tst_some h
  rw [outMany_uni] at h
  obtain ⟨⟨ys, m2⟩, h2, h⟩ := Option.bind_eq_some_iff.1 h
  simp only [pr, mk2, Option.some.injEq, Prod.mk.injEq] at h
  obtain ⟨l, rfl⟩ := outMany_app h2
  exact ⟨l, h.2.symm⟩
def allRd (modes : List Mode) : Bool := modes.all fun md => match md with | .rd => true | _ => false
theorem passRd {ms : List Mode} : ∀ {m m' : Mem} {xs : List AV} {is : List I}, allRd ms = true → passArgs m ms xs = some (is, m') → m' = m := by
 induction ms with
 | nil =>
  intro m m' xs is _ h
  cases xs with
  | nil => simp only [passArgs, Option.some.injEq, Prod.mk.injEq] at h; exact h.2.symm
  | cons => simp [passArgs] at h
 | cons md ms ih =>
  intro m m' xs is hr h
  simp only [allRd, List.all_cons, Bool.and_eq_true] at hr
  cases md with
  | rd =>
   cases xs with
   | nil => simp [passArgs] at h
   | cons x xs =>
    simp only [passArgs] at h
    split at h
    ·rename_i is1 m1 h1
     split at h
     ·simp only [Option.some.injEq, Prod.mk.injEq] at h
      rw [← h.2]
      exact ih hr.2 h1
     ·simp at h
    ·simp at h
  | own => simp at hr
  | lent => simp at hr
theorem backRd {R : Type} {m0 m : Mem} {ms : List Mode} : ∀ {xs : List AV} {is : List I} {j : Nat} {K : Mem → Option R}, allRd ms = true → backArgs m0 m ms xs is j K = K m := by
 induction ms with
 | nil => intro xs is j K _; simp only [backArgs]
 | cons md ms ih =>
  intro xs is j K hr
  simp only [allRd, List.all_cons, Bool.and_eq_true] at hr
  cases md with
  | rd => cases xs with
   | nil => simp only [backArgs]
   | cons => simp only [backArgs]; exact ih hr.2
  | own => simp at hr
  | lent => simp at hr
theorem callOp_app {T : Table} {m m' : Mem} {modes : List Mode} {res : List RK} {fn : Nat} {xs : List AV} {more : Mem → Option (List I)} {x : AV} (hr : allRd modes = true) (h : callOp T m modes false res fn xs more mk2 = some (x, m')) : ∃ l, m' = m ++ l := by
 unfold callOp at h
 split at h
 ·rename_i is m1 hp
  have := passRd hr hp
  subst this
  split at h
  ·simp at h
  ·rw [callT_uni] at h
   obtain ⟨o, _, h⟩ := Option.bind_eq_some_iff.1 h
   rw [backRd hr] at h
   exact outAll_app h
 ·simp at h
theorem heavy_app {T : Table} {D : List Nat} {t : Tmps} {m m' : Mem} {op : AOp} {x : AV} (hk : hOk0 D t m op = true) (hnl : ∀ f modes fz res xs, op = .call f modes fz res xs → lentB D m modes (evs t xs) = false) (hf : ∀ f modes fz res xs, op = .call f modes fz res xs → fz = false) (h : EO T t m op = some (x, m')) : ∃ l, m' = m ++ l := by
 unfold EO at h
 cases op with
 | box y =>
  simp only [evalOp] at h
  split at h
  ·rename_i cs _
   cases hb : boxable cs with
   | false => simp [hb] at h
   | true =>
    simp only [hb, cond_true, mk2, Option.some.injEq, Prod.mk.injEq] at h
    exact ⟨_, h.2.symm⟩
  ·simp at h
 | lit wd rows ps =>
  simp only [evalOp] at h
  split at h
  ·simp only [mk2, Option.some.injEq, Prod.mk.injEq] at h
   exact ⟨[], by simp [h.2]⟩
  ·split at h
   ·simp only [mk2, Option.some.injEq, Prod.mk.injEq] at h
    exact ⟨_, h.2.symm⟩
   ·simp at h
 | mk zero bytes n c =>
  simp only [evalOp] at h
  split at h
  ·obtain ⟨_, h⟩ := tst_some h
   simp only [mk2, Option.some.injEq, Prod.mk.injEq] at h
   exact ⟨_, h.2.symm⟩
  ·simp at h
 | app wd bytes y z =>
  simp only [hOk0] at hk
  split at hk
  ·rename_i wd1 wd2 rows2 hy hz
   simp only [evalOp, hy, hz, rowsOf] at h
   cases hb : (true && Nat.beq wd2 wd) with
   | false => simp [hb] at h
   | true =>
    simp only [hb, cond_true] at h
    obtain ⟨_, h⟩ := tst_some h
    obtain ⟨_, h⟩ := tst_some h
    simp only [mk2, Option.some.injEq, Prod.mk.injEq] at h
    exact ⟨_, h.2.symm⟩
  ·rename_i hy hz
   simp only [evalOp, hy, hz, rowsOf] at h
   obtain ⟨_, h⟩ := tst_some h
   simp only [mk2, Option.some.injEq, Prod.mk.injEq] at h
   exact ⟨_, h.2.symm⟩
  ·simp at hk
 | call f modes fz res xs =>
  have := hf _ _ _ _ _ rfl
  subst this
  have hr : allRd modes = true := by
   simp only [hOk0, hnl _ _ _ _ _ rfl, Bool.or_false] at hk
   exact hk
  simp only [evalOp] at h
  split at h
  ·exact callOp_app hr h
  ·exact callOp_app hr h
  ·simp at h
 | conv k y =>
  simp only [evalOp] at h
  split at h
  ·simp only [mk2, Option.some.injEq, Prod.mk.injEq] at h; exact ⟨[], by simp [h.2]⟩
  ·simp only [mk2, Option.some.injEq, Prod.mk.injEq] at h; exact ⟨[], by simp [h.2]⟩
  ·simp only [mk2, Option.some.injEq, Prod.mk.injEq] at h; exact ⟨[], by simp [h.2]⟩
  ·simp only [mk2, Option.some.injEq, Prod.mk.injEq] at h; exact ⟨_, h.2.symm⟩
  ·obtain ⟨_, h⟩ := tst_some h
   simp only [mk2, Option.some.injEq, Prod.mk.injEq] at h; exact ⟨[], by simp [h.2]⟩
  ·simp only [mk2, Option.some.injEq, Prod.mk.injEq] at h; exact ⟨[], by simp [h.2]⟩
  ·split at h
   ·obtain ⟨_, h⟩ := tst_some h
    simp only [mk2, Option.some.injEq, Prod.mk.injEq] at h; exact ⟨[], by simp [h.2]⟩
   ·simp at h
  ·simp at h
 | _ => simp [hOk0] at hk
theorem takeVar_agree {D : List Nat} {m m1 : Mem} {id : Nat} {row : Row} (hd : memN id D = true) (he : emptyAt m id = true) (h : takeVar m id = some (row, m1)) : m1.length = m.length ∧ Agree D m m1 := by
 unfold takeVar at h
 split at h
 ·rename_i q mm ht
  simp only [Option.some.injEq, Prod.mk.injEq] at h
  obtain ⟨rfl, rfl⟩ := h
  unfold takeId at ht
  cases hm : m.length with
  | zero => rw [hm] at ht; simp [closeId] at ht
  | succ k =>
   rw [hm] at ht
   simp only [closeId] at ht
   unfold emptyAt at he
   cases hn : getNode m id with
   | none => simp [hn] at he
   | some n =>
    simp only [hn] at he ht
    have ho : n.opens = [] := by simpa using he
    simp only [ho, closeOpens, Option.some.injEq, Prod.mk.injEq] at ht
    obtain ⟨_, rfl⟩ := ht
    refine ⟨by simp [hm], by simp, fun j hj hjd => ?_⟩
    have : id ≠ j := by rintro rfl; rw [hd] at hjd; cases hjd
    simp [List.getElem?_set, this]
 ·simp at h
theorem memN_ne {D : List Nat} {i j : Nat} (hi : memN i D = true) (hj : memN j D = false) : i ≠ j := by rintro rfl; rw [hi] at hj; cases hj
theorem likeRow_q {R : Type} {r : R} {m0 : Mem} {n : Node} {row : Row} {r0 : Row} : ∀ {c : Nat} {K : Row → Option R}, likeRow m0 n row r0 c K = some r → ∃ q, K q = some r := by
 induction r0 with
 | nil => intro c K h; exact ⟨[], h⟩
 | cons d r0 ih =>
  intro c K h
  simp only [likeRow, cell_uni] at h
  obtain ⟨x, _, h⟩ := Option.bind_eq_some_iff.1 h
  unfold likeCell at h
  split at h
  ·split at h
   ·simp only [dL_uni] at h
    obtain ⟨_, _, h⟩ := Option.bind_eq_some_iff.1 h
    obtain ⟨q, hq⟩ := ih h
    exact ⟨_, hq⟩
   ·simp at h
  ·simp at h
  ·split at h
   ·simp only [dI_uni] at h
    obtain ⟨_, _, h⟩ := Option.bind_eq_some_iff.1 h
    obtain ⟨q, hq⟩ := ih h
    exact ⟨_, hq⟩
   ·simp only [dB_uni] at h
    obtain ⟨_, _, h⟩ := Option.bind_eq_some_iff.1 h
    obtain ⟨q, hq⟩ := ih h
    exact ⟨_, hq⟩
   ·simp only [dS_uni] at h
    obtain ⟨_, _, h⟩ := Option.bind_eq_some_iff.1 h
    obtain ⟨q, hq⟩ := ih h
    exact ⟨_, hq⟩
   ·simp only [dL_uni] at h
    obtain ⟨_, _, h⟩ := Option.bind_eq_some_iff.1 h
    obtain ⟨q, hq⟩ := ih h
    exact ⟨_, hq⟩
   ·simp only [dH_uni] at h
    obtain ⟨_, _, h⟩ := Option.bind_eq_some_iff.1 h
    obtain ⟨q, hq⟩ := ih h
    exact ⟨_, hq⟩
   ·simp at h
theorem backI_agree {R : Type} {r : R} {D : List Nat} {m0 m : Mem} {id : Nat} {i : I} {K : Mem → Option R} (hd : memN id D = true) (h : backI m0 m (.a id 0 0) i K = some r) : ∃ m2, K m2 = some r ∧ m2.length = m.length ∧ Agree D m m2 := by
 simp only [backI] at h
 split at h
 ·split at h
  ·cases i with
   | p row =>
    simp only [oP] at h
    obtain ⟨_, h⟩ := tst_some h
    obtain ⟨q, hq⟩ := likeRow_q h
    refine ⟨_, hq, by simp, by simp, fun j hj hjd => ?_⟩
    have := memN_ne hd hjd
    simp [List.getElem?_set, this]
   | _ => simp [oP] at h
  ·simp at h
 ·simp at h
theorem lent_agree {T : Table} {D : List Nat} {m m' : Mem} {modes : List Mode} {res : List RK} {fn : Nat} {xs : List AV} {more : Mem → Option (List I)} {x : AV} (hk : lentB D m modes xs = true)
  (h : callOp T m modes false res fn xs more mk2 = some (x, m')) : Agree D m m' := by
 unfold lentB at hk
 split at hk
 ·rename_i ms id ys
  simp only [Bool.and_eq_true] at hk
  obtain ⟨hd, he, hr⟩ := hk
  unfold callOp at h
  split at h
  ·rename_i is m1 hp
   split at h
   ·simp at h
   ·rename_i js hm
    simp only [passArgs] at hp
    cases ht : takeI m (.a id 0 0) with
    | none => simp [ht] at hp
    | some p =>
     obtain ⟨i, mm⟩ := p
     simp only [ht] at hp
     have ht' : ∃ row, takeVar m id = some (row, mm) := by
      simp only [takeI] at ht
      split at ht
      ·rename_i row m9 hv
       simp only [Option.some.injEq, Prod.mk.injEq] at ht
       exact ⟨row, by rw [hv, ht.2]⟩
      ·simp at ht
     obtain ⟨row, hv⟩ := ht'
     obtain ⟨a1, a2⟩ := takeVar_agree hd he hv
     cases hp2 : passArgs mm ms ys with
     | none => simp [hp2] at hp
     | some p2 =>
      obtain ⟨is2, m2⟩ := p2
      simp only [hp2, Option.some.injEq, Prod.mk.injEq] at hp
      obtain ⟨rfl, rfl⟩ := hp
      obtain ⟨rfl, _⟩ := passArgs_ext hr hp2
      simp only [callT_uni] at h
      obtain ⟨o, _, h⟩ := Option.bind_eq_some_iff.1 h
      simp only [backArgs] at h
      unfold nth at h
      split at h
      ·obtain ⟨m3, h3, b1, b2⟩ := backI_agree hd h
       rw [backArgs_rd hr] at h3
       obtain ⟨l, rfl⟩ := outAll_app h3
       exact (a2.trans b2).trans Agree.app
      ·simp at h
  ·simp at h
 ·simp at hk
theorem ldO_agree {D : List Nat} {k : Kd} {m m' : Mem} {id i c : Nat} {x : AV} (hd : memN id D = true) (h : ldO k m id i c mk2 = some (x, m')) : Agree D m m' := by
 unfold ldO at h
 split at h
 ·simp at h
 ·rename_i n hn
  split at h
  ·simp only [mk2, Option.some.injEq, Prod.mk.injEq] at h
   obtain ⟨rfl, rfl⟩ := h
   exact Agree.refl
  ·simp only [look_uni, cell_uni] at h
   obtain ⟨row, h1, h⟩ := Option.bind_eq_some_iff.1 h
   obtain ⟨d, h2, h⟩ := Option.bind_eq_some_iff.1 h
   cases k with
   | sl wd =>
    simp only [dL_uni] at h
    obtain ⟨rows, _, h⟩ := Option.bind_eq_some_iff.1 h
    simp only [mk2, Option.some.injEq, Prod.mk.injEq] at h
    obtain ⟨rfl, rfl⟩ := h
    refine ⟨by simp, fun j hj hjd => ?_⟩
    have := memN_ne hd hjd
    rw [List.getElem?_append_left (by simpa using hj)]
    simp [this]
   | i k =>
    simp only [dI_uni] at h
    obtain ⟨n', h3, h⟩ := Option.bind_eq_some_iff.1 h
    simp only [mk2, Option.some.injEq, Prod.mk.injEq] at h
    obtain ⟨rfl, rfl⟩ := h
    exact Agree.refl
   | b =>
    simp only [dB_uni] at h
    obtain ⟨n', h3, h⟩ := Option.bind_eq_some_iff.1 h
    simp only [mk2, Option.some.injEq, Prod.mk.injEq] at h
    obtain ⟨rfl, rfl⟩ := h
    exact Agree.refl
   | s =>
    simp only [dS_uni] at h
    obtain ⟨n', h3, h⟩ := Option.bind_eq_some_iff.1 h
    simp only [mk2, Option.some.injEq, Prod.mk.injEq] at h
    obtain ⟨rfl, rfl⟩ := h
    exact Agree.refl
   | h =>
    simp only [dH_uni] at h
    obtain ⟨n', h3, h⟩ := Option.bind_eq_some_iff.1 h
    simp only [mk2, Option.some.injEq, Prod.mk.injEq] at h
    obtain ⟨rfl, rfl⟩ := h
    exact Agree.refl
theorem ldOs_agree {D : List Nat} {id i : Nat} (hd : memN id D = true) : ∀ {ks : List Kd} {m m' : Mem} {c : Nat} {xs : List AV}, ldOs ks m id i c mk2 = some (xs, m') → Agree D m m'
 | [], m, m', c, xs, h => by
  simp only [ldOs, mk2, Option.some.injEq, Prod.mk.injEq] at h
  obtain ⟨rfl, rfl⟩ := h
  exact Agree.refl
 | k :: ks, m, m', c, xs, h => by
  simp only [ldOs] at h
  rw [ldO_uni] at h
  obtain ⟨⟨x, m1⟩, h1, h⟩ := Option.bind_eq_some_iff.1 h
  simp only [pr] at h
  rw [ldOs_uni] at h
  obtain ⟨⟨ys, m2⟩, h2, h⟩ := Option.bind_eq_some_iff.1 h
  simp only [pr, mk2, Option.some.injEq, Prod.mk.injEq] at h
  obtain ⟨rfl, rfl⟩ := h
  exact (ldO_agree hd h1).trans (ldOs_agree hd h2)
theorem hMem_agree {T : Table} {D : List Nat} {t : Tmps} {m m' : Mem} {op : AOp} {x : AV} (hk : hMem D t op = true) (h : EO T t m op = some (x, m')) : Agree D m m' := by
 unfold EO at h
 cases op with
 | load agg ks y =>
  simp only [hMem] at hk
  split at hk
  ·rename_i id i c hy
   simp only [evalOp, hy] at h
   rw [ldOs_uni] at h
   obtain ⟨⟨ys, m2⟩, h2, h⟩ := Option.bind_eq_some_iff.1 h
   simp only [pr] at h
   cases hag : mkAgg agg ys with
   | none => simp [hag, ret1] at h
   | some z =>
    simp only [hag, ret1, mk2, Option.some.injEq, Prod.mk.injEq] at h
    obtain ⟨rfl, rfl⟩ := h
    exact ldOs_agree hk h2
  ·simp at hk
 | store k y z =>
  simp only [hMem] at hk
  split at hk
  ·rename_i id i c hy
   simp only [evalOp, hy] at h
   split at h
   ·rename_i id' i' c' cs he hcs
    cases he
    cases hb : Nat.beq cs.length k with
    | false => simp [hb] at h
    | true =>
     simp only [hb, cond_true] at h
     split at h
     ·split at h
      ·simp only [mk2, Option.some.injEq, Prod.mk.injEq] at h
       obtain ⟨rfl, rfl⟩ := h
       refine ⟨by simp, fun j hj hjd => ?_⟩
       have := memN_ne hk hjd
       simp [this]
      ·simp at h
     ·simp at h
   ·simp at h
  ·simp at hk
 | iad wd y z =>
  simp only [hMem] at hk
  split at hk
  ·rename_i id hy
   simp only [evalOp, hy] at h
   split at h
   ·rename_i i id' hz he
    cases he
    split at h
    ·rename_i n hn
     cases hb : Nat.beq n.wd wd with
     | false => simp [hb] at h
     | true =>
      simp only [hb, cond_true] at h
      obtain ⟨_, h⟩ := tst_some h
      simp only [mk2, Option.some.injEq, Prod.mk.injEq] at h
      obtain ⟨rfl, rfl⟩ := h
      exact Agree.refl
    ·simp at h
   ·rename_i he; cases he
   ·simp at h
  ·simp at hk
 | _ => simp [hMem] at hk
theorem heavy_ext {T : Table} {D : List Nat} {t : Tmps} {m m' : Mem} {op : AOp} {x : AV} (hk : hOk D t m op = true) (hf : ∀ f modes fz res xs, op = .call f modes fz res xs → fz = false) (h : EO T t m op = some (x, m')) : Agree D m m' := by
 unfold hOk at hk
 cases hm : hMem D t op with
 | true => exact hMem_agree hm h
 | false =>
 rw [hm, Bool.or_false] at hk
 by_cases hl : ∃ f modes fz res xs, op = .call f modes fz res xs ∧ lentB D m modes (evs t xs) = true
 ·obtain ⟨f, modes, fz, res, xs, rfl, hb⟩ := hl
  have := hf _ _ _ _ _ rfl
  subst this
  unfold EO at h
  simp only [evalOp] at h
  split at h
  ·exact lent_agree hb h
  ·exact lent_agree hb h
  ·simp at h
 ·obtain ⟨l, rfl⟩ := heavy_app hk (fun f modes fz res xs e => by
   cases hb : lentB D m modes (evs t xs) with
   | false => rfl
   | true => exact absurd ⟨f, modes, fz, res, xs, e, hb⟩ hl) hf h
  exact Agree.app
end Go.Am
/- AM: temporaries put at rest and woken. Nothing is assumed. -/
namespace Go.Am
inductive Rst1 (X : Nat → Prop) (w : World) (Z : Nat → Prop) : AV → Value → List Nat → Prop
 | c {x : AV} {v : Value} {c : List Nat} (h : CRel w Z [] x v c) : Rst1 X w Z x v c
 | b {xs : List AV} {b off : Nat} {vs : List Value} {c : List Nat} (hh : Holds w b off vs) (hf : Free w b off xs.length) (h : CRelL w Z [] xs vs c) : Rst1 X w Z (.b xs) (.pointer (some ⟨b, off, none⟩)) (b :: c)
 | p {x : AV} {v : Value} (h : ARel X w Z [] x v) : Rst1 X w Z x v []
 | vw {id lo hi : Nat} {v : Value} : Rst1 X w Z (.w id lo hi) v []
inductive Rst1L (X : Nat → Prop) (w : World) (Z : Nat → Prop) : List AV → List Value → List Nat → Prop
 | nil : Rst1L X w Z [] [] []
 | cons {x : AV} {xs : List AV} {v : Value} {vs : List Value} {c c' : List Nat} (h : Rst1 X w Z x v c) (h' : Rst1L X w Z xs vs c') : Rst1L X w Z (x :: xs) (v :: vs) (c ++ c')
inductive Rst (X : Nat → Prop) (w : World) (Z : Nat → Prop) : AV → Value → List Nat → Prop
 | o {x : AV} {v : Value} {c : List Nat} (h : Rst1 X w Z x v c) : Rst X w Z x v c
 | g {xs : List AV} {vs : Array Value} {c : List Nat} (h : Rst1L X w Z xs vs.toList c) : Rst X w Z (.g xs) (.agg vs) c
inductive RstL (X : Nat → Prop) (w : World) (Z : Nat → Prop) : List AV → List Value → List Nat → Prop
 | nil : RstL X w Z [] [] []
 | cons {x : AV} {xs : List AV} {v : Value} {vs : List Value} {c c' : List Nat} (h : Rst X w Z x v c) (h' : RstL X w Z xs vs c') : RstL X w Z (x :: xs) (v :: vs) (c ++ c')
section
variable {X : Nat → Prop} {w : World} {Z : Nat → Prop} {hs : List Hd}
theorem ext_nil (hs : List Hd) : ∀ (id : Nat) (h : Hd), ([] : List Hd)[id]? = some h → hs[id]? = some h := fun id h hh => by simp at hh
theorem ARel.base {x : AV} {v : Value} (h : ARel X w Z [] x v) : ARel X w Z hs x v := h.frame (fun _ h => h) (fun _ _ => rfl) (ext_nil hs)
theorem CRelL.base {x : List AV} {v : List Value} {c : List Nat} (h : CRelL w Z [] x v c) : CRelL w Z hs x v c := h.frame (fun _ h => h) (fun _ _ => rfl) (fun _ _ => rfl) (ext_nil hs)
theorem restRow_ok {opens : Opens} (row : Row) : ∀ {m m' : Mem} {k : Nat} {xs : List AV} {vs : List Value} {c cv : List Nat}, restRow m opens k row = some (xs, m') → MemL w Z hs hs m c → CRelL w Z hs (viewRow opens 0 k row) vs cv →
  ∃ c' cd, CRelL w Z [] xs vs cd ∧ MemL w Z hs hs m' c' ∧ ∀ b, (c' ++ cd).count b = (c ++ cv).count b := by
 induction row with
 | nil =>
  intro m m' k xs vs c cv h hm hv
  simp only [restRow, Option.some.injEq, Prod.mk.injEq] at h
  obtain ⟨rfl, rfl⟩ := h
  cases hv
  exact ⟨c, [], .nil, hm, fun b => rfl⟩
 | cons d ds ih =>
  intro m m' k xs vs c cv h hm hv
  simp only [restRow] at h
  split at h
  ·rename_i x m1 h1
   split at h
   ·rename_i xs' m2 h2
    simp only [Option.some.injEq, Prod.mk.injEq] at h
    obtain ⟨rfl, rfl⟩ := h
    simp only [viewRow] at hv
    cases hv with
    | @cons _ _ v vs cc cr hv hv' =>
     have key : ∃ c1 cd, CRel w Z [] x v cd ∧ MemL w Z hs hs m1 c1 ∧ ∀ b, (c1 ++ cd).count b = (c ++ cc).count b := by
      unfold restCell at h1
      generalize findO 0 k opens = o at h1 hv
      split at h1
      ·simp only [Option.some.injEq, Prod.mk.injEq] at h1
       obtain ⟨rfl, rfl⟩ := h1
       simp only [Option.getD_none] at hv
       exact ⟨c, cc, CRel.of_own hv.own, hm, fun b => rfl⟩
      ·rename_i id
       split at h1
       ·rename_i wd rows m3 ht
        simp only [Option.some.injEq, Prod.mk.injEq] at h1
        obtain ⟨rfl, rfl⟩ := h1
        obtain ⟨hd, c1, cd, e1, e2, e3, e4⟩ := takeId_ok ht hm
        simp only [Option.getD_some] at hv
        cases hv with
        | r hh =>
         rw [e1] at hh
         cases hh
         exact ⟨c1, cd, .o e2, e3, fun b => by rw [e4 b]; simp⟩
       ·simp at h1
      ·simp only [Option.some.injEq, Prod.mk.injEq] at h1
       obtain ⟨rfl, rfl⟩ := h1
       simp only [Option.getD_some] at hv
       cases hv with
       | fz h => exact ⟨c, [], .fz h, hm, fun b => rfl⟩
      ·simp at h1
     obtain ⟨c1, cd, e1, e2, e3⟩ := key
     obtain ⟨c2, cd', f1, f2, f3⟩ := ih h2 e2 hv'
     refine ⟨c2, cd ++ cd', .cons e1 f1, f2, fun b => ?_⟩
     have := e3 b
     have := f3 b
     simp only [List.count_append] at *
     omega
   ·simp at h
  ·simp at h
theorem restAV_ok {m m' : Mem} {x y : AV} {v : Value} {c : List Nat} (h : restAV m x = some (y, m')) (hm : MemL w Z hs hs m c) (hx : ARel X w Z hs x v) :
  ∃ c' cd, Rst1 X w Z y v cd ∧ MemL w Z hs hs m' c' ∧ ∀ b, (c' ++ cd).count b ≤ c.count b := by
 have same : ∀ cd : Unit, Rst1 X w Z x v [] → some (x, m) = some (y, m') → ∃ c' cd, Rst1 X w Z y v cd ∧ MemL w Z hs hs m' c' ∧ ∀ b, (c' ++ cd).count b ≤ c.count b := fun _ h1 h => by
  simp only [Option.some.injEq, Prod.mk.injEq] at h
  obtain ⟨rfl, rfl⟩ := h
  exact ⟨c, [], h1, hm, fun b => by simp⟩
 unfold restAV at h
 split at h
 ·cases hx with | v hx => exact same () (.c (.v hx)) h
 ·cases hx with | fz hx => exact same () (.c (.fz hx)) h
 ·cases hx with | o => exact same () (.c (.o .z)) h
 ·cases hx with | fa h1 h2 h3 => exact same () (.p (.fa h1 h2 h3)) h
 ·rename_i fn
  cases hx with
  | @f _ _ cs h1 h2 =>
   generalize hcs : cs.toList = l at h2
   cases h2
   exact same () (.p (.f h1 (by rw [hcs]; exact .nil))) h
 ·split at h
  ·rename_i wd rows m1 ht
   simp only [Option.some.injEq, Prod.mk.injEq] at h
   obtain ⟨rfl, rfl⟩ := h
   obtain ⟨hd, c1, cd, e1, e2, e3, e4⟩ := takeId_ok ht hm
   cases hx with
   | r hh =>
    rw [e1] at hh
    cases hh
    exact ⟨c1, cd, .c (.o e2), e3, fun b => by rw [e4 b]; exact Nat.le_refl _⟩
  ·simp at h
 ·rename_i id
  split at h
  ·rename_i xs m1 ht
   simp only [Option.some.injEq, Prod.mk.injEq] at h
   obtain ⟨rfl, rfl⟩ := h
   unfold restVar at ht
   split at ht
   ·rename_i nwd row opens hn
    obtain ⟨hd, c1, cn, c2, e1, e2, e3, e4, e5, _⟩ := hm.at hn
    cases hx with
    | @a _ _ _ b off hd' hh hb hi =>
     rw [e1] at hh
     cases hh
     rcases e3.mem with ⟨z1, _⟩ | ⟨b', off', vs, c', f1, f2, f3, f4, f5, rfl⟩
     ·simp at z1
     ·rw [hb] at f1
      cases f1
      have hv : (Node.mk nwd [row] opens).view = viewRow opens 0 0 row := by simp [Node.view, viewRows]
      rw [hv] at f5
      have hlx := f5.length
      rw [viewRow_length] at hlx
      have hrow : row.length = nwd := e3.rows row (by simp)
      obtain ⟨c3, cd, g1, g2, g3⟩ := restRow_ok row ht e5 f5
      have hxl := g1.length
      refine ⟨c3, b :: cd, ?_, g2, fun x => ?_⟩
      ·simp only [Nat.zero_mul, Nat.add_zero]
       refine .b f3 ?_ g1
       obtain ⟨cs, el, fz, j1, j2, j3⟩ := f4
       simp only [List.length_singleton] at f2
       simp only at j2 j3
       have : nwd ≤ hd.cap * nwd := Nat.le_mul_of_pos_left _ (by omega)
       exact ⟨cs, el, fz, j1, by omega, fun k hk hk' => j3 k hk (by omega)⟩
      ·have := g3 x
       rw [e4]
       simp only [List.count_append, List.count_cons] at *
       omega
   ·simp at ht
  ·simp at h
 ·cases hx with
  | ff h1 h2 => exact same () (.p (.ff h1 h2)) h
 ·cases hx with | n => exact same () (.p .n) h
 ·exact same () (.p .u) h
 ·exact same () .vw h
 ·simp at h
theorem restCells_ok {xs : List AV} : ∀ {m m' : Mem} {ys : List AV} {vs : List Value} {c : List Nat}, restCells m xs = some (ys, m') → MemL w Z hs hs m c → ARelL X w Z hs xs vs →
  ∃ c' cd, Rst1L X w Z ys vs cd ∧ MemL w Z hs hs m' c' ∧ ∀ b, (c' ++ cd).count b ≤ c.count b := by
 induction xs with
 | nil =>
  intro m m' ys vs c h hm hx
  simp only [restCells, Option.some.injEq, Prod.mk.injEq] at h
  obtain ⟨rfl, rfl⟩ := h
  cases hx
  exact ⟨c, [], .nil, hm, fun b => by simp⟩
 | cons x xs ih =>
  intro m m' ys vs c h hm hx
  cases hx with
  | cons hx hx' =>
   simp only [restCells] at h
   split at h
   ·rename_i y m1 h1
    split at h
    ·rename_i ys' m2 h2
     simp only [Option.some.injEq, Prod.mk.injEq] at h
     obtain ⟨rfl, rfl⟩ := h
     obtain ⟨c1, cd, e1, e2, e3⟩ := restAV_ok h1 hm hx
     obtain ⟨c2, cd', f1, f2, f3⟩ := ih h2 e2 hx'
     refine ⟨c2, cd ++ cd', .cons e1 f1, f2, fun b => ?_⟩
     have := e3 b
     have := f3 b
     simp only [List.count_append] at *
     omega
    ·simp at h
   ·simp at h
theorem rest1ok {m m' : Mem} {x y : AV} {v : Value} {c : List Nat} (h : rest1 m x = some (y, m')) (hm : MemL w Z hs hs m c) (hx : ARel X w Z hs x v) :
  ∃ c' cd, Rst X w Z y v cd ∧ MemL w Z hs hs m' c' ∧ ∀ b, (c' ++ cd).count b ≤ c.count b := by
 unfold rest1 at h
 split at h
 ·split at h
  ·rename_i ys m1 h1
   simp only [Option.some.injEq, Prod.mk.injEq] at h
   obtain ⟨rfl, rfl⟩ := h
   cases hx with
   | g hx =>
    obtain ⟨c1, cd, e1, e2, e3⟩ := restCells_ok h1 hm hx
    exact ⟨c1, cd, .g e1, e2, e3⟩
  ·simp at h
 ·obtain ⟨c1, cd, e1, e2, e3⟩ := restAV_ok h hm hx
  exact ⟨c1, cd, .o e1, e2, e3⟩
theorem restAVs_ok {t : Tmps} {f : Nat → Value} (ht : ∀ i, ARel X w Z hs (t i) (f i)) (is : List Nat) : ∀ {m m' : Mem} {ys : List AV} {c : List Nat}, restAVs t m is = some (ys, m') → MemL w Z hs hs m c →
  ∃ c' cd, RstL X w Z ys (is.map f) cd ∧ MemL w Z hs hs m' c' ∧ ∀ b, (c' ++ cd).count b ≤ c.count b := by
 induction is with
 | nil =>
  intro m m' ys c h hm
  simp only [restAVs, Option.some.injEq, Prod.mk.injEq] at h
  obtain ⟨rfl, rfl⟩ := h
  exact ⟨c, [], .nil, hm, fun b => by simp⟩
 | cons i is ih =>
  intro m m' ys c h hm
  simp only [restAVs] at h
  split at h
  ·rename_i y m1 h1
   split at h
   ·rename_i ys' m2 h2
    simp only [Option.some.injEq, Prod.mk.injEq] at h
    obtain ⟨rfl, rfl⟩ := h
    obtain ⟨c1, cd, e1, e2, e3⟩ := rest1ok h1 hm (ht i)
    obtain ⟨c2, cd', f1, f2, f3⟩ := ih h2 e2
    refine ⟨c2, cd ++ cd', .cons e1 f1, f2, fun b => ?_⟩
    have := e3 b
    have := f3 b
    simp only [List.count_append] at *
    omega
   ·simp at h
  ·simp at h
theorem CRelL.cellK {xs : List AV} : ∀ {vs : List Value} {c : List Nat}, CRelL w Z hs xs vs c → ∀ x ∈ xs, CellK x := by
 induction xs with
 | nil => intro vs c _; simp
 | cons x xs ih =>
  intro vs c h
  cases h with
  | cons h h' =>
   intro y hy
   rcases List.mem_cons.1 hy with rfl | hy
   ·cases h <;> trivial
   ·exact ih h' y hy
theorem wakeAV_ok {m : Mem} {x : AV} {v : Value} {c cx : List Nat} (hm : MemL w Z hs hs m c) (hx : Rst1 X w Z x v cx) :
  ∃ hs' c', Ext hs hs' ∧ MemL w Z hs' hs' (wakeAV m x).2 c' ∧ ARel X w Z hs' (wakeAV m x).1 v ∧ ∀ b, c'.count b ≤ (c ++ cx).count b := by
 cases hx with
 | c h =>
  cases h with
  | v h => exact ⟨hs, c, Ext.refl _, hm, .v h, fun b => by simp⟩
  | fz h => exact ⟨hs, c, Ext.refl _, hm, .fz h, fun b => by simp⟩
  | r h => simp at h
  | o h =>
   obtain ⟨hd, h1, _, h3⟩ := own_node (Z := Z) h
   refine ⟨hs ++ [hd], c ++ cx, Ext.append _ _, (hm.frame (fun _ h => h) (fun _ _ => rfl) (fun _ _ => rfl) (Ext.append _ _)).append (h3 _), ?_, fun b => Nat.le_refl _⟩
   show ARel X w Z (hs ++ [hd]) (.r m.length) v
   rw [h1]
   exact .r (by rw [← hm.length]; simp)
 | @b xs b off vs cc hh hf h =>
  have hk := h.cellK
  have hl := h.length
  refine ⟨hs ++ [⟨some ⟨b, off, none⟩, xs.length, 1, 1⟩], c ++ (b :: cc), Ext.append _ _, (hm.frame (fun _ h => h) (fun _ _ => rfl) (fun _ _ => rfl) (Ext.append _ _)).append ?_, ?_, fun b => Nat.le_refl _⟩
  ·refine ⟨rfl, rfl, by simp [wakeRow_length], fun e he => ?_, wakeOpens_keys hk, fun e he => (wakeOpens_mem hk he).2.2.2, .inr ⟨b, off, vs, cc, rfl, Nat.le_refl _, hh, by simpa using hf, by rw [view_wake hk]; exact h.base, rfl⟩⟩
   have := wakeOpens_mem hk he
   simp only [List.length_singleton]
   exact ⟨by omega, by omega⟩
  ·have := ARel.a (X := X) (w := w) (Z := Z) (hs := hs ++ [⟨some ⟨b, off, none⟩, xs.length, 1, 1⟩]) (id := m.length) (i := 0) (c := 0) (b := b) (off := off) (h := ⟨some ⟨b, off, none⟩, xs.length, 1, 1⟩) (by rw [← hm.length]; simp) rfl (by simp)
   simpa [wakeAV] using this
 | p h =>
  cases h with
  | v h => exact ⟨hs, c, Ext.refl _, hm, .v h, fun b => by simp⟩
  | @o wd base =>
   refine ⟨hs ++ [⟨base, wd, 0, 0⟩], c ++ [], Ext.append _ _, (hm.frame (fun _ h => h) (fun _ _ => rfl) (fun _ _ => rfl) (Ext.append _ _)).append ⟨rfl, rfl, by simp, by simp, by simp, by simp, .inl ⟨rfl, rfl, rfl⟩⟩, ?_, fun b => Nat.le_refl _⟩
   exact ARel.r (h := ⟨base, wd, 0, 0⟩) (by rw [← hm.length]; simp)
  | fz h => exact ⟨hs, c, Ext.refl _, hm, .fz h, fun b => by simp⟩
  | r h => simp at h
  | g h => exact ⟨hs, c, Ext.refl _, hm, (ARel.g h).base, fun b => by simp⟩
  | a h => simp at h
  | fa h1 h2 h3 => exact ⟨hs, c, Ext.refl _, hm, .fa h1 h2 h3, fun b => by simp⟩
  | f h1 h2 => exact ⟨hs, c, Ext.refl _, hm, (ARel.f h1 h2).base, fun b => by simp⟩
  | ff h1 h2 => exact ⟨hs, c, Ext.refl _, hm, .ff h1 h2, fun b => by simp⟩
  | t h => exact ⟨hs, c, Ext.refl _, hm, (ARel.t h).base, fun b => by simp⟩
  | n => exact ⟨hs, c, Ext.refl _, hm, .n, fun b => by simp⟩
  | u => exact ⟨hs, c, Ext.refl _, hm, .u, fun b => by simp⟩
  | ub => exact ⟨hs, c, Ext.refl _, hm, .ub, fun b => by simp⟩
  | w hh _ _ _ _ => simp at hh
 | vw => exact ⟨hs, c, Ext.refl _, hm, .u, fun b => by simp⟩
theorem wakeCells_ok {xs : List AV} : ∀ {m : Mem} {hs : List Hd} {vs : List Value} {c cx : List Nat}, MemL w Z hs hs m c → Rst1L X w Z xs vs cx →
  ∃ hs' c', Ext hs hs' ∧ MemL w Z hs' hs' (wakeCells m xs).2 c' ∧ ARelL X w Z hs' (wakeCells m xs).1 vs ∧ ∀ b, c'.count b ≤ (c ++ cx).count b := by
 induction xs with
 | nil =>
  intro m hs vs c cx hm hx
  cases hx
  exact ⟨hs, c, Ext.refl _, hm, .nil, fun b => by simp⟩
 | cons x xs ih =>
  intro m hs vs c cx hm hx
  cases hx with
  | cons hx hx' =>
   obtain ⟨hs1, c1, e1, e2, e3, e4⟩ := wakeAV_ok hm hx
   obtain ⟨hs2, c2, f1, f2, f3, f4⟩ := ih e2 hx'
   refine ⟨hs2, c2, fun id h hh => f1 _ _ (e1 _ _ hh), f2, .cons (e3.frame (fun _ h => h) (fun _ _ => rfl) f1) f3, fun b => ?_⟩
   have := e4 b
   have := f4 b
   simp only [List.count_append] at *
   omega
theorem wake1ok {m : Mem} {x : AV} {v : Value} {c cx : List Nat} (hm : MemL w Z hs hs m c) (hx : Rst X w Z x v cx) :
  ∃ hs' c', Ext hs hs' ∧ MemL w Z hs' hs' (wake1 m x).2 c' ∧ ARel X w Z hs' (wake1 m x).1 v ∧ ∀ b, c'.count b ≤ (c ++ cx).count b := by
 have lift : ∀ {xs : List AV} {vs : List Value}, ARelL X w Z [] xs vs → Rst1L X w Z xs vs [] := by
  intro xs
  induction xs with
  | nil => intro vs h; cases h; exact .nil
  | cons x xs ih => intro vs h; cases h with | cons h h' => simpa using Rst1L.cons (Rst1.p h) (ih h')
 have agg : ∀ {xs : List AV} {vs : Array Value} {cx : List Nat}, Rst1L X w Z xs vs.toList cx →
   ∃ hs' c', Ext hs hs' ∧ MemL w Z hs' hs' (wake1 m (.g xs)).2 c' ∧ ARel X w Z hs' (wake1 m (.g xs)).1 (.agg vs) ∧ ∀ b, c'.count b ≤ (c ++ cx).count b := fun h => by
  obtain ⟨hs', c', e1, e2, e3, e4⟩ := wakeCells_ok hm h
  exact ⟨hs', c', e1, e2, .g e3, e4⟩
 cases hx with
 | g h => exact agg h
 | o h =>
  by_cases hg : ∃ xs, x = .g xs
  ·obtain ⟨xs, rfl⟩ := hg
   cases h with
   | c h => cases h
   | p h => cases h with | g h => exact agg (lift h)
  ·have : wake1 m x = wakeAV m x := by
    cases x <;> first | rfl | exact absurd ⟨_, rfl⟩ hg
   rw [this]
   exact wakeAV_ok hm h
theorem restX_ok {m m' : Mem} {x y : AV} {v : Value} {c : List Nat} (h : restX m x = some (y, m')) (hm : MemL w Z hs hs m c) (hx : ARel X w Z hs x v) :
  ∃ c' cd, Rst X w Z y v cd ∧ MemL w Z hs hs m' c' ∧ ∀ b, (c' ++ cd).count b ≤ c.count b := by
 unfold restX at h
 split at h
 ·split at h
  ·rename_i wd rows m1 ht
   simp only [Option.some.injEq, Prod.mk.injEq] at h
   obtain ⟨rfl, rfl⟩ := h
   obtain ⟨c', cd, e1, e2, e3⟩ := takeCell_ok ht hx hm
   exact ⟨c', cd, .o (.c (.o e1)), e2, e3⟩
  ·simp at h
 ·exact rest1ok h hm hx
theorem restXs_ok {t : Tmps} {f : Nat → Value} (ht : ∀ i, ARel X w Z hs (t i) (f i)) (is : List Nat) : ∀ {m m' : Mem} {ys : List AV} {c : List Nat}, restXs t m is = some (ys, m') → MemL w Z hs hs m c →
  ∃ c' cd, RstL X w Z ys (is.map f) cd ∧ MemL w Z hs hs m' c' ∧ ∀ b, (c' ++ cd).count b ≤ c.count b := by
 induction is with
 | nil =>
  intro m m' ys c h hm
  simp only [restXs, Option.some.injEq, Prod.mk.injEq] at h
  obtain ⟨rfl, rfl⟩ := h
  exact ⟨c, [], .nil, hm, fun b => by simp⟩
 | cons i is ih =>
  intro m m' ys c h hm
  simp only [restXs] at h
  split at h
  ·rename_i y m1 h1
   split at h
   ·rename_i ys' m2 h2
    simp only [Option.some.injEq, Prod.mk.injEq] at h
    obtain ⟨rfl, rfl⟩ := h
    obtain ⟨c1, cd, e1, e2, e3⟩ := restX_ok h1 hm (ht i)
    obtain ⟨c2, cd', f1, f2, f3⟩ := ih h2 e2
    refine ⟨c2, cd ++ cd', .cons e1 f1, f2, fun b => ?_⟩
    have := e3 b
    have := f3 b
    simp only [List.count_append] at *
    omega
   ·simp at h
  ·simp at h
theorem wakeAVs_ok {f : Nat → Value} (is : List Nat) : ∀ {xs : List AV} {t : Tmps} {m : Mem} {hs : List Hd} {c cx : List Nat}, MemL w Z hs hs m c → (∀ i, ARel X w Z hs (t i) (f i)) → RstL X w Z xs (is.map f) cx →
  ∃ hs' c', MemL w Z hs' hs' (wakeAVs t m is xs).m c' ∧ (∀ i, ARel X w Z hs' ((wakeAVs t m is xs).t i) (f i)) ∧ ∀ b, c'.count b ≤ (c ++ cx).count b := by
 induction is with
 | nil =>
  intro xs t m hs c cx hm ht hx
  cases hx
  exact ⟨hs, c, hm, ht, fun b => by simp⟩
 | cons i is ih =>
  intro xs t m hs c cx hm ht hx
  generalize hv : (i :: is).map f = vs at hx
  cases hx with
  | nil => simp at hv
  | @cons x xs v vs cc cr hx hx' =>
   simp only [List.map_cons, List.cons.injEq] at hv
   obtain ⟨rfl, rfl⟩ := hv
   obtain ⟨hs1, c1, e1, e2, e3, e4⟩ := wake1ok hm hx
   simp only [wakeAVs]
   obtain ⟨hs2, c2, f1, f2, f3⟩ := ih (t := upd t i (wake1 m x).1) e2 (fun j => by
    unfold upd
    cases hj : Nat.beq j i with
    | true =>
     have := Nat.eq_of_beq_eq_true hj
     subst this
     exact e3
    | false => exact (ht j).frame (fun _ h => h) (fun _ _ => rfl) e1) hx'
   refine ⟨hs2, c2, f1, f2, fun b => ?_⟩
   have := e4 b
   have := f3 b
   simp only [List.count_append] at *
   omega
def VwOk (wd : Nat) (vb vj : Value) (lo hi : Nat) : Prop := ∃ (base0 : Option Addr) (len cap0 : Nat) (base : Option Addr) (cap : Nat), vb = .slice base0 len cap0 ∧ vj = .slice base (hi - lo) cap ∧ lo ≤ hi ∧ hi ≤ len ∧
 (lo = 0 → base = base0 ∧ cap = cap0) ∧ ∀ b off, lo < hi → base0 = some ⟨b, off, none⟩ → base = some ⟨b, off + lo * wd, none⟩
def Views (live : List Nat) (xs : List AV) (f : Nat → Value) : Prop := ∀ (j i b lo hi : Nat), live[j]? = some i → xs[j]? = some (.w b lo hi) → ∃ wd rows ib, xs[b]? = some (.o wd rows) ∧ live[b]? = some ib ∧ VwOk wd (f ib) (f i) lo hi
theorem restAV_w {m m' : Mem} {x : AV} {id lo hi : Nat} (h : restAV m x = some (.w id lo hi, m')) : x = .w id lo hi := by
 unfold restAV at h
 split at h <;> first
  | (simp only [Option.some.injEq, Prod.mk.injEq] at h; exact h.1)
  | (simp at h; done)
  | (split at h <;> simp at h)
theorem rest1_w {m m' : Mem} {x : AV} {id lo hi : Nat} (h : rest1 m x = some (.w id lo hi, m')) : x = .w id lo hi := by
 unfold rest1 at h
 split at h
 ·split at h <;> simp at h
 ·exact restAV_w h
theorem restAVs_w {t : Tmps} (is : List Nat) : ∀ {m m' : Mem} {ys : List AV} {j id lo hi : Nat}, restAVs t m is = some (ys, m') → ys[j]? = some (.w id lo hi) → ∃ i, is[j]? = some i ∧ t i = .w id lo hi := by
 induction is with
 | nil =>
  intro m m' ys j id lo hi h hj
  simp only [restAVs, Option.some.injEq, Prod.mk.injEq] at h
  obtain ⟨rfl, rfl⟩ := h
  simp at hj
 | cons i is ih =>
  intro m m' ys j id lo hi h hj
  simp only [restAVs] at h
  split at h
  ·rename_i y m1 h1
   split at h
   ·rename_i ys' m2 h2
    simp only [Option.some.injEq, Prod.mk.injEq] at h
    obtain ⟨rfl, rfl⟩ := h
    cases j with
    | zero =>
     simp at hj
     subst hj
     exact ⟨i, rfl, rest1_w h1⟩
    | succ j =>
     obtain ⟨i', g1, g2⟩ := ih h2 (by simpa using hj)
     exact ⟨i', by simpa using g1, g2⟩
   ·simp at h
  ·simp at h
theorem findBase_ok {t : Tmps} {id : Nat} (is : List Nat) : ∀ {k b : Nat}, findBase t id is k = some b → ∃ j i, b = k + j ∧ is[j]? = some i ∧ t i = .r id := by
 induction is with
 | nil => intro k b h; simp [findBase] at h
 | cons i is ih =>
  intro k b h
  have next : findBase t id is (k + 1) = some b → ∃ j i', b = k + j ∧ (i :: is)[j]? = some i' ∧ t i' = .r id := fun h => by
   obtain ⟨j, i', h1, h2, h3⟩ := ih h
   exact ⟨j + 1, i', by omega, by simpa using h2, h3⟩
  simp only [findBase] at h
  split at h
  ·rename_i id' hid
   cases hb : Nat.beq id' id with
   | true =>
    simp only [hb, cond_true, Option.some.injEq] at h
    have := Nat.eq_of_beq_eq_true hb
    subst this
    exact ⟨0, i, by omega, rfl, hid⟩
   | false =>
    simp only [hb, cond_false] at h
    exact next h
  ·exact next h
theorem ixViews_ok {t : Tmps} {m : Mem} {live : List Nat} {ys : List AV} (l : List AV) : ∀ {zs : List AV}, ixViews t m live ys l = some zs →
  (∀ vs c, RstL X w Z l vs c → RstL X w Z zs vs c) ∧ (∀ (j wd : Nat) (rows : Rows), l[j]? = some (.o wd rows) → zs[j]? = some (.o wd rows)) ∧
  ∀ (j b lo hi : Nat), zs[j]? = some (.w b lo hi) → ∃ id n wd rows, l[j]? = some (.w id lo hi) ∧ findBase t id live 0 = some b ∧ getNode m id = some n ∧ n.wd = wd ∧ ys[b]? = some (.o wd rows) := by
 induction l with
 | nil =>
  intro zs h
  simp only [ixViews, Option.some.injEq] at h
  subst h
  exact ⟨fun vs c h => h, by simp, by simp⟩
 | cons y r ih =>
  intro zs h
  simp only [ixViews] at h
  split at h
  ·rename_i id lo hi
   split at h
   ·rename_i b n hfb hn
    split at h
    ·rename_i wd rows hyb
     cases hw : Nat.beq n.wd wd with
     | false => simp [hw] at h
     | true =>
      simp only [hw, cond_true] at h
      have hw' := Nat.eq_of_beq_eq_true hw
      split at h
      ·rename_i zs' hz
       simp only [Option.some.injEq] at h
       subst h
       obtain ⟨g1, g2, g3⟩ := ih hz
       refine ⟨fun vs c h => ?_, fun j wd' rows' hj => ?_, fun j b' lo' hi' hj => ?_⟩
       ·cases h with
        | cons h h' =>
         refine .cons ?_ (g1 _ _ h')
         cases h with
         | o h =>
          cases h with
          | c h => cases h
          | p h => cases h with | w hh _ _ _ _ => simp at hh
          | vw => exact .o .vw
       ·cases j with
        | zero => simp at hj
        | succ j => simpa using g2 j wd' rows' (by simpa using hj)
       ·cases j with
        | zero =>
         simp at hj
         obtain ⟨rfl, rfl, rfl⟩ := hj
         exact ⟨id, n, wd, rows, rfl, hfb, hn, hw', hyb⟩
        | succ j => simpa using g3 j b' lo' hi' (by simpa using hj)
      ·simp at h
    ·simp at h
   ·simp at h
  ·rename_i hny
   split at h
   ·rename_i zs' hz
    simp only [Option.some.injEq] at h
    subst h
    obtain ⟨g1, g2, g3⟩ := ih hz
    refine ⟨fun vs c h => ?_, fun j wd' rows' hj => ?_, fun j b' lo' hi' hj => ?_⟩
    ·cases h with
     | cons h h' => exact .cons h (g1 _ _ h')
    ·cases j with
     | zero => simpa using hj
     | succ j => simpa using g2 j wd' rows' (by simpa using hj)
    ·cases j with
     | zero =>
      simp at hj
      exact absurd hj (hny _ _ _)
     | succ j => simpa using g3 j b' lo' hi' (by simpa using hj)
   ·simp at h
theorem restVs_ok {t : Tmps} {f : Nat → Value} (ht : ∀ i, ARel X w Z hs (t i) (f i)) {is : List Nat} {m m' : Mem} {zs : List AV} {c : List Nat} (h : restVs t m is = some (zs, m')) (hm : MemL w Z hs hs m c) :
  ∃ c' cd, RstL X w Z zs (is.map f) cd ∧ MemL w Z hs hs m' c' ∧ (∀ b, (c' ++ cd).count b ≤ c.count b) ∧ Views is zs f := by
 unfold restVs at h
 split at h
 ·rename_i ys m1 h1
  split at h
  ·rename_i zs' hz
   simp only [Option.some.injEq, Prod.mk.injEq] at h
   obtain ⟨rfl, rfl⟩ := h
   obtain ⟨c', cd, e1, e2, e3⟩ := restAVs_ok ht is h1 hm
   obtain ⟨g1, g2, g3⟩ := ixViews_ok (X := X) (w := w) (Z := Z) ys hz
   refine ⟨c', cd, g1 _ _ e1, e2, e3, fun j i b lo hi hi0 hj => ?_⟩
   obtain ⟨id, n, wd, rows, q1, q2, q3, q4, q5⟩ := g3 j b lo hi hj
   obtain ⟨i', r1, r2⟩ := restAVs_w is h1 q1
   rw [hi0] at r1
   cases r1
   obtain ⟨j', ib, s1, s2, s3⟩ := findBase_ok is q2
   have : j' = b := by omega
   subst this
   refine ⟨wd, rows, ib, g2 _ _ _ q5, s2, ?_⟩
   have a1 := ht i
   have a2 := ht ib
   rw [r2] at a1
   rw [s3] at a2
   obtain ⟨hd, c1, cn, c2, e1, e2, e3, _⟩ := hm.at q3
   have hwd : hd.wd = wd := by rw [← q4]; exact e3.wd
   generalize hfi : f i = vi at a1
   generalize hfb : f ib = vb at a2
   cases a2 with
   | r hh =>
    rw [e1] at hh
    cases hh
    cases a1 with
    | @w _ _ _ cap base h' hh' hlo hhi h0 hb =>
     rw [e1] at hh'
     cases hh'
     refine ⟨hd.base, hd.len, hd.cap, base, cap, rfl, rfl, hlo, hhi, h0, fun b off h1 h2 => ?_⟩
     rw [← hwd]
     exact hb b off h1 h2
  ·simp at h
 ·simp at h
theorem wakeViews_ok {f : Nat → Value} {live : List Nat} {xs : List AV} (is : List Nat) : ∀ {ys : List AV} {st : St} {c : List Nat}, MemL w Z hs hs st.m c → (∀ i, ARel X w Z hs (st.t i) (f i)) →
  (∀ (k i b lo hi : Nat), is[k]? = some i → ys[k]? = some (.w b lo hi) → ∃ wd rows ib, xs[b]? = some (.o wd rows) ∧ live[b]? = some ib ∧ VwOk wd (f ib) (f i) lo hi) →
  (wakeViews live xs is ys st).m = st.m ∧ ∀ i, ARel X w Z hs ((wakeViews live xs is ys st).t i) (f i) := by
 induction is with
 | nil => intro ys st c hm ht hv; exact ⟨by simp [wakeViews], by simpa [wakeViews] using ht⟩
 | cons i is ih =>
  intro ys st c hm ht hv
  cases ys with
  | nil => exact ⟨by simp [wakeViews], by simpa [wakeViews] using ht⟩
  | cons y ys =>
   have hv' : ∀ (k i b lo hi : Nat), is[k]? = some i → ys[k]? = some (.w b lo hi) → ∃ wd rows ib, xs[b]? = some (.o wd rows) ∧ live[b]? = some ib ∧ VwOk wd (f ib) (f i) lo hi :=
    fun k i b lo hi h1 h2 => hv (k + 1) i b lo hi (by simpa using h1) (by simpa using h2)
   simp only [wakeViews]
   split
   ·rename_i b lo hi
    obtain ⟨wd, rows, ib, q1, q2, q3⟩ := hv 0 i b lo hi rfl rfl
    have hst : (wakeView live xs i b lo hi st).m = st.m ∧ ∀ i', ARel X w Z hs ((wakeView live xs i b lo hi st).t i') (f i') := by
     unfold wakeView
     rw [q2, q1]
     simp only
     split
     ·rename_i id hid
      split
      ·rename_i n hn
       cases hw : Nat.beq n.wd wd with
       | false => simp only [cond_false]; exact ⟨by trivial, ht⟩
       | true =>
        simp only [cond_true]
        refine ⟨by trivial, fun i' => ?_⟩
        have hw' := Nat.eq_of_beq_eq_true hw
        unfold upd
        cases hj : Nat.beq i' i with
        | false => exact ht i'
        | true =>
         have := Nat.eq_of_beq_eq_true hj
         subst this
         have a2 := ht ib
         rw [hid] at a2
         obtain ⟨hd, c1, cn, c2, e1, e2, e3, _⟩ := hm.at hn
         have hwd : hd.wd = wd := by rw [← hw']; exact e3.wd
         obtain ⟨base0, len, cap0, base, cap, v1, v2, v3, v4, v5, v6⟩ := q3
         rw [v1] at a2
         rw [v2]
         generalize hvb : Value.slice base0 len cap0 = vb at a2
         cases a2 with
         | r hh =>
          rw [e1] at hh
          cases hh
          cases hvb
          refine .w e1 v3 v4 v5 fun b off h1 h2 => ?_
          rw [hwd]
          exact v6 b off h1 h2
      ·exact ⟨by trivial, ht⟩
     ·exact ⟨by trivial, ht⟩
    obtain ⟨r1, r2⟩ := ih (ys := ys) (st := wakeView live xs i b lo hi st) (c := c) (by rw [hst.1]; exact hm) hst.2 hv'
    exact ⟨by rw [r1, hst.1], r2⟩
   ·exact ih hm ht hv'
end
end Go.Am
/- AM: a list of operations, one behind the other. Nothing is assumed. -/
namespace Go.Am
def chkDst (N : Nat) : Option Nat → Option Tmp → Bool
 | none, none => true
 | some i, some j => i == j && Nat.blt i N
 | _, _ => false
def chkGuard (ops : Array Oper) : Option (Nat × Bool) → Option (Nat × Bool) → Bool
 | none, none => true
 | some (i, b), some (j, b') => b == b' && (match ops[j]? with | some o => o.dst == some i | none => false)
 | _, _ => false
def chkOpers (P : Program) (sg : Sigs) (N : Nat) (ops : Array Oper) : List Oper → List AOper → Bool
 | [], [] => true
 | o :: os, a :: as => chkDst N a.dst o.dst && chkGuard ops a.guard o.guard && chkOp P sg a.op o.op && chkOpers P sg N ops os as
 | _, _ => false
section
variable {P : Program} {sg : Sigs} {N : Nat} {args : Nat → Value} {w0 : World} {c0 : List Nat} {Z : Nat → Prop} {C : Ctx}
theorem chkDst_ok {x : Option Nat} {y : Option Tmp} (h : chkDst N x y = true) : x = y ∧ ∀ d, x = some d → d < N := by
 unfold chkDst at h
 split at h
 ·exact ⟨rfl, by simp⟩
 ·simp only [Bool.and_eq_true, beq_iff_eq] at h
  obtain ⟨rfl, h⟩ := h
  exact ⟨rfl, fun d hd => by cases hd; exact Nat.blt_eq.mp h⟩
 ·simp at h
theorem SInv.tmps_same {X : Nat → Prop} {keep : List Nat} {hs : List Hd} {c : List Nat} {st : St} {a : Act} {w : World} (h : SInv X keep N args w0 c0 Z hs c st a w) {t : Tmps} (ht : ∀ i, t i = st.t i) :
  SInv X keep N args w0 c0 Z hs c ⟨t, st.m⟩ a w := ⟨h.mem, fun i => by simp only [ht]; exact h.tmp i, h.win, h.defers, h.size, h.keep⟩
theorem upd_same {t : Tmps} {j : Nat} {x : AV} (h : t j = x) : ∀ i, upd t j x i = t i := fun i => by
 unfold upd
 cases hb : Nat.beq i j with
 | false => rfl
 | true =>
  have := Nat.eq_of_beq_eq_true hb
  subst this
  exact h.symm
theorem step_ok {R : Type} {r : R} {st : St} {o : Oper} {ao : AOp} {dst : Option Nat} {K : AV → Mem → Option R} (hT : GoodAt P sg w0 Z C.T) (hc : chkOp P sg ao o.op = true)
  (hd : chkDst N dst o.dst = true) (hk : mayPut C.keep dst = true) (h : evalOp C.T st.t st.m ao K = some r) :
  ∃ x m, K x m = some r ∧ ∀ (hs : List Hd) (c : List Nat) (a : Act) (w : World), SInv sg.X C.keep N args w0 c0 Z hs c st a w → ∀ (next : Act → World → Prop) (Q : Exit → Act → World → Prop),
   (∀ hs' c' a' w', SInv sg.X C.keep N args w0 c0 Z hs' c' ⟨put st.t dst x, m⟩ a' w' → next a' w') → o.wp P a w next Q := by
 obtain ⟨x, m, hK, hok⟩ := evalOp_ok (keep := C.keep) (N := N) (args := args) (w0 := w0) (c0 := c0) (Z := Z) hT hc h
 obtain ⟨hde, hdl⟩ := chkDst_ok hd
 refine ⟨x, m, hK, fun hs c a w hin next Q hn => hok hs c a w hin next Q fun v w' ⟨hs', c', e1, e2, e3, e4⟩ => hn hs' c' _ _ ?_⟩
 rw [← hde]
 exact sinv_put hin hdl hk e2 e3 e4 e1
theorem yielded_of {ops : Array Oper} {tmps : Array Value} {i j : Nat} {o : Oper} (ho : ops[j]? = some o) (hd : o.dst = some i) (hi : i < tmps.size) :
  yielded ops tmps j = match tmps.getD i undef with | .bool b => some b | _ => none := by
 unfold yielded
 have : tmps[i]? = some (tmps.getD i undef) := by
  rw [Array.getD_eq_getD_getElem?, Array.getElem?_eq_getElem hi]
  rfl
 simp only [ho, Option.bind_some, hd, this]
 split <;> simp_all
theorem evalOps_ok {R : Type} {r : R} {K : St → Option R} (hT : GoodAt P sg w0 Z C.T) {ops : Array Oper} (os : List Oper) : ∀ {aos : List AOper} {st : St}, chkOpers P sg N ops os aos = true →
  (∀ (j : Nat) (o : Oper), ops[j]? = some o → ∀ d, o.dst = some d → d < N) → evalOps C aos st K = some r →
  ∃ st', K st' = some r ∧ ∀ (hs : List Hd) (c : List Nat) (a : Act) (w : World), SInv sg.X C.keep N args w0 c0 Z hs c st a w → ∀ (Q : Exit → Act → World → Prop),
   (∀ hs' c' a' w', SInv sg.X C.keep N args w0 c0 Z hs' c' st' a' w' → Q .normal a' w') → wpList P ops Q os a w := by
 induction os with
 | nil =>
  intro aos st hc hops h
  cases aos with
  | cons => simp [chkOpers] at hc
  | nil => exact ⟨st, h, fun hs c a w hin Q hQ => wpList_nil (hQ hs c a w hin)⟩
 | cons o os ih =>
  intro aos st hc hops h
  cases aos with
  | nil => simp [chkOpers] at hc
  | cons ao aos =>
   obtain ⟨dst, aop, guard⟩ := ao
   simp only [chkOpers, Bool.and_eq_true] at hc
   obtain ⟨⟨⟨hd, hg⟩, hop⟩, hc⟩ := hc
   simp only [evalOps] at h
   cases hk : mayPut C.keep dst with
   | false => simp [hk] at h
   | true =>
    simp only [hk, cond_true] at h
    cases guard with
    | none =>
     have hgn : o.guard = none := by
      unfold chkGuard at hg
      split at hg
      ·rename_i e; exact e
      ·simp_all
      ·simp at hg
     simp only at h
     obtain ⟨x, m, h1, g1⟩ := step_ok (N := N) (args := args) (w0 := w0) (c0 := c0) (Z := Z) hT hop hd hk h
     obtain ⟨st', h2, g2⟩ := ih hc hops h1
     exact ⟨st', h2, fun hs c a w hin Q hQ => wpList_plain hgn fun K' hK' => g1 hs c a w hin K' Q fun hs' c' a' w' hin' => hK' _ _ (g2 hs' c' a' w' hin' Q hQ)⟩
    | some g =>
     obtain ⟨j, b⟩ := g
     obtain ⟨jj, hog, og, hoo, hod⟩ : ∃ jj, o.guard = some (jj, b) ∧ ∃ og, ops[jj]? = some og ∧ og.dst = some j := by
      unfold chkGuard at hg
      split at hg
      ·simp_all
      ·rename_i i b1 jj b2 e1 e2
       simp only [Option.some.injEq, Prod.mk.injEq] at e1
       obtain ⟨rfl, rfl⟩ := e1
       simp only [Bool.and_eq_true, beq_iff_eq] at hg
       obtain ⟨rfl, hg⟩ := hg
       split at hg
       ·rename_i og hoo
        exact ⟨jj, e2, og, hoo, by simpa using hg⟩
       ·simp at hg
      ·simp at hg
     have hj : j < N := hops _ _ hoo _ hod
     have hy : ∀ (hs : List Hd) (c : List Nat) (a : Act) (w : World), SInv sg.X C.keep N args w0 c0 Z hs c st a w → yielded ops a.tmps jj = match a.tmps.getD j undef with | .bool b => some b | _ => none :=
      fun hs c a w hin => yielded_of hoo hod (by rw [hin.size]; exact hj)
     have skip : ∀ {st1 : St}, (∀ i, st1.t i = st.t i) → st1.m = st.m → (∀ (hs : List Hd) (c : List Nat) (a : Act) (w : World), SInv sg.X C.keep N args w0 c0 Z hs c st a w → ¬ Region.wanted o (yielded ops a.tmps) = true) →
       evalOps C aos ⟨put st1.t dst .n, st1.m⟩ K = some r → ∃ st', K st' = some r ∧ ∀ (hs : List Hd) (c : List Nat) (a : Act) (w : World), SInv sg.X C.keep N args w0 c0 Z hs c st a w → ∀ (Q : Exit → Act → World → Prop),
        (∀ hs' c' a' w', SInv sg.X C.keep N args w0 c0 Z hs' c' st' a' w' → Q .normal a' w') → wpList P ops Q (o :: os) a w := by
      intro st1 ht hm hnw h
      obtain ⟨st', h2, g2⟩ := ih hc hops h
      refine ⟨st', h2, fun hs c a w hin Q hQ => wpList_step fun K' hK' => ?_⟩
      rw [if_neg (hnw hs c a w hin)]
      obtain ⟨hde, hdl⟩ := chkDst_ok hd
      rw [← hde]
      have hin1 : SInv sg.X C.keep N args w0 c0 Z hs c st1 a w := by
       have := hin.tmps_same ht
       rw [← hm] at this
       exact this
      exact hK' _ _ (g2 _ _ _ _ (sinv_put hin1 hdl hk hin1.mem .n hin1.win (Ext.refl _)) Q hQ)
     simp only at h
     split at h
     ·rename_i x hx
      cases hxb : (x == b) with
      | true =>
       simp only [hxb, cond_true] at h
       have hxb : x = b := by simpa using hxb
       subst hxb
       have hsame := upd_same hx
       obtain ⟨x', m, h1, g1⟩ := step_ok (N := N) (args := args) (w0 := w0) (c0 := c0) (Z := Z) (st := ⟨upd st.t j (.v (.bool x)), st.m⟩) hT hop hd hk h
       obtain ⟨st', h2, g2⟩ := ih hc hops h1
       refine ⟨st', h2, fun hs c a w hin Q hQ => wpList_step fun K' hK' => ?_⟩
       have hin1 := hin.tmps_same hsame
       have hw : Region.wanted o (yielded ops a.tmps) = true := by
        have h3 := hin.tmp j
        rw [hx] at h3
        have h4 := val_of h3
        simp [Region.wanted, hog, hy hs c a w hin, h4]
       rw [if_pos hw]
       exact g1 hs c a w hin1 K' Q fun hs' c' a' w' hin' => hK' _ _ (g2 hs' c' a' w' hin' Q hQ)
      | false =>
       simp only [hxb, cond_false] at h
       have hxb : x = !b := by
        cases x <;> cases b <;> simp_all
       subst hxb
       refine skip (st1 := ⟨upd st.t j (.v (.bool !b)), st.m⟩) (upd_same hx) rfl (fun hs c a w hin => ?_) h
       have h3 := hin.tmp j
       rw [hx] at h3
       have h4 := val_of h3
       simp [Region.wanted, hog, hy hs c a w hin, h4]
     ·rename_i hx
      refine skip (st1 := st) (fun _ => rfl) rfl (fun hs c a w hin => ?_) h
      have h3 := hin.tmp j
      rw [hx] at h3
      generalize hu : a.tmps.getD j undef = u at h3
      cases h3
      have h5 : yielded ops a.tmps jj = none := by rw [hy hs c a w hin, hu]; rfl
      simp [Region.wanted, hog, h5]
     ·simp at h
end
end Go.Am
