/- AM: append. Nothing is assumed. -/
import Derived.Test.YtgnicnelpcndgaaAmLit
import Derived.Laws.AppendOwn
set_option linter.unusedVariables false
set_option linter.unusedSimpArgs false
namespace Go.Am
/-! ### the joined node -/
theorem joinO_eq (a b : Opens) : joinO a b = a ++ b := by
  induction a with
  | nil => rfl
  | cons x a ih => simp [joinO, ih]
theorem shiftO_mem {k : Nat} {o : Opens} {e : (Nat × Nat) × AV} (h : e ∈ shiftO k o) : ∃ i c x, ((i, c), x) ∈ o ∧ e = ((i + k, c), x) := by
  induction o with
  | nil => simp [shiftO] at h
  | cons a o ih =>
    obtain ⟨⟨i, c⟩, x⟩ := a
    simp only [shiftO, List.mem_cons] at h
    rcases h with rfl | h
    · exact ⟨i, c, x, by simp, rfl⟩
    · obtain ⟨i, c, x, h1, h2⟩ := ih h
      exact ⟨i, c, x, by simp [h1], h2⟩
theorem findO_append (i c : Nat) (a b : Opens) : findO i c (a ++ b) = (findO i c a).orElse fun _ => findO i c b := by
  induction a with
  | nil => simp [findO]
  | cons e a ih =>
    obtain ⟨⟨i', c'⟩, x⟩ := e
    simp only [List.cons_append, findO, ih]
    split <;> simp
theorem findO_out {i c : Nat} {o : Opens} (h : ∀ e ∈ o, e.1.1 ≠ i) : findO i c o = none := by
  induction o with
  | nil => rfl
  | cons e o ih =>
    obtain ⟨⟨i', c'⟩, x⟩ := e
    have h1 := h _ List.mem_cons_self
    simp only at h1
    simp only [findO]
    rw [if_neg (fun h2 => h1 h2.2.symm)]
    exact ih fun e he => h e (by simp [he])
theorem findO_shift (k i c : Nat) (o : Opens) : findO (i + k) c (shiftO k o) = findO i c o := by
  induction o with
  | nil => rfl
  | cons e o ih =>
    obtain ⟨⟨i', c'⟩, x⟩ := e
    simp only [shiftO, findO, ih, Nat.add_right_cancel_iff]
theorem viewRow_congr {o o' : Opens} {i i' : Nat} (h : ∀ c, findO i c o = findO i' c o') (j : Nat) (r : Row) : viewRow o i j r = viewRow o' i' j r := by
  induction r generalizing j with
  | nil => rfl
  | cons d ds ih => simp [viewRow, h, ih]
theorem viewRows_congr {o o' : Opens} (rows : Rows) : ∀ {i i' : Nat}, (∀ k c, k < rows.length → findO (i + k) c o = findO (i' + k) c o') → viewRows o i rows = viewRows o' i' rows := by
  induction rows with
  | nil => intro i i' _; rfl
  | cons r rs ih =>
    intro i i' h
    simp only [viewRows]
    rw [viewRow_congr (o := o) (o' := o') (i := i) (i' := i') (fun c => by simpa using h 0 c (by simp)), ih (i := i + 1) (i' := i' + 1) fun k c hk => by
      have := h (k + 1) c (by simp; omega)
      rw [show i + 1 + k = i + (k + 1) by omega, show i' + 1 + k = i' + (k + 1) by omega]
      exact this]
theorem viewRows_append (o : Opens) (r1 r2 : Rows) : ∀ i, viewRows o i (r1 ++ r2) = viewRows o i r1 ++ viewRows o (i + r1.length) r2 := by
  induction r1 with
  | nil => intro i; simp [viewRows]
  | cons r rs ih =>
    intro i
    simp only [List.cons_append, viewRows, ih, List.append_assoc, List.length_cons]
    rw [show i + 1 + rs.length = i + (rs.length + 1) by omega]
theorem view_join {wd : Nat} {r1 r2 : Rows} {o1 o2 : Opens} (h1 : ∀ e ∈ o1, e.1.1 < r1.length) :
    (Node.mk wd (r1 ++ r2) (joinO o1 (shiftO r1.length o2))).view = (Node.mk wd r1 o1).view ++ (Node.mk wd r2 o2).view := by
  unfold Node.view
  rw [joinO_eq, viewRows_append]
  congr 1
  · refine viewRows_congr r1 fun k c hk => ?_
    rw [findO_append]
    have : findO (0 + k) c (shiftO r1.length o2) = none := findO_out fun e he => by
      obtain ⟨i, c, x, _, rfl⟩ := shiftO_mem he
      simp only
      omega
    rw [this]
    cases findO (0 + k) c o1 <;> rfl
  · refine viewRows_congr r2 fun k c hk => ?_
    rw [findO_append, findO_out (o := o1) fun e he => by have := h1 e he; omega]
    simp only [Nat.zero_add, Option.orElse_none]
    rw [Nat.add_comm]
    exact findO_shift ..
theorem join_inv {wd : Nat} {r1 r2 : Rows} {o1 o2 : Opens} (h1 : NInv ⟨wd, r1, o1⟩) (h2 : NInv ⟨wd, r2, o2⟩) : NInv ⟨wd, r1 ++ r2, joinO o1 (shiftO r1.length o2)⟩ := by
  have sh : ∀ e ∈ shiftO r1.length o2, r1.length ≤ e.1.1 ∧ e.1.1 < r1.length + r2.length ∧ e.1.2 < wd ∧ ((∃ id, e.2 = .r id) ∨ ∃ wd rows, e.2 = .fz wd rows) := fun e he => by
    obtain ⟨i, c, x, h, rfl⟩ := shiftO_mem he
    have := h2.opens _ h
    have hk := h2.kind _ h
    simp only at this
    exact ⟨by simp, by simp only; omega, this.2, hk⟩
  refine ⟨fun r hr => ?_, fun e he => ?_, ?_, fun e he => ?_⟩
  · rcases List.mem_append.1 hr with h | h
    · exact h1.rows r h
    · exact h2.rows r h
  · rw [joinO_eq] at he
    simp only [List.length_append]
    rcases List.mem_append.1 he with h | h
    · have := h1.opens e h
      simp only at this
      exact ⟨by omega, this.2⟩
    · have := sh e h
      exact ⟨this.2.1, this.2.2.1⟩
  · rw [joinO_eq]
    refine List.pairwise_append.2 ⟨h1.keys, ?_, fun e he e' he' h => ?_⟩
    · have := h2.keys
      simp only at this
      clear sh h2
      induction o2 with
      | nil => exact .nil
      | cons e o ih =>
        obtain ⟨⟨i, c⟩, x⟩ := e
        obtain ⟨g1, g2⟩ := List.pairwise_cons.1 this
        refine List.pairwise_cons.2 ⟨fun e he h => ?_, ih g2⟩
        obtain ⟨i', c', x', h3, rfl⟩ := shiftO_mem he
        refine g1 _ h3 ?_
        simp only [Prod.mk.injEq, Nat.add_right_cancel_iff] at h ⊢
        exact h
    · have g1 := h1.opens e he
      have g2 := sh e' he'
      simp only at g1
      rw [h] at g1
      omega
  · rw [joinO_eq] at he
    rcases List.mem_append.1 he with h | h
    · exact h1.kind e h
    · exact (sh e h).2.2.2
section
variable {X : Nat → Prop} {Z : Nat → Prop} {R : Type} {r : R}
theorem NodeRel.inv {w : World} {hs : List Hd} {h : Hd} {n : Node} {c : List Nat} (r : NodeRel w Z hs h n c) : NInv n := ⟨r.rows, r.opens, r.keys, r.kind⟩
/-- The array that is appended to. -/
theorem rowsOf_own {wd : Nat} {m : Mem} {x : AV} {K : Rows → Opens → Mem → Option R} (h : rowsOf false wd m x K = some r) :
    ∃ r1 o1 m1, K r1 o1 m1 = some r ∧ ∀ (w : World) (hs : List Hd) (c : List Nat) (v : Value), MemL w Z hs hs m c → ARel X w Z hs x v →
      ∃ hd cn c1, v = .slice hd.base hd.len hd.cap ∧ NodeRel w Z hs hd ⟨wd, r1, o1⟩ cn ∧ MemL w Z hs hs m1 c1 ∧ ∀ b, c1.count b + cn.count b ≤ c.count b := by
  unfold rowsOf at h
  split at h
  · simp at h
  · refine ⟨_, _, _, h, fun w hs c v hm hx => ?_⟩
    cases hx with
    | @o _ base =>
      refine ⟨⟨base, wd, 0, 0⟩, [], c, rfl, ⟨rfl, rfl, by simp, by simp, by simp, by simp, .inl ⟨rfl, rfl, rfl⟩⟩, hm, fun b => by simp⟩
  · rename_i id
    split at h
    · rename_i n hn
      cases hb : Nat.beq n.wd wd with
      | false => simp [hb] at h
      | true =>
        simp only [hb, cond_true] at h
        have hb := Nat.eq_of_beq_eq_true hb
        refine ⟨_, _, _, h, fun w hs c v hm hx => ?_⟩
        obtain ⟨hd, c1, cn, c2, e1, e2, e3, e4, e5, _⟩ := hm.at hn
        cases hx with
        | r hh =>
          rw [e1] at hh
          cases hh
          obtain ⟨nwd, nrows, nopens⟩ := n
          simp only at hb
          subst hb
          exact ⟨hd, cn, c1 ++ c2, rfl, e3, e5, fun b => by rw [e4]; simp only [List.count_append]; omega⟩
    · simp at h
  · simp at h
theorem flat_cells {w : World} {hs : List Hd} : ∀ {ds : Row} {vs : List Value}, flatRow ds = true → FroL w Z ds vs → CRelL w Z hs (ds.map D.up) vs [] := by
  intro ds
  induction ds with
  | nil => intro vs _ h; cases h; exact .nil
  | cons d ds ih =>
    intro vs hf h
    simp only [flatRow, List.all_cons, Bool.and_eq_true] at hf
    cases h with
    | cons h h' =>
      cases d with
      | v x => cases h with | v h => simpa [D.up] using CRelL.cons (CRel.v h) (ih (by simpa [flatRow] using hf.2) h')
      | s => simp at hf
/-- What is appended. -/
theorem rowsOf_any {wd : Nat} {m : Mem} {x : AV} {K : Rows → Opens → Mem → Option R} (h : rowsOf true wd m x K = some r) :
    ∃ r2 o2 m2, K r2 o2 m2 = some r ∧ ∀ (w : World) (hs : List Hd) (c : List Nat) (v : Value), MemL w Z hs hs m c → ARel X w Z hs x v →
      ∃ base cap vs cn c2, v = .slice base r2.length cap ∧ NInv ⟨wd, r2, o2⟩ ∧ CRelL w Z hs (Node.mk wd r2 o2).view vs cn ∧ (r2 ≠ [] → ∃ b off, base = some ⟨b, off, none⟩ ∧ Holds w b off vs) ∧
        MemL w Z hs hs m2 c2 ∧ ∀ b, c2.count b + cn.count b ≤ c.count b := by
  unfold rowsOf at h
  split at h
  · rename_i wd' rows
    cases hb : Nat.beq wd' wd with
    | false => simp [hb] at h
    | true =>
      simp only [hb, Bool.true_and, cond_true] at h
      have hb := Nat.eq_of_beq_eq_true hb
      subst hb
      obtain ⟨hf, h⟩ := tst_some h
      refine ⟨_, _, _, h, fun w hs c v hm hx => ?_⟩
      cases hx with
      | fz hx =>
        cases hx with
        | @z _ cap base => exact ⟨base, cap, [], [], c, rfl, ⟨by simp, by simp, by simp, by simp⟩, .nil, by simp, hm, fun b => by simp⟩
        | @s _ b off cap _ vs hw hc hz hh hl =>
          refine ⟨_, cap, vs, [], c, rfl, ⟨hw, by simp, by simp, by simp⟩, ?_, fun _ => ⟨b, off, rfl, hh⟩, hm, fun b => by simp⟩
          show CRelL w Z hs (viewRows [] 0 rows) vs []
          rw [viewRows_nil]
          refine flat_cells ?_ hl
          rw [flatRow, List.all_flatten]
          exact hf
  · refine ⟨_, _, _, h, fun w hs c v hm hx => ?_⟩
    cases hx with
    | @o _ base => exact ⟨base, 0, [], [], c, rfl, ⟨by simp, by simp, by simp, by simp⟩, .nil, by simp, hm, fun b => by simp⟩
  · rename_i id
    split at h
    · rename_i n hn
      cases hb : Nat.beq n.wd wd with
      | false => simp [hb] at h
      | true =>
        simp only [hb, cond_true] at h
        have hb := Nat.eq_of_beq_eq_true hb
        refine ⟨_, _, _, h, fun w hs c v hm hx => ?_⟩
        obtain ⟨hd, c1, cn, c2, e1, e2, e3, e4, e5, _⟩ := hm.at hn
        cases hx with
        | r hh =>
          rw [e1] at hh
          cases hh
          obtain ⟨nwd, nrows, nopens⟩ := n
          simp only at hb
          subst hb
          have hlen := e3.len
          simp only at hlen
          rcases e3.mem with ⟨z1, z2, rfl⟩ | ⟨b, off, vs, c', f1, f2, f3, f4, f5, rfl⟩
          · simp only at z1
            refine ⟨hd.base, hd.cap, [], [], c1 ++ c2, by rw [hlen], e3.inv, ?_, fun h => absurd z1 h, e5, fun b => by rw [e4]; simp [List.count_append]⟩
            simp only [Node.view, z1, viewRows]
            exact .nil
          · refine ⟨hd.base, hd.cap, vs, c', c1 ++ c2, by rw [hlen], e3.inv, f5, fun _ => ⟨b, off, f1, f3⟩, e5, fun b => by rw [e4]; simp only [List.count_append, List.count_cons]; omega⟩
    · simp at h
  · simp at h
theorem Holds.cells {w : World} {b off : Nat} {vs : List Value} (h : Holds w b off vs) : ∀ j v, vs[j]? = some v → w.cell? ((⟨b, off, none⟩ : Addr).add j) = some v := fun j v hj => by
  obtain ⟨cs, e, f, h1, h2⟩ := h
  rw [addr_add]
  simp [World.cell?, h1, h2 j v hj]
/-- Cells that are read, in any world with this heap. -/
theorem run_first {P : Program} {w w' : World} {base : Option Addr} {size n cap : Nat} {vs : List Value} (hw : w'.heap = w.heap) (hl : vs.length = n * size) (hb : vs = [] ∨ ∃ b off, base = some ⟨b, off, none⟩ ∧ Holds w b off vs) :
    (Builtin.firstCells size n (.slice base n cap)).run P w' = .ok vs.toArray w' := by
  rcases hb with rfl | ⟨b, off, rfl, hh⟩
  · have h0 : n * size = 0 := by simpa using hl.symm
    cases base with
    | none => simp [Builtin.firstCells]
    | some a => simp [Builtin.firstCells, h0, loadCells, loadCellsFrom]
  · have hh' : Holds w' b off vs := by unfold Holds at *; rwa [hw]
    exact run_firstCells_some (P := P) w' size n ⟨b, off, none⟩ n cap vs hl hh'.cells
theorem run_app_room {P : Program} {w : World} {t t2 ty e e2 : TypeId} {ti : TypeInfo} {base base2 : Option Addr} {sLen sCap n cap2 : Nat} {vs : List Value} (ht : P.underlying t = some (.slice e)) (ht2 : P.underlying t2 = some (.slice e2))
    (hi : P.info? e = some ti) (hf : (Builtin.firstCells ti.size n (.slice base2 n cap2)).run P w = .ok vs.toArray w) (hroom : sLen + n ≤ sCap) {w' : World}
    (hst : match base with | some a => (storeCells (a.add (sLen * ti.size)) vs 0).run P w = .ok () w' | none => w' = w) :
    (Builtin.append_ #[t, t2] ty #[.slice base sLen sCap, .slice base2 n cap2]).run P w = .ok (.slice base (sLen + n) sCap) w' := by
  cases base with
  | none =>
    simp only at hst
    subst hst
    simp [Builtin.append_, run_underlying ht, run_underlying ht2, sizeOf, typeInfo, hi, Builtin.lenOf, hroom, hf]
  | some a =>
    simp only at hst
    simp [Builtin.append_, run_underlying ht, run_underlying ht2, sizeOf, typeInfo, hi, Builtin.lenOf, hroom, hf, hst]
theorem run_app_grow {P : Program} {w : World} {t t2 ty e e2 : TypeId} {ti : TypeInfo} {z : Value} {base base2 : Option Addr} {sLen sCap n cap2 : Nat} {vs us : List Value} (ht : P.underlying t = some (.slice e)) (ht2 : P.underlying t2 = some (.slice e2))
    (hi : P.info? e = some ti) (hz : ti.zero = some z) (hfo : (Builtin.firstCells ti.size sLen (.slice base sLen sCap)).run P w.drew = .ok us.toArray w.drew)
    (hf : (Builtin.firstCells ti.size n (.slice base2 n cap2)).run P w.drew = .ok vs.toArray w.drew) (hg : sCap < sLen + n) (h63 : ((sLen + n : Nat) : Int) ≤ 9223372036854775807)
    (hfit : Builtin.nextslicecap (sLen + n) sCap * ti.bytes ≤ 281474976710656) :
    (Builtin.append_ #[t, t2] ty #[.slice base sLen sCap, .slice base2 n cap2]).run P w =
      .ok (.slice (some ⟨w.heap.size, 0, none⟩) (sLen + n) (grownCap w (sLen + n) sCap e))
        (w.drew.alloc (.cells (us.toArray ++ vs.toArray ++ Builtin.zeroCells z.cells (grownCap w (sLen + n) sCap e - (sLen + n))) e)) := by
  have hn : ¬ (sLen + n ≤ sCap) := by omega
  have h63' : ¬ (9223372036854775807 < ((sLen : Int) + (n : Int))) := by omega
  have h48' : ¬ (281474976710656 < Builtin.nextslicecap (sLen + n) sCap * ti.bytes) := by omega
  simp [Builtin.append_, run_underlying ht, run_underlying ht2, sizeOf, typeInfo, zeroValue, hi, hz, Builtin.lenOf, hn, h63', h48', Question.forced, hf, hfo, newRow, grownCap]
  congr 2
  apply Array.ext'
  simp [List.append_assoc]
/-- Cells behind the last. -/
theorem Holds.push {w : World} {b off : Nat} : ∀ {us : List Value} {vs : List Value}, Holds w b off vs → Free w b (off + vs.length) us.length → Holds (w.setCells b (off + vs.length) us) b off (vs ++ us) := by
  intro us
  induction us generalizing w with
  | nil => intro vs h _; simpa [World.setCells] using h
  | cons u us ih =>
    intro vs h hf
    have h1 : Holds (w.setCell ⟨b, off + vs.length, none⟩ u) b off (vs ++ [u]) := by
      obtain ⟨cs, e, fz, g1, g2⟩ := h
      obtain ⟨cs', e', fz', f1, f2, f3⟩ := hf
      rw [g1] at f1
      cases f1
      refine ⟨_, e, fz, setCell_heap.2.2 _ _ _ g1, fun k v hk => ?_⟩
      rw [List.getElem?_append] at hk
      split at hk
      · rename_i hlt
        have := g2 _ _ hk
        rw [Array.getElem?_setIfInBounds]
        have : ¬ (off + vs.length = off + k) := by omega
        simp only [this, if_false]
        exact g2 _ _ hk
      · have hk0 : k = vs.length := by
          have := (List.getElem?_eq_some_iff.1 hk).1
          simp at this
          omega
        subst hk0
        simp only [Nat.sub_self, List.getElem?_cons_zero, Option.some.injEq] at hk
        subst hk
        rw [Array.getElem?_setIfInBounds]
        have : off + vs.length < cs.size := by simp at f2; omega
        simp [this]
    have h2 : Free (w.setCell ⟨b, off + vs.length, none⟩ u) b (off + (vs ++ [u]).length) us.length := by
      have : Free w b (off + (vs ++ [u]).length) us.length := by
        obtain ⟨cs', e', fz', f1, f2, f3⟩ := hf
        simp only [List.length_cons, List.length_append, List.length_nil] at *
        exact ⟨cs', e', fz', f1, by omega, fun k hk hk' => f3 k (by omega) (by omega)⟩
      exact this.set
    have := ih h1 h2
    simpa [List.append_assoc, World.setCells, Nat.add_assoc] using this
theorem setCells_other {b : Nat} : ∀ {us : List Value} {o : Nat} {w : World}, (∀ x, x ≠ b → (w.setCells b o us).heap[x]? = w.heap[x]?) ∧ (w.setCells b o us).heap.size = w.heap.size := by
  intro us
  induction us with
  | nil => intro o w; exact ⟨fun _ _ => rfl, rfl⟩
  | cons u us ih =>
    intro o w
    obtain ⟨h1, h2⟩ := ih (o := o + 1) (w := w.setCell ⟨b, o, none⟩ u)
    exact ⟨fun x hx => (h1 x hx).trans (setCell_heap.1 x hx), h2.trans setCell_heap.2.1⟩
theorem Free.setCells {b off n : Nat} : ∀ {us : List Value} {o : Nat} {w : World}, Free w b off n → Free (w.setCells b o us) b off n := by
  intro us
  induction us with
  | nil => intro o w h; exact h
  | cons u us ih => intro o w h; exact ih h.set
theorem run_storeFree {P : Program} {w : World} {b o : Nat} {us : List Value} (hf : Free w b o us.length) (h1 : ∀ v ∈ us, v.oneCell' = true) : (storeCells ⟨b, o, none⟩ us 0).run P w = .ok () (w.setCells b o us) := by
  obtain ⟨cs, e, fz, g1, g2, g3⟩ := hf
  have := run_storeCells_cells (P := P) b o us 0 w (fun j hj => by
    have : o + 0 + j < cs.size := by omega
    simp only [Nat.add_zero] at this
    simp [World.cell?, g1, this]) (fun j hj => by
    have := g3 (o + 0 + j) (by omega) (by omega)
    simp only [World.frozen?, g1]
    simpa using this) h1
  simpa using this
theorem CRel.one {w : World} {hs : List Hd} {x : AV} {v : Value} {c : List Nat} (h : CRel w Z hs x v c) : v.oneCell' = true := by
  cases h with
  | v h => rcases sc_cases h with ⟨k, n, rfl⟩ | ⟨b, rfl⟩ | ⟨s, rfl⟩ <;> rfl
  | o h => cases h <;> rfl
  | fz h => cases h <;> rfl
  | r h => rfl
theorem CRelL.one {w : World} {hs : List Hd} {xs : List AV} : ∀ {vs : List Value} {c : List Nat}, CRelL w Z hs xs vs c → ∀ v ∈ vs, v.oneCell' = true := by
  induction xs with
  | nil => intro vs c h; cases h; simp
  | cons x xs ih => intro vs c h; cases h with
    | cons h h' =>
      intro v hv
      rcases List.mem_cons.1 hv with rfl | hv
      · exact h.one
      · exact ih h' v hv
end
section
variable {P : Program} {sg : Sigs} {T : Table} {keep : List Nat} {N : Nat} {args : Nat → Value} {w0 : World} {c0 : List Nat} {Z : Nat → Prop}
theorem post_new {X : Nat → Prop} {w' : World} {hs : List Hd} {m : Mem} {c cn : List Nat} {hd : Hd} {n : Node} (hm : MemL w' Z hs hs m c) (hn : NodeRel w' Z hs hd n cn) (hw : WInv w0 c0 Z w' (c ++ cn)) :
    OpPost X w0 c0 Z hs (.r m.length) (m ++ [some n]) (.slice hd.base hd.len hd.cap) w' :=
  ⟨hs ++ [hd], c ++ cn, Ext.append _ _, (hm.frame (fun _ h => h) (fun _ _ => rfl) (fun _ _ => rfl) (Ext.append _ _)).append (hn.frame (fun _ h => h) (fun _ _ => rfl) (fun _ _ => rfl) (Ext.append _ _)),
    .r (by rw [← hm.length]; simp), hw⟩
theorem app_ok {R : Type} {r : R} {o : Oper} {st : St} {x y : Opd} {x' y' : Operand} {t t2 e e2 : TypeId} {ti : TypeInfo} {z : Value} {wd bytes : Nat} {K : AV → Mem → Option R} (hx : chkOpd sg x x' = true) (hy : chkOpd sg y y' = true)
    (ht : P.underlying t = some (.slice e)) (ht2 : P.underlying t2 = some (.slice e2)) (hi : P.info? e = some ti) (hz : ti.zero = some z) (hzs : z.cells.size = wd) (hs : ti.size = wd) (hb : ti.bytes = bytes) (hb0 : bytes ≠ 0)
    (ho : o.op = .call { callee := .builtin .append, args := #[x', y'], argTypes := #[t, t2] })
    (h : evalOp T st.t st.m (.app wd bytes x y) K = some r) : ∃ av m', K av m' = some r ∧ OpOk P sg keep N args w0 c0 Z o st av m' := by
  simp only [evalOp] at h
  obtain ⟨r1, o1, m1, h, g1⟩ := rowsOf_own (X := sg.X) (Z := Z) h
  obtain ⟨r2, o2, m2, h, g2⟩ := rowsOf_any (X := sg.X) (Z := Z) h
  obtain ⟨hsz, h⟩ := tst_some h
  have hsz : (r1.length + r2.length) * bytes ≤ 140737488355328 := of_decide_eq_true hsz
  refine ⟨_, _, h, fun hs' c a w hin next Q hnext => ?_⟩
  have hp := chkOpd_ok hx hin
  have hq := chkOpd_ok hy hin
  obtain ⟨hd, cn1, c1, e1, n1, em1, k1⟩ := g1 w hs' c _ hin.mem hp
  obtain ⟨base2, cap2, vs2, cn2, c2, f1, n2, f3, f4, em2, k2⟩ := g2 w hs' c1 _ em1 hq
  have hl1 : hd.len = r1.length := n1.len
  have hw1 : hd.wd = wd := n1.wd
  have hl2 : vs2.length = r2.length * wd := by
    have := f3.length
    unfold Node.view at this
    rw [viewRows_length _ _ _ n2.rows 0] at this
    exact this
  have hneed : r1.length + r2.length ≤ 140737488355328 := Nat.le_trans (Nat.le_mul_of_pos_right _ (Nat.pos_of_ne_zero hb0)) hsz
  have hb2 : vs2 = [] ∨ ∃ b off, base2 = some ⟨b, off, none⟩ ∧ Holds w b off vs2 := by
    by_cases h0 : r2 = []
    · exact .inl (List.length_eq_zero_iff.1 (by rw [hl2, h0]; simp))
    · exact .inr (f4 h0)
  have hinv := join_inv n1.inv n2
  have hview := view_join (wd := wd) (r1 := r1) (r2 := r2) (o1 := o1) (o2 := o2) (fun e he => (n1.opens e he).1)
  have run : ∀ {v : Value} {w' : World}, (Builtin.append_ #[t, t2] o.type #[.slice hd.base r1.length hd.cap, .slice base2 r2.length cap2]).run P w = .ok v w' → (execOp a.eval o).run P w = .ok (.value v) w' := fun {v w'} hr => by
    rw [hl1] at e1
    simp [execOp, ho, resolve, invoke, builtin, e1, f1, hr]
  have cnt : ∀ b, c2.count b + (cn1.count b + cn2.count b) ≤ c.count b := fun b => by
    have := k1 b
    have := k2 b
    omega
  unfold Oper.wp
  by_cases hroom : r1.length + r2.length ≤ hd.cap
  · rcases n1.mem with ⟨z1, z2, rfl⟩ | ⟨b, off, vs1, c1', q1, q2, q3, q4, q5, rfl⟩
    · simp only at z1
      have h20 : r2 = [] := List.length_eq_zero_iff.1 (by omega)
      have hv0 : vs2 = [] := List.length_eq_zero_iff.1 (by rw [hl2, h20]; simp)
      subst hv0
      have hr := run_app_room (P := P) (ty := o.type) (w' := w) (base := hd.base) ht ht2 hi (run_first (P := P) (cap := cap2) rfl (by rw [hs]; exact hl2) hb2) hroom (by
        split
        · rfl
        · rfl)
      rw [run hr]
      refine hnext _ _ ?_
      refine post_new (hd := ⟨hd.base, wd, r1.length + r2.length, hd.cap⟩) (cn := []) em2 ⟨rfl, by simp, hinv.rows, hinv.opens, hinv.keys, hinv.kind, .inl ⟨by simp [z1, h20], z2, rfl⟩⟩ ?_
      exact hin.win.less fun b => by have := cnt b; simp only [List.append_nil]; omega
    · have hlv : vs1.length = r1.length * wd := by
        have := q5.length
        unfold Node.view at this
        rw [viewRows_length _ _ _ n1.rows 0] at this
        exact this
      have hbc : b ∈ c := by
        have := cnt b
        simp only [List.count_cons_self] at this
        exact List.count_pos_iff.1 (by omega)
      have hcb : ∀ l : List Nat, l.count b = 0 → ∀ y ∈ l, y ≠ b := fun l hl y hy e => by
        subst e
        exact List.count_eq_zero.1 hl hy
      have hone := hin.win.cnt b
      have hcntb := cnt b
      simp only [List.count_cons_self] at hcntb
      have hzb : ¬ Z b := fun hz => hin.win.dis b hz hbc
      have hfree : Free w b (off + vs1.length) vs2.length := by
        obtain ⟨cs, el, fz, j1, j2, j3⟩ := q4
        have h1 : (r1.length + r2.length) * wd ≤ hd.cap * wd := Nat.mul_le_mul_right _ hroom
        rw [Nat.add_mul] at h1
        exact ⟨cs, el, fz, j1, by simp only at j2; omega, fun k hk hk' => j3 k (by omega) (by simp only; omega)⟩
      have hst := run_storeFree (P := P) hfree (CRelL.one f3)
      have hr := run_app_room (P := P) (ty := o.type) (w' := w.setCells b (off + vs1.length) vs2) (base := hd.base) ht ht2 hi (run_first (P := P) (cap := cap2) rfl (by rw [hs]; exact hl2) hb2) hroom (by
        rw [q1]
        simp only [addr_add, hs, ← hlv]
        exact hst)
      rw [run hr]
      refine hnext _ _ ?_
      obtain ⟨hoth, hsize⟩ := setCells_other (b := b) (us := vs2) (o := off + vs1.length) (w := w)
      have hz' : ∀ y, Z y → (w.setCells b (off + vs1.length) vs2).heap[y]? = w.heap[y]? := fun y hy => hoth y (by rintro rfl; exact hzb hy)
      refine post_new (hd := ⟨hd.base, wd, r1.length + r2.length, hd.cap⟩) (cn := b :: (c1' ++ cn2)) (em2.frame (fun _ h => h) hz' (fun y hy => hoth y (hcb _ (by omega) y hy)) (Ext.refl _))
        ⟨rfl, by simp, hinv.rows, hinv.opens, hinv.keys, hinv.kind, .inr ⟨b, off, vs1 ++ vs2, c1' ++ cn2, q1, by simpa using hroom, q3.push hfree, q4.setCells, ?_, rfl⟩⟩ ?_
      · rw [hview]
        exact (q5.frame (fun _ h => h) hz' (fun y hy => hoth y (hcb _ (by omega) y hy)) (Ext.refl _)).append (f3.frame (fun _ h => h) hz' (fun y hy => hoth y (hcb _ (by omega) y hy)) (Ext.refl _))
      · refine (hin.win.write hbc hoth hsize (setCells_mute _ _ _)).less fun y => ?_
        have := cnt y
        simp only [List.count_append, List.count_cons] at *
        omega
  · have hcap : r1.length ≤ hd.cap := by
      rcases n1.mem with ⟨z1, z2, _⟩ | ⟨b, off, vs1, c1', q1, q2, _⟩
      · simp only at z1; simp [z1]
      · exact q2
    obtain ⟨vs1, c1', q1, q5, q6⟩ : ∃ vs1 c1', (vs1 = [] ∨ ∃ b off, hd.base = some ⟨b, off, none⟩ ∧ Holds w b off vs1) ∧ CRelL w Z hs' (Node.mk wd r1 o1).view vs1 c1' ∧ ∀ b, c1'.count b ≤ cn1.count b := by
      rcases n1.mem with ⟨z1, z2, rfl⟩ | ⟨b, off, vs1, c1', q1, q2, q3, q4, q5, rfl⟩
      · simp only at z1
        refine ⟨[], [], .inl rfl, ?_, fun b => Nat.le_refl _⟩
        simp only [Node.view, z1, viewRows]
        exact .nil
      · exact ⟨vs1, c1', .inr ⟨b, off, q1, q3⟩, q5, fun b => by simp only [List.count_cons]; omega⟩
    have hlv : vs1.length = r1.length * wd := by
      have := q5.length
      unfold Node.view at this
      rw [viewRows_length _ _ _ n1.rows 0] at this
      exact this
    have hfit : Builtin.nextslicecap (r1.length + r2.length) hd.cap * ti.bytes ≤ 281474976710656 := growslice_fits (by omega) (by rw [hb]; exact hsz)
    have hr := run_app_grow (P := P) (ty := o.type) (w := w) ht ht2 hi hz (run_first (P := P) (w' := w.drew) (cap := hd.cap) rfl (by rw [hs]; exact hlv) q1) (run_first (P := P) (w' := w.drew) (cap := cap2) rfl (by rw [hs]; exact hl2) hb2) (by omega) (by omega) hfit
    generalize hnc : grownCap w (r1.length + r2.length) hd.cap e = newCap at hr
    have hge : r1.length + r2.length ≤ newCap := by rw [← hnc]; exact grownCap_ge ..
    generalize hcells : vs1.toArray ++ vs2.toArray ++ Builtin.zeroCells z.cells (newCap - (r1.length + r2.length)) = cells at hr
    have hcs : cells.size = newCap * wd := by
      rw [← hcells]
      simp only [Array.size_append, List.size_toArray, size_zeroCells, hzs, hlv, hl2, ← Nat.add_mul]
      congr 1
      omega
    rw [run hr]
    refine hnext _ _ ?_
    have hheap : (w.drew.alloc (.cells cells e)).heap = w.heap.push (.cells cells e) := rfl
    obtain ⟨p1, p2, p3⟩ := push_get hheap
    have hlt := hin.mem.lt
    have hltc : ∀ (l : List Nat), (∀ b, l.count b ≤ c.count b) → ∀ b ∈ l, b < w.heap.size := fun l hl b hb => hlt b (List.count_pos_iff.1 (by have := hl b; have := List.count_pos_iff.2 hb; omega))
    have hz' : ∀ b, Z b → (w.drew.alloc (.cells cells e)).heap[b]? = w.heap[b]? := fun b hb => p1 b (by have := hin.win.zlt b hb; have := hin.win.size; omega)
    refine post_new (hd := ⟨some ⟨w.heap.size, 0, none⟩, wd, r1.length + r2.length, newCap⟩) (cn := w.heap.size :: (c1' ++ cn2))
      (em2.frame (fun _ h => h) hz' (fun b hb => p1 b (hltc c2 (fun b => by have := cnt b; omega) b hb)) (Ext.refl _))
      ⟨rfl, by simp, hinv.rows, hinv.opens, hinv.keys, hinv.kind, .inr ⟨w.heap.size, 0, vs1 ++ vs2, c1' ++ cn2, rfl, by simpa using hge, ⟨cells, e, (0, 0), p2, fun k v hk => ?_⟩, ⟨cells, e, (0, 0), p2, by simp only [hcs]; omega, fun k _ _ => by simp⟩, ?_, rfl⟩⟩ ?_
    · rw [← hcells, ← Array.getElem?_toList]
      simp only [Array.toList_append, Nat.zero_add]
      rw [List.getElem?_append_left (by simpa using (List.getElem?_eq_some_iff.1 hk).1)]
      exact hk
    · rw [hview]
      exact (q5.frame (fun _ h => h) hz' (fun b hb => p1 b (hltc c1' (fun b => by have := cnt b; have := q6 b; omega) b hb)) (Ext.refl _)).append
        (f3.frame (fun _ h => h) hz' (fun b hb => p1 b (hltc cn2 (fun b => by have := cnt b; omega) b hb)) (Ext.refl _))
    · refine (hin.win.push hlt hheap ⟨rfl, rfl, rfl⟩).less fun b => ?_
      have := cnt b
      have := q6 b
      simp only [List.count_append, List.count_cons, List.count_nil] at *
      omega
end
end Go.Am
