/- AM: how closed data and temporaries stand to a world; frames. Nothing is assumed. -/
import Derived.Test.YtgnicnelpcndgaaAmCore
set_option linter.unusedVariables false
set_option linter.unusedSimpArgs false
namespace Go.Am

def Sc : Value → Prop
  | .int _ _ => True
  | .bool _ => True
  | .string _ => True
  | _ => False
/-- Block b holds these values from a place on. -/
def Holds (w : World) (b off : Nat) (vs : List Value) : Prop :=
  ∃ cs elem fz, w.heap[b]? = some (.cells cs elem fz) ∧ ∀ k v, vs[k]? = some v → cs[off + k]? = some v
/-- Block b has these n cells, and they may be written. -/
def Free (w : World) (b off n : Nat) : Prop :=
  ∃ cs elem fz, w.heap[b]? = some (.cells cs elem fz) ∧ off + n ≤ cs.size ∧ ∀ k, off ≤ k → k < off + n → ¬ (fz.1 ≤ k ∧ k < fz.2)
theorem Holds.frame {w w' : World} {b off : Nat} {vs : List Value} (h : Holds w b off vs) (hb : w'.heap[b]? = w.heap[b]?) : Holds w' b off vs := by
  unfold Holds at *
  rwa [hb]
theorem Free.frame {w w' : World} {b off n : Nat} (h : Free w b off n) (hb : w'.heap[b]? = w.heap[b]?) : Free w' b off n := by
  unfold Free at *
  rwa [hb]
theorem Holds.lt {w : World} {b off : Nat} {vs : List Value} (h : Holds w b off vs) : b < w.heap.size := by
  obtain ⟨cs, e, f, h, _⟩ := h
  rcases Nat.lt_or_ge b w.heap.size with h' | h'
  · exact h'
  · simp [Array.getElem?_eq_none h'] at h

mutual
/-- Own data: the blocks that it owns. -/
inductive OwnD (w : World) : D → Value → List Nat → Prop
  | v {x : Value} (h : Sc x) : OwnD w (.v x) x []
  | z {wd : Nat} {base : Option Addr} : OwnD w (.s wd []) (.slice base 0 0) []
  | s {wd b off cap : Nat} {rows : Rows} {vs : List Value} {c : List Nat} (hw : ∀ r ∈ rows, r.length = wd) (hc : rows.length ≤ cap)
      (hh : Holds w b off vs) (hf : Free w b off (cap * wd)) (hl : OwnL w rows.flatten vs c) : OwnD w (.s wd rows) (.slice (some ⟨b, off, none⟩) rows.length cap) (b :: c)
inductive OwnL (w : World) : List D → List Value → List Nat → Prop
  | nil : OwnL w [] [] []
  | cons {d : D} {ds : List D} {v : Value} {vs : List Value} {c c' : List Nat} (h : OwnD w d v c) (h' : OwnL w ds vs c') : OwnL w (d :: ds) (v :: vs) (c ++ c')
end
mutual
/-- Frozen data: blocks that nobody writes. -/
inductive FroD (w : World) (Z : Nat → Prop) : D → Value → Prop
  | v {x : Value} (h : Sc x) : FroD w Z (.v x) x
  | z {wd cap : Nat} {base : Option Addr} : FroD w Z (.s wd []) (.slice base 0 cap)
  | s {wd b off cap : Nat} {rows : Rows} {vs : List Value} (hw : ∀ r ∈ rows, r.length = wd) (hc : rows.length ≤ cap) (hz : Z b)
      (hh : Holds w b off vs) (hl : FroL w Z rows.flatten vs) : FroD w Z (.s wd rows) (.slice (some ⟨b, off, none⟩) rows.length cap)
inductive FroL (w : World) (Z : Nat → Prop) : List D → List Value → Prop
  | nil : FroL w Z [] []
  | cons {d : D} {ds : List D} {v : Value} {vs : List Value} (h : FroD w Z d v) (h' : FroL w Z ds vs) : FroL w Z (d :: ds) (v :: vs)
end
section
variable {w w' : World}
theorem OwnD.frame {d : D} {v : Value} {c : List Nat} (h : OwnD w d v c) : (∀ b ∈ c, w'.heap[b]? = w.heap[b]?) → OwnD w' d v c :=
  OwnD.rec (motive_1 := fun d v c _ => (∀ b ∈ c, w'.heap[b]? = w.heap[b]?) → OwnD w' d v c) (motive_2 := fun d v c _ => (∀ b ∈ c, w'.heap[b]? = w.heap[b]?) → OwnL w' d v c)
    (fun h _ => .v h) (fun _ => .z)
    (fun hw hc hh hf _ ih hb => .s hw hc (hh.frame (hb _ (by simp))) (hf.frame (hb _ (by simp))) (ih fun b h => hb b (by simp [h])))
    (fun _ => .nil) (fun _ _ ih ih' hb => .cons (ih fun b h => hb b (by simp [h])) (ih' fun b h => hb b (by simp [h]))) h
theorem OwnL.frame {d : List D} {v : List Value} {c : List Nat} (h : OwnL w d v c) (hb : ∀ b ∈ c, w'.heap[b]? = w.heap[b]?) : OwnL w' d v c := by
  induction d generalizing v c with
  | nil => cases h; exact .nil
  | cons d ds ih => cases h with
    | cons h h' => exact .cons (h.frame fun b h => hb b (by simp [h])) (ih h' fun b h => hb b (by simp [h]))
theorem OwnD.lt {d : D} {v : Value} {c : List Nat} (h : OwnD w d v c) : ∀ b ∈ c, b < w.heap.size :=
  OwnD.rec (motive_1 := fun _ _ c _ => ∀ b ∈ c, b < w.heap.size) (motive_2 := fun _ _ c _ => ∀ b ∈ c, b < w.heap.size)
    (fun _ => by simp) (by simp)
    (fun _ _ hh _ _ ih b hb => by
      rcases List.mem_cons.1 hb with rfl | hb
      · exact hh.lt
      · exact ih b hb)
    (by simp)
    (fun _ _ ih ih' b hb => by
      rcases List.mem_append.1 hb with hb | hb
      · exact ih b hb
      · exact ih' b hb) h
theorem OwnL.lt {d : List D} {v : List Value} {c : List Nat} (h : OwnL w d v c) : ∀ b ∈ c, b < w.heap.size := by
  induction d generalizing v c with
  | nil => cases h; simp
  | cons d ds ih => cases h with
    | cons h h' =>
      intro b hb
      rcases List.mem_append.1 hb with hb | hb
      · exact h.lt b hb
      · exact ih h' b hb
theorem FroD.frame {Z Z' : Nat → Prop} {d : D} {v : Value} (h : FroD w Z d v) (hz : ∀ b, Z b → Z' b) (hb : ∀ b, Z b → w'.heap[b]? = w.heap[b]?) : FroD w' Z' d v :=
  FroD.rec (motive_1 := fun d v _ => FroD w' Z' d v) (motive_2 := fun d v _ => FroL w' Z' d v)
    (fun h => .v h) (.z) (fun hw hc hz' hh _ ih => .s hw hc (hz _ hz') (hh.frame (hb _ hz')) ih) .nil (fun _ _ ih ih' => .cons ih ih') h
theorem FroL.frame {Z Z' : Nat → Prop} {d : List D} {v : List Value} (h : FroL w Z d v) (hz : ∀ b, Z b → Z' b) (hb : ∀ b, Z b → w'.heap[b]? = w.heap[b]?) : FroL w' Z' d v := by
  induction d generalizing v with
  | nil => cases h; exact .nil
  | cons d ds ih => cases h with | cons h h' => exact .cons (h.frame hz hb) (ih h')
theorem OwnD.fro {Z : Nat → Prop} {d : D} {v : Value} {c : List Nat} (h : OwnD w d v c) : (∀ b ∈ c, Z b) → FroD w Z d v :=
  OwnD.rec (motive_1 := fun d v c _ => (∀ b ∈ c, Z b) → FroD w Z d v) (motive_2 := fun d v c _ => (∀ b ∈ c, Z b) → FroL w Z d v)
    (fun h _ => .v h) (fun _ => .z) (fun hw hc hh _ _ ih hz => .s hw hc (hz _ (by simp)) hh (ih fun b h => hz b (by simp [h])))
    (fun _ => .nil) (fun _ _ ih ih' hz => .cons (ih fun b h => hz b (by simp [h])) (ih' fun b h => hz b (by simp [h]))) h
theorem OwnL.fro {Z : Nat → Prop} {d : List D} {v : List Value} {c : List Nat} (h : OwnL w d v c) (hz : ∀ b ∈ c, Z b) : FroL w Z d v := by
  induction d generalizing v c with
  | nil => cases h; exact .nil
  | cons d ds ih => cases h with
    | cons h h' => exact .cons (h.fro fun b h => hz b (by simp [h])) (ih h' fun b h => hz b (by simp [h]))
theorem OwnL.length {ds : List D} {vs : List Value} {c : List Nat} (h : OwnL w ds vs c) : vs.length = ds.length := by
  induction ds generalizing vs c with
  | nil => cases h; rfl
  | cons d ds ih => cases h with | cons h h' => simp [ih h']
theorem FroL.length {Z : Nat → Prop} {ds : List D} {vs : List Value} (h : FroL w Z ds vs) : vs.length = ds.length := by
  induction ds generalizing vs with
  | nil => cases h; rfl
  | cons d ds ih => cases h with | cons h h' => simp [ih h']
theorem FroL.get {Z : Nat → Prop} {ds : List D} {vs : List Value} (h : FroL w Z ds vs) {k : Nat} {d : D} (hk : ds[k]? = some d) : ∃ v, vs[k]? = some v ∧ FroD w Z d v := by
  induction ds generalizing vs k with
  | nil => simp at hk
  | cons d ds ih => cases h with
    | cons h h' => cases k with
      | zero => simp at hk; subst hk; exact ⟨_, rfl, h⟩
      | succ k => simpa using ih h' (by simpa using hk)
theorem FroL.drop {Z : Nat → Prop} {ds : List D} {vs : List Value} (h : FroL w Z ds vs) (k : Nat) : FroL w Z (ds.drop k) (vs.drop k) := by
  induction k generalizing ds vs with
  | zero => simpa using h
  | succ k ih => cases h with
    | nil => simpa using FroL.nil
    | cons h h' => simpa using ih h'
theorem FroL.take {Z : Nat → Prop} {ds : List D} {vs : List Value} (h : FroL w Z ds vs) (k : Nat) : FroL w Z (ds.take k) (vs.take k) := by
  induction k generalizing ds vs with
  | zero => simpa using FroL.nil
  | succ k ih => cases h with
    | nil => simpa using FroL.nil
    | cons h h' => simpa using FroL.cons h (ih h')
theorem FroL.append {Z : Nat → Prop} {ds es : List D} {vs us : List Value} (h : FroL w Z ds vs) (h' : FroL w Z es us) : FroL w Z (ds ++ es) (vs ++ us) := by
  induction ds generalizing vs with
  | nil => cases h; simpa using h'
  | cons d ds ih => cases h with | cons h h1 => simpa using FroL.cons h (ih h1)
end

/-! ### what temporaries hold -/
structure Hd where
  base : Option Addr
  wd : Nat
  len : Nat
  cap : Nat
mutual
inductive IFro (X : Nat → Prop) (w : World) (Z : Nat → Prop) : I → Value → Prop
  | d {d : D} {v : Value} (h : FroD w Z d v) : IFro X w Z (.d d) v
  | g {ds : Row} {vs : Array Value} (h : FroL w Z ds vs.toList) : IFro X w Z (.g ds) (.agg vs)
  | p {row : Row} {b off : Nat} {vs : List Value} (hz : Z b) (hh : Holds w b off vs) (h : FroL w Z row vs) : IFro X w Z (.p row) (.pointer (some ⟨b, off, none⟩))
  | f {fn : Nat} {caps : List I} {cs : Array Value} (hx : X fn) (h : IFroL X w Z caps cs.toList) : IFro X w Z (.f fn caps) (.func (.func fn) #[] cs)
  | t {xs : List I} {vs : Array Value} (h : IFroL X w Z xs vs.toList) : IFro X w Z (.t xs) (.tuple vs)
inductive IFroL (X : Nat → Prop) (w : World) (Z : Nat → Prop) : List I → List Value → Prop
  | nil : IFroL X w Z [] []
  | cons {x : I} {xs : List I} {v : Value} {vs : List Value} (h : IFro X w Z x v) (h' : IFroL X w Z xs vs) : IFroL X w Z (x :: xs) (v :: vs)
end
mutual
inductive IOwn (X : Nat → Prop) (w : World) : I → Value → List Nat → Prop
  | d {d : D} {v : Value} {c : List Nat} (h : OwnD w d v c) : IOwn X w (.d d) v c
  | g {ds : Row} {vs : Array Value} {c : List Nat} (h : OwnL w ds vs.toList c) : IOwn X w (.g ds) (.agg vs) c
  | p {row : Row} {b off : Nat} {vs : List Value} {c : List Nat} (hh : Holds w b off vs) (hf : Free w b off row.length) (h : OwnL w row vs c) : IOwn X w (.p row) (.pointer (some ⟨b, off, none⟩)) (b :: c)
  | f {fn : Nat} (hx : X fn) : IOwn X w (.f fn []) (.func (.func fn) #[] #[]) []
  | t {xs : List I} {vs : Array Value} {c : List Nat} (h : IOwnL X w xs vs.toList c) : IOwn X w (.t xs) (.tuple vs) c
inductive IOwnL (X : Nat → Prop) (w : World) : List I → List Value → List Nat → Prop
  | nil : IOwnL X w [] [] []
  | cons {x : I} {xs : List I} {v : Value} {vs : List Value} {c c' : List Nat} (h : IOwn X w x v c) (h' : IOwnL X w xs vs c') : IOwnL X w (x :: xs) (v :: vs) (c ++ c')
end
mutual
inductive ARel (X : Nat → Prop) (w : World) (Z : Nat → Prop) (hs : List Hd) : AV → Value → Prop
  | v {x : Value} (h : Sc x) : ARel X w Z hs (.v x) x
  | o {wd : Nat} {base : Option Addr} : ARel X w Z hs (.o wd []) (.slice base 0 0)
  | fz {wd : Nat} {rows : Rows} {v : Value} (h : FroD w Z (.s wd rows) v) : ARel X w Z hs (.fz wd rows) v
  | r {id : Nat} {h : Hd} (hh : hs[id]? = some h) : ARel X w Z hs (.r id) (.slice h.base h.len h.cap)
  | g {xs : List AV} {vs : Array Value} (h : ARelL X w Z hs xs vs.toList) : ARel X w Z hs (.g xs) (.agg vs)
  | a {id i c b off : Nat} {h : Hd} (hh : hs[id]? = some h) (hb : h.base = some ⟨b, off, none⟩) (hi : i < h.len) : ARel X w Z hs (.a id i c) (.pointer (some ⟨b, off + i * h.wd + c, none⟩))
  | fa {row : Row} {c b off : Nat} {vs : List Value} (hz : Z b) (hh : Holds w b off vs) (h : FroL w Z (row.drop c) vs) : ARel X w Z hs (.fa row c) (.pointer (some ⟨b, off, none⟩))
  | f {fn : Nat} {caps : List AV} {cs : Array Value} (hx : X fn) (h : ARelL X w Z hs caps cs.toList) : ARel X w Z hs (.f fn caps) (.func (.func fn) #[] cs)
  | ff {fn : Nat} {caps : List I} {cs : Array Value} (hx : X fn) (h : IFroL X w Z caps cs.toList) : ARel X w Z hs (.ff fn caps) (.func (.func fn) #[] cs)
  | t {xs : List AV} {vs : Array Value} (h : ARelL X w Z hs xs vs.toList) : ARel X w Z hs (.t xs) (.tuple vs)
  | n : ARel X w Z hs .n undef
  | u {v : Value} : ARel X w Z hs .u v
inductive ARelL (X : Nat → Prop) (w : World) (Z : Nat → Prop) (hs : List Hd) : List AV → List Value → Prop
  | nil : ARelL X w Z hs [] []
  | cons {x : AV} {xs : List AV} {v : Value} {vs : List Value} (h : ARel X w Z hs x v) (h' : ARelL X w Z hs xs vs) : ARelL X w Z hs (x :: xs) (v :: vs)
end
/-- A cell of an opened array. -/
inductive CRel (w : World) (Z : Nat → Prop) (hs : List Hd) : AV → Value → List Nat → Prop
  | v {x : Value} (h : Sc x) : CRel w Z hs (.v x) x []
  | o {wd : Nat} {rows : Rows} {v : Value} {c : List Nat} (h : OwnD w (.s wd rows) v c) : CRel w Z hs (.o wd rows) v c
  | fz {wd : Nat} {rows : Rows} {v : Value} (h : FroD w Z (.s wd rows) v) : CRel w Z hs (.fz wd rows) v []
  | r {id : Nat} {h : Hd} (hh : hs[id]? = some h) : CRel w Z hs (.r id) (.slice h.base h.len h.cap) []
inductive CRelL (w : World) (Z : Nat → Prop) (hs : List Hd) : List AV → List Value → List Nat → Prop
  | nil : CRelL w Z hs [] [] []
  | cons {x : AV} {xs : List AV} {v : Value} {vs : List Value} {c c' : List Nat} (h : CRel w Z hs x v c) (h' : CRelL w Z hs xs vs c') : CRelL w Z hs (x :: xs) (v :: vs) (c ++ c')
def viewRow (o : Opens) (i : Nat) : Nat → Row → List AV
  | _, [] => []
  | j, d :: ds => (findO i j o).getD d.up :: viewRow o i (j + 1) ds
def viewRows (o : Opens) : Nat → Rows → List AV
  | _, [] => []
  | i, r :: rs => viewRow o i 0 r ++ viewRows o (i + 1) rs
def Node.view (n : Node) : List AV := viewRows n.opens 0 n.rows
structure NodeRel (w : World) (Z : Nat → Prop) (hs : List Hd) (h : Hd) (n : Node) (c : List Nat) : Prop where
  wd : h.wd = n.wd
  len : h.len = n.rows.length
  rows : ∀ r ∈ n.rows, r.length = n.wd
  opens : ∀ e ∈ n.opens, e.1.1 < n.rows.length ∧ e.1.2 < n.wd
  keys : n.opens.Pairwise fun e e' => e.1 ≠ e'.1
  kind : ∀ e ∈ n.opens, (∃ id, e.2 = .r id) ∨ ∃ wd rows, e.2 = .fz wd rows
  mem : (n.rows = [] ∧ h.cap = 0 ∧ c = []) ∨ ∃ b off vs c', h.base = some ⟨b, off, none⟩ ∧ n.rows.length ≤ h.cap ∧ Holds w b off vs ∧ Free w b off (h.cap * n.wd) ∧ CRelL w Z hs n.view vs c' ∧ c = b :: c'
/-- The whole memory of an activation, with all the blocks that it owns. -/
inductive MemL (w : World) (Z : Nat → Prop) (hs : List Hd) : List Hd → Mem → List Nat → Prop
  | nil : MemL w Z hs [] [] []
  | dead {h : Hd} {l : List Hd} {m : Mem} {c : List Nat} (r : MemL w Z hs l m c) : MemL w Z hs (h :: l) (none :: m) c
  | live {h : Hd} {l : List Hd} {n : Node} {m : Mem} {c c' : List Nat} (hn : NodeRel w Z hs h n c) (r : MemL w Z hs l m c') : MemL w Z hs (h :: l) (some n :: m) (c ++ c')
end Go.Am
