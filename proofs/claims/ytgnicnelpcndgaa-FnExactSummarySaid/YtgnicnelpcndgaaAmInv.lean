/- AM: what holds of an activation; contracts; the first operations. Nothing is assumed. -/
import Derived.Test.YtgnicnelpcndgaaAmSnap
set_option linter.unusedVariables false
set_option linter.unusedSimpArgs false
namespace Go.Am
/-- What an activation may have done to the world that it began in: its own blocks, and new ones. -/
structure Mute (w w' : World) : Prop where
  os : w'.os = w.os
  output : w'.output = w.output
  tape : w'.tape = w.tape
theorem Mute.refl (w : World) : Mute w w := ⟨rfl, rfl, rfl⟩
theorem Mute.trans {a b c : World} (h : Mute a b) (h' : Mute b c) : Mute a c := ⟨h'.os.trans h.os, h'.output.trans h.output, h'.tape.trans h.tape⟩
structure WInv (w0 : World) (c0 : List Nat) (Z : Nat → Prop) (w : World) (c : List Nat) : Prop where
  cnt : ∀ b, c.count b ≤ 1
  dis : ∀ b, Z b → b ∉ c
  zlt : ∀ b, Z b → b < w0.heap.size ∧ b ∉ c0
  size : w0.heap.size ≤ w.heap.size
  own : ∀ b ∈ c, b ∈ c0 ∨ w0.heap.size ≤ b
  frame : ∀ b, b < w0.heap.size → b ∉ c0 → w.heap[b]? = w0.heap[b]?
  mute : Mute w0 w
theorem WInv.zsame {w0 w w' : World} {c0 c c' : List Nat} {Z : Nat → Prop} (h : WInv w0 c0 Z w c) (h' : WInv w0 c0 Z w' c') : ∀ b, Z b → w'.heap[b]? = w.heap[b]? :=
  fun b hb => by
    obtain ⟨h1, h2⟩ := h.zlt b hb
    rw [h.frame b h1 h2, h'.frame b h1 h2]
/-- Blocks may be let go. -/
theorem WInv.less {w0 w : World} {c0 c c' : List Nat} {Z : Nat → Prop} (h : WInv w0 c0 Z w c) (hc : ∀ b, c'.count b ≤ c.count b) : WInv w0 c0 Z w c' := by
  have sub : ∀ b ∈ c', b ∈ c := fun b hb => by
    have h1 := List.count_pos_iff.2 hb
    have h2 := hc b
    exact List.count_pos_iff.1 (by omega)
  exact ⟨fun b => by have h1 := hc b; have h2 := h.cnt b; omega, fun b hz hb => h.dis b hz (sub b hb), h.zlt, h.size, fun b hb => h.own b (sub b hb), h.frame, h.mute⟩
theorem push_get {w w' : World} {o : Obj} (hw : w'.heap = w.heap.push o) : (∀ b, b < w.heap.size → w'.heap[b]? = w.heap[b]?) ∧ w'.heap[w.heap.size]? = some o ∧ w'.heap.size = w.heap.size + 1 := by
  refine ⟨fun b hb => ?_, ?_, ?_⟩
  · rw [hw, Array.getElem?_push]
    have : b ≠ w.heap.size := by omega
    simp [this]
  · rw [hw]; simp
  · rw [hw]; simp
theorem WInv.push {w0 w w' : World} {c0 c : List Nat} {Z : Nat → Prop} {o : Obj} (h : WInv w0 c0 Z w c) (hc : ∀ b ∈ c, b < w.heap.size) (hw : w'.heap = w.heap.push o) (hmu : Mute w w' := by exact ⟨rfl, rfl, rfl⟩) :
    WInv w0 c0 Z w' (c ++ [w.heap.size]) := by
  obtain ⟨h1, h2, h3⟩ := push_get hw
  have hs := h.size
  refine ⟨fun b => ?_, fun b hz hb => ?_, h.zlt, by omega, fun b hb => ?_, fun b hb hn => ?_, h.mute.trans hmu⟩
  · rw [List.count_append]
    have := h.cnt b
    by_cases hb : b = w.heap.size
    · subst hb
      have : c.count w.heap.size = 0 := List.count_eq_zero.2 fun hm => Nat.lt_irrefl _ (hc _ hm)
      simp [this]
    · have : [w.heap.size].count b = 0 := List.count_eq_zero.2 (by simpa using hb)
      omega
  · rcases List.mem_append.1 hb with hb | hb
    · exact h.dis b hz hb
    · have := h.zlt b hz
      simp at hb
      omega
  · rcases List.mem_append.1 hb with hb | hb
    · exact h.own b hb
    · simp at hb
      exact .inr (by omega)
  · rw [h1 b (by omega), h.frame b hb hn]
/-- A block of one's own, written. -/
theorem WInv.write {w0 w w' : World} {c0 c : List Nat} {Z : Nat → Prop} (h : WInv w0 c0 Z w c) {b : Nat} (hb : b ∈ c) (hw : ∀ x, x ≠ b → w'.heap[x]? = w.heap[x]?) (hs : w'.heap.size = w.heap.size) (hmu : Mute w w') :
    WInv w0 c0 Z w' c := by
  refine ⟨h.cnt, h.dis, h.zlt, by rw [hs]; exact h.size, h.own, fun x hx hn => ?_, h.mute.trans hmu⟩
  have : x ≠ b := by
    rintro rfl
    rcases h.own x hb with h' | h'
    · exact hn h'
    · omega
  rw [hw x this, h.frame x hx hn]

/-- Modes: none means a function that may be a function value: it only reads. -/
abbrev Sigs := Nat → Option (List Mode)
def Sigs.modes (sg : Sigs) (fn n : Nat) : List Mode := (sg fn).getD (List.replicate n .rd)
def Sigs.X (sg : Sigs) (fn : Nat) : Prop := sg fn = none
inductive BackRel (X : Nat → Prop) (w : World) : List Mode → List Value → List I → List Nat → Prop
  | nil : BackRel X w [] [] [] []
  | rd {v : Value} {vs : List Value} {ms : List Mode} {is : List I} {c : List Nat} (h : BackRel X w ms vs is c) : BackRel X w (.rd :: ms) (v :: vs) is c
  | own {v : Value} {vs : List Value} {ms : List Mode} {is : List I} {c : List Nat} (h : BackRel X w ms vs is c) : BackRel X w (.own :: ms) (v :: vs) is c
  | lent {i : I} {v : Value} {vs : List Value} {ms : List Mode} {is : List I} {c c' : List Nat} (h : IOwn X w i v c) (h' : BackRel X w ms vs is c') : BackRel X w (.lent :: ms) (v :: vs) (i :: is) (c ++ c')
/-- A function is run: entered, or a native one. -/
def CallsF (P : Program) (fn : Nat) (vs : Array Value) (w : World) (R : Ending → World → Prop) : Prop :=
  ((callFunc fn vs).run P w = .ok (.enter fn vs) w ∧ Calls P fn vs w R) ∨ ∃ v w', (callFunc fn vs).run P w = .ok (.value v) w' ∧ R (.returned v) w'
/-- The contract of one function at one argument list. -/
def Sat (P : Program) (sg : Sigs) (fn : Nat) (is : List I) (o : Out) : Prop :=
  ∀ (w : World) (Z : Nat → Prop) (vs : List Value) (cin : List Nat), ArgsRel sg.X w Z (sg.modes fn is.length) is vs cin → WInv w cin Z w cin →
    CallsF P fn vs.toArray w fun e w' => ∃ v cres cbk, e = .returned v ∧ IOwn sg.X w' o.res v cres ∧ BackRel sg.X w' (sg.modes fn is.length) vs o.back cbk ∧ WInv w cin Z w' (cres ++ cbk)
def Good (P : Program) (sg : Sigs) (T : Table) : Prop := ∀ fn is o, T fn is = some o → Sat P sg fn is o

/-- What holds of an activation between two operations. -/
structure SInv (X : Nat → Prop) (keep : List Nat) (N : Nat) (args : Nat → Value) (w0 : World) (c0 : List Nat) (Z : Nat → Prop) (hs : List Hd) (c : List Nat) (st : St) (a : Act) (w : World) : Prop where
  mem : MemL w Z hs hs st.m c
  tmp : ∀ i, ARel X w Z hs (st.t i) (a.tmps.getD i undef)
  win : WInv w0 c0 Z w c
  defers : a.defers = []
  size : a.tmps.size = N
  keep : ∀ i ∈ keep, a.tmps.getD i undef = args i
def Ext (hs hs' : List Hd) : Prop := ∀ (id : Nat) (h : Hd), hs[id]? = some h → hs'[id]? = some h
theorem Ext.refl (hs : List Hd) : Ext hs hs := fun _ _ h => h
theorem Ext.append (hs l : List Hd) : Ext hs (hs ++ l) := fun id h hh => by
  have := List.getElem?_eq_some_iff.1 hh
  rw [List.getElem?_append_left this.1]; exact hh
theorem sinv_put {X : Nat → Prop} {keep : List Nat} {N : Nat} {args : Nat → Value} {w0 : World} {c0 : List Nat} {Z : Nat → Prop} {hs hs' : List Hd} {c c' : List Nat} {st : St} {a : Act} {w w' : World}
    (h : SInv X keep N args w0 c0 Z hs c st a w) {dst : Option Nat} {av : AV} {v : Value} {m' : Mem} (hd : ∀ d, dst = some d → d < N) (hk : mayPut keep dst = true)
    (hm : MemL w' Z hs' hs' m' c') (hv : ARel X w' Z hs' av v) (hw : WInv w0 c0 Z w' c') (he : Ext hs hs') :
    SInv X keep N args w0 c0 Z hs' c' ⟨put st.t dst av, m'⟩ (a.put dst v) w' := by
  have hz := h.win.zsame hw
  cases dst with
  | none => exact ⟨hm, fun i => (h.tmp i).frame (fun _ h => h) hz he, hw, h.defers, h.size, h.keep⟩
  | some d =>
    have hd' := hd d rfl
    have hsz : d < a.tmps.size := by rw [h.size]; exact hd'
    refine ⟨hm, fun i => ?_, hw, h.defers, by simp [Act.put, h.size], fun i hi => ?_⟩
    · simp only [put, upd, Act.put]
      by_cases hid : i = d
      · subst hid
        simp [hsz, hv]
      · have : Nat.beq i d = false := by rw [← Bool.not_eq_true, Nat.beq_eq]; exact hid
        simp only [this, cond_false]
        have h1 : (a.tmps.setIfInBounds d v).getD i undef = a.tmps.getD i undef := by
          simp [Array.getD_eq_getD_getElem?, Array.getElem?_setIfInBounds, Ne.symm hid]
        rw [h1]
        exact (h.tmp i).frame (fun _ h => h) hz he
    · have hid : i ≠ d := by
        rintro rfl
        simp [mayPut] at hk
        exact hk hi
      simp only [Act.put]
      rw [← h.keep i hi]
      simp [Array.getD_eq_getD_getElem?, Array.getElem?_setIfInBounds, Ne.symm hid]
end Go.Am
