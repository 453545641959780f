/- AM: strings to bytes and back. Nothing is assumed. -/
import Derived.Test.YtgnicnelpcndgaaAmApp
import Derived.Laws.IdiomStrings
import Derived.Laws.Strings
set_option linter.unusedVariables false
set_option linter.unusedSimpArgs false
namespace Go.Am
section
variable {P : Program} {sg : Sigs} {T : Table} {keep : List Nat} {N : Nat} {args : Nat → Value} {w0 : World} {c0 : List Nat} {Z : Nat → Prop}
theorem bytesRows_view (s : ByteArray) : (Node.mk 1 (rowsOfBytes s) []).view = s.toList.map fun b => AV.v (.int .u8 b.toNat) := by
  show viewRows [] 0 _ = _
  rw [viewRows_nil]
  unfold rowsOfBytes
  induction s.toList with
  | nil => rfl
  | cons b l ih => simpa [D.up] using ih
theorem strBytes_ok {R : Type} {r : R} {o : Oper} {st : St} {x : Opd} {x' : Operand} {src dst e : TypeId} {s : ByteArray} {K : AV → Mem → Option R} (hx : chkOpd sg x x' = true)
    (hs : P.underlying src = some .string) (hd : P.underlying dst = some (.slice e)) (he : P.underlying e = some (.int .u8)) (ho : o.op = .convert src dst x') (ea : ev st.t x = .v (.string s))
    (h : K (.r st.m.length) (st.m ++ [some ⟨1, rowsOfBytes s, []⟩]) = some r) : ∃ av m', K av m' = some r ∧ OpOk P sg keep N args w0 c0 Z o st av m' := by
  refine ⟨_, _, h, fun hs' c a w hin next Q hnext => ?_⟩
  have hx' := chkOpd_ok hx hin
  rw [ea] at hx'
  have hv := val_of hx'
  have hr := run_bytes_of_string (P := P) w src dst e s hs hd he
  have hge : s.size ≤ grownCap w s.size 0 e := grownCap_ge w s.size 0 e
  generalize grownCap w s.size 0 e = cap at hr hge
  have hrun : (execOp a.eval o).run P w = .ok (.value (.slice (some ⟨w.heap.size, 0, none⟩) s.size cap)) (w.drew.alloc (.cells (bytesRow s cap) e ((bytesRow s cap).size, (bytesRow s cap).size + 1))) := by
    simp [execOp, ho, hv, hr]
  have hsz : (bytesRow s cap).size = cap := by
    simp only [bytesRow, Array.size_append, Array.size_map, Array.size_replicate]
    show s.size + (cap - s.size) = cap
    omega
  have hheap : (w.drew.alloc (.cells (bytesRow s cap) e ((bytesRow s cap).size, (bytesRow s cap).size + 1))).heap = w.heap.push (.cells (bytesRow s cap) e ((bytesRow s cap).size, (bytesRow s cap).size + 1)) := rfl
  have hmu : Mute w (w.drew.alloc (.cells (bytesRow s cap) e ((bytesRow s cap).size, (bytesRow s cap).size + 1))) := ⟨rfl, rfl, rfl⟩
  generalize hw' : (w.drew.alloc (.cells (bytesRow s cap) e ((bytesRow s cap).size, (bytesRow s cap).size + 1))) = w' at hrun hheap hmu
  obtain ⟨p1, p2, p3⟩ := push_get hheap
  have hlt := hin.mem.lt
  have hz' : ∀ b, Z b → w'.heap[b]? = w.heap[b]? := fun b hb => p1 b (by have := hin.win.zlt b hb; have := hin.win.size; omega)
  have hlen : (rowsOfBytes s).length = s.size := by
    simp only [rowsOfBytes, List.length_map, ByteArray.toList_eq, Array.length_toList]
    rfl
  unfold Oper.wp
  rw [hrun]
  refine hnext _ _ ?_
  have := post_new (X := sg.X) (hd := ⟨some ⟨w.heap.size, 0, none⟩, 1, s.size, cap⟩) (cn := [w.heap.size]) (n := ⟨1, rowsOfBytes s, []⟩) (hin.mem.frame (fun _ h => h) hz' (fun b hb => p1 b (hlt b hb)) (Ext.refl _))
    ⟨rfl, hlen.symm, by simp [rowsOfBytes], by simp, by simp, by simp, .inr ⟨w.heap.size, 0, s.data.toList.map (fun b => Value.int .u8 b.toNat), [], rfl, by simp only [hlen]; exact hge,
      ⟨_, e, _, p2, fun k v hk => ?_⟩, ⟨_, e, _, p2, by simp only [hsz]; omega, fun k _ hk => by simp only [Nat.mul_one] at hk; simp only [hsz]; omega⟩, ?_, rfl⟩⟩ (hin.win.push hlt hheap hmu)
  · exact this
  · simp only [bytesRow, Nat.zero_add]
    have hk1 : k < s.data.size := by simpa using (List.getElem?_eq_some_iff.1 hk).1
    rw [Array.getElem?_append_left (by simpa using hk1)]
    simpa using hk
  · rw [bytesRows_view, ByteArray.toList_eq]
    induction s.data.toList with
    | nil => exact .nil
    | cons b l ih => simpa using CRelL.cons (CRel.v (x := .int .u8 b.toNat) trivial) ih
theorem byteOfRow_some {r : Row} (h : (byteOfRow r).isSome = true) : ∃ n, r = [.v (.int .u8 n)] := by
  unfold byteOfRow at h
  split at h
  · exact ⟨_, rfl⟩
  · simp at h
theorem allBytes_some {rows : Rows} (h : allBytes rows = true) : ∃ ns : List Int, rows = ns.map fun n => [.v (.int .u8 n)] := by
  induction rows with
  | nil => exact ⟨[], rfl⟩
  | cons r rs ih =>
    simp only [allBytes, List.all_cons, Bool.and_eq_true] at h
    obtain ⟨n, rfl⟩ := byteOfRow_some h.1
    obtain ⟨ns, rfl⟩ := ih h.2
    exact ⟨n :: ns, rfl⟩
theorem foldl_bytes (ns : List Int) : ∀ r : ByteArray, ns.foldl (fun r n => r.push (UInt8.ofNat n.toNat)) r = ⟨r.data ++ (ns.map fun n => UInt8.ofNat n.toNat).toArray⟩ := by
  induction ns with
  | nil => intro r; simp
  | cons n ns ih =>
    intro r
    simp only [List.foldl_cons, List.map_cons]
    rw [ih]
    simp [ByteArray.push]
theorem bytesOf_map (ns : List Int) : bytesOfRows (ns.map fun n => [.v (.int .u8 n)]) = ⟨(ns.map fun n => UInt8.ofNat n.toNat).toArray⟩ := by
  unfold bytesOfRows
  congr 2
  induction ns with
  | nil => rfl
  | cons n ns ih => simp only [List.map_cons, List.filterMap_cons, byteOfRow, ih]
theorem froBytes {w : World} {ns : List Int} : ∀ {vs : List Value}, FroL w Z (ns.map fun n => [D.v (.int .u8 n)]).flatten vs → vs = ns.map (Value.int .u8) := by
  induction ns with
  | nil => intro vs h; cases h; rfl
  | cons n ns ih =>
    intro vs h
    simp only [List.map_cons, List.flatten_cons, List.cons_append, List.nil_append] at h
    cases h with
    | cons h h' => cases h with | v _ => simp [ih h']
theorem cellBytes {w : World} {hs : List Hd} {ns : List Int} : ∀ {vs : List Value} {c : List Nat}, CRelL w Z hs ((ns.map fun n => [D.v (.int .u8 n)]).flatten.map D.up) vs c → vs = ns.map (Value.int .u8) := by
  induction ns with
  | nil => intro vs c h; cases h; rfl
  | cons n ns ih =>
    intro vs c h
    simp only [List.map_cons, List.flatten_cons, List.cons_append, List.nil_append, D.up] at h
    cases h with
    | cons h h' => cases h with | v _ => simp [ih h']
/-- A string of bytes in memory. -/
theorem bytesStr_run {o : Oper} {a : Act} {w : World} {x' : Operand} {src dst e : TypeId} {ns : List Int} {base : Option Addr} {len cap : Nat} (hs : P.underlying src = some (.slice e)) (he : P.underlying e = some (.int .u8)) (hd : P.underlying dst = some .string)
    (ho : o.op = .convert src dst x') (hv : a.eval x' = .slice base len cap) (hlen : len = ns.length) (hb : ns = [] ∨ ∃ b off, base = some ⟨b, off, none⟩ ∧ Holds w b off (ns.map (Value.int .u8))) :
    (execOp a.eval o).run P w = .ok (.value (.string (bytesOfRows (ns.map fun n => [.v (.int .u8 n)])))) w := by
  have key : (convert src dst (.slice base len cap)).run P w = .ok (.string (bytesOfRows (ns.map fun n => [.v (.int .u8 n)]))) w := by
    rw [run_convert_bytes_string w src dst e base len cap hs he hd, bytesOf_map]
    have he0 : ByteArray.empty.data = #[] := rfl
    have he1 : (⟨#[]⟩ : ByteArray) = ByteArray.empty := rfl
    cases base with
    | none =>
      rcases hb with rfl | ⟨b, off, h, _⟩
      · simp [Conv.bytesToString, he1]
      · simp at h
    | some ad =>
      have hl : (loadCells ad len).run P w = .ok (ns.map (Value.int .u8)).toArray w := by
        have := run_loadCells_list (P := P) w ad (ns.map (Value.int .u8)) (by
          rcases hb with rfl | ⟨b, off, h, hh⟩
          · simp
          · cases h; exact hh.cells)
        simpa [hlen] using this
      rw [run_bytesToString w ad len cap ns hl, foldl_bytes, he0]
      simp
  simp [execOp, ho, hv, key]
theorem bytesStr_ok {R : Type} {r : R} {o : Oper} {st : St} {x : Opd} {x' : Operand} {src dst e : TypeId} {K : AV → Mem → Option R} (hx : chkOpd sg x x' = true)
    (hs : P.underlying src = some (.slice e)) (he : P.underlying e = some (.int .u8)) (hd : P.underlying dst = some .string) (ho : o.op = .convert src dst x')
    (h : evalOp T st.t st.m (.conv .bytesStr x) K = some r) : ∃ av m', K av m' = some r ∧ OpOk P sg keep N args w0 c0 Z o st av m' := by
  simp only [evalOp] at h
  split at h
  · exact absurd ‹CK.bytesStr = _› (by simp)
  · exact absurd ‹CK.bytesStr = _› (by simp)
  · exact absurd ‹CK.bytesStr = _› (by simp)
  · exact absurd ‹CK.bytesStr = _› (by simp)
  · rename_i rows ea
    obtain ⟨hb, h⟩ := tst_some h
    obtain ⟨ns, rfl⟩ := allBytes_some hb
    refine ⟨_, _, h, pure_ok fun hs' c a w hin => ?_⟩
    have hx' := chkOpd_ok hx hin
    rw [ea] at hx'
    generalize hv : a.eval x' = v at hx'
    cases hx' with
    | fz hx' =>
      generalize hrows : (ns.map fun n => [D.v (.int .u8 n)]) = rows at hx' ⊢
      cases hx' with
      | z =>
        have : ns = [] := by simpa using hrows
        subst this
        exact ⟨_, by rw [← hrows]; exact bytesStr_run hs he hd ho hv rfl (.inl rfl), .v (x := .string _) trivial⟩
      | @s _ b off cap _ vs hw hc hz hh hl =>
        subst hrows
        have := froBytes hl
        subst this
        exact ⟨_, bytesStr_run hs he hd ho hv (by simp) (.inr ⟨b, off, rfl, hh⟩), .v (x := .string _) trivial⟩
  · rename_i ea
    refine ⟨_, _, h, pure_ok fun hs' c a w hin => ?_⟩
    have hx' := chkOpd_ok hx hin
    rw [ea] at hx'
    generalize hv : a.eval x' = v at hx'
    cases hx' with
    | o => exact ⟨_, bytesStr_run (ns := []) hs he hd ho hv rfl (.inl rfl), .v (x := .string _) trivial⟩
  · rename_i id ea
    split at h
    · rename_i rows hn
      obtain ⟨hb, h⟩ := tst_some h
      obtain ⟨ns, rfl⟩ := allBytes_some hb
      refine ⟨_, _, h, pure_ok fun hs' c a w hin => ?_⟩
      have hx' := chkOpd_ok hx hin
      rw [ea] at hx'
      generalize hv : a.eval x' = v at hx'
      obtain ⟨hd', c1, cn, c2, e1, e2, e3, e4, e5, _⟩ := hin.mem.at hn
      cases hx' with
      | r hh =>
        rw [e1] at hh
        cases hh
        have hlen := e3.len
        simp only [List.length_map] at hlen
        rcases e3.mem with ⟨z1, z2, rfl⟩ | ⟨b, off, vs, c', f1, f2, f3, f4, f5, rfl⟩
        · have : ns = [] := by simpa using z1
          exact ⟨_, bytesStr_run hs he hd ho hv hlen (.inl this), .v (x := .string _) trivial⟩
        · unfold Node.view at f5
          simp only [viewRows_nil] at f5
          have := cellBytes f5
          subst this
          exact ⟨_, bytesStr_run hs he hd ho hv hlen (.inr ⟨b, off, f1, f3⟩), .v (x := .string _) trivial⟩
    · simp at h
  · simp at h
end
end Go.Am
