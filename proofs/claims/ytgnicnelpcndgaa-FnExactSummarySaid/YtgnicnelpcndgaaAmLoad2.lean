/- AM: the operation load. Nothing is assumed. -/
import Derived.Test.YtgnicnelpcndgaaAmLoad
import Derived.Laws.Cells
set_option linter.unusedVariables false
set_option linter.unusedSimpArgs false
namespace Go.Am
section
variable {X : Nat → Prop} {w : World} {Z : Nat → Prop} {R : Type} {r : R}
theorem ldOs_some {ks : List Kd} : ∀ {m : Mem} {id i c : Nat} {K : List AV → Mem → Option R}, ldOs ks m id i c K = some r →
    ∃ xs m', K xs m' = some r ∧ xs.length = ks.length ∧ ∀ (w : World) (hs : List Hd) (cc : List Nat) (hd : Hd) (b off : Nat), MemL w Z hs hs m cc → hs[id]? = some hd → hd.base = some ⟨b, off, none⟩ →
      ∃ hs' c' vs, Ext hs hs' ∧ MemL w Z hs' hs' m' c' ∧ (∀ b, c'.count b = cc.count b) ∧ ARelL X w Z hs' xs vs ∧ vs.length = ks.length ∧
        ∀ k v, vs[k]? = some v → Holds w b (off + i * hd.wd + c + k) [v] := by
  induction ks with
  | nil =>
    intro m id i c K h
    exact ⟨[], m, h, rfl, fun w hs cc hd b off hm _ _ => ⟨hs, cc, [], Ext.refl _, hm, fun _ => rfl, .nil, rfl, by simp⟩⟩
  | cons k ks ih =>
    intro m id i c K h
    simp only [ldOs] at h
    obtain ⟨x, m1, h1, g1⟩ := ldO_some (X := X) (Z := Z) h
    obtain ⟨xs, m2, h2, hl, g2⟩ := ih h1
    refine ⟨x :: xs, m2, h2, by simp [hl], fun w hs cc hd b off hm hh hb => ?_⟩
    obtain ⟨hs1, c1, v, a1, a2, a3, a4, a5⟩ := g1 w hs cc hd b off hm hh hb
    obtain ⟨hs2, c2, vs, b1, b2, b3, b4, b5, b6⟩ := g2 w hs1 c1 hd b off a2 (a1 _ _ hh) hb
    refine ⟨hs2, c2, v :: vs, fun id h hh => b1 _ _ (a1 _ _ hh), b2, fun x => by rw [b3, a3], .cons (a4.frame (fun _ h => h) (fun _ _ => rfl) b1) b4, by simp [b5], fun k u hk => ?_⟩
    cases k with
    | zero => simp at hk; subst hk; simpa using a5
    | succ k =>
      have := b6 k u (by simpa using hk)
      rwa [show off + i * hd.wd + c + (k + 1) = off + i * hd.wd + (c + 1) + k by omega]
theorem Holds.cell {b o : Nat} {v : Value} (h : Holds w b o [v]) : w.cell? ⟨b, o, none⟩ = some v := by
  obtain ⟨cs, e, f, h1, h2⟩ := h
  have := h2 0 v rfl
  simpa [World.cell?, h1] using this
end
section
variable {P : Program} {sg : Sigs} {T : Table} {keep : List Nat} {N : Nat} {args : Nat → Value} {w0 : World} {c0 : List Nat} {Z : Nat → Prop}
theorem run_loadAt {w : World} {t : TypeId} {agg : Bool} {ti : TypeInfo} {b o : Nat} {vs : List Value} (ha : aggB P t = some agg) (hi : P.info? t = some ti) (hl : vs.length = ti.size)
    (h : ∀ k v, vs[k]? = some v → Holds w b (o + k) [v]) {y : Value} (hy : (agg = true ∧ y = .agg vs.toArray) ∨ (agg = false ∧ vs = [y])) :
    (Instr.loadAt t (.pointer (some ⟨b, o, none⟩))).run P w = .ok y w := by
  have hc : ∀ j v, vs[j]? = some v → w.cell? ((⟨b, o, none⟩ : Addr).add j) = some v := fun j v hj => by
    rw [addr_add]; exact (h j v hj).cell
  rcases hy with ⟨rfl, rfl⟩ | ⟨rfl, rfl⟩
  · have := run_loadCells_list (P := P) (w := w) ⟨b, o, none⟩ vs hc
    simp [Instr.loadAt, Instr.sureAddr, loadVar, run_isAgg ha, run_sizeOf' hi, ← hl, this]
  · have := hc 0 y rfl
    rw [addr_add, Nat.add_zero] at this
    simp [Instr.loadAt, Instr.sureAddr, loadVar, run_isAgg ha, load, Sem.run, this]
theorem load_ok {R : Type} {r : R} {o : Oper} {st : St} {x : Opd} {x' : Operand} {t : TypeId} {agg : Bool} {ks : List Kd} {ti : TypeInfo} {K : AV → Mem → Option R} (hx : chkOpd sg x x' = true)
    (ha : aggB P t = some agg) (hi : P.info? t = some ti) (hk : ks.length = ti.size) (ho : o.op = .load t x')
    (h : evalOp T st.t st.m (.load agg ks x) K = some r) : ∃ av m', K av m' = some r ∧ OpOk P sg keep N args w0 c0 Z o st av m' := by
  have agg1 : ∀ {xs : List AV} {m : Mem} {K : AV → Mem → Option R}, ret1 K m (mkAgg agg xs) = some r → ∃ av, K av m = some r ∧ ((agg = true ∧ av = .g xs) ∨ (agg = false ∧ xs = [av])) := by
    intro xs m K h
    cases agg with
    | true => exact ⟨_, h, .inl ⟨rfl, rfl⟩⟩
    | false =>
      match xs, h with
      | [z], h => exact ⟨z, h, .inr ⟨rfl, rfl⟩⟩
      | [], h => simp [mkAgg, ret1] at h
      | _ :: _ :: _, h => simp [mkAgg, ret1] at h
  have fin : ∀ {w : World} {hs : List Hd} {xs : List AV} {vs : List Value} {av : AV}, ((agg = true ∧ av = .g xs) ∨ (agg = false ∧ xs = [av])) → ARelL sg.X w Z hs xs vs →
      ∃ y, ((agg = true ∧ y = Value.agg vs.toArray) ∨ (agg = false ∧ vs = [y])) ∧ ARel sg.X w Z hs av y := by
    intro w hs xs vs av hav hv
    rcases hav with ⟨rfl, rfl⟩ | ⟨rfl, rfl⟩
    · exact ⟨_, .inl ⟨rfl, rfl⟩, .g hv⟩
    · cases hv with | cons h1 h2 => cases h2; exact ⟨_, .inr ⟨rfl, rfl⟩, h1⟩
  simp only [evalOp] at h
  split at h
  · rename_i id i c ex
    obtain ⟨xs, m', h1, hl, g⟩ := ldOs_some (X := sg.X) (Z := Z) h
    obtain ⟨av, h2, hav⟩ := agg1 h1
    refine ⟨av, m', h2, fun hs cc a w hin next Q hn => ?_⟩
    have hp := chkOpd_ok hx hin
    rw [ex] at hp
    generalize hv : a.eval x' = u at hp
    cases hp with
    | @a _ _ _ b off hd hh hb hil =>
      obtain ⟨hs', c', vs, b1, b2, b3, b4, b5, b6⟩ := g w hs cc hd b off hin.mem hh hb
      obtain ⟨y, hy, hr⟩ := fin hav b4
      have hrun := run_loadAt (P := P) (w := w) ha hi (by rw [b5, hk]) b6 hy
      unfold Oper.wp
      have : (execOp a.eval o).run P w = .ok (.value y) w := by
        simp only [execOp, ho, hv, Sem.run_bind, hrun, Result.andThen_ok]
        rfl
      rw [this]
      exact hn y w ⟨hs', c', b1, b2, hr, hin.win.less fun x => by rw [b3]; exact Nat.le_refl _⟩
  · rename_i row c ex
    obtain ⟨xs, h1, hl, g⟩ := ldFs_some (X := sg.X) h
    obtain ⟨av, h2, hav⟩ := agg1 h1
    refine ⟨av, st.m, h2, pure_ok fun hs cc a w hin => ?_⟩
    have hp := chkOpd_ok hx hin
    rw [ex] at hp
    generalize hv : a.eval x' = u at hp
    cases hp with
    | @fa _ _ b off vs hz hh hf =>
      obtain ⟨g1, g2⟩ := g w Z hs vs hf
      obtain ⟨y, hy, hr⟩ := fin hav g2
      refine ⟨y, ?_, hr⟩
      have hrun := run_loadAt (P := P) (w := w) (b := b) (o := off) ha hi (by rw [List.length_take, ← hk]; omega) (fun k v hkv => by
        rw [List.getElem?_take] at hkv
        split at hkv
        · obtain ⟨cs, el, fz, k1, k2⟩ := hh
          refine ⟨cs, el, fz, k1, fun j u hj => ?_⟩
          cases j with
          | zero => simp at hj; subst hj; exact k2 _ _ hkv
          | succ j => simp at hj
        · simp at hkv) hy
      simp only [execOp, ho, hv, Sem.run_bind, hrun, Result.andThen_ok]
      rfl
  · simp at h
end
end Go.Am
