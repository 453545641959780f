/- AM: the operation store. Nothing is assumed. -/
import Derived.Test.YtgnicnelpcndgaaAmStore
set_option linter.unusedVariables false
set_option linter.unusedSimpArgs false
namespace Go.Am
section
variable {P : Program} {sg : Sigs} {T : Table} {keep : List Nat} {N : Nat} {args : Nat → Value} {w0 : World} {c0 : List Nat} {Z : Nat → Prop}
theorem cells_one {v : Value} (h : v.oneCell' = true) : v.cells = #[v] := by
  cases v <;> first | rfl | simp [Value.oneCell'] at h
theorem cellsOf_ok {X : Nat → Prop} {w : World} {hs : List Hd} {x : AV} {cs : List AV} {v : Value} (h : cellsOf x = some cs) (hx : ARel X w Z hs x v) : ARelL X w Z hs cs v.cells.toList := by
  have one : v.oneCell' = true → cs = [x] → ARelL X w Z hs cs v.cells.toList := by
    intro h1 h2
    rw [cells_one h1, h2]
    exact .cons hx .nil
  unfold cellsOf at h
  split at h <;> simp at h <;> subst h
  · cases hx with | g h => exact h
  · cases hx with | v h => rcases sc_cases h with ⟨k, n, rfl⟩ | ⟨b', rfl⟩ | ⟨s, rfl⟩ <;> exact one rfl rfl
  · cases hx with | o => exact one rfl rfl
  · exact one (by cases hx with | fz h => cases h <;> rfl) rfl
  · cases hx with | r h => exact one rfl rfl
theorem setCells_mute {b : Nat} (us : List Value) : ∀ (o : Nat) (w : World), Mute w (w.setCells b o us) := by
  induction us with
  | nil => exact fun _ w => Mute.refl w
  | cons u us ih => exact fun o w => Mute.trans (b := w.setCell ⟨b, o, none⟩ u) ⟨rfl, rfl, rfl⟩ (ih _ _)
theorem setCells_one {X : Nat → Prop} {w : World} {hs : List Hd} {xs : List AV} : ∀ {n n' : Node} {i c : Nat} {vs : List Value}, setCells n i c xs = some n' → ARelL X w Z hs xs vs → ∀ v ∈ vs, v.oneCell' = true := by
  induction xs with
  | nil => intro n n' i c vs _ hx; cases hx; simp
  | cons x xs ih =>
    intro n n' i c vs h hx
    cases hx with
    | cons hx hx' =>
      simp only [setCells] at h
      split at h
      · rename_i d o hci
        cases hlt : Nat.blt c n.wd with
        | false => simp [hlt] at h
        | true =>
          simp only [hlt, cond_true] at h
          intro v hv
          rcases List.mem_cons.1 hv with rfl | hv
          · unfold cellIn at hci
            split at hci <;> simp at hci
            · cases hx with | v h => rcases sc_cases h with ⟨k, n, rfl⟩ | ⟨b', rfl⟩ | ⟨s, rfl⟩ <;> rfl
            · cases hx with | o => rfl
            · cases hx with | fz h => cases h <;> rfl
            · cases hx with | r h => rfl
          · exact ih h hx' v hv
      · simp at h
theorem store_ok {R : Type} {r : R} {o : Oper} {st : St} {x y : Opd} {x' y' : Operand} {t : TypeId} {k : Nat} {ti : TypeInfo} {K : AV → Mem → Option R} (hx : chkOpd sg x x' = true) (hy : chkOpd sg y y' = true)
    (hi : P.info? t = some ti) (hk : k = ti.size) (ho : o.op = .store t x' y')
    (h : evalOp T st.t st.m (.store k x y) K = some r) : ∃ av m', K av m' = some r ∧ OpOk P sg keep N args w0 c0 Z o st av m' := by
  simp only [evalOp] at h
  split at h
  · rename_i id i c cs ex ec
    cases hl : Nat.beq cs.length k with
    | false => simp [hl] at h
    | true =>
      simp only [hl, cond_true] at h
      have hl := Nat.eq_of_beq_eq_true hl
      split at h
      · rename_i n hn
        split at h
        · rename_i n' hn'
          refine ⟨_, _, h, fun hs cc a w hin next Q hnext => ?_⟩
          have hp := chkOpd_ok hx hin
          have hq := chkOpd_ok hy hin
          rw [ex] at hp
          generalize hv : a.eval x' = u at hp
          generalize hv2 : a.eval y' = v at hq
          have hcs := cellsOf_ok ec hq
          have hone := setCells_one hn' hcs
          have hvl : v.cells.toList.length = k := by rw [hcs.length, hl]
          cases hp with
          | @a _ _ _ b off hd hh hb hil =>
            obtain ⟨hd', c1, cn, c2, e1, e2, e3, e4, e6⟩ := hin.mem.at2 hn
            rw [e1] at hh
            cases hh
            have hil' : i < n.rows.length := by rw [← e3.len]; exact hil
            rcases e3.mem with ⟨z1, _⟩ | ⟨b', off', vs0, c', f1, f2, f3, f4, f5, f6⟩
            · simp [z1] at hil'
            · rw [hb] at f1
              cases f1
              have hbn : b ∈ cc := by rw [e4, f6]; simp
              have hzb : ¬ Z b := fun hz => hin.win.dis b hz hbn
              have hcnt : ∀ x, cn.count x ≤ 1 := fun x => by
                have := hin.win.cnt x
                rw [e4] at this
                simp only [List.count_append] at this
                omega
              obtain ⟨cn', r1, r2, r3, r4, r5, r6⟩ := setCells_ok (Z := Z) hb hzb cs hn' e3 hil' hcnt hcs
              have hnb : ∀ y ∈ c1 ++ c2, y ≠ b := by
                rintro y hy rfl
                have := hin.win.cnt y
                rw [e4, f6] at this
                simp only [List.count_append, List.count_cons_self] at this
                have : (c1 ++ c2).count y ≠ 0 := fun h0 => List.count_eq_zero.1 h0 hy
                simp only [List.count_append] at this
                omega
              have hzs : ∀ y, Z y → (w.setCells b (off + i * n.wd + c) v.cells.toList).heap[y]? = w.heap[y]? := fun y hy => r3 y (by rintro rfl; exact hzb hy)
              have hmem := e6 _ hzs (fun y hy => r3 y (hnb y hy)) n' cn' r1
              have hwin : WInv w0 c0 Z (w.setCells b (off + i * n.wd + c) v.cells.toList) (c1 ++ cn' ++ c2) := by
                refine (hin.win.write hbn r3 r4 (setCells_mute _ _ _)).less fun x => ?_
                have := r2 x
                rw [e4]
                simp only [List.count_append]
                omega
              have hcl : v.cells.toList.length = 0 ∨ c + v.cells.toList.length ≤ n.wd := by rw [hvl, ← hl]; omega
              have hrun : (execOp a.eval o).run P w = .ok .skip (w.setCells b (off + i * n.wd + c) v.cells.toList) := by
                have hst : (storeCells ⟨b, off + i * n.wd + c, none⟩ v.cells.toList 0).run P w = .ok () (w.setCells b (off + i * n.wd + c) v.cells.toList) := by
                  obtain ⟨cs', el, fz, k1, k2, k3⟩ := f4
                  have key : ∀ j, j < v.cells.toList.length → off + i * n.wd + c + j < off + hd.cap * n.wd := fun j hj => by
                    have h1 : (i + 1) * n.wd ≤ hd.cap * n.wd := Nat.mul_le_mul_right _ (by omega)
                    rw [Nat.add_mul] at h1
                    omega
                  have := run_storeCells_cells (P := P) b (off + i * n.wd + c) v.cells.toList 0 w (fun j hj => by
                      have h1 := key j hj
                      have : off + i * n.wd + c + j < cs'.size := by omega
                      simp [World.cell?, k1, this]) (fun j hj => by
                      have h1 := key j hj
                      have h2 := k3 (off + i * n.wd + c + 0 + j) (by omega) (by omega)
                      simp only [World.frozen?, k1]
                      simpa using h2) hone
                  simpa using this
                have hsz : v.cells.size = ti.size := by rw [← Array.length_toList, hvl, hk]
                rw [e3.wd] at hv
                simp [execOp, ho, hv, hv2, Instr.storeAt, Instr.sureAddr, storeVar, run_sizeOf' hi, hsz, hst]
              unfold Oper.wp
              rw [hrun]
              exact hnext undef _ ⟨hs, _, Ext.refl _, hmem, .u, hwin⟩
        · simp at h
      · simp at h
  · simp at h
end
end Go.Am
