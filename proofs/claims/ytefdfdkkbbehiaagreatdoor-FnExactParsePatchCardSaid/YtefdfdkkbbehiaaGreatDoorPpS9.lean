/- Both say the same of each text, and what they say is small. Nothing is assumed. -/
import Derived.Test.YtefdfdkkbbehiaaGreatDoorPpS8
namespace Go.Am.Pp
set_option linter.unusedVariables false
set_option linter.unusedSimpArgs false
set_option maxRecDepth 8000
theorem parI_sh {s : ByteArray} (hs : s.size ≤ 1048576) {m : Rows} (h : parI s.toList = some m) : SL E 44 m := by
 have hsuf := suf_size 10 s.toList
 rw [toList_len] at hsuf
 unfold parI at h
 generalize Lib.trimSuffix s.toList [10] = c at *
 have hsz := spl_size 10 c
 have hln := spl_len 10 c
 exact goI_sh (spl 10 c) [] m (fun l hl => by have := hsz l hl; omega) h sl_nil (by simp; omega)
theorem ans_eq {s : ByteArray} (hs : s.size ≤ 1048576) : ansE s (some (parS s.toList)) = ansE s (parI s.toList) := by
 unfold ansE
 cases he : bytesEq s ({ data := #[] } : ByteArray) with
 | true => rfl
 | false =>
  have ne : ∀ m, s = opsTxt m → m ≠ [] := fun m e c => by
   subst c
   have : opsTxt [] = ByteArray.empty := by
    unfold opsTxt
    cases opsOk [] <;> rfl
   rw [this] at e
   rw [e, show bytesEq ByteArray.empty ({ data := #[] } : ByteArray) = true from beq_self _] at he
   cases he
  simp only [cond_false]
  refine ans_same (fun m e ho ht => ?_) (fun m e ho ht => ?_)
  ·have e := Option.some.inj e
   have hm := parS_sh hs
   rw [e] at hm
   have := (both_read hm ho (ne m ht)).1
   rw [← ht] at this
   exact this
  ·have hm := parI_sh hs e
   have := (both_read hm ho (ne m ht)).2
   rw [← ht] at this
   rw [this]
theorem cn_rows {B : Nat} : ∀ l : Rows, (∀ x ∈ l, cnRow x ≤ B) → cnRows l ≤ (B + 1) * l.length
 | [], _ => by simp [cnRows]
 | x :: l, h => by
  have h1 := h x (by simp)
  have h2 := cn_rows l fun y hy => h y (by simp [hy])
  simp only [cnRows, List.length_cons, Nat.mul_add, Nat.mul_one]
  omega
theorem ops_cn {l : Rows} (h : SL E 44 l) (ho : opsOk l = true) : cnRows l ≤ 100000 := by
 obtain ⟨hf, hall⟩ := ops_at ho
 have h1 := cn_rows (B := 2000) l fun x hx => by
  obtain ⟨k, ps, v, rfl, hp, hv, hox⟩ := op_rows h ho x hx
  obtain ⟨_, _, hpo, hz, hvz⟩ := op_parts hox
  have hpo : pathOk ps = true := hpo
  have hz : k = 2 → zeroV v = true := hz
  have hvz : k ≠ 2 → 0 < valSz 6 v := hvz
  have h5 := (path_at hpo).2.1
  have hk := key_cells hp
  have e3 : cnRow v ≤ 1500 := by
   by_cases h2 : k = 2
   ·rw [zero_of hv (hz h2)]
    simp [cnRow, cnRows]
   ·have e1 := val_cells 6 hv (hvz h2)
    have e2 := (valSz_rng 6 v).2
    omega
  simp only [cnRow]
  omega
 have h3 : (2000 + 1) * l.length ≤ (2000 + 1) * 20 := Nat.mul_le_mul_left _ hf
 omega
theorem bothP {s : ByteArray} (hs : s.size ≤ 1048576) : ∃ (l : Rows) (bb : Bool), SL E 44 l ∧ cnRows l ≤ 100000 ∧ Ev fs 5 [.d (.v (.string s))] ⟨.t [.d (.s 7 l), .d (.v (.bool bb))], []⟩ ∧ Ev fs 6 [.d (.v (.string s))] ⟨.t [.d (.s 7 l), .d (.v (.bool bb))], []⟩ := by
 have e1 := f5 hs
 have e2 := f6 hs
 rw [ans_eq hs] at e1
 have z : SL E 44 ([] : Rows) ∧ cnRows ([] : Rows) ≤ 100000 := ⟨sl_nil, by simp [cnRows]⟩
 unfold ansE at e1 e2
 cases he : bytesEq s ({ data := #[] } : ByteArray) with
 | true =>
  rw [he, cond_true] at e1 e2
  exact ⟨[], true, z.1, z.2, e1, e2⟩
 | false =>
  rw [he, cond_false] at e1 e2
  cases hp : parI s.toList with
  | none =>
   rw [hp] at e1 e2
   exact ⟨[], false, z.1, z.2, e1, e2⟩
  | some m =>
   rw [hp] at e1 e2
   have hm := parI_sh hs hp
   cases h : opsOk m && bytesEq (opsTxt m) s with
   | true =>
    have ea : ans s (some m) = ⟨.t [.d (.s 7 m), .d (.v (.bool true))], []⟩ := by simp only [ans, h, cond_true]
    rw [ea] at e1 e2
    rw [Bool.and_eq_true] at h
    exact ⟨m, true, hm, ops_cn hm h.1, e1, e2⟩
   | false =>
    have ea : ans s (some m) = bad := by simp only [ans, h, cond_false]
    rw [ea] at e1 e2
    exact ⟨[], false, z.1, z.2, e1, e2⟩
end Go.Am.Pp
