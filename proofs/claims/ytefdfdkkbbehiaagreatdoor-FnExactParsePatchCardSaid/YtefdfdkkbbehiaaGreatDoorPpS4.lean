/- What is read of a line of a patch; of the text of a right patch that patch is read. Nothing is assumed. -/
import Derived.Test.YtefdfdkkbbehiaaGreatDoorPpS3
namespace Go.Am.Pp
set_option linter.unusedVariables false
set_option linter.unusedSimpArgs false
set_option maxRecDepth 8000
theorem allN_any {l : Rows} {f : Row → Bool} : allN l.length (fun i => f (row_ l i)) = !(l.any fun r => !f r) := by
 rw [Bool.eq_iff_iff]
 simp only [allN_iff, Bool.not_eq_true', List.any_eq_false, Bool.not_eq_true, Bool.not_eq_false']
 constructor
 ·intro h x hx
  obtain ⟨i, hi⟩ := List.mem_iff_getElem?.1 hx
  have := h i (List.getElem?_eq_some_iff.1 hi).1
  rw [row_, hi] at this
  simpa using this
 ·intro h i hi
  simpa using h _ (row_mem hi)
theorem rows_str {ps : Rows} (h : SL E 9 ps) : strR (((steps ps).map ByteArray.toList).map bOf) = ps := by
 unfold strR steps
 rw [List.map_map, List.map_map, List.map_map]
 conv => rhs; rw [← List.map_id ps]
 refine List.map_congr_left fun x hx => ?_
 have w := h.2.mem x hx
 obtain ⟨sx0, rfl, px0⟩ := I9 w
 simp only [Function.comp, cT, List.getElem?_cons_zero, bOf_toList, id]
theorem zero_of {v : Row} (hv : ShL E (E 33) v) (h : zeroV v = true) : v = ZV := by
 obtain ⟨na0, sa1, na2, la3, la4, rfl, pa0, pa1, pa2, pa3, pa4⟩ := I33 hv
 have h : (na0 == 0 && (bytesEq sa1 ({ data := #[] } : ByteArray) && (na2 == 0 && ((((la3.length : Nat) : Int) == 0) && (((la4.length : Nat) : Int) == 0))))) = true := h
 simp only [Bool.and_eq_true] at h
 have e0 : na0 = 0 := by simpa using h.1
 have e1 : sa1 = ({ data := #[] } : ByteArray) := bytes_eq h.2.1
 have e2 : na2 = 0 := by simpa using h.2.2.1
 have e3 := len0 h.2.2.2.1
 have e4 := len0 h.2.2.2.2
 subst e0 e1 e2 e3 e4
 rfl
noncomputable def rowI (l : List UInt8) : Row × Bool :=
 bif decide ((Lib.cut l [32]).1 = [100, 114, 111, 112]) then (.v (.int .i64 (kindW (Lib.cut l [32]).1)) :: .s 1 (strR ((spl 47 (Lib.cut (Lib.cut l [32]).2.1 [32]).1).map bOf)) :: ZV, !(Lib.cut (Lib.cut l [32]).2.1 [32]).2.2)
 else (.v (.int .i64 (kindW (Lib.cut l [32]).1)) :: .s 1 (strR ((spl 47 (Lib.cut (Lib.cut l [32]).2.1 [32]).1).map bOf)) :: (pvR (bOf (Lib.cut (Lib.cut l [32]).2.1 [32]).2.1)).1, (pvR (bOf (Lib.cut (Lib.cut l [32]).2.1 [32]).2.1)).2)
noncomputable def rowS (l : List UInt8) : Row :=
 .v (.int .i64 (stripW l).1) :: .s 1 (strR ((spl 47 (Lib.cut (stripW l).2 [32]).1).map bOf)) :: (bif (Lib.cut (stripW l).2 [32]).2.2 then (pvR (bOf (Lib.cut (stripW l).2 [32]).2.1)).1 else ZV)
noncomputable def goI : List (List UInt8) → Rows → Option Rows
 | [], ws => some ws
 | l :: t, ws => bif (rowI l).2 then goI t (ws ++ [(rowI l).1]) else none
def OpR (x : Row) : Prop := ∃ (k : Int) (ps : Rows) (v : Row), x = .v (.int .i64 k) :: .s 1 ps :: v ∧ SL E 9 ps ∧ ShL E (E 33) v ∧ opOk x = true
theorem pv_txt2 {v : Row} (hv : ShL E (E 33) v) (hz : 0 < valSz 6 v) : pvR (bOf (vTxt 6 v).toList) = (v, true) := by
 rw [bOf_toList]
 have h1 := vTxt_size 6 v hz (num_ok 6 hv)
 have h2 := (valSz_rng 6 v).2
 have ho : valueOk v = true := by simpa [valueOk] using hz
 have hs : (vTxt 6 v).size ≤ 1048576 := by omega
 have e := pvR_txt hv ho hs
 have e2 : (pvR (vTxt 6 v)).2 = true := by
  unfold pvR
  rw [dif_pos ⟨v, hv, ho, rfl⟩]
 exact Prod.ext e e2
theorem both_row {x : Row} (h : OpR x) : rowI (opL x) = (x, true) ∧ rowS (opL x) = x := by
 obtain ⟨k, ps, v, rfl, hp, hv, ho⟩ := h
 obtain ⟨k1, k3, hpo, hz, hvz⟩ := op_parts ho
 have k1 : 1 ≤ k := k1
 have k3 : k ≤ 3 := k3
 have hpo : pathOk ps = true := hpo
 have hz : k = 2 → zeroV v = true := hz
 have hvz : k ≠ 2 → 0 < valSz 6 v := hvz
 obtain ⟨p1, p2, p3⟩ := pathL_no hpo
 have h32 : (32 : UInt8) ∉ pathL ps := fun hc => (p1 _ hc).2 rfl
 have eo : opL (.v (.int .i64 k) :: .s 1 ps :: v) = wordL' k ++ 32 :: (pathL ps ++ (bif k == 2 then [] else 32 :: (vTxt 6 v).toList)) := rfl
 have c1 : Lib.cut (wordL' k ++ 32 :: (pathL ps ++ (bif k == 2 then [] else 32 :: (vTxt 6 v).toList))) [32] = (wordL' k, pathL ps ++ (bif k == 2 then [] else 32 :: (vTxt 6 v).toList), true) := cut_mid (wordL_no k).2
 have hne : pathL ps ++ (bif k == 2 then [] else 32 :: (vTxt 6 v).toList) ≠ [] := fun e => p2 (List.append_eq_nil_iff.1 e).1
 have hst := stripW_word k1 k3 hne
 have hps := rows_str hp
 rw [← p3] at hps
 rw [eo]
 unfold rowI rowS
 rw [c1, hst]
 dsimp only
 rw [kindW_word k1 k3]
 by_cases h2 : k = 2
 ·have hzv := zero_of hv (hz h2)
  subst h2
  have c2 : Lib.cut (pathL ps ++ (bif ((2 : Int) == 2) then [] else 32 :: (vTxt 6 v).toList)) [32] = (pathL ps, [], false) := by
   rw [show ((2 : Int) == 2) = true from rfl, cond_true, List.append_nil, cut_none h32]
  rw [c2]
  dsimp only
  rw [hps, show decide (wordL' 2 = [100, 114, 111, 112]) = true from by decide, hzv]
  exact ⟨rfl, rfl⟩
 ·have hb : (k == 2) = false := by simpa using h2
  have c2 : Lib.cut (pathL ps ++ (bif k == 2 then [] else 32 :: (vTxt 6 v).toList)) [32] = (pathL ps, (vTxt 6 v).toList, true) := by
   rw [hb, cond_false, cut_mid h32]
  have hw : decide (wordL' k = [100, 114, 111, 112]) = false := by
   have : k = 1 ∨ k = 3 := by omega
   rcases this with rfl | rfl <;> decide
  rw [c2]
  dsimp only
  rw [hps, hw, pv_txt2 hv (hvz h2)]
  exact ⟨rfl, rfl⟩
theorem goI_txt : ∀ (l ws : Rows), (∀ x ∈ l, OpR x) → goI (l.map opL) ws = some (ws ++ l)
 | [], ws, _ => by simp [goI]
 | x :: l, ws, h => by
  have e := (both_row (h x (by simp))).1
  have ih := goI_txt l (ws ++ [x]) fun y hy => h y (by simp [hy])
  rw [List.map_cons, goI, e, cond_true, ih]
  simp
theorem map_txt : ∀ (l : Rows), (∀ x ∈ l, OpR x) → (l.map opL).map rowS = l
 | [], _ => rfl
 | x :: l, h => by
  rw [List.map_cons, List.map_cons, (both_row (h x (by simp))).2, map_txt l fun y hy => h y (by simp [hy])]
noncomputable def parI (s : List UInt8) : Option Rows := goI (spl 10 (Lib.trimSuffix s [10])) []
noncomputable def parS (s : List UInt8) : Rows := ((spl 10 s).dropLast.take 21).map rowS
theorem op_rows {l : Rows} (h : SL E 44 l) (ho : opsOk l = true) : ∀ x ∈ l, OpR x := fun x hx => by
 have w := h.2.mem x hx
 have hox := (ops_at ho).2 x hx
 obtain ⟨nx0, lx1, nx2, sx3, nx4, lx5, lx6, rfl, px0, px1, px2, px3, px4, px5, px6⟩ := I44 w
 exact ⟨_, _, _, rfl, px1, val_row px2 px3 px4 px5 px6, hox⟩
theorem both_read {l : Rows} (h : SL E 44 l) (ho : opsOk l = true) (hn : l ≠ []) : parI (opsTxt l).toList = some l ∧ parS (opsTxt l).toList = l := by
 have hr := op_rows h ho
 have hno : ∀ y ∈ l.map opL, (10 : UInt8) ∉ y := fun y hy => by
  obtain ⟨x, hx, rfl⟩ := List.mem_map.1 hy
  exact opL_no ((ops_at ho).2 x hx)
 have hl := ops_lines ho
 have hne : l.map opL ≠ [] := by simpa using hn
 constructor
 ·unfold parI
  rw [hl, spl_suf hne hno, goI_txt l [] hr]
  rfl
 ·unfold parS
  have hf := (ops_at ho).1
  rw [hl, spl_lines hno, List.dropLast_concat, List.take_of_length_le (by simp; omega), map_txt l hr]
def bad : Out := ⟨.t [.d (.s 7 []), .d (.v (.bool false))], []⟩
def ans (s : ByteArray) (m : Option Rows) : Out := match m with
 | some m => bif opsOk m && bytesEq (opsTxt m) s then ⟨.t [.d (.s 7 m), .d (.v (.bool true))], []⟩ else bad
 | none => bad
theorem ans_same {s : ByteArray} {x y : Option Rows} (h1 : ∀ m, x = some m → opsOk m = true → s = opsTxt m → y = some m) (h2 : ∀ m, y = some m → opsOk m = true → s = opsTxt m → x = some m) : ans s x = ans s y := by
 have good : ∀ z : Option Rows, (∃ m, z = some m ∧ opsOk m = true ∧ s = opsTxt m) ∨ ans s z = bad := fun z => by
  cases z with
  | none => exact .inr rfl
  | some m =>
   cases h : opsOk m && bytesEq (opsTxt m) s with
   | false => exact .inr (by simp only [ans, h, cond_false])
   | true =>
    rw [Bool.and_eq_true] at h
    exact .inl ⟨m, rfl, h.1, (bytes_eq h.2).symm⟩
 rcases good x with ⟨m, e, g1, g2⟩ | hx
 ·rw [e, h1 m e g1 g2]
 ·rcases good y with ⟨m, e, g1, g2⟩ | hy
  ·rw [e, h2 m e g1 g2]
  ·rw [hx, hy]
end Go.Am.Pp
