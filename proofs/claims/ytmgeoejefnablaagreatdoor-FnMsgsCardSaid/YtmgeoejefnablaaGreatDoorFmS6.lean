/- Of the text of a right message both read that message; so both say the same of each text. Nothing is assumed. -/
import Derived.Test.YtmgeoejefnablaaGreatDoorFmS5
namespace Go.Am.Fm
variable {SK : Src}
set_option linter.unusedVariables false
set_option linter.unusedSimpArgs false
set_option maxRecDepth 8000
theorem dec_no {n : Int} (h : 0 ≤ n) : (32 : UInt8) ∉ (decS n).toList := fun hc => by
 rw [decS_list, if_neg (by omega)] at hc
 exact (dl_ne hc).2.1 rfl
theorem numP_dec {n : Int} (h0 : 0 ≤ n) (h1 : n ≤ 1000000) : numP (decS n).toList = n := by
 rw [numP, numL_dec h0 h1]
 show ((n.natAbs : Nat) : Int) = n
 omega
def RunR (x : Row) : Prop := ∃ a c : Int, x = [.v (.int .i64 a), .v (.int .i64 c)] ∧ (0 ≤ a ∧ a ≤ 1000000) ∧ (0 ≤ c ∧ c ≤ 1000000)
def WorkR (x : Row) : Prop := ∃ (a c : Int) (v : Row), x = .v (.int .i64 a) :: .v (.int .i64 c) :: v ∧ (0 ≤ a ∧ a ≤ 1000000) ∧ (0 ≤ c ∧ c ≤ 1000000) ∧ ShL E (E 46) v ∧ valueOk v = true
theorem pv_txt {v : Row} (hv : ShL E (E 46) v) (ho : valueOk v = true) : (pvR (bOf (vTxt 6 v).toList)).1 = v := by
 rw [bOf_toList]
 have h1 := vTxt_size 6 v (ok_size ho) (num_ok 6 hv)
 have h2 := (valSz_rng 6 v).2
 exact pvR_txt hv ho (by omega)
theorem runs_I {k : Int} (hk : (k == 1) = true) : ∀ (l ws rs : Rows), (∀ x ∈ l, RunR x) → goI k (l.map runL) ws rs = (ws, rs ++ l)
 | [], ws, rs, _ => by simp [goI]
 | x :: l, ws, rs, h => by
  have ih := fun rs => runs_I hk l ws rs fun y hy => h y (by simp [hy])
  obtain ⟨a, c, rfl, ha, hc⟩ := h x (by simp)
  have e : Lib.cut (runL [.v (.int .i64 a), .v (.int .i64 c)]) [32] = ((decS a).toList, (decS c).toList, true) := cut_mid (dec_no ha.1)
  have e2 : Lib.cut (decS c).toList [32] = ((decS c).toList, [], false) := cut_none (dec_no hc.1)
  rw [List.map_cons, goI, e]
  simp only [e2, hk, cond_true, numP_dec ha.1 ha.2, numP_dec hc.1 hc.2, ih, List.append_assoc, List.cons_append, List.nil_append]
theorem works_I {k : Int} (hk : (k == 1) = false) : ∀ (l ws rs : Rows), (∀ x ∈ l, WorkR x) → goI k (l.map workL) ws rs = (ws ++ l, rs)
 | [], ws, rs, _ => by simp [goI]
 | x :: l, ws, rs, h => by
  have ih := fun ws => works_I hk l ws rs fun y hy => h y (by simp [hy])
  obtain ⟨a, c, v, rfl, ha, hc, hv, ho⟩ := h x (by simp)
  have e : Lib.cut (workL (.v (.int .i64 a) :: .v (.int .i64 c) :: v)) [32] = ((decS a).toList, (decS c).toList ++ 32 :: (vTxt 6 v).toList, true) := cut_mid (dec_no ha.1)
  have e2 : Lib.cut ((decS c).toList ++ 32 :: (vTxt 6 v).toList) [32] = ((decS c).toList, (vTxt 6 v).toList, true) := cut_mid (dec_no hc.1)
  rw [List.map_cons, goI, e]
  simp only [e2, hk, cond_false, pv_txt hv ho, numP_dec ha.1 ha.2, numP_dec hc.1 hc.2, ih, List.append_assoc, List.cons_append, List.nil_append]
theorem run_no {x : Row} : (10 : UInt8) ∉ runL x := fun h => by
 rcases List.mem_append.1 h with h | h
 ·exact dec_nl h rfl
 ·rcases List.mem_cons.1 h with h | h
  ·exact absurd h (by decide)
  ·exact dec_nl h rfl
theorem work_no {x : Row} (hx : 0 < valSz 6 (x.drop 2)) : (10 : UInt8) ∉ workL x := fun h => by
 rcases List.mem_append.1 h with h | h
 ·exact dec_nl h rfl
 ·rcases List.mem_cons.1 h with h | h
  ·exact absurd h (by decide)
  ·rcases List.mem_append.1 h with h | h
   ·exact dec_nl h rfl
   ·rcases List.mem_cons.1 h with h | h
    ·exact absurd h (by decide)
    ·exact val_nl 6 _ hx _ h rfl
theorem headW_no (k : Int) : (32 : UInt8) ∉ headW k ∧ (10 : UInt8) ∉ headW k := by
 unfold headW
 cases k == 2 <;> decide
theorem name_no {u : ByteArray} (h : nameOk u = true) : (32 : UInt8) ∉ u.toList ∧ (10 : UInt8) ∉ u.toList :=
 ⟨fun hc => (nameCh_ne ((name_ch h).1 _ hc)).2.2.2.2.2.1 rfl, fun hc => (nameCh_ne ((name_ch h).1 _ hc)).2.2.2.2.2.2.1 rfl⟩
theorem head_no {k r : Int} {u : ByteArray} (h : nameOk u = true) : (10 : UInt8) ∉ headL k u r := fun hc => by
 rcases List.mem_append.1 hc with hc | hc
 ·exact (headW_no k).2 hc
 ·rcases List.mem_cons.1 hc with hc | hc
  ·exact absurd hc (by decide)
  ·rcases List.mem_append.1 hc with hc | hc
   ·exact (name_no h).2 hc
   ·rcases List.mem_cons.1 hc with hc | hc
    ·exact absurd hc (by decide)
    ·exact dec_nl hc rfl
theorem kind_head {k : Int} (h : k = 1 ∨ k = 2) : kindN (headW k) = k := by
 rcases h with rfl | rfl
 ·show (bif bytesEq (bOf [116, 101, 108, 108]) ({ data := #[108, 105, 115, 116] } : ByteArray) then (2 : Int) else 1) = 1
  rw [show bytesEq (bOf [116, 101, 108, 108]) ({ data := #[108, 105, 115, 116] } : ByteArray) = false from by simp [bytesEq, ByteArray.toList_eq, bOf]]
  rfl
 ·show (bif bytesEq (bOf [108, 105, 115, 116]) ({ data := #[108, 105, 115, 116] } : ByteArray) then (2 : Int) else 1) = 2
  rw [show bytesEq (bOf [108, 105, 115, 116]) ({ data := #[108, 105, 115, 116] } : ByteArray) = true from beq_self _]
  rfl
theorem both_read {k r : Int} {u : ByteArray} {ws rs : Rows} (h : msgOk [.v (.int .i64 k), .v (.string u), .v (.int .i64 r), .s 7 ws, .s 2 rs] = true) (hw : SL E 48 ws) (hr : SL E 42 rs) :
  parI (msgTxt [.v (.int .i64 k), .v (.string u), .v (.int .i64 r), .s 7 ws, .s 2 rs]).toList = [.v (.int .i64 k), .v (.string u), .v (.int .i64 r), .s 7 ws, .s 2 rs] := by
 have hl := msg_lines h
 obtain ⟨_, r0, r1, hwo, hro⟩ := msg_parts h
 have h : (nameOk u && (if k = 1 then inB r 0 1000000 && (runsOk 0 rs && ((ws.length : Int) == 0)) else if k = 2 then inB r 1 1000000 && (worksOk ws && ((rs.length : Int) == 0)) else false)) = true := h
 rw [Bool.and_eq_true] at h
 obtain ⟨hn, h⟩ := h
 have hk : k = 1 ∧ ws = [] ∨ k = 2 ∧ rs = [] := by
  by_cases h1 : k = 1
  ·rw [if_pos h1] at h
   simp only [Bool.and_eq_true, beq_iff_eq] at h
   exact .inl ⟨h1, List.length_eq_zero_iff.1 (by omega)⟩
  ·rw [if_neg h1] at h
   by_cases h2 : k = 2
   ·rw [if_pos h2] at h
    simp only [Bool.and_eq_true, beq_iff_eq] at h
    exact .inr ⟨h2, List.length_eq_zero_iff.1 (by omega)⟩
   ·rw [if_neg h2] at h
    cases h
 have hkk : k = 1 ∨ k = 2 := hk.imp And.left And.left
 have hruns : ∀ x ∈ rs, RunR x := fun x hx => by
  obtain ⟨i, hx⟩ := List.mem_iff_getElem?.1 hx
  have hb := runs_at hro hx
  have hs := hr.at hx
  obtain ⟨na0, na1, rfl, pa0, pa1⟩ := I42 hs
  simp only [cN, List.getElem?_cons_zero, List.getElem?_cons_succ] at hb
  exact ⟨_, _, rfl, by omega, by omega⟩
 have hworks : ∀ x ∈ ws, WorkR x := fun x hx => by
  obtain ⟨i, hx⟩ := List.mem_iff_getElem?.1 hx
  have hb := works_at hwo hx
  have hs := hw.at hx
  obtain ⟨na0, na1, na2, sa3, na4, la5, la6, rfl, pa0, pa1, pa2, pa3, pa4, pa5, pa6⟩ := I48 hs
  simp only [cN, List.getElem?_cons_zero, List.getElem?_cons_succ] at hb
  exact ⟨_, _, _, rfl, by omega, by omega, val_row pa2 pa3 pa4 pa5 pa6, by simpa [valueOk] using hb.2.2.2.2⟩
 have hno : ∀ l ∈ headL k u r :: (rs.map runL ++ ws.map workL), (10 : UInt8) ∉ l := fun l hl => by
  rcases List.mem_cons.1 hl with rfl | hl
  ·exact head_no hn
  ·rcases List.mem_append.1 hl with hl | hl
   ·obtain ⟨x, _, rfl⟩ := List.mem_map.1 hl
    exact run_no
   ·obtain ⟨x, hx, rfl⟩ := List.mem_map.1 hl
    obtain ⟨a, c, v, rfl, _, _, hv, ho⟩ := hworks x hx
    exact work_no (ok_size ho)
 have e1 := spl_lines hno
 have e2 := spl_suf (by simp) hno
 have e3 : spl 32 (headL k u r) = [headW k, u.toList, (decS r).toList] := by
  unfold headL
  rw [spl_mid (headW_no k).1, spl_mid (name_no hn).1, spl_end (dec_no r0)]
 have e4 : Lib.cut (headL k u r) [32] = (headW k, u.toList ++ 32 :: (decS r).toList, true) := cut_mid (headW_no k).1
 have e5 : Lib.cut (u.toList ++ 32 :: (decS r).toList) [32] = (u.toList, (decS r).toList, true) := cut_mid (name_no hn).1
 have hfw := works_few hwo
 have hfr := runs_few hro
 have hlen : (rs.map runL ++ ws.map workL).length ≤ 80 := by
  rcases hk with ⟨_, rfl⟩ | ⟨_, rfl⟩ <;> simp <;> omega
 have e7 : goI k (rs.map runL ++ ws.map workL) [] [] = (ws, rs) := by
  rcases hk with ⟨rfl, rfl⟩ | ⟨rfl, rfl⟩
  ·simpa using runs_I (k := 1) rfl rs [] [] hruns
  ·simpa using works_I (k := 2) rfl ws [] [] hworks
 have hl : (msgTxt [.v (.int .i64 k), .v (.string u), .v (.int .i64 r), .s 7 ws, .s 2 rs]).toList = linesT (headL k u r :: (rs.map runL ++ ws.map workL)) := hl
 ·unfold parI
  rw [hl, e2]
  dsimp only
  rw [e4]
  dsimp only
  rw [e5]
  dsimp only
  rw [kind_head hkk, e7, numP_dec r0 r1, bOf_toList]
end Go.Am.Fm
