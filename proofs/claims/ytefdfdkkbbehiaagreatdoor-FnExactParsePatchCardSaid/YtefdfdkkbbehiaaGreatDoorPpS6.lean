/- The text of a patch, of both. Nothing is assumed. -/
import Derived.Test.YtefdfdkkbbehiaaGreatDoorPpS5
namespace Go.Am.Pp
set_option linter.unusedVariables false
set_option linter.unusedSimpArgs false
set_option maxRecDepth 8000
theorem f37 {v : Row} (h : ShL E (E 33) v) (hs : 0 < valSz 6 v) : Ev fs 37 [.g v] ⟨.d (.v (.string (vTxt 6 v))), []⟩ := by
 have hok : valueOk v = true := by simpa [valueOk] using hs
 have q1 := f16 h
 have q2 := f69 6 h hs
 obtain ⟨na0, sa1, na2, la3, la4, rfl, pa0, pa1, pa2, pa3, pa4⟩ := I33 h
 refine Ev.of (af := a37) rfl rfl (Evt.congr (fun d n => a37q ..) ?_)
 refine ev_call q1 ?_
 simp -implicitDefEqProofs only [rdl, Ex.same, Nat.beq, hok, Bool.not_true]
 refine ev_call q2 ?_
 simp -implicitDefEqProofs only [rdl, Ex.same, Nat.beq]
 exact Evt.ret
theorem rows_steps {ps : Rows} (h : SL E 9 ps) : (steps ps).map (fun s => [D.v (.string s)]) = ps := by
 unfold steps
 rw [List.map_map]
 conv => rhs; rw [← List.map_id ps]
 refine List.map_congr_left fun x hx => ?_
 have w := h.2.mem x hx
 obtain ⟨sw0, rfl, pw0⟩ := I9 w
 simp only [Function.comp, cT, List.getElem?_cons_zero, id]
theorem j36 {l : Rows} (hl : SL E 9 l) (hp : pathOk l = true) : Ev fs 36 [.d (.s 1 l), .d (.v (.string ({ data := #[47] } : ByteArray)))] ⟨.d (.v (.string (pathB l))), []⟩ :=
 Ev.nat rfl ⟨0, fun _ _ _ _ => by
  have h3 : strsOf l = some (steps l) := by
   have := strsOf_map (steps l)
   rwa [rows_steps hl] at this
  have h4 : (joinS (steps l) ({ data := #[47] } : ByteArray)).size ≤ 105 := path_size hp
  have h6 := (path_at hp).2.1
  have h7 : (steps l).length = l.length := by simp [steps]
  have h5 : joinOk (steps l) ({ data := #[47] } : ByteArray) = true := by simp [joinOk]; omega
  have h8 : pathB l = joinS (steps l) ({ data := #[47] } : ByteArray) := rfl
  rw [h8]
  show (((((((natF 137 fReplace 36 [.d (.s 1 l), .d (.v (.string ({ data := #[47] } : ByteArray)))]).or (natF 36 fJoin 36 [.d (.s 1 l), .d (.v (.string ({ data := #[47] } : ByteArray)))])).or (natF 151 fCut 36 [.d (.s 1 l), .d (.v (.string ({ data := #[47] } : ByteArray)))])).or (natF 154 fTrim 36 [.d (.s 1 l), .d (.v (.string ({ data := #[47] } : ByteArray)))])).or (natF 153 fAny 36 [.d (.s 1 l), .d (.v (.string ({ data := #[47] } : ByteArray)))])).or (natF 22 fSplit 36 [.d (.s 1 l), .d (.v (.string ({ data := #[47] } : ByteArray)))])).or (natF 56 fCut3 36 [.d (.s 1 l), .d (.v (.string ({ data := #[47] } : ByteArray)))])).or (natF 23 fSuf 36 [.d (.s 1 l), .d (.v (.string ({ data := #[47] } : ByteArray)))]) = _
  simp [natF, fJoin, h3, h5, show Nat.beq 36 137 = false from rfl, show Nat.beq 36 151 = false from rfl, show Nat.beq 36 154 = false from rfl, show Nat.beq 36 153 = false from rfl, show Nat.beq 36 22 = false from rfl, show Nat.beq 36 56 = false from rfl, show Nat.beq 36 23 = false from rfl]⟩
theorem opLine_size {x : Row} (h : ShL E (E 44) x) (ho : opOk x = true) : (opLine x).size ≤ 90000 := by
 obtain ⟨k1, k3, hpo, _, hvz⟩ := op_parts ho
 have hp := path_size hpo
 have hw : (opWord (cN x 0)).size ≤ 5 := by
  unfold opWord
  split
  ·exact Nat.le_of_lt (show 4 < 5 by omega)
  ·split <;> exact Nat.le_refl 5
 have ht : (opTail x).size ≤ 82000 := by
  unfold opTail
  by_cases h2 : cN x 0 = 2
  ·rw [h2]; exact Nat.zero_le _
  ·rw [show (cN x 0 == 2) = false from by simpa using h2, cond_false]
   have hz := hvz h2
   have z : sp.size = 1 := rfl
   obtain ⟨nx0, lx1, nx2, sx3, nx4, lx5, lx6, rfl, px0, px1, px2, px3, px4, px5, px6⟩ := I44 h
   have hv := val_row px2 px3 px4 px5 px6
   have hz : 0 < valSz 6 [.v (.int .i64 nx2), .v (.string sx3), .v (.int .i64 nx4), .s 1 lx5, .s 5 lx6] := hz
   have hsz := vTxt_size 6 _ hz (num_ok 6 hv)
   have hrg := (valSz_rng 6 [.v (.int .i64 nx2), .v (.string sx3), .v (.int .i64 nx4), .s 1 lx5, .s 5 lx6]).2
   rw [ByteArray.size_append, z]
   show 1 + (vTxt 6 [.v (.int .i64 nx2), .v (.string sx3), .v (.int .i64 nx4), .s 1 lx5, .s 5 lx6]).size ≤ 82000
   omega
 have zn : nl.size = 1 := rfl
 unfold opLine
 simp only [ByteArray.size_append, zn]
 omega
theorem f12 {l : Rows} (hl : SL E 44 l) : Ev fs 12 [.d (.s 7 l)] ⟨.d (.v (.string (opsTxt l))), []⟩ := by
 have q1 := f18 hl
 refine Ev.of (af := a12) rfl rfl (Evt.congr (fun d n => a12q ..) ?_)
 refine ev_call q1 ?_
 simp -implicitDefEqProofs only [rdl, Ex.same, Nat.beq]
 unfold opsTxt
 cases ho : opsOk l with
 | false => exact Evt.ret
 | true =>
  simp -implicitDefEqProofs only [rdl, Ex.same, Nat.beq, Bool.not_true]
  have hf := (ops_at ho).1
  have z32 : ({ data := #[32] } : ByteArray).size = 1 := rfl
  have z10 : ({ data := #[10] } : ByteArray).size = 1 := rfl
  have z47 : ({ data := #[47] } : ByteArray).size = 1 := rfl
  have main := (fold_loop (L := fun d n acc i => l12x0 (TabD fs d) d n [.v (.string acc), .fz 7 l, .v (.int .i64 (l.length : Int)), .v (.int .i64 i)]) (a := l) (f := fun a x => a ++ opLine x) (acc := ByteArray.empty) (Y := fun acc => (.exit 0, [.v (.string acc)])) (fun i acc => acc.size ≤ i * 100000) (fun d n acc => ?_) (fun i x acc res hi hx hI q => ?_) (fun i x acc hi hx hI => ?_) (by simp)).1
  rotate_left
  ·rw [l12x0s]
   simp -implicitDefEqProofs only [rdl, Ex.same, Nat.beq, Int.lt_irrefl, decide_false]
  ·have w := hl.at hx
   have hox := (ops_at ho).2 x (List.mem_of_getElem? hx)
   have hw := wrap_succ hi hl.le
   obtain ⟨k1, k3, hpo, _, hvz⟩ := op_parts hox
   obtain ⟨nx0, lx1, nx2, sx3, nx4, lx5, lx6, rfl, px0, px1, px2, px3, px4, px5, px6⟩ := I44 w
   have k1 : 1 ≤ nx0 := k1
   have k3 : nx0 ≤ 3 := k3
   have hpo : pathOk lx1 = true := hpo
   have hvz : nx0 ≠ 2 → 0 < valSz 6 [.v (.int .i64 nx2), .v (.string sx3), .v (.int .i64 nx4), .s 1 lx5, .s 5 lx6] := hvz
   have hv := val_row px2 px3 px4 px5 px6
   have hps := path_size hpo
   clear hox
   simp only [l12x0s]
   simp -implicitDefEqProofs only [rdl, Ex.same, Nat.beq, decide_eq_true (Int.ofNat_lt.2 hi), dec_nn, look_at hx, hw]
   rcases (show nx0 = 1 ∨ nx0 = 2 ∨ nx0 = 3 by omega) with rfl | rfl | rfl
   ·have zw : ({ data := #[115, 101, 116, 32] } : ByteArray).size = 4 := rfl
    have e : opLine [.v (.int .i64 1), .s 1 lx1, .v (.int .i64 nx2), .v (.string sx3), .v (.int .i64 nx4), .s 1 lx5, .s 5 lx6] = ({ data := #[115, 101, 116, 32] } : ByteArray) ++ pathB lx1 ++ (({ data := #[32] } : ByteArray) ++ vTxt 6 [.v (.int .i64 nx2), .v (.string sx3), .v (.int .i64 nx4), .s 1 lx5, .s 5 lx6]) ++ ({ data := #[10] } : ByteArray) := rfl
    rw [e] at q
    have hz := hvz (by decide)
    have hsz := vTxt_size 6 _ hz (num_ok 6 hv)
    have hrg := (valSz_rng 6 [.v (.int .i64 nx2), .v (.string sx3), .v (.int .i64 nx4), .s 1 lx5, .s 5 lx6]).2
    have call := f37 hv hz
    have hq : (vTxt 6 [.v (.int .i64 nx2), .v (.string sx3), .v (.int .i64 nx4), .s 1 lx5, .s 5 lx6]).size ≤ 81600 := by omega
    clear hsz
    generalize vTxt 6 [.v (.int .i64 nx2), .v (.string sx3), .v (.int .i64 nx4), .s 1 lx5, .s 5 lx6] = tx at *
    simp -implicitDefEqProofs only [rdl, Ex.same, Nat.beq, show IntKind.i64.wrap ((1 : Int) - 1) = 0 from by decide]
    try refine ev_tst (by decide) ?_
    simp -implicitDefEqProofs only [rdl, Ex.same, Nat.beq, show Int.toNat 0 = 0 from rfl, look_at (show ([[.v (.string ({ data := #[115, 101, 116, 32] } : ByteArray))], [.v (.string ({ data := #[100, 114, 111, 112, 32] } : ByteArray))], [.v (.string ({ data := #[110, 101, 101, 100, 32] } : ByteArray))]] : Rows)[0]? = some [.v (.string ({ data := #[115, 101, 116, 32] } : ByteArray))] from rfl)]
    refine ev_call (j36 px1 hpo) ?_
    simp -implicitDefEqProofs only [rdl, Ex.same, Nat.beq, show ((1 : Int) != 2) = true from rfl]
    refine ev_tst (sz_le (by simp only [ByteArray.size_append, z32, z10, z47, zw, maxLen]; omega)) ?_
    refine ev_tst (sz_le (by simp only [ByteArray.size_append, z32, z10, z47, zw, maxLen]; omega)) ?_
    refine ev_call call ?_
    simp -implicitDefEqProofs only [rdl, Ex.same, Nat.beq]
    refine ev_tst (sz_le (by simp only [ByteArray.size_append, z32, z10, z47, zw, maxLen]; omega)) ?_
    refine ev_tst (sz_le (by simp only [ByteArray.size_append, z32, z10, z47, zw, maxLen]; omega)) ?_
    refine ev_tst (sz_le (by simp only [ByteArray.size_append, z32, z10, z47, zw, maxLen]; omega)) ?_
    simp only [ByteArray.append_assoc] at q ⊢
    exact q
   ·have zw : ({ data := #[100, 114, 111, 112, 32] } : ByteArray).size = 5 := rfl
    have e : opLine [.v (.int .i64 2), .s 1 lx1, .v (.int .i64 nx2), .v (.string sx3), .v (.int .i64 nx4), .s 1 lx5, .s 5 lx6] = ({ data := #[100, 114, 111, 112, 32] } : ByteArray) ++ pathB lx1 ++ ByteArray.empty ++ ({ data := #[10] } : ByteArray) := rfl
    rw [e] at q
    simp -implicitDefEqProofs only [rdl, Ex.same, Nat.beq, show IntKind.i64.wrap ((2 : Int) - 1) = 1 from by decide]
    try refine ev_tst (by decide) ?_
    simp -implicitDefEqProofs only [rdl, Ex.same, Nat.beq, show Int.toNat 1 = 1 from rfl, look_at (show ([[.v (.string ({ data := #[115, 101, 116, 32] } : ByteArray))], [.v (.string ({ data := #[100, 114, 111, 112, 32] } : ByteArray))], [.v (.string ({ data := #[110, 101, 101, 100, 32] } : ByteArray))]] : Rows)[1]? = some [.v (.string ({ data := #[100, 114, 111, 112, 32] } : ByteArray))] from rfl)]
    refine ev_call (j36 px1 hpo) ?_
    simp -implicitDefEqProofs only [rdl, Ex.same, Nat.beq, show ((2 : Int) != 2) = false from rfl]
    refine ev_tst (sz_le (by simp only [ByteArray.size_append, z32, z10, z47, zw, maxLen]; omega)) ?_
    refine ev_tst (sz_le (by simp only [ByteArray.size_append, z32, z10, z47, zw, maxLen]; omega)) ?_
    refine ev_tst (sz_le (by simp only [ByteArray.size_append, z32, z10, z47, zw, maxLen]; omega)) ?_
    simp only [ByteArray.append_assoc] at q ⊢
    try simp only [ByteArray.empty_append] at q
    exact q
   ·have zw : ({ data := #[110, 101, 101, 100, 32] } : ByteArray).size = 5 := rfl
    have e : opLine [.v (.int .i64 3), .s 1 lx1, .v (.int .i64 nx2), .v (.string sx3), .v (.int .i64 nx4), .s 1 lx5, .s 5 lx6] = ({ data := #[110, 101, 101, 100, 32] } : ByteArray) ++ pathB lx1 ++ (({ data := #[32] } : ByteArray) ++ vTxt 6 [.v (.int .i64 nx2), .v (.string sx3), .v (.int .i64 nx4), .s 1 lx5, .s 5 lx6]) ++ ({ data := #[10] } : ByteArray) := rfl
    rw [e] at q
    have hz := hvz (by decide)
    have hsz := vTxt_size 6 _ hz (num_ok 6 hv)
    have hrg := (valSz_rng 6 [.v (.int .i64 nx2), .v (.string sx3), .v (.int .i64 nx4), .s 1 lx5, .s 5 lx6]).2
    have call := f37 hv hz
    have hq : (vTxt 6 [.v (.int .i64 nx2), .v (.string sx3), .v (.int .i64 nx4), .s 1 lx5, .s 5 lx6]).size ≤ 81600 := by omega
    clear hsz
    generalize vTxt 6 [.v (.int .i64 nx2), .v (.string sx3), .v (.int .i64 nx4), .s 1 lx5, .s 5 lx6] = tx at *
    simp -implicitDefEqProofs only [rdl, Ex.same, Nat.beq, show IntKind.i64.wrap ((3 : Int) - 1) = 2 from by decide]
    try refine ev_tst (by decide) ?_
    simp -implicitDefEqProofs only [rdl, Ex.same, Nat.beq, show Int.toNat 2 = 2 from rfl, look_at (show ([[.v (.string ({ data := #[115, 101, 116, 32] } : ByteArray))], [.v (.string ({ data := #[100, 114, 111, 112, 32] } : ByteArray))], [.v (.string ({ data := #[110, 101, 101, 100, 32] } : ByteArray))]] : Rows)[2]? = some [.v (.string ({ data := #[110, 101, 101, 100, 32] } : ByteArray))] from rfl)]
    refine ev_call (j36 px1 hpo) ?_
    simp -implicitDefEqProofs only [rdl, Ex.same, Nat.beq, show ((3 : Int) != 2) = true from rfl]
    refine ev_tst (sz_le (by simp only [ByteArray.size_append, z32, z10, z47, zw, maxLen]; omega)) ?_
    refine ev_tst (sz_le (by simp only [ByteArray.size_append, z32, z10, z47, zw, maxLen]; omega)) ?_
    refine ev_call call ?_
    simp -implicitDefEqProofs only [rdl, Ex.same, Nat.beq]
    refine ev_tst (sz_le (by simp only [ByteArray.size_append, z32, z10, z47, zw, maxLen]; omega)) ?_
    refine ev_tst (sz_le (by simp only [ByteArray.size_append, z32, z10, z47, zw, maxLen]; omega)) ?_
    refine ev_tst (sz_le (by simp only [ByteArray.size_append, z32, z10, z47, zw, maxLen]; omega)) ?_
    simp only [ByteArray.append_assoc] at q ⊢
    exact q
  ·have h1 := opLine_size (hl.at hx) ((ops_at ho).2 x (List.mem_of_getElem? hx))
   simp only [ByteArray.size_append]
   omega
  ·refine ev_aft (L := fun d n => l12x0 (TabD fs d) d n [.v (.string ({ data := #[] } : ByteArray)), .fz 7 l, .v (.int .i64 (l.length : Int)), .v (.int .i64 0)]) main ?_
   simp -implicitDefEqProofs only [rdl, Ex.same, Nat.beq]
   exact Evt.ret
theorem path_take {l : Rows} (h : pathOk l = true) (j : Nat) : (joinS ((steps l).take j) slash).size ≤ 105 := by
 obtain ⟨_, h2, h3⟩ := path_at h
 have h4 := joinS_size (sep := slash) rfl ((steps l).take j)
 have key : ∀ q : List ByteArray, (∀ s ∈ q, stepOk s = true) → sumB q ≤ 21 * q.length := by
  intro q
  induction q with
  | nil => intro _; simp [sumB]
  | cons x q ih =>
   intro h
   have h1 := (step_ch (h x (by simp))).2.2
   have h2 := ih fun s hs => h s (by simp [hs])
   have e : x.toList.length = x.size := toList_length
   simp only [sumB, List.map_cons, List.sum_cons, List.length_cons] at *
   omega
 have h5 := key ((steps l).take j) fun s hs => h3 s (List.mem_of_mem_take hs)
 have e : ((steps l).take j).length ≤ 5 := by
  have : (steps l).length = l.length := by simp [steps]
  rw [List.length_take]
  omega
 omega
theorem path_loop {l ps : Rows} {i : Nat} {k : Int} {v : Row} (hx : l[i]? = some (.v (.int .i64 k) :: .s 1 ps :: v)) (hp : SL E 9 ps) (hpo : pathOk ps = true) {a : ByteArray} (ha : a.size ≤ 10000000) :
  Evt (fun d n => l21x1 (TabD fs d) d n [.fz 7 l, .o 1 ([[.v (.string ({ data := #[] } : ByteArray))], [.v (.string ({ data := #[115, 101, 116, 32] } : ByteArray))], [.v (.string ({ data := #[100, 114, 111, 112, 32] } : ByteArray))], [.v (.string ({ data := #[110, 101, 101, 100, 32] } : ByteArray))]] : Rows), .v (.string a), .v (.int .i64 (i : Int)), .v (.int .i64 0)]) (.exit 2, [.fz 7 l, .o 1 ([[.v (.string ({ data := #[] } : ByteArray))], [.v (.string ({ data := #[115, 101, 116, 32] } : ByteArray))], [.v (.string ({ data := #[100, 114, 111, 112, 32] } : ByteArray))], [.v (.string ({ data := #[110, 101, 101, 100, 32] } : ByteArray))]] : Rows), .v (.string (a ++ pathB ps)), .v (.int .i64 (i : Int))]) := by
 have z47 : ({ data := #[47] } : ByteArray).size = 1 := rfl
 have key : ∀ (m j : Nat), j + m = ps.length → Evt (fun d n => l21x1 (TabD fs d) d n [.fz 7 l, .o 1 ([[.v (.string ({ data := #[] } : ByteArray))], [.v (.string ({ data := #[115, 101, 116, 32] } : ByteArray))], [.v (.string ({ data := #[100, 114, 111, 112, 32] } : ByteArray))], [.v (.string ({ data := #[110, 101, 101, 100, 32] } : ByteArray))]] : Rows), .v (.string (a ++ joinS ((steps ps).take j) slash)), .v (.int .i64 (i : Int)), .v (.int .i64 (j : Int))]) (.exit 2, [.fz 7 l, .o 1 ([[.v (.string ({ data := #[] } : ByteArray))], [.v (.string ({ data := #[115, 101, 116, 32] } : ByteArray))], [.v (.string ({ data := #[100, 114, 111, 112, 32] } : ByteArray))], [.v (.string ({ data := #[110, 101, 101, 100, 32] } : ByteArray))]] : Rows), .v (.string (a ++ pathB ps)), .v (.int .i64 (i : Int))]) := by
  intro m
  induction m with
  | zero =>
   intro j hj
   have e : (steps ps).take j = steps ps := List.take_of_length_le (by simp [steps]; omega)
   refine ev_succ ?_
   simp only [l21x1s]
   simp -implicitDefEqProofs only [rdl, Ex.same, Nat.beq, dec_nn, look_at hx, show decide ((j : Int) < (ps.length : Int)) = false from decide_eq_false (by omega)]
   exact Evt.ret' (by rw [e]; rfl)
  | succ m ih =>
   intro j hj
   have hlt : j < ps.length := by omega
   have hy := List.getElem?_eq_getElem hlt
   generalize ps[j] = y at hy
   have w := hp.at hy
   obtain ⟨sw0, rfl, pw0⟩ := I9 w
   have hs : (steps ps)[j]? = some sw0 := by simp [steps, hy, cT]
   have et : (steps ps).take (j + 1) = (steps ps).take j ++ [sw0] := by rw [List.take_add_one, hs]; rfl
   have nx := ih (j + 1) (by omega)
   have hz := path_take hpo j
   have hz1 := path_take hpo (j + 1)
   have hst := (step_ch ((path_at hpo).2.2 sw0 (List.mem_of_getElem? hs))).2.2
   have hsz : sw0.toList.length = sw0.size := toList_length
   have hw := wrap_succ hlt hp.le
   rw [et, joinS_snoc] at nx
   refine ev_succ ?_
   simp only [l21x1s]
   simp -implicitDefEqProofs only [rdl, Ex.same, Nat.beq, dec_nn, look_at hx, look_at hy, decide_eq_true (Int.ofNat_lt.2 hlt), hw]
   cases j with
   | zero =>
    simp -implicitDefEqProofs only [rdl, Ex.same, Nat.beq, show decide (((0 : Nat) : Int) > 0) = false from rfl]
    refine ev_tst (sz_le (by simp only [ByteArray.size_append, maxLen]; omega)) ?_
    have e1 : joinS ((steps ps).take 0) slash = ByteArray.empty := by
     rw [List.take_zero]
     show bOf (Lib.join [] _) = _
     rw [Lib.join_nil]
     rfl
    rw [e1, ByteArray.append_empty]
    simp only [List.take_zero, List.isEmpty_nil, cond_true] at nx
    exact nx
   | succ j =>
    have hne : ((steps ps).take (j + 1)).isEmpty = false := by
     cases hq : steps ps with
     | nil => rw [hq] at hs; simp at hs
     | cons q qs => rfl
    rw [hne, cond_false] at nx
    simp -implicitDefEqProofs only [rdl, Ex.same, Nat.beq, show decide (((j + 1 : Nat) : Int) > 0) = true from decide_eq_true (by omega)]
    refine ev_tst (sz_le (by simp only [ByteArray.size_append, z47, maxLen]; omega)) ?_
    try simp -implicitDefEqProofs only [rdl, Ex.same, Nat.beq, dec_nn, look_at hx, look_at hy]
    refine ev_tst (sz_le (by simp only [ByteArray.size_append, z47, maxLen]; omega)) ?_
    simp only [slash, ByteArray.append_assoc] at nx ⊢
    exact nx
 have h0 := key ps.length 0 (by omega)
 have e1 : joinS ((steps ps).take 0) slash = ByteArray.empty := by
  rw [List.take_zero]
  show bOf (Lib.join [] _) = _
  rw [Lib.join_nil]
  rfl
 rw [e1, ByteArray.append_empty] at h0
 exact h0
theorem f21 {l : Rows} (hl : SL E 44 l) : Ev fs 21 [.d (.s 7 l)] ⟨.d (.v (.string (opsTxt l))), []⟩ := by
 have q1 := f17 hl
 refine Ev.of (af := a21) rfl rfl (Evt.congr (fun d n => a21q ..) ?_)
 refine ev_call q1 ?_
 simp -implicitDefEqProofs only [rdl, Ex.same, Nat.beq]
 unfold opsTxt
 cases ho : opsOk l with
 | false => exact Evt.ret
 | true =>
  simp -implicitDefEqProofs only [rdl, Ex.same, Nat.beq, Bool.not_true]
  have hf := (ops_at ho).1
  have z32 : ({ data := #[32] } : ByteArray).size = 1 := rfl
  have z10 : ({ data := #[10] } : ByteArray).size = 1 := rfl
  have z47 : ({ data := #[47] } : ByteArray).size = 1 := rfl
  have main := (fold_loop (L := fun d n acc i => l21x0 (TabD fs d) d n [.fz 7 l, .o 1 ([[.v (.string ({ data := #[] } : ByteArray))], [.v (.string ({ data := #[115, 101, 116, 32] } : ByteArray))], [.v (.string ({ data := #[100, 114, 111, 112, 32] } : ByteArray))], [.v (.string ({ data := #[110, 101, 101, 100, 32] } : ByteArray))]] : Rows), .v (.string acc), .v (.int .i64 i)]) (a := l) (f := fun a x => a ++ opLine x) (acc := ByteArray.empty) (Y := fun acc => (.exit 0, [.v (.string acc)])) (fun i acc => acc.size ≤ i * 100000) (fun d n acc => ?_) (fun i x acc res hi hx hI q => ?_) (fun i x acc hi hx hI => ?_) (by simp)).1
  rotate_left
  ·rw [l21x0s]
   simp -implicitDefEqProofs only [rdl, Ex.same, Nat.beq, Int.lt_irrefl, decide_false]
  ·have w := hl.at hx
   have hox := (ops_at ho).2 x (List.mem_of_getElem? hx)
   have hw := wrap_succ hi hl.le
   obtain ⟨k1, k3, hpo, _, hvz⟩ := op_parts hox
   obtain ⟨nx0, lx1, nx2, sx3, nx4, lx5, lx6, rfl, px0, px1, px2, px3, px4, px5, px6⟩ := I44 w
   have k1 : 1 ≤ nx0 := k1
   have k3 : nx0 ≤ 3 := k3
   have hpo : pathOk lx1 = true := hpo
   have hvz : nx0 ≠ 2 → 0 < valSz 6 [.v (.int .i64 nx2), .v (.string sx3), .v (.int .i64 nx4), .s 1 lx5, .s 5 lx6] := hvz
   have hv := val_row px2 px3 px4 px5 px6
   have hps := path_size hpo
   clear hox
   simp only [l21x0s]
   simp -implicitDefEqProofs only [rdl, Ex.same, Nat.beq, decide_eq_true (Int.ofNat_lt.2 hi), dec_nn, look_at hx]
   rcases (show nx0 = 1 ∨ nx0 = 2 ∨ nx0 = 3 by omega) with rfl | rfl | rfl
   ·have zw : ({ data := #[115, 101, 116, 32] } : ByteArray).size = 4 := rfl
    have e : opLine [.v (.int .i64 1), .s 1 lx1, .v (.int .i64 nx2), .v (.string sx3), .v (.int .i64 nx4), .s 1 lx5, .s 5 lx6] = ({ data := #[115, 101, 116, 32] } : ByteArray) ++ pathB lx1 ++ (({ data := #[32] } : ByteArray) ++ vTxt 6 [.v (.int .i64 nx2), .v (.string sx3), .v (.int .i64 nx4), .s 1 lx5, .s 5 lx6]) ++ ({ data := #[10] } : ByteArray) := rfl
    rw [e] at q
    have hz := hvz (by decide)
    have hsz := vTxt_size 6 _ hz (num_ok 6 hv)
    have hrg := (valSz_rng 6 [.v (.int .i64 nx2), .v (.string sx3), .v (.int .i64 nx4), .s 1 lx5, .s 5 lx6]).2
    have call := f53 6 hv hz
    have hq : (vTxt 6 [.v (.int .i64 nx2), .v (.string sx3), .v (.int .i64 nx4), .s 1 lx5, .s 5 lx6]).size ≤ 81600 := by omega
    clear hsz
    generalize vTxt 6 [.v (.int .i64 nx2), .v (.string sx3), .v (.int .i64 nx4), .s 1 lx5, .s 5 lx6] = tx at *
    have lp := path_loop (l := l) (i := i) hx px1 hpo (a := acc ++ ({ data := #[115, 101, 116, 32] } : ByteArray)) (by simp only [ByteArray.size_append, zw]; omega)
    try refine ev_tst (by decide) ?_
    simp -implicitDefEqProofs only [rdl, Ex.same, Nat.beq, show Int.toNat 1 = 1 from rfl, look_at (show ([[.v (.string ({ data := #[] } : ByteArray))], [.v (.string ({ data := #[115, 101, 116, 32] } : ByteArray))], [.v (.string ({ data := #[100, 114, 111, 112, 32] } : ByteArray))], [.v (.string ({ data := #[110, 101, 101, 100, 32] } : ByteArray))]] : Rows)[1]? = some [.v (.string ({ data := #[115, 101, 116, 32] } : ByteArray))] from rfl)]
    refine ev_tst (sz_le (by simp only [ByteArray.size_append, z32, z10, z47, zw, maxLen]; omega)) ?_
    refine ev_aft (L := fun d n => l21x1 (TabD fs d) d n [.fz 7 l, .o 1 ([[.v (.string ({ data := #[] } : ByteArray))], [.v (.string ({ data := #[115, 101, 116, 32] } : ByteArray))], [.v (.string ({ data := #[100, 114, 111, 112, 32] } : ByteArray))], [.v (.string ({ data := #[110, 101, 101, 100, 32] } : ByteArray))]] : Rows), .v (.string (acc ++ ({ data := #[115, 101, 116, 32] } : ByteArray))), .v (.int .i64 (i : Int)), .v (.int .i64 0)]) lp ?_
    simp -implicitDefEqProofs only [rdl, Ex.same, Nat.beq, dec_nn, look_at hx, show ((1 : Int) != 2) = true from rfl, hw]
    refine ev_tst (sz_le (by simp only [ByteArray.size_append, z32, z10, z47, zw, maxLen]; omega)) ?_
    try simp -implicitDefEqProofs only [rdl, Ex.same, Nat.beq, dec_nn, look_at hx]
    refine ev_call call ?_
    simp -implicitDefEqProofs only [rdl, Ex.same, Nat.beq, hw]
    refine ev_tst (sz_le (by simp only [ByteArray.size_append, z32, z10, z47, zw, maxLen]; omega)) ?_
    refine ev_tst (sz_le (by simp only [ByteArray.size_append, z32, z10, z47, zw, maxLen]; omega)) ?_
    simp only [ByteArray.append_assoc] at q ⊢
    exact q
   ·have zw : ({ data := #[100, 114, 111, 112, 32] } : ByteArray).size = 5 := rfl
    have e : opLine [.v (.int .i64 2), .s 1 lx1, .v (.int .i64 nx2), .v (.string sx3), .v (.int .i64 nx4), .s 1 lx5, .s 5 lx6] = ({ data := #[100, 114, 111, 112, 32] } : ByteArray) ++ pathB lx1 ++ ByteArray.empty ++ ({ data := #[10] } : ByteArray) := rfl
    rw [e] at q
    have lp := path_loop (l := l) (i := i) hx px1 hpo (a := acc ++ ({ data := #[100, 114, 111, 112, 32] } : ByteArray)) (by simp only [ByteArray.size_append, zw]; omega)
    try refine ev_tst (by decide) ?_
    simp -implicitDefEqProofs only [rdl, Ex.same, Nat.beq, show Int.toNat 2 = 2 from rfl, look_at (show ([[.v (.string ({ data := #[] } : ByteArray))], [.v (.string ({ data := #[115, 101, 116, 32] } : ByteArray))], [.v (.string ({ data := #[100, 114, 111, 112, 32] } : ByteArray))], [.v (.string ({ data := #[110, 101, 101, 100, 32] } : ByteArray))]] : Rows)[2]? = some [.v (.string ({ data := #[100, 114, 111, 112, 32] } : ByteArray))] from rfl)]
    refine ev_tst (sz_le (by simp only [ByteArray.size_append, z32, z10, z47, zw, maxLen]; omega)) ?_
    refine ev_aft (L := fun d n => l21x1 (TabD fs d) d n [.fz 7 l, .o 1 ([[.v (.string ({ data := #[] } : ByteArray))], [.v (.string ({ data := #[115, 101, 116, 32] } : ByteArray))], [.v (.string ({ data := #[100, 114, 111, 112, 32] } : ByteArray))], [.v (.string ({ data := #[110, 101, 101, 100, 32] } : ByteArray))]] : Rows), .v (.string (acc ++ ({ data := #[100, 114, 111, 112, 32] } : ByteArray))), .v (.int .i64 (i : Int)), .v (.int .i64 0)]) lp ?_
    simp -implicitDefEqProofs only [rdl, Ex.same, Nat.beq, dec_nn, look_at hx, show ((2 : Int) != 2) = false from rfl, hw]
    refine ev_tst (sz_le (by simp only [ByteArray.size_append, z32, z10, z47, zw, maxLen]; omega)) ?_
    simp only [ByteArray.append_assoc] at q ⊢
    try simp only [ByteArray.empty_append] at q
    exact q
   ·have zw : ({ data := #[110, 101, 101, 100, 32] } : ByteArray).size = 5 := rfl
    have e : opLine [.v (.int .i64 3), .s 1 lx1, .v (.int .i64 nx2), .v (.string sx3), .v (.int .i64 nx4), .s 1 lx5, .s 5 lx6] = ({ data := #[110, 101, 101, 100, 32] } : ByteArray) ++ pathB lx1 ++ (({ data := #[32] } : ByteArray) ++ vTxt 6 [.v (.int .i64 nx2), .v (.string sx3), .v (.int .i64 nx4), .s 1 lx5, .s 5 lx6]) ++ ({ data := #[10] } : ByteArray) := rfl
    rw [e] at q
    have hz := hvz (by decide)
    have hsz := vTxt_size 6 _ hz (num_ok 6 hv)
    have hrg := (valSz_rng 6 [.v (.int .i64 nx2), .v (.string sx3), .v (.int .i64 nx4), .s 1 lx5, .s 5 lx6]).2
    have call := f53 6 hv hz
    have hq : (vTxt 6 [.v (.int .i64 nx2), .v (.string sx3), .v (.int .i64 nx4), .s 1 lx5, .s 5 lx6]).size ≤ 81600 := by omega
    clear hsz
    generalize vTxt 6 [.v (.int .i64 nx2), .v (.string sx3), .v (.int .i64 nx4), .s 1 lx5, .s 5 lx6] = tx at *
    have lp := path_loop (l := l) (i := i) hx px1 hpo (a := acc ++ ({ data := #[110, 101, 101, 100, 32] } : ByteArray)) (by simp only [ByteArray.size_append, zw]; omega)
    try refine ev_tst (by decide) ?_
    simp -implicitDefEqProofs only [rdl, Ex.same, Nat.beq, show Int.toNat 3 = 3 from rfl, look_at (show ([[.v (.string ({ data := #[] } : ByteArray))], [.v (.string ({ data := #[115, 101, 116, 32] } : ByteArray))], [.v (.string ({ data := #[100, 114, 111, 112, 32] } : ByteArray))], [.v (.string ({ data := #[110, 101, 101, 100, 32] } : ByteArray))]] : Rows)[3]? = some [.v (.string ({ data := #[110, 101, 101, 100, 32] } : ByteArray))] from rfl)]
    refine ev_tst (sz_le (by simp only [ByteArray.size_append, z32, z10, z47, zw, maxLen]; omega)) ?_
    refine ev_aft (L := fun d n => l21x1 (TabD fs d) d n [.fz 7 l, .o 1 ([[.v (.string ({ data := #[] } : ByteArray))], [.v (.string ({ data := #[115, 101, 116, 32] } : ByteArray))], [.v (.string ({ data := #[100, 114, 111, 112, 32] } : ByteArray))], [.v (.string ({ data := #[110, 101, 101, 100, 32] } : ByteArray))]] : Rows), .v (.string (acc ++ ({ data := #[110, 101, 101, 100, 32] } : ByteArray))), .v (.int .i64 (i : Int)), .v (.int .i64 0)]) lp ?_
    simp -implicitDefEqProofs only [rdl, Ex.same, Nat.beq, dec_nn, look_at hx, show ((3 : Int) != 2) = true from rfl, hw]
    refine ev_tst (sz_le (by simp only [ByteArray.size_append, z32, z10, z47, zw, maxLen]; omega)) ?_
    try simp -implicitDefEqProofs only [rdl, Ex.same, Nat.beq, dec_nn, look_at hx]
    refine ev_call call ?_
    simp -implicitDefEqProofs only [rdl, Ex.same, Nat.beq, hw]
    refine ev_tst (sz_le (by simp only [ByteArray.size_append, z32, z10, z47, zw, maxLen]; omega)) ?_
    refine ev_tst (sz_le (by simp only [ByteArray.size_append, z32, z10, z47, zw, maxLen]; omega)) ?_
    simp only [ByteArray.append_assoc] at q ⊢
    exact q
  ·have h1 := opLine_size (hl.at hx) ((ops_at ho).2 x (List.mem_of_getElem? hx))
   simp only [ByteArray.size_append]
   omega
  ·refine ev_aft (L := fun d n => l21x0 (TabD fs d) d n [.fz 7 l, .o 1 ([[.v (.string ({ data := #[] } : ByteArray))], [.v (.string ({ data := #[115, 101, 116, 32] } : ByteArray))], [.v (.string ({ data := #[100, 114, 111, 112, 32] } : ByteArray))], [.v (.string ({ data := #[110, 101, 101, 100, 32] } : ByteArray))]] : Rows), .v (.string ({ data := #[] } : ByteArray)), .v (.int .i64 0)]) main ?_
   simp -implicitDefEqProofs only [rdl, Ex.same, Nat.beq]
   exact Evt.ret
end Go.Am.Pp
