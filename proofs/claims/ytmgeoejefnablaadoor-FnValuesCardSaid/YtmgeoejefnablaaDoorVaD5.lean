/- A value's size at any depth; its text read again. Nothing is assumed. -/
import Derived.Test.YtmgeoejefnablaaDoorVaD4
import Derived.Test.YtmgeoejefnablaaDoorVaN2
namespace Go.Am.Va
variable {SK : Src}
set_option linter.unusedVariables false
set_option linter.unusedSimpArgs false
set_option maxRecDepth 8000
theorem kidSum_congr {f g : Row → Int} : ∀ (l : Rows) (n : Int), (∀ x ∈ l, f x = g x) → kidSum f l n = kidSum g l n
  | [], _, _ => rfl
  | x :: l, n, h => by
    have e : f x = g x := h x (by simp)
    have ih := fun m => kidSum_congr (f := f) (g := g) l m fun y hy => h y (by simp [hy])
    simp only [kidSum, e, ih]
theorem valSz_up : ∀ (d : Nat) (v : Row), 0 < valSz d v → valSz (d + 1) v = valSz d v
  | 0, v, h => by simp [valSz] at h
  | d + 1, v, h => by
    have hk := (valAt h).kids
    have hsh := (valAt h).shape
    have e := kidSum_congr (cR v 4) 1 fun x hx => valSz_up d x (hk x hx)
    rw [valSz, valSz, e]
theorem f16 (a : Option Addr) (n c : Nat) : Ev (fs SK) 16 [.d (.v (.slice a n c))] (bo (decide ((n : Int) > 1048576))) := by
  refine Ev.of (af := a16) rfl rfl (Evt.congr (fun d n => a16q ..) ?_)
  exact Evt.ret
theorem f18 {v : Row} (h : ShL E (E 38) v) : Ev (fs SK) 18 [.g v] ⟨.d (.v (.string (if valueOk v then vTxt 6 v else ByteArray.empty))), []⟩ := by
  have hv := h
  have g := f20 (SK := SK) h
  have g2 := fun hz => f36 (SK := SK) 6 h hz
  generalize vTxt 6 v = t at *
  have g3 : valueOk v = true → 0 < valSz 6 v := ok_size
  generalize valueOk v = bb at *
  obtain ⟨na0, sa1, na2, la3, la4, rfl, pa0, pa1, pa2, pa3, pa4⟩ := I38 hv
  refine Ev.of (af := a18) rfl rfl (Evt.congr (fun d n => a18q ..) ?_)
  refine ev_call g ?_
  simp -implicitDefEqProofs only [rdl, Ex.same, Nat.beq]
  cases bb with
  | false => exact Evt.ret
  | true =>
    simp -implicitDefEqProofs only [rdl, Ex.same, Nat.beq, Bool.not_true]
    refine ev_call (g2 (g3 rfl)) ?_
    simp -implicitDefEqProofs only [rdl, Ex.same, Nat.beq]
    exact Evt.ret
theorem f21 {v : Row} (h : ShL E (E 38) v) : Ev (fs SK) 21 [.g v] (io (valSz 6 v)) := by
  have hv := h
  have g := f20 (SK := SK) h
  have g2 := f46 (SK := SK) 6 (by omega) h
  have g3 : valueOk v = decide (valSz 6 v > 0) := rfl
  have g4 := (valSz_rng 6 v).1
  have g5 : msz 6 v = if valSz 6 v = 0 then 301 else valSz 6 v := rfl
  generalize valueOk v = bb at *
  generalize msz 6 v = mm at *
  generalize valSz 6 v = zz at *
  obtain ⟨na0, sa1, na2, la3, la4, rfl, pa0, pa1, pa2, pa3, pa4⟩ := I38 hv
  refine Ev.of (af := a21) rfl rfl (Evt.congr (fun d n => a21q ..) ?_)
  refine ev_call g ?_
  simp -implicitDefEqProofs only [rdl, Ex.same, Nat.beq]
  by_cases hz : zz = 0
  · subst hz
    have : bb = false := by rw [g3]; rfl
    subst this
    exact Evt.ret
  · have : bb = true := by rw [g3]; exact decide_eq_true (by omega)
    subst this
    simp -implicitDefEqProofs only [rdl, Ex.same, Nat.beq, Bool.not_true]
    refine ev_call g2 ?_
    simp -implicitDefEqProofs only [rdl, Ex.same, Nat.beq]
    rw [if_neg hz] at g5
    subst g5
    exact Evt.ret
theorem one_impl {v : Row} (hv : ShL E (E 38) v) (ho : valueOk v = true) : Ev (fs SK) 12 [.d (.v (.string (vTxt 6 v)))] ⟨.t [.g v, .d (.v (.bool true))], []⟩ := by
  have hz := ok_size ho
  have hsz := vTxt_size 6 v hz (num_ok 6 hv)
  have hrg := (valSz_rng 6 v).2
  have hl : ((vTxt 6 v).toList ++ []).length ≤ 1048576 := by rw [List.append_nil, toList_len]; omega
  have q2 := value_C (SK := SK) 6 (by omega) v hv hz [] Stop.nil hl
  rw [List.append_nil, bOf_toList] at q2
  have g2 := f20 (SK := SK) hv
  have g4 := f36 (SK := SK) 6 hv hz
  rw [ho] at g2
  generalize ht : vTxt 6 v = t at *
  obtain ⟨na0, sa1, na2, la3, la4, rfl, pa0, pa1, pa2, pa3, pa4⟩ := I38 hv
  refine Ev.of (af := a12) rfl rfl (Evt.congr (fun d n => a12q ..) ?_)
  refine ev_call q2 ?_
  simp -implicitDefEqProofs only [rdl, Ex.same, Nat.beq, Bool.not_true, show (false == false) = true from rfl, show bytesEq (bOf []) ({ data := #[] } : ByteArray) = true from beq_self _, Bool.not_false]
  refine ev_call g2 ?_
  simp -implicitDefEqProofs only [rdl, Ex.same, Nat.beq, Bool.not_true, show (false == false) = true from rfl, Bool.not_false]
  refine ev_call g4 ?_
  simp -implicitDefEqProofs only [rdl, Ex.same, Nat.beq, beq_self, Bool.not_true]
  exact Evt.ret
theorem same_cell {l : Rows} {j c : Nat} {r : Row} {d : D} (h : l[j]? = some r) (hc : r[c]? = some d) : setD l j c d = l := by
  have e : r.set c d = r := by
    apply List.ext_getElem?
    intro i
    rw [List.getElem?_set]
    split
    · rename_i hi
      subst hi
      rw [hc]
      simp
      exact (List.getElem?_eq_some_iff.1 hc).1
    · rfl
  rw [setD_at h, e]
  apply List.ext_getElem?
  intro i
  rw [List.getElem?_set]
  split
  · rename_i hi
    subst hi
    rw [h]
    simp
    exact (List.getElem?_eq_some_iff.1 h).1
  · rfl
theorem sum_le {f : Row → Int} (hf : ∀ x, 0 ≤ f x) : ∀ l : Rows, 0 ≤ (l.map f).sum
  | [] => by simp
  | x :: l => by have := sum_le hf l; have := hf x; simp only [List.map_cons, List.sum_cons]; omega
theorem kids_loop {v : Row} {la3 la4 : Rows} {na0 na2 : Int} {sa1 : ByteArray} {X : List AV} {bb : Bool} (pa4 : SL E 38 la4) (h300 : 1 + (la4.map (valSz 6)).sum ≤ 300) (hX : ∃ n43 s44 n45 l46 l47, X = [.v (.int .i64 n43), .v (.string s44), .v (.int .i64 n45), .o 1 l46, .o 5 l47]) :
    ∀ (m j : Nat), j + m = la4.length → ∀ acc : Int, acc = 1 + ((la4.take j).map (valSz 6)).sum →
    Evt (fun d n => l5x0 (TabD (fs SK) d) d n [.b [.v (.int .i64 na0), .v (.string sa1), .v (.int .i64 na2), .o 1 la3, .o 5 la4], .b X, .v (.bool bb), .v (.int .i64 acc), .v (.int .i64 (j : Int))])
      (.exit 0, [.b [.v (.int .i64 na0), .v (.string sa1), .v (.int .i64 na2), .o 1 la3, .o 5 la4], .b X, .v (.bool bb), .v (.int .i64 (1 + (la4.map (valSz 6)).sum))]) := by
  obtain ⟨n43, s44, n45, l46, l47, rfl⟩ := hX
  have hnn := fun x => (valSz_rng 6 x).1
  intro m
  induction m with
  | zero =>
    intro j hj acc ha
    subst ha
    refine ev_succ ?_
    simp only [l5x0s]
    simp -implicitDefEqProofs only [rdl, Ex.same, Nat.beq, show decide ((j : Int) < (la4.length : Int)) = false from decide_eq_false (by omega), show la4.take j = la4 from List.take_of_length_le (by omega)]
    exact Evt.ret
  | succ m ih =>
    intro j hj acc ha
    have hlt : j < la4.length := by omega
    have hx := List.getElem?_eq_getElem hlt
    have et : la4.take (j + 1) = la4.take j ++ [la4[j]] := by rw [List.take_add_one, hx]; rfl
    generalize la4[j] = row at hx et
    have hs := pa4.at hx
    have q := f21 (SK := SK) hs
    have hr := valSz_rng 6 row
    have e2 : 1 + ((la4.take (j + 1)).map (valSz 6)).sum = acc + valSz 6 row := by rw [et, List.map_append, List.sum_append, ha]; simp only [List.map_cons, List.map_nil, List.sum_cons, List.sum_nil]; omega
    have e3 : (la4.map (valSz 6)).sum = ((la4.take (j + 1)).map (valSz 6)).sum + ((la4.drop (j + 1)).map (valSz 6)).sum := by rw [← List.sum_append, ← List.map_append, List.take_append_drop]
    have e4 := sum_le hnn (la4.drop (j + 1))
    have e5 := sum_le hnn (la4.take j)
    generalize valSz 6 row = zz at *
    obtain ⟨nb0, sb1, nb2, lb3, lb4, rfl, pb0, pb1, pb2, pb3, pb4⟩ := I38 hs
    have hw1 : IntKind.i64.wrap (acc + zz) = acc + zz := wrap_i64 (by omega) (by omega)
    have hw2 : IntKind.i64.wrap ((j : Int) + 1) = ((j + 1 : Nat) : Int) := by have := pa4.1; simp only [maxLen] at this; rw [wrap_i64 (by omega) (by omega)]; omega
    refine ev_succ ?_
    simp only [l5x0s]
    simp -implicitDefEqProofs only [rdl, Ex.same, Nat.beq, show decide ((j : Int) < (la4.length : Int)) = true from decide_eq_true (by omega)]
    refine ev_tst (by simp [hlt]) ?_
    simp -implicitDefEqProofs only [rdl, Ex.same, Nat.beq, dec_nn, look_at hx]
    refine ev_call q ?_
    simp -implicitDefEqProofs only [rdl, Ex.same, Nat.beq, hw1, hw2]
    rw [same_cell hx rfl, same_cell hx rfl]
    exact ih (j + 1) (by omega) _ e2.symm
theorem f5 {a : Option Addr} {n c : Nat} (hlen : n = SK.bytes.length) (hat : n ≠ 0 → a = some ⟨SK.b, SK.off, none⟩) : Ev (fs SK) 5 [.d (.v (.slice a n c))] (bo true) := by
  refine Ev.of (af := a5) rfl rfl (Evt.congr (fun d n => a5q ..) ?_)
  refine ev_call (f16 a n c) ?_
  simp -implicitDefEqProofs only [rdl, Ex.same, Nat.beq]
  refine ev_if (fun _ => Evt.ret) (fun hn => ?_)
  have hK : IsH SK a n := ⟨hlen, hat, by have := of_decide_eq_false hn; omega⟩
  obtain ⟨o, ⟨v, ⟨hv, _⟩, rfl⟩, qd⟩ := t17 (SK := SK) (c := c) hK
  have qt := f18 (SK := SK) hv
  have qo := f19 (SK := SK) hv
  have qi := f20 (SK := SK) hv
  have qz := f21 (SK := SK) hv
  have qp := fun ho => one_impl (SK := SK) (v := v) hv ho
  have qs := f22 (SK := SK) hv hv
  have es := ShL.refl hv
  have hko : valueOk v = true → 0 < valSz 6 v := ok_size
  have hkd : 0 < valSz 6 v → 1 + ((cR v 4).map (valSz 6)).sum = valSz 6 v := fun h => by
    have hk := (valAt h).kids
    have e : (cR v 4).map (valSz 6) = (cR v 4).map (valSz 5) := List.map_congr_left fun x hx => valSz_up 5 x (hk x hx)
    rw [e]
    exact (valAt h).sum.symm
  have hr := (valSz_rng 6 v).2
  have hno : valueOk v = false → valSz 6 v = 0 := fun h => by
    have := of_decide_eq_false (show decide (valSz 6 v > 0) = false from h)
    have := (valSz_rng 6 v).1
    omega
  generalize vTxt 6 v = tx at *
  generalize valSz 6 v = zz at *
  generalize valueOk v = bb at *
  rw [es] at qs
  obtain ⟨na0, sa1, na2, la3, la4, rfl, pa0, pa1, pa2, pa3, pa4⟩ := I38 hv
  refine ev_call qd ?_
  simp -implicitDefEqProofs only [rdl, Ex.same, Nat.beq]
  refine ev_call qt ?_
  simp -implicitDefEqProofs only [rdl, Ex.same, Nat.beq]
  refine ev_call qo ?_
  simp -implicitDefEqProofs only [rdl, Ex.same, Nat.beq]
  cases bb with
  | false =>
    rw [hno rfl] at qz
    simp -implicitDefEqProofs only [rdl, Ex.same, Nat.beq, Bool.not_false, if_false, Bool.false_eq_true, show bytesEq ByteArray.empty ({ data := #[] } : ByteArray) = true from beq_self _]
    refine ev_call qi ?_
    simp -implicitDefEqProofs only [rdl, Ex.same, Nat.beq, Bool.not_false]
    refine ev_call qz ?_
    simp -implicitDefEqProofs only [rdl, Ex.same, Nat.beq]
    exact Evt.ret
  | true =>
    have hs0 := hkd (hko rfl)
    simp -implicitDefEqProofs only [rdl, Ex.same, Nat.beq, Bool.not_true, if_true]
    refine ev_call (qp rfl) ?_
    simp -implicitDefEqProofs only [rdl, Ex.same, Nat.beq]
    refine ev_aft (L := fun d q => l5x0 (TabD (fs SK) d) d q [.b [.v (.int .i64 na0), .v (.string sa1), .v (.int .i64 na2), .o 1 la3, .o 5 la4], .b [.v (.int .i64 na0), .v (.string sa1), .v (.int .i64 na2), .o 1 la3, .o 5 la4], .v (.bool true), .v (.int .i64 1), .v (.int .i64 0)]) (kids_loop (v := [.v (.int .i64 na0), .v (.string sa1), .v (.int .i64 na2), .s 1 la3, .s 5 la4]) pa4 (by rw [show 1 + (la4.map (valSz 6)).sum = zz from hs0]; exact hr) ⟨_, _, _, _, _, rfl⟩ la4.length 0 (by omega) 1 (by simp)) ?_
    rw [show 1 + (la4.map (valSz 6)).sum = zz from hs0]
    simp -implicitDefEqProofs only [rdl, Ex.same, Nat.beq]
    refine ev_call qs ?_
    simp -implicitDefEqProofs only [rdl, Ex.same, Nat.beq]
    refine ev_call qz ?_
    simp -implicitDefEqProofs only [rdl, Ex.same, Nat.beq, beq_self_eq_true]
    refine ev_call qi ?_
    simp -implicitDefEqProofs only [rdl, Ex.same, Nat.beq]
    exact Evt.ret
end Go.Am.Va
