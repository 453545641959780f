/- The program's reader gives back what was written: values. Nothing is assumed. -/
import Derived.Test.YtefdfdkkbbehiaaGreatDoorPpX
namespace Go.Am.Pp
set_option linter.unusedVariables false
set_option linter.unusedSimpArgs false
set_option maxRecDepth 8000
theorem beq_head {c c' : UInt8} {l l' : List UInt8} {t : ByteArray} (ht : t.toList = c' :: l') (h : c ≠ c') : bytesEq (bOf (c :: l)) t = false := by
 rw [bytesEq, bOf_list, ht, beq_eq_false_iff_ne]
 exact ne_head h _
theorem dec_chars (n : Int) : ∀ c ∈ (decS n).toList, c.toNat < 128 ∧ c ≠ 44 ∧ c ≠ 93 ∧ c ≠ 125 := by
 have key : ∀ c : UInt8, 45 ≤ c.toNat → c.toNat ≤ 57 → c.toNat < 128 ∧ c ≠ 44 ∧ c ≠ 93 ∧ c ≠ 125 := by
  intro c h1 h2
  refine ⟨by omega, ?_, ?_, ?_⟩ <;> (intro e; rw [e] at h1 h2; simp at h1 h2)
 intro c hc
 have hd : ∀ c ∈ dl n.natAbs, c.toNat < 128 ∧ c ≠ 44 ∧ c ≠ 93 ∧ c ≠ 125 := fun c hc => by
  obtain ⟨r1, r2⟩ := dg_rng ((dl_all n.natAbs).1 c hc)
  exact key c (by omega) r2
 rw [decS_list] at hc
 split at hc
 ·rcases List.mem_cons.1 hc with rfl | hc
  ·decide
  ·exact hd c hc
 ·exact hd c hc
theorem c128 {d : Nat} (hd : d + 1 ≤ 6) {v : Row} (hv : 0 < valSz (d + 1) v) (pks : SL E 9 (cR v 3)) (pvs : SL E 33 (cR v 4)) (h45 : cN v 0 = 4 ∨ cN v 0 = 5)
  (hkl : cN v 0 = 5 → (cR v 3).length = (cR v 4).length) (hk0 : cN v 0 = 4 → cR v 3 = [])
  (rdr : ∀ m, m < (cR v 4).length → ∀ r, Stop r → ((vTxt d (row_ (cR v 4) m)).toList ++ r).length ≤ 1048576 → Ev fs 94 [.p (QS (bOf ((vTxt d (row_ (cR v 4) m)).toList ++ r)) true), .d (.v (.int .i64 (d : Int)))] ⟨.g (row_ (cR v 4) m), [.p (QS (bOf r) true)]⟩)
  {e : UInt8} {t : ByteArray} (ht : t.data.toList = [e]) (he : e = 93 ∨ e = 125) {r : List UInt8} (hl : (jt (kidL d v) (cR v 4).length 0 ++ e :: r).length ≤ 1048576) :
  Ev fs 128 [.p (QS (bOf (jt (kidL d v) (cR v 4).length 0 ++ e :: r)) true), .d (.v (.int .i64 (cN v 0))), .d (.v (.string t)), .d (.v (.int .i64 ((d + 1 : Nat) : Int)))] ⟨.g [.v (.int .i64 (cN v 0)), .v (.string ByteArray.empty), .v (.int .i64 0), .s 1 (cR v 3), .s 5 (cR v 4)], [.p (QS (bOf r) true)]⟩ := by
 refine Ev.of (af := a128) rfl rfl (Evt.congr (fun d n => a128q ..) ?_)
 cases hn : (cR v 4).length with
 | zero =>
  have e4 : cR v 4 = [] := List.length_eq_zero_iff.1 hn
  have e3 : cR v 3 = [] := by
   rcases h45 with h4 | h5
   ·exact hk0 h4
   ·exact List.length_eq_zero_iff.1 (by rw [hkl h5, hn])
  rw [e3, e4]
  refine ev_call (c126Y (l := [e]) (r := r) ht true) ?_
  simp -implicitDefEqProofs only [rdl, Ex.same, Nat.beq]
  exact Evt.ret
 | succ n =>
  obtain ⟨c, l, g1, g2, g3⟩ := jt_ne (n := n) (m := 0) hv h45 (by omega)
  have hne : c ≠ e := by rcases he with rfl | rfl <;> assumption
  have ej : jt (kidL d v) (n + 1) 0 ++ e :: r = kidL d v 0 ++ (jt (kidL d v) n (0 + 1) ++ e :: r) := by rw [jt]; simp
  rw [hn, ej] at hl
  have key := pkidsC hd hv pks pvs h45 hkl hk0 rdr t he r n 0 (by omega) hl
  refine ev_call (c126N (l := []) ht (by rw [g1]; exact ne_head hne) true) ?_
  simp -implicitDefEqProofs only [rdl, Ex.same, Nat.beq]
  rw [ej]
  refine ev_aft (L := fun d' m => l128x0 (TabD fs d') d' m [.b (QB (bOf (kidL d v 0 ++ (jt (kidL d v) n (0 + 1) ++ e :: r))) true), .v (.int .i64 (cN v 0)), .v (.string t), .v (.int .i64 ((d + 1 : Nat) : Int)), .b ZB, .b (KB (cN v 0) [] [])]) key ?_
  simp -implicitDefEqProofs only [rdl, Ex.same, Nat.beq]
  refine ev_call (c152 (l := [e]) (r := r) ht) ?_
  simp -implicitDefEqProofs only [rdl, Ex.same, Nat.beq]
  exact Evt.ret
theorem value_C : ∀ (d : Nat), d ≤ 6 → ∀ (v : Row), ShL E (E 33) v → 0 < valSz d v → ∀ r : List UInt8, Stop r → ((vTxt d v).toList ++ r).length ≤ 1048576 →
  Ev fs 94 [.p (QS (bOf ((vTxt d v).toList ++ r)) true), .d (.v (.int .i64 (d : Int)))] ⟨.g v, [.p (QS (bOf r) true)]⟩ := by
 intro d
 induction d with
 | zero => intro _ v _ hz; simp [valSz] at hz
 | succ d ih =>
  intro hd v hv hz r hr hl
  have hd0 : (((d + 1 : Nat) : Int) == 0) = false := by simp; omega
  have hsh := (valAt hz).shape
  obtain ⟨na0, sa1, na2, la3, la4, rfl, pa0, pa1, pa2, pa3, pa4⟩ := I33 hv
  have hsh : shapeB na0 sa1 na2 la3 la4 = true := hsh
  refine Ev.of (af := a94) rfl rfl (Evt.congr (fun d n => a94q ..) ?_)
  simp -implicitDefEqProofs only [rdl, Ex.same, Nat.beq, hd0]
  rcases shape_kind hsh with rfl | rfl | rfl | rfl | rfl
  ·obtain ⟨htx, rfl, rfl, rfl⟩ := shape1 hsh
   have e : (vTxt (d + 1) [.v (.int .i64 1), .v (.string sa1), .v (.int .i64 0), .s 1 [], .s 5 []]).toList ++ r = [34] ++ (sa1.toList.flatMap esc ++ 34 :: r) := by
    rw [show (vTxt (d + 1) [.v (.int .i64 1), .v (.string sa1), .v (.int .i64 0), .s 1 [], .s 5 []]).toList = 34 :: (sa1.toList.flatMap esc ++ [34]) from vTxt1 rfl]
    simp
   rw [e] at hl ⊢
   refine ev_call (c126Y (l := [34]) rfl true) ?_
   simp -implicitDefEqProofs only [rdl, Ex.same, Nat.beq]
   refine ev_call (c127 (by rw [bOf_size]; simp only [List.length_append, List.length_cons, List.length_nil] at hl ⊢; omega)) ?_
   simp -implicitDefEqProofs only [rdl, Ex.same, Nat.beq]
   exact Evt.ret
  ·obtain ⟨rfl, rfl, rfl⟩ := shape2 hsh
   have e : (vTxt (d + 1) [.v (.int .i64 2), .v (.string ⟨#[]⟩), .v (.int .i64 na2), .s 1 [], .s 5 []]).toList = (decS na2).toList := vTxt2 rfl
   rw [e] at hl ⊢
   obtain ⟨c, l, g0, g1, g2, g3, g4, g5, _⟩ := dec_head na2
   have hN : ∀ c', c ≠ c' → ∀ r', (decS na2).toList ++ r ≠ c' :: r' := fun c' h => by rw [g0]; exact ne_head h
   have q1 : bytesEq (decS na2) ({ data := #[116, 114, 117, 101] } : ByteArray) = false := by
    rw [bOf_of g0]
    exact beq_head (c' := 116) (l' := [114, 117, 101]) (by rw [ByteArray.toList_eq]) g2
   have q2 : bytesEq (decS na2) ({ data := #[102, 97, 108, 115, 101] } : ByteArray) = false := by
    rw [bOf_of g0]
    exact beq_head (c' := 102) (l' := [97, 108, 115, 101]) (by rw [ByteArray.toList_eq]) g3
   refine ev_call (c126N (l := []) rfl (hN 34 g1) true) ?_
   simp -implicitDefEqProofs only [rdl, Ex.same, Nat.beq]
   refine ev_call (c126N (l := []) rfl (hN 91 g4) true) ?_
   simp -implicitDefEqProofs only [rdl, Ex.same, Nat.beq]
   refine ev_call (c126N (l := []) rfl (hN 123 g5) true) ?_
   simp -implicitDefEqProofs only [rdl, Ex.same, Nat.beq]
   refine ev_call (c129 (by rw [bOf_size]; exact hl) true (.inr rfl) (till_word rfl hr (dec_chars na2))) ?_
   rw [bOf_toList]
   simp -implicitDefEqProofs only [rdl, Ex.same, Nat.beq, q1, q2]
   refine ev_call (c130 pa2) ?_
   simp -implicitDefEqProofs only [rdl, Ex.same, Nat.beq, show (true == true) = true from rfl]
   exact Evt.ret
  ·obtain ⟨rfl, hn, rfl, rfl⟩ := shape3 hsh
   have e : (vTxt (d + 1) [.v (.int .i64 3), .v (.string ⟨#[]⟩), .v (.int .i64 na2), .s 1 [], .s 5 []]).toList = bif na2 == 1 then [116, 114, 117, 101] else [102, 97, 108, 115, 101] := vTxt3 rfl
   rw [e] at hl ⊢
   rcases hn with rfl | rfl
   ·rw [show ((0 : Int) == 1) = false from rfl, cond_false] at hl ⊢
    have ew : ([102, 97, 108, 115, 101] : List UInt8) ++ r = 102 :: ([97, 108, 115, 101] ++ r) := rfl
    rw [ew]
    refine ev_call (c126N (c := 34) (l := []) (R := 102 :: ([97, 108, 115, 101] ++ r)) rfl (ne_head (by decide)) true) ?_
    simp -implicitDefEqProofs only [rdl, Ex.same, Nat.beq]
    refine ev_call (c126N (c := 91) (l := []) rfl (ne_head (by decide)) true) ?_
    simp -implicitDefEqProofs only [rdl, Ex.same, Nat.beq]
    refine ev_call (c126N (c := 123) (l := []) rfl (ne_head (by decide)) true) ?_
    simp -implicitDefEqProofs only [rdl, Ex.same, Nat.beq]
    rw [← ew]
    refine ev_call (c129 (w := [102, 97, 108, 115, 101]) (by rw [bOf_size]; exact hl) true (.inr rfl) (till_word rfl hr (by decide))) ?_
    simp -implicitDefEqProofs only [rdl, Ex.same, Nat.beq, show bytesEq (bOf [102, 97, 108, 115, 101]) ({ data := #[116, 114, 117, 101] } : ByteArray) = false from beq_head (c' := 116) (l' := [114, 117, 101]) (by rw [ByteArray.toList_eq]) (by decide), show bytesEq (bOf [102, 97, 108, 115, 101]) ({ data := #[102, 97, 108, 115, 101] } : ByteArray) = true from beq_self _]
    exact Evt.ret
   ·rw [show ((1 : Int) == 1) = true from rfl, cond_true] at hl ⊢
    have ew : ([116, 114, 117, 101] : List UInt8) ++ r = 116 :: ([114, 117, 101] ++ r) := rfl
    rw [ew]
    refine ev_call (c126N (c := 34) (l := []) (R := 116 :: ([114, 117, 101] ++ r)) rfl (ne_head (by decide)) true) ?_
    simp -implicitDefEqProofs only [rdl, Ex.same, Nat.beq]
    refine ev_call (c126N (c := 91) (l := []) rfl (ne_head (by decide)) true) ?_
    simp -implicitDefEqProofs only [rdl, Ex.same, Nat.beq]
    refine ev_call (c126N (c := 123) (l := []) rfl (ne_head (by decide)) true) ?_
    simp -implicitDefEqProofs only [rdl, Ex.same, Nat.beq]
    rw [← ew]
    refine ev_call (c129 (w := [116, 114, 117, 101]) (by rw [bOf_size]; exact hl) true (.inr rfl) (till_word rfl hr (by decide))) ?_
    simp -implicitDefEqProofs only [rdl, Ex.same, Nat.beq, show bytesEq (bOf [116, 114, 117, 101]) ({ data := #[116, 114, 117, 101] } : ByteArray) = true from beq_self _]
    exact Evt.ret
  ·obtain ⟨rfl, rfl, rfl⟩ := shape4 hsh
   have e := vTxt4 (d := d) (v := [.v (.int .i64 4), .v (.string ⟨#[]⟩), .v (.int .i64 0), .s 1 [], .s 5 la4]) rfl
   rw [e] at hl ⊢
   rw [List.cons_append, List.append_assoc] at hl ⊢
   refine ev_call (c126N (l := []) rfl (ne_head (c' := 34) (by decide)) true) ?_
   simp -implicitDefEqProofs only [rdl, Ex.same, Nat.beq]
   refine ev_call (c126Y (l := [91]) rfl true) ?_
   simp -implicitDefEqProofs only [rdl, Ex.same, Nat.beq]
   refine ev_call (c128 hd hz sl_nil pa4 (.inl rfl) (fun h => absurd (show (4 : Int) = 5 from h) (by decide)) (fun _ => rfl) (fun m hm r hr hl => ih (by omega) _ (val_rows pa4 hm) ((valAt hz).kids _ (row_mem hm)) r hr hl) (t := ({ data := #[93] } : ByteArray)) rfl (.inl rfl) (by simp only [List.length_cons] at hl; exact Nat.le_of_succ_le hl)) ?_
   simp -implicitDefEqProofs only [rdl, Ex.same, Nat.beq]
   exact Evt.ret
  ·obtain ⟨rfl, rfl, hlen⟩ := shape5 hsh
   have e := vTxt5 (d := d) (v := [.v (.int .i64 5), .v (.string ⟨#[]⟩), .v (.int .i64 0), .s 1 la3, .s 5 la4]) rfl
   rw [e] at hl ⊢
   rw [List.cons_append, List.append_assoc] at hl ⊢
   refine ev_call (c126N (l := []) rfl (ne_head (c' := 34) (by decide)) true) ?_
   simp -implicitDefEqProofs only [rdl, Ex.same, Nat.beq]
   refine ev_call (c126N (l := []) rfl (ne_head (c' := 91) (by decide)) true) ?_
   simp -implicitDefEqProofs only [rdl, Ex.same, Nat.beq]
   refine ev_call (c126Y (l := [123]) rfl true) ?_
   simp -implicitDefEqProofs only [rdl, Ex.same, Nat.beq]
   refine ev_call (c128 hd hz pa3 pa4 (.inr rfl) (fun _ => hlen) (fun h => absurd (show (5 : Int) = 4 from h) (by decide)) (fun m hm r hr hl => ih (by omega) _ (val_rows pa4 hm) ((valAt hz).kids _ (row_mem hm)) r hr hl) (t := ({ data := #[125] } : ByteArray)) rfl (.inr rfl) (by simp only [List.length_cons] at hl; exact Nat.le_of_succ_le hl)) ?_
   simp -implicitDefEqProofs only [rdl, Ex.same, Nat.beq]
   exact Evt.ret
end Go.Am.Pp
