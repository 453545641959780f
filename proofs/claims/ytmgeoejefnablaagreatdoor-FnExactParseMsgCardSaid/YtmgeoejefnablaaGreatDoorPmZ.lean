/- The program's reader gives back what was written: values. Nothing is assumed. -/
import Derived.Test.YtmgeoejefnablaaGreatDoorPmX
namespace Go.Am.Pm
set_option linter.unusedVariables false
set_option linter.unusedSimpArgs false
set_option maxRecDepth 8000
theorem B1m {c c' : UInt8} {l l' : List UInt8} {t : ByteArray} (ht : t.toList = c' :: l') (h : c ≠ c') : D9 (bOf (c :: l)) t = false := by
 rw [D9, R6, ht, beq_eq_false_iff_ne]
 exact A09 h _
theorem C25 (n : Int) : ∀ c ∈ (J3 n).toList, c.toNat < 128 ∧ c ≠ 44 ∧ c ≠ 93 ∧ c ≠ 125 := by
 have key : ∀ c : UInt8, 45 ≤ c.toNat → c.toNat ≤ 57 → c.toNat < 128 ∧ c ≠ 44 ∧ c ≠ 93 ∧ c ≠ 125 := by
  intro c h1 h2
  refine ⟨by omega, ?_, ?_, ?_⟩ <;> (intro e; rw [e] at h1 h2; simp at h1 h2)
 intro c hc
 have hd : ∀ c ∈ dl n.natAbs, c.toNat < 128 ∧ c ≠ 44 ∧ c ≠ 93 ∧ c ≠ 125 := fun c hc => by
  obtain ⟨r1, r2⟩ := C5e ((A6l n.natAbs).1 c hc)
  exact key c (by omega) r2
 rw [U3] at hc
 split at hc
 ·rcases List.mem_cons.1 hc with rfl | hc
  ·decide
  ·exact hd c hc
 ·exact hd c hc
theorem c90 {d : Nat} (hd : d + 1 ≤ 6) {v : Row} (hv : 0 < G9 (d + 1) v) (pks : SL E 9 (cR v 3)) (pvs : SL E 46 (cR v 4)) (h45 : cN v 0 = 4 ∨ cN v 0 = 5)
  (hkl : cN v 0 = 5 → (cR v 3).length = (cR v 4).length) (hk0 : cN v 0 = 4 → cR v 3 = [])
  (rdr : ∀ m, m < (cR v 4).length → ∀ r, Stop r → ((I6 d (J4 (cR v 4) m)).toList ++ r).length ≤ 1048576 → Ev fs 59 [.p (QS (bOf ((I6 d (J4 (cR v 4) m)).toList ++ r)) true), .d (.v (.int .i64 (d : Int)))] ⟨.g (J4 (cR v 4) m), [.p (QS (bOf r) true)]⟩)
  {e : UInt8} {t : ByteArray} (ht : t.data.toList = [e]) (he : e = 93 ∨ e = 125) {r : List UInt8} (hl : (jt (M9 d v) (cR v 4).length 0 ++ e :: r).length ≤ 1048576) :
  Ev fs 90 [.p (QS (bOf (jt (M9 d v) (cR v 4).length 0 ++ e :: r)) true), .d (.v (.int .i64 (cN v 0))), .d (.v (.string t)), .d (.v (.int .i64 ((d + 1 : Nat) : Int)))] ⟨.g [.v (.int .i64 (cN v 0)), .v (.string ByteArray.empty), .v (.int .i64 0), .s 1 (cR v 3), .s 5 (cR v 4)], [.p (QS (bOf r) true)]⟩ := by
 refine Ev.of (af := a90) rfl rfl (Evt.congr (fun d n => D29 ..) ?_)
 cases hn : (cR v 4).length with
 | zero =>
  have e4 : cR v 4 = [] := List.length_eq_zero_iff.1 hn
  have e3 : cR v 3 = [] := by
   rcases h45 with h4 | h5
   ·exact hk0 h4
   ·exact List.length_eq_zero_iff.1 (by rw [hkl h5, hn])
  rw [e3, e4]
  refine A7 (C23 (l := [e]) (r := r) ht true) ?_
  simp -implicitDefEqProofs only [rdl, Ex.same, Nat.beq]
  exact Evt.ret
 | succ n =>
  obtain ⟨c, l, g1, g2, g3⟩ := C9m (n := n) (m := 0) hv h45 (by omega)
  have hne : c ≠ e := by rcases he with rfl | rfl <;> assumption
  have ej : jt (M9 d v) (n + 1) 0 ++ e :: r = M9 d v 0 ++ (jt (M9 d v) n (0 + 1) ++ e :: r) := by rw [jt]; simp
  rw [hn, ej] at hl
  have key := D0x hd hv pks pvs h45 hkl hk0 rdr t he r n 0 (by omega) hl
  refine A7 (A6r (l := []) ht (by rw [g1]; exact A09 hne) true) ?_
  simp -implicitDefEqProofs only [rdl, Ex.same, Nat.beq]
  rw [ej]
  refine I4 (L := fun d' m => A96 (TabD fs d') d' m [.b (QB (bOf (M9 d v 0 ++ (jt (M9 d v) n (0 + 1) ++ e :: r))) true), .v (.int .i64 (cN v 0)), .v (.string t), .v (.int .i64 ((d + 1 : Nat) : Int)), .b ZB, .b (KB (cN v 0) [] [])]) key ?_
  simp -implicitDefEqProofs only [rdl, Ex.same, Nat.beq]
  refine A7 (D0w (l := [e]) (r := r) ht) ?_
  simp -implicitDefEqProofs only [rdl, Ex.same, Nat.beq]
  exact Evt.ret
theorem C74 : ∀ (d : Nat), d ≤ 6 → ∀ (v : Row), ShL E (E 46) v → 0 < G9 d v → ∀ r : List UInt8, Stop r → ((I6 d v).toList ++ r).length ≤ 1048576 →
  Ev fs 59 [.p (QS (bOf ((I6 d v).toList ++ r)) true), .d (.v (.int .i64 (d : Int)))] ⟨.g v, [.p (QS (bOf r) true)]⟩ := by
 intro d
 induction d with
 | zero => intro _ v _ hz; simp [G9] at hz
 | succ d ih =>
  intro hd v hv hz r hr hl
  have hd0 : (((d + 1 : Nat) : Int) == 0) = false := by simp; omega
  have hsh := (A0n hz).shape
  obtain ⟨na0, sa1, na2, la3, la4, rfl, pa0, pa1, pa2, pa3, pa4⟩ := I46 hv
  have hsh : A9 na0 sa1 na2 la3 la4 = true := hsh
  refine Ev.of (af := a59) rfl rfl (Evt.congr (fun d n => D2b ..) ?_)
  simp -implicitDefEqProofs only [rdl, Ex.same, Nat.beq, hd0]
  rcases A2n hsh with rfl | rfl | rfl | rfl | rfl
  ·obtain ⟨htx, rfl, rfl, rfl⟩ := B93 hsh
   have e : (I6 (d + 1) [.v (.int .i64 1), .v (.string sa1), .v (.int .i64 0), .s 1 [], .s 5 []]).toList ++ r = [34] ++ (sa1.toList.flatMap esc ++ 34 :: r) := by
    rw [show (I6 (d + 1) [.v (.int .i64 1), .v (.string sa1), .v (.int .i64 0), .s 1 [], .s 5 []]).toList = 34 :: (sa1.toList.flatMap esc ++ [34]) from B9y rfl]
    simp
   rw [e] at hl ⊢
   refine A7 (C23 (l := [34]) rfl true) ?_
   simp -implicitDefEqProofs only [rdl, Ex.same, Nat.beq]
   refine A7 (c89 (by rw [J8]; simp only [List.length_append, List.length_cons, List.length_nil] at hl ⊢; omega)) ?_
   simp -implicitDefEqProofs only [rdl, Ex.same, Nat.beq]
   exact Evt.ret
  ·obtain ⟨rfl, rfl, rfl⟩ := B94 hsh
   have e : (I6 (d + 1) [.v (.int .i64 2), .v (.string ⟨#[]⟩), .v (.int .i64 na2), .s 1 [], .s 5 []]).toList = (J3 na2).toList := B9z rfl
   rw [e] at hl ⊢
   obtain ⟨c, l, g0, g1, g2, g3, g4, g5, _⟩ := B19 na2
   have hN : ∀ c', c ≠ c' → ∀ r', (J3 na2).toList ++ r ≠ c' :: r' := fun c' h => by rw [g0]; exact A09 h
   have q1 : D9 (J3 na2) ({ data := #[116, 114, 117, 101] } : ByteArray) = false := by
    rw [A6k g0]
    exact B1m (c' := 116) (l' := [114, 117, 101]) (by rw [ByteArray.toList_eq]) g2
   have q2 : D9 (J3 na2) ({ data := #[102, 97, 108, 115, 101] } : ByteArray) = false := by
    rw [A6k g0]
    exact B1m (c' := 102) (l' := [97, 108, 115, 101]) (by rw [ByteArray.toList_eq]) g3
   refine A7 (A6r (l := []) rfl (hN 34 g1) true) ?_
   simp -implicitDefEqProofs only [rdl, Ex.same, Nat.beq]
   refine A7 (A6r (l := []) rfl (hN 91 g4) true) ?_
   simp -implicitDefEqProofs only [rdl, Ex.same, Nat.beq]
   refine A7 (A6r (l := []) rfl (hN 123 g5) true) ?_
   simp -implicitDefEqProofs only [rdl, Ex.same, Nat.beq]
   refine A7 (c91 (by rw [J8]; exact hl) true (.inr rfl) (A8q rfl hr (C25 na2))) ?_
   rw [M7]
   simp -implicitDefEqProofs only [rdl, Ex.same, Nat.beq, q1, q2]
   refine A7 (c92 pa2) ?_
   simp -implicitDefEqProofs only [rdl, Ex.same, Nat.beq, show (true == true) = true from rfl]
   exact Evt.ret
  ·obtain ⟨rfl, hn, rfl, rfl⟩ := B95 hsh
   have e : (I6 (d + 1) [.v (.int .i64 3), .v (.string ⟨#[]⟩), .v (.int .i64 na2), .s 1 [], .s 5 []]).toList = bif na2 == 1 then [116, 114, 117, 101] else [102, 97, 108, 115, 101] := C00 rfl
   rw [e] at hl ⊢
   rcases hn with rfl | rfl
   ·rw [show ((0 : Int) == 1) = false from rfl, cond_false] at hl ⊢
    have ew : ([102, 97, 108, 115, 101] : List UInt8) ++ r = 102 :: ([97, 108, 115, 101] ++ r) := rfl
    rw [ew]
    refine A7 (A6r (c := 34) (l := []) (R := 102 :: ([97, 108, 115, 101] ++ r)) rfl (A09 (by decide)) true) ?_
    simp -implicitDefEqProofs only [rdl, Ex.same, Nat.beq]
    refine A7 (A6r (c := 91) (l := []) rfl (A09 (by decide)) true) ?_
    simp -implicitDefEqProofs only [rdl, Ex.same, Nat.beq]
    refine A7 (A6r (c := 123) (l := []) rfl (A09 (by decide)) true) ?_
    simp -implicitDefEqProofs only [rdl, Ex.same, Nat.beq]
    rw [← ew]
    refine A7 (c91 (w := [102, 97, 108, 115, 101]) (by rw [J8]; exact hl) true (.inr rfl) (A8q rfl hr (by decide))) ?_
    simp -implicitDefEqProofs only [rdl, Ex.same, Nat.beq, show D9 (bOf [102, 97, 108, 115, 101]) ({ data := #[116, 114, 117, 101] } : ByteArray) = false from B1m (c' := 116) (l' := [114, 117, 101]) (by rw [ByteArray.toList_eq]) (by decide), show D9 (bOf [102, 97, 108, 115, 101]) ({ data := #[102, 97, 108, 115, 101] } : ByteArray) = true from A1i _]
    exact Evt.ret
   ·rw [show ((1 : Int) == 1) = true from rfl, cond_true] at hl ⊢
    have ew : ([116, 114, 117, 101] : List UInt8) ++ r = 116 :: ([114, 117, 101] ++ r) := rfl
    rw [ew]
    refine A7 (A6r (c := 34) (l := []) (R := 116 :: ([114, 117, 101] ++ r)) rfl (A09 (by decide)) true) ?_
    simp -implicitDefEqProofs only [rdl, Ex.same, Nat.beq]
    refine A7 (A6r (c := 91) (l := []) rfl (A09 (by decide)) true) ?_
    simp -implicitDefEqProofs only [rdl, Ex.same, Nat.beq]
    refine A7 (A6r (c := 123) (l := []) rfl (A09 (by decide)) true) ?_
    simp -implicitDefEqProofs only [rdl, Ex.same, Nat.beq]
    rw [← ew]
    refine A7 (c91 (w := [116, 114, 117, 101]) (by rw [J8]; exact hl) true (.inr rfl) (A8q rfl hr (by decide))) ?_
    simp -implicitDefEqProofs only [rdl, Ex.same, Nat.beq, show D9 (bOf [116, 114, 117, 101]) ({ data := #[116, 114, 117, 101] } : ByteArray) = true from A1i _]
    exact Evt.ret
  ·obtain ⟨rfl, rfl, rfl⟩ := B96 hsh
   have e := C01 (d := d) (v := [.v (.int .i64 4), .v (.string ⟨#[]⟩), .v (.int .i64 0), .s 1 [], .s 5 la4]) rfl
   rw [e] at hl ⊢
   rw [List.cons_append, List.append_assoc] at hl ⊢
   refine A7 (A6r (l := []) rfl (A09 (c' := 34) (by decide)) true) ?_
   simp -implicitDefEqProofs only [rdl, Ex.same, Nat.beq]
   refine A7 (C23 (l := [91]) rfl true) ?_
   simp -implicitDefEqProofs only [rdl, Ex.same, Nat.beq]
   refine A7 (c90 hd hz K6 pa4 (.inl rfl) (fun h => absurd (show (4 : Int) = 5 from h) (by decide)) (fun _ => rfl) (fun m hm r hr hl => ih (by omega) _ (V5 pa4 hm) ((A0n hz).kids _ (A4b hm)) r hr hl) (t := ({ data := #[93] } : ByteArray)) rfl (.inl rfl) (by simp only [List.length_cons] at hl; exact Nat.le_of_succ_le hl)) ?_
   simp -implicitDefEqProofs only [rdl, Ex.same, Nat.beq]
   exact Evt.ret
  ·obtain ⟨rfl, rfl, hlen⟩ := B97 hsh
   have e := C02 (d := d) (v := [.v (.int .i64 5), .v (.string ⟨#[]⟩), .v (.int .i64 0), .s 1 la3, .s 5 la4]) rfl
   rw [e] at hl ⊢
   rw [List.cons_append, List.append_assoc] at hl ⊢
   refine A7 (A6r (l := []) rfl (A09 (c' := 34) (by decide)) true) ?_
   simp -implicitDefEqProofs only [rdl, Ex.same, Nat.beq]
   refine A7 (A6r (l := []) rfl (A09 (c' := 91) (by decide)) true) ?_
   simp -implicitDefEqProofs only [rdl, Ex.same, Nat.beq]
   refine A7 (C23 (l := [123]) rfl true) ?_
   simp -implicitDefEqProofs only [rdl, Ex.same, Nat.beq]
   refine A7 (c90 hd hz pa3 pa4 (.inr rfl) (fun _ => hlen) (fun h => absurd (show (5 : Int) = 4 from h) (by decide)) (fun m hm r hr hl => ih (by omega) _ (V5 pa4 hm) ((A0n hz).kids _ (A4b hm)) r hr hl) (t := ({ data := #[125] } : ByteArray)) rfl (.inr rfl) (by simp only [List.length_cons] at hl; exact Nat.le_of_succ_le hl)) ?_
   simp -implicitDefEqProofs only [rdl, Ex.same, Nat.beq]
   exact Evt.ret
end Go.Am.Pm
