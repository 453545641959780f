/- The reference's reader gives back what was written: values. Nothing is assumed. -/
import Derived.Test.YtefdfdkkbbehiaaGreatDoorPpG
namespace Go.Am.Pp
set_option linter.unusedVariables false
set_option linter.unusedSimpArgs false
set_option maxRecDepth 8000
theorem c120 {s : ByteArray} (hs : s.size ≤ 1048576) {d : Nat} (hd : d + 1 ≤ 6) {v : Row} (hv : 0 < valSz (d + 1) v) (pks : SL E 9 (cR v 3)) (pvs : SL E 33 (cR v 4)) (h45 : cN v 0 = 4 ∨ cN v 0 = 5)
  (hkl : cN v 0 = 5 → (cR v 3).length = (cR v 4).length) (hk0 : cN v 0 = 4 → cR v 3 = [])
  (rdr : ∀ m, m < (cR v 4).length → ∀ i r, At s i ((vTxt d (row_ (cR v 4) m)).toList ++ r) → Stop r → Ev fs 86 [.p (PS s i false), .d (.v (.int .i64 (d : Int)))] ⟨.g (row_ (cR v 4) m), [.p (PS s (i + (vTxt d (row_ (cR v 4) m)).toList.length) false)]⟩)
  {e : UInt8} {t : ByteArray} (ht : t.toList = [e]) (he : e = 93 ∨ e = 125) {r : List UInt8} {i : Nat} (h : At s i (jt (kidL d v) (cR v 4).length 0 ++ e :: r)) :
  Ev fs 120 [.p (PS s i false), .d (.v (.int .i64 (cN v 0))), .d (.v (.string t)), .d (.v (.int .i64 ((d + 1 : Nat) : Int)))] ⟨.g [.v (.int .i64 (cN v 0)), .v (.string ByteArray.empty), .v (.int .i64 0), .s 1 (cR v 3), .s 5 (cR v 4)], [.p (PS s (i + (jt (kidL d v) (cR v 4).length 0).length + 1) false)]⟩ := by
 have key := kidsC hs hd hv pks pvs h45 hkl hk0 rdr ht he r (cR v 4).length 0 i (by omega) h
 refine Ev.of (af := a120) rfl rfl (Evt.congr (fun d n => a120q ..) ?_)
 refine ev_aft (L := fun d' m => l120x0 (TabD fs d') d' m [.b (PB s i false), .v (.int .i64 (cN v 0)), .v (.string t), .v (.int .i64 ((d + 1 : Nat) : Int)), .b ZB, .b (KB (cN v 0) [] [])]) key ?_
 simp -implicitDefEqProofs only [rdl, Ex.same, Nat.beq]
 exact Evt.ret
theorem read_C {s : ByteArray} (hs : s.size ≤ 1048576) : ∀ (d : Nat), d ≤ 6 → ∀ (v : Row), ShL E (E 33) v → 0 < valSz d v → ∀ (i : Nat) (r : List UInt8), At s i ((vTxt d v).toList ++ r) → Stop r →
  Ev fs 86 [.p (PS s i false), .d (.v (.int .i64 (d : Int)))] ⟨.g v, [.p (PS s (i + (vTxt d v).toList.length) false)]⟩ := by
 intro d
 induction d with
 | zero => intro _ v _ hz; simp [valSz] at hz
 | succ d ih =>
  intro hd v hv hz i r h hr
  have hd0 : (((d + 1 : Nat) : Int) == 0) = false := by simp; omega
  have hsh := (valAt hz).shape
  obtain ⟨na0, sa1, na2, la3, la4, rfl, pa0, pa1, pa2, pa3, pa4⟩ := I33 hv
  have hsh : shapeB na0 sa1 na2 la3 la4 = true := hsh
  refine Ev.of (af := a86) rfl rfl (Evt.congr (fun d n => a86q ..) ?_)
  simp -implicitDefEqProofs only [rdl, Ex.same, Nat.beq, hd0]
  rcases shape_kind hsh with rfl | rfl | rfl | rfl | rfl
  ·obtain ⟨htx, rfl, rfl, rfl⟩ := shape1 hsh
   have e := vTxt1 (d := d) (v := [.v (.int .i64 1), .v (.string sa1), .v (.int .i64 0), .s 1 [], .s 5 []]) rfl
   have e : (vTxt (d + 1) [.v (.int .i64 1), .v (.string sa1), .v (.int .i64 0), .s 1 [], .s 5 []]).toList = 34 :: (sa1.toList.flatMap esc ++ [34]) := e
   rw [e] at h ⊢
   have a1 : At s i ([34] ++ (sa1.toList.flatMap esc ++ 34 :: r)) := h.to (by simp)
   refine ev_call (c118Y hs (l := [34]) (lit_list 34) a1 (by decide)) ?_
   simp -implicitDefEqProofs only [rdl, Ex.same, Nat.beq]
   refine ev_call (c119 hs (textOk_nz htx) a1.next) ?_
   simp -implicitDefEqProofs only [rdl, Ex.same, Nat.beq]
   refine Evt.ret' ?_
   have e9 : i + ((sa1.toList.flatMap esc ++ [34]).length + 1) = i + (0 + 1) + ((sa1.toList.flatMap esc).length + 1) := by simp only [List.length_cons, List.length_append, List.length_nil]; omega
   rw [e9]
  ·obtain ⟨rfl, rfl, rfl⟩ := shape2 hsh
   have e : (vTxt (d + 1) [.v (.int .i64 2), .v (.string ⟨#[]⟩), .v (.int .i64 na2), .s 1 [], .s 5 []]).toList = (decS na2).toList := vTxt2 rfl
   rw [e] at h ⊢
   obtain ⟨c, l, g0, g1, g2, g3, g4, g5, _⟩ := dec_head na2
   have a1 : At s i (c :: (l ++ r)) := h.to (by rw [g0]; rfl)
   refine ev_call (c118N hs (l := []) (lit_list 34) a1 g1 (by decide)) ?_
   simp -implicitDefEqProofs only [rdl, Ex.same, Nat.beq]
   refine ev_call (c118N hs (c' := 116) (l := [114, 117, 101]) (by rw [ByteArray.toList_eq]) a1 g2 (by decide)) ?_
   simp -implicitDefEqProofs only [rdl, Ex.same, Nat.beq]
   refine ev_call (c118N hs (c' := 102) (l := [97, 108, 115, 101]) (by rw [ByteArray.toList_eq]) a1 g3 (by decide)) ?_
   simp -implicitDefEqProofs only [rdl, Ex.same, Nat.beq]
   refine ev_call (c118N hs (l := []) (lit_list 91) a1 g4 (by decide)) ?_
   simp -implicitDefEqProofs only [rdl, Ex.same, Nat.beq]
   refine ev_call (c118N hs (l := []) (lit_list 123) a1 g5 (by decide)) ?_
   simp -implicitDefEqProofs only [rdl, Ex.same, Nat.beq]
   refine ev_call (c121 hs pa2 hr h) ?_
   simp -implicitDefEqProofs only [rdl, Ex.same, Nat.beq]
   exact Evt.ret
  ·obtain ⟨rfl, hn, rfl, rfl⟩ := shape3 hsh
   have e : (vTxt (d + 1) [.v (.int .i64 3), .v (.string ⟨#[]⟩), .v (.int .i64 na2), .s 1 [], .s 5 []]).toList = bif na2 == 1 then [116, 114, 117, 101] else [102, 97, 108, 115, 101] := vTxt3 rfl
   rw [e] at h ⊢
   rcases hn with rfl | rfl
   ·have a1 : At s i ([102, 97, 108, 115, 101] ++ r) := h
    refine ev_call (c118N hs (l := []) (lit_list 34) a1 (by decide) (by decide)) ?_
    simp -implicitDefEqProofs only [rdl, Ex.same, Nat.beq]
    refine ev_call (c118N hs (c' := 116) (l := [114, 117, 101]) (by rw [ByteArray.toList_eq]) a1 (by decide) (by decide)) ?_
    simp -implicitDefEqProofs only [rdl, Ex.same, Nat.beq]
    refine ev_call (c118Y hs (l := [102, 97, 108, 115, 101]) (by rw [ByteArray.toList_eq]) a1 (by decide)) ?_
    simp -implicitDefEqProofs only [rdl, Ex.same, Nat.beq]
    exact Evt.ret
   ·have a1 : At s i ([116, 114, 117, 101] ++ r) := h
    refine ev_call (c118N hs (l := []) (lit_list 34) a1 (by decide) (by decide)) ?_
    simp -implicitDefEqProofs only [rdl, Ex.same, Nat.beq]
    refine ev_call (c118Y hs (l := [116, 114, 117, 101]) (by rw [ByteArray.toList_eq]) a1 (by decide)) ?_
    simp -implicitDefEqProofs only [rdl, Ex.same, Nat.beq]
    exact Evt.ret
  ·obtain ⟨rfl, rfl, rfl⟩ := shape4 hsh
   have e := vTxt4 (d := d) (v := [.v (.int .i64 4), .v (.string ⟨#[]⟩), .v (.int .i64 0), .s 1 [], .s 5 la4]) rfl
   rw [e] at h ⊢
   have a1 : At s i (91 :: (jt (kidL d [.v (.int .i64 4), .v (.string ⟨#[]⟩), .v (.int .i64 0), .s 1 [], .s 5 la4]) la4.length 0 ++ 93 :: r)) := h.to (by simp only [List.cons_append, List.append_assoc, List.nil_append]; rfl)
   refine ev_call (c118N hs (c' := 34) (l := []) (lit_list 34) a1 (by decide) (by decide)) ?_
   simp -implicitDefEqProofs only [rdl, Ex.same, Nat.beq]
   refine ev_call (c118N hs (c' := 116) (l := [114, 117, 101]) (by rw [ByteArray.toList_eq]) a1 (by decide) (by decide)) ?_
   simp -implicitDefEqProofs only [rdl, Ex.same, Nat.beq]
   refine ev_call (c118N hs (c' := 102) (l := [97, 108, 115, 101]) (by rw [ByteArray.toList_eq]) a1 (by decide) (by decide)) ?_
   simp -implicitDefEqProofs only [rdl, Ex.same, Nat.beq]
   refine ev_call (c118Y hs (l := [91]) (lit_list 91) a1 (by decide)) ?_
   simp -implicitDefEqProofs only [rdl, Ex.same, Nat.beq]
   refine ev_call (c120 hs hd hz sl_nil pa4 (.inl rfl) (fun h => absurd (show (4 : Int) = 5 from h) (by decide)) (fun _ => rfl) (fun m hm i r h hr => ih (by omega) _ (val_rows pa4 hm) ((valAt hz).kids _ (row_mem hm)) i r h hr) (lit_list 93) (.inl rfl) (At.next (a := [91]) a1)) ?_
   simp -implicitDefEqProofs only [rdl, Ex.same, Nat.beq]
   refine Evt.ret' ?_
   have e9 : ∀ X : List UInt8, i + ((X ++ [93]).length + 1) = i + (0 + 1) + X.length + 1 := fun X => by simp only [List.length_cons, List.length_append, List.length_nil]; omega
   rw [e9]
   rfl
  ·obtain ⟨rfl, rfl, hlen⟩ := shape5 hsh
   have e := vTxt5 (d := d) (v := [.v (.int .i64 5), .v (.string ⟨#[]⟩), .v (.int .i64 0), .s 1 la3, .s 5 la4]) rfl
   rw [e] at h ⊢
   have a1 : At s i (123 :: (jt (kidL d [.v (.int .i64 5), .v (.string ⟨#[]⟩), .v (.int .i64 0), .s 1 la3, .s 5 la4]) la4.length 0 ++ 125 :: r)) := h.to (by simp only [List.cons_append, List.append_assoc, List.nil_append]; rfl)
   refine ev_call (c118N hs (c' := 34) (l := []) (lit_list 34) a1 (by decide) (by decide)) ?_
   simp -implicitDefEqProofs only [rdl, Ex.same, Nat.beq]
   refine ev_call (c118N hs (c' := 116) (l := [114, 117, 101]) (by rw [ByteArray.toList_eq]) a1 (by decide) (by decide)) ?_
   simp -implicitDefEqProofs only [rdl, Ex.same, Nat.beq]
   refine ev_call (c118N hs (c' := 102) (l := [97, 108, 115, 101]) (by rw [ByteArray.toList_eq]) a1 (by decide) (by decide)) ?_
   simp -implicitDefEqProofs only [rdl, Ex.same, Nat.beq]
   refine ev_call (c118N hs (c' := 91) (l := []) (lit_list 91) a1 (by decide) (by decide)) ?_
   simp -implicitDefEqProofs only [rdl, Ex.same, Nat.beq]
   refine ev_call (c118Y hs (l := [123]) (lit_list 123) a1 (by decide)) ?_
   simp -implicitDefEqProofs only [rdl, Ex.same, Nat.beq]
   refine ev_call (c120 hs hd hz pa3 pa4 (.inr rfl) (fun _ => hlen) (fun h => absurd (show (5 : Int) = 4 from h) (by decide)) (fun m hm i r h hr => ih (by omega) _ (val_rows pa4 hm) ((valAt hz).kids _ (row_mem hm)) i r h hr) (lit_list 125) (.inr rfl) (At.next (a := [123]) a1)) ?_
   simp -implicitDefEqProofs only [rdl, Ex.same, Nat.beq]
   refine Evt.ret' ?_
   have e9 : ∀ X : List UInt8, i + ((X ++ [125]).length + 1) = i + (0 + 1) + X.length + 1 := fun X => by simp only [List.length_cons, List.length_append, List.length_nil]; omega
   rw [e9]
   rfl
end Go.Am.Pp
