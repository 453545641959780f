/- The walk of FnExactFedNew: it returns true; nothing that lay there is turned. No conditions. -/
import Derived.Test.YtgnicnelpcndgaaFedNewV
namespace Go.Proofs.Ytgnicnelpcndgaa.FedNewW
open Go.RowKit

set_option maxHeartbeats 2000000 in
theorem c8 (w : World) : Calls Try.prog 8 #[] w fun e w' => e = .returned (.bool true) ∧ Below w.heap.size w w' := by
  go_enter Try.func8, Try.ntmps8
  go_wp2_with fail
  refine (c33 _).mono ?_
  rintro e w1 ⟨rfl, hb1⟩
  obtain ⟨hc1, hf1⟩ := bcell hb1
  have hz1 : w.heap.size ≤ w1.heap.size := hb1.size
  go_wp2_with fail
  refine (c34 _).mono ?_
  rintro e w2 ⟨rfl, hb2⟩
  obtain ⟨hc2, hf2⟩ := bcell hb2
  have hz2 : w1.heap.size < w2.heap.size := by have := hb2.size; simp at this; exact this
  have t1_2 : w1.heap.size < w2.heap.size := by omega
  have s1_2 : w1.heap.size ≤ w2.heap.size := by omega
  go_wp2_with fail
  refine (c35 _).mono ?_
  rintro e w3 ⟨rfl, hb3⟩
  obtain ⟨hc3, hf3⟩ := bcell hb3
  have hz3 : w2.heap.size < w3.heap.size := by have := hb3.size; simp at this; exact this
  have t1_3 : w1.heap.size < w3.heap.size := by omega
  have s1_3 : w1.heap.size ≤ w3.heap.size := by omega
  have t2_3 : w2.heap.size < w3.heap.size := by omega
  have s2_3 : w2.heap.size ≤ w3.heap.size := by omega
  go_wp2_with fail
  refine (c36 _ _).mono ?_
  rintro e w4 ⟨rfl, hb4⟩
  obtain ⟨hc4, hf4⟩ := bcell hb4
  have hz4 : w3.heap.size ≤ w4.heap.size := hb4.size
  have t1_4 : w1.heap.size < w4.heap.size := by omega
  have s1_4 : w1.heap.size ≤ w4.heap.size := by omega
  have t2_4 : w2.heap.size < w4.heap.size := by omega
  have s2_4 : w2.heap.size ≤ w4.heap.size := by omega
  go_wp2_with fail
  refine (c37 _ _ (by decide)).mono ?_
  rintro e w5 ⟨rfl, hb5⟩
  obtain ⟨hc5, hf5⟩ := bcell hb5
  have hz5 : w4.heap.size ≤ w5.heap.size := hb5.size
  have t1_5 : w1.heap.size < w5.heap.size := by omega
  have s1_5 : w1.heap.size ≤ w5.heap.size := by omega
  have t2_5 : w2.heap.size < w5.heap.size := by omega
  have s2_5 : w2.heap.size ≤ w5.heap.size := by omega
  go_wp2_with fail
  refine (c34 _).mono ?_
  rintro e w6 ⟨rfl, hb6⟩
  obtain ⟨hc6, hf6⟩ := bcell hb6
  have hz6 : w5.heap.size ≤ w6.heap.size := hb6.size
  have t1_6 : w1.heap.size < w6.heap.size := by omega
  have s1_6 : w1.heap.size ≤ w6.heap.size := by omega
  have t2_6 : w2.heap.size < w6.heap.size := by omega
  have s2_6 : w2.heap.size ≤ w6.heap.size := by omega
  go_wp2_with fail
  refine (c35 _).mono ?_
  rintro e w7 ⟨rfl, hb7⟩
  obtain ⟨hc7, hf7⟩ := bcell hb7
  have hz7 : w6.heap.size < w7.heap.size := by have := hb7.size; simp at this; exact this
  have t1_7 : w1.heap.size < w7.heap.size := by omega
  have s1_7 : w1.heap.size ≤ w7.heap.size := by omega
  have t2_7 : w2.heap.size < w7.heap.size := by omega
  have s2_7 : w2.heap.size ≤ w7.heap.size := by omega
  have t6_7 : w6.heap.size < w7.heap.size := by omega
  have s6_7 : w6.heap.size ≤ w7.heap.size := by omega
  go_wp2_with fail
  refine (c37 _ _ (by decide)).mono ?_
  rintro e w8 ⟨rfl, hb8⟩
  obtain ⟨hc8, hf8⟩ := bcell hb8
  have hz8 : w7.heap.size ≤ w8.heap.size := hb8.size
  have t1_8 : w1.heap.size < w8.heap.size := by omega
  have s1_8 : w1.heap.size ≤ w8.heap.size := by omega
  have t2_8 : w2.heap.size < w8.heap.size := by omega
  have s2_8 : w2.heap.size ≤ w8.heap.size := by omega
  have t6_8 : w6.heap.size < w8.heap.size := by omega
  have s6_8 : w6.heap.size ≤ w8.heap.size := by omega
  go_wp2
  go_ret
  have b1 : Below w.heap.size w w1 := hb1
  have b2 : Below w.heap.size w w2 := (b1.alloc hz1 _).trans (hb2.mono (by simp <;> omega))
  have b3 : Below w.heap.size w w3 := (b2.alloc (by omega) _).trans (hb3.mono (by simp <;> omega))
  have b4 : Below w.heap.size w w4 := b3.trans (hb4.mono (by omega))
  have b5 : Below w.heap.size w w5 := b4.trans (hb5.mono (by omega))
  have b6 : Below w.heap.size w w6 := b5.trans (hb6.mono (by omega))
  have b7 : Below w.heap.size w w7 := (b6.alloc (by omega) _).trans (hb7.mono (by simp <;> omega))
  have b8 : Below w.heap.size w w8 := b7.trans (hb8.mono (by omega))
  exact ⟨rfl, b8⟩
end Go.Proofs.Ytgnicnelpcndgaa.FedNewW
