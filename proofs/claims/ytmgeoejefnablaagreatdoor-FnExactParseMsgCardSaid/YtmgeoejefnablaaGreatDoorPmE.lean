/- Both say the same of each text: the value whose text it is, or none. Nothing is assumed. -/
import Derived.Test.YtmgeoejefnablaaGreatDoorPmZ
import Derived.Test.YtmgeoejefnablaaGreatDoorPmD
namespace Go.Am.Pm
set_option linter.unusedVariables false
set_option linter.unusedSimpArgs false
set_option maxRecDepth 8000
theorem B7m {s : ByteArray} (hs : s.size ≤ 1048576) {v : Row} (h : B7g s v) : Ev fs 35 [.d (.v (.string s))] ⟨.t [.g v, .d (.v (.bool true))], []⟩ ∧ Ev fs 32 [.d (.v (.string s))] ⟨.t [.g v, .d (.v (.bool true))], []⟩ := by
 obtain ⟨hv, ho, rfl⟩ := h
 have hz := A7y ho
 have hl : ((I6 6 v).toList ++ []).length ≤ 1048576 := by rw [List.append_nil, F9]; exact hs
 have q1 := D0v hs 6 (by omega) v hv hz 0 [] ⟨by omega, by rw [List.append_nil]; rfl⟩ Stop.nil
 have q2 := C74 6 (by omega) v hv hz [] Stop.nil hl
 rw [List.append_nil, M7] at q2
 have g1 := f53 hv
 have g2 := f51 hv
 have g3 := f61 6 hv hz
 have g4 := f52 6 hv hz
 rw [ho] at g1 g2
 generalize ht : I6 6 v = t at *
 obtain ⟨na0, sa1, na2, la3, la4, rfl, pa0, pa1, pa2, pa3, pa4⟩ := I46 hv
 constructor
 ·refine Ev.of (af := a35) rfl rfl (Evt.congr (fun d n => D2l ..) ?_)
  refine A7 q1 ?_
  simp -implicitDefEqProofs only [rdl, Ex.same, Nat.beq, show (false == false) = true from rfl, Bool.not_false]
  refine A7 g1 ?_
  simp -implicitDefEqProofs only [rdl, Ex.same, Nat.beq, Bool.not_true, show (false == false) = true from rfl, Bool.not_false]
  refine A7 g3 ?_
  simp -implicitDefEqProofs only [rdl, Ex.same, Nat.beq, A1i, Bool.not_true]
  exact Evt.ret
 ·refine Ev.of (af := a32) rfl rfl (Evt.congr (fun d n => D2c ..) ?_)
  refine A7 q2 ?_
  simp -implicitDefEqProofs only [rdl, Ex.same, Nat.beq, Bool.not_true, show (false == false) = true from rfl, show D9 (bOf []) ({ data := #[] } : ByteArray) = true from A1i _, Bool.not_false]
  refine A7 g2 ?_
  simp -implicitDefEqProofs only [rdl, Ex.same, Nat.beq, Bool.not_true, show (false == false) = true from rfl, Bool.not_false]
  refine A7 g4 ?_
  simp -implicitDefEqProofs only [rdl, Ex.same, Nat.beq, A1i, Bool.not_true]
  exact Evt.ret
theorem C75 {s : ByteArray} (hs : s.size ≤ 1048576) (h : ¬ ∃ v, B7g s v) : Ev fs 35 [.d (.v (.string s))] ⟨.t [.g [.v (.int .i64 0), .v (.string ByteArray.empty), .v (.int .i64 0), .s 1 [], .s 5 []], .d (.v (.bool false))], []⟩ ∧ Ev fs 32 [.d (.v (.string s))] ⟨.t [.g [.v (.int .i64 0), .v (.string ByteArray.empty), .v (.int .i64 0), .s 1 [], .s 5 []], .d (.v (.bool false))], []⟩ := by
 constructor
 ·obtain ⟨o, ⟨v, j, b, hv, hj, rfl⟩, q⟩ := D0u hs 6 (by omega) 0 false (by omega)
  have hv9 := hv
  obtain ⟨na0, sa1, na2, la3, la4, rfl, pa0, pa1, pa2, pa3, pa4⟩ := I46 hv
  refine Ev.of (af := a35) rfl rfl (Evt.congr (fun d n => D2l ..) ?_)
  refine A7 q ?_
  simp -implicitDefEqProofs only [rdl, Ex.same, Nat.beq]
  refine D6 (fun c1 => ?_) (fun c1 => Evt.ret)
  refine A7 (f53 hv9) ?_
  simp -implicitDefEqProofs only [rdl, Ex.same, Nat.beq]
  refine D6 (fun c2 => ?_) (fun c2 => Evt.ret)
  have ho : O9 [.v (.int .i64 na0), .v (.string sa1), .v (.int .i64 na2), .s 1 la3, .s 5 la4] = true := by simpa using c2
  refine A7 (f61 6 hv9 (A7y ho)) ?_
  simp -implicitDefEqProofs only [rdl, Ex.same, Nat.beq]
  refine D6 (fun c3 => Evt.ret) (fun c3 => ?_)
  exact absurd ⟨_, hv9, ho, (A3s (by simpa using c3)).symm⟩ h
 ·obtain ⟨o, ⟨v, s', b, hv, hj, rfl⟩, q⟩ := C73 (Nat.le_refl 1048576) 6 (by omega) s true hs
  have hv9 := hv
  obtain ⟨na0, sa1, na2, la3, la4, rfl, pa0, pa1, pa2, pa3, pa4⟩ := I46 hv
  refine Ev.of (af := a32) rfl rfl (Evt.congr (fun d n => D2c ..) ?_)
  refine A7 q ?_
  simp -implicitDefEqProofs only [rdl, Ex.same, Nat.beq]
  refine D6 (fun c1 => ?_) (fun c1 => Evt.ret)
  refine D6 (fun c4 => ?_) (fun c4 => Evt.ret)
  refine A7 (f51 hv9) ?_
  simp -implicitDefEqProofs only [rdl, Ex.same, Nat.beq]
  refine D6 (fun c2 => ?_) (fun c2 => Evt.ret)
  have ho : O9 [.v (.int .i64 na0), .v (.string sa1), .v (.int .i64 na2), .s 1 la3, .s 5 la4] = true := by simpa using c2
  refine A7 (f52 6 hv9 (A7y ho)) ?_
  simp -implicitDefEqProofs only [rdl, Ex.same, Nat.beq]
  refine D6 (fun c3 => Evt.ret) (fun c3 => ?_)
  exact absurd ⟨_, hv9, ho, (A3s (by simpa using c3)).symm⟩ h
end Go.Am.Pm
