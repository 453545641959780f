/- Both say the same of each text: the value whose text it is, or none. Nothing is assumed. -/
import Derived.Test.YtefdfdkkbbehiaaGreatDoorPpZ
import Derived.Test.YtefdfdkkbbehiaaGreatDoorPpD
namespace Go.Am.Pp
set_option linter.unusedVariables false
set_option linter.unusedSimpArgs false
set_option maxRecDepth 8000
theorem one_good {s : ByteArray} (hs : s.size ≤ 1048576) {v : Row} (h : IsTxt s v) : Ev fs 52 [.d (.v (.string s))] ⟨.t [.g v, .d (.v (.bool true))], []⟩ ∧ Ev fs 58 [.d (.v (.string s))] ⟨.t [.g v, .d (.v (.bool true))], []⟩ := by
 obtain ⟨hv, ho, rfl⟩ := h
 have hz := ok_size ho
 have hl : ((vTxt 6 v).toList ++ []).length ≤ 1048576 := by rw [List.append_nil, toList_len]; exact hs
 have q1 := read_C hs 6 (by omega) v hv hz 0 [] ⟨by omega, by rw [List.append_nil]; rfl⟩ Stop.nil
 have q2 := value_C 6 (by omega) v hv hz [] Stop.nil hl
 rw [List.append_nil, bOf_toList] at q2
 have g1 := f40 hv
 have g2 := f16 hv
 have g3 := f53 6 hv hz
 have g4 := f69 6 hv hz
 rw [ho] at g1 g2
 generalize ht : vTxt 6 v = t at *
 obtain ⟨na0, sa1, na2, la3, la4, rfl, pa0, pa1, pa2, pa3, pa4⟩ := I33 hv
 constructor
 ·refine Ev.of (af := a52) rfl rfl (Evt.congr (fun d n => a52q ..) ?_)
  refine ev_call q1 ?_
  simp -implicitDefEqProofs only [rdl, Ex.same, Nat.beq, show (false == false) = true from rfl, Bool.not_false]
  refine ev_call g1 ?_
  simp -implicitDefEqProofs only [rdl, Ex.same, Nat.beq, Bool.not_true, show (false == false) = true from rfl, Bool.not_false]
  refine ev_call g3 ?_
  simp -implicitDefEqProofs only [rdl, Ex.same, Nat.beq, beq_self, Bool.not_true]
  exact Evt.ret
 ·refine Ev.of (af := a58) rfl rfl (Evt.congr (fun d n => a58q ..) ?_)
  refine ev_call q2 ?_
  simp -implicitDefEqProofs only [rdl, Ex.same, Nat.beq, Bool.not_true, show (false == false) = true from rfl, show bytesEq (bOf []) ({ data := #[] } : ByteArray) = true from beq_self _, Bool.not_false]
  refine ev_call g2 ?_
  simp -implicitDefEqProofs only [rdl, Ex.same, Nat.beq, Bool.not_true, show (false == false) = true from rfl, Bool.not_false]
  refine ev_call g4 ?_
  simp -implicitDefEqProofs only [rdl, Ex.same, Nat.beq, beq_self, Bool.not_true]
  exact Evt.ret
theorem one_bad {s : ByteArray} (hs : s.size ≤ 1048576) (h : ¬ ∃ v, IsTxt s v) : Ev fs 52 [.d (.v (.string s))] ⟨.t [.g [.v (.int .i64 0), .v (.string ByteArray.empty), .v (.int .i64 0), .s 1 [], .s 5 []], .d (.v (.bool false))], []⟩ ∧ Ev fs 58 [.d (.v (.string s))] ⟨.t [.g [.v (.int .i64 0), .v (.string ByteArray.empty), .v (.int .i64 0), .s 1 [], .s 5 []], .d (.v (.bool false))], []⟩ := by
 constructor
 ·obtain ⟨o, ⟨v, j, b, hv, hj, rfl⟩, q⟩ := read_T hs 6 (by omega) 0 false (by omega)
  have hv9 := hv
  obtain ⟨na0, sa1, na2, la3, la4, rfl, pa0, pa1, pa2, pa3, pa4⟩ := I33 hv
  refine Ev.of (af := a52) rfl rfl (Evt.congr (fun d n => a52q ..) ?_)
  refine ev_call q ?_
  simp -implicitDefEqProofs only [rdl, Ex.same, Nat.beq]
  refine ev_if (fun c1 => ?_) (fun c1 => Evt.ret)
  refine ev_call (f40 hv9) ?_
  simp -implicitDefEqProofs only [rdl, Ex.same, Nat.beq]
  refine ev_if (fun c2 => ?_) (fun c2 => Evt.ret)
  have ho : valueOk [.v (.int .i64 na0), .v (.string sa1), .v (.int .i64 na2), .s 1 la3, .s 5 la4] = true := by simpa using c2
  refine ev_call (f53 6 hv9 (ok_size ho)) ?_
  simp -implicitDefEqProofs only [rdl, Ex.same, Nat.beq]
  refine ev_if (fun c3 => Evt.ret) (fun c3 => ?_)
  exact absurd ⟨_, hv9, ho, (bytes_eq (by simpa using c3)).symm⟩ h
 ·obtain ⟨o, ⟨v, s', b, hv, hj, rfl⟩, q⟩ := value_T (Nat.le_refl 1048576) 6 (by omega) s true hs
  have hv9 := hv
  obtain ⟨na0, sa1, na2, la3, la4, rfl, pa0, pa1, pa2, pa3, pa4⟩ := I33 hv
  refine Ev.of (af := a58) rfl rfl (Evt.congr (fun d n => a58q ..) ?_)
  refine ev_call q ?_
  simp -implicitDefEqProofs only [rdl, Ex.same, Nat.beq]
  refine ev_if (fun c1 => ?_) (fun c1 => Evt.ret)
  refine ev_if (fun c4 => ?_) (fun c4 => Evt.ret)
  refine ev_call (f16 hv9) ?_
  simp -implicitDefEqProofs only [rdl, Ex.same, Nat.beq]
  refine ev_if (fun c2 => ?_) (fun c2 => Evt.ret)
  have ho : valueOk [.v (.int .i64 na0), .v (.string sa1), .v (.int .i64 na2), .s 1 la3, .s 5 la4] = true := by simpa using c2
  refine ev_call (f69 6 hv9 (ok_size ho)) ?_
  simp -implicitDefEqProofs only [rdl, Ex.same, Nat.beq]
  refine ev_if (fun c3 => Evt.ret) (fun c3 => ?_)
  exact absurd ⟨_, hv9, ho, (bytes_eq (by simpa using c3)).symm⟩ h
end Go.Am.Pp
