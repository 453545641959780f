/- Both say the same of each text: the value whose text it is, or none. Nothing is assumed. -/
import Derived.Test.YtmgeoejefnablaaDoorPvZ
import Derived.Test.YtmgeoejefnablaaDoorPvD
namespace Go.Am.Pv
set_option linter.unusedVariables false
set_option linter.unusedSimpArgs false
set_option maxRecDepth 8000
/-- A text that is a value's. -/
def IsTxt (s : ByteArray) (v : Row) : Prop := ShL E (E 38) v ∧ valueOk v = true ∧ s = vTxt 6 v
theorem ok_size {v : Row} (h : valueOk v = true) : 0 < valSz 6 v := by simpa [valueOk] using h
theorem one_good {s : ByteArray} (hs : s.size ≤ 1048576) {v : Row} (h : IsTxt s v) : Ev fs 11 [.d (.v (.string s))] ⟨.t [.g v, .d (.v (.bool true))], []⟩ ∧ Ev fs 12 [.d (.v (.string s))] ⟨.t [.g v, .d (.v (.bool true))], []⟩ := by
  obtain ⟨hv, ho, rfl⟩ := h
  have hz := ok_size ho
  have hl : ((vTxt 6 v).toList ++ []).length ≤ 1048576 := by rw [List.append_nil, toList_len]; exact hs
  have q1 := read_C hs 6 (by omega) v hv hz 0 [] ⟨by omega, by rw [List.append_nil]; rfl⟩ Stop.nil
  have q2 := value_C 6 (by omega) v hv hz [] Stop.nil hl
  rw [List.append_nil, bOf_toList] at q2
  have g1 := f19 hv
  have g2 := f20 hv
  have g3 := f27 6 hv hz
  have g4 := f36 6 hv hz
  rw [ho] at g1 g2
  generalize ht : vTxt 6 v = t at *
  obtain ⟨na0, sa1, na2, la3, la4, rfl, pa0, pa1, pa2, pa3, pa4⟩ := I38 hv
  constructor
  · refine Ev.of (af := a11) rfl rfl (Evt.congr (fun d n => a11q ..) ?_)
    refine ev_call q1 ?_
    simp -implicitDefEqProofs only [rdl, Ex.same, Nat.beq, show (false == false) = true from rfl, Bool.not_false]
    refine ev_call g1 ?_
    simp -implicitDefEqProofs only [rdl, Ex.same, Nat.beq, Bool.not_true, show (false == false) = true from rfl, Bool.not_false]
    refine ev_call g3 ?_
    simp -implicitDefEqProofs only [rdl, Ex.same, Nat.beq, beq_self, Bool.not_true]
    exact Evt.ret
  · refine Ev.of (af := a12) rfl rfl (Evt.congr (fun d n => a12q ..) ?_)
    refine ev_call q2 ?_
    simp -implicitDefEqProofs only [rdl, Ex.same, Nat.beq, Bool.not_true, show (false == false) = true from rfl, show bytesEq (bOf []) ({ data := #[] } : ByteArray) = true from beq_self _, Bool.not_false]
    refine ev_call g2 ?_
    simp -implicitDefEqProofs only [rdl, Ex.same, Nat.beq, Bool.not_true, show (false == false) = true from rfl, Bool.not_false]
    refine ev_call g4 ?_
    simp -implicitDefEqProofs only [rdl, Ex.same, Nat.beq, beq_self, Bool.not_true]
    exact Evt.ret
theorem bytes_eq {a c : ByteArray} (h : bytesEq a c = true) : a = c := by
  have h : a.toList = c.toList := by simpa [bytesEq] using h
  rw [← bOf_toList a, h, bOf_toList]
theorem one_bad {s : ByteArray} (hs : s.size ≤ 1048576) (h : ¬ ∃ v, IsTxt s v) : Ev fs 11 [.d (.v (.string s))] ⟨.t [.g [.v (.int .i64 0), .v (.string ByteArray.empty), .v (.int .i64 0), .s 1 [], .s 5 []], .d (.v (.bool false))], []⟩ ∧ Ev fs 12 [.d (.v (.string s))] ⟨.t [.g [.v (.int .i64 0), .v (.string ByteArray.empty), .v (.int .i64 0), .s 1 [], .s 5 []], .d (.v (.bool false))], []⟩ := by
  constructor
  · obtain ⟨o, ⟨v, j, b, hv, hj, rfl⟩, q⟩ := read_T hs 6 (by omega) 0 false (by omega)
    have hv9 := hv
    obtain ⟨na0, sa1, na2, la3, la4, rfl, pa0, pa1, pa2, pa3, pa4⟩ := I38 hv
    refine Ev.of (af := a11) rfl rfl (Evt.congr (fun d n => a11q ..) ?_)
    refine ev_call q ?_
    simp -implicitDefEqProofs only [rdl, Ex.same, Nat.beq]
    refine ev_if (fun c1 => ?_) (fun c1 => Evt.ret)
    refine ev_call (f19 hv9) ?_
    simp -implicitDefEqProofs only [rdl, Ex.same, Nat.beq]
    refine ev_if (fun c2 => ?_) (fun c2 => Evt.ret)
    have ho : valueOk [.v (.int .i64 na0), .v (.string sa1), .v (.int .i64 na2), .s 1 la3, .s 5 la4] = true := by simpa using c2
    refine ev_call (f27 6 hv9 (ok_size ho)) ?_
    simp -implicitDefEqProofs only [rdl, Ex.same, Nat.beq]
    refine ev_if (fun c3 => Evt.ret) (fun c3 => ?_)
    exact absurd ⟨_, hv9, ho, (bytes_eq (by simpa using c3)).symm⟩ h
  · obtain ⟨o, ⟨v, s', b, hv, hj, rfl⟩, q⟩ := value_T (Nat.le_refl 1048576) 6 (by omega) s true hs
    have hv9 := hv
    obtain ⟨na0, sa1, na2, la3, la4, rfl, pa0, pa1, pa2, pa3, pa4⟩ := I38 hv
    refine Ev.of (af := a12) rfl rfl (Evt.congr (fun d n => a12q ..) ?_)
    refine ev_call q ?_
    simp -implicitDefEqProofs only [rdl, Ex.same, Nat.beq]
    refine ev_if (fun c1 => ?_) (fun c1 => Evt.ret)
    refine ev_if (fun c4 => ?_) (fun c4 => Evt.ret)
    refine ev_call (f20 hv9) ?_
    simp -implicitDefEqProofs only [rdl, Ex.same, Nat.beq]
    refine ev_if (fun c2 => ?_) (fun c2 => Evt.ret)
    have ho : valueOk [.v (.int .i64 na0), .v (.string sa1), .v (.int .i64 na2), .s 1 la3, .s 5 la4] = true := by simpa using c2
    refine ev_call (f36 6 hv9 (ok_size ho)) ?_
    simp -implicitDefEqProofs only [rdl, Ex.same, Nat.beq]
    refine ev_if (fun c3 => Evt.ret) (fun c3 => ?_)
    exact absurd ⟨_, hv9, ho, (bytes_eq (by simpa using c3)).symm⟩ h
/-! ### how many cells a value has -/
theorem key_cells {l : Rows} (h : SL E 9 l) : cnRows l = l.length := by
  have key : ∀ {l : Rows}, ShR E (E 9) l → cnRows l = l.length := by
    intro l
    induction l with
    | nil => intro _; simp [cnRows]
    | cons r l ih =>
      intro h
      cases h with
      | cons h h' =>
        have e := ih h'
        obtain ⟨w, rfl⟩ : ∃ w : ByteArray, r = [.v (.string w)] := by
          obtain ⟨sx0, rfl, px0⟩ := I9 h
          exact ⟨_, rfl⟩
        simp only [cnRows, cnRow, e, List.length_cons]
        omega
  exact key h.2
theorem val_cells : ∀ (d : Nat) {v : Row}, ShL E (E 38) v → 0 < valSz d v → ((cnRow v : Nat) : Int) + 1 ≤ 5 * valSz d v := by
  intro d
  induction d with
  | zero => intro v _ h; simp [valSz] at h
  | succ d ih =>
    intro v hv hz
    have hva := valAt hz
    obtain ⟨na0, sa1, na2, la3, la4, rfl, pa0, pa1, pa2, pa3, pa4⟩ := I38 hv
    have hsh : shapeB na0 sa1 na2 la3 la4 = true := hva.shape
    have hk : la3.length ≤ la4.length := by
      rcases shape_kind hsh with rfl | rfl | rfl | rfl | rfl
      · rw [(shape1 hsh).2.2.1]; simp
      · rw [(shape2 hsh).2.1]; simp
      · rw [(shape3 hsh).2.2.1]; simp
      · rw [(shape4 hsh).2.2]; simp
      · exact Nat.le_of_eq (shape5 hsh).2.2
    have key : ∀ l : Rows, ShR E (E 38) l → (∀ x ∈ l, 0 < valSz d x) → ((cnRows l : Nat) : Int) + (l.length : Int) ≤ 5 * (l.map (valSz d)).sum := by
      intro l
      induction l with
      | nil => intro _ _; simp [cnRows]
      | cons r l ihl =>
        intro h hp
        cases h with
        | cons h h' =>
          have e1 := ihl h' fun x hx => hp x (by simp [hx])
          have e2 := ih h (hp r (by simp))
          simp only [cnRows, List.length_cons, List.map_cons, List.sum_cons]
          omega
    have e1 := key la4 pa4.2 hva.kids
    have e2 : valSz (d + 1) [.v (.int .i64 na0), .v (.string sa1), .v (.int .i64 na2), .s 1 la3, .s 5 la4] = 1 + (la4.map (valSz d)).sum := hva.sum
    rw [e2]
    simp only [cnRow, key_cells pa3]
    omega
theorem both9 {s : ByteArray} (hs : s.size ≤ 1048576) : ∃ (o0 : Int) (o1 : ByteArray) (o2 : Int) (o3 o4 : Rows) (bb : Bool), ShL E (E 38) [.v (.int .i64 o0), .v (.string o1), .v (.int .i64 o2), .s 1 o3, .s 5 o4] ∧ cnTop ([.v (.int .i64 o0), .v (.string o1), .v (.int .i64 o2), .s 1 o3, .s 5 o4] : Row) ≤ 1500 ∧
    Ev fs 11 [.d (.v (.string s))] ⟨.t [.g [.v (.int .i64 o0), .v (.string o1), .v (.int .i64 o2), .s 1 o3, .s 5 o4], .d (.v (.bool bb))], []⟩ ∧ Ev fs 12 [.d (.v (.string s))] ⟨.t [.g [.v (.int .i64 o0), .v (.string o1), .v (.int .i64 o2), .s 1 o3, .s 5 o4], .d (.v (.bool bb))], []⟩ := by
  by_cases h : ∃ v, IsTxt s v
  · obtain ⟨v, h⟩ := h
    have q := one_good hs h
    have hv := h.1
    have e1 := val_cells 6 hv (ok_size h.2.1)
    have e2 := (valSz_rng 6 v).2
    have e3 := cnTop_le (r := v)
    have e4 : cnTop v ≤ 1500 := by omega
    obtain ⟨na0, sa1, na2, la3, la4, rfl, pa0, pa1, pa2, pa3, pa4⟩ := I38 h.1
    exact ⟨_, _, _, _, _, true, hv, e4, q.1, q.2⟩
  · have q := one_bad hs h
    exact ⟨_, _, _, _, _, false, zero_row, by simp [cnTop, cnRows], q.1, q.2⟩
end Go.Am.Pv
