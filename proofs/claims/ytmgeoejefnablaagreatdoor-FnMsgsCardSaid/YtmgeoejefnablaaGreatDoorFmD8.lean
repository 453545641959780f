/- The law: a drawn message that is right comes back of its text. Nothing is assumed. -/
import Derived.Test.YtmgeoejefnablaaGreatDoorFmD7
namespace Go.Am.Fm
variable {SK : Src}
set_option linter.unusedVariables false
set_option linter.unusedSimpArgs false
set_option maxRecDepth 8000
theorem f3 {a : Option Addr} {n c : Nat} (hlen : n = SK.bytes.length) (hat : n ≠ 0 → a = some ⟨SK.b, SK.off, none⟩) : Ev (fs SK) 3 [.d (.v (.slice a n c))] (bo true) := by
 refine Ev.of (af := a3) rfl rfl (Evt.congr (fun d n => a3q ..) ?_)
 refine ev_call (f5 a n c) ?_
 simp -implicitDefEqProofs only [rdl, Ex.same, Nat.beq]
 refine ev_if (fun _ => Evt.ret) (fun hn => ?_)
 have hK : IsH SK a n := ⟨hlen, hat, by have := of_decide_eq_false hn; omega⟩
 obtain ⟨o, ⟨k, u, r, ws, rs, hm, rfl⟩, qd⟩ := t6 (SK := SK) (c := c) hK
 have qt := f7 (SK := SK) hm.sh
 have qo := f8 (SK := SK) hm.sh
 have qi := f9 (SK := SK) hm.sh
 have qp := fun ho => msg_back (SK := SK) (k := k) (r := r) (u := u) (ws := ws) (rs := rs) ho hm.w hm.s hm.few
 have qs := f11 (SK := SK) hm.s
 have hz : msgOk [.v (.int .i64 k), .v (.string u), .v (.int .i64 r), .s 7 ws, .s 2 rs] = false → msgTxt [.v (.int .i64 k), .v (.string u), .v (.int .i64 r), .s 7 ws, .s 2 rs] = ({ data := #[] } : ByteArray) := fun h => by
  unfold msgTxt
  rw [h]
  rfl
 generalize msgTxt [.v (.int .i64 k), .v (.string u), .v (.int .i64 r), .s 7 ws, .s 2 rs] = tx at *
 generalize msgOk [.v (.int .i64 k), .v (.string u), .v (.int .i64 r), .s 7 ws, .s 2 rs] = bb at *
 refine ev_call qd ?_
 simp -implicitDefEqProofs only [rdl, Ex.same, Nat.beq]
 refine ev_call qt ?_
 simp -implicitDefEqProofs only [rdl, Ex.same, Nat.beq]
 refine ev_call qo ?_
 simp -implicitDefEqProofs only [rdl, Ex.same, Nat.beq]
 cases bb with
 | false =>
  rw [hz rfl]
  simp -implicitDefEqProofs only [rdl, Ex.same, Nat.beq, Bool.not_false, beq_self]
  refine ev_call qi ?_
  simp -implicitDefEqProofs only [rdl, Ex.same, Nat.beq, Bool.not_false]
  exact Evt.ret
 | true =>
  simp -implicitDefEqProofs only [rdl, Ex.same, Nat.beq, Bool.not_true]
  refine ev_call (qp rfl) ?_
  simp -implicitDefEqProofs only [rdl, Ex.same, Nat.beq]
  refine ev_call qt ?_
  simp -implicitDefEqProofs only [rdl, Ex.same, Nat.beq, beq_self, beq_self_eq_true]
  refine ev_call qs ?_
  simp -implicitDefEqProofs only [rdl, Ex.same, Nat.beq, beq_self_eq_true]
  refine ev_call qi ?_
  simp -implicitDefEqProofs only [rdl, Ex.same, Nat.beq]
  exact Evt.ret
end Go.Am.Fm
