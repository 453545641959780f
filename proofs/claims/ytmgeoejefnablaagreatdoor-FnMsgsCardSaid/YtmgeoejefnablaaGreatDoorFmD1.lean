/- The cursor over the bytes of which draws come; numbers and names that are drawn. Nothing is assumed. -/
import Derived.Test.YtmgeoejefnablaaGreatDoorFmS7
namespace Go.Am.Fm
variable {SK : Src}
set_option linter.unusedVariables false
set_option linter.unusedSimpArgs false
set_option maxRecDepth 8000
structure IsH (SK : Src) (a : Option Addr) (n : Nat) : Prop where
 len : n = SK.bytes.length
 at_ : n ≠ 0 → a = some ⟨SK.b, SK.off, none⟩
 few : n ≤ 1048576
abbrev CR (a : Option Addr) (n c : Nat) (i h : Int) : Row := [.v (.slice a n c), .v (.int .i64 i), .v (.int .i64 h)]
abbrev CB (a : Option Addr) (n c : Nat) (i h : Int) : List AV := [.v (.slice a n c), .v (.int .i64 i), .v (.int .i64 h)]
def CQ (a : Option Addr) (n c : Nat) (P : I → Prop) (o : Out) : Prop := ∃ r i h, P r ∧ 0 ≤ i ∧ o = ⟨r, [.p (CR a n c i h)]⟩
theorem code0 {a : Option Addr} {n c : Nat} {i : Int} (hK : IsH SK a n) (h0 : 0 ≤ i) (h1 : i < (n : Int)) : ∃ b : UInt8, Ev (fs SK) 0 [.f 71 [], .d (.v (.slice a n c)), .d (.v (.int .i64 i))] ⟨.d (.v (.int .u8 (b.toNat : Int))), []⟩ := by
 have hlt : i.toNat < SK.bytes.length := by have := hK.len; omega
 have ha := hK.at_ (by omega)
 have hl := hK.len
 refine ⟨SK.bytes[i.toNat], Ev.nat rfl ⟨0, fun _ _ _ _ => ?_⟩⟩
 show ((((((((natF 108 fReplace 0 [.f 71 [], .d (.v (.slice a n c)), .d (.v (.int .i64 i))]).or (natF 81 fJoin 0 [.f 71 [], .d (.v (.slice a n c)), .d (.v (.int .i64 i))])).or (natF 121 fCut 0 [.f 71 [], .d (.v (.slice a n c)), .d (.v (.int .i64 i))])).or (natF 124 fTrim 0 [.f 71 [], .d (.v (.slice a n c)), .d (.v (.int .i64 i))])).or (natF 123 fAny 0 [.f 71 [], .d (.v (.slice a n c)), .d (.v (.int .i64 i))])).or (natF 28 fSplit 0 [.f 71 [], .d (.v (.slice a n c)), .d (.v (.int .i64 i))])).or (natF 30 fCut3 0 [.f 71 [], .d (.v (.slice a n c)), .d (.v (.int .i64 i))])).or (natF 29 fSuf 0 [.f 71 [], .d (.v (.slice a n c)), .d (.v (.int .i64 i))])).or (natCode SK 71 0 [.f 71 [], .d (.v (.slice a n c)), .d (.v (.int .i64 i))]) = _
 subst ha
 simp [natF, natCode, show Nat.beq 0 108 = false from rfl, show Nat.beq 0 81 = false from rfl, show Nat.beq 0 121 = false from rfl, show Nat.beq 0 124 = false from rfl, show Nat.beq 0 123 = false from rfl, show Nat.beq 0 28 = false from rfl, show Nat.beq 0 30 = false from rfl, show Nat.beq 0 29 = false from rfl, h0, ← hl, List.getElem?_eq_getElem hlt]
theorem and255 (x : Int) : 0 ≤ andI .i64 x 255 ∧ andI .i64 x 255 ≤ 255 := by
 have key : ∀ y : BitVec 64, ((y &&& BitVec.ofInt 64 255).toNat : Int) ≤ 255 := fun y => by
  rw [BitVec.toNat_and]
  have h := @Nat.and_le_right y.toNat (BitVec.ofInt 64 255).toNat
  have e : (BitVec.ofInt 64 255).toNat = 255 := by decide
  rw [e] at h ⊢
  omega
 have h := key (BitVec.ofInt 64 x)
 unfold andI
 rw [wrap_i64 (by omega) (by exact Int.le_trans h (by omega))]
 exact ⟨by omega, h⟩
theorem t71 {a : Option Addr} {n c : Nat} {i h : Int} (hK : IsH SK a n) (hi : 0 ≤ i) : EvE (fs SK) 71 [.p (CR a n c i h)] (CQ a n c fun r => ∃ x, 0 ≤ x ∧ x ≤ 255 ∧ r = .d (.v (.int .i64 x))) := by
 refine EvE.of (af := a71) rfl rfl (EvtE.congr (fun d n => a71q ..) ?_)
 refine eve_if (fun c1 => ?_) (fun c1 => ?_)
 ·have c1 : i < (n : Int) := of_decide_eq_true c1
  obtain ⟨b, hb⟩ := code0 (c := c) hK hi c1
  have hw : IntKind.i64.wrap (i + 1) = i + 1 := by have := hK.few; rw [wrap_i64 (by omega) (by omega)]
  refine eve_call hb ?_
  simp -implicitDefEqProofs only [rdl, Ex.same, Nat.beq, hw]
  exact EvtE.ret ⟨_, _, _, ⟨_, (and255 _).1, (and255 _).2, rfl⟩, by omega, rfl⟩
 ·exact EvtE.ret ⟨_, _, _, ⟨_, (and255 _).1, (and255 _).2, rfl⟩, hi, rfl⟩
theorem tmod_rng {x m : Int} (hx : 0 ≤ x) (hm : 0 < m) : 0 ≤ Int.tmod x m ∧ Int.tmod x m < m := by
 rw [Int.tmod_eq_emod_of_nonneg hx]
 exact ⟨Int.emod_nonneg _ (by omega), Int.emod_lt_of_pos _ hm⟩
theorem t44 {a : Option Addr} {n c : Nat} {i h : Int} (hK : IsH SK a n) (hi : 0 ≤ i) (m : Int) : EvE (fs SK) 44 [.p (CR a n c i h), .d (.v (.int .i64 m))] (CQ a n c fun r => ∃ x, 0 ≤ x ∧ (0 < m → x < m) ∧ (m ≤ 0 → x = 0) ∧ r = .d (.v (.int .i64 x))) := by
 refine EvE.of (af := a44) rfl rfl (EvtE.congr (fun d n => a44q ..) ?_)
 refine eve_if (fun c1 => ?_) (fun c1 => ?_)
 ·have c1 := of_decide_eq_true c1
  exact EvtE.ret ⟨_, _, _, ⟨0, Int.le_refl _, fun h => by omega, fun _ => rfl, rfl⟩, hi, rfl⟩
 ·have c1 := of_decide_eq_false c1
  refine eve_if (fun c2 => ?_) (fun c2 => ?_)
  ·refine eve_callE (t71 hK hi) ?_
   rintro o ⟨_, i1, h1, ⟨x, hx0, hx1, rfl⟩, hi1, rfl⟩
   simp -implicitDefEqProofs only [rdl, Ex.same, Nat.beq]
   refine eve_tst (decide_eq_true (by omega)) ?_
   obtain ⟨g1, g2⟩ := tmod_rng hx0 (m := m) (by omega)
   exact EvtE.ret ⟨_, _, _, ⟨_, g1, fun _ => g2, fun h => by omega, rfl⟩, hi1, rfl⟩
  ·refine eve_callE (t71 hK hi) ?_
   rintro o ⟨_, i1, h1, ⟨x, hx0, hx1, rfl⟩, hi1, rfl⟩
   simp -implicitDefEqProofs only [rdl, Ex.same, Nat.beq]
   refine eve_callE (t71 hK hi1) ?_
   rintro o ⟨_, i2, h2, ⟨y, hy0, hy1, rfl⟩, hi2, rfl⟩
   simp -implicitDefEqProofs only [rdl, Ex.same, Nat.beq]
   refine eve_callE (t71 hK hi2) ?_
   rintro o ⟨_, i3, h3, ⟨z, hz0, hz1, rfl⟩, hi3, rfl⟩
   simp -implicitDefEqProofs only [rdl, Ex.same, Nat.beq]
   refine eve_tst (decide_eq_true (by omega)) ?_
   have hw : IntKind.i64.wrap (IntKind.i64.wrap (IntKind.i64.wrap (x * 65536) + IntKind.i64.wrap (y * 256)) + z) = x * 65536 + y * 256 + z := by
    rw [wrap_i64 (n := x * 65536) (by omega) (by omega), wrap_i64 (n := y * 256) (by omega) (by omega), wrap_i64 (n := x * 65536 + y * 256) (by omega) (by omega), wrap_i64 (by omega) (by omega)]
   rw [hw]
   obtain ⟨g1, g2⟩ := tmod_rng (x := x * 65536 + y * 256 + z) (by omega) (m := m) (by omega)
   exact EvtE.ret ⟨_, _, _, ⟨_, g1, fun _ => g2, fun h => by omega, rfl⟩, hi3, rfl⟩
theorem t46 {a : Option Addr} {n c : Nat} {i h : Int} (hK : IsH SK a n) (hi : 0 ≤ i) (m : Int) : EvE (fs SK) 46 [.p (CR a n c i h), .d (.v (.int .i64 m))] (CQ a n c fun r => ∃ x, r = .d (.v (.bool x))) := by
 refine EvE.of (af := a46) rfl rfl (EvtE.congr (fun d n => a46q ..) ?_)
 refine eve_callE (t44 hK hi m) ?_
 rintro o ⟨_, i1, h1, ⟨x, _, _, _, rfl⟩, hi1, rfl⟩
 simp -implicitDefEqProofs only [rdl, Ex.same, Nat.beq]
 exact EvtE.ret ⟨_, _, _, ⟨_, rfl⟩, hi1, rfl⟩
def allI (l : Rows) : Bool := l.all fun r => match r with | [.v (.int .i64 n)] => decide (-9223372036854775808 ≤ n) && decide (n ≤ 9223372036854775807) | _ => false
def allT (m : Nat) (l : Rows) : Bool := l.all fun r => match r with | [.v (.string s)] => decide (s.size ≤ m) | _ => false
theorem allI_at {l : Rows} (h : allI l = true) {i : Nat} (hi : i < l.length) : ∃ n, Fits n ∧ l[i]? = some [.v (.int .i64 n)] := by
 have h := List.all_eq_true.1 h _ (List.getElem_mem hi)
 split at h
 ·rename_i n e
  simp only [Bool.and_eq_true, decide_eq_true_eq] at h
  refine ⟨n, ?_, by rw [List.getElem?_eq_getElem hi, e]⟩
  simp only [Fits, IntKind.min, IntKind.max, IntKind.signed, IntKind.bits]
  simp
  omega
 ·cases h
theorem allT_at {m : Nat} {l : Rows} (h : allT m l = true) {i : Nat} (hi : i < l.length) : ∃ s : ByteArray, s.size ≤ m ∧ l[i]? = some [.v (.string s)] := by
 have h := List.all_eq_true.1 h _ (List.getElem_mem hi)
 split at h
 ·rename_i s e
  exact ⟨s, by simpa using h, by rw [List.getElem?_eq_getElem hi, e]⟩
 ·cases h
theorem t49 {a : Option Addr} {n c : Nat} {i h : Int} (hK : IsH SK a n) (hi : 0 ≤ i) {l : Rows} (hl : allI l = true) (h0 : Nat.blt 0 l.length = true) : EvE (fs SK) 49 [.p (CR a n c i h), .d (.s 1 l)] (CQ a n c fun r => ∃ x, Fits x ∧ r = .d (.v (.int .i64 x))) := by
 have h0 : 0 < l.length := Nat.blt_eq.mp h0
 refine EvE.of (af := a49) rfl rfl (EvtE.congr (fun d n => a49q ..) ?_)
 refine eve_callE (t44 hK hi _) ?_
 rintro o ⟨_, i1, h1, ⟨x, hx0, hx1, _, rfl⟩, hi1, rfl⟩
 have hx1 := hx1 (by omega)
 obtain ⟨v, hv, hat⟩ := allI_at hl (i := x.toNat) (by omega)
 simp -implicitDefEqProofs only [rdl, Ex.same, Nat.beq, decide_eq_true hx0, look_at hat]
 exact EvtE.ret ⟨_, _, _, ⟨_, hv, rfl⟩, hi1, rfl⟩
theorem t70 {a : Option Addr} {n c : Nat} {i h : Int} (hK : IsH SK a n) (hi : 0 ≤ i) {m : Nat} {l : Rows} (hl : allT m l = true) (h0 : Nat.blt 0 l.length = true) : EvE (fs SK) 70 [.p (CR a n c i h), .d (.s 1 l)] (CQ a n c fun r => ∃ s : ByteArray, s.size ≤ m ∧ r = .d (.v (.string s))) := by
 have h0 : 0 < l.length := Nat.blt_eq.mp h0
 refine EvE.of (af := a70) rfl rfl (EvtE.congr (fun d n => a70q ..) ?_)
 refine eve_callE (t44 hK hi _) ?_
 rintro o ⟨_, i1, h1, ⟨x, hx0, hx1, _, rfl⟩, hi1, rfl⟩
 have hx1 := hx1 (by omega)
 obtain ⟨v, hv, hat⟩ := allT_at hl (i := x.toNat) (by omega)
 simp -implicitDefEqProofs only [rdl, Ex.same, Nat.beq, decide_eq_true hx0, look_at hat]
 exact EvtE.ret ⟨_, _, _, ⟨_, hv, rfl⟩, hi1, rfl⟩
theorem t78 {a : Option Addr} {n c : Nat} {i h : Int} (hK : IsH SK a n) (hi : 0 ≤ i) : EvE (fs SK) 78 [.p (CR a n c i h)] (CQ a n c fun r => ∃ s : ByteArray, s.size ≤ 21 ∧ r = .d (.v (.string s))) := by
 refine EvE.of (af := a78) rfl rfl (EvtE.congr (fun d n => a78q ..) ?_)
 refine eve_callE (t70 (m := 21) hK hi rfl rfl) ?_
 rintro o ⟨_, i1, h1, ⟨s, hs, rfl⟩, hi1, rfl⟩
 simp -implicitDefEqProofs only [rdl, Ex.same, Nat.beq]
 exact EvtE.ret ⟨_, _, _, ⟨_, hs, rfl⟩, hi1, rfl⟩
theorem t50 {a : Option Addr} {n c : Nat} {i h : Int} (hK : IsH SK a n) (hi : 0 ≤ i) : EvE (fs SK) 50 [.p (CR a n c i h)] (CQ a n c fun r => ∃ s : ByteArray, s.size ≤ 21 ∧ r = .d (.v (.string s))) := by
 refine EvE.of (af := a50) rfl rfl (EvtE.congr (fun d n => a50q ..) ?_)
 refine eve_callE (t46 hK hi _) ?_
 rintro o ⟨_, i1, h1, ⟨x, rfl⟩, hi1, rfl⟩
 simp -implicitDefEqProofs only [rdl, Ex.same, Nat.beq]
 refine eve_if (fun c1 => ?_) (fun c1 => ?_)
 ·refine eve_callE (t70 (m := 21) hK hi1 rfl rfl) ?_
  rintro o ⟨_, i2, h2, ⟨s, hs, rfl⟩, hi2, rfl⟩
  simp -implicitDefEqProofs only [rdl, Ex.same, Nat.beq]
  exact EvtE.ret ⟨_, _, _, ⟨_, hs, rfl⟩, hi2, rfl⟩
 ·refine eve_callE (t78 hK hi1) ?_
  rintro o ⟨_, i2, h2, ⟨s, hs, rfl⟩, hi2, rfl⟩
  simp -implicitDefEqProofs only [rdl, Ex.same, Nat.beq]
  exact EvtE.ret ⟨_, _, _, ⟨_, hs, rfl⟩, hi2, rfl⟩
theorem new_loop {a : Option Addr} {n c : Nat} (hK : IsH SK a n) : ∀ (k i : Nat), n - i ≤ k → ∀ h : Int, EvtE (fun y => ∃ h, y = (.exit 0, [.v (.slice a n c), .v (.int .i64 h)])) (fun d m => l16x0 (TabD (fs SK) d) d m [.v (.slice a n c), .v (.int .i64 h), .v (.int .i64 (i : Int))]) := by
 have stop : ∀ (i : Nat), n ≤ i → ∀ h : Int, EvtE (fun y => ∃ h, y = (.exit 0, [.v (.slice a n c), .v (.int .i64 h)])) (fun d m => l16x0 (TabD (fs SK) d) d m [.v (.slice a n c), .v (.int .i64 h), .v (.int .i64 (i : Int))]) := fun i hi h => by
  refine eve_succ ?_
  simp only [l16x0s]
  simp -implicitDefEqProofs only [rdl, Ex.same, Nat.beq, show decide ((i : Int) < (n : Int)) = false from decide_eq_false (by omega), beq_f, show (false == true) = false from rfl]
  exact EvtE.ret ⟨_, rfl⟩
 intro k
 induction k with
 | zero => intro i hk h; exact stop i (by omega) h
 | succ k ih =>
  intro i hk h
  rcases Nat.lt_or_ge i n with hlt | hge
  ·obtain ⟨b, hb⟩ := code0 (c := c) (i := (i : Int)) hK (by omega) (by omega)
   have hw : IntKind.i64.wrap ((i : Int) + 1) = ((i + 1 : Nat) : Int) := wrap_succ hlt (by have := hK.few; simp only [maxLen]; omega)
   refine eve_succ ?_
   simp only [l16x0s]
   simp -implicitDefEqProofs only [rdl, Ex.same, Nat.beq, show decide ((i : Int) < (n : Int)) = true from decide_eq_true (by omega), show (true == true) = true from rfl]
   refine eve_if (fun c1 => ?_) (fun c1 => ?_)
   ·refine eve_call hb ?_
    simp -implicitDefEqProofs only [rdl, Ex.same, Nat.beq, hw]
    exact ih (i + 1) (by omega) _
   ·exact EvtE.ret ⟨_, rfl⟩
  ·exact stop i hge h
theorem t16 {a : Option Addr} {n c : Nat} (hK : IsH SK a n) : EvE (fs SK) 16 [.d (.v (.slice a n c))] fun o => ∃ h, o = ⟨.p (CR a n c 0 h), []⟩ := by
 refine EvE.of (af := a16) rfl rfl (EvtE.congr (fun d n => a16q ..) ?_)
 refine eve_aft (L := fun d m => l16x0 (TabD (fs SK) d) d m [.v (.slice a n c), .v (.int .i64 (IntKind.wrap .i64 (138138 + (n : Int)))), .v (.int .i64 0)]) (new_loop hK n 0 (by omega) _) ?_
 rintro y ⟨h, rfl⟩
 simp -implicitDefEqProofs only [rdl, Ex.same, Nat.beq]
 exact EvtE.ret ⟨_, rfl⟩
end Go.Am.Fm
