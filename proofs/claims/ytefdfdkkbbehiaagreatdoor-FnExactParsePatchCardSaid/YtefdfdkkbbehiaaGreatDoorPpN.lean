/- strings.IndexAny at `,]}`, whatever the text: the library's own text walked; its callees by their contracts. Nothing is assumed. -/
import Derived.Test.YtefdfdkkbbehiaaGreatDoorProg
import Derived.Test.YtefdfdkkbbehiaaGreatDoorPpF
import Derived.Test.YtefdfdkkbbehiaaGreatDoorAmG
import Derived.WalkKit
import Derived.WalkSpells
import Derived.WalkLawsBesides
import Derived.Laws.RangeAny
import Derived.Deep.RegionWith
import Derived.Lib.OthersKept
import Derived.Deep.LoopGhost
set_option linter.unusedVariables false
set_option linter.unusedSimpArgs false
namespace Go.Proofs.YtefdfdkkbbehiaaGreatDoor
open Go.RowKit
set_option maxHeartbeats 1000000 in
set_option maxRecDepth 100000 in
theorem rune_err (w : World) :
  Calls Tryz.prog 165 #[.string ⟨#[44, 93, 125]⟩, .int .i32 65533] w fun e w' => e = .returned (.int .i64 (-1)) ∧ ∃ pos, w' = w.iter ⟨#[44, 93, 125]⟩ pos := by
 go_enter Tryz.func165, Tryz.ntmps165
 go_wp2
 go_loopg [5, 6] 3 (fun g _ _ wx => ∃ i : Nat, i + g = 3 ∧ wx = w.iter ⟨#[44, 93, 125]⟩ i)
 case atStart => exact ⟨0, by omega, rfl⟩
 case round =>
  obtain ⟨i, hig, rfl⟩ := hrel
  cases gk with
  | zero =>
   obtain rfl : i = 3 := by omega
   have hnx := run_next_end (P := Tryz.prog) w ⟨#[44, 93, 125]⟩ 3
   go_wp2
   go_ret
   exact ⟨rfl, _, rfl⟩
  | succ g =>
   have h3 : i = 0 ∨ i = 1 ∨ i = 2 := by omega
   rcases h3 with rfl | rfl | rfl
   ·have hnx := fun ty => run_next_ascii (P := Tryz.prog) w ⟨#[44, 93, 125]⟩ 0 ty (by decide) (by decide)
    go_wp2
    go_roundg g
    case measure => omega
    case rel => exact ⟨_, by omega, rfl⟩
   ·have hnx := fun ty => run_next_ascii (P := Tryz.prog) w ⟨#[44, 93, 125]⟩ 1 ty (by decide) (by decide)
    go_wp2
    go_roundg g
    case measure => omega
    case rel => exact ⟨_, by omega, rfl⟩
   ·have hnx := fun ty => run_next_ascii (P := Tryz.prog) w ⟨#[44, 93, 125]⟩ 2 ty (by decide) (by decide)
    go_wp2
    go_roundg g
    case measure => omega
    case rel => exact ⟨_, by omega, rfl⟩
set_option maxHeartbeats 1000000 in
set_option maxRecDepth 100000 in
theorem rune_2 (r : Int) (hr : 128 ≤ r) (hne : r ≠ 65533) (hv : Lib.validRune r = true) (h2 : (Utf8.encode r).size = 2) (hh : ∀ (j : Nat) (h : j < (Utf8.encode r).size), 128 ≤ ((Utf8.encode r)[j]'h).toNat) (w : World) :
  Calls Tryz.prog 165 #[.string ⟨#[44, 93, 125]⟩, .int .i32 r] w fun e w' => e = .returned (.int .i64 (-1)) ∧ Below w.heap.size w w' := by
 have h1 : decide (0 ≤ r) = true := decide_eq_true (by omega)
 have h2' : decide (r < 128) = false := decide_eq_false (by omega)
 have h3 : (r == 65533) = false := by simpa using hne
 have hw : wrap64 (((Utf8.encode r).size : Int) - 1) = 1 := by rw [h2]; simp [wrap64]
 have hb := hh 1 (by omega)
 clear hh
 obtain ⟨e, he⟩ : ∃ e, Utf8.encode r = e := ⟨_, rfl⟩
 rw [he] at h2 hw
 simp only [he] at hb
 have hl : decide ((1 : Int) < (e.size : Int)) = true := decide_eq_true (by omega)
 have hne1 : (((({ data := #[44, 93, 125] } : ByteArray)[1]'(by decide)).toNat : Int) != ((e[1]'(by omega)).toNat : Int)) = true := by
  have : (({ data := #[44, 93, 125] } : ByteArray)[1]'(by decide)).toNat = 93 := rfl
  rw [this]
  simp
  omega
 have hix : Lib.indexByte [125] (e[1]'(by omega)) = -1 := by
  have : ∀ x : UInt8, 128 ≤ x.toNat → Lib.indexByte [125] x = -1 := fun x hx => by
   have h : ((125 : UInt8) == x) = false := beq_eq_false_iff_ne.2 (by rintro rfl; simp at hx)
   simp [Lib.indexByte, h]
  exact this _ hb
 go_enter Tryz.func165, Tryz.ntmps165
 go_wp2_with (go_at_call 175; refine (Tryz.utf8_ValidRune _ _).mono ?_; rintro e w' ⟨rfl, hw⟩; rw [hw])
 go_step3
 go_wp2_with fail
 go_loopg [9, 10] 1 (fun g s9 s10 wx => s9 = .int .i64 1 ∧ wx = w)
 case atStart => exact ⟨rfl, rfl⟩
 case round =>
  obtain ⟨rfl, rfl⟩ := hrel
  go_wp2_with fail
  go_step3
  go_wp2_with fail
  go_region
  go_wp2_with fail
  go_region_with (go_at_call 174; refine (Tryz.strings_IndexByte _ _ _).mono ?_; rintro e' w' ⟨rfl, hw⟩; rw [hw])
  all_goals go_wp2_with fail
  all_goals (simp only [Exit.noGoto_ret, Exit.inBlock, Exit.then]; go_ret; exact ⟨rfl, by repeat (first | exact Below.refl _ _ | refine Below.drew ?_)⟩)
set_option maxHeartbeats 1000000 in
set_option maxRecDepth 100000 in
theorem rune_3 (r : Int) (hr : 128 ≤ r) (hne : r ≠ 65533) (hv : Lib.validRune r = true) (h2 : (Utf8.encode r).size = 3) (hh : ∀ (j : Nat) (h : j < (Utf8.encode r).size), 128 ≤ ((Utf8.encode r)[j]'h).toNat) (w : World) :
  Calls Tryz.prog 165 #[.string ⟨#[44, 93, 125]⟩, .int .i32 r] w fun e w' => e = .returned (.int .i64 (-1)) ∧ Below w.heap.size w w' := by
 have h1 : decide (0 ≤ r) = true := decide_eq_true (by omega)
 have h2' : decide (r < 128) = false := decide_eq_false (by omega)
 have h3 : (r == 65533) = false := by simpa using hne
 have hw : wrap64 (((Utf8.encode r).size : Int) - 1) = 2 := by rw [h2]; simp [wrap64]
 have hb := hh 2 (by omega)
 clear hh
 obtain ⟨e, he⟩ : ∃ e, Utf8.encode r = e := ⟨_, rfl⟩
 rw [he] at h2 hw
 simp only [he] at hb
 have hl : decide ((2 : Int) < (e.size : Int)) = true := decide_eq_true (by omega)
 have hne1 : (((({ data := #[44, 93, 125] } : ByteArray)[2]'(by decide)).toNat : Int) != ((e[2]'(by omega)).toNat : Int)) = true := by
  have : (({ data := #[44, 93, 125] } : ByteArray)[2]'(by decide)).toNat = 125 := rfl
  rw [this]
  simp
  omega
 have hix : Lib.indexByte [] (e[2]'(by omega)) = -1 := by
  have : ∀ x : UInt8, 128 ≤ x.toNat → Lib.indexByte [] x = -1 := fun x hx => by
   have h : ((125 : UInt8) == x) = false := beq_eq_false_iff_ne.2 (by rintro rfl; simp at hx)
   simp [Lib.indexByte, h]
  exact this _ hb
 go_enter Tryz.func165, Tryz.ntmps165
 go_wp2_with (go_at_call 175; refine (Tryz.utf8_ValidRune _ _).mono ?_; rintro e w' ⟨rfl, hw⟩; rw [hw])
 go_step3
 go_wp2_with fail
 go_loopg [9, 10] 1 (fun g s9 s10 wx => s9 = .int .i64 2 ∧ wx = w)
 case atStart => exact ⟨rfl, rfl⟩
 case round =>
  obtain ⟨rfl, rfl⟩ := hrel
  go_wp2_with fail
  go_step3
  go_wp2_with fail
  go_region
  go_wp2_with fail
  go_region_with (go_at_call 174; refine (Tryz.strings_IndexByte _ _ _).mono ?_; rintro e' w' ⟨rfl, hw⟩; rw [hw])
  all_goals go_wp2_with fail
  all_goals (simp only [Exit.noGoto_ret, Exit.inBlock, Exit.then]; go_ret; exact ⟨rfl, by repeat (first | exact Below.refl _ _ | refine Below.drew ?_)⟩)
set_option maxHeartbeats 1000000 in
set_option maxRecDepth 100000 in
theorem rune_4 (r : Int) (hr : 128 ≤ r) (hne : r ≠ 65533) (hv : Lib.validRune r = true) (h2 : (Utf8.encode r).size = 4) (hh : ∀ (j : Nat) (h : j < (Utf8.encode r).size), 128 ≤ ((Utf8.encode r)[j]'h).toNat) (w : World) :
  Calls Tryz.prog 165 #[.string ⟨#[44, 93, 125]⟩, .int .i32 r] w fun e w' => e = .returned (.int .i64 (-1)) ∧ Below w.heap.size w w' := by
 have h1 : decide (0 ≤ r) = true := decide_eq_true (by omega)
 have h2' : decide (r < 128) = false := decide_eq_false (by omega)
 have h3 : (r == 65533) = false := by simpa using hne
 have hw : wrap64 (((Utf8.encode r).size : Int) - 1) = 3 := by rw [h2]; simp [wrap64]
 have hb := hh 3 (by omega)
 clear hh
 obtain ⟨e, he⟩ : ∃ e, Utf8.encode r = e := ⟨_, rfl⟩
 rw [he] at h2 hw
 simp only [he] at hb
 go_enter Tryz.func165, Tryz.ntmps165
 go_wp2_with (go_at_call 175; refine (Tryz.utf8_ValidRune _ _).mono ?_; rintro e w' ⟨rfl, hw⟩; rw [hw])
 go_step3
 go_wp2_with fail
 go_loopg [9, 10] 1 (fun g s9 s10 wx => s9 = .int .i64 3 ∧ wx = w)
 case atStart => exact ⟨rfl, rfl⟩
 case round =>
  obtain ⟨rfl, rfl⟩ := hrel
  go_wp2_with fail
  all_goals (simp only [Exit.noGoto_ret, Exit.inBlock, Exit.then]; go_ret; exact ⟨rfl, by repeat (first | exact Below.refl _ _ | refine Below.drew ?_)⟩)
theorem byte_hi {a : Nat} (h1 : 128 ≤ a) (h2 : a < 256) : 128 ≤ (UInt8.ofNat a).toNat := by
 simp
 omega
theorem enc_high {r : Int} (hr : 128 ≤ r) (hv : Lib.validRune r = true) : ((Utf8.encode r).size = 2 ∨ (Utf8.encode r).size = 3 ∨ (Utf8.encode r).size = 4) ∧ ∀ (j : Nat) (h : j < (Utf8.encode r).size), 128 ≤ ((Utf8.encode r)[j]'h).toNat := by
 simp only [Lib.validRune, decide_eq_true_eq] at hv
 have hval : Utf8.valid r = true := by
  simp only [Utf8.valid, Bool.or_eq_true, Bool.and_eq_true, decide_eq_true_eq]
  omega
 obtain ⟨c, rfl⟩ : ∃ c : Nat, r = (c : Int) := ⟨r.toNat, by omega⟩
 have hc0 : ¬ c < 128 := by omega
 have hlist : ∀ l : List UInt8, (∀ b ∈ l, 128 ≤ b.toNat) → ∀ (j : Nat) (h : j < (⟨l.toArray⟩ : ByteArray).size), 128 ≤ ((⟨l.toArray⟩ : ByteArray)[j]'h).toNat := fun l hl j h => by
  have : (⟨l.toArray⟩ : ByteArray)[j]'h = l[j]'(by simpa [ByteArray.size] using h) := rfl
  rw [this]
  exact hl _ (List.getElem_mem _)
 by_cases h1 : c < 2048
 ·have e : Utf8.encode (c : Int) = ⟨[UInt8.ofNat (0xC0 + c / 64), UInt8.ofNat (0x80 + c % 64)].toArray⟩ := by simp [Utf8.encode, hval, hc0, h1]
  rw [e]
  refine ⟨.inl rfl, hlist _ fun b hb => ?_⟩
  simp only [List.mem_cons, List.not_mem_nil, or_false] at hb
  rcases hb with rfl | rfl
  ·exact byte_hi (by omega) (by omega)
  ·exact byte_hi (by omega) (by omega)
 ·by_cases h2 : c < 65536
  ·have e : Utf8.encode (c : Int) = ⟨[UInt8.ofNat (0xE0 + c / 4096), UInt8.ofNat (0x80 + c / 64 % 64), UInt8.ofNat (0x80 + c % 64)].toArray⟩ := by simp [Utf8.encode, hval, hc0, h1, h2]
   rw [e]
   refine ⟨.inr (.inl rfl), hlist _ fun b hb => ?_⟩
   simp only [List.mem_cons, List.not_mem_nil, or_false] at hb
   rcases hb with rfl | rfl | rfl
   ·exact byte_hi (by omega) (by omega)
   ·exact byte_hi (by omega) (by omega)
   ·exact byte_hi (by omega) (by omega)
  ·have e : Utf8.encode (c : Int) = ⟨[UInt8.ofNat (0xF0 + c / 262144), UInt8.ofNat (0x80 + c / 4096 % 64), UInt8.ofNat (0x80 + c / 64 % 64), UInt8.ofNat (0x80 + c % 64)].toArray⟩ := by simp [Utf8.encode, hval, hc0, h1, h2]
   rw [e]
   refine ⟨.inr (.inr rfl), hlist _ fun b hb => ?_⟩
   simp only [List.mem_cons, List.not_mem_nil, or_false] at hb
   rcases hb with rfl | rfl | rfl | rfl
   ·exact byte_hi (by omega) (by omega)
   ·exact byte_hi (by omega) (by omega)
   ·exact byte_hi (by omega) (by omega)
   ·exact byte_hi (by omega) (by omega)
theorem below_iter {w : World} {s : ByteArray} {pos : Nat} : Below w.heap.size w (w.iter s pos) := (Below.refl _ w).alloc (Nat.le_refl _) _
set_option maxHeartbeats 1000000 in
set_option maxRecDepth 100000 in
theorem rune_bad (r : Int) (hr : 128 ≤ r) (hne : r ≠ 65533) (hv : Lib.validRune r = false) (w : World) :
  Calls Tryz.prog 165 #[.string ⟨#[44, 93, 125]⟩, .int .i32 r] w fun e w' => e = .returned (.int .i64 (-1)) ∧ Below w.heap.size w w' := by
 have h1 : decide (0 ≤ r) = true := decide_eq_true (by omega)
 have h2' : decide (r < 128) = false := decide_eq_false (by omega)
 have h3 : (r == 65533) = false := by simpa using hne
 go_enter Tryz.func165, Tryz.ntmps165
 go_wp2_with (go_at_call 175; refine (Tryz.utf8_ValidRune _ _).mono ?_; rintro e w' ⟨rfl, hw⟩; rw [hw, hv])
 go_ret
 exact ⟨rfl, Below.refl _ _⟩
theorem rune_high (r : Int) (hr : 128 ≤ r) (w : World) :
  Calls Tryz.prog 165 #[.string ⟨#[44, 93, 125]⟩, .int .i32 r] w fun e w' => e = .returned (.int .i64 (-1)) ∧ Below w.heap.size w w' := by
 by_cases hne : r = 65533
 ·subst hne
  exact (rune_err w).mono fun e w' ⟨h1, pos, h2⟩ => ⟨h1, h2 ▸ below_iter⟩
 ·cases hv : Lib.validRune r with
  | false => exact rune_bad r hr hne hv w
  | true =>
   obtain ⟨h1, h2⟩ := enc_high hr hv
   rcases h1 with h | h | h
   ·exact rune_2 r hr hne hv h h2 w
   ·exact rune_3 r hr hne hv h h2 w
   ·exact rune_4 r hr hne hv h h2 w
set_option maxHeartbeats 1000000 in
set_option maxRecDepth 100000 in
theorem any_short (s : ByteArray) (h8 : s.size ≤ 8) (w : World) :
  Calls Tryz.prog 153 #[.string s, .string ⟨#[44, 93, 125]⟩] w fun e w' => e = .returned (.int .i64 (Go.Am.scan s s.size 0)) ∧ Below w.heap.size w w' := by
 have h8z : decide ((8 : Int) < (s.size : Int)) = false := decide_eq_false (by omega)
 go_enter Tryz.func153, Tryz.ntmps153
 go_wp2_with (go_at_call 166; refine (Tryz.strings_shouldUseASCIISet _ _).mono ?_; rintro e w' ⟨rfl, hw⟩; rw [hw, h8z])
 go_loopg [9, 10] s.size (fun g _ _ wx => ∃ pos : Nat, wx.heap[w.heap.size]? = some (.stringIter s pos) ∧ Hid (Below w.heap.size w wx) ∧ Hid (Go.Am.scan s g pos = Go.Am.scan s s.size 0) ∧ s.size ≤ pos + g)
 case atStart => exact ⟨0, World.iter_heap w s 0, below_iter, rfl, by omega⟩
 case round =>
  obtain ⟨pos, hit, HB, HS, hfu⟩ := hrel
  have hsz : w.heap.size < wr.heap.size := (Array.getElem?_eq_some_iff.1 hit).1
  by_cases hp : pos < s.size
  ·cases gk with
   | zero => omega
   | succ g =>
    have hnx : ∀ ty, (Instr.next (.pointer (some ⟨w.heap.size, 0, none⟩)) true ty).run Tryz.prog wr = _ := fun ty => Lib.run_next_any_at wr w.heap.size s pos ty hit hp
    have hd1 := decode_le s pos
    have hw1 : 1 ≤ (Utf8.decode s pos).2 := by
     by_cases hlt : (s[pos]'hp).toNat < 128
     ·have hg := get_at s pos hp
      simp only [Nat.add_zero] at hg
      simp [Utf8.decode, hg, hlt]
     ·exact (decode_high s pos hp (by omega)).2
    have hit2 := Lib.iterAt_heap wr w.heap.size s pos (pos + (Utf8.decode s pos).2) hit
    have hbw2 := Lib.below_iterAt HB.out (k := w.heap.size) (Nat.le_refl _) s (pos + (Utf8.decode s pos).2)
    have hsz2 : w.heap.size < (wr.iterAt w.heap.size s (pos + (Utf8.decode s pos).2)).heap.size := by rw [Lib.iterAt_size]; omega
    have hs := HS.out
    simp only [Go.Am.scan, hp, if_true] at hs
    obtain ⟨d, hd⟩ : ∃ d, (Utf8.decode s pos).1 = d := ⟨_, rfl⟩
    obtain ⟨v, hv⟩ : ∃ v, (Utf8.decode s pos).2 = v := ⟨_, rfl⟩
    simp only [hd, hv] at hnx hd1 hw1 hit2 hbw2 hsz2 hs
    clear HB HS hd hv
    have H2 : Hid (Below w.heap.size w (wr.iterAt w.heap.size s (pos + v))) := hbw2
    have I2 : Hid ((wr.iterAt w.heap.size s (pos + v)).heap[w.heap.size]? = some (.stringIter s (pos + v))) := hit2
    clear hbw2 hit2
    generalize hW : wr.iterAt w.heap.size s (pos + v) = W at hnx H2 I2 hsz2
    by_cases hlt : d < 128
    ·have hback : ((d : Int)).toNat.toUInt8 = UInt8.ofNat d := by simp
     by_cases hin : 0 ≤ Lib.indexByte [44, 93, 125] (UInt8.ofNat d)
     ·rw [if_pos ⟨hlt, hin⟩] at hs
      have HS : Hid ((pos : Int) = Go.Am.scan s s.size 0) := hs
      clear hs
      go_wp2_with (go_at_call 165; refine (Tryz.strings_IndexRune_ascii _ _ _ (by omega) (by omega)).mono ?_; rintro e w' ⟨rfl, hw⟩; rw [hw, hback])
      go_ret
      exact ⟨by rw [← HS.out]; rfl, H2.out⟩
     ·rw [if_neg fun h => hin h.2] at hs
      have HS : Hid (Go.Am.scan s g (pos + v) = Go.Am.scan s s.size 0) := hs
      clear hs
      go_wp2_with (go_at_call 165; refine (Tryz.strings_IndexRune_ascii _ _ _ (by omega) (by omega)).mono ?_; rintro e w' ⟨rfl, hw⟩; rw [hw, hback])
      go_roundg g
      case measure => omega
      case rel => exact ⟨pos + v, I2.out, H2.out, HS.out, by omega⟩
    ·rw [if_neg fun h => hlt h.1] at hs
     have HS : Hid (Go.Am.scan s g (pos + v) = Go.Am.scan s s.size 0) := hs
     clear hs
     go_wp2_with (go_at_call 165; refine (rune_high _ (by omega) _).mono ?_; rintro e W1 ⟨rfl, hb1⟩)
     have hI : W1.heap[w.heap.size]? = some (.stringIter s (pos + v)) := (hb1.block _ hsz2).trans I2.out
     have hB : Below w.heap.size w W1 := H2.out.trans (hb1.mono (by omega))
     have I3 : Hid (W1.heap[w.heap.size]? = some (.stringIter s (pos + v))) := hI
     have H3 : Hid (Below w.heap.size w W1) := hB
     clear hI hB hb1
     go_wp2
     go_roundg g
     case measure => omega
     case rel => exact ⟨pos + v, I3.out, H3.out, HS.out, by omega⟩
  ·have hnx : ∀ ty, (Instr.next (.pointer (some ⟨w.heap.size, 0, none⟩)) true ty).run Tryz.prog wr = _ := fun ty => Lib.run_next_end_at wr w.heap.size s pos ty hit hp
   have hs : Go.Am.scan s gk pos = -1 := by cases gk <;> simp [Go.Am.scan, hp]
   rw [hs] at HS
   go_wp2
   go_ret
   exact ⟨by rw [← HS.out]; rfl, HB.out⟩
theorem any_three (s : ByteArray) (w : World) (hs : s.size < 4294967281) :
  Calls Tryz.prog 153 #[.string s, .string ⟨#[44, 93, 125]⟩] w fun e w' => e = .returned (.int .i64 (Go.Am.anyIx s)) ∧ Below w.heap.size w w' := by
 have hac : ∀ (j : Nat) b, (⟨#[44, 93, 125]⟩ : ByteArray).data.toList[j]? = some b → b.toNat < 128 := fun j b hj => by
  have hm : b ∈ [44, 93, 125] := List.mem_of_getElem? hj
  simp only [List.mem_cons, List.not_mem_nil, or_false] at hm
  rcases hm with rfl | rfl | rfl <;> decide
 unfold Go.Am.anyIx
 cases ha : Go.Am.asciiB s with
 | true =>
  have has : ∀ (j : Nat) b, s.data.toList[j]? = some b → b.toNat < 128 := fun j b hj => by
   have := List.all_eq_true.1 ha b (List.mem_of_getElem? hj)
   simpa using this
  exact Tryz.strings_IndexAny_laid s ⟨#[44, 93, 125]⟩ w hs (by decide) has hac
 | false =>
  by_cases h8 : 8 < s.size
  ·have e : (false || decide (8 < s.size)) = true := by simp [h8]
   rw [e]
   refine (Tryz.strings_IndexAny_long (zero_of_info (n := 256) (by kernel_rfl)).1 s ⟨#[44, 93, 125]⟩ w (by decide) h8 hs (by decide) hac).mono fun e w' ⟨h1, h2⟩ => ⟨h1, h2 ▸ ?_⟩
   exact ((Below.refl _ w).alloc (Nat.le_refl _) _).alloc (by simp) _
  ·have e : (false || decide (8 < s.size)) = false := by simp [h8]
   rw [e]
   exact any_short s (by omega) w
theorem any_colon (s : ByteArray) (w : World) : Calls Tryz.prog 153 #[.string s, .string ⟨#[58]⟩] w fun e w' => e = .returned (.int .i64 (Lib.indexAny s.data.toList [58])) ∧ w' = w :=
 Tryz.strings_IndexAny_one s ⟨#[58]⟩ w rfl fun j b hj => by
  have hm : b ∈ [58] := List.mem_of_getElem? hj
  simp only [List.mem_cons, List.not_mem_nil, or_false] at hm
  subst hm
  decide
end Go.Proofs.YtefdfdkkbbehiaaGreatDoor
