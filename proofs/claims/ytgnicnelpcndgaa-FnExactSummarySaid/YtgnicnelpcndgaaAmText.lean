/- AM: numbers as text; loops that gather. Nothing is assumed. -/
import Derived.Test.YtgnicnelpcndgaaAmConv
set_option linter.unusedVariables false
set_option linter.unusedSimpArgs false
namespace Go.Am
def one (c : Nat) : ByteArray := ⟨#[UInt8.ofNat c]⟩
def dg (n : Nat) : ByteArray := if n < 10 then one (48 + n) else dg (n / 10) ++ one (48 + n % 10)
def decS (n : Int) : ByteArray := if n < 0 then one 45 ++ dg n.natAbs else dg n.natAbs
theorem dg_small {n : Nat} (h : n < 10) : dg n = one (48 + n) := by rw [dg]; simp [h]
theorem dg_big {n : Nat} (h : 10 ≤ n) : dg n = dg (n / 10) ++ one (48 + n % 10) := by
  rw [dg]
  have : ¬ n < 10 := by omega
  simp [this]
theorem one_size (c : Nat) : (one c).size = 1 := rfl
theorem dg_size : ∀ (k n : Nat), n < 10 ^ k → (dg n).size ≤ k + 1 := by
  intro k
  induction k with
  | zero => intro n h; rw [dg_small (by simp at h; omega), one_size]; omega
  | succ k ih =>
    intro n h
    rcases Nat.lt_or_ge n 10 with h1 | h1
    · rw [dg_small h1, one_size]; omega
    · rw [dg_big h1, ByteArray.size_append, one_size]
      have := ih (n / 10) (by rw [Nat.pow_succ] at h; omega)
      omega
theorem decS_size {n : Int} (h0 : IntKind.i64.min ≤ n) (h1 : n ≤ IntKind.i64.max) : (decS n).size ≤ 30 := by
  have : n.natAbs < 10 ^ 20 := by simp only [IntKind.min, IntKind.max, IntKind.signed, IntKind.bits] at h0 h1; simp at h0 h1; omega
  have := dg_size 20 _ this
  unfold decS
  split
  · rw [ByteArray.size_append, one_size]; omega
  · omega
theorem wrap_u64 {n : Int} (h0 : 0 ≤ n) (h1 : n < 2 ^ 64) : IntKind.u64.wrap n = n := by
  simp only [IntKind.wrap, IntKind.signed, IntKind.bits]
  simp
  omega
theorem wrap_u8 {n : Int} (h0 : 0 ≤ n) (h1 : n < 256) : IntKind.u8.wrap n = n := by
  simp only [IntKind.wrap, IntKind.signed, IntKind.bits]
  simp
  omega
theorem wrap_i32 {n : Int} (h0 : 0 ≤ n) (h1 : n < 2147483648) : IntKind.i32.wrap n = n := by
  simp only [IntKind.wrap, IntKind.signed, IntKind.bits]
  simp
  omega
theorem wrap_i64 {n : Int} (h0 : -9223372036854775808 ≤ n) (h1 : n ≤ 9223372036854775807) : IntKind.i64.wrap n = n := by
  simp only [IntKind.wrap, IntKind.signed, IntKind.bits]
  rcases Int.lt_or_le n 0 with h | h
  · have : n % 2 ^ 64 = n + 2 ^ 64 := by omega
    simp
    omega
  · have : n % 2 ^ 64 = n := by omega
    simp
    omega
theorem bytes_one {c : Nat} : bytesOfRows ([[(.v (.int .u8 (c : Int)))]] : Rows) = one c := by
  simp [bytesOfRows, byteOfRow, one]
theorem enc_one {c : Nat} (h : c < 128) : Utf8.encode (c : Int) = one c := by
  have hv : Utf8.valid (c : Int) = true := by simp [Utf8.valid]; omega
  unfold Utf8.encode
  simp [one, hv, h]
theorem all_one {c : Nat} : allBytes ([[(.v (.int .u8 (c : Int)))]] : Rows) = true := by simp [allBytes, byteOfRow]
/-- A digit, as the two programs write it. -/
theorem dig_u8 {m : Nat} (h : m < 10) : IntKind.u8.wrap (IntKind.u64.wrap (48 + (m : Int))) = ((48 + m : Nat) : Int) := by
  rw [wrap_u64 (by omega) (by omega), wrap_u8 (by omega) (by omega)]
  omega
theorem dig_i32 {m : Nat} (h : m < 10) : IntKind.i32.wrap (IntKind.i64.wrap (48 + (m : Int))) = ((48 + m : Nat) : Int) := by
  rw [wrap_i64 (by omega) (by omega), wrap_i32 (by omega) (by omega)]
  omega
theorem sz_le {x y : ByteArray} {n : Nat} (h : x.size + y.size ≤ n) : decide (x.size + y.size ≤ n) = true := decide_eq_true h
/-! ### loops that gather -/
theorem fold_loop {σ : Type} {L : Nat → Nat → σ → Int → Option (Ex × List AV)} {a : Rows} {f : σ → Row → σ} {Y : σ → Ex × List AV} (Inv : Nat → σ → Prop)
    (hend : ∀ d n acc, L d (n + 1) acc (a.length : Int) = some (Y acc))
    (hstep : ∀ (i : Nat) (x : Row) (acc : σ) (res : Ex × List AV), i < a.length → a[i]? = some x → Inv i acc → Evt (fun d n => L d n (f acc x) ((i + 1 : Nat) : Int)) res → Evt (fun d n => L d (n + 1) acc (i : Int)) res)
    (hinv : ∀ (i : Nat) (x : Row) (acc : σ), i < a.length → a[i]? = some x → Inv i acc → Inv (i + 1) (f acc x)) {acc : σ} (h0 : Inv 0 acc) : Evt (fun d n => L d n acc 0) (Y (a.foldl f acc)) ∧ Inv a.length (a.foldl f acc) := by
  have key : ∀ (k i : Nat), a.length - i = k → i ≤ a.length → ∀ acc, Inv i acc → Evt (fun d n => L d n acc (i : Int)) (Y ((a.drop i).foldl f acc)) ∧ Inv a.length ((a.drop i).foldl f acc) := by
    intro k
    induction k with
    | zero =>
      intro i hk hi acc hI
      have : i = a.length := by omega
      subst this
      rw [List.drop_length]
      exact ⟨ev_succ ⟨0, fun d n _ _ => hend d n acc⟩, hI⟩
    | succ k ih =>
      intro i hk hi acc hI
      have hlt : i < a.length := by omega
      have hx := List.getElem?_eq_getElem hlt
      rw [List.drop_eq_getElem_cons hlt, List.foldl_cons]
      obtain ⟨h1, h2⟩ := ih (i + 1) (by omega) (by omega) _ (hinv i _ acc hlt hx hI)
      exact ⟨ev_succ (hstep i _ acc _ hlt hx hI h1), h2⟩
  simpa using key a.length 0 (by omega) (by omega) acc h0
end Go.Am
