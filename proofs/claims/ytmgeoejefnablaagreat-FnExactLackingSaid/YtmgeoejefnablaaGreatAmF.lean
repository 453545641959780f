/- The abstract machine AM, part F: what it computes keeps the contracts of the program. Nothing is assumed. -/
import Derived.Test.YtmgeoejefnablaaGreatAmE
import Derived.Sort.AssemblyPlain
set_option linter.unusedVariables false
set_option linter.unusedSimpArgs false
/- AM: the library's unstable sort: its steps keep what there is; numbers of 64 bits. Nothing is assumed. -/
set_option linter.unusedSimpArgs false
set_option linter.unusedVariables false
namespace Go.Am
section
variable {E : TypeId → List Sh} {e : TypeId} {lt : Row → Row → Bool}
theorem arr_at {d : Array Row} {i : Nat} (h : i < d.size) : d.toList[i]? = some d[i]! := by
  rw [getElem!_pos d i h, List.getElem?_eq_getElem (by simpa using h)]
  simp
theorem swp_list {d : Array Row} {i j : Nat} : (Sort.swp d i j).toList = (d.toList.set i d[j]!).set j d[i]! := by
  unfold Sort.swp
  simp
/-- As many, and none but what there was. -/
def Like (d d' : Array Row) : Prop := d'.size = d.size ∧ ∀ x ∈ d'.toList, x ∈ d.toList
theorem Like.refl (d : Array Row) : Like d d := ⟨rfl, fun _ h => h⟩
theorem Like.trans {a b c : Array Row} (h : Like a b) (g : Like b c) : Like a c := ⟨g.1.trans h.1, fun x hx => h.2 x (g.2 x hx)⟩
theorem arr_mem {d : Array Row} {i : Nat} (h : i < d.size) : d[i]! ∈ d.toList := List.mem_of_getElem? (arr_at h)
theorem Like.swp {d : Array Row} {i j : Nat} (hi : i < d.size) (hj : j < d.size) : Like d (Sort.swp d i j) := by
  refine ⟨Sort.size_swp d i j, fun x hx => ?_⟩
  rw [swp_list] at hx
  rcases List.mem_or_eq_of_mem_set hx with h | h
  · rcases List.mem_or_eq_of_mem_set h with h | h
    · exact h
    · rw [h]; exact arr_mem hj
  · rw [h]; exact arr_mem hi
theorem Like.sl {d d' : Array Row} (h : Like d d') (hs : SL E e d.toList) : SL E e d'.toList := hs.perm (by simpa using h.1) h.2
theorem Like.perm {d d' : Array Row} {a b : Nat} (hb : b ≤ d.size) (h : Sort.PermIn a b d d') : Like d d' := by
  refine ⟨h.1, fun x hx => ?_⟩
  have key := Sort.permIn_all d d' a b (fun x => x ∈ d.toList) hb h (fun i _ h2 => arr_mem (by omega))
  obtain ⟨i, hi, rfl⟩ := List.getElem_of_mem hx
  have hi' : i < d'.size := by simpa using hi
  have : d'.toList[i] = d'[i]! := by simp [getElem!_pos d' i hi']
  rw [this]
  by_cases h1 : a ≤ i ∧ i < b
  · exact key i h1.1 h1.2
  · rw [h.2.1 i (by omega)]
    exact arr_mem (by have := h.1; omega)
theorem insInner_like (a : Nat) : ∀ (j : Nat) (d : Array Row), j < d.size → Like d (Sort.insInner lt a j d)
  | 0, d, _ => Like.refl d
  | j + 1, d, h => by
    unfold Sort.insInner
    split
    · have h1 := Like.swp (d := d) (i := j + 1) (j := j) h (by omega)
      exact h1.trans (insInner_like a j _ (by rw [h1.1]; omega))
    · exact Like.refl d
theorem siftDown_like (hi first : Nat) : ∀ (n root : Nat) (d : Array Row), hi - root ≤ n → first + hi ≤ d.size → Like d (Sort.siftDown lt hi first root d) := by
  intro n
  induction n with
  | zero =>
    intro root d h1 h2
    rw [Sort.siftDown, dif_pos (by omega)]
    exact Like.refl d
  | succ n ih =>
    intro root d h1 h2
    rw [Sort.siftDown]
    split
    · exact Like.refl d
    · split
      · split
        · exact Like.refl d
        · split
          · have h3 := Like.swp (d := d) (i := first + root) (j := first + (2 * root + 2)) (by omega) (by omega)
            exact h3.trans (ih _ _ (by omega) (by rw [h3.1]; omega))
          · exact Like.refl d
      · split
        · exact Like.refl d
        · have h3 := Like.swp (d := d) (i := first + root) (j := first + (2 * root + 1)) (by omega) (by omega)
          exact h3.trans (ih _ _ (by omega) (by rw [h3.1]; omega))
theorem heapBuild_like (hi first : Nat) : ∀ (k : Nat) (d : Array Row), first + hi ≤ d.size → Like d (Sort.heapBuild lt hi first k d)
  | 0, d, _ => Like.refl d
  | k + 1, d, h => by
    have h1 := siftDown_like (lt := lt) hi first _ k d (Nat.le_refl _) h
    exact h1.trans (heapBuild_like hi first k _ (by rw [h1.1]; omega))
theorem shiftDown_like : ∀ (j : Nat) (d : Array Row), j < d.size → Like d (Sort.shiftDown lt j d)
  | 0, d, _ => Like.refl d
  | j + 1, d, h => by
    unfold Sort.shiftDown
    split
    · exact Like.refl d
    · have h1 := Like.swp (d := d) (i := j + 1) (j := j) h (by omega)
      exact h1.trans (shiftDown_like j _ (by rw [h1.1]; omega))
theorem shiftUp_like (b : Nat) : ∀ (n j : Nat) (d : Array Row), b - j ≤ n → b ≤ d.size → Like d (Sort.shiftUp lt b j d) := by
  intro n
  induction n with
  | zero =>
    intro j d h1 h2
    rw [Sort.shiftUp, if_neg (by omega)]
    exact Like.refl d
  | succ n ih =>
    intro j d h1 h2
    rw [Sort.shiftUp]
    split
    · split
      · exact Like.refl d
      · have h3 := Like.swp (d := d) (i := j) (j := j - 1) (by omega) (by omega)
        exact h3.trans (ih _ _ (by omega) (by rw [h3.1]; omega))
    · exact Like.refl d
theorem partLoop_like (a : Nat) : ∀ (n i j : Nat) (d : Array Row), j + 1 - i ≤ n → j < d.size → Like d (Sort.partLoop lt a i j d).2 := by
  intro n
  induction n with
  | zero =>
    intro i j d h1 h2
    rw [Sort.partLoop_eq]
    have g1 := Sort.scanUp_ge (fun x => lt x d[a]!) d j i
    have g2 := Sort.scanDown_le (fun x => !lt x d[a]!) d (Sort.scanUp (fun x => lt x d[a]!) d j i) j
    rw [if_pos (by omega)]
    exact Like.refl d
  | succ n ih =>
    intro i j d h1 h2
    rw [Sort.partLoop_eq]
    have g1 := Sort.scanUp_ge (fun x => lt x d[a]!) d j i
    have g2 := Sort.scanDown_le (fun x => !lt x d[a]!) d (Sort.scanUp (fun x => lt x d[a]!) d j i) j
    split
    · exact Like.refl d
    · have h3 := Like.swp (d := d) (i := Sort.scanUp (fun x => lt x d[a]!) d j i) (j := Sort.scanDown (fun x => !lt x d[a]!) d (Sort.scanUp (fun x => lt x d[a]!) d j i) j) (by omega) (by omega)
      exact h3.trans (ih _ _ _ (by omega) (by rw [h3.1]; omega))
end
/-- The unstable sort behind its first tests. -/
theorem pdq_eq {lt : Row → Row → Bool} {d d1 d2 : Array Row} {a b lim lim1 p : Nat} {wb wp : Bool} {c : Nat × Sort.Hint} {hint : Sort.Hint} {pi : Array Row × Bool} (h12 : ¬ b - a ≤ 12) (hl : ¬ lim = 0)
    (e1 : d1 = if !wb then Sort.breakPatterns d a b else d) (e2 : lim1 = if !wb then lim - 1 else lim) (e3 : c = Sort.choosePivot lt d1 a b)
    (e4 : d2 = if c.2 = .decreasing then Sort.reverseRange d1 a b else d1) (e5 : p = if c.2 = .decreasing then (b - 1) - (c.1 - a) else c.1) (e6 : hint = if c.2 = .decreasing then Sort.Hint.increasing else c.2)
    (e7 : pi = if wb && wp && hint = .increasing then Sort.partialInsertionSort lt d2 a b else (d2, false)) :
    Sort.pdq lt d a b lim wb wp = if pi.2 then pi.1 else
      if a > 0 && !lt pi.1[a - 1]! pi.1[p]! then
        (if _h : a < (Sort.partitionEqual lt pi.1 a b p).1 ∧ (Sort.partitionEqual lt pi.1 a b p).1 ≤ b then Sort.pdq lt (Sort.partitionEqual lt pi.1 a b p).2 (Sort.partitionEqual lt pi.1 a b p).1 b lim1 wb wp else (Sort.partitionEqual lt pi.1 a b p).2)
      else
        (if _h : a ≤ (Sort.partition lt pi.1 a b p).1 ∧ (Sort.partition lt pi.1 a b p).1 < b then
          if (Sort.partition lt pi.1 a b p).1 - a < b - (Sort.partition lt pi.1 a b p).1 then
            Sort.pdq lt (Sort.pdq lt (Sort.partition lt pi.1 a b p).2.2 a (Sort.partition lt pi.1 a b p).1 lim1 true true) ((Sort.partition lt pi.1 a b p).1 + 1) b lim1 (decide ((Sort.partition lt pi.1 a b p).1 - a ≥ (b - a) / 8)) (Sort.partition lt pi.1 a b p).2.1
          else
            Sort.pdq lt (Sort.pdq lt (Sort.partition lt pi.1 a b p).2.2 ((Sort.partition lt pi.1 a b p).1 + 1) b lim1 true true) a (Sort.partition lt pi.1 a b p).1 lim1 (decide (b - (Sort.partition lt pi.1 a b p).1 ≥ (b - a) / 8)) (Sort.partition lt pi.1 a b p).2.1
        else (Sort.partition lt pi.1 a b p).2.2) := by
  subst e7 e6 e5 e4 e3 e2 e1
  rw [Sort.pdq, if_neg h12, if_neg hl]
theorem ev_byte {R : Type} {s : ByteArray} {i : Nat} {b : UInt8} {K : Nat → Nat → UInt8 → Option R} {z : R} (h : s.toList[i]? = some b) (hK : Evt (fun d n => K d n b) z) : Evt (fun d n => byteAt s i (K d n)) z := by
  simp only [byteAt, h]
  exact hK
/-! ### numbers of 64 bits -/
theorem wN {n : Int} {m : Nat} (h : n = (m : Int)) (hm : m ≤ 4611686018427387904) : IntKind.wrap .i64 n = (m : Int) := by
  subst h
  exact wrap_i64 (by omega) (by omega)
theorem wU {n : Nat} : IntKind.wrap .u64 (n : Int) = ((n % 2 ^ 64 : Nat) : Int) := by
  simp [IntKind.wrap, IntKind.signed, IntKind.bits]
theorem u64_lt (u : UInt64) : u.toNat < 2 ^ 64 := u.toNat_lt
theorem bv_u (u : UInt64) : BitVec.ofInt 64 (u.toNat : Int) = u.toBitVec := by
  apply BitVec.eq_of_toNat_eq
  simp
theorem xor_u (u v : UInt64) : xorI .u64 (u.toNat : Int) (v.toNat : Int) = ((u ^^^ v).toNat : Int) := by
  show IntKind.wrap .u64 (((BitVec.ofInt 64 (u.toNat : Int) ^^^ BitVec.ofInt 64 (v.toNat : Int)).toNat : Nat) : Int) = _
  rw [bv_u, bv_u, wU]
  have : (u.toBitVec ^^^ v.toBitVec).toNat = (u ^^^ v).toNat := rfl
  rw [this, Nat.mod_eq_of_lt (u64_lt _)]
theorem shl_u (u : UInt64) (k : Nat) (hk : k < 64) : shlI .u64 (u.toNat : Int) (k : Int) = ((u <<< UInt64.ofNat k).toNat : Int) := by
  have e : shlI .u64 (u.toNat : Int) (k : Int) = IntKind.wrap .u64 ((u.toNat * 2 ^ k : Nat) : Int) := by
    unfold shlI
    have : min (Int.toNat (k : Int)) (IntKind.bits .u64) = k := by
      simp only [Int.toNat_natCast, IntKind.bits]
      omega
    rw [this]
    push_cast
    rfl
  have h2 : k % 18446744073709551616 % 64 = k := by omega
  rw [e, wU, UInt64.toNat_shiftLeft, UInt64.toNat_ofNat', h2, Nat.shiftLeft_eq]
theorem shr_u (u : UInt64) (k : Nat) (hk : k < 64) : Int.fdiv (u.toNat : Int) (2 ^ k) = ((u >>> UInt64.ofNat k).toNat : Int) := by
  have h2 : k % 18446744073709551616 % 64 = k := by omega
  rw [UInt64.toNat_shiftRight, UInt64.toNat_ofNat', h2, Nat.shiftRight_eq_div_pow]
  rw [Int.fdiv_eq_ediv_of_nonneg _ (Int.le_of_lt (Int.pow_pos (by decide)))]
  push_cast
  rfl
theorem and_u (u : UInt64) (m : Nat) (hm : m < 2 ^ 64) : andI .u64 (u.toNat : Int) (m : Int) = ((u.toNat &&& m : Nat) : Int) := by
  show IntKind.wrap .u64 (((BitVec.ofInt 64 (u.toNat : Int) &&& BitVec.ofInt 64 (m : Int)).toNat : Nat) : Int) = _
  have e : (BitVec.ofInt 64 (m : Int)).toNat = m := by
    simp
    omega
  rw [bv_u, wU, BitVec.toNat_and, e]
  have h1 : u.toBitVec.toNat = u.toNat := rfl
  rw [h1, Nat.mod_eq_of_lt (Nat.lt_of_le_of_lt Nat.and_le_left (u64_lt u))]
theorem xor_next (u : UInt64) : xorI .u64 (xorI .u64 (xorI .u64 (u.toNat : Int) (shlI .u64 (u.toNat : Int) 13)) (Int.fdiv (xorI .u64 (u.toNat : Int) (shlI .u64 (u.toNat : Int) 13)) (2 ^ 7)))
    (shlI .u64 (xorI .u64 (xorI .u64 (u.toNat : Int) (shlI .u64 (u.toNat : Int) 13)) (Int.fdiv (xorI .u64 (u.toNat : Int) (shlI .u64 (u.toNat : Int) 13)) (2 ^ 7))) 17) = ((Sort.xorNext u).toNat : Int) := by
  have e1 := shl_u u 13 (by omega)
  simp only [Int.cast_ofNat_Int] at e1
  rw [e1, xor_u]
  have e2 := shr_u (u ^^^ u <<< UInt64.ofNat 13) 7 (by omega)
  rw [e2, xor_u]
  have e3 := shl_u (u ^^^ u <<< UInt64.ofNat 13 ^^^ (u ^^^ u <<< UInt64.ofNat 13) >>> UInt64.ofNat 7) 17 (by omega)
  simp only [Int.cast_ofNat_Int] at e3
  rw [e3, xor_u]
  rfl
/-! ### one outcome -/
theorem perm_same {c : Row} {a b : Rows} (h : a.Perm b) (ha : ∀ x ∈ a, x = c) : a = b := by
  rw [List.eq_replicate_of_mem ha, List.eq_replicate_of_mem (fun x hx => ha x (h.mem_iff.2 hx)), h.length_eq]
theorem sort_stab {l : Rows} (h1 : ∀ x ∈ l, ∃ n, x = [.v (.int .i64 n)]) : (Sort.sort (upI 0) l.toArray).toList = stab (upI 0) l := by
  have swo : Sort.SWO (upI 0) := ⟨fun x => by simp [upI], fun x y z h1 h2 => by simp [upI] at *; omega, fun x y z h1 h2 => by simp [upI] at *; omega⟩
  obtain ⟨hp, hs⟩ := Sort.sort_sorts (upI 0) swo l.toArray
  generalize Sort.sort (upI 0) l.toArray = d at hp hs
  have hz : d.size = l.length := by simpa using hp.1
  have pm : d.toList.Perm l := by
    have := hp.2.2
    have e1 : d.extract 0 l.toArray.size = d := by rw [show l.toArray.size = d.size from by simp [hz]]; simp
    rw [e1] at this
    simpa using this
  refine stab_of (upI_swo 0) ⟨?_, by simpa using hz, fun x => ?_⟩
  · unfold Srt
    rw [List.pairwise_iff_getElem]
    intro i j hi hj hij
    have hi' : i < d.size := by simpa using hi
    have hj' : j < d.size := by simpa using hj
    have := hs i j (Nat.zero_le _) hij (by simpa [hz] using hj')
    rw [getElem!_pos d j hj', getElem!_pos d i hi'] at this
    simpa using this
  · refine perm_same (c := [.v (.int .i64 (cN x 0))]) (pm.filter _) fun y hy => ?_
    obtain ⟨h2, h3⟩ := List.mem_filter.1 hy
    obtain ⟨n, rfl⟩ := h1 y (pm.mem_iff.1 h2)
    rw [cls_upI] at h3
    have : cN x 0 = n := by simpa [cN] using h3
    rw [this]
/-! ### how many bits -/
theorem bitsLen_div {n j : Nat} (h : 2 ^ j ≤ n) : Sort.bitsLen n = Sort.bitsLen (n / 2 ^ j) + j := by
  have h0 : 0 < 2 ^ j := Nat.two_pow_pos j
  apply Nat.le_antisymm
  · rw [Sort.bitsLen_le_iff, Nat.pow_add]
    have := Sort.lt_two_pow_bitsLen (n / 2 ^ j)
    exact (Nat.div_lt_iff_lt_mul h0).1 this
  · have hm := Sort.lt_two_pow_bitsLen n
    have hj : j < Sort.bitsLen n := (Nat.pow_lt_pow_iff_right (a := 2) (by omega)).1 (Nat.lt_of_le_of_lt h hm)
    have : Sort.bitsLen (n / 2 ^ j) ≤ Sort.bitsLen n - j := by
      rw [Sort.bitsLen_le_iff, Nat.div_lt_iff_lt_mul h0, ← Nat.pow_add]
      have : Sort.bitsLen n - j + j = Sort.bitsLen n := by omega
      rw [this]
      exact hm
    omega
/-- The library's table of lengths. -/
def tab8 : ByteArray := { data := #[0, 1, 2, 2, 3, 3, 3, 3, 4, 4, 4, 4, 4, 4, 4, 4, 5, 5, 5, 5, 5, 5, 5, 5, 5, 5, 5, 5, 5, 5, 5, 5, 6, 6, 6, 6, 6, 6, 6, 6, 6, 6, 6, 6, 6, 6, 6, 6, 6, 6, 6, 6, 6, 6, 6, 6, 6, 6, 6, 6, 6, 6, 6, 6, 7, 7, 7, 7, 7, 7, 7, 7, 7, 7, 7, 7, 7, 7, 7, 7, 7, 7, 7, 7, 7, 7, 7, 7, 7, 7, 7, 7, 7, 7, 7, 7, 7, 7, 7, 7, 7, 7, 7, 7, 7, 7, 7, 7, 7, 7, 7, 7, 7, 7, 7, 7, 7, 7, 7, 7, 7, 7, 7, 7, 7, 7, 7, 7, 8, 8, 8, 8, 8, 8, 8, 8, 8, 8, 8, 8, 8, 8, 8, 8, 8, 8, 8, 8, 8, 8, 8, 8, 8, 8, 8, 8, 8, 8, 8, 8, 8, 8, 8, 8, 8, 8, 8, 8, 8, 8, 8, 8, 8, 8, 8, 8, 8, 8, 8, 8, 8, 8, 8, 8, 8, 8, 8, 8, 8, 8, 8, 8, 8, 8, 8, 8, 8, 8, 8, 8, 8, 8, 8, 8, 8, 8, 8, 8, 8, 8, 8, 8, 8, 8, 8, 8, 8, 8, 8, 8, 8, 8, 8, 8, 8, 8, 8, 8, 8, 8, 8, 8, 8, 8, 8, 8, 8, 8, 8, 8, 8, 8, 8, 8, 8, 8, 8, 8, 8, 8, 8, 8, 8, 8, 8, 8] }
theorem tab8_ok {i : Nat} (h : i < 256) : ∃ b, tab8.toList[i]? = some b ∧ b.toNat = Sort.bitsLen i := by
  rw [ByteArray.toList_eq]
  have key : (List.range 256).all (fun i => match tab8.data.toList[i]? with | some b => b.toNat == (if i = 0 then 0 else Nat.log2 i + 1) | none => false) = true := by decide +kernel
  have := List.all_eq_true.1 key i (by simpa using h)
  revert this
  cases tab8.data.toList[i]? with
  | none => simp
  | some b => intro hb; exact ⟨b, rfl, by simpa [Sort.bitsLen] using hb⟩
end Go.Am
