/- AM: what floats in a region whose order is open. Nothing is assumed. -/
import Derived.Test.YtgnicnelpcndgaaAmDraw
set_option linter.unusedVariables false
set_option linter.unusedSimpArgs false
namespace Go.Am
section
variable {X : Nat → Prop} {w w' : World} {Z : Nat → Prop}
theorem Rst1.frame {x : AV} {v : Value} {c : List Nat} (h : Rst1 X w Z x v c) (hz : ∀ b, Z b → w'.heap[b]? = w.heap[b]?) (hc : ∀ b ∈ c, w'.heap[b]? = w.heap[b]?) : Rst1 X w' Z x v c := by
  cases h with
  | c h => exact .c (h.frame (fun _ h => h) hz hc fun _ _ h => h)
  | b hh hf h => exact .b (hh.frame (hc _ (by simp))) (hf.frame (hc _ (by simp))) (h.frame (fun _ h => h) hz (fun b h => hc b (by simp [h])) fun _ _ h => h)
  | p h => exact .p (h.frame (fun _ h => h) hz fun _ _ h => h)
theorem Rst1.lt {x : AV} {v : Value} {c : List Nat} (h : Rst1 X w Z x v c) : ∀ b ∈ c, b < w.heap.size := by
  cases h with
  | c h => exact h.lt
  | b hh hf h =>
    intro b hb
    rcases List.mem_cons.1 hb with rfl | hb
    · exact hh.lt
    · exact h.lt b hb
  | p h => simp
/-- The new variables that lie ready. -/
inductive PendL (X : Nat → Prop) (w : World) (Z : Nat → Prop) (val : Nat → Value) (done : Nat → Bool) : List (Nat × AOper) → Nat → List Nat → Prop
  | nil {i : Nat} : PendL X w Z val done [] i []
  | skip {p : Nat × AOper} {os : List (Nat × AOper)} {i : Nat} {cp : List Nat} (h : p.1 = 2 → done i = false) (r : PendL X w Z val done os (i + 1) cp) : PendL X w Z val done (p :: os) i cp
  | take {o : AOper} {os : List (Nat × AOper)} {i d : Nat} {zero : Row} {c cp : List Nat} (hd : o.dst = some d) (ho : o.op = .alloc zero) (hi : done i = true)
      (h : Rst1 X w Z (.b (zero.map D.up)) (val d) c) (r : PendL X w Z val done os (i + 1) cp) : PendL X w Z val done ((2, o) :: os) i (c ++ cp)
theorem PendL.lt {val : Nat → Value} {done : Nat → Bool} {os : List (Nat × AOper)} {i : Nat} {cp : List Nat} (h : PendL X w Z val done os i cp) : ∀ b ∈ cp, b < w.heap.size := by
  induction h with
  | nil => simp
  | skip _ _ ih => exact ih
  | take _ _ _ h _ ih =>
    intro b hb
    rcases List.mem_append.1 hb with hb | hb
    · exact h.lt b hb
    · exact ih b hb
theorem PendL.step {val val' : Nat → Value} {done done' : Nat → Bool} {j0 : Nat} {cn : List Nat} {os : List (Nat × AOper)} {i : Nat} {cp : List Nat} (h : PendL X w Z val done os i cp) (hz : ∀ b, Z b → w'.heap[b]? = w.heap[b]?) :
    (∀ b ∈ cp, w'.heap[b]? = w.heap[b]?) →
    (∀ (k : Nat) (o : AOper), os[k]? = some (2, o) → ∃ d zero, o.dst = some d ∧ o.op = .alloc zero ∧ (done (i + k) = true → done' (i + k) = true ∧ val' d = val d) ∧
      (done (i + k) = false → done' (i + k) = false ∨ (i + k = j0 ∧ done' (i + k) = true ∧ Rst1 X w' Z (.b (zero.map D.up)) (val' d) cn))) →
    ∃ cp', PendL X w' Z val' done' os i cp' ∧ ∀ b, cp'.count b ≤ (cp ++ (if i ≤ j0 then cn else [])).count b := by
  induction h with
  | nil => intro _ _; exact ⟨[], .nil, fun b => by simp⟩
  | @skip p os i cp hp r ih =>
    intro hc hk
    obtain ⟨cp', e1, e2⟩ := ih hc fun k o ho => by
      obtain ⟨d, zero, a1, a2, a3, a4⟩ := hk (k + 1) o (by simpa using ho)
      rw [show i + 1 + k = i + (k + 1) by omega]
      exact ⟨d, zero, a1, a2, a3, a4⟩
    have mono : ∀ b, (if i + 1 ≤ j0 then cn else []).count b ≤ (if i ≤ j0 then cn else []).count b := fun b => by
      split
      · rw [if_pos (by omega)]; exact Nat.le_refl _
      · simp
    by_cases h2 : p.1 = 2
    · obtain ⟨t, o⟩ := p
      simp only at h2
      subst h2
      obtain ⟨d, zero, a1, a2, a3, a4⟩ := hk 0 o rfl
      rcases a4 (by simpa using hp rfl) with h | ⟨hj, hd', hr⟩
      · refine ⟨cp', .skip (fun _ => by simpa using h) e1, fun b => ?_⟩
        have := e2 b
        have := mono b
        simp only [List.count_append] at *
        omega
      · refine ⟨cn ++ cp', .take a1 a2 (by simpa using hd') hr e1, fun b => ?_⟩
        have := e2 b
        rw [if_neg (by omega)] at this
        rw [if_pos (by omega)]
        simp only [List.count_append, List.count_nil] at *
        omega
    · refine ⟨cp', .skip (fun h => absurd h h2) e1, fun b => ?_⟩
      have := e2 b
      have := mono b
      simp only [List.count_append] at *
      omega
  | @take o os i d zero c cp hd ho hi h r ih =>
    intro hc hk
    obtain ⟨cp', e1, e2⟩ := ih (fun b hb => hc b (by simp [hb])) fun k o ho => by
      obtain ⟨d, zero, a1, a2, a3, a4⟩ := hk (k + 1) o (by simpa using ho)
      rw [show i + 1 + k = i + (k + 1) by omega]
      exact ⟨d, zero, a1, a2, a3, a4⟩
    obtain ⟨d', zero', a1, a2, a3, _⟩ := hk 0 o rfl
    rw [hd] at a1
    cases a1
    obtain ⟨b1, b2⟩ := a3 (by simpa using hi)
    refine ⟨c ++ cp', .take hd ho (by simpa using b1) (by rw [b2]; exact h.frame hz fun b hb => hc b (by simp [hb])) e1, fun b => ?_⟩
    have := e2 b
    have mono : (if i + 1 ≤ j0 then cn else []).count b ≤ (if i ≤ j0 then cn else []).count b := by
      split
      · rw [if_pos (by omega)]; exact Nat.le_refl _
      · simp
    simp only [List.count_append] at *
    omega
theorem PendL.all {val : Nat → Value} {done : Nat → Bool} {os : List (Nat × AOper)} {i : Nat} {cp : List Nat} (h : PendL X w Z val done os i cp) : (∀ k, k < os.length → done (i + k) = true) →
    RstL X w Z (floats os).2 ((floats os).1.map val) cp := by
  induction h with
  | nil => intro _; exact .nil
  | @skip p os i cp hp r ih =>
    intro hd
    have h1 := ih fun k hk => by
      have := hd (k + 1) (by simp; omega)
      rwa [show i + 1 + k = i + (k + 1) by omega]
    have h2 : p.1 ≠ 2 := fun h => by
      have := hd 0 (by simp)
      rw [Nat.add_zero, hp h] at this
      simp at this
    obtain ⟨t, o⟩ := p
    have : floats ((t, o) :: os) = floats os := by
      match t, h2 with
      | 0, _ => rfl
      | 1, _ => rfl
      | 2, h2 => exact absurd rfl h2
      | _ + 3, _ => rfl
    rw [this]
    exact h1
  | @take o os i d zero c cp hd ho hi h r ih =>
    intro hdn
    have h1 := ih fun k hk => by
      have := hdn (k + 1) (by simp; omega)
      rwa [show i + 1 + k = i + (k + 1) by omega]
    have : floats ((2, o) :: os) = (d :: (floats os).1, .b (zero.map D.up) :: (floats os).2) := by
      simp only [floats, hd, ho]
    rw [this]
    exact .cons (.o h) h1
theorem WInv.compose {w0 : World} {c0 c cp c' : List Nat} (h : WInv w0 c0 Z w (c ++ cp)) (hlt : ∀ b ∈ cp, b < w.heap.size) (h' : WInv w c Z w' c') : WInv w0 c0 Z w' (c' ++ cp) := by
  have hcp : ∀ b ∈ cp, b ∉ c ∧ b ∉ c' := fun b hb => by
    have h1 := h.cnt b
    simp only [List.count_append] at h1
    have h2 := List.count_pos_iff.2 hb
    have h3 : b ∉ c := fun h => by have := List.count_pos_iff.2 h; omega
    refine ⟨h3, fun h4 => ?_⟩
    rcases h'.own b h4 with h5 | h5
    · exact h3 h5
    · have := hlt b hb
      omega
  refine ⟨fun b => ?_, fun b hb hm => ?_, h.zlt, Nat.le_trans h.size h'.size, fun b hb => ?_, fun b hb hn => ?_, h.mute.trans h'.mute⟩
  · rw [List.count_append]
    by_cases hb : b ∈ cp
    · have h1 := List.count_eq_zero.2 (hcp b hb).2
      have h2 := h.cnt b
      simp only [List.count_append] at h2
      omega
    · have := List.count_eq_zero.2 hb
      have := h'.cnt b
      omega
  · rcases List.mem_append.1 hm with hm | hm
    · exact h'.dis b hb hm
    · exact h.dis b hb (by simp [hm])
  · rcases List.mem_append.1 hb with hb | hb
    · rcases h'.own b hb with h1 | h1
      · exact h.own b (by simp [h1])
      · exact .inr (Nat.le_trans h.size h1)
    · exact h.own b (by simp [hb])
  · have h1 : b ∉ c := fun hb' => by
      rcases h.own b (by simp [hb']) with h1 | h1
      · exact hn h1
      · omega
    rw [h'.frame b (Nat.lt_of_lt_of_le hb h.size) h1, h.frame b hb hn]
/-- What one owns now, and what one may have done from now on. -/
theorem WInv.now {w0 : World} {c0 c : List Nat} (h : WInv w0 c0 Z w c) : WInv w c Z w c :=
  ⟨h.cnt, h.dis, fun b hb => ⟨Nat.lt_of_lt_of_le (h.zlt b hb).1 h.size, h.dis b hb⟩, Nat.le_refl _, fun b hb => .inl hb, fun _ _ _ => rfl, Mute.refl w⟩
end
/-! ### what is ahead -/
section
variable {ops : Array Oper} {listed : Array Bool}
theorem bindsB_ok {i j : Nat} {o : Oper} (ho : ops[i]? = some o) : bindsB ops i j = true ↔ ∃ e ∈ o.after, Region.binds .any e = true ∧ e.on = j := by
  unfold bindsB
  rw [ho]
  simp only [List.any_eq_true, Bool.and_eq_true, beq_iff_eq]
  constructor
  · rintro ⟨e, h1, h2⟩; exact ⟨e, by simpa using h1, h2⟩
  · rintro ⟨e, h1, h2⟩; exact ⟨e, by simpa using h1, h2⟩
theorem anc_listed (hcl : ∀ i j, listed.getD i false = true → bindsB ops i j = true → listed.getD j false = true) (f : Nat) : ∀ {i j : Nat}, (∀ k, bindsB ops i k = true → listed.getD k false = true) → isAnc ops f i j = true → listed.getD j false = true := by
  induction f with
  | zero => intro i j _ h; simp [isAnc] at h
  | succ f ih =>
    intro i j hd h
    simp only [isAnc, Bool.or_eq_true, List.any_eq_true, Bool.and_eq_true] at h
    rcases h with h | ⟨k, _, h1, h2⟩
    · exact hd j h
    · exact ih (fun l hl => hcl k l (hd k h1) hl) h2
end
/-! ### the end of the region, one behind the other -/
section
variable {P : Program} {ops : Array Oper} {Q : Exit → Act → World → Prop}
theorem getD_true_false {listed : Array Bool} {j : Nat} (h : j < listed.size) : listed.getD j true = listed.getD j false := by
  simp [Array.getD_eq_getD_getElem?, Array.getElem?_eq_getElem h]
theorem wpAny_of_list (he : edgesB ops = true) (n : Nat) : ∀ (fuel : Nat) (listed : Array Bool) (a : Act) (w : World) (i : Nat), n = ops.size - i → n ≤ fuel → i ≤ ops.size → listed.size = ops.size → (∀ j, j < ops.size → listed.getD j false = decide (j < i)) →
    (∀ k, i ≤ k → k < ops.size → ∀ j, i ≤ j → j < k → isAnc ops ops.size k j = true) → wpList P ops Q (ops.toList.drop i) a w → wpAny P .any ops Q fuel listed a w := by
  induction n with
  | zero =>
    intro fuel listed a w i hn _ hi hs hl _ h
    have hie : i = ops.size := by omega
    have hr : Region.ready .any ops listed = [] := by
      rw [List.eq_nil_iff_forall_not_mem]
      intro j hj
      obtain ⟨h1, oj, hoj, _⟩ := mem_ready.1 hj
      have hlt : j < ops.size := (Array.getElem?_eq_some_iff.1 hoj).1
      rw [getD_true_false (by omega), hl j hlt] at h1
      simp at h1
      omega
    rw [List.drop_of_length_le (by simp [hie])] at h
    cases fuel with
    | zero => exact ⟨hr, h⟩
    | succ fuel => exact ⟨fun _ => h, by rw [hr]; simp⟩
  | succ n ih =>
    intro fuel listed a w i hn hf hi hs hl hanc h
    have hlt : i < ops.size := by omega
    have ho : ops[i]? = some ops[i] := Array.getElem?_eq_getElem hlt
    have hready : i ∈ Region.ready .any ops listed := by
      refine mem_ready.2 ⟨?_, ops[i], ho, fun e hem hb => ?_⟩
      · rw [getD_true_false (by omega), hl i hlt]; simp
      · have h1 := List.all_eq_true.1 he i (by simp [hlt])
        rw [ho] at h1
        have h2 := List.all_eq_true.1 h1 e (by simpa using hem)
        rw [hb] at h2
        have h3 : e.on < i := by simpa using h2
        rw [hl e.on (by omega)]
        simpa using h3
    cases fuel with
    | zero => omega
    | succ fuel =>
      refine ⟨fun h0 => by rw [h0] at hready; simp at hready, fun j hj => ?_⟩
      obtain ⟨h1, oj, hoj, hall⟩ := mem_ready.1 hj
      have hjlt : j < ops.size := (Array.getElem?_eq_some_iff.1 hoj).1
      have hji : j = i := by
        rw [getD_true_false (by omega), hl j hjlt] at h1
        have hge : i ≤ j := by simpa using h1
        rcases Nat.eq_or_lt_of_le hge with h | h
        · exact h.symm
        · exfalso
          have hcl : ∀ k l, listed.getD k false = true → bindsB ops k l = true → listed.getD l false = true := fun k l hk hb => by
            by_cases hkl : k < ops.size
            · have hko : ops[k]? = some ops[k] := Array.getElem?_eq_getElem hkl
              obtain ⟨e, e1, e2, e3⟩ := (bindsB_ok hko).1 hb
              have q1 := List.all_eq_true.1 he k (by simp [hkl])
              rw [hko] at q1
              have q2 := List.all_eq_true.1 q1 e (by simpa using e1)
              rw [e2] at q2
              have q3 : e.on < k := by simpa using q2
              rw [hl k hkl] at hk
              have : k < i := by simpa using hk
              rw [hl l (by omega)]
              simp; omega
            · simp [Array.getD_eq_getD_getElem?, Array.getElem?_eq_none (by omega : listed.size ≤ k)] at hk
          have := anc_listed hcl ops.size (fun k hb => by
            obtain ⟨e, e1, e2, e3⟩ := (bindsB_ok hoj).1 hb
            subst e3
            exact hall e e1 e2) (hanc j (by omega) hjlt i (Nat.le_refl _) h)
          rw [hl i hlt] at this
          simp at this
      subst hji
      have hdrop : ops.toList.drop j = ops[j] :: ops.toList.drop (j + 1) := by
        rw [List.drop_eq_getElem_cons (by simpa using hlt)]
        simp
      rw [hdrop] at h
      have step : ∀ a w, wpList P ops Q (ops.toList.drop (j + 1)) a w → wpAny P .any ops Q fuel (listed.setIfInBounds j true) a w := fun a w h => by
        refine ih fuel _ a w (j + 1) (by omega) (by omega) (by omega) (by simp [hs]) (fun k hk => ?_) (fun k hk hkl l hl' => hanc k (by omega) hkl l (by omega)) h
        by_cases hkj : k = j
        · subst hkj
          simp [Array.getD_eq_getD_getElem?, hs, hlt]
        · have := hl k hk
          simp only [Array.getD_eq_getD_getElem?, Array.getElem?_setIfInBounds, Ne.symm hkj, if_false] at this ⊢
          rw [this]
          have : (k < j) ↔ (k < j + 1) := by omega
          simp [this]
      unfold wpOp
      rw [ho]
      simp only
      simp only [wpList] at h
      split
      · rename_i hw
        rw [if_pos hw] at h
        exact h.imp (fun h => Oper.wp_mono step h) id
      · rename_i hw
        rw [if_neg hw] at h
        exact step _ _ h
end
end Go.Am
