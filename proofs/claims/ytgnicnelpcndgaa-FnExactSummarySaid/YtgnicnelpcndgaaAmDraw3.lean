/- AM: a region whose order is open comes to what it comes to in the order of the text. Nothing is assumed. -/
import Derived.Test.YtgnicnelpcndgaaAmDraw2
set_option linter.unusedVariables false
set_option linter.unusedSimpArgs false
namespace Go.Am
def unl (listed : Array Bool) : Nat → Nat
  | 0 => 0
  | k + 1 => unl listed k + (if listed.getD k false = true then 0 else 1)
theorem unl_same {l l' : Array Bool} {n : Nat} (h : ∀ j, j < n → l'.getD j false = l.getD j false) : unl l' n = unl l n := by
  induction n with
  | zero => rfl
  | succ n ih => simp only [unl]; rw [ih fun j hj => h j (by omega), h n (by omega)]
theorem set_getD {l : Array Bool} {i j : Nat} (hi : i < l.size) : (l.setIfInBounds i true).getD j false = if j = i then true else l.getD j false := by
  by_cases h : j = i
  · subst h; simp [Array.getD_eq_getD_getElem?, hi]
  · simp [Array.getD_eq_getD_getElem?, Array.getElem?_setIfInBounds, Ne.symm h, h]
theorem unl_set {l : Array Bool} {i n : Nat} (hi : i < l.size) (hin : i < n) (hu : l.getD i false = false) : unl (l.setIfInBounds i true) n + 1 = unl l n := by
  induction n with
  | zero => omega
  | succ n ih =>
    simp only [unl]
    by_cases h : i = n
    · subst h
      have e1 : unl (l.setIfInBounds i true) i = unl l i := unl_same fun j hj => by rw [set_getD hi]; exact if_neg (by omega)
      have e2 : (l.setIfInBounds i true).getD i false = true := by rw [set_getD hi]; exact if_pos rfl
      rw [e1, e2, hu]
      simp
    · have e2 : (l.setIfInBounds i true).getD n false = l.getD n false := by rw [set_getD hi]; exact if_neg fun e => h e.symm
      rw [e2]
      have := ih (by omega)
      omega
theorem unl_le (l : Array Bool) (n : Nat) : unl l n ≤ n := by
  induction n with
  | zero => exact Nat.le_refl _
  | succ n ih => simp only [unl]; split <;> omega
section
variable {P : Program} {sg : Sigs} {N : Nat} {args : Nat → Value} {w0 : World} {c0 : List Nat} {Z : Nat → Prop} {C : Ctx}
variable {ops : Array Oper} {head : List (Nat × AOper)} {tail : List AOper} {xs : List AV} {ms : Nat → Mem} {t0 : Tmps} {m0 : Mem}
structure DInv (P : Program) (sg : Sigs) (N : Nat) (args : Nat → Value) (w0 : World) (c0 : List Nat) (Z : Nat → Prop) (C : Ctx) (head : List (Nat × AOper)) (xs : List AV) (ms : Nat → Mem) (t0 : Tmps) (listed : Array Bool) (a : Act) (w : World)
    (hs : List Hd) (c cp : List Nat) (k : Nat) : Prop where
  inv : SInv sg.X C.keep N args w0 c0 Z hs c ⟨tD head xs t0 (fun j => listed.getD j false), ms k⟩ a w
  le : k ≤ head.length
  before : ∀ j, j < k → tagH head j = 1 → listed.getD j false = true
  behind : ∀ j, k ≤ j → j < head.length → tagH head j = 1 → listed.getD j false = false
  pend : PendL sg.X w Z (fun d => a.tmps.getD d undef) (fun j => listed.getD j false) head 0 cp
  win : WInv w0 c0 Z w (c ++ cp)
structure Facts (C : Ctx) (m0 : Mem) (head : List (Nat × AOper)) (xs : List AV) (ms : Nat → Mem) (t0 : Tmps) : Prop where
  len : xs.length = head.length
  zero : ms 0 = m0
  fact : ∀ (i tag : Nat) (o : AOper), head[i]? = some (tag, o) → mayPut C.keep o.dst = true ∧ ∃ x, xs[i]? = some x ∧ HFact C m0 tag o (tL head xs t0 i) (ms i) (ms (i + 1)) x
structure Static (P : Program) (sg : Sigs) (N : Nat) (ops : Array Oper) (head : List (Nat × AOper)) (tail : List AOper) : Prop where
  size : ops.size = head.length + tail.length
  edges : edgesB ops = true
  dist : ∀ i j d, dstH head i = some d → dstH head j = some d → i = j
  headC : ∀ i, i < head.length → chkHead P sg N ops head i = true
  tailC : chkOpers P sg N ops (ops.toList.drop head.length) tail = true
  anc : ∀ i, head.length ≤ i → i < ops.size → ∀ j, j < i → isAnc ops ops.size i j = true ∨ (tagH head j = 3 ∧ ∀ k, k < j → bindsB ops j k = true → isAnc ops ops.size i k = true)
  mixed : P.follows .mixedOrders = true
  nosel : Region.noSelect ops = true
theorem chkDraw_ok (h : chkDraw P sg N ops head tail = true) : Static P sg N ops head tail := by
  simp only [chkDraw, Bool.and_eq_true, beq_iff_eq, List.all_eq_true, List.mem_range, Bool.or_eq_true, decide_eq_true_eq] at h
  obtain ⟨⟨⟨⟨⟨⟨⟨h1, h2⟩, h3⟩, h4⟩, h5⟩, h6⟩, h7⟩, h8⟩ := h
  refine ⟨h1, h2, fun i j d hi hj => ?_, h4, h5, fun i hi hlt j hj => ?_, h7, h8⟩
  · have key : ∀ {i : Nat}, dstH head i = some d → (head.map (·.2.dst))[i]? = some (some d) := fun {i} hi => by
      unfold dstH at hi
      rw [List.getElem?_map]
      cases hh : head[i]? with
      | none => simp [hh] at hi
      | some p => simp [hh] at hi; simp [hi]
    exact distB_ok h3 i j d (key hi) (key hj)
  · rcases h6 i hlt with h | h
    · omega
    · rcases h j hj with h | h
      · exact .inl h
      · refine .inr ⟨h.1, fun k hk hb => ?_⟩
        have := h.2 k hk
        simpa [hb] using this
theorem tag_of {i tag : Nat} {o : AOper} (h : head[i]? = some (tag, o)) : tagH head i = tag := by simp [tagH, h]
theorem dst_of {i tag : Nat} {o : AOper} (h : head[i]? = some (tag, o)) : dstH head i = o.dst := by simp [dstH, h]
theorem ms_light (hf : Facts C m0 head xs ms t0) (k : Nat) : ∀ (n : Nat), k + n ≤ head.length → (∀ j, k ≤ j → j < k + n → tagH head j ≠ 1) → ms (k + n) = ms k := by
  intro n
  induction n with
  | zero => intro _ _; rfl
  | succ n ih =>
    intro hle h
    have h1 := ih (by omega) fun j hj hj' => h j hj (by omega)
    have hlt : k + n < head.length := by omega
    obtain ⟨⟨tag, o⟩, hp⟩ : ∃ p, head[k + n]? = some p := ⟨_, List.getElem?_eq_getElem hlt⟩
    obtain ⟨_, x, _, hx⟩ := hf.fact _ _ _ hp
    have ht : tag ≠ 1 := by rw [← tag_of hp]; exact h _ (by omega) (by omega)
    rw [← Nat.add_assoc, ← h1]
    rcases hx with ⟨_, _, _, _, _, h2⟩ | ⟨_, ⟨_, _, _, _, h2⟩ | ⟨h2, _⟩ | ⟨_, _, _, h2⟩⟩
    · exact h2
    · exact h2
    · exact absurd h2 ht
    · exact h2
theorem ms_prefix (hst : Static P sg N ops head tail) (hf : Facts C m0 head xs ms t0) : ∀ (i : Nat), i ≤ head.length → ∃ l, ms i = m0 ++ l := by
  intro i
  induction i with
  | zero => intro _; exact ⟨[], by rw [hf.zero]; simp⟩
  | succ i ih =>
    intro hle
    obtain ⟨l, hl⟩ := ih (by omega)
    obtain ⟨⟨tag, o⟩, hp⟩ : ∃ p, head[i]? = some p := ⟨_, List.getElem?_eq_getElem (by omega)⟩
    obtain ⟨_, x, _, hx⟩ := hf.fact _ _ _ hp
    rcases hx with ⟨_, _, _, _, _, h2⟩ | ⟨_, ⟨_, _, _, _, h2⟩ | ⟨h2, h3, h4⟩ | ⟨_, _, _, h2⟩⟩
    · exact ⟨l, h2.trans hl⟩
    · exact ⟨l, h2.trans hl⟩
    · subst h2
      have hc := hst.headC i (by omega)
      unfold chkHead at hc
      rw [hp] at hc
      have hfz : ∀ f modes fz res ys, o.op = .call f modes fz res ys → fz = false := by
        split at hc
        · rename_i tag ao o' e1 _
          cases e1
          simp only [Bool.and_eq_true] at hc
          have h5 := hc.1.2
          simp only [tagOk, Bool.and_eq_true] at h5
          intro f modes fz res ys he
          rw [he] at h5
          simpa using h5.1
        · simp at hc
      obtain ⟨l', hl'⟩ := heavy_ext h3 hfz h4
      exact ⟨l ++ l', by rw [hl', hl, List.append_assoc]⟩
    · exact ⟨l, h2.trans hl⟩
theorem put_get_ne {a : Act} {d : Option Tmp} {v : Value} {p : Nat} (h : d ≠ some p) : (a.put d v).tmps.getD p undef = a.tmps.getD p undef := by
  cases d with
  | none => rfl
  | some i =>
    have : i ≠ p := fun e => h (by rw [e])
    simp [Act.put, Array.getD_eq_getD_getElem?, Array.getElem?_setIfInBounds, this]
theorem head_ok (hT : Good P sg C.T) (hst : Static P sg N ops head tail) (hf : Facts C m0 head xs ms t0) {Q : Exit → Act → World → Prop}
    (hQ : ∀ c a w, ¬ Q (.panic c) a w) (hend : ∀ (hs : List Hd) (c : List Nat) (a : Act) (w : World), SInv sg.X C.keep N args w0 c0 Z hs c (wakeAVs (tRun head xs t0) (ms head.length) (floats head).1 (floats head).2) a w → wpList P ops Q (ops.toList.drop head.length) a w) :
    ∀ (fuel : Nat) (listed : Array Bool) (a : Act) (w : World) (hs : List Hd) (c cp : List Nat) (k : Nat), unl listed ops.size ≤ fuel → listed.size = ops.size → (∀ j, head.length ≤ j → j < ops.size → listed.getD j false = false) →
      (∀ i j, listed.getD i false = true → bindsB ops i j = true → listed.getD j false = true) → DInv P sg N args w0 c0 Z C head xs ms t0 listed a w hs c cp k → wpAny P .any ops Q fuel listed a w := by
  have hsz := hst.size
  have htanc : ∀ i, head.length ≤ i → i < ops.size → ∀ j, head.length ≤ j → j < i → isAnc ops ops.size i j = true := fun i hi hlt j hj hji => by
    rcases hst.anc i hi hlt j hji with h | ⟨h, _⟩
    · exact h
    · simp [tagH, List.getElem?_eq_none hj] at h
  intro fuel
  induction fuel with
  | zero =>
    intro listed a w hs c cp k hu hs' htl hcl hd
    -- all are listed, so the head is empty of work and there is no tail: the list's own end
    have all : ∀ n, n ≤ ops.size → unl listed n ≤ 0 → ∀ j, j < n → listed.getD j false = true := by
      intro n
      induction n with
      | zero => intro _ _ j hj; omega
      | succ n ih =>
        intro hn hu j hj
        simp only [unl] at hu
        have h1 : listed.getD n false = true := by
          by_cases h : listed.getD n false = true
          · exact h
          · rw [if_neg h] at hu; omega
        by_cases h : j = n
        · subst h; exact h1
        · exact ih (by omega) (by omega) j (by omega)
    have hall := all ops.size (Nat.le_refl _) hu
    have htail : tail.length = 0 := by
      rcases Nat.eq_zero_or_pos tail.length with h | h
      · exact h
      · have h1 := htl head.length (Nat.le_refl _) (by omega)
        rw [hall _ (by omega)] at h1
        simp at h1
    have hin := hd.inv
    have hk : ms k = ms head.length := by
      have := ms_light hf k (head.length - k) (by have := hd.le; omega) fun j hj hj' ht => by
        have h1 := hd.behind j hj (by have := hd.le; omega) ht
        rw [hall j (by omega)] at h1
        simp at h1
      rw [show k + (head.length - k) = head.length by have := hd.le; omega] at this
      exact this.symm
    have hpend := hd.pend.all fun j hj => by rw [Nat.zero_add]; exact hall j (by omega)
    obtain ⟨hs2, c2, e1, e2, e3⟩ := wakeAVs_ok (f := fun d => a.tmps.getD d undef) (floats head).1 hin.mem hin.tmp hpend
    have hfin : tD head xs t0 (fun j => listed.getD j false) = tRun head xs t0 := funext fun p => by
      have hL := tL_spec (t0 := t0) hf.len hst.dist head.length (Nat.le_refl _) p
      simp only [tL, List.take_length] at hL
      rw [← hf.len, List.take_length] at hL
      by_cases h : ∃ j, dstH head j = some p
      · obtain ⟨j, hj⟩ := h
        have hjlt : j < head.length := by
          rcases Nat.lt_or_ge j head.length with h | h
          · exact h
          · simp [dstH, List.getElem?_eq_none h] at hj
        obtain ⟨xj, hx⟩ : ∃ y, xs[j]? = some y := ⟨_, List.getElem?_eq_getElem (by rw [hf.len]; exact hjlt)⟩
        rw [tD_dst hst.dist hj, hall j (by omega), hL.1 j _ (by rw [hf.len]; exact hjlt) hj hx, hx]
        rfl
      · rw [tD_none fun j hj => h ⟨j, hj⟩, hL.2 fun j _ hj => h ⟨j, hj⟩]
    rw [hfin, hk] at e1 e2
    exact wpAny_of_list hst.edges (ops.size - head.length) 0 listed a w head.length rfl (by omega) (by omega) hs' (fun j hj => by rw [hall j hj]; simp; omega) htanc
      (hend hs2 c2 a w ⟨e1, e2, hd.win.less e3, hin.defers, hin.size, hin.keep⟩)
  | succ fuel ih =>
    intro listed a w hs c cp k hu hs' htl hcl hd
    by_cases hdone : ∀ j, j < head.length → listed.getD j false = true
    · -- the head is done
      have hin := hd.inv
      have hk : ms k = ms head.length := by
        have := ms_light hf k (head.length - k) (by have := hd.le; omega) fun j hj hj' ht => by
          have h1 := hd.behind j hj (by have := hd.le; omega) ht
          rw [hdone j (by have := hd.le; omega)] at h1
          simp at h1
        rw [show k + (head.length - k) = head.length by have := hd.le; omega] at this
        exact this.symm
      have hpend := hd.pend.all fun j hj => by rw [Nat.zero_add]; exact hdone j hj
      obtain ⟨hs2, c2, e1, e2, e3⟩ := wakeAVs_ok (f := fun d => a.tmps.getD d undef) (floats head).1 hin.mem hin.tmp hpend
      have hfin : tD head xs t0 (fun j => listed.getD j false) = tRun head xs t0 := funext fun p => by
        have hL := tL_spec (t0 := t0) hf.len hst.dist head.length (Nat.le_refl _) p
        simp only [tL, List.take_length] at hL
        rw [← hf.len, List.take_length] at hL
        by_cases h : ∃ j, dstH head j = some p
        · obtain ⟨j, hj⟩ := h
          have hjlt : j < head.length := by
            rcases Nat.lt_or_ge j head.length with h | h
            · exact h
            · simp [dstH, List.getElem?_eq_none h] at hj
          obtain ⟨xj, hx⟩ : ∃ y, xs[j]? = some y := ⟨_, List.getElem?_eq_getElem (by rw [hf.len]; exact hjlt)⟩
          rw [tD_dst hst.dist hj, hdone j hjlt, hL.1 j _ (by rw [hf.len]; exact hjlt) hj hx, hx]
          rfl
        · rw [tD_none fun j hj => h ⟨j, hj⟩, hL.2 fun j _ hj => h ⟨j, hj⟩]
      rw [hfin, hk] at e1 e2
      have hfu : ops.size - head.length ≤ fuel + 1 := by
        have key : ∀ n, head.length ≤ n → n ≤ ops.size → n - head.length ≤ unl listed n := by
          intro n
          induction n with
          | zero => intro _ _; omega
          | succ n ihn =>
            intro h1 h2
            rcases Nat.lt_or_ge n head.length with h3 | h3
            · omega
            · have := ihn h3 (by omega)
              simp only [unl]
              rw [htl n h3 (by omega)]
              simp
              omega
        exact Nat.le_trans (key ops.size (by omega) (Nat.le_refl _)) hu
      refine wpAny_of_list hst.edges (ops.size - head.length) (fuel + 1) listed a w head.length rfl hfu (by omega) hs' (fun j hj => ?_) htanc
        (hend hs2 c2 a w ⟨e1, e2, hd.win.less e3, hin.defers, hin.size, hin.keep⟩)
      rcases Nat.lt_or_ge j head.length with h | h
      · rw [hdone j h]; simp [h]
      · rw [htl j h hj]; simp; omega
    · -- some of the head is not
      have hex : ∃ q, q < head.length ∧ listed.getD q false = false ∧ ∀ j, j < q → listed.getD j false = true := by
        have key : ∀ n, n ≤ head.length → (∀ j, j < n → listed.getD j false = true) ∨ ∃ q, q < n ∧ listed.getD q false = false ∧ ∀ j, j < q → listed.getD j false = true := by
          intro n
          induction n with
          | zero => intro _; exact .inl fun j hj => by omega
          | succ n ihn =>
            intro hn
            rcases ihn (by omega) with h | ⟨q, h1, h2, h3⟩
            · by_cases h4 : listed.getD n false = true
              · exact .inl fun j hj => by
                  rcases Nat.lt_or_ge j n with h5 | h5
                  · exact h j h5
                  · have : j = n := by omega
                    subst this
                    exact h4
              · exact .inr ⟨n, by omega, by simpa using h4, h⟩
            · exact .inr ⟨q, by omega, h2, h3⟩
        rcases key head.length (Nat.le_refl _) with h | h
        · exact absurd h hdone
        · exact h
      obtain ⟨q, hq, hqu, hqb⟩ := hex
      have hqready : q ∈ Region.ready .any ops listed := by
        have hlt : q < ops.size := by omega
        have ho : ops[q]? = some ops[q] := Array.getElem?_eq_getElem hlt
        refine mem_ready.2 ⟨by rw [getD_true_false (by omega)]; exact hqu, ops[q], ho, fun e hem hb => ?_⟩
        have h1 := List.all_eq_true.1 hst.edges q (by simp [hlt])
        rw [ho] at h1
        have h2 := List.all_eq_true.1 h1 e (by simpa using hem)
        rw [hb] at h2
        exact hqb e.on (by simpa using h2)
      have main : ∀ i, i ∈ Region.ready .any ops listed → i < head.length → (tagH head i ≠ 3 → wpOp P ops Q i (wpAny P .any ops Q fuel (listed.setIfInBounds i true)) a w) ∧
          (tagH head i = 3 → ∃ o v, ops[i]? = some o ∧ freeB ops i = true ∧ Yields P ops o v a ∧ wpAny P .any ops Q fuel (listed.setIfInBounds i true) (a.put o.dst v) w) := by
        intro i hi hih
        obtain ⟨hun, o, ho, hall⟩ := mem_ready.1 hi
        have hilt : i < ops.size := (Array.getElem?_eq_some_iff.1 ho).1
        have hiu : listed.getD i false = false := by rw [← getD_true_false (by omega)]; exact hun
        have hdir : ∀ j, bindsB ops i j = true → listed.getD j false = true := fun j hb => by
          obtain ⟨e, e1, e2, e3⟩ := (bindsB_ok ho).1 hb
          subst e3
          exact hall e e1 e2
        obtain ⟨⟨tag, ao⟩, hp⟩ : ∃ p, head[i]? = some p := ⟨_, List.getElem?_eq_getElem hih⟩
        obtain ⟨hmay, x, hx, hfact⟩ := hf.fact _ _ _ hp
        have hchk := hst.headC i hih
        unfold chkHead at hchk
        rw [hp, ho] at hchk
        simp only [Bool.and_eq_true, List.all_eq_true, List.mem_range, Bool.or_eq_true, bne_iff_ne, ne_eq] at hchk
        obtain ⟨⟨⟨⟨hcd, hcg⟩, hco⟩, htag⟩, hreads⟩ := hchk
        obtain ⟨hde, hdl⟩ := chkDst_ok hcd
        have hin := hd.inv
        -- what it reads is what it read in the order of the text
        have hagree : ∀ p ∈ readsOf ao.op ++ guardT ao.guard, tD head xs t0 (fun j => listed.getD j false) p = tL head xs t0 i p := fun p hpm => by
          have hL := tL_spec (t0 := t0) hf.len hst.dist i (by omega) p
          by_cases h : ∃ j, dstH head j = some p
          · obtain ⟨j, hj⟩ := h
            have hjlt : j < head.length := by
              rcases Nat.lt_or_ge j head.length with h | h
              · exact h
              · simp [dstH, List.getElem?_eq_none h] at hj
            rcases hreads p hpm j hjlt with h | h
            · exact absurd hj h
            · have hjl := hdir j h.1
              obtain ⟨e, e1, e2, e3⟩ := (bindsB_ok ho).1 h.1
              have h1 := List.all_eq_true.1 hst.edges i (by simp [hilt])
              rw [ho] at h1
              have h2 := List.all_eq_true.1 h1 e (by simpa using e1)
              rw [e2] at h2
              have hji : j < i := by rw [← e3]; simpa using h2
              obtain ⟨xj, hxj⟩ : ∃ y, xs[j]? = some y := ⟨_, List.getElem?_eq_getElem (by rw [hf.len]; exact hjlt)⟩
              rw [tD_dst hst.dist hj, hjl, hL.1 j _ hji hj hxj, hxj]
              rfl
          · rw [tD_none fun j hj => h ⟨j, hj⟩, hL.2 fun j _ hj => h ⟨j, hj⟩]
        have hset : ∀ j, (listed.setIfInBounds i true).getD j false = if j = i then true else listed.getD j false := fun j => set_getD (by omega)
        have htD : ∀ p, tD head xs t0 (fun j => (listed.setIfInBounds i true).getD j false) p = put (tD head xs t0 (fun j => listed.getD j false)) ao.dst x p := fun p => by
          rw [put_at]
          by_cases h : ao.dst = some p
          · rw [if_pos h, tD_dst hst.dist (j := i) (by rw [dst_of hp, h]), hset, if_pos rfl, hx]
            rfl
          · rw [if_neg h]
            by_cases h2 : ∃ j, dstH head j = some p
            · obtain ⟨j, hj⟩ := h2
              have hji : j ≠ i := fun e => by subst e; exact h (by rw [← dst_of hp]; exact hj)
              rw [tD_dst hst.dist hj, tD_dst hst.dist hj, hset, if_neg hji]
            · rw [tD_none fun j hj => h2 ⟨j, hj⟩, tD_none fun j hj => h2 ⟨j, hj⟩]
        -- the memory of the heavy ones
        have hheavy : tag = 1 → k ≤ i ∧ ms i = ms k := fun h1 => by
          subst h1
          have hki : k ≤ i := by
            rcases Nat.lt_or_ge i k with h | h
            · have := hd.before i h (tag_of hp)
              rw [hiu] at this
              simp at this
            · exact h
          refine ⟨hki, ?_⟩
          have := ms_light hf k (i - k) (by omega) fun j hj hj' ht => by
            have h1 := hd.behind j hj (by omega) ht
            simp only [tagOk, Bool.and_eq_true, List.all_eq_true, List.mem_range, Bool.or_eq_true, bne_iff_ne, ne_eq] at htag
            rcases htag.2 j (by omega) with h2 | h2
            · exact h2 ht
            · have := anc_listed hcl ops.size hdir h2
              rw [h1] at this
              simp at this
          rwa [show k + (i - k) = i by omega] at this
        -- what remains
        have cont : ∀ (a' : Act) (w' : World) (hs2 : List Hd) (c2 cp2 : List Nat) (mNew : Mem), ((tag = 1 ∧ mNew = ms (i + 1)) ∨ (tag ≠ 1 ∧ mNew = ms k)) →
            SInv sg.X C.keep N args w0 c0 Z hs2 c2 ⟨put (tD head xs t0 (fun j => listed.getD j false)) ao.dst x, mNew⟩ a' w' →
            PendL sg.X w' Z (fun d => a'.tmps.getD d undef) (fun j => (listed.setIfInBounds i true).getD j false) head 0 cp2 → WInv w0 c0 Z w' (c2 ++ cp2) →
            wpAny P .any ops Q fuel (listed.setIfInBounds i true) a' w' := by
          intro a' w' hs2 c2 cp2 mNew hm hinv hpend hwin
          have hinv' := hinv.tmps_same htD
          have hun1 := unl_set (l := listed) (i := i) (n := ops.size) (by omega) hilt hiu
          have hcl' : ∀ p j, (listed.setIfInBounds i true).getD p false = true → bindsB ops p j = true → (listed.setIfInBounds i true).getD j false = true := fun p j hpl hb => by
            rw [hset] at hpl ⊢
            by_cases hj : j = i
            · rw [if_pos hj]
            · rw [if_neg hj]
              by_cases hpi : p = i
              · subst hpi; exact hdir j hb
              · rw [if_neg hpi] at hpl; exact hcl p j hpl hb
          have htl' : ∀ j, head.length ≤ j → j < ops.size → (listed.setIfInBounds i true).getD j false = false := fun j hj hjl => by rw [hset, if_neg (by omega)]; exact htl j hj hjl
          rcases hm with ⟨h1, rfl⟩ | ⟨h1, rfl⟩
          · obtain ⟨hki, _⟩ := hheavy h1
            refine ih _ a' w' hs2 c2 cp2 (i + 1) (by omega) (by simp [hs']) htl' hcl' ⟨hinv', by omega, fun j hj ht => ?_, fun j hj hjl ht => ?_, hpend, hwin⟩
            · rw [hset]
              by_cases hji : j = i
              · rw [if_pos hji]
              · rw [if_neg hji]
                subst h1
                simp only [tagOk, Bool.and_eq_true, List.all_eq_true, List.mem_range, Bool.or_eq_true, bne_iff_ne, ne_eq] at htag
                rcases htag.2 j (by omega) with h2 | h2
                · exact absurd ht h2
                · exact anc_listed hcl ops.size hdir h2
            · rw [hset, if_neg (by omega)]
              exact hd.behind j (by omega) hjl ht
          · refine ih _ a' w' hs2 c2 cp2 k (by omega) (by simp [hs']) htl' hcl' ⟨hinv', hd.le, fun j hj ht => ?_, fun j hj hjl ht => ?_, hpend, hwin⟩
            · rw [hset]
              by_cases hji : j = i
              · rw [if_pos hji]
              · rw [if_neg hji]; exact hd.before j hj ht
            · have hji : j ≠ i := fun e => by subst e; exact h1 (by rw [← tag_of hp]; exact ht)
              rw [hset, if_neg hji]
              exact hd.behind j hj hjl ht
        -- the floats that are not this one
        have hfl : ∀ {a' : Act} {w' : World} {cn : List Nat}, (∀ p, ao.dst ≠ some p → a'.tmps.getD p undef = a.tmps.getD p undef) → (∀ b, Z b → w'.heap[b]? = w.heap[b]?) → (∀ b ∈ cp, w'.heap[b]? = w.heap[b]?) →
            (tag = 2 → ∃ d zero, ao.dst = some d ∧ ao.op = .alloc zero ∧ Rst1 sg.X w' Z (.b (zero.map D.up)) (a'.tmps.getD d undef) cn) →
            ∃ cp', PendL sg.X w' Z (fun d => a'.tmps.getD d undef) (fun j => (listed.setIfInBounds i true).getD j false) head 0 cp' ∧ ∀ b, cp'.count b ≤ (cp ++ cn).count b := by
          intro a' w' cn htm hz hcp hnew
          obtain ⟨cp', e1, e2⟩ := hd.pend.step (val' := fun d => a'.tmps.getD d undef) (done' := fun j => (listed.setIfInBounds i true).getD j false) (j0 := i) (cn := cn) hz hcp fun kk oo hoo => by
            have hkl : kk < head.length := (List.getElem?_eq_some_iff.1 hoo).1
            have hck := hst.headC kk hkl
            unfold chkHead at hck
            rw [hoo] at hck
            obtain ⟨d, zero, hdo, hzo⟩ : ∃ d zero, oo.dst = some d ∧ oo.op = .alloc zero := by
              split at hck
              · rename_i t2 ao2 o2 q1 q2
                cases q1
                simp only [Bool.and_eq_true] at hck
                have h5 := hck.1.2
                simp only [tagOk, Bool.and_eq_true] at h5
                obtain ⟨d, hd'⟩ := Option.isSome_iff_exists.1 h5.1.2
                have h6 := h5.2
                split at h6
                · rename_i zero hz'; exact ⟨d, zero, hd', hz'⟩
                · simp at h6
              · simp at hck
            refine ⟨d, zero, hdo, hzo, fun h => ?_, fun h => ?_⟩
            · simp only [Nat.zero_add] at h ⊢
              have hki : kk ≠ i := fun e => by subst e; rw [hiu] at h; simp at h
              refine ⟨by rw [hset, if_neg hki]; exact h, htm d fun e => hki ?_⟩
              exact hst.dist kk i d (by rw [dst_of hoo, hdo]) (by rw [dst_of hp, e])
            · simp only [Nat.zero_add] at h ⊢
              by_cases hki : kk = i
              · subst hki
                rw [hp] at hoo
                cases hoo
                obtain ⟨d', zero', q1, q2, q3⟩ := hnew rfl
                rw [hdo] at q1
                rw [hzo] at q2
                cases q1
                cases q2
                exact .inr ⟨rfl, by rw [hset, if_pos rfl], q3⟩
              · exact .inl (by rw [hset, if_neg hki]; exact h)
          exact ⟨cp', e1, fun b => by have := e2 b; rwa [if_pos (by omega)] at this⟩
        refine ⟨fun htn3 => ?_, fun ht3 => ?_⟩
        rotate_left
        · rw [tag_of hp] at ht3
          subst ht3
          simp only [tagOk, Bool.and_eq_true] at htag
          obtain ⟨⟨hext, hgn⟩, hfree⟩ := htag
          have hgn : ao.guard = none := by simpa using hgn
          have hogn : o.guard = none := by
            rw [hgn] at hcg
            unfold chkGuard at hcg
            split at hcg
            · rename_i e; exact e
            · simp_all
            · simp at hcg
          rcases hfact with ⟨j, b, hg, _⟩ | ⟨_, ⟨_, m1, h1, h2, h3⟩ | ⟨h, _⟩ | ⟨h, _⟩⟩
          · rw [hgn] at hg; simp at hg
          · split at hext
            · rename_i kk nn hopx
              rw [hopx] at h1 hco hagree
              have hkk := hagree kk (by simp [readsOf, opdT])
              have h5 := hin.tmp kk
              simp only at h5
              rw [hkk] at h5
              simp only [EO, evalOp, ev] at h1
              generalize hop : o.op = op at hco
              cases op <;> simp only [chkOp] at hco <;> try (simp at hco; done)
              rename_i x' n'
              simp only [Bool.and_eq_true, beq_iff_eq] at hco
              obtain ⟨hcx, rfl⟩ := hco
              cases x' <;> simp only [chkOpd] at hcx <;> try (simp at hcx; done)
              simp only [beq_iff_eq] at hcx
              subst hcx
              split at h1
              · rename_i ys hys
                rw [hys] at h5
                generalize hu' : a.tmps.getD kk undef = u at h5
                cases h5 with
                | @t _ vs h5 =>
                  unfold ret1 at h1
                  split at h1
                  · rename_i y hy
                    simp only [mk2, Option.some.injEq, Prod.mk.injEq] at h1
                    obtain ⟨rfl, rfl⟩ := h1
                    obtain ⟨v, hv1, hv2⟩ := h5.get hy
                    have hv1' : vs[nn]? = some v := by simpa using hv1
                    refine ⟨o, v, ho, hfree, .inl ⟨by simp [Region.wanted, hogn], fun w2 => ?_⟩, ?_⟩
                    · have he : a.eval (.tmp kk) = .tuple vs := hu'
                      simp only [execOp, hop, he, Instr.extract]
                      simp [hv1']
                    · rw [← hde]
                      obtain ⟨cp', p1, p2⟩ := hfl (a' := a.put ao.dst v) (w' := w) (cn := []) (fun p hp' => put_get_ne hp') (fun _ _ => rfl) (fun _ _ => rfl) (fun e => absurd e (by simp))
                      exact cont _ w hs c cp' (ms k) (.inr ⟨by simp, rfl⟩) (sinv_put hin hdl hmay hin.mem hv2 hin.win (Ext.refl _)) p1 (hd.win.less fun b => by have := p2 b; simp only [List.append_nil, List.count_append] at *; omega)
                  · simp at h1
              · simp at h1
            · simp at hext
          · simp at h
          · exact absurd rfl h.2
        · unfold wpOp
          rw [ho]
          simp only
          -- the guard
          have hguard : ∀ {j : Nat} {b : Bool}, ao.guard = some (j, b) → ∃ jj, o.guard = some (jj, b) ∧ yielded ops a.tmps jj = match a.tmps.getD j undef with | .bool b => some b | _ => none := fun {j b} hg => by
            rw [hg] at hcg
            unfold chkGuard at hcg
            split at hcg
            · simp_all
            · rename_i i1 b1 jj b2 e1 e2
              simp only [Option.some.injEq, Prod.mk.injEq] at e1
              obtain ⟨rfl, rfl⟩ := e1
              simp only [Bool.and_eq_true, beq_iff_eq] at hcg
              obtain ⟨rfl, hcg⟩ := hcg
              split at hcg
              · rename_i og hoo
                have hod : og.dst = some j := by simpa using hcg
                refine ⟨jj, e2, yielded_of hoo hod ?_⟩
                -- the guard's temporary is within bounds: its value is a bool or nothing, by the run
                rcases Nat.lt_or_ge j a.tmps.size with h | h
                · exact h
                · exfalso
                  have hjl : jj < ops.size := (Array.getElem?_eq_some_iff.1 hoo).1
                  rcases Nat.lt_or_ge jj head.length with h1 | h1
                  · have hck := hst.headC jj h1
                    unfold chkHead at hck
                    rw [hoo] at hck
                    split at hck
                    · rename_i t2 ao2 o2 q1 q2
                      cases q2
                      simp only [Bool.and_eq_true] at hck
                      obtain ⟨h5, h6⟩ := chkDst_ok hck.1.1.1.1
                      have h8 := h6 j (by rw [h5, hod])
                      have h9 := hin.size
                      omega
                    · simp at hck
                  · -- an operation of the tail: its place is checked there
                    have : ∀ (l : List Oper) (aos : List AOper), chkOpers P sg N ops l aos = true → ∀ oo ∈ l, ∀ d, oo.dst = some d → d < N := by
                      intro l
                      induction l with
                      | nil => intro aos _ oo h; simp at h
                      | cons y l ihl =>
                        intro aos h oo hm d hd
                        cases aos with
                        | nil => simp [chkOpers] at h
                        | cons z aos =>
                          simp only [chkOpers, Bool.and_eq_true] at h
                          rcases List.mem_cons.1 hm with rfl | hm
                          · obtain ⟨h5, h6⟩ := chkDst_ok h.1.1.1
                            exact h6 d (by rw [h5, hd])
                          · exact ihl aos h.2 oo hm d hd
                    have h7 := this _ _ hst.tailC og (by
                      have : ops.toList[jj]? = some og := by simpa using hoo
                      rw [List.mem_iff_getElem?]
                      exact ⟨jj - head.length, by rw [List.getElem?_drop, show head.length + (jj - head.length) = jj by omega]; exact this⟩) j hod
                    have h8 : @LT.lt Nat _ j N := h7
                    have h9 := hin.size
                    omega
              · simp at hcg
            · simp at hcg
          rcases hfact with ⟨j, b, hg, hv, rfl, hm⟩ | ⟨hg, hrun⟩
          · -- passed over
            obtain ⟨jj, hog, hy⟩ := hguard hg
            have hnw : ¬ Region.wanted o (yielded ops a.tmps) = true := by
              have h1 := hin.tmp j
              have h2 := hagree j (by simp [hg, guardT])
              simp only at h1
              rw [h2] at h1
              rcases hv with hv | hv
              · rw [hv] at h1
                have h3 := val_of h1
                simp [Region.wanted, hog, hy, h3]
              · rw [hv] at h1
                generalize hu : a.tmps.getD j undef = u at h1
                cases h1
                have h5 : yielded ops a.tmps jj = none := by rw [hy, hu]; rfl
                simp [Region.wanted, hog, h5]
            rw [if_neg hnw, ← hde]
            have htag2 : tag ≠ 2 := fun e => by
              subst e
              simp only [tagOk, hg, Bool.and_eq_true] at htag
              simp at htag
            obtain ⟨cp', p1, p2⟩ := hfl (a' := a.put ao.dst undef) (w' := w) (cn := []) (fun p hp' => put_get_ne hp') (fun _ _ => rfl) (fun _ _ => rfl) (fun e => absurd e htag2)
            have hmem : ms k = ms k := rfl
            refine cont _ w hs c cp' (ms k) ?_ (sinv_put hin hdl hmay hin.mem .n hin.win (Ext.refl _)) p1 (hd.win.less fun b => by have := p2 b; simp only [List.append_nil, List.count_append] at *; omega)
            by_cases h1 : tag = 1
            · exact .inl ⟨h1, by rw [hm, (hheavy h1).2]⟩
            · exact .inr ⟨h1, rfl⟩
          · -- carried out
            have hw : Region.wanted o (yielded ops a.tmps) = true := by
              rcases hg with hg | ⟨j, b, hg, hv⟩
              · rw [hg] at hcg
                unfold chkGuard at hcg
                split at hcg
                · rename_i e; simp [Region.wanted, e]
                · simp_all
                · simp at hcg
              · obtain ⟨jj, hog, hy⟩ := hguard hg
                have h1 := hin.tmp j
                have h2 := hagree j (by simp [hg, guardT])
                simp only at h1
                rw [h2, hv] at h1
                have h3 := val_of h1
                simp [Region.wanted, hog, hy, h3]
            rw [if_pos hw]
            refine .inl ?_
            have hrd : ∀ p ∈ readsOf ao.op, tD head xs t0 (fun j => listed.getD j false) p = tL head xs t0 i p := fun p hp' => hagree p (by simp [hp'])
            -- an operation that the evaluator carries out on the memory at hand
            have go : ∀ mNew, ((tag = 1 ∧ mNew = ms (i + 1)) ∨ (tag ≠ 1 ∧ mNew = ms k)) → tag ≠ 2 → EO C.T (tD head xs t0 (fun j => listed.getD j false)) (ms k) ao.op = some (x, mNew) →
                o.wp P a w (wpAny P .any ops Q fuel (listed.setIfInBounds i true)) Q := by
              intro mNew hm htag2 hEO
              obtain ⟨av, m', hK, hok⟩ := evalOp_ok (keep := C.keep) (N := N) (args := args) (w0 := w) (c0 := c) (Z := Z) (o := o) (st := ⟨tD head xs t0 (fun j => listed.getD j false), ms k⟩) (K := mk2) hT hco hEO
              simp only [mk2, Option.some.injEq, Prod.mk.injEq] at hK
              obtain ⟨rfl, rfl⟩ := hK
              have hnow : WInv w c Z w c := hin.win.now
              refine hok hs c a w ⟨hin.mem, hin.tmp, hnow, hin.defers, hin.size, hin.keep⟩ _ Q fun v w' ⟨hs', c', e1, e2, e3, e4⟩ => ?_
              have hcomp := hd.win.compose hd.pend.lt e4
              have hsame := hnow.zsame e4
              have hcps : ∀ b ∈ cp, w'.heap[b]? = w.heap[b]? := fun b hb => by
                refine e4.frame b (hd.pend.lt b hb) fun hbc => ?_
                have h1 := hd.win.cnt b
                simp only [List.count_append] at h1
                have h2 := List.count_pos_iff.2 hb
                have h3 := List.count_pos_iff.2 hbc
                omega
              rw [← hde]
              obtain ⟨cp', p1, p2⟩ := hfl (a' := a.put ao.dst v) (w' := w') (cn := []) (fun p hp' => put_get_ne hp') hsame hcps (fun e => absurd e htag2)
              refine cont _ w' hs' c' cp' m' hm (sinv_put hin hdl hmay e2 e3 (hcomp.less fun b => by simp only [List.count_append]; omega) e1) p1 (hcomp.less fun b => by have := p2 b; simp only [List.append_nil, List.count_append] at *; omega)
            rcases hrun with ⟨h0, m1, h1, h2, h3⟩ | ⟨h0, h1, h2⟩ | ⟨h0, h1, h2, h3⟩
            · have h0 : tag = 0 := by
                rcases h0 with h0 | h0
                · exact h0
                · exact absurd ((tag_of hp).trans h0) htn3
              subst h0
              obtain ⟨l, hl⟩ := ms_prefix hst hf k hd.le
              obtain ⟨rfl, h4⟩ := light_ext (by simpa [tagOk] using htag) h1 h2
              have := h4 l
              rw [← hl, ← EO_congr hrd] at this
              exact go (ms k) (.inr ⟨by simp, rfl⟩) (by simp) this
            · subst h0
              rw [(hheavy rfl).2, ← EO_congr hrd] at h2
              exact go (ms (i + 1)) (.inl ⟨rfl, rfl⟩) (by simp) h2
            · -- a new variable
              have htag2 : tag = 2 := by
                unfold tagOk at htag
                split at htag
                · exact absurd rfl h0.1
                · exact absurd rfl h1
                · exact absurd rfl h0.2
                · rfl
                · simp at htag
              subst htag2
              subst h2
              simp only [tagOk, Bool.and_eq_true] at htag
              obtain ⟨⟨_, hds⟩, hal⟩ := htag
              obtain ⟨d, hd'⟩ := Option.isSome_iff_exists.1 hds
              split at hal
              · rename_i zero hzero
                rw [hzero] at hco
                generalize hop : o.op = op at hco
                cases op <;> simp only [chkOp] at hco <;> try (simp at hco; done)
                rename_i ty
                obtain ⟨ti, z, hi1, hi2, hi3⟩ := chkZero_some hco
                have hrun : (execOp a.eval o).run P w = .ok (.value (.pointer (some ⟨w.heap.size, 0, none⟩))) { w with heap := w.heap.push (.cells z.cells ty) } := by
                  simp [execOp, hop, Instr.alloc, run_zeroValue hi1 hi2, newVar, newRow, newObj, Sem.run]
                unfold Oper.wp
                rw [hrun]
                rw [Oper.upon_value, ← hde]
                have hheap : ({ w with heap := w.heap.push (.cells z.cells ty) } : World).heap = w.heap.push (.cells z.cells ty) := rfl
                obtain ⟨q1, q2, q3⟩ := push_get hheap
                have hlt : ∀ b ∈ c ++ cp, b < w.heap.size := fun b hb => by
                  rcases List.mem_append.1 hb with hb | hb
                  · exact hin.mem.lt b hb
                  · exact hd.pend.lt b hb
                have hz : ∀ b, Z b → ({ w with heap := w.heap.push (.cells z.cells ty) } : World).heap[b]? = w.heap[b]? := fun b hb => q1 b (by have := hin.win.zlt b hb; have := hin.win.size; omega)
                have hwin' := hd.win.push hlt hheap
                have hcr := chkZ_ok (w := { w with heap := w.heap.push (.cells z.cells ty) }) (Z := Z) (hs := []) hi3
                have hzl : z.cells.size = zero.length := by
                  have := hcr.length
                  simpa using this
                obtain ⟨cp', p1, p2⟩ := hfl (a' := a.put ao.dst (.pointer (some ⟨w.heap.size, 0, none⟩))) (w' := { w with heap := w.heap.push (.cells z.cells ty) }) (cn := [w.heap.size]) (fun p hp' => put_get_ne hp') hz
                  (fun b hb => q1 b (hlt b (by simp [hb]))) (fun _ => ⟨d, zero, hd', hzero, by
                    have hdN := hdl d hd'
                    have : (a.put ao.dst (.pointer (some ⟨w.heap.size, 0, none⟩))).tmps.getD d undef = .pointer (some ⟨w.heap.size, 0, none⟩) := by
                      rw [hd']
                      simp [Act.put, hin.size, hdN]
                    rw [this]
                    exact .b ⟨z.cells, ty, (0, 0), q2, fun k v h => by simpa using h⟩ ⟨z.cells, ty, (0, 0), q2, by simp [hzl], fun k _ _ => by simp⟩ hcr⟩)
                refine cont _ _ hs c cp' (ms k) (.inr ⟨by simp, rfl⟩) (sinv_put hin hdl hmay (hin.mem.frame (fun _ h => h) hz (fun b hb => q1 b (hlt b (by simp [hb]))) (Ext.refl _)) .u (hwin'.less fun b => by simp only [List.count_append]; omega) (Ext.refl _)) p1
                  (hwin'.less fun b => by have := p2 b; simp only [List.count_append] at *; omega)
              · simp at hal
      by_cases hpri : ∃ i, i ∈ Region.ready .any ops listed ∧ tagH head i = 3
      · obtain ⟨i, hi, ht3⟩ := hpri
        have hih : i < head.length := by
          rcases Nat.lt_or_ge i head.length with h | h
          · exact h
          · simp [tagH, List.getElem?_eq_none h] at ht3
        obtain ⟨o, v, ho, hfr, hy, hw⟩ := (main i hi hih).2 ht3
        exact wpAny_first ho (Region.noSelect_spec hst.nosel) (fun c a w h => absurd h (hQ c _ w)) fuel listed a w (fun j oj hj hne hun hno => by
          have hjl : j < ops.size := (Array.getElem?_eq_some_iff.1 hj).1
          have h1 := List.all_eq_true.1 hfr j (by simp [hjl])
          simp only [Bool.or_eq_true, beq_iff_eq] at h1
          rcases h1 with ((h1 | h1) | h1) | h1
          · exact absurd h1 hne
          · exfalso
            obtain ⟨_, o2, ho2, hall2⟩ := mem_ready.1 hi
            rw [ho] at ho2
            cases ho2
            have := anc_listed hcl ops.size (fun k hb => by
              obtain ⟨e, e1, e2, e3⟩ := (bindsB_ok ho).1 hb
              subst e3
              exact hall2 e e1 e2) h1
            rw [getD_true_false (by omega)] at hun
            rw [hun] at this
            simp at this
          · exfalso
            obtain ⟨e, e1, e2, e3⟩ := (bindsB_ok hj).1 h1
            exact hno e e1 e2 e3
          · rw [ho, hj] at h1
            exact h1) hi hy hw
      · refine ⟨fun h0 => by rw [h0] at hqready; simp at hqready, fun i hi => ?_⟩
        obtain ⟨hun, o, ho, hall⟩ := mem_ready.1 hi
        have hilt : i < ops.size := (Array.getElem?_eq_some_iff.1 ho).1
        have hih : i < head.length := by
          rcases Nat.lt_or_ge i head.length with h | h
          · exact h
          · exfalso
            have hdir : ∀ j, bindsB ops i j = true → listed.getD j false = true := fun j hb => by
              obtain ⟨e, e1, e2, e3⟩ := (bindsB_ok ho).1 hb
              subst e3
              exact hall e e1 e2
            rcases hst.anc i h hilt q (by omega) with h1 | ⟨h1, h2⟩
            · have := anc_listed hcl ops.size hdir h1
              rw [hqu] at this
              simp at this
            · exact hpri ⟨q, hqready, h1⟩
        exact (main i hi hih).1 fun h => hpri ⟨i, hi, h⟩
end
end Go.Am
