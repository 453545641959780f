/- AM: a list of operations, one behind the other. Nothing is assumed. -/
import Derived.Test.YtgnicnelpcndgaaAmRest
import Derived.Tactics
set_option linter.unusedVariables false
set_option linter.unusedSimpArgs false
namespace Go.Am
/-- The operations of a region beside the code's. -/
def chkDst (N : Nat) : Option Nat → Option Tmp → Bool
  | none, none => true
  | some i, some j => i == j && Nat.blt i N
  | _, _ => false
def chkGuard (ops : Array Oper) : Option (Nat × Bool) → Option (Nat × Bool) → Bool
  | none, none => true
  | some (i, b), some (j, b') => b == b' && (match ops[j]? with | some o => o.dst == some i | none => false)
  | _, _ => false
def chkOpers (P : Program) (sg : Sigs) (N : Nat) (ops : Array Oper) : List Oper → List AOper → Bool
  | [], [] => true
  | o :: os, a :: as => chkDst N a.dst o.dst && chkGuard ops a.guard o.guard && chkOp P sg a.op o.op && chkOpers P sg N ops os as
  | _, _ => false
section
variable {P : Program} {sg : Sigs} {N : Nat} {args : Nat → Value} {w0 : World} {c0 : List Nat} {Z : Nat → Prop} {C : Ctx}
theorem chkDst_ok {x : Option Nat} {y : Option Tmp} (h : chkDst N x y = true) : x = y ∧ ∀ d, x = some d → d < N := by
  unfold chkDst at h
  split at h
  · exact ⟨rfl, by simp⟩
  · simp only [Bool.and_eq_true, beq_iff_eq] at h
    obtain ⟨rfl, h⟩ := h
    exact ⟨rfl, fun d hd => by cases hd; exact Nat.blt_eq.mp h⟩
  · simp at h
theorem SInv.tmps_same {X : Nat → Prop} {keep : List Nat} {hs : List Hd} {c : List Nat} {st : St} {a : Act} {w : World} (h : SInv X keep N args w0 c0 Z hs c st a w) {t : Tmps} (ht : ∀ i, t i = st.t i) :
    SInv X keep N args w0 c0 Z hs c ⟨t, st.m⟩ a w := ⟨h.mem, fun i => by simp only [ht]; exact h.tmp i, h.win, h.defers, h.size, h.keep⟩
theorem upd_same {t : Tmps} {j : Nat} {x : AV} (h : t j = x) : ∀ i, upd t j x i = t i := fun i => by
  unfold upd
  cases hb : Nat.beq i j with
  | false => rfl
  | true =>
    have := Nat.eq_of_beq_eq_true hb
    subst this
    exact h.symm
/-- What one operation does to what holds. -/
theorem step_ok {R : Type} {r : R} {st : St} {o : Oper} {ao : AOp} {dst : Option Nat} {K : AV → Mem → Option R} (hT : Good P sg C.T) (hc : chkOp P sg ao o.op = true)
    (hd : chkDst N dst o.dst = true) (hk : mayPut C.keep dst = true) (h : evalOp C.T st.t st.m ao K = some r) :
    ∃ x m, K x m = some r ∧ ∀ (hs : List Hd) (c : List Nat) (a : Act) (w : World), SInv sg.X C.keep N args w0 c0 Z hs c st a w → ∀ (next : Act → World → Prop) (Q : Exit → Act → World → Prop),
      (∀ hs' c' a' w', SInv sg.X C.keep N args w0 c0 Z hs' c' ⟨put st.t dst x, m⟩ a' w' → next a' w') → o.wp P a w next Q := by
  obtain ⟨x, m, hK, hok⟩ := evalOp_ok (keep := C.keep) (N := N) (args := args) (w0 := w0) (c0 := c0) (Z := Z) hT hc h
  obtain ⟨hde, hdl⟩ := chkDst_ok hd
  refine ⟨x, m, hK, fun hs c a w hin next Q hn => hok hs c a w hin next Q fun v w' ⟨hs', c', e1, e2, e3, e4⟩ => hn hs' c' _ _ ?_⟩
  rw [← hde]
  exact sinv_put hin hdl hk e2 e3 e4 e1
theorem yielded_of {ops : Array Oper} {tmps : Array Value} {i j : Nat} {o : Oper} (ho : ops[j]? = some o) (hd : o.dst = some i) (hi : i < tmps.size) :
    yielded ops tmps j = match tmps.getD i undef with | .bool b => some b | _ => none := by
  unfold yielded
  have : tmps[i]? = some (tmps.getD i undef) := by
    rw [Array.getD_eq_getD_getElem?, Array.getElem?_eq_getElem hi]
    rfl
  simp only [ho, Option.bind_some, hd, this]
  split <;> simp_all
theorem evalOps_ok {R : Type} {r : R} {K : St → Option R} (hT : Good P sg C.T) {ops : Array Oper} (os : List Oper) : ∀ {aos : List AOper} {st : St}, chkOpers P sg N ops os aos = true →
    (∀ (j : Nat) (o : Oper), ops[j]? = some o → ∀ d, o.dst = some d → d < N) → evalOps C aos st K = some r →
    ∃ st', K st' = some r ∧ ∀ (hs : List Hd) (c : List Nat) (a : Act) (w : World), SInv sg.X C.keep N args w0 c0 Z hs c st a w → ∀ (Q : Exit → Act → World → Prop),
      (∀ hs' c' a' w', SInv sg.X C.keep N args w0 c0 Z hs' c' st' a' w' → Q .normal a' w') → wpList P ops Q os a w := by
  induction os with
  | nil =>
    intro aos st hc hops h
    cases aos with
    | cons => simp [chkOpers] at hc
    | nil => exact ⟨st, h, fun hs c a w hin Q hQ => wpList_nil (hQ hs c a w hin)⟩
  | cons o os ih =>
    intro aos st hc hops h
    cases aos with
    | nil => simp [chkOpers] at hc
    | cons ao aos =>
      obtain ⟨dst, aop, guard⟩ := ao
      simp only [chkOpers, Bool.and_eq_true] at hc
      obtain ⟨⟨⟨hd, hg⟩, hop⟩, hc⟩ := hc
      simp only [evalOps] at h
      cases hk : mayPut C.keep dst with
      | false => simp [hk] at h
      | true =>
        simp only [hk, cond_true] at h
        cases guard with
        | none =>
          have hgn : o.guard = none := by
            unfold chkGuard at hg
            split at hg
            · rename_i e; exact e
            · simp_all
            · simp at hg
          simp only at h
          obtain ⟨x, m, h1, g1⟩ := step_ok (N := N) (args := args) (w0 := w0) (c0 := c0) (Z := Z) hT hop hd hk h
          obtain ⟨st', h2, g2⟩ := ih hc hops h1
          exact ⟨st', h2, fun hs c a w hin Q hQ => wpList_plain hgn fun K' hK' => g1 hs c a w hin K' Q fun hs' c' a' w' hin' => hK' _ _ (g2 hs' c' a' w' hin' Q hQ)⟩
        | some g =>
          obtain ⟨j, b⟩ := g
          obtain ⟨jj, hog, og, hoo, hod⟩ : ∃ jj, o.guard = some (jj, b) ∧ ∃ og, ops[jj]? = some og ∧ og.dst = some j := by
            unfold chkGuard at hg
            split at hg
            · simp_all
            · rename_i i b1 jj b2 e1 e2
              simp only [Option.some.injEq, Prod.mk.injEq] at e1
              obtain ⟨rfl, rfl⟩ := e1
              simp only [Bool.and_eq_true, beq_iff_eq] at hg
              obtain ⟨rfl, hg⟩ := hg
              split at hg
              · rename_i og hoo
                exact ⟨jj, e2, og, hoo, by simpa using hg⟩
              · simp at hg
            · simp at hg
          have hj : j < N := hops _ _ hoo _ hod
          have hy : ∀ (hs : List Hd) (c : List Nat) (a : Act) (w : World), SInv sg.X C.keep N args w0 c0 Z hs c st a w → yielded ops a.tmps jj = match a.tmps.getD j undef with | .bool b => some b | _ => none :=
            fun hs c a w hin => yielded_of hoo hod (by rw [hin.size]; exact hj)
          have skip : ∀ {st1 : St}, (∀ i, st1.t i = st.t i) → st1.m = st.m → (∀ (hs : List Hd) (c : List Nat) (a : Act) (w : World), SInv sg.X C.keep N args w0 c0 Z hs c st a w → ¬ Region.wanted o (yielded ops a.tmps) = true) →
              evalOps C aos ⟨put st1.t dst .n, st1.m⟩ K = some r → ∃ st', K st' = some r ∧ ∀ (hs : List Hd) (c : List Nat) (a : Act) (w : World), SInv sg.X C.keep N args w0 c0 Z hs c st a w → ∀ (Q : Exit → Act → World → Prop),
                (∀ hs' c' a' w', SInv sg.X C.keep N args w0 c0 Z hs' c' st' a' w' → Q .normal a' w') → wpList P ops Q (o :: os) a w := by
            intro st1 ht hm hnw h
            obtain ⟨st', h2, g2⟩ := ih hc hops h
            refine ⟨st', h2, fun hs c a w hin Q hQ => wpList_step fun K' hK' => ?_⟩
            rw [if_neg (hnw hs c a w hin)]
            obtain ⟨hde, hdl⟩ := chkDst_ok hd
            rw [← hde]
            have hin1 : SInv sg.X C.keep N args w0 c0 Z hs c st1 a w := by
              have := hin.tmps_same ht
              rw [← hm] at this
              exact this
            exact hK' _ _ (g2 _ _ _ _ (sinv_put hin1 hdl hk hin1.mem .n hin1.win (Ext.refl _)) Q hQ)
          simp only at h
          split at h
          · rename_i x hx
            cases hxb : (x == b) with
            | true =>
              simp only [hxb, cond_true] at h
              have hxb : x = b := by simpa using hxb
              subst hxb
              have hsame := upd_same hx
              obtain ⟨x', m, h1, g1⟩ := step_ok (N := N) (args := args) (w0 := w0) (c0 := c0) (Z := Z) (st := ⟨upd st.t j (.v (.bool x)), st.m⟩) hT hop hd hk h
              obtain ⟨st', h2, g2⟩ := ih hc hops h1
              refine ⟨st', h2, fun hs c a w hin Q hQ => wpList_step fun K' hK' => ?_⟩
              have hin1 := hin.tmps_same hsame
              have hw : Region.wanted o (yielded ops a.tmps) = true := by
                have h3 := hin.tmp j
                rw [hx] at h3
                have h4 := val_of h3
                simp [Region.wanted, hog, hy hs c a w hin, h4]
              rw [if_pos hw]
              exact g1 hs c a w hin1 K' Q fun hs' c' a' w' hin' => hK' _ _ (g2 hs' c' a' w' hin' Q hQ)
            | false =>
              simp only [hxb, cond_false] at h
              have hxb : x = !b := by
                cases x <;> cases b <;> simp_all
              subst hxb
              refine skip (st1 := ⟨upd st.t j (.v (.bool !b)), st.m⟩) (upd_same hx) rfl (fun hs c a w hin => ?_) h
              have h3 := hin.tmp j
              rw [hx] at h3
              have h4 := val_of h3
              simp [Region.wanted, hog, hy hs c a w hin, h4]
          · rename_i hx
            refine skip (st1 := st) (fun _ => rfl) rfl (fun hs c a w hin => ?_) h
            have h3 := hin.tmp j
            rw [hx] at h3
            generalize hu : a.tmps.getD j undef = u at h3
            cases h3
            have h5 : yielded ops a.tmps jj = none := by rw [hy hs c a w hin, hu]; rfl
            simp [Region.wanted, hog, h5]
          · simp at h
end
end Go.Am
