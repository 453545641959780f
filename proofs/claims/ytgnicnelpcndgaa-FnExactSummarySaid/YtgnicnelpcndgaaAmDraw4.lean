/- AM: a region whose order is open, whole. Nothing is assumed. -/
import Derived.Test.YtgnicnelpcndgaaAmDraw3
set_option linter.unusedVariables false
set_option linter.unusedSimpArgs false
namespace Go.Am
section
variable {P : Program} {sg : Sigs} {N : Nat} {args : Nat → Value} {w0 : World} {c0 : List Nat} {Z : Nat → Prop} {C : Ctx}
/-- To open is no step. -/
theorem evalPre_ok {R : Type} {r : R} {t : Tmps} (pre : List (Nat × Nat × List Kd)) : ∀ {m : Mem} {K : Mem → Option R}, evalPre t pre m K = some r → ∃ m', K m' = some r ∧
    ∀ (hs : List Hd) (c : List Nat) (a : Act) (w : World), SInv sg.X C.keep N args w0 c0 Z hs c ⟨t, m⟩ a w → ∃ hs' c', SInv sg.X C.keep N args w0 c0 Z hs' c' ⟨t, m'⟩ a w := by
  induction pre with
  | nil => intro m K h; exact ⟨m, h, fun hs c a w hin => ⟨hs, c, hin⟩⟩
  | cons p pre ih =>
    obtain ⟨i, off, ks⟩ := p
    intro m K h
    simp only [evalPre] at h
    split at h
    · rename_i id ii cc ht
      obtain ⟨xs, m1, h1, _, g⟩ := ldOs_some (X := sg.X) (Z := Z) h
      obtain ⟨m', h2, g2⟩ := ih h1
      refine ⟨m', h2, fun hs c a w hin => ?_⟩
      have hp := hin.tmp i
      simp only [ht] at hp
      generalize hv : a.tmps.getD i undef = u at hp
      cases hp with
      | @a _ _ _ b o hd hh hb hil =>
        obtain ⟨hs', c', vs, b1, b2, b3, _⟩ := g w hs c hd b o hin.mem hh hb
        exact g2 hs' c' a w ⟨b2, fun i => (hin.tmp i).frame (fun _ h => h) (fun _ _ => rfl) b1, hin.win.less fun x => by rw [b3]; exact Nat.le_refl _, hin.defers, hin.size, hin.keep⟩
    · simp at h
theorem draw_ok {R : Type} {r : R} {K : St → Option R} (hT : Good P sg C.T) {id : Nat} {ops : Array Oper} {pre : List (Nat × Nat × List Kd)} {head : List (Nat × AOper)} {tail : List AOper} {st : St} (hc : chkDraw P sg N ops head tail = true)
    (hdst : ∀ (j : Nat) (o : Oper), ops[j]? = some o → ∀ d, o.dst = some d → d < N) (h : evalDr C pre head tail st K = some r) :
    ∃ st', K st' = some r ∧ ∀ (hs : List Hd) (c : List Nat) (a : Act) (w : World), SInv sg.X C.keep N args w0 c0 Z hs c st a w → ∀ (Q : Exit → Act → World → Prop),
      (∀ hs' c' a' w', SInv sg.X C.keep N args w0 c0 Z hs' c' st' a' w' → Q .normal a' w') → (Code.region id ops true).wp P Q a w := by
  have hst := chkDraw_ok hc
  unfold evalDr at h
  obtain ⟨m0, h1, gp⟩ := evalPre_ok (sg := sg) (N := N) (args := args) (w0 := w0) (c0 := c0) (Z := Z) (C := C) pre h
  obtain ⟨xs, ms, f1, f2, f3, f4⟩ := evalHead_some head h1
  obtain ⟨st', h2, gt⟩ := evalOps_ok (args := args) (w0 := w0) (c0 := c0) (Z := Z) hT (ops.toList.drop head.length) hst.tailC hdst f3
  refine ⟨st', h2, fun hs c a w hin Q hQ => ?_⟩
  obtain ⟨hs1, c1, hin1⟩ := gp hs c a w hin
  have hf : Facts C m0 head xs ms st.t := ⟨f1, f2, f4⟩
  refine wp_mono (Q := fun e a w => e = .normal ∧ Q .normal a w) ?_ fun e a w ⟨he, hq⟩ => by subst he; exact hq
  refine wp_region_any hst.mixed ?_
  have hd0 : ∀ j, (Array.replicate ops.size false).getD j false = false := fun j => by
    simp only [Array.getD_eq_getD_getElem?, Array.getElem?_replicate]
    split <;> rfl
  have hpend : ∀ (l : List (Nat × AOper)) (i : Nat), PendL sg.X { w with drawn := w.drawn + 1 } Z (fun d => a.tmps.getD d undef) (fun j => (Array.replicate ops.size false).getD j false) l i [] := by
    intro l
    induction l with
    | nil => intro i; exact .nil
    | cons p l ih => intro i; exact .skip (fun _ => hd0 i) (ih (i + 1))
  have htm : ∀ i, ARel sg.X { w with drawn := w.drawn + 1 } Z hs1 (tD head xs st.t (fun j => (Array.replicate ops.size false).getD j false) i) (a.tmps.getD i undef) := fun i => by
    by_cases hj : ∃ j, dstH head j = some i
    · obtain ⟨j, hj⟩ := hj
      rw [tD_dst hst.dist hj, hd0]
      exact .u
    · rw [tD_none fun j hj' => hj ⟨j, hj'⟩]
      exact (hin1.tmp i).frame (fun _ h => h) (fun _ _ => rfl) fun _ _ h => h
  have hwin : WInv w0 c0 Z { w with drawn := w.drawn + 1 } c1 := ⟨hin1.win.cnt, hin1.win.dis, hin1.win.zlt, hin1.win.size, hin1.win.own, hin1.win.frame, hin1.win.mute.trans ⟨rfl, rfl, rfl⟩⟩
  refine head_ok (N := N) (args := args) (w0 := w0) (c0 := c0) (Z := Z) hT hst hf (Q := fun e a w => e = .normal ∧ Q .normal a w) (fun c a w h => by simp at h) (fun hs' c' a' w' hin' => gt hs' c' a' w' hin' _ fun hs2 c2 a2 w2 h2 => ⟨rfl, hQ hs2 c2 a2 w2 h2⟩) ops.size _ a _ hs1 c1 [] 0 (unl_le _ _) (by simp) (fun j _ _ => hd0 j)
    (fun i j hi _ => by rw [hd0] at hi; simp at hi) ⟨⟨?_, htm, hwin, hin1.defers, hin1.size, hin1.keep⟩, Nat.zero_le _, fun j hj => by omega, fun j _ _ _ => hd0 j, hpend head 0, by simpa using hwin⟩
  rw [f2]
  exact hin1.mem.frame (fun _ h => h) (fun _ _ => rfl) (fun _ _ => rfl) (Ext.refl _)
end
end Go.Am
