/- AM: the same shape under other names; what is the same as itself. Nothing is assumed. -/
import Derived.Test.YtgnicnelpcndgaaAmEv
set_option linter.unusedVariables false
set_option linter.unusedSimpArgs false
namespace Go.Am
def Sh.mp (σ : TypeId → TypeId) : Sh → Sh
  | .sl t => .sl (σ t)
  | k => k
section
variable {E : TypeId → List Sh} {σ : TypeId → TypeId} {L : List TypeId}
mutual
theorem ShD.conv (hE : ∀ t ∈ L, E (σ t) = (E t).map (Sh.mp σ) ∧ slIn L (E t) = true) : ∀ {k : Sh} {d : D}, ShD E k d → slIn L [k] = true → ShD E (k.mp σ) d
  | _, _, .i h0 h1, _ => .i h0 h1
  | _, _, .b, _ => .b
  | _, _, .s h, _ => .s h
  | _, _, .sl (t := t) hl h, hk => by
    have ht : t ∈ L := by simpa [slIn] using hk
    obtain ⟨h1, h2⟩ := hE t ht
    have h3 : (E t).length = (E (σ t)).length := by rw [h1, List.length_map]
    have h4 := ShR.conv hE h h2
    rw [h3]
    exact .sl hl (by rw [h1]; exact h4)
theorem ShL.conv (hE : ∀ t ∈ L, E (σ t) = (E t).map (Sh.mp σ) ∧ slIn L (E t) = true) : ∀ {ks : List Sh} {r : Row}, ShL E ks r → slIn L ks = true → ShL E (ks.map (Sh.mp σ)) r
  | _, _, .nil, _ => .nil
  | _, _, .cons (k := k) (ks := ks) h h', hk => by
    have h1 : slIn L [k] = true ∧ slIn L ks = true := slIn_append (a := [k]) hk
    exact .cons (ShD.conv hE h h1.1) (ShL.conv hE h' h1.2)
theorem ShR.conv (hE : ∀ t ∈ L, E (σ t) = (E t).map (Sh.mp σ) ∧ slIn L (E t) = true) : ∀ {ks : List Sh} {r : Rows}, ShR E ks r → slIn L ks = true → ShR E (ks.map (Sh.mp σ)) r
  | _, _, .nil, _ => .nil
  | _, _, .cons h h', hk => .cons (ShL.conv hE h hk) (ShR.conv hE h' hk)
end
mutual
theorem ShD.refl : ∀ {k : Sh} {d : D}, ShD E k d → eqD d d = true
  | _, _, .i h0 h1 => by simp [eqD]
  | _, _, .b => by simp [eqD]
  | _, _, .s h => by simp [eqD, bytesEq]
  | _, _, .sl (t := t) hl h => by simp [eqD, ShR.refl h]
theorem ShL.refl : ∀ {ks : List Sh} {r : Row}, ShL E ks r → eqRow r r = true
  | _, _, .nil => by simp [eqRow]
  | _, _, .cons (k := k) (ks := ks) h h' => by simp [eqRow, ShD.refl h, ShL.refl h']
theorem ShR.refl : ∀ {ks : List Sh} {r : Rows}, ShR E ks r → eqRows r r = true
  | _, _, .nil => by simp [eqRows]
  | _, _, .cons h h' => by simp [eqRows, ShL.refl h, ShR.refl h']
end
end
end Go.Am
