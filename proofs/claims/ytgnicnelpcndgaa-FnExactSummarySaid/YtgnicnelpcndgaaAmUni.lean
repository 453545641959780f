/- AM: what an operation yields does not hang on what follows. Nothing is assumed. -/
import Derived.Test.YtgnicnelpcndgaaAmOp
set_option linter.unusedVariables false
set_option linter.unusedSimpArgs false
namespace Go.Am
section
variable {R : Type}
theorem tst_uni {b : Bool} {A : Type} {f : Option A} {K : A → Option R} : tst b (f.bind K) = (tst b f).bind K := by cases b <;> rfl
theorem look_uni {rows : Rows} {i : Nat} {K : Row → Option R} : look rows i K = rows[i]?.bind K := by unfold look; cases rows[i]? <;> rfl
theorem cell_uni {row : Row} {i : Nat} {K : D → Option R} : cell row i K = row[i]?.bind K := by unfold cell; cases row[i]? <;> rfl
theorem nth_uni {xs : List I} {i : Nat} {K : I → Option R} : nth xs i K = xs[i]?.bind K := by unfold nth; cases xs[i]? <;> rfl
theorem callT_uni {T : Table} {fn : Nat} {xs : List I} {K : Out → Option R} : callT T fn xs K = (T fn xs).bind K := by unfold callT; cases T fn xs <;> rfl
theorem byteAt_uni {s : ByteArray} {i : Nat} {K : UInt8 → Option R} : byteAt s i K = s.toList[i]?.bind K := by unfold byteAt; cases s.toList[i]? <;> rfl
def dI' (k : IntKind) (d : D) : Option Int := match d with | .v (.int k' n) => if k' = k then some n else none | _ => none
def dB' (d : D) : Option Bool := match d with | .v (.bool b) => some b | _ => none
def dS' (d : D) : Option ByteArray := match d with | .v (.string s) => some s | _ => none
def dL' (wd : Nat) (d : D) : Option Rows := match d with | .s wd' rows => if wd' = wd then some rows else none | _ => none
theorem dI_uni {k : IntKind} {d : D} {K : Int → Option R} : dI k d K = (dI' k d).bind K := by
  cases d with
  | s => rfl
  | v x => cases x <;> first | rfl | (simp only [dI, dI']; split <;> rfl)
theorem dB_uni {d : D} {K : Bool → Option R} : dB d K = (dB' d).bind K := by
  cases d with
  | s => rfl
  | v x => cases x <;> rfl
theorem dS_uni {d : D} {K : ByteArray → Option R} : dS d K = (dS' d).bind K := by
  cases d with
  | s => rfl
  | v x => cases x <;> rfl
theorem dL_uni {wd : Nat} {d : D} {K : Rows → Option R} : dL wd d K = (dL' wd d).bind K := by
  cases d with
  | v => rfl
  | s => simp only [dL, dL']; split <;> rfl
def oD' (x : I) : Option D := match x with | .d d => some d | _ => none
def oG' (x : I) : Option Row := match x with | .g d => some d | _ => none
def oT' (x : I) : Option (List I) := match x with | .t d => some d | _ => none
theorem oD_uni {x : I} {K : D → Option R} : oD x K = (oD' x).bind K := by cases x <;> rfl
theorem oG_uni {x : I} {K : Row → Option R} : oG x K = (oG' x).bind K := by cases x <;> rfl
theorem oT_uni {x : I} {K : List I → Option R} : oT x K = (oT' x).bind K := by cases x <;> rfl
theorem ldF_uni {k : Kd} {d : D} {K : AV → Option R} : ldF k d K = (ldF k d some).bind K := by
  cases k <;> simp only [ldF, dI_uni, dB_uni, dS_uni, dL_uni, Option.bind_assoc, Option.bind_some]
theorem ldFs_uni {ks : List Kd} : ∀ {R : Type} {row : Row} {c : Nat} {K : List AV → Option R}, ldFs ks row c K = (ldFs ks row c some).bind K := by
  induction ks with
  | nil => intro R row c K; rfl
  | cons k ks ih =>
    intro R row c K
    simp only [ldFs, cell_uni, Option.bind_assoc]
    congr 1
    funext d
    rw [ldF_uni, ldF_uni (K := fun x => ldFs ks row (c + 1) fun xs => some (x :: xs)), Option.bind_assoc]
    congr 1
    funext x
    rw [ih, ih (K := fun xs => some (x :: xs)), Option.bind_assoc]
    rfl
theorem tst_uni1 {c : Bool} {A : Type} {K : A → Option R} {a : A} : tst c (K a) = (tst c (some a)).bind K := by cases c <;> rfl
abbrev pr {A B : Type} (K : A → B → Option R) : A × B → Option R := fun p => K p.1 p.2
abbrev mk2 {A B : Type} : A → B → Option (A × B) := fun a b => some (a, b)
theorem tst_uni2 {c : Bool} {A B : Type} {K : A → B → Option R} {a : A} {b : B} : tst c (K a b) = (tst c (mk2 a b)).bind (pr K) := by cases c <;> rfl
theorem sameKind_uni1 {k k' : IntKind} {A : Type} {K : A → Option R} {a : A} : sameKind k k' (K a) = (sameKind k k' (some a)).bind K := by
  unfold sameKind
  split <;> rfl
theorem sameKind_uni2 {k k' : IntKind} {A B : Type} {K : A → B → Option R} {a : A} {b : B} : sameKind k k' (K a b) = (sameKind k k' (mk2 a b)).bind (pr K) := by
  unfold sameKind
  split <;> rfl
theorem ldO_uni {k : Kd} {m : Mem} {id i c : Nat} {K : AV → Mem → Option R} : ldO k m id i c K = (ldO k m id i c mk2).bind (pr K) := by
  unfold ldO
  split
  · rfl
  · split
    · rfl
    · cases k <;> simp only [look_uni, cell_uni, dI_uni, dB_uni, dS_uni, dL_uni, Option.bind_assoc, Option.bind_some]
theorem ldOs_uni {ks : List Kd} : ∀ {R : Type} {m : Mem} {id i c : Nat} {K : List AV → Mem → Option R}, ldOs ks m id i c K = (ldOs ks m id i c mk2).bind (pr K) := by
  induction ks with
  | nil => intro R m id i c K; rfl
  | cons k ks ih =>
    intro R m id i c K
    simp only [ldOs]
    rw [ldO_uni, ldO_uni (K := fun x m => ldOs ks m id i (c + 1) fun xs m => mk2 (x :: xs) m), Option.bind_assoc]
    congr 1
    funext p
    simp only [pr]
    rw [ih, ih (K := fun xs m => mk2 (p.1 :: xs) m), Option.bind_assoc]
    rfl
theorem sameKind_uni {k k' : IntKind} {A : Type} {f : Option A} {K : A → Option R} : sameKind k k' (f.bind K) = (sameKind k k' f).bind K := by
  unfold sameKind
  split <;> rfl
theorem binI_uni {op : BinOp} {k : IntKind} {a b : Int} {K : Value → Option R} : binI op k a b K = (binI op k a b some).bind K := by
  cases op <;> simp only [binI] <;> first | rfl | exact tst_uni1
theorem binS_uni {op : BinOp} {a b : ByteArray} {K : Value → Option R} : binS op a b K = (binS op a b some).bind K := by
  cases op <;> simp only [binS] <;> first | rfl | exact tst_uni1
theorem binV_uni {op : BinOp} {a b : Value} {K : Value → Option R} : binV op a b K = (binV op a b some).bind K := by
  unfold binV
  split
  · rw [binI_uni, sameKind_uni]
  · exact binS_uni
  · rfl
theorem unV_uni {op : UnOp} {a : Value} {K : Value → Option R} : unV op a K = (unV op a some).bind K := by
  unfold unV
  split <;> rfl
theorem ret1uni {m : Mem} {x : Option AV} {K : AV → Mem → Option R} : ret1 K m x = (x.map fun y => (y, m)).bind (pr K) := by
  cases x <;> rfl
theorem backCells_uni {m0 : Mem} (xs : List AV) : ∀ {m : Mem} {row : Row} {c : Nat} {K : Mem → Option R}, backCells m0 m xs row c K = (backCells m0 m xs row c some).bind K := by
  induction xs with
  | nil => intro m row c K; rfl
  | cons x xs ih =>
    intro m row c K
    cases x <;> simp only [backCells] <;> try exact ih
    split
    · simp only [cell_uni, dL_uni, Option.bind_assoc]
      congr 1
      funext d
      congr 1
      funext rows
      exact ih
    · rfl
theorem backI_uni {m0 m : Mem} {x : AV} {i : I} {K : Mem → Option R} : backI m0 m x i K = (backI m0 m x i some).bind K := by
  unfold backI
  split
  · simp only [oG_uni, Option.bind_assoc]
    congr 1
    funext row
    exact backCells_uni _
  · split
    · simp only [oD_uni, dL_uni, Option.bind_assoc, Option.bind_some]
    · rfl
  · rfl
theorem backArgs_uni {m0 : Mem} (ms : List Mode) : ∀ {m : Mem} {xs : List AV} {is : List I} {j : Nat} {K : Mem → Option R}, backArgs m0 m ms xs is j K = (backArgs m0 m ms xs is j some).bind K := by
  induction ms with
  | nil => intro m xs is j K; simp only [backArgs]; rfl
  | cons md ms ih =>
    intro m xs is j K
    cases xs with
    | nil => cases md <;> simp only [backArgs] <;> rfl
    | cons x xs =>
      cases md with
      | rd => simp only [backArgs]; exact ih
      | own => simp only [backArgs]; exact ih
      | lent =>
        simp only [backArgs, nth_uni, Option.bind_assoc]
        congr 1
        funext i
        rw [backI_uni, backI_uni (K := fun m => backArgs m0 m ms xs is (j + 1) some), Option.bind_assoc]
        congr 1
        funext m'
        exact ih
theorem outCell_uni {fz : Bool} {k : Kd} {d : D} {m : Mem} {K : AV → Mem → Option R} : outCell fz k d m K = (outCell fz k d m mk2).bind (pr K) := by
  cases k <;> simp only [outCell, dI_uni, dB_uni, dS_uni, dL_uni, Option.bind_assoc, Option.bind_some]
  cases fz <;> simp
theorem outCells_uni {fz : Bool} {ks : List Kd} : ∀ {R : Type} {row : Row} {c : Nat} {m : Mem} {K : List AV → Mem → Option R}, outCells fz ks row c m K = (outCells fz ks row c m mk2).bind (pr K) := by
  induction ks with
  | nil => intro R row c m K; rfl
  | cons k ks ih =>
    intro R row c m K
    simp only [outCells, cell_uni, Option.bind_assoc]
    congr 1
    funext d
    rw [outCell_uni, outCell_uni (K := fun x m => outCells fz ks row (c + 1) m fun xs m => mk2 (x :: xs) m), Option.bind_assoc]
    congr 1
    funext p
    simp only [pr]
    rw [ih, ih (K := fun xs m => mk2 (p.1 :: xs) m), Option.bind_assoc]
    rfl
theorem outOne_uni {fz : Bool} {k : RK} {x : I} {m : Mem} {K : AV → Mem → Option R} : outOne fz k x m K = (outOne fz k x m mk2).bind (pr K) := by
  cases k with
  | c k =>
    simp only [outOne, oD_uni, Option.bind_assoc]
    congr 1
    funext d
    exact outCell_uni
  | g ks =>
    simp only [outOne, oG_uni, Option.bind_assoc]
    congr 1
    funext row
    rw [outCells_uni, outCells_uni (K := fun xs m => mk2 (AV.g xs) m), ← tst_uni, Option.bind_assoc]
    rfl
theorem outMany_uni {fz : Bool} {ks : List RK} : ∀ {R : Type} {is : List I} {j : Nat} {m : Mem} {K : List AV → Mem → Option R}, outMany fz ks is j m K = (outMany fz ks is j m mk2).bind (pr K) := by
  induction ks with
  | nil => intro R is j m K; rfl
  | cons k ks ih =>
    intro R is j m K
    simp only [outMany, nth_uni, Option.bind_assoc]
    congr 1
    funext d
    rw [outOne_uni, outOne_uni (K := fun x m => outMany fz ks is (j + 1) m fun xs m => mk2 (x :: xs) m), Option.bind_assoc]
    congr 1
    funext p
    simp only [pr]
    rw [ih, ih (K := fun xs m => mk2 (p.1 :: xs) m), Option.bind_assoc]
    rfl
theorem outAll_uni {fz : Bool} {ks : List RK} {x : I} {m : Mem} {K : AV → Mem → Option R} : outAll fz ks x m K = (outAll fz ks x m mk2).bind (pr K) := by
  unfold outAll
  split
  · exact outOne_uni
  · simp only [oT_uni, Option.bind_assoc]
    congr 1
    funext is
    rw [outMany_uni, outMany_uni (K := fun xs m => mk2 (AV.t xs) m), ← tst_uni, Option.bind_assoc]
    rfl
theorem callOp_uni {T : Table} {m : Mem} {modes : List Mode} {fz : Bool} {res : List RK} {fn : Nat} {xs : List AV} {more : Mem → Option (List I)} {K : AV → Mem → Option R} :
    callOp T m modes fz res fn xs more K = (callOp T m modes fz res fn xs more mk2).bind (pr K) := by
  unfold callOp
  split
  · split
    · rfl
    · simp only [callT_uni, Option.bind_assoc]
      congr 1
      funext o
      rw [backArgs_uni, backArgs_uni (K := fun m2 => outAll fz res o.res m2 mk2), Option.bind_assoc]
      congr 1
      funext m2
      exact outAll_uni
  · rfl
theorem rowsOf_uni {b : Bool} {wd : Nat} {m : Mem} {x : AV} {K : Rows → Opens → Mem → Option R} : rowsOf b wd m x K = (rowsOf b wd m x fun r o m => some (r, o, m)).bind fun p => K p.1 p.2.1 p.2.2 := by
  unfold rowsOf
  split
  · cases (b && Nat.beq _ wd) <;> simp only [cond_true, cond_false]
    · rfl
    · cases flatRows _ <;> rfl
  · rfl
  · split
    · cases Nat.beq _ wd <;> rfl
    · rfl
  · rfl
theorem rowsOf_cong {A : Type} {b : Bool} {wd : Nat} {m : Mem} {x : AV} {F : Rows → Opens → Mem → Option R} {F' : Rows → Opens → Mem → Option A} {G : A → Option R} (h : ∀ r o m, F r o m = (F' r o m).bind G) :
    rowsOf b wd m x F = (rowsOf b wd m x F').bind G := by
  rw [rowsOf_uni, rowsOf_uni (K := F'), Option.bind_assoc]
  congr 1
  funext p
  exact h _ _ _
end
/-- What an operation yields. -/
def EO (T : Table) (t : Tmps) (m : Mem) (op : AOp) : Option (AV × Mem) := evalOp T t m op mk2
theorem evalOp_uni {R : Type} {T : Table} {t : Tmps} {m : Mem} {op : AOp} {K : AV → Mem → Option R} : evalOp T t m op K = (EO T t m op).bind (pr K) := by
  unfold EO
  cases op with
  | mv x => rfl
  | pick c x y =>
    simp only [evalOp]
    split
    · rename_i b _; cases b <;> rfl
    · rfl
  | box x =>
    simp only [evalOp]
    split
    · rename_i cs _; cases boxable cs <;> rfl
    · rfl
  | alloc zero => rfl
  | build zero ps => simp only [evalOp]; split <;> rfl
  | lit wd rows ps =>
    simp only [evalOp]
    split
    · rfl
    · split <;> rfl
  | load agg ks x =>
    simp only [evalOp]
    split
    · rw [ldOs_uni, ldOs_uni (K := fun xs m => ret1 mk2 m (mkAgg agg xs)), Option.bind_assoc]
      congr 1
      funext p
      simp only [pr]
      rw [ret1uni, ret1uni (K := mk2), Option.bind_assoc]
      rfl
    · rw [ldFs_uni, ldFs_uni (K := fun xs => ret1 mk2 m (mkAgg agg xs)), Option.bind_assoc]
      congr 1
      funext p
      rw [ret1uni, ret1uni (K := mk2), Option.bind_assoc]
      rfl
    · rfl
  | store n x y =>
    simp only [evalOp]
    split
    · cases Nat.beq _ n
      · rfl
      · simp only [cond_true]
        split
        · split <;> rfl
        · rfl
    · rfl
  | bin op x y =>
    simp only [evalOp]
    split
    · rw [binV_uni, binV_uni (K := fun z => mk2 (AV.v z) m), Option.bind_assoc]; rfl
    · rfl
  | beq neg x y => simp only [evalOp]; split <;> rfl
  | geq neg ks x y =>
    simp only [evalOp]
    split
    · split <;> rfl
    · rfl
  | un op x =>
    simp only [evalOp]
    split
    · rw [unV_uni, unV_uni (K := fun z => mk2 (AV.v z) m), Option.bind_assoc]; rfl
    · rfl
  | conv k x =>
    simp only [evalOp]
    split <;> try rfl
    · exact tst_uni2
    · split
      · exact tst_uni2
      · rfl
  | fn f caps => rfl
  | mk zero bytes n c =>
    simp only [evalOp]
    split
    · exact tst_uni2
    · rfl
  | slc wd x lo hi =>
    simp only [evalOp]
    split
    · split
      · exact tst_uni2
      · rfl
    · cases Nat.beq _ _
      · rfl
      · simp only [cond_true]
        split
        · exact tst_uni2
        · rfl
    · rfl
  | fad off x => simp only [evalOp]; split <;> rfl
  | fld agg off n x =>
    simp only [evalOp]
    split
    · cases Nat.ble _ _
      · rfl
      · simp only [cond_true]
        rw [ret1uni, ret1uni (K := mk2), Option.bind_assoc]
        rfl
    · rfl
  | iad wd x i =>
    simp only [evalOp]
    split
    · split
      · cases Nat.beq _ _
        · rfl
        · simp only [cond_true]; exact tst_uni2
      · rfl
    · cases Nat.beq _ _
      · rfl
      · simp only [cond_true, look_uni]
        rw [← tst_uni, Option.bind_assoc]
        rfl
    · rfl
  | idx x i =>
    simp only [evalOp]
    split
    · simp only [byteAt_uni]
      rw [← tst_uni, Option.bind_assoc]
      rfl
    · rfl
  | ext x i =>
    simp only [evalOp]
    split
    · rw [ret1uni, ret1uni (K := mk2), Option.bind_assoc]; rfl
    · rfl
  | call f modes fz res xs =>
    simp only [evalOp]
    split
    · exact callOp_uni
    · exact callOp_uni
    · rfl
  | app wd bytes x y =>
    simp only [evalOp]
    exact rowsOf_cong fun _ _ _ => rowsOf_cong fun _ _ _ => tst_uni2
  | len str x => simp only [evalOp]; split <;> rfl
  | mx x y =>
    simp only [evalOp]
    split
    · exact sameKind_uni2
    · rfl
theorem EO_of {R : Type} {r : R} {T : Table} {t : Tmps} {m : Mem} {op : AOp} {K : AV → Mem → Option R} (h : evalOp T t m op K = some r) : ∃ x m', EO T t m op = some (x, m') ∧ K x m' = some r := by
  rw [evalOp_uni] at h
  obtain ⟨p, h1, h2⟩ := Option.bind_eq_some_iff.1 h
  exact ⟨p.1, p.2, h1, h2⟩
end Go.Am
