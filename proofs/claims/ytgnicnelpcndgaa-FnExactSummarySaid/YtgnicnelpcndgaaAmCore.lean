/- AM: an abstract evaluator for straight Go code over data. Definitions alone; nothing is assumed. -/
import Derived.Calls
set_option linter.unusedVariables false
set_option linter.unusedSimpArgs false
namespace Go.Am

/-- Closed data: a scalar, or a slice as the list of its rows (a row is an element's cells). -/
inductive D where
  | v (x : Value)
  | s (wd : Nat) (rows : List (List D))
abbrev Row := List D
abbrev Rows := List Row
/-- What crosses a call: data, a struct, a function, a variable behind a pointer, a tuple. -/
inductive I where
  | d (x : D)
  | g (xs : Row)
  | f (fn : Nat) (caps : List I)
  | p (cells : Row)
  | t (xs : List I)
/-- What a temporary holds: a scalar; an own slice at rest; a frozen slice; an opened own array; a struct; an address in an opened array;
 an own variable at rest; an address in frozen memory; a function; a function from without; a tuple; nothing (skipped); nothing known. -/
inductive AV where
  | v (x : Value)
  | o (wd : Nat) (rows : Rows)
  | fz (wd : Nat) (rows : Rows)
  | r (id : Nat)
  | g (xs : List AV)
  | a (id i c : Nat)
  | b (cells : List AV)
  | fa (row : Row) (c : Nat)
  | f (fn : Nat) (caps : List AV)
  | ff (fn : Nat) (caps : List I)
  | t (xs : List AV)
  | n
  | u
abbrev Opens := List ((Nat × Nat) × AV)
/-- An opened array (or a variable: one row). `opens`: cells whose content is not at rest. -/
structure Node where
  wd : Nat
  rows : Rows
  opens : Opens
abbrev Mem := List (Option Node)
/-- What a cell is to hold. -/
inductive Kd where
  | i (k : IntKind)
  | b
  | s
  | sl (wd : Nat)
/-- What a result is to be. -/
inductive RK where
  | c (k : Kd)
  | g (ks : List Kd)
/-- What a temporary at rest is to be. -/
inductive AK where
  | c (k : Kd)
  | o (wd : Nat)
  | b (ks : List AK)
  | g (ks : List AK)
  | u
inductive Mode where | rd | own | lent
  deriving DecidableEq
inductive Ex where | normal | exit (id : Nat) | ret
  deriving DecidableEq
inductive Opd where
  | t (i : Nat)
  | c (x : AV)
  | f (fn : Nat)
inductive CK where | int (k : IntKind) | same | intStr | strBytes | bytesStr
inductive AOp where
  | mv (x : Opd)
  | pick (c a b : Opd)
  | box (x : Opd)
  | alloc (zero : Row)
  | build (zero : Row) (parts : List (Nat × Nat × Opd))
  | lit (wd : Nat) (rows : Rows) (parts : List (Nat × Opd))
  | load (agg : Bool) (ks : List Kd) (x : Opd)
  | store (n : Nat) (x y : Opd)
  | bin (op : BinOp) (x y : Opd)
  | beq (neg : Bool) (x y : Opd)
  | geq (neg : Bool) (ks : List Kd) (x y : Opd)
  | un (op : UnOp) (x : Opd)
  | conv (k : CK) (x : Opd)
  | fn (f : Nat) (caps : List Opd)
  | mk (zero : Row) (bytes : Nat) (n c : Opd)
  | slc (wd : Option Nat) (x : Opd) (lo hi : Option Opd)
  | fad (off : Nat) (x : Opd)
  | fld (agg : Bool) (off n : Nat) (x : Opd)
  | iad (wd : Nat) (x i : Opd)
  | idx (x i : Opd)
  | ext (x : Opd) (i : Nat)
  | call (f : Opd) (modes : List Mode) (fz : Bool) (res : List RK) (args : List Opd)
  | app (wd bytes : Nat) (x y : Opd)
  | len (str : Bool) (x : Opd)
  | mx (x y : Opd)
structure AOper where
  dst : Option Nat
  op : AOp
  guard : Option (Nat × Bool) := none
inductive ACode where
  | skip
  | reg (draw : Bool) (ops : List AOper)
  | dreg (pre : List (Nat × Nat × List Kd)) (head : List (Nat × AOper)) (tail : List AOper)
  | seq (a b : ACode)
  | cond (c : Opd) (x y : ACode)
  | block (id : Nat) (b : ACode)
  | loop (live : List Nat) (exits : List (Ex × List (Nat × AK))) (b : ACode)
  | exit (id : Nat)
  | ret
structure Out where
  res : I
  back : List I
abbrev Table := Nat → List I → Option Out
/-- What a body runs in: the functions it may call, and the temporaries that it must leave alone. -/
structure Ctx where
  T : Table
  keep : List Nat
abbrev Tmps := Nat → AV
structure St where
  t : Tmps
  m : Mem

def upd (t : Tmps) (i : Nat) (x : AV) (j : Nat) : AV := bif Nat.beq j i then x else t j
def put (t : Tmps) (d : Option Nat) (x : AV) : Tmps := match d with | some i => upd t i x | none => t

/-! ### the places where an evaluation may have to wait for data -/
section
variable {R : Type}
def tst (b : Bool) (K : Option R) : Option R := bif b then K else none
def look (rows : Rows) (i : Nat) (K : Row → Option R) : Option R := match rows[i]? with | some r => K r | none => none
def cell (row : Row) (c : Nat) (K : D → Option R) : Option R := match row[c]? with | some d => K d | none => none
def dI (k : IntKind) (d : D) (K : Int → Option R) : Option R := match d with | .v (.int k' n) => if k' = k then K n else none | _ => none
def dB (d : D) (K : Bool → Option R) : Option R := match d with | .v (.bool b) => K b | _ => none
def dS (d : D) (K : ByteArray → Option R) : Option R := match d with | .v (.string s) => K s | _ => none
def dL (wd : Nat) (d : D) (K : Rows → Option R) : Option R := match d with | .s wd' rows => if wd' = wd then K rows else none | _ => none
def cI (k : IntKind) (row : Row) (c : Nat) (K : Int → Option R) : Option R := cell row c fun d => dI k d K
def cB (row : Row) (c : Nat) (K : Bool → Option R) : Option R := cell row c fun d => dB d K
def cS (row : Row) (c : Nat) (K : ByteArray → Option R) : Option R := cell row c fun d => dS d K
def cL (wd : Nat) (row : Row) (c : Nat) (K : Rows → Option R) : Option R := cell row c fun d => dL wd d K
def oD (x : I) (K : D → Option R) : Option R := match x with | .d d => K d | _ => none
def oG (x : I) (K : Row → Option R) : Option R := match x with | .g r => K r | _ => none
def oP (x : I) (K : Row → Option R) : Option R := match x with | .p r => K r | _ => none
def oT (x : I) (K : List I → Option R) : Option R := match x with | .t r => K r | _ => none
def nth (xs : List I) (i : Nat) (K : I → Option R) : Option R := match xs[i]? with | some x => K x | none => none
def aV (xs : List AV) (i : Nat) (K : AV → Option R) : Option R := match xs[i]? with | some x => K x | none => none
def aI (k : IntKind) (x : AV) (K : Int → Option R) : Option R := match x with | .v (.int k' n) => if k' = k then K n else none | _ => none
def aB (x : AV) (K : Bool → Option R) : Option R := match x with | .v (.bool b) => K b | _ => none
def aS (x : AV) (K : ByteArray → Option R) : Option R := match x with | .v (.string s) => K s | _ => none
def aL (wd : Nat) (x : AV) (K : Rows → Option R) : Option R := match x with | .fz wd' rows => if wd' = wd then K rows else none | _ => none
def aO (wd : Nat) (x : AV) (K : Rows → Option R) : Option R := match x with | .o wd' rows => if wd' = wd then K rows else none | _ => none
def aX (x : AV) (K : List AV → Option R) : Option R := match x with | .b xs => K xs | _ => none
def aG (n : Nat) (x : AV) (K : List AV → Option R) : Option R := match x with | .g xs => bif Nat.beq xs.length n then K xs else none | _ => none
def byteAt (s : ByteArray) (i : Nat) (K : UInt8 → Option R) : Option R := match s.toList[i]? with | some b => K b | none => none
def callT (T : Table) (fn : Nat) (xs : List I) (K : Out → Option R) : Option R := match T fn xs with | some o => K o | none => none

/-! ### memory -/
def D.up : D → AV
  | .v x => .v x
  | .s wd rows => .o wd rows
def findO (i c : Nat) : Opens → Option AV
  | [] => none
  | ((i', c'), x) :: l => if c = c' ∧ i = i' then some x else findO i c l
def dropO (i c : Nat) : Opens → Opens
  | [] => []
  | ((i', c'), x) :: l => if c = c' ∧ i = i' then dropO i c l else ((i', c'), x) :: dropO i c l
def hole : D := .v (.bool false)
def setD (rows : Rows) (i c : Nat) (d : D) : Rows := rows.modify i fun row => row.set c d
def getNode (m : Mem) (id : Nat) : Option Node := m[id]?.join
def addO (i c : Nat) (o : Option AV) (l : Opens) : Opens := match o with | none => dropO i c l | some x => ((i, c), x) :: dropO i c l
/-- One cell into a row, and the note of what is not at rest there. -/
def cellIn : AV → Option (D × Option AV)
  | .v x => some (.v x, none)
  | .o wd [] => some (.s wd [], none)
  | .fz wd rows => some (hole, some (.fz wd rows))
  | .r id => some (hole, some (.r id))
  | _ => none
/-- Write cells from a place on. -/
def setCells (n : Node) (i c : Nat) : List AV → Option Node
  | [] => some n
  | x :: xs => match cellIn x with
    | some (d, o) => bif Nat.blt c n.wd then setCells ⟨n.wd, setD n.rows i c d, addO i c o n.opens⟩ i (c + 1) xs else none
    | none => none
/-- A cell in frozen memory. -/
def ldF (k : Kd) (d : D) (K : AV → Option R) : Option R := match k with
  | .i k => dI k d fun n => K (.v (.int k n))
  | .b => dB d fun b => K (.v (.bool b))
  | .s => dS d fun s => K (.v (.string s))
  | .sl wd => dL wd d fun rows => K (.fz wd rows)
def ldFs : List Kd → Row → Nat → (List AV → Option R) → Option R
  | [], _, _, K => K []
  | k :: ks, row, c, K => cell row c fun d => ldF k d fun x => ldFs ks row (c + 1) fun xs => K (x :: xs)
/-- A cell of an opened array; an own slice at rest is opened. -/
def ldO (k : Kd) (m : Mem) (id i c : Nat) (K : AV → Mem → Option R) : Option R := match getNode m id with
  | none => none
  | some n => match findO i c n.opens with
    | some x => K x m
    | none => look n.rows i fun row => cell row c fun d => match k with
      | .i k => dI k d fun n => K (.v (.int k n)) m
      | .b => dB d fun b => K (.v (.bool b)) m
      | .s => dS d fun s => K (.v (.string s)) m
      | .sl wd => dL wd d fun rows => K (.r m.length) (m.set id (some ⟨n.wd, n.rows, ((i, c), .r m.length) :: n.opens⟩) ++ [some ⟨wd, rows, []⟩])
def ldOs : List Kd → Mem → Nat → Nat → Nat → (List AV → Mem → Option R) → Option R
  | [], m, _, _, _, K => K [] m
  | k :: ks, m, id, i, c, K => ldO k m id i c fun x m => ldOs ks m id i (c + 1) fun xs m => K (x :: xs) m
def wakeRow : List AV → Row
  | [] => []
  | .v x :: xs => .v x :: wakeRow xs
  | .o wd rows :: xs => .s wd rows :: wakeRow xs
  | _ :: xs => hole :: wakeRow xs
def wakeOpens (c : Nat) : List AV → Opens
  | [] => []
  | .v _ :: xs => wakeOpens (c + 1) xs
  | .o _ _ :: xs => wakeOpens (c + 1) xs
  | x :: xs => ((0, c), x) :: wakeOpens (c + 1) xs
def boxable : List AV → Bool
  | [] => true
  | .v _ :: xs => boxable xs
  | .o _ [] :: xs => boxable xs
  | .fz _ _ :: xs => boxable xs
  | .r _ :: xs => boxable xs
  | _ => false
def cellsOf : AV → Option (List AV)
  | .g xs => some xs
  | .v x => some [.v x]
  | .o wd rows => some [.o wd rows]
  | .fz wd rows => some [.fz wd rows]
  | .r id => some [.r id]
  | _ => none
def mkAgg (agg : Bool) (xs : List AV) : Option AV := match agg, xs with
  | true, xs => some (.g xs)
  | false, [x] => some x
  | false, _ => none

/-! ### closing and opening -/
def closeOpens (f : Mem → Nat → Option (D × Mem)) : Mem → Rows → Opens → Option (Rows × Mem)
  | m, rows, [] => some (rows, m)
  | m, rows, ((i, c), x) :: l => match x with
    | .r id => match f m id with
      | some (d, m) => closeOpens f m (setD rows i c d) l
      | none => none
    | _ => none
def closeId : Nat → Mem → Nat → Option (D × Mem)
  | 0, _, _ => none
  | k + 1, m, id => match getNode m id with
    | some n => match closeOpens (closeId k) (m.set id none) n.rows n.opens with
      | some (rows, m) => some (.s n.wd rows, m)
      | none => none
    | none => none
def takeId (m : Mem) (id : Nat) : Option (D × Mem) := closeId m.length m id
def takeCell (m : Mem) : AV → Option (D × Mem)
  | .v x => some (.v x, m)
  | .o wd [] => some (.s wd [], m)
  | .r id => takeId m id
  | _ => none
def takeCells (m : Mem) : List AV → Option (Row × Mem)
  | [] => some ([], m)
  | x :: xs => match takeCell m x with
    | some (d, m) => match takeCells m xs with
      | some (ds, m) => some (d :: ds, m)
      | none => none
    | none => none
/-- A variable, taken. -/
def takeVar (m : Mem) (id : Nat) : Option (Row × Mem) := match takeId m id with
  | some (.s _ [row], m) => some (row, m)
  | _ => none
/-- Give away for good: as closed data. -/
def takeI (m : Mem) : AV → Option (I × Mem)
  | .g xs => match takeCells m xs with
    | some (ds, m) => some (.g ds, m)
    | none => none
  | .f fn [] => some (.f fn [], m)
  | .a id 0 0 => match takeVar m id with
    | some (row, m) => some (.p row, m)
    | none => none
  | x => match takeCell m x with
    | some (d, m) => some (.d d, m)
    | none => none
def takeIs (m : Mem) : List AV → Option (List I × Mem)
  | [] => some ([], m)
  | x :: xs => match takeI m x with
    | some (i, m) => match takeIs m xs with
      | some (is, m) => some (i :: is, m)
      | none => none
    | none => none
/-- A deep look. -/
def snapOpens (f : Nat → Option D) : Rows → Opens → Option Rows
  | rows, [] => some rows
  | rows, ((i, c), x) :: l => match x with
    | .r id => match f id with
      | some d => snapOpens f (setD rows i c d) l
      | none => none
    | .fz wd rs => snapOpens f (setD rows i c (.s wd rs)) l
    | _ => none
def snapId (m : Mem) : Nat → Nat → Option D
  | 0, _ => none
  | k + 1, id => match getNode m id with
    | some n => match snapOpens (snapId m k) n.rows n.opens with
      | some rows => some (.s n.wd rows)
      | none => none
    | none => none
def snapCell (m : Mem) : AV → Option D
  | .v x => some (.v x)
  | .o wd rows => some (.s wd rows)
  | .fz wd rows => some (.s wd rows)
  | .r id => snapId m m.length id
  | _ => none
def snapCells (m : Mem) : List AV → Option Row
  | [] => some []
  | x :: xs => match snapCell m x with
    | some d => match snapCells m xs with
      | some ds => some (d :: ds)
      | none => none
    | none => none
def snapI1 (m : Mem) : AV → Option I
  | .g xs => match snapCells m xs with
    | some ds => some (.g ds)
    | none => none
  | .fa row 0 => some (.p row)
  | .a id 0 0 => match snapId m m.length id with
    | some (.s _ [row]) => some (.p row)
    | _ => none
  | x => match snapCell m x with
    | some d => some (.d d)
    | none => none
def snapI1s (m : Mem) : List AV → Option (List I)
  | [] => some []
  | x :: xs => match snapI1 m x with
    | some i => match snapI1s m xs with
      | some is => some (i :: is)
      | none => none
    | none => none
def snapI (m : Mem) : AV → Option I
  | .f fn caps => match snapI1s m caps with
    | some is => some (.f fn is)
    | none => none
  | .ff fn caps => some (.f fn caps)
  | x => snapI1 m x
def snapIs (m : Mem) : List AV → Option (List I)
  | [] => some []
  | x :: xs => match snapI m x with
    | some i => match snapIs m xs with
      | some is => some (i :: is)
      | none => none
    | none => none
/-- Give back what was lent: into the same arrays. -/
def backCells (m0 m : Mem) : List AV → Row → Nat → (Mem → Option R) → Option R
  | [], _, _, K => K m
  | .r id :: xs, row, c, K => match getNode m0 id with
    | some n => cell row c fun d => dL n.wd d fun rows => backCells m0 (m.set id (some ⟨n.wd, rows, []⟩)) xs row (c + 1) K
    | none => none
  | _ :: xs, row, c, K => backCells m0 m xs row (c + 1) K
def backI (m0 m : Mem) (x : AV) (i : I) (K : Mem → Option R) : Option R := match x with
  | .g xs => oG i fun row => backCells m0 m xs row 0 K
  | .r id => match getNode m0 id with
    | some n => oD i fun d => dL n.wd d fun rows => K (m.set id (some ⟨n.wd, rows, []⟩))
    | none => none
  | _ => none
/-- Behind a call: what was lent comes back, by the modes. -/
def backArgs (m0 m : Mem) : List Mode → List AV → List I → Nat → (Mem → Option R) → Option R
  | .lent :: mds, x :: xs, is, j, K => nth is j fun i => backI m0 m x i fun m => backArgs m0 m mds xs is (j + 1) K
  | _ :: mds, _ :: xs, is, j, K => backArgs m0 m mds xs is j K
  | _, _, _, _, K => K m
/-- A cell of a result: an own slice is opened at once; a frozen one stays as it is. -/
def outCell (fz : Bool) (k : Kd) (d : D) (m : Mem) (K : AV → Mem → Option R) : Option R := match k with
  | .i k => dI k d fun n => K (.v (.int k n)) m
  | .b => dB d fun b => K (.v (.bool b)) m
  | .s => dS d fun s => K (.v (.string s)) m
  | .sl wd => dL wd d fun rows => match fz with
    | true => K (.fz wd rows) m
    | false => K (.r m.length) (m ++ [some ⟨wd, rows, []⟩])
def outCells (fz : Bool) : List Kd → Row → Nat → Mem → (List AV → Mem → Option R) → Option R
  | [], _, _, m, K => K [] m
  | k :: ks, row, c, m, K => cell row c fun d => outCell fz k d m fun x m => outCells fz ks row (c + 1) m fun xs m => K (x :: xs) m
def outOne (fz : Bool) (k : RK) (x : I) (m : Mem) (K : AV → Mem → Option R) : Option R := match k with
  | .c k => oD x fun d => outCell fz k d m K
  | .g ks => oG x fun row => tst (Nat.beq row.length ks.length) (outCells fz ks row 0 m fun xs m => K (.g xs) m)
def outMany (fz : Bool) : List RK → List I → Nat → Mem → (List AV → Mem → Option R) → Option R
  | [], _, _, m, K => K [] m
  | k :: ks, is, j, m, K => nth is j fun x => outOne fz k x m fun x m => outMany fz ks is (j + 1) m fun xs m => K (x :: xs) m
def outAll (fz : Bool) (ks : List RK) (x : I) (m : Mem) (K : AV → Mem → Option R) : Option R := match ks with
  | [k] => outOne fz k x m K
  | ks => oT x fun is => tst (Nat.beq is.length ks.length) (outMany fz ks is 0 m fun xs m => K (.t xs) m)

/-! ### one operation -/
def bytesLess (x y : ByteArray) : Bool := Op.bytesLess x.toList y.toList
def bytesEq (x y : ByteArray) : Bool := x.toList == y.toList
def binI (op : BinOp) (k : IntKind) (a b : Int) (K : Value → Option R) : Option R := match op with
  | .add => K (.int k (k.wrap (a + b)))
  | .sub => K (.int k (k.wrap (a - b)))
  | .mul => K (.int k (k.wrap (a * b)))
  | .quo => tst (decide (b ≠ 0)) (K (.int k (k.wrap (a.tdiv b))))
  | .rem => tst (decide (b ≠ 0)) (K (.int k (a.tmod b)))
  | .eql => K (.bool (a == b))
  | .neq => K (.bool (a != b))
  | .lss => K (.bool (decide (a < b)))
  | .leq => K (.bool (decide (a ≤ b)))
  | .gtr => K (.bool (decide (a > b)))
  | .geq => K (.bool (decide (a ≥ b)))
  | _ => none
def maxLen : Nat := 9223372036854775807
def binS (op : BinOp) (x y : ByteArray) (K : Value → Option R) : Option R := match op with
  | .add => tst (decide (x.size + y.size ≤ maxLen)) (K (.string (x ++ y)))
  | .eql => K (.bool (bytesEq x y))
  | .neq => K (.bool (!bytesEq x y))
  | .lss => K (.bool (bytesLess x y))
  | .leq => K (.bool (bytesLess x y || bytesEq x y))
  | .gtr => K (.bool (!(bytesLess x y || bytesEq x y)))
  | .geq => K (.bool (!bytesLess x y))
  | _ => none
def sameKind (k k' : IntKind) (K : Option R) : Option R := if k = k' then K else none
def binV (op : BinOp) (x y : Value) (K : Value → Option R) : Option R := match x, y with
  | .int k a, .int k' b => sameKind k k' (binI op k a b K)
  | .string x, .string y => binS op x y K
  | _, _ => none
def eqCells : List Kd → List AV → List AV → Option Bool
  | [], [], [] => some true
  | .i _ :: ks, .v (.int k a) :: xs, .v (.int k' b) :: ys => match eqCells ks xs ys with
    | some r => if k = k' then some (a == b && r) else none
    | none => none
  | .s :: ks, .v (.string a) :: xs, .v (.string b) :: ys => match eqCells ks xs ys with
    | some r => some (bytesEq a b && r)
    | none => none
  | .b :: ks, .v (.bool a) :: xs, .v (.bool b) :: ys => match eqCells ks xs ys with
    | some r => some (a == b && r)
    | none => none
  | _, _, _ => none
def unV (op : UnOp) (x : Value) (K : Value → Option R) : Option R := match op, x with
  | .neg, .int k n => K (.int k (k.wrap (0 - n)))
  | .not, .bool b => K (.bool !b)
  | _, _ => none
def ev (t : Tmps) : Opd → AV
  | .t i => t i
  | .c x => x
  | .f fn => .f fn []
def evs (t : Tmps) : List Opd → List AV
  | [] => []
  | x :: xs => ev t x :: evs t xs
def setL (xs : List AV) (off : Nat) (cs : List AV) : List AV := xs.take off ++ cs ++ xs.drop (off + cs.length)
def setParts (xs : List AV) (t : Tmps) : List (Nat × Nat × Opd) → Option (List AV)
  | [] => some xs
  | (off, size, y) :: l => match cellsOf (ev t y) with
    | some cs => bif Nat.beq cs.length size && Nat.ble (off + cs.length) xs.length then setParts (setL xs off cs) t l else none
    | none => none
def litParts (n : Node) (t : Tmps) : List (Nat × Opd) → Option Node
  | [] => some n
  | (i, y) :: l => match cellsOf (ev t y) with
    | some cs => bif Nat.beq cs.length n.wd && Nat.blt i n.rows.length then (match setCells n i 0 cs with
      | some n => litParts n t l
      | none => none) else none
    | none => none
/-- Arguments by their modes: what the function gets, and the memory behind it. -/
def passArgs (m : Mem) : List Mode → List AV → Option (List I × Mem)
  | [], [] => some ([], m)
  | .rd :: mds, x :: xs => match passArgs m mds xs with
    | some (is, m) => match snapI m x with
      | some i => some (i :: is, m)
      | none => none
    | none => none
  | _ :: mds, x :: xs => match takeI m x with
    | some (i, m) => match passArgs m mds xs with
      | some (is, m) => some (i :: is, m)
      | none => none
    | none => none
  | _, _ => none
def flatRow (r : Row) : Bool := r.all fun d => match d with | .v _ => true | _ => false
def flatRows (rows : Rows) : Bool := rows.all flatRow
def shiftO (k : Nat) : Opens → Opens
  | [] => []
  | ((i, c), x) :: l => ((i + k, c), x) :: shiftO k l
def joinO (a b : Opens) : Opens := match a with | [] => b | x :: a => x :: joinO a b
def rowsOf (fzOk : Bool) (wd : Nat) (m : Mem) (x : AV) (K : Rows → Opens → Mem → Option R) : Option R := match x with
  | .fz wd' rows => bif fzOk && Nat.beq wd' wd then tst (flatRows rows) (K rows [] m) else none
  | .o _ [] => K [] [] m
  | .r id => match getNode m id with
    | some n => bif Nat.beq n.wd wd then K n.rows n.opens (m.set id none) else none
    | none => none
  | _ => none
def lenAV (str : Bool) (m : Mem) (x : AV) : Option Nat := match str, x with
  | true, .v (.string s) => some s.size
  | false, .fz _ rows => some rows.length
  | false, .o _ [] => some 0
  | false, .r id => match getNode m id with
    | some n => some n.rows.length
    | none => none
  | _, _ => none
def intOf : AV → Option Int
  | .v (.int .i64 n) => some n
  | _ => none
def maxBytes : Nat := 140737488355328
def boundOf (t : Tmps) (dflt : Int) : Option Opd → Option Int
  | none => some dflt
  | some x => intOf (ev t x)
def cutOk (l h : Int) (n : Nat) : Bool := decide (0 ≤ l) && decide (l ≤ h) && decide (h ≤ (n : Int))
def rowsOfBytes (s : ByteArray) : Rows := s.toList.map fun b => [.v (.int .u8 b.toNat)]
def byteOfRow : Row → Option UInt8
  | [.v (.int .u8 n)] => some (UInt8.ofNat n.toNat)
  | _ => none
def allBytes (rows : Rows) : Bool := rows.all fun r => (byteOfRow r).isSome
def bytesOfRows (rows : Rows) : ByteArray := ⟨(rows.filterMap byteOfRow).toArray⟩
def ret1 (K : AV → Mem → Option R) (m : Mem) (x : Option AV) : Option R := match x with | some x => K x m | none => none

def callOp (T : Table) (m : Mem) (modes : List Mode) (fz : Bool) (res : List RK) (fn : Nat) (xs : List AV) (more : Mem → Option (List I)) (K : AV → Mem → Option R) : Option R :=
  match passArgs m modes xs with
  | some (is, m1) => match more m1 with
    | none => none
    | some caps => callT T fn (is ++ caps) fun o => backArgs m m1 modes xs o.back 0 fun m2 => outAll fz res o.res m2 K
  | none => none
def evalOp (T : Table) (t : Tmps) (m : Mem) (op : AOp) (K : AV → Mem → Option R) : Option R := match op with
  | .mv x => K (ev t x) m
  | .pick c x y => match ev t c with
    | .v (.bool b) => bif b then K (ev t x) m else K (ev t y) m
    | _ => none
  | .box x => match cellsOf (ev t x) with
    | some cs => bif boxable cs then K (.a m.length 0 0) (m ++ [some ⟨cs.length, [wakeRow cs], wakeOpens 0 cs⟩]) else none
    | none => none
  | .alloc zero => K (.a m.length 0 0) (m ++ [some ⟨zero.length, [zero], []⟩])
  | .build zero parts => match setParts (zero.map D.up) t parts with
    | some xs => K (.g xs) m
    | none => none
  | .lit wd rows parts => match rows, parts with
    | [], [] => K (.o wd []) m
    | _, _ => match litParts ⟨wd, rows, []⟩ t parts with
      | some n => K (.r m.length) (m ++ [some n])
      | none => none
  | .load agg ks x => match ev t x with
    | .a id i c => ldOs ks m id i c fun xs m => ret1 K m (mkAgg agg xs)
    | .fa row c => ldFs ks row c fun xs => ret1 K m (mkAgg agg xs)
    | _ => none
  | .store k x y => match ev t x, cellsOf (ev t y) with
    | .a id i c, some cs => bif Nat.beq cs.length k then (match getNode m id with
      | some n => match setCells n i c cs with
        | some n => K .u (m.set id (some n))
        | none => none
      | none => none) else none
    | _, _ => none
  | .bin op x y => match ev t x, ev t y with
    | .v a, .v b => binV op a b fun z => K (.v z) m
    | _, _ => none
  | .beq neg x y => match ev t x, ev t y with
    | .v (.bool a), .v (.bool b) => K (.v (.bool (if neg then a != b else a == b))) m
    | _, _ => none
  | .geq neg ks x y => match ev t x, ev t y with
    | .g a, .g b => (match eqCells ks a b with
      | some z => K (.v (.bool (if neg then !z else z))) m
      | none => none)
    | _, _ => none
  | .un op x => match ev t x with
    | .v a => unV op a fun z => K (.v z) m
    | _ => none
  | .conv k x => match k, ev t x with
    | .int k, .v (.int _ n) => K (.v (.int k (k.wrap n))) m
    | .same, .v (.string s) => K (.v (.string s)) m
    | .intStr, .v (.int _ n) => K (.v (.string (Utf8.encode n))) m
    | .strBytes, .v (.string s) => K (.r m.length) (m ++ [some ⟨1, rowsOfBytes s, []⟩])
    | .bytesStr, .fz 1 rows => tst (allBytes rows) (K (.v (.string (bytesOfRows rows))) m)
    | .bytesStr, .o 1 [] => K (.v (.string ByteArray.empty)) m
    | .bytesStr, .r id => (match getNode m id with
      | some ⟨1, rows, []⟩ => tst (allBytes rows) (K (.v (.string (bytesOfRows rows))) m)
      | _ => none)
    | _, _ => none
  | .fn f caps => K (.f f (evs t caps)) m
  | .mk zero bytes n c => match intOf (ev t n), intOf (ev t c) with
    | some n, some c => tst (cutOk n c maxLen && decide (c.toNat * bytes ≤ maxBytes))
        (K (.r m.length) (m ++ [some ⟨zero.length, List.replicate n.toNat zero, []⟩]))
    | _, _ => none
  | .slc wd x lo hi => match wd, ev t x with
    | none, .v (.string s) => (match boundOf t 0 lo, boundOf t s.size hi with
      | some l, some h => tst (cutOk l h s.size) (K (.v (.string (s.extract l.toNat h.toNat))) m)
      | _, _ => none)
    | some wd, .fz wd' rows => bif Nat.beq wd' wd then (match boundOf t 0 lo, boundOf t rows.length hi with
      | some l, some h => tst (cutOk l h rows.length) (K (.fz wd' ((rows.take h.toNat).drop l.toNat)) m)
      | _, _ => none) else none
    | _, _ => none
  | .fad off x => match ev t x with
    | .a id i c => K (.a id i (c + off)) m
    | .fa row c => K (.fa row (c + off)) m
    | _ => none
  | .fld agg off n x => match ev t x with
    | .g xs => bif Nat.ble (off + n) xs.length then ret1 K m (mkAgg agg ((xs.drop off).take n)) else none
    | _ => none
  | .iad wd x i => match intOf (ev t i), ev t x with
    | some i, .r id => (match getNode m id with
      | some n => bif Nat.beq n.wd wd then tst (decide (0 ≤ i) && decide (i.toNat < n.rows.length)) (K (.a id i.toNat 0) m) else none
      | none => none)
    | some i, .fz wd' rows => bif Nat.beq wd' wd then tst (decide (0 ≤ i)) (look rows i.toNat fun row => K (.fa row 0) m) else none
    | _, _ => none
  | .idx x i => match intOf (ev t i), ev t x with
    | some i, .v (.string s) => tst (decide (0 ≤ i)) (byteAt s i.toNat fun b => K (.v (.int .u8 b.toNat)) m)
    | _, _ => none
  | .ext x i => match ev t x with
    | .t xs => ret1 K m xs[i]?
    | _ => none
  | .call f modes fz res args => match ev t f with
    | .f fn caps => callOp T m modes fz res fn (evs t args) (fun m1 => snapI1s m1 caps) K
    | .ff fn caps => callOp T m modes fz res fn (evs t args) (fun _ => some caps) K
    | _ => none
  | .app wd bytes x y => rowsOf false wd m (ev t x) fun r1 o1 m => rowsOf true wd m (ev t y) fun r2 o2 m =>
      tst (decide ((r1.length + r2.length) * bytes ≤ maxBytes))
        (K (.r m.length) (m ++ [some ⟨wd, r1 ++ r2, joinO o1 (shiftO r1.length o2)⟩]))
  | .len str x => match lenAV str m (ev t x) with
    | some n => K (.v (.int .i64 n)) m
    | none => none
  | .mx x y => match ev t x, ev t y with
    | .v (.int k a), .v (.int k' b) => sameKind k k' (K (.v (.int k (bif decide (b > a) then b else a))) m)
    | _, _ => none

/-! ### code -/
def mayPut (keep : List Nat) : Option Nat → Bool
  | none => true
  | some i => !keep.contains i
def evalOps (C : Ctx) : List AOper → St → (St → Option R) → Option R
  | [], st, K => K st
  | o :: os, st, K => bif mayPut C.keep o.dst then (match o.guard with
      | none => evalOp C.T st.t st.m o.op fun x m => evalOps C os ⟨put st.t o.dst x, m⟩ K
      | some (j, b) => match st.t j with
        | .v (.bool x) => bif x == b then evalOp C.T (upd st.t j (.v (.bool b))) st.m o.op fun x m => evalOps C os ⟨put (upd st.t j (.v (.bool b))) o.dst x, m⟩ K
          else evalOps C os ⟨put (upd st.t j (.v (.bool !b))) o.dst .n, st.m⟩ K
        | .n => evalOps C os ⟨put st.t o.dst .n, st.m⟩ K
        | _ => none) else none
def restCell (m : Mem) (o : Option AV) (d : D) : Option (AV × Mem) := match o with
  | none => some (d.up, m)
  | some (.r id) => (match takeId m id with
    | some (.s wd rows, m) => some (.o wd rows, m)
    | _ => none)
  | some (.fz wd rows) => some (.fz wd rows, m)
  | _ => none
def restRow (m : Mem) (opens : Opens) : Nat → Row → Option (List AV × Mem)
  | _, [] => some ([], m)
  | c, d :: ds => match restCell m (findO 0 c opens) d with
    | some (x, m) => match restRow m opens (c + 1) ds with
      | some (xs, m) => some (x :: xs, m)
      | none => none
    | none => none
def restVar (m : Mem) (id : Nat) : Option (List AV × Mem) := match getNode m id with
  | some ⟨_, [row], opens⟩ => restRow (m.set id none) opens 0 row
  | _ => none
/-- A temporary at rest (at the head of a loop, and behind it). -/
def restAV (m : Mem) : AV → Option (AV × Mem)
  | .v x => some (.v x, m)
  | .fz wd rows => some (.fz wd rows, m)
  | .o wd [] => some (.o wd [], m)
  | .fa row c => some (.fa row c, m)
  | .f fn [] => some (.f fn [], m)
  | .r id => match takeId m id with
    | some (.s wd rows, m) => some (.o wd rows, m)
    | _ => none
  | .a id 0 0 => match restVar m id with
    | some (xs, m) => some (.b xs, m)
    | none => none
  | .ff fn caps => some (.ff fn caps, m)
  | .n => some (.n, m)
  | .u => some (.u, m)
  | _ => none
def restCells (m : Mem) : List AV → Option (List AV × Mem)
  | [] => some ([], m)
  | x :: xs => match restAV m x with
    | some (y, m) => match restCells m xs with
      | some (ys, m) => some (y :: ys, m)
      | none => none
    | none => none
def rest1 (m : Mem) (x : AV) : Option (AV × Mem) := match x with
  | .g xs => match restCells m xs with
    | some (ys, m) => some (.g ys, m)
    | none => none
  | x => restAV m x
def restAVs (t : Tmps) (m : Mem) : List Nat → Option (List AV × Mem)
  | [] => some ([], m)
  | i :: is => match rest1 m (t i) with
    | some (x, m) => match restAVs t m is with
      | some (xs, m) => some (x :: xs, m)
      | none => none
    | none => none
def wakeAV (m : Mem) : AV → AV × Mem
  | .o wd rows => (.r m.length, m ++ [some ⟨wd, rows, []⟩])
  | .b xs => (.a m.length 0 0, m ++ [some ⟨xs.length, [wakeRow xs], wakeOpens 0 xs⟩])
  | x => (x, m)
def wakeCells (m : Mem) : List AV → List AV × Mem
  | [] => ([], m)
  | x :: xs => match wakeAV m x with
    | (y, m) => match wakeCells m xs with
      | (ys, m) => (y :: ys, m)
def wake1 (m : Mem) (x : AV) : AV × Mem := match x with
  | .g xs => match wakeCells m xs with
    | (ys, m) => (.g ys, m)
  | x => wakeAV m x
def wakeAVs (t : Tmps) (m : Mem) : List Nat → List AV → St
  | i :: is, x :: xs => match wake1 m x with
    | (y, m) => wakeAVs (upd t i y) m is xs
  | _, _ => ⟨t, m⟩
def none_ : Tmps := fun _ => .u
def wake (live : List Nat) (xs : List AV) : St := wakeAVs none_ [] live xs
/-- The shape of what is at rest, made sure of. -/
def shape0 (k : AK) (x : AV) (K : AV → Option R) : Option R := match k with
  | .c (.i k) => aI k x fun n => K (.v (.int k n))
  | .c .b => aB x fun b => K (.v (.bool b))
  | .c .s => aS x fun s => K (.v (.string s))
  | .c (.sl wd) => aL wd x fun rows => K (.fz wd rows)
  | .o wd => aO wd x fun rows => K (.o wd rows)
  | .u => K .u
  | _ => none
def shapes0 : List AK → List AV → Nat → (List AV → Option R) → Option R
  | [], _, _, K => K []
  | k :: ks, xs, j, K => aV xs j fun x => shape0 k x fun y => shapes0 ks xs (j + 1) fun ys => K (y :: ys)
def shape (k : AK) (x : AV) (K : AV → Option R) : Option R := match k with
  | .b ks => aX x fun xs => shapes0 ks xs 0 fun ys => K (.b ys)
  | .g ks => aG ks.length x fun xs => shapes0 ks xs 0 fun ys => K (.g ys)
  | k => shape0 k x K
def shapes : List AK → List AV → Nat → (List AV → Option R) → Option R
  | [], _, _, K => K []
  | k :: ks, xs, j, K => aV xs j fun x => shape k x fun y => shapes ks xs (j + 1) fun ys => K (y :: ys)
abbrev Exits := List (Ex × List (Nat × AK))
def firsts : List (Nat × AK) → List Nat
  | [] => []
  | (i, _) :: l => i :: firsts l
def seconds : List (Nat × AK) → List AK
  | [] => []
  | (_, k) :: l => k :: seconds l
def Ex.same : Ex → Ex → Bool
  | .normal, .normal => true
  | .ret, .ret => true
  | .exit i, .exit j => Nat.beq i j
  | _, _ => false
def afterOf (e : Ex) : Exits → Option (List (Nat × AK))
  | [] => none
  | (x, l) :: r => bif e.same x then some l else afterOf e r
def onExit (e : Ex) (K : Ex → List (Nat × AK) → Option R) : Exits → Option R
  | [] => none
  | (x, l) :: r => bif e.same x then K x l else onExit e K r
def loopN (body : St → (Ex → St → Option (Ex × List AV)) → Option (Ex × List AV)) (live : List Nat) (exits : Exits) : Nat → List AV → Option (Ex × List AV)
  | 0, _ => none
  | k + 1, xs => body (wake live xs) fun e st => match e with
    | .normal => match restAVs st.t st.m live with
      | some (ys, _) => loopN body live exits k ys
      | none => none
    | e => match afterOf e exits with
      | some l => match restAVs st.t st.m (firsts l) with
        | some (ys, _) => some (e, ys)
        | none => none
      | none => none
/-- What follows a loop. -/
def aft (r : Option (Ex × List AV)) (K : Ex → List AV → Option R) : Option R := match r with
  | some (e, ys) => K e ys
  | none => none
def afterLoop (exits : Exits) (K : Ex → St → Option R) (r : Option (Ex × List AV)) : Option R :=
  aft r fun e ys => onExit e (fun e l => shapes (seconds l) ys 0 fun ys => K e (wake (firsts l) ys)) exits
/-! ### regions whose order is open: light operations look at the memory of the beginning; heavy ones come one behind the other; new variables float -/
def evalPre (t : Tmps) : List (Nat × Nat × List Kd) → Mem → (Mem → Option R) → Option R
  | [], m, K => K m
  | (i, off, ks) :: l, m, K => match t i with
    | .a id ii c => ldOs ks m id ii (c + off) fun _ m => evalPre t l m K
    | _ => none
def hOk (t : Tmps) : AOp → Bool
  | .app _ _ x y => match ev t x, ev t y with
    | .o _ [], .fz _ _ => true
    | .o _ [], .o _ [] => true
    | _, _ => false
  | .call _ modes _ _ _ => modes.all fun md => match md with | .rd => true | _ => false
  | .box _ => true
  | .lit _ _ _ => true
  | .mk _ _ _ _ => true
  | _ => false
def headOne (C : Ctx) (m0 : Mem) (tag : Nat) (o : AOper) (t : Tmps) (m : Mem) (K : Tmps → Mem → Option R) : Option R := match tag with
  | 0 => evalOp C.T t m0 o.op fun x m' => bif Nat.beq m'.length m0.length then K (put t o.dst x) m else none
  | 1 => bif hOk t o.op then evalOp C.T t m o.op fun x m' => K (put t o.dst x) m' else none
  | 3 => evalOp C.T t m0 o.op fun x m' => bif Nat.beq m'.length m0.length then K (put t o.dst x) m else none
  | _ => K (put t o.dst .u) m
def evalHead (C : Ctx) (m0 : Mem) : List (Nat × AOper) → Tmps → Mem → (Tmps → Mem → Option R) → Option R
  | [], t, m, K => K t m
  | (tag, o) :: os, t, m, K => bif mayPut C.keep o.dst then (match o.guard with
    | none => headOne C m0 tag o t m fun t m => evalHead C m0 os t m K
    | some (j, b) => match t j with
      | .v (.bool x) => bif x == b then headOne C m0 tag o (upd t j (.v (.bool b))) m fun t m => evalHead C m0 os t m K
        else evalHead C m0 os (put (upd t j (.v (.bool !b))) o.dst .n) m K
      | .n => evalHead C m0 os (put t o.dst .n) m K
      | _ => none) else none
/-- The new variables that float. -/
def floats : List (Nat × AOper) → List Nat × List AV
  | [] => ([], [])
  | (2, o) :: os => match o.dst, o.op, floats os with
    | some d, .alloc zero, (is, xs) => (d :: is, .b (zero.map D.up) :: xs)
    | _, _, r => r
  | _ :: os => floats os
def evalDr (C : Ctx) (pre : List (Nat × Nat × List Kd)) (head : List (Nat × AOper)) (tail : List AOper) (st : St) (K : St → Option R) : Option R :=
  evalPre st.t pre st.m fun m0 => evalHead C m0 head st.t m0 fun t m => evalOps C tail (wakeAVs t m (floats head).1 (floats head).2) K
end
def evalC (C : Ctx) (k : Nat) : ACode → (R : Type) → St → (Ex → St → Option R) → Option R
  | .skip, _, st, K => K .normal st
  | .reg _ ops, _, st, K => evalOps C ops st fun st => K .normal st
  | .dreg pre head tail, _, st, K => evalDr C pre head tail st fun st => K .normal st
  | .seq x y, R, st, K => evalC C k x R st fun e st => match e with
    | .normal => evalC C k y R st K
    | e => K e st
  | .cond c x y, R, st, K => match ev st.t c with
    | .v (.bool b) => bif b then evalC C k x R st K else evalC C k y R st K
    | _ => none
  | .block id b, R, st, K => evalC C k b R st fun e st => match e with
    | .exit i => bif Nat.beq i id then K .normal st else K (.exit i) st
    | e => K e st
  | .loop live exits b, _, st, K => match restAVs st.t st.m live with
    | some (xs, _) => afterLoop exits K (loopN (evalC C k b (Ex × List AV)) live exits k xs)
    | none => none
  | .exit id, _, st, K => K (.exit id) st
  | .ret, _, st, K => K .ret st
inductive RV where
  | t (i : Nat)
  | c (i : Nat) (agg : Bool) (ks : List Kd)
structure AFun where
  modes : List Mode
  fz : Bool
  results : List RV
  code : ACode
def frozD : D → AV
  | .v x => .v x
  | .s wd rows => .fz wd rows
def frozCells : Row → List AV
  | [] => []
  | d :: ds => frozD d :: frozCells ds
def frozI : I → AV
  | .d d => frozD d
  | .g ds => .g (frozCells ds)
  | .p row => .fa row 0
  | .f fn caps => .ff fn caps
  | _ => .u
def openCells (m : Mem) : Row → List AV × Mem
  | [] => ([], m)
  | .v x :: ds => match openCells m ds with | (xs, m) => (.v x :: xs, m)
  | .s wd rows :: ds => match openCells (m ++ [some ⟨wd, rows, []⟩]) ds with | (xs, m') => (.r m.length :: xs, m')
def openI (m : Mem) : I → AV × Mem
  | .d (.v x) => (.v x, m)
  | .d (.s wd rows) => (.r m.length, m ++ [some ⟨wd, rows, []⟩])
  | .g ds => match openCells m ds with | (xs, m) => (.g xs, m)
  | .p cells => (.a m.length 0 0, m ++ [some ⟨cells.length, [cells], []⟩])
  | _ => (.u, m)
def initArgs (m : Mem) : List Mode → List I → Option (List AV × Mem)
  | [], [] => some ([], m)
  | .rd :: mds, x :: xs => match initArgs m mds xs with
    | some (ys, m) => some (frozI x :: ys, m)
    | none => none
  | _ :: mds, x :: xs => match openI m x with
    | (y, m) => match initArgs m mds xs with
      | some (ys, m) => some (y :: ys, m)
      | none => none
  | _, _ => none
def setArgs (t : Tmps) (i : Nat) : List AV → Tmps
  | [] => t
  | x :: xs => setArgs (upd t i x) (i + 1) xs
def lentOf (i : Nat) : List Mode → List Nat
  | .lent :: mds => i :: lentOf (i + 1) mds
  | _ :: mds => lentOf (i + 1) mds
  | [] => []
def resI : List I → I
  | [x] => x
  | xs => .t xs
def temps (t : Tmps) : List Nat → List AV
  | [] => []
  | i :: is => t i :: temps t is
def resVals {R : Type} (t : Tmps) : List RV → Mem → (List AV → Mem → Option R) → Option R
  | [], m, K => K [] m
  | .t i :: l, m, K => resVals t l m fun xs m => K (t i :: xs) m
  | .c i agg ks :: l, m, K => match t i with
    | .a id i c => ldOs ks m id i c fun ys m => match mkAgg agg ys with
      | some y => resVals t l m fun xs m => K (y :: xs) m
      | none => none
    | _ => none
def leave (af : AFun) (st : St) : Option Out := resVals st.t af.results st.m fun xs m => match takeIs m (temps st.t (lentOf 0 af.modes)) with
  | some (back, m) => match af.fz with
    | true => match snapIs m xs with
      | some rs => some ⟨resI rs, back⟩
      | none => none
    | false => match takeIs m xs with
      | some (rs, _) => some ⟨resI rs, back⟩
      | none => none
  | none => none
def evalF (T : Table) (k : Nat) (af : AFun) (args : List I) : Option Out := match initArgs [] af.modes args with
  | some (xs, m) => evalC ⟨T, lentOf 0 af.modes⟩ k af.code Out ⟨setArgs none_ 0 xs, m⟩ fun e st => match e with
    | .exit _ => none
    | _ => leave af st
  | none => none
end Go.Am
