/- The abstract machine AM, part A: what it computes keeps the contracts of the program. Nothing is assumed. -/
import Derived.Calls
import Derived.Laws.Sem
import Derived.Laws.StructEq
import Derived.Laws.Entries
import Derived.Laws.Cells
import Derived.Laws.IdiomCopy
set_option linter.unusedVariables false
set_option linter.unusedSimpArgs false
/- AM: an abstract evaluator for straight Go code over data. Definitions alone; nothing is assumed. -/
namespace Go.Am
inductive D where
 | v (x : Value)
 | s (wd : Nat) (rows : List (List D))
abbrev Row := List D
abbrev Rows := List Row
inductive I where
 | d (x : D)
 | g (xs : Row)
 | f (fn : Nat) (caps : List I)
 | p (cells : Row)
 | t (xs : List I)
inductive AV where
 | v (x : Value)
 | o (wd : Nat) (rows : Rows)
 | fz (wd : Nat) (rows : Rows)
 | r (id : Nat)
 | g (xs : List AV)
 | a (id i c : Nat)
 | b (cells : List AV)
 | fa (row : Row) (c : Nat)
 | f (fn : Nat) (caps : List AV)
 | ff (fn : Nat) (caps : List I)
 | t (xs : List AV)
 | n
 | u
 | ub
 | w (id lo hi : Nat)
abbrev Opens := List ((Nat × Nat) × AV)
structure Node where
 wd : Nat
 rows : Rows
 opens : Opens
abbrev Mem := List (Option Node)
inductive Kd where
 | i (k : IntKind)
 | b
 | s
 | sl (wd : Nat)
 | h
inductive RK where
 | c (k : Kd)
 | g (ks : List Kd)
 | p (ks : List Kd)
inductive AK where
 | c (k : Kd)
 | o (wd : Nat)
 | b (ks : List AK)
 | g (ks : List AK)
 | u
 | ff
inductive Mode where | rd | own | lent
 deriving DecidableEq
inductive Ex where | normal | exit (id : Nat) | ret
 deriving DecidableEq
inductive Opd where
 | t (i : Nat)
 | c (x : AV)
 | f (fn : Nat)
inductive MOp where
 | shr (n : Nat) (x : Opd)
 | nilq (wd : Nat) (x : Opd)
 | mn (x y : Opd)
 | slo (wd : Nat) (x : Opd) (lo hi : Option Opd)
 | lnw (x : Opd)
 | iaw (wd : Nat) (x i : Opd)
 | clr (zero : Row) (x : Opd)
 | nck (x : Opd)
 | lnh (x : Opd)
 | ste (n : Nat) (x y : Opd)
inductive CK where | int (k : IntKind) | same | intStr | strBytes | bytesStr
inductive AOp where
 | mv (x : Opd)
 | pick (c a b : Opd)
 | box (x : Opd)
 | alloc (zero : Row)
 | build (zero : Row) (parts : List (Nat × Nat × Opd))
 | lit (wd : Nat) (rows : Rows) (parts : List (Nat × Opd))
 | load (agg : Bool) (ks : List Kd) (x : Opd)
 | store (n : Nat) (x y : Opd)
 | bin (op : BinOp) (x y : Opd)
 | beq (neg : Bool) (x y : Opd)
 | geq (neg : Bool) (ks : List Kd) (x y : Opd)
 | un (op : UnOp) (x : Opd)
 | conv (k : CK) (x : Opd)
 | fn (f : Nat) (caps : List Opd)
 | mk (zero : Row) (bytes : Nat) (n c : Opd)
 | slc (wd : Option Nat) (x : Opd) (lo hi : Option Opd)
 | fad (off : Nat) (x : Opd)
 | fld (agg : Bool) (off n : Nat) (x : Opd)
 | iad (wd : Nat) (x i : Opd)
 | idx (x i : Opd)
 | ext (x : Opd) (i : Nat)
 | call (f : Opd) (modes : List Mode) (fz : Bool) (res : List RK) (args : List Opd)
 | app (wd bytes : Nat) (x y : Opd)
 | len (str : Bool) (x : Opd)
 | mx (x y : Opd)
 | more (op : MOp)
 | cod (mk : Nat) (x i : Opd)
structure AOper where
 dst : Option Nat
 op : AOp
 guard : Option (Nat × Bool) := none
inductive ACode where
 | skip
 | reg (draw : Bool) (ops : List AOper)
 | dreg (pre : List (Nat × Nat × List Kd)) (head : List (Nat × AOper)) (tail : List AOper)
 | seq (a b : ACode)
 | cond (c : Opd) (x y : ACode)
 | block (id : Nat) (b : ACode)
 | loop (live : List Nat) (exits : List (Ex × List (Nat × AK))) (b : ACode)
 | exit (id : Nat)
 | ret
structure Out where
 res : I
 back : List I
abbrev Table := Nat → List I → Option Out
structure Ctx where
 T : Table
 keep : List Nat
 D : List Nat
abbrev Tmps := Nat → AV
structure St where
 t : Tmps
 m : Mem
def upd (t : Tmps) (i : Nat) (x : AV) (j : Nat) : AV := bif Nat.beq j i then x else t j
def put (t : Tmps) (d : Option Nat) (x : AV) : Tmps := match d with | some i => upd t i x | none => t
section
variable {R : Type}
def tst (b : Bool) (K : Option R) : Option R := bif b then K else none
def look (rows : Rows) (i : Nat) (K : Row → Option R) : Option R := match rows[i]? with | some r => K r | none => none
def cell (row : Row) (c : Nat) (K : D → Option R) : Option R := match row[c]? with | some d => K d | none => none
def dI (k : IntKind) (d : D) (K : Int → Option R) : Option R := match d with | .v (.int k' n) => if k' = k then K n else none | _ => none
def dB (d : D) (K : Bool → Option R) : Option R := match d with | .v (.bool b) => K b | _ => none
def dS (d : D) (K : ByteArray → Option R) : Option R := match d with | .v (.string s) => K s | _ => none
def dL (wd : Nat) (d : D) (K : Rows → Option R) : Option R := match d with | .s wd' rows => if wd' = wd then K rows else none | _ => none
def dH (d : D) (K : Option Addr → Nat → Nat → Option R) : Option R := match d with | .v (.slice b n c) => K b n c | _ => none
def cI (k : IntKind) (row : Row) (c : Nat) (K : Int → Option R) : Option R := cell row c fun d => dI k d K
def cB (row : Row) (c : Nat) (K : Bool → Option R) : Option R := cell row c fun d => dB d K
def cS (row : Row) (c : Nat) (K : ByteArray → Option R) : Option R := cell row c fun d => dS d K
def cL (wd : Nat) (row : Row) (c : Nat) (K : Rows → Option R) : Option R := cell row c fun d => dL wd d K
def cH (row : Row) (c : Nat) (K : Option Addr → Nat → Nat → Option R) : Option R := cell row c fun d => dH d K
def oD (x : I) (K : D → Option R) : Option R := match x with | .d d => K d | _ => none
def oG (x : I) (K : Row → Option R) : Option R := match x with | .g r => K r | _ => none
def oP (x : I) (K : Row → Option R) : Option R := match x with | .p r => K r | _ => none
def oT (x : I) (K : List I → Option R) : Option R := match x with | .t r => K r | _ => none
def nth (xs : List I) (i : Nat) (K : I → Option R) : Option R := match xs[i]? with | some x => K x | none => none
def aV (xs : List AV) (i : Nat) (K : AV → Option R) : Option R := match xs[i]? with | some x => K x | none => none
def aI (k : IntKind) (x : AV) (K : Int → Option R) : Option R := match x with | .v (.int k' n) => if k' = k then K n else none | _ => none
def aB (x : AV) (K : Bool → Option R) : Option R := match x with | .v (.bool b) => K b | _ => none
def aS (x : AV) (K : ByteArray → Option R) : Option R := match x with | .v (.string s) => K s | _ => none
def aH (x : AV) (K : Option Addr → Nat → Nat → Option R) : Option R := match x with | .v (.slice b n c) => K b n c | _ => none
def aL (wd : Nat) (x : AV) (K : Rows → Option R) : Option R := match x with | .fz wd' rows => if wd' = wd then K rows else none | _ => none
def aO (wd : Nat) (x : AV) (K : Rows → Option R) : Option R := match x with | .o wd' rows => if wd' = wd then K rows else none | _ => none
def aF (x : AV) (K : Nat → List I → Option R) : Option R := match x with | .ff fn caps => K fn caps | _ => none
def aX (x : AV) (K : List AV → Option R) : Option R := match x with | .b xs => K xs | _ => none
def aG (n : Nat) (x : AV) (K : List AV → Option R) : Option R := match x with | .g xs => bif Nat.beq xs.length n then K xs else none | _ => none
def byteAt (s : ByteArray) (i : Nat) (K : UInt8 → Option R) : Option R := match s.toList[i]? with | some b => K b | none => none
def callT (T : Table) (fn : Nat) (xs : List I) (K : Out → Option R) : Option R := match T fn xs with | some o => K o | none => none
def D.up : D → AV
 | .v x => .v x
 | .s wd rows => .o wd rows
def findO (i c : Nat) : Opens → Option AV
 | [] => none
 | ((i', c'), x) :: l => if c = c' ∧ i = i' then some x else findO i c l
def dropO (i c : Nat) : Opens → Opens
 | [] => []
 | ((i', c'), x) :: l => if c = c' ∧ i = i' then dropO i c l else ((i', c'), x) :: dropO i c l
def hole : D := .v (.bool false)
def setD (rows : Rows) (i c : Nat) (d : D) : Rows := rows.modify i fun row => row.set c d
def getNode (m : Mem) (id : Nat) : Option Node := m[id]?.join
def addO (i c : Nat) (o : Option AV) (l : Opens) : Opens := match o with | none => dropO i c l | some x => ((i, c), x) :: dropO i c l
def cellIn : AV → Option (D × Option AV)
 | .v x => some (.v x, none)
 | .o wd [] => some (.s wd [], none)
 | .fz wd rows => some (hole, some (.fz wd rows))
 | .r id => some (hole, some (.r id))
 | _ => none
def setCells (n : Node) (i c : Nat) : List AV → Option Node
 | [] => some n
 | x :: xs => match cellIn x with
  | some (d, o) => bif Nat.blt c n.wd then setCells ⟨n.wd, setD n.rows i c d, addO i c o n.opens⟩ i (c + 1) xs else none
  | none => none
def ldF (k : Kd) (d : D) (K : AV → Option R) : Option R := match k with
 | .i k => dI k d fun n => K (.v (.int k n))
 | .b => dB d fun b => K (.v (.bool b))
 | .s => dS d fun s => K (.v (.string s))
 | .sl wd => dL wd d fun rows => K (.fz wd rows)
 | .h => dH d fun b n c => K (.v (.slice b n c))
def ldFs : List Kd → Row → Nat → (List AV → Option R) → Option R
 | [], _, _, K => K []
 | k :: ks, row, c, K => cell row c fun d => ldF k d fun x => ldFs ks row (c + 1) fun xs => K (x :: xs)
def ldO (k : Kd) (m : Mem) (id i c : Nat) (K : AV → Mem → Option R) : Option R := match getNode m id with
 | none => none
 | some n => match findO i c n.opens with
  | some x => K x m
  | none => look n.rows i fun row => cell row c fun d => match k with
   | .i k => dI k d fun n => K (.v (.int k n)) m
   | .b => dB d fun b => K (.v (.bool b)) m
   | .s => dS d fun s => K (.v (.string s)) m
   | .sl wd => dL wd d fun rows => K (.r m.length) (m.set id (some ⟨n.wd, n.rows, ((i, c), .r m.length) :: n.opens⟩) ++ [some ⟨wd, rows, []⟩])
   | .h => dH d fun b n c => K (.v (.slice b n c)) m
def ldOs : List Kd → Mem → Nat → Nat → Nat → (List AV → Mem → Option R) → Option R
 | [], m, _, _, _, K => K [] m
 | k :: ks, m, id, i, c, K => ldO k m id i c fun x m => ldOs ks m id i (c + 1) fun xs m => K (x :: xs) m
def wakeRow : List AV → Row
 | [] => []
 | .v x :: xs => .v x :: wakeRow xs
 | .o wd rows :: xs => .s wd rows :: wakeRow xs
 | _ :: xs => hole :: wakeRow xs
def wakeOpens (c : Nat) : List AV → Opens
 | [] => []
 | .v _ :: xs => wakeOpens (c + 1) xs
 | .o _ _ :: xs => wakeOpens (c + 1) xs
 | x :: xs => ((0, c), x) :: wakeOpens (c + 1) xs
def boxable : List AV → Bool
 | [] => true
 | .v _ :: xs => boxable xs
 | .o _ [] :: xs => boxable xs
 | .fz _ _ :: xs => boxable xs
 | .r _ :: xs => boxable xs
 | _ => false
def cellsOf : AV → Option (List AV)
 | .g xs => some xs
 | .v x => some [.v x]
 | .o wd rows => some [.o wd rows]
 | .fz wd rows => some [.fz wd rows]
 | .r id => some [.r id]
 | _ => none
def mkAgg (agg : Bool) (xs : List AV) : Option AV := match agg, xs with
 | true, xs => some (.g xs)
 | false, [x] => some x
 | false, _ => none
def closeOpens (f : Mem → Nat → Option (D × Mem)) : Mem → Rows → Opens → Option (Rows × Mem)
 | m, rows, [] => some (rows, m)
 | m, rows, ((i, c), x) :: l => match x with
  | .r id => match f m id with
   | some (d, m) => closeOpens f m (setD rows i c d) l
   | none => none
  | _ => none
def closeId : Nat → Mem → Nat → Option (D × Mem)
 | 0, _, _ => none
 | k + 1, m, id => match getNode m id with
  | some n => match closeOpens (closeId k) (m.set id none) n.rows n.opens with
   | some (rows, m) => some (.s n.wd rows, m)
   | none => none
  | none => none
def takeId (m : Mem) (id : Nat) : Option (D × Mem) := closeId m.length m id
def takeCell (m : Mem) : AV → Option (D × Mem)
 | .v x => some (.v x, m)
 | .o wd [] => some (.s wd [], m)
 | .r id => takeId m id
 | .w id lo hi => bif Nat.beq lo 0 then (match takeId m id with
  | some (.s wd rows, m) => some (.s wd (rows.take hi), m)
  | _ => none) else none
 | _ => none
def takeCells (m : Mem) : List AV → Option (Row × Mem)
 | [] => some ([], m)
 | x :: xs => match takeCell m x with
  | some (d, m) => match takeCells m xs with
   | some (ds, m) => some (d :: ds, m)
   | none => none
  | none => none
def takeVar (m : Mem) (id : Nat) : Option (Row × Mem) := match takeId m id with
 | some (.s _ [row], m) => some (row, m)
 | _ => none
def takeI (m : Mem) : AV → Option (I × Mem)
 | .g xs => match takeCells m xs with
  | some (ds, m) => some (.g ds, m)
  | none => none
 | .f fn [] => some (.f fn [], m)
 | .a id 0 0 => match takeVar m id with
  | some (row, m) => some (.p row, m)
  | none => none
 | x => match takeCell m x with
  | some (d, m) => some (.d d, m)
  | none => none
def takeIs (m : Mem) : List AV → Option (List I × Mem)
 | [] => some ([], m)
 | x :: xs => match takeI m x with
  | some (i, m) => match takeIs m xs with
   | some (is, m) => some (i :: is, m)
   | none => none
  | none => none
def snapOpens (f : Nat → Option D) : Rows → Opens → Option Rows
 | rows, [] => some rows
 | rows, ((i, c), x) :: l => match x with
  | .r id => match f id with
   | some d => snapOpens f (setD rows i c d) l
   | none => none
  | .fz wd rs => snapOpens f (setD rows i c (.s wd rs)) l
  | _ => none
def snapId (m : Mem) : Nat → Nat → Option D
 | 0, _ => none
 | k + 1, id => match getNode m id with
  | some n => match snapOpens (snapId m k) n.rows n.opens with
   | some rows => some (.s n.wd rows)
   | none => none
  | none => none
def snapCell (m : Mem) : AV → Option D
 | .v x => some (.v x)
 | .o wd rows => some (.s wd rows)
 | .fz wd rows => some (.s wd rows)
 | .r id => snapId m m.length id
 | _ => none
def snapCells (m : Mem) : List AV → Option Row
 | [] => some []
 | x :: xs => match snapCell m x with
  | some d => match snapCells m xs with
   | some ds => some (d :: ds)
   | none => none
  | none => none
def snapI1 (m : Mem) : AV → Option I
 | .g xs => match snapCells m xs with
  | some ds => some (.g ds)
  | none => none
 | .fa row 0 => some (.p row)
 | .a id 0 0 => match snapId m m.length id with
  | some (.s _ [row]) => some (.p row)
  | _ => none
 | x => match snapCell m x with
  | some d => some (.d d)
  | none => none
def snapI1s (m : Mem) : List AV → Option (List I)
 | [] => some []
 | x :: xs => match snapI1 m x with
  | some i => match snapI1s m xs with
   | some is => some (i :: is)
   | none => none
  | none => none
def snapI (m : Mem) : AV → Option I
 | .f fn caps => match snapI1s m caps with
  | some is => some (.f fn is)
  | none => none
 | .ff fn caps => some (.f fn caps)
 | x => snapI1 m x
def snapIs (m : Mem) : List AV → Option (List I)
 | [] => some []
 | x :: xs => match snapI m x with
  | some i => match snapIs m xs with
   | some is => some (i :: is)
   | none => none
  | none => none
def backCells (m0 m : Mem) : List AV → Row → Nat → (Mem → Option R) → Option R
 | [], _, _, K => K m
 | .r id :: xs, row, c, K => match getNode m0 id with
  | some n => cell row c fun d => dL n.wd d fun rows => backCells m0 (m.set id (some ⟨n.wd, rows, []⟩)) xs row (c + 1) K
  | none => none
 | _ :: xs, row, c, K => backCells m0 m xs row (c + 1) K
def likeCell (m0 : Mem) (n : Node) (c : Nat) (d0 d : D) (K : D → Option R) : Option R := match findO 0 c n.opens with
 | some (.r id) => (match getNode m0 id with
  | some n' => dL n'.wd d fun rows => K (.s n'.wd rows)
  | none => none)
 | some _ => none
 | none => match d0 with
  | .v (.int k _) => dI k d fun x => K (.v (.int k x))
  | .v (.bool _) => dB d fun x => K (.v (.bool x))
  | .v (.string _) => dS d fun x => K (.v (.string x))
  | .s wd _ => dL wd d fun x => K (.s wd x)
  | .v (.slice _ _ _) => dH d fun b n c => K (.v (.slice b n c))
  | _ => none
def likeRow (m0 : Mem) (n : Node) (row : Row) : Row → Nat → (Row → Option R) → Option R
 | [], _, K => K []
 | d0 :: r0, c, K => cell row c fun d => likeCell m0 n c d0 d fun d => likeRow m0 n row r0 (c + 1) fun r => K (d :: r)
def backI (m0 m : Mem) (x : AV) (i : I) (K : Mem → Option R) : Option R := match x with
 | .g xs => oG i fun row => backCells m0 m xs row 0 K
 | .r id => match getNode m0 id with
  | some n => oD i fun d => dL n.wd d fun rows => K (m.set id (some ⟨n.wd, rows, []⟩))
  | none => none
 | .a id 0 0 => match getNode m0 id with
  | some n => (match n.rows with
   | [r0] => oP i fun row => tst (Nat.beq row.length n.wd) (likeRow m0 n row r0 0 fun row => K (m.set id (some ⟨n.wd, [row], []⟩)))
   | _ => none)
  | none => none
 | _ => none
def backArgs (m0 m : Mem) : List Mode → List AV → List I → Nat → (Mem → Option R) → Option R
 | .lent :: mds, x :: xs, is, j, K => nth is j fun i => backI m0 m x i fun m => backArgs m0 m mds xs is (j + 1) K
 | _ :: mds, _ :: xs, is, j, K => backArgs m0 m mds xs is j K
 | _, _, _, _, K => K m
def outCell (fz : Bool) (k : Kd) (d : D) (m : Mem) (K : AV → Mem → Option R) : Option R := match k with
 | .i k => dI k d fun n => K (.v (.int k n)) m
 | .b => dB d fun b => K (.v (.bool b)) m
 | .s => dS d fun s => K (.v (.string s)) m
 | .sl wd => dL wd d fun rows => match fz with
  | true => K (.fz wd rows) m
  | false => K (.r m.length) (m ++ [some ⟨wd, rows, []⟩])
 | .h => dH d fun b n c => K (.v (.slice b n c)) m
def outCells (fz : Bool) : List Kd → Row → Nat → Mem → (List AV → Mem → Option R) → Option R
 | [], _, _, m, K => K [] m
 | k :: ks, row, c, m, K => cell row c fun d => outCell fz k d m fun x m => outCells fz ks row (c + 1) m fun xs m => K (x :: xs) m
def kdCell (k : Kd) (d : D) (K : D → Option R) : Option R := match k with
 | .i k => dI k d fun n => K (.v (.int k n))
 | .b => dB d fun b => K (.v (.bool b))
 | .s => dS d fun s => K (.v (.string s))
 | .sl wd => dL wd d fun rows => K (.s wd rows)
 | .h => dH d fun b n c => K (.v (.slice b n c))
def kdCells : List Kd → Row → Nat → (Row → Option R) → Option R
 | [], _, _, K => K []
 | k :: ks, row, c, K => cell row c fun d => kdCell k d fun d => kdCells ks row (c + 1) fun ds => K (d :: ds)
def outOne (fz : Bool) (k : RK) (x : I) (m : Mem) (K : AV → Mem → Option R) : Option R := match k with
 | .c k => oD x fun d => outCell fz k d m K
 | .g ks => oG x fun row => tst (Nat.beq row.length ks.length) (outCells fz ks row 0 m fun xs m => K (.g xs) m)
 | .p ks => oP x fun row => tst (Nat.beq row.length ks.length && Nat.blt 0 ks.length) (kdCells ks row 0 fun r => K (.a m.length 0 0) (m ++ [some ⟨ks.length, [r], []⟩]))
def outMany (fz : Bool) : List RK → List I → Nat → Mem → (List AV → Mem → Option R) → Option R
 | [], _, _, m, K => K [] m
 | k :: ks, is, j, m, K => nth is j fun x => outOne fz k x m fun x m => outMany fz ks is (j + 1) m fun xs m => K (x :: xs) m
def outAll (fz : Bool) (ks : List RK) (x : I) (m : Mem) (K : AV → Mem → Option R) : Option R := match ks with
 | [k] => outOne fz k x m K
 | ks => oT x fun is => tst (Nat.beq is.length ks.length) (outMany fz ks is 0 m fun xs m => K (.t xs) m)
def bytesLess (x y : ByteArray) : Bool := Op.bytesLess x.toList y.toList
def bytesEq (x y : ByteArray) : Bool := x.toList == y.toList
def andI (k : IntKind) (a b : Int) : Int := k.wrap (((BitVec.ofInt k.bits a &&& BitVec.ofInt k.bits b).toNat : Nat) : Int)
def orI (k : IntKind) (a b : Int) : Int := k.wrap (((BitVec.ofInt k.bits a ||| BitVec.ofInt k.bits b).toNat : Nat) : Int)
def xorI (k : IntKind) (a b : Int) : Int := k.wrap (((BitVec.ofInt k.bits a ^^^ BitVec.ofInt k.bits b).toNat : Nat) : Int)
def shlI (k : IntKind) (a b : Int) : Int := k.wrap (a * 2 ^ (min b.toNat k.bits))
def isShl : BinOp → Bool
 | .shl => true
 | _ => false
def binI (op : BinOp) (k : IntKind) (a b : Int) (K : Value → Option R) : Option R := match op with
 | .add => K (.int k (k.wrap (a + b)))
 | .sub => K (.int k (k.wrap (a - b)))
 | .mul => K (.int k (k.wrap (a * b)))
 | .quo => tst (decide (b ≠ 0)) (K (.int k (k.wrap (a.tdiv b))))
 | .rem => tst (decide (b ≠ 0)) (K (.int k (a.tmod b)))
 | .eql => K (.bool (a == b))
 | .neq => K (.bool (a != b))
 | .lss => K (.bool (decide (a < b)))
 | .leq => K (.bool (decide (a ≤ b)))
 | .gtr => K (.bool (decide (a > b)))
 | .geq => K (.bool (decide (a ≥ b)))
 | .and => K (.int k (andI k a b))
 | .or => K (.int k (orI k a b))
 | .xor => K (.int k (xorI k a b))
 | _ => none
def maxLen : Nat := 9223372036854775807
def binS (op : BinOp) (x y : ByteArray) (K : Value → Option R) : Option R := match op with
 | .add => tst (decide (x.size + y.size ≤ maxLen)) (K (.string (x ++ y)))
 | .eql => K (.bool (bytesEq x y))
 | .neq => K (.bool (!bytesEq x y))
 | .lss => K (.bool (bytesLess x y))
 | .leq => K (.bool (bytesLess x y || bytesEq x y))
 | .gtr => K (.bool (!(bytesLess x y || bytesEq x y)))
 | .geq => K (.bool (!bytesLess x y))
 | _ => none
def sameKind (k k' : IntKind) (K : Option R) : Option R := if k = k' then K else none
def binV (op : BinOp) (x y : Value) (K : Value → Option R) : Option R := match x, y with
 | .int k a, .int k' b => bif isShl op then tst (decide (0 ≤ b)) (K (.int k (shlI k a b))) else sameKind k k' (binI op k a b K)
 | .string x, .string y => binS op x y K
 | _, _ => none
def eqCells : List Kd → List AV → List AV → Option Bool
 | [], [], [] => some true
 | .i _ :: ks, .v (.int k a) :: xs, .v (.int k' b) :: ys => match eqCells ks xs ys with
  | some r => if k = k' then some (a == b && r) else none
  | none => none
 | .s :: ks, .v (.string a) :: xs, .v (.string b) :: ys => match eqCells ks xs ys with
  | some r => some (bytesEq a b && r)
  | none => none
 | .b :: ks, .v (.bool a) :: xs, .v (.bool b) :: ys => match eqCells ks xs ys with
  | some r => some (a == b && r)
  | none => none
 | _, _, _ => none
def unV (op : UnOp) (x : Value) (K : Value → Option R) : Option R := match op, x with
 | .neg, .int k n => K (.int k (k.wrap (0 - n)))
 | .not, .bool b => K (.bool !b)
 | _, _ => none
def ev (t : Tmps) : Opd → AV
 | .t i => t i
 | .c x => x
 | .f fn => .f fn []
def evs (t : Tmps) : List Opd → List AV
 | [] => []
 | x :: xs => ev t x :: evs t xs
def setL (xs : List AV) (off : Nat) (cs : List AV) : List AV := xs.take off ++ cs ++ xs.drop (off + cs.length)
def setParts (xs : List AV) (t : Tmps) : List (Nat × Nat × Opd) → Option (List AV)
 | [] => some xs
 | (off, size, y) :: l => match cellsOf (ev t y) with
  | some cs => bif Nat.beq cs.length size && Nat.ble (off + cs.length) xs.length then setParts (setL xs off cs) t l else none
  | none => none
def oneE (i c : Nat) (K : Option R) : Opens → Option R
 | [] => K
 | ((i', c'), _) :: l => bif Nat.beq c' c then tst (Nat.beq i' i) (oneE i c K l) else oneE i c K l
def allE (i : Nat) (K : Option R) (o : Opens) : Nat → Nat → Option R
 | _, 0 => K
 | c, k + 1 => oneE i c (allE i K o (c + 1) k) o
def dropC (c k : Nat) : Opens → Opens
 | [] => []
 | ((i', c'), x) :: l => bif Nat.ble c c' && Nat.blt c' (c + k) then dropC c k l else ((i', c'), x) :: dropC c k l
def litParts (n : Node) (t : Tmps) : List (Nat × Opd) → Option Node
 | [] => some n
 | (i, y) :: l => match cellsOf (ev t y) with
  | some cs => bif Nat.beq cs.length n.wd && Nat.blt i n.rows.length then (match setCells n i 0 cs with
   | some n => litParts n t l
   | none => none) else none
  | none => none
def passArgs (m : Mem) : List Mode → List AV → Option (List I × Mem)
 | [], [] => some ([], m)
 | .rd :: mds, x :: xs => match passArgs m mds xs with
  | some (is, m) => match snapI m x with
   | some i => some (i :: is, m)
   | none => none
  | none => none
 | _ :: mds, x :: xs => match takeI m x with
  | some (i, m) => match passArgs m mds xs with
   | some (is, m) => some (i :: is, m)
   | none => none
  | none => none
 | _, _ => none
def flatRow (r : Row) : Bool := r.all fun d => match d with | .v _ => true | _ => false
def flatRows (rows : Rows) : Bool := rows.all flatRow
def shiftO (k : Nat) : Opens → Opens
 | [] => []
 | ((i, c), x) :: l => ((i + k, c), x) :: shiftO k l
def joinO (a b : Opens) : Opens := match a with | [] => b | x :: a => x :: joinO a b
def rowsOf (fzOk : Bool) (wd : Nat) (m : Mem) (x : AV) (K : Rows → Opens → Mem → Option R) : Option R := match x with
 | .fz wd' rows => bif fzOk && Nat.beq wd' wd then tst (flatRows rows) (K rows [] m) else none
 | .o _ [] => K [] [] m
 | .r id => match getNode m id with
  | some n => bif Nat.beq n.wd wd then K n.rows n.opens (m.set id none) else none
  | none => none
 | _ => none
def lenAV (str : Bool) (m : Mem) (x : AV) : Option Nat := match str, x with
 | true, .v (.string s) => some s.size
 | false, .fz _ rows => some rows.length
 | false, .o _ [] => some 0
 | false, .r id => match getNode m id with
  | some n => some n.rows.length
  | none => none
 | _, _ => none
def anyI : AV → Option Int
 | .v (.int _ n) => some n
 | _ => none
def intOf : AV → Option Int
 | .v (.int .i64 n) => some n
 | _ => none
def maxBytes : Nat := 140737488355328
def boundOf (t : Tmps) (dflt : Int) : Option Opd → Option Int
 | none => some dflt
 | some x => intOf (ev t x)
def cutOk (l h : Int) (n : Nat) : Bool := decide (0 ≤ l) && decide (l ≤ h) && decide (h ≤ (n : Int))
def rowsOfBytes (s : ByteArray) : Rows := s.toList.map fun b => [.v (.int .u8 b.toNat)]
def byteOfRow : Row → Option UInt8
 | [.v (.int .u8 n)] => some (UInt8.ofNat n.toNat)
 | _ => none
def allBytes (rows : Rows) : Bool := rows.all fun r => (byteOfRow r).isSome
def bytesOfRows (rows : Rows) : ByteArray := ⟨(rows.filterMap byteOfRow).toArray⟩
def ret1 (K : AV → Mem → Option R) (m : Mem) (x : Option AV) : Option R := match x with | some x => K x m | none => none
def callOp (T : Table) (m : Mem) (modes : List Mode) (fz : Bool) (res : List RK) (fn : Nat) (xs : List AV) (more : Mem → Option (List I)) (K : AV → Mem → Option R) : Option R :=
 match passArgs m modes xs with
 | some (is, m1) => match more m1 with
  | none => none
  | some caps => callT T fn (is ++ caps) fun o => backArgs m m1 modes xs o.back 0 fun m2 => outAll fz res o.res m2 K
 | none => none
def evalMore (t : Tmps) (m : Mem) (op : MOp) (K : AV → Mem → Option R) : Option R := match op with
 | .shr n x => match ev t x with
  | .v (.int k a) => bif Nat.blt n k.bits then K (.v (.int k (Int.fdiv a (2 ^ n)))) m else none
  | _ => none
 | .nilq wd x => match ev t x with
  | .fz wd' rows => bif Nat.beq wd' wd then (bif rows.isEmpty then K .ub m else K (.v (.bool false)) m) else none
  | _ => none
 | .mn x y => match ev t x, ev t y with
  | .v (.int k a), .v (.int k' b) => sameKind k k' (K (.v (.int k (bif decide (b < a) then b else a))) m)
  | _, _ => none
 | .slo wd x lo hi => match ev t x with
  | .r id => (match getNode m id with
   | some n => bif Nat.beq n.wd wd then (match boundOf t 0 lo, boundOf t n.rows.length hi with
    | some l, some h => tst (cutOk l h n.rows.length) (K (.w id l.toNat h.toNat) m)
    | _, _ => none) else none
   | none => none)
  | _ => none
 | .lnw x => match ev t x with
  | .w _ lo hi => K (.v (.int .i64 ((hi - lo : Nat) : Int))) m
  | _ => none
 | .iaw wd x i => match intOf (ev t i), ev t x with
  | some i, .w id lo hi => (match getNode m id with
   | some n => bif Nat.beq n.wd wd then tst (decide (0 ≤ i) && decide (i.toNat < hi - lo)) (K (.a id (lo + i.toNat) 0) m) else none
   | none => none)
  | _, _ => none
 | .nck x => match ev t x with
  | .a id i c => K (.a id i c) m
  | .fa row c => K (.fa row c) m
  | _ => none
 | .lnh x => match ev t x with
  | .v (.slice _ n _) => K (.v (.int .i64 n)) m
  | _ => none
 | .ste k x y => match ev t x, cellsOf (ev t y) with
  | .a id i c, some cs => bif Nat.beq cs.length k then (match getNode m id with
   | some n => allE i (match setCells ⟨n.wd, n.rows, dropC c k n.opens⟩ i c cs with
    | some n => K .u (m.set id (some n))
    | none => none) n.opens c k
   | none => none) else none
  | _, _ => none
 | .clr zero x => match ev t x with
  | .w id lo hi => (match getNode m id with
   | some n => (match n.opens with
    | [] => bif Nat.beq n.wd zero.length then tst (decide (lo < hi) && Nat.beq hi n.rows.length) (K .u (m.set id (some ⟨n.wd, n.rows.take lo ++ List.replicate (hi - lo) zero, []⟩))) else none
    | _ => none)
   | none => none)
  | _ => none
def evalOp (T : Table) (t : Tmps) (m : Mem) (op : AOp) (K : AV → Mem → Option R) : Option R := match op with
 | .mv x => K (ev t x) m
 | .pick c x y => match ev t c with
  | .v (.bool b) => bif b then K (ev t x) m else K (ev t y) m
  | _ => none
 | .box x => match cellsOf (ev t x) with
  | some cs => bif boxable cs then K (.a m.length 0 0) (m ++ [some ⟨cs.length, [wakeRow cs], wakeOpens 0 cs⟩]) else none
  | none => none
 | .alloc zero => K (.a m.length 0 0) (m ++ [some ⟨zero.length, [zero], []⟩])
 | .build zero parts => match setParts (zero.map D.up) t parts with
  | some xs => K (.g xs) m
  | none => none
 | .lit wd rows parts => match rows, parts with
  | [], [] => K (.o wd []) m
  | _, _ => match litParts ⟨wd, rows, []⟩ t parts with
   | some n => K (.r m.length) (m ++ [some n])
   | none => none
 | .load agg ks x => match ev t x with
  | .a id i c => ldOs ks m id i c fun xs m => ret1 K m (mkAgg agg xs)
  | .fa row c => ldFs ks row c fun xs => ret1 K m (mkAgg agg xs)
  | _ => none
 | .store k x y => match ev t x, cellsOf (ev t y) with
  | .a id i c, some cs => bif Nat.beq cs.length k then (match getNode m id with
   | some n => match setCells n i c cs with
    | some n => K .u (m.set id (some n))
    | none => none
   | none => none) else none
  | _, _ => none
 | .bin op x y => match ev t x, ev t y with
  | .v a, .v b => binV op a b fun z => K (.v z) m
  | _, _ => none
 | .beq neg x y => match ev t x, ev t y with
  | .v (.bool a), .v (.bool b) => K (.v (.bool (if neg then a != b else a == b))) m
  | _, _ => none
 | .geq neg ks x y => match ev t x, ev t y with
  | .g a, .g b => (match eqCells ks a b with
   | some z => K (.v (.bool (if neg then !z else z))) m
   | none => none)
  | _, _ => none
 | .un op x => match ev t x with
  | .v a => unV op a fun z => K (.v z) m
  | _ => none
 | .conv k x => match k, ev t x with
  | .int k, .v (.int _ n) => K (.v (.int k (k.wrap n))) m
  | .same, .v (.string s) => K (.v (.string s)) m
  | .intStr, .v (.int _ n) => K (.v (.string (Utf8.encode n))) m
  | .strBytes, .v (.string s) => K (.r m.length) (m ++ [some ⟨1, rowsOfBytes s, []⟩])
  | .bytesStr, .fz 1 rows => tst (allBytes rows) (K (.v (.string (bytesOfRows rows))) m)
  | .bytesStr, .o 1 [] => K (.v (.string ByteArray.empty)) m
  | .bytesStr, .r id => (match getNode m id with
   | some ⟨1, rows, []⟩ => tst (allBytes rows) (K (.v (.string (bytesOfRows rows))) m)
   | _ => none)
  | _, _ => none
 | .fn f caps => K (.f f (evs t caps)) m
 | .mk zero bytes n c => match intOf (ev t n), intOf (ev t c) with
  | some n, some c => tst (cutOk n c maxLen && decide (c.toNat * bytes ≤ maxBytes))
    (K (.r m.length) (m ++ [some ⟨zero.length, List.replicate n.toNat zero, []⟩]))
  | _, _ => none
 | .slc wd x lo hi => match wd, ev t x with
  | none, .v (.string s) => (match boundOf t 0 lo, boundOf t s.size hi with
   | some l, some h => tst (cutOk l h s.size) (K (.v (.string (s.extract l.toNat h.toNat))) m)
   | _, _ => none)
  | some wd, .fz wd' rows => bif Nat.beq wd' wd then (match boundOf t 0 lo, boundOf t rows.length hi with
   | some l, some h => tst (cutOk l h rows.length) (K (.fz wd' ((rows.take h.toNat).drop l.toNat)) m)
   | _, _ => none) else none
  | _, _ => none
 | .fad off x => match ev t x with
  | .a id i c => K (.a id i (c + off)) m
  | .fa row c => K (.fa row (c + off)) m
  | _ => none
 | .fld agg off n x => match ev t x with
  | .g xs => bif Nat.ble (off + n) xs.length then ret1 K m (mkAgg agg ((xs.drop off).take n)) else none
  | _ => none
 | .iad wd x i => match intOf (ev t i), ev t x with
  | some i, .r id => (match getNode m id with
   | some n => bif Nat.beq n.wd wd then tst (decide (0 ≤ i) && decide (i.toNat < n.rows.length)) (K (.a id i.toNat 0) m) else none
   | none => none)
  | some i, .fz wd' rows => bif Nat.beq wd' wd then tst (decide (0 ≤ i)) (look rows i.toNat fun row => K (.fa row 0) m) else none
  | _, _ => none
 | .idx x i => match anyI (ev t i), ev t x with
  | some i, .v (.string s) => tst (decide (0 ≤ i)) (byteAt s i.toNat fun b => K (.v (.int .u8 b.toNat)) m)
  | _, _ => none
 | .ext x i => match ev t x with
  | .t xs => ret1 K m xs[i]?
  | _ => none
 | .call f modes fz res args => match ev t f with
  | .f fn caps => callOp T m modes fz res fn (evs t args) (fun m1 => snapI1s m1 caps) K
  | .ff fn caps => callOp T m modes fz res fn (evs t args) (fun _ => some caps) K
  | _ => none
 | .app wd bytes x y => rowsOf false wd m (ev t x) fun r1 o1 m => rowsOf true wd m (ev t y) fun r2 o2 m =>
   tst (decide ((r1.length + r2.length) * bytes ≤ maxBytes))
    (K (.r m.length) (m ++ [some ⟨wd, r1 ++ r2, joinO o1 (shiftO r1.length o2)⟩]))
 | .len str x => match lenAV str m (ev t x) with
  | some n => K (.v (.int .i64 n)) m
  | none => none
 | .mx x y => match ev t x, ev t y with
  | .v (.int k a), .v (.int k' b) => sameKind k k' (K (.v (.int k (bif decide (b > a) then b else a))) m)
  | _, _ => none
 | .more op => evalMore t m op K
 | .cod mk x i => match ev t x, ev t i with
  | .v (.slice b n c), .v (.int .i64 i) => callT T 0 [.f mk [], .d (.v (.slice b n c)), .d (.v (.int .i64 i))] fun o => oD o.res fun d => dI .u8 d fun v => K (.fa [.v (.int .u8 v)] 0) m
  | _, _ => none
def mayPut (keep : List Nat) : Option Nat → Bool
 | none => true
 | some i => !keep.contains i
def evalOps (C : Ctx) : List AOper → St → (St → Option R) → Option R
 | [], st, K => K st
 | o :: os, st, K => bif mayPut C.keep o.dst then (match o.guard with
   | none => evalOp C.T st.t st.m o.op fun x m => evalOps C os ⟨put st.t o.dst x, m⟩ K
   | some (j, b) => match st.t j with
    | .v (.bool x) => bif x == b then evalOp C.T (upd st.t j (.v (.bool b))) st.m o.op fun x m => evalOps C os ⟨put (upd st.t j (.v (.bool b))) o.dst x, m⟩ K
     else evalOps C os ⟨put (upd st.t j (.v (.bool !b))) o.dst .n, st.m⟩ K
    | .n => evalOps C os ⟨put st.t o.dst .n, st.m⟩ K
    | _ => none) else none
def restCell (m : Mem) (o : Option AV) (d : D) : Option (AV × Mem) := match o with
 | none => some (d.up, m)
 | some (.r id) => (match takeId m id with
  | some (.s wd rows, m) => some (.o wd rows, m)
  | _ => none)
 | some (.fz wd rows) => some (.fz wd rows, m)
 | _ => none
def restRow (m : Mem) (opens : Opens) : Nat → Row → Option (List AV × Mem)
 | _, [] => some ([], m)
 | c, d :: ds => match restCell m (findO 0 c opens) d with
  | some (x, m) => match restRow m opens (c + 1) ds with
   | some (xs, m) => some (x :: xs, m)
   | none => none
  | none => none
def restVar (m : Mem) (id : Nat) : Option (List AV × Mem) := match getNode m id with
 | some ⟨_, [row], opens⟩ => restRow (m.set id none) opens 0 row
 | _ => none
def restAV (m : Mem) : AV → Option (AV × Mem)
 | .v x => some (.v x, m)
 | .fz wd rows => some (.fz wd rows, m)
 | .o wd [] => some (.o wd [], m)
 | .fa row c => some (.fa row c, m)
 | .f fn [] => some (.f fn [], m)
 | .r id => match takeId m id with
  | some (.s wd rows, m) => some (.o wd rows, m)
  | _ => none
 | .a id 0 0 => match restVar m id with
  | some (xs, m) => some (.b xs, m)
  | none => none
 | .ff fn caps => some (.ff fn caps, m)
 | .n => some (.n, m)
 | .u => some (.u, m)
 | .w id lo hi => some (.w id lo hi, m)
 | _ => none
def restCells (m : Mem) : List AV → Option (List AV × Mem)
 | [] => some ([], m)
 | x :: xs => match restAV m x with
  | some (y, m) => match restCells m xs with
   | some (ys, m) => some (y :: ys, m)
   | none => none
  | none => none
def rest1 (m : Mem) (x : AV) : Option (AV × Mem) := match x with
 | .g xs => match restCells m xs with
  | some (ys, m) => some (.g ys, m)
  | none => none
 | x => restAV m x
def restAVs (t : Tmps) (m : Mem) : List Nat → Option (List AV × Mem)
 | [] => some ([], m)
 | i :: is => match rest1 m (t i) with
  | some (x, m) => match restAVs t m is with
   | some (xs, m) => some (x :: xs, m)
   | none => none
  | none => none
def restX (m : Mem) (x : AV) : Option (AV × Mem) := match x with
 | .w id lo hi => (match takeCell m (.w id lo hi) with
  | some (.s wd rows, m) => some (.o wd rows, m)
  | _ => none)
 | x => rest1 m x
def restXs (t : Tmps) (m : Mem) : List Nat → Option (List AV × Mem)
 | [] => some ([], m)
 | i :: is => match restX m (t i) with
  | some (x, m) => match restXs t m is with
   | some (xs, m) => some (x :: xs, m)
   | none => none
  | none => none
def wakeAV (m : Mem) : AV → AV × Mem
 | .o wd rows => (.r m.length, m ++ [some ⟨wd, rows, []⟩])
 | .b xs => (.a m.length 0 0, m ++ [some ⟨xs.length, [wakeRow xs], wakeOpens 0 xs⟩])
 | .w _ _ _ => (.u, m)
 | x => (x, m)
def wakeCells (m : Mem) : List AV → List AV × Mem
 | [] => ([], m)
 | x :: xs => match wakeAV m x with
  | (y, m) => match wakeCells m xs with
   | (ys, m) => (y :: ys, m)
def wake1 (m : Mem) (x : AV) : AV × Mem := match x with
 | .g xs => match wakeCells m xs with
  | (ys, m) => (.g ys, m)
 | x => wakeAV m x
def wakeAVs (t : Tmps) (m : Mem) : List Nat → List AV → St
 | i :: is, x :: xs => match wake1 m x with
  | (y, m) => wakeAVs (upd t i y) m is xs
 | _, _ => ⟨t, m⟩
def none_ : Tmps := fun _ => .u
def wake (live : List Nat) (xs : List AV) : St := wakeAVs none_ [] live xs
def findBase (t : Tmps) (id : Nat) : List Nat → Nat → Option Nat
 | [], _ => none
 | i :: is, j => match t i with
  | .r id' => bif Nat.beq id' id then some j else findBase t id is (j + 1)
  | _ => findBase t id is (j + 1)
def ixViews (t : Tmps) (m : Mem) (live : List Nat) (ys : List AV) : List AV → Option (List AV)
 | [] => some []
 | y :: r => match y with
  | .w id lo hi => (match findBase t id live 0, getNode m id with
   | some b, some n => (match ys[b]? with
    | some (.o wd _) => bif Nat.beq n.wd wd then (match ixViews t m live ys r with | some zs => some (.w b lo hi :: zs) | none => none) else none
    | _ => none)
   | _, _ => none)
  | y => (match ixViews t m live ys r with | some zs => some (y :: zs) | none => none)
def restVs (t : Tmps) (m : Mem) (live : List Nat) : Option (List AV × Mem) := match restAVs t m live with
 | some (ys, m') => (match ixViews t m live ys ys with
  | some zs => some (zs, m')
  | none => none)
 | none => none
def wakeView (live : List Nat) (xs : List AV) (i b lo hi : Nat) (st : St) : St := match live[b]?, xs[b]? with
 | some ib, some (.o wd _) => (match st.t ib with
  | .r id => (match getNode st.m id with
   | some n => bif Nat.beq n.wd wd then ⟨upd st.t i (.w id lo hi), st.m⟩ else st
   | none => st)
  | _ => st)
 | _, _ => st
def wakeViews (live : List Nat) (xs : List AV) : List Nat → List AV → St → St
 | i :: is, y :: ys, st => match y with
  | .w b lo hi => wakeViews live xs is ys (wakeView live xs i b lo hi st)
  | _ => wakeViews live xs is ys st
 | _, _, st => st
def wakeV (live : List Nat) (xs : List AV) : St := wakeViews live xs live xs (wake live xs)
def shape0 (k : AK) (x : AV) (K : AV → Option R) : Option R := match k with
 | .c (.i k) => aI k x fun n => K (.v (.int k n))
 | .c .b => aB x fun b => K (.v (.bool b))
 | .c .s => aS x fun s => K (.v (.string s))
 | .c (.sl wd) => aL wd x fun rows => K (.fz wd rows)
 | .c .h => aH x fun b n c => K (.v (.slice b n c))
 | .o wd => aO wd x fun rows => K (.o wd rows)
 | .u => K .u
 | .ff => aF x fun fn caps => K (.ff fn caps)
 | _ => none
def shapes0 : List AK → List AV → Nat → (List AV → Option R) → Option R
 | [], _, _, K => K []
 | k :: ks, xs, j, K => aV xs j fun x => shape0 k x fun y => shapes0 ks xs (j + 1) fun ys => K (y :: ys)
def shape (k : AK) (x : AV) (K : AV → Option R) : Option R := match k with
 | .b ks => aX x fun xs => shapes0 ks xs 0 fun ys => K (.b ys)
 | .g ks => aG ks.length x fun xs => shapes0 ks xs 0 fun ys => K (.g ys)
 | k => shape0 k x K
def shapes : List AK → List AV → Nat → (List AV → Option R) → Option R
 | [], _, _, K => K []
 | k :: ks, xs, j, K => aV xs j fun x => shape k x fun y => shapes ks xs (j + 1) fun ys => K (y :: ys)
abbrev Exits := List (Ex × List (Nat × AK))
def firsts : List (Nat × AK) → List Nat
 | [] => []
 | (i, _) :: l => i :: firsts l
def seconds : List (Nat × AK) → List AK
 | [] => []
 | (_, k) :: l => k :: seconds l
def Ex.same : Ex → Ex → Bool
 | .normal, .normal => true
 | .ret, .ret => true
 | .exit i, .exit j => Nat.beq i j
 | _, _ => false
def afterOf (e : Ex) : Exits → Option (List (Nat × AK))
 | [] => none
 | (x, l) :: r => bif e.same x then some l else afterOf e r
def onExit (e : Ex) (K : Ex → List (Nat × AK) → Option R) : Exits → Option R
 | [] => none
 | (x, l) :: r => bif e.same x then K x l else onExit e K r
def loopN (body : St → (Ex → St → Option (Ex × List AV)) → Option (Ex × List AV)) (live : List Nat) (exits : Exits) : Nat → List AV → Option (Ex × List AV)
 | 0, _ => none
 | k + 1, xs => body (wakeV live xs) fun e st => match e with
  | .normal => match restVs st.t st.m live with
   | some (ys, _) => loopN body live exits k ys
   | none => none
  | e => match afterOf e exits with
   | some l => match restXs st.t st.m (firsts l) with
    | some (ys, _) => some (e, ys)
    | none => none
   | none => none
def aft (r : Option (Ex × List AV)) (K : Ex → List AV → Option R) : Option R := match r with
 | some (e, ys) => K e ys
 | none => none
def afterLoop (exits : Exits) (K : Ex → St → Option R) (r : Option (Ex × List AV)) : Option R :=
 aft r fun e ys => onExit e (fun e l => shapes (seconds l) ys 0 fun ys => K e (wake (firsts l) ys)) exits
def evalPre (t : Tmps) : List (Nat × Nat × List Kd) → Mem → (Mem → Option R) → Option R
 | [], m, K => K m
 | (i, off, ks) :: l, m, K => bif Nat.beq off 999999 then evalPre t l m K else match t i with
  | .a id ii c => ldOs ks m id ii (c + off) fun _ m => evalPre t l m K
  | _ => none
def memN (id : Nat) : List Nat → Bool
 | [] => false
 | i :: l => Nat.beq i id || memN id l
def rdB : List Mode → Bool
 | [] => true
 | .rd :: l => rdB l
 | _ => false
def emptyAt (m : Mem) (id : Nat) : Bool := match getNode m id with
 | some n => n.opens.isEmpty
 | none => false
def lentB (D : List Nat) (m : Mem) : List Mode → List AV → Bool
 | .lent :: ms, .a id 0 0 :: _ => memN id D && (emptyAt m id && rdB ms)
 | _, _ => false
def hOk0 (D : List Nat) (t : Tmps) (m : Mem) : AOp → Bool
 | .app _ _ x y => match ev t x, ev t y with
  | .o _ [], .fz _ _ => true
  | .o _ [], .o _ [] => true
  | _, _ => false
 | .call _ modes _ _ xs => (modes.all fun md => match md with | .rd => true | _ => false) || lentB D m modes (evs t xs)
 | .box _ => true
 | .lit _ _ _ => true
 | .mk _ _ _ _ => true
 | .conv _ _ => true
 | _ => false
def hMem (D : List Nat) (t : Tmps) : AOp → Bool
 | .load _ _ x => (match ev t x with | .a id _ _ => memN id D | _ => false)
 | .store _ x _ => (match ev t x with | .a id _ _ => memN id D | _ => false)
 | .iad _ x _ => (match ev t x with | .r id => memN id D | _ => false)
 | _ => false
def hOk (D : List Nat) (t : Tmps) (m : Mem) (op : AOp) : Bool := hOk0 D t m op || hMem D t op
def freeM : AOp → Bool
 | .mv _ => true
 | .bin _ _ _ => true
 | .un _ _ => true
 | .fad _ _ => true
 | .ext _ _ => true
 | .mx _ _ => true
 | _ => false
def lightD (D : List Nat) (t : Tmps) (op : AOp) : Bool := match D with
 | [] => true
 | _ :: _ => freeM op || (match op with
  | .load _ _ x => (match ev t x with
   | .a id _ _ => !memN id D
   | .fa _ _ => true
   | _ => false)
  | .iad _ x _ => (match ev t x with
   | .r id => !memN id D
   | .fz _ _ => true
   | _ => false)
  | _ => false)
def lentIds (t : Tmps) : List (Nat × Nat × List Kd) → List Nat
 | [] => []
 | (i, off, []) :: l => bif Nat.beq off 999999 then i :: lentIds t l else (match t i with
  | .a id _ _ => id :: lentIds t l
  | _ => lentIds t l)
 | _ :: l => lentIds t l
def newD (n : Nat) : List Nat → Bool
 | [] => true
 | i :: l => Nat.ble n i && newD n l
def headOne (C : Ctx) (m0 : Mem) (tag : Nat) (o : AOper) (t : Tmps) (m : Mem) (K : Tmps → Mem → Option R) : Option R := match tag with
 | 0 => bif lightD C.D t o.op || newD m0.length C.D then evalOp C.T t m0 o.op fun x m' => bif Nat.beq m'.length m0.length then K (put t o.dst x) m else none else none
 | 1 => bif hOk C.D t m o.op then evalOp C.T t m o.op fun x m' => K (put t o.dst x) m' else none
 | 3 => evalOp C.T t m0 o.op fun x m' => bif Nat.beq m'.length m0.length then K (put t o.dst x) m else none
 | _ => K (put t o.dst .u) m
def evalHead (C : Ctx) (m0 : Mem) : List (Nat × AOper) → Tmps → Mem → (Tmps → Mem → Option R) → Option R
 | [], t, m, K => K t m
 | (tag, o) :: os, t, m, K => bif mayPut C.keep o.dst then (match o.guard with
  | none => headOne C m0 tag o t m fun t m => evalHead C m0 os t m K
  | some (j, b) => match t j with
   | .v (.bool x) => bif x == b then headOne C m0 tag o (upd t j (.v (.bool b))) m fun t m => evalHead C m0 os t m K
    else evalHead C m0 os (put (upd t j (.v (.bool !b))) o.dst .n) m K
   | .n => evalHead C m0 os (put t o.dst .n) m K
   | _ => none) else none
def floats : List (Nat × AOper) → List Nat × List AV
 | [] => ([], [])
 | (2, o) :: os => match o.dst, o.op, floats os with
  | some d, .alloc zero, (is, xs) => (d :: is, .b (zero.map D.up) :: xs)
  | _, _, r => r
 | _ :: os => floats os
def evalDr (C : Ctx) (pre : List (Nat × Nat × List Kd)) (head : List (Nat × AOper)) (tail : List AOper) (st : St) (K : St → Option R) : Option R :=
 evalPre st.t pre st.m fun m0 => evalHead ⟨C.T, C.keep, lentIds st.t pre⟩ m0 head st.t m0 fun t m => evalOps C tail (wakeAVs t m (floats head).1 (floats head).2) K
end
noncomputable def agree {R : Type} (a b : Option R) : Option R := open Classical in if a = b then a else none
noncomputable def evalC (C : Ctx) (k : Nat) : ACode → (R : Type) → St → (Ex → St → Option R) → Option R
 | .skip, _, st, K => K .normal st
 | .reg _ ops, _, st, K => evalOps C ops st fun st => K .normal st
 | .dreg pre head tail, _, st, K => evalDr C pre head tail st fun st => K .normal st
 | .seq x y, R, st, K => evalC C k x R st fun e st => match e with
  | .normal => evalC C k y R st K
  | e => K e st
 | .cond c x y, R, st, K => match ev st.t c with
  | .v (.bool b) => bif b then evalC C k x R st K else evalC C k y R st K
  | .ub => agree (evalC C k x R st K) (evalC C k y R st K)
  | _ => none
 | .block id b, R, st, K => evalC C k b R st fun e st => match e with
  | .exit i => bif Nat.beq i id then K .normal st else K (.exit i) st
  | e => K e st
 | .loop live exits b, _, st, K => match restVs st.t st.m live with
  | some (xs, _) => afterLoop exits K (loopN (evalC C k b (Ex × List AV)) live exits k xs)
  | none => none
 | .exit id, _, st, K => K (.exit id) st
 | .ret, _, st, K => K .ret st
inductive RV where
 | t (i : Nat)
 | c (i : Nat) (agg : Bool) (ks : List Kd)
structure AFun where
 modes : List Mode
 fz : Bool
 results : List RV
 code : ACode
def frozD : D → AV
 | .v x => .v x
 | .s wd rows => .fz wd rows
def frozCells : Row → List AV
 | [] => []
 | d :: ds => frozD d :: frozCells ds
def frozI : I → AV
 | .d d => frozD d
 | .g ds => .g (frozCells ds)
 | .p row => .fa row 0
 | .f fn caps => .ff fn caps
 | _ => .u
def openCells (m : Mem) : Row → List AV × Mem
 | [] => ([], m)
 | .v x :: ds => match openCells m ds with | (xs, m) => (.v x :: xs, m)
 | .s wd rows :: ds => match openCells (m ++ [some ⟨wd, rows, []⟩]) ds with | (xs, m') => (.r m.length :: xs, m')
def openI (m : Mem) : I → AV × Mem
 | .d (.v x) => (.v x, m)
 | .d (.s wd rows) => (.r m.length, m ++ [some ⟨wd, rows, []⟩])
 | .g ds => match openCells m ds with | (xs, m) => (.g xs, m)
 | .p cells => (.a m.length 0 0, m ++ [some ⟨cells.length, [cells], []⟩])
 | _ => (.u, m)
def initArgs (m : Mem) : List Mode → List I → Option (List AV × Mem)
 | [], [] => some ([], m)
 | .rd :: mds, x :: xs => match initArgs m mds xs with
  | some (ys, m) => some (frozI x :: ys, m)
  | none => none
 | _ :: mds, x :: xs => match openI m x with
  | (y, m) => match initArgs m mds xs with
   | some (ys, m) => some (y :: ys, m)
   | none => none
 | _, _ => none
def setArgs (t : Tmps) (i : Nat) : List AV → Tmps
 | [] => t
 | x :: xs => setArgs (upd t i x) (i + 1) xs
def lentOf (i : Nat) : List Mode → List Nat
 | .lent :: mds => i :: lentOf (i + 1) mds
 | _ :: mds => lentOf (i + 1) mds
 | [] => []
def resI : List I → I
 | [x] => x
 | xs => .t xs
def temps (t : Tmps) : List Nat → List AV
 | [] => []
 | i :: is => t i :: temps t is
def resVals {R : Type} (t : Tmps) : List RV → Mem → (List AV → Mem → Option R) → Option R
 | [], m, K => K [] m
 | .t i :: l, m, K => resVals t l m fun xs m => K (t i :: xs) m
 | .c i agg ks :: l, m, K => match t i with
  | .a id i c => ldOs ks m id i c fun ys m => match mkAgg agg ys with
   | some y => resVals t l m fun xs m => K (y :: xs) m
   | none => none
  | _ => none
def leave (af : AFun) (st : St) : Option Out := resVals st.t af.results st.m fun xs m => match takeIs m (temps st.t (lentOf 0 af.modes)) with
 | some (back, m) => match af.fz with
  | true => match snapIs m xs with
   | some rs => some ⟨resI rs, back⟩
   | none => none
  | false => match takeIs m xs with
   | some (rs, _) => some ⟨resI rs, back⟩
   | none => none
 | none => none
noncomputable def evalF (T : Table) (k : Nat) (af : AFun) (args : List I) : Option Out := match initArgs [] af.modes args with
 | some (xs, m) => evalC ⟨T, lentOf 0 af.modes, []⟩ k af.code Out ⟨setArgs none_ 0 xs, m⟩ fun e st => match e with
  | .exit _ => none
  | _ => leave af st
 | none => none
abbrev kI : Kd := .i .i64
def Opd.i (n : Int) : Opd := .c (.v (.int .i64 n))
def Opd.b (b : Bool) : Opd := .c (.v (.bool b))
def oM (d s : Nat) : AOper := ⟨some d, .mv (.t s), none⟩
def oK (d : Nat) (n : Int) : AOper := ⟨some d, .mv (.c (.v (.int .i64 n))), none⟩
def oV (d : Nat) (b : Bool) : AOper := ⟨some d, .mv (.c (.v (.bool b))), none⟩
def oQ (d : Nat) (o : AOp) : AOper := ⟨some d, o, none⟩
def oS (o : AOp) : AOper := ⟨none, o, none⟩
def oJ (d : Nat) (j : Nat) (b : Bool) (o : AOp) : AOper := ⟨some d, o, some (j, b)⟩
def oL (d : Nat) (ks : List Kd) (s : Nat) : AOper := ⟨some d, .load true ks (.t s), none⟩
def oW (d : Nat) (k : Kd) (s : Nat) : AOper := ⟨some d, .load false [k] (.t s), none⟩
def oF (d off s : Nat) : AOper := ⟨some d, .fad off (.t s), none⟩
def oI (d w s i : Nat) : AOper := ⟨some d, .iad w (.t s) (.t i), none⟩
def oX (d s i : Nat) : AOper := ⟨some d, .ext (.t s) i, none⟩
def oB (d : Nat) (o : BinOp) (x y : Nat) : AOper := ⟨some d, .bin o (.t x) (.t y), none⟩
def oBi (d : Nat) (o : BinOp) (x : Nat) (n : Int) : AOper := ⟨some d, .bin o (.t x) (.c (.v (.int .i64 n))), none⟩
def oN (d x : Nat) : AOper := ⟨some d, .un .not (.t x), none⟩
def oZ (d x : Nat) : AOper := ⟨some d, .len false (.t x), none⟩
def rds : List Nat → List Mode
 | [] => []
 | _ :: l => .rd :: rds l
def tms : List Nat → List Opd
 | [] => []
 | i :: l => .t i :: tms l
def oC (d f : Nat) (rs : List RK) (xs : List Nat) : AOper := ⟨some d, .call (.f f) (rds xs) false rs (tms xs), none⟩
def ACode.g (ops : List AOper) : ACode := .reg false ops
end Go.Am
/- AM: how closed data and temporaries stand to a world; frames. Nothing is assumed. -/
namespace Go.Am
def Sc : Value → Prop
 | .int _ _ => True
 | .bool _ => True
 | .string _ => True
 | .slice _ _ _ => True
 | _ => False
def Holds (w : World) (b off : Nat) (vs : List Value) : Prop :=
 ∃ cs elem fz, w.heap[b]? = some (.cells cs elem fz) ∧ ∀ k v, vs[k]? = some v → cs[off + k]? = some v
def Free (w : World) (b off n : Nat) : Prop :=
 ∃ cs elem fz, w.heap[b]? = some (.cells cs elem fz) ∧ off + n ≤ cs.size ∧ ∀ k, off ≤ k → k < off + n → ¬ (fz.1 ≤ k ∧ k < fz.2)
theorem Holds.frame {w w' : World} {b off : Nat} {vs : List Value} (h : Holds w b off vs) (hb : w'.heap[b]? = w.heap[b]?) : Holds w' b off vs := by
 unfold Holds at *
 rwa [hb]
theorem Free.frame {w w' : World} {b off n : Nat} (h : Free w b off n) (hb : w'.heap[b]? = w.heap[b]?) : Free w' b off n := by
 unfold Free at *
 rwa [hb]
theorem Holds.lt {w : World} {b off : Nat} {vs : List Value} (h : Holds w b off vs) : b < w.heap.size := by
 obtain ⟨cs, e, f, h, _⟩ := h
 rcases Nat.lt_or_ge b w.heap.size with h' | h'
 ·exact h'
 ·simp [Array.getElem?_eq_none h'] at h
mutual
inductive OwnD (w : World) : D → Value → List Nat → Prop
 | v {x : Value} (h : Sc x) : OwnD w (.v x) x []
 | z {wd : Nat} {base : Option Addr} : OwnD w (.s wd []) (.slice base 0 0) []
 | s {wd b off cap : Nat} {rows : Rows} {vs : List Value} {c : List Nat} (hw : ∀ r ∈ rows, r.length = wd) (hc : rows.length ≤ cap)
   (hh : Holds w b off vs) (hf : Free w b off (cap * wd)) (hl : OwnL w rows.flatten vs c) : OwnD w (.s wd rows) (.slice (some ⟨b, off, none⟩) rows.length cap) (b :: c)
inductive OwnL (w : World) : List D → List Value → List Nat → Prop
 | nil : OwnL w [] [] []
 | cons {d : D} {ds : List D} {v : Value} {vs : List Value} {c c' : List Nat} (h : OwnD w d v c) (h' : OwnL w ds vs c') : OwnL w (d :: ds) (v :: vs) (c ++ c')
end
mutual
inductive FroD (w : World) (Z : Nat → Prop) : D → Value → Prop
 | v {x : Value} (h : Sc x) : FroD w Z (.v x) x
 | z {wd cap : Nat} {base : Option Addr} : FroD w Z (.s wd []) (.slice base 0 cap)
 | s {wd b off cap : Nat} {rows : Rows} {vs : List Value} (hw : ∀ r ∈ rows, r.length = wd) (hc : rows.length ≤ cap) (hz : Z b)
   (hh : Holds w b off vs) (hl : FroL w Z rows.flatten vs) : FroD w Z (.s wd rows) (.slice (some ⟨b, off, none⟩) rows.length cap)
inductive FroL (w : World) (Z : Nat → Prop) : List D → List Value → Prop
 | nil : FroL w Z [] []
 | cons {d : D} {ds : List D} {v : Value} {vs : List Value} (h : FroD w Z d v) (h' : FroL w Z ds vs) : FroL w Z (d :: ds) (v :: vs)
end
section
variable {w w' : World}
theorem OwnD.frame {d : D} {v : Value} {c : List Nat} (h : OwnD w d v c) : (∀ b ∈ c, w'.heap[b]? = w.heap[b]?) → OwnD w' d v c :=
 OwnD.rec (motive_1 := fun d v c _ => (∀ b ∈ c, w'.heap[b]? = w.heap[b]?) → OwnD w' d v c) (motive_2 := fun d v c _ => (∀ b ∈ c, w'.heap[b]? = w.heap[b]?) → OwnL w' d v c)
  (fun h _ => .v h) (fun _ => .z)
  (fun hw hc hh hf _ ih hb => .s hw hc (hh.frame (hb _ (by simp))) (hf.frame (hb _ (by simp))) (ih fun b h => hb b (by simp [h])))
  (fun _ => .nil) (fun _ _ ih ih' hb => .cons (ih fun b h => hb b (by simp [h])) (ih' fun b h => hb b (by simp [h]))) h
theorem OwnL.frame {d : List D} {v : List Value} {c : List Nat} (h : OwnL w d v c) (hb : ∀ b ∈ c, w'.heap[b]? = w.heap[b]?) : OwnL w' d v c := by
 induction d generalizing v c with
 | nil => cases h; exact .nil
 | cons d ds ih => cases h with
  | cons h h' => exact .cons (h.frame fun b h => hb b (by simp [h])) (ih h' fun b h => hb b (by simp [h]))
theorem OwnD.lt {d : D} {v : Value} {c : List Nat} (h : OwnD w d v c) : ∀ b ∈ c, b < w.heap.size :=
 OwnD.rec (motive_1 := fun _ _ c _ => ∀ b ∈ c, b < w.heap.size) (motive_2 := fun _ _ c _ => ∀ b ∈ c, b < w.heap.size)
  (fun _ => by simp) (by simp)
  (fun _ _ hh _ _ ih b hb => by
   rcases List.mem_cons.1 hb with rfl | hb
   ·exact hh.lt
   ·exact ih b hb)
  (by simp)
  (fun _ _ ih ih' b hb => by
   rcases List.mem_append.1 hb with hb | hb
   ·exact ih b hb
   ·exact ih' b hb) h
theorem OwnL.lt {d : List D} {v : List Value} {c : List Nat} (h : OwnL w d v c) : ∀ b ∈ c, b < w.heap.size := by
 induction d generalizing v c with
 | nil => cases h; simp
 | cons d ds ih => cases h with
  | cons h h' =>
   intro b hb
   rcases List.mem_append.1 hb with hb | hb
   ·exact h.lt b hb
   ·exact ih h' b hb
theorem FroD.frame {Z Z' : Nat → Prop} {d : D} {v : Value} (h : FroD w Z d v) (hz : ∀ b, Z b → Z' b) (hb : ∀ b, Z b → w'.heap[b]? = w.heap[b]?) : FroD w' Z' d v :=
 FroD.rec (motive_1 := fun d v _ => FroD w' Z' d v) (motive_2 := fun d v _ => FroL w' Z' d v)
  (fun h => .v h) (.z) (fun hw hc hz' hh _ ih => .s hw hc (hz _ hz') (hh.frame (hb _ hz')) ih) .nil (fun _ _ ih ih' => .cons ih ih') h
theorem FroL.frame {Z Z' : Nat → Prop} {d : List D} {v : List Value} (h : FroL w Z d v) (hz : ∀ b, Z b → Z' b) (hb : ∀ b, Z b → w'.heap[b]? = w.heap[b]?) : FroL w' Z' d v := by
 induction d generalizing v with
 | nil => cases h; exact .nil
 | cons d ds ih => cases h with | cons h h' => exact .cons (h.frame hz hb) (ih h')
theorem OwnD.fro {Z : Nat → Prop} {d : D} {v : Value} {c : List Nat} (h : OwnD w d v c) : (∀ b ∈ c, Z b) → FroD w Z d v :=
 OwnD.rec (motive_1 := fun d v c _ => (∀ b ∈ c, Z b) → FroD w Z d v) (motive_2 := fun d v c _ => (∀ b ∈ c, Z b) → FroL w Z d v)
  (fun h _ => .v h) (fun _ => .z) (fun hw hc hh _ _ ih hz => .s hw hc (hz _ (by simp)) hh (ih fun b h => hz b (by simp [h])))
  (fun _ => .nil) (fun _ _ ih ih' hz => .cons (ih fun b h => hz b (by simp [h])) (ih' fun b h => hz b (by simp [h]))) h
theorem OwnL.fro {Z : Nat → Prop} {d : List D} {v : List Value} {c : List Nat} (h : OwnL w d v c) (hz : ∀ b ∈ c, Z b) : FroL w Z d v := by
 induction d generalizing v c with
 | nil => cases h; exact .nil
 | cons d ds ih => cases h with
  | cons h h' => exact .cons (h.fro fun b h => hz b (by simp [h])) (ih h' fun b h => hz b (by simp [h]))
theorem OwnL.length {ds : List D} {vs : List Value} {c : List Nat} (h : OwnL w ds vs c) : vs.length = ds.length := by
 induction ds generalizing vs c with
 | nil => cases h; rfl
 | cons d ds ih => cases h with | cons h h' => simp [ih h']
theorem FroL.length {Z : Nat → Prop} {ds : List D} {vs : List Value} (h : FroL w Z ds vs) : vs.length = ds.length := by
 induction ds generalizing vs with
 | nil => cases h; rfl
 | cons d ds ih => cases h with | cons h h' => simp [ih h']
theorem FroL.get {Z : Nat → Prop} {ds : List D} {vs : List Value} (h : FroL w Z ds vs) {k : Nat} {d : D} (hk : ds[k]? = some d) : ∃ v, vs[k]? = some v ∧ FroD w Z d v := by
 induction ds generalizing vs k with
 | nil => simp at hk
 | cons d ds ih => cases h with
  | cons h h' => cases k with
   | zero => simp at hk; subst hk; exact ⟨_, rfl, h⟩
   | succ k => simpa using ih h' (by simpa using hk)
theorem FroL.drop {Z : Nat → Prop} {ds : List D} {vs : List Value} (h : FroL w Z ds vs) (k : Nat) : FroL w Z (ds.drop k) (vs.drop k) := by
 induction k generalizing ds vs with
 | zero => simpa using h
 | succ k ih => cases h with
  | nil => simpa using FroL.nil
  | cons h h' => simpa using ih h'
theorem FroL.take {Z : Nat → Prop} {ds : List D} {vs : List Value} (h : FroL w Z ds vs) (k : Nat) : FroL w Z (ds.take k) (vs.take k) := by
 induction k generalizing ds vs with
 | zero => simpa using FroL.nil
 | succ k ih => cases h with
  | nil => simpa using FroL.nil
  | cons h h' => simpa using FroL.cons h (ih h')
theorem FroL.append {Z : Nat → Prop} {ds es : List D} {vs us : List Value} (h : FroL w Z ds vs) (h' : FroL w Z es us) : FroL w Z (ds ++ es) (vs ++ us) := by
 induction ds generalizing vs with
 | nil => cases h; simpa using h'
 | cons d ds ih => cases h with | cons h h1 => simpa using FroL.cons h (ih h1)
end
structure Hd where
 base : Option Addr
 wd : Nat
 len : Nat
 cap : Nat
mutual
inductive IFro (X : Nat → Prop) (w : World) (Z : Nat → Prop) : I → Value → Prop
 | d {d : D} {v : Value} (h : FroD w Z d v) : IFro X w Z (.d d) v
 | g {ds : Row} {vs : Array Value} (h : FroL w Z ds vs.toList) : IFro X w Z (.g ds) (.agg vs)
 | p {row : Row} {b off : Nat} {vs : List Value} (hz : Z b) (hh : Holds w b off vs) (h : FroL w Z row vs) : IFro X w Z (.p row) (.pointer (some ⟨b, off, none⟩))
 | f {fn : Nat} {caps : List I} {cs : Array Value} (hx : X fn) (h : IFroL X w Z caps cs.toList) : IFro X w Z (.f fn caps) (.func (.func fn) #[] cs)
 | t {xs : List I} {vs : Array Value} (h : IFroL X w Z xs vs.toList) : IFro X w Z (.t xs) (.tuple vs)
inductive IFroL (X : Nat → Prop) (w : World) (Z : Nat → Prop) : List I → List Value → Prop
 | nil : IFroL X w Z [] []
 | cons {x : I} {xs : List I} {v : Value} {vs : List Value} (h : IFro X w Z x v) (h' : IFroL X w Z xs vs) : IFroL X w Z (x :: xs) (v :: vs)
end
mutual
inductive IOwn (X : Nat → Prop) (w : World) : I → Value → List Nat → Prop
 | d {d : D} {v : Value} {c : List Nat} (h : OwnD w d v c) : IOwn X w (.d d) v c
 | g {ds : Row} {vs : Array Value} {c : List Nat} (h : OwnL w ds vs.toList c) : IOwn X w (.g ds) (.agg vs) c
 | p {row : Row} {b off : Nat} {vs : List Value} {c : List Nat} (hh : Holds w b off vs) (hf : Free w b off row.length) (h : OwnL w row vs c) : IOwn X w (.p row) (.pointer (some ⟨b, off, none⟩)) (b :: c)
 | f {fn : Nat} (hx : X fn) : IOwn X w (.f fn []) (.func (.func fn) #[] #[]) []
 | t {xs : List I} {vs : Array Value} {c : List Nat} (h : IOwnL X w xs vs.toList c) : IOwn X w (.t xs) (.tuple vs) c
inductive IOwnL (X : Nat → Prop) (w : World) : List I → List Value → List Nat → Prop
 | nil : IOwnL X w [] [] []
 | cons {x : I} {xs : List I} {v : Value} {vs : List Value} {c c' : List Nat} (h : IOwn X w x v c) (h' : IOwnL X w xs vs c') : IOwnL X w (x :: xs) (v :: vs) (c ++ c')
end
mutual
inductive ARel (X : Nat → Prop) (w : World) (Z : Nat → Prop) (hs : List Hd) : AV → Value → Prop
 | v {x : Value} (h : Sc x) : ARel X w Z hs (.v x) x
 | o {wd : Nat} {base : Option Addr} : ARel X w Z hs (.o wd []) (.slice base 0 0)
 | fz {wd : Nat} {rows : Rows} {v : Value} (h : FroD w Z (.s wd rows) v) : ARel X w Z hs (.fz wd rows) v
 | r {id : Nat} {h : Hd} (hh : hs[id]? = some h) : ARel X w Z hs (.r id) (.slice h.base h.len h.cap)
 | g {xs : List AV} {vs : Array Value} (h : ARelL X w Z hs xs vs.toList) : ARel X w Z hs (.g xs) (.agg vs)
 | a {id i c b off : Nat} {h : Hd} (hh : hs[id]? = some h) (hb : h.base = some ⟨b, off, none⟩) (hi : i < h.len) : ARel X w Z hs (.a id i c) (.pointer (some ⟨b, off + i * h.wd + c, none⟩))
 | fa {row : Row} {c b off : Nat} {vs : List Value} (hz : Z b) (hh : Holds w b off vs) (h : FroL w Z (row.drop c) vs) : ARel X w Z hs (.fa row c) (.pointer (some ⟨b, off, none⟩))
 | f {fn : Nat} {caps : List AV} {cs : Array Value} (hx : X fn) (h : ARelL X w Z hs caps cs.toList) : ARel X w Z hs (.f fn caps) (.func (.func fn) #[] cs)
 | ff {fn : Nat} {caps : List I} {cs : Array Value} (hx : X fn) (h : IFroL X w Z caps cs.toList) : ARel X w Z hs (.ff fn caps) (.func (.func fn) #[] cs)
 | t {xs : List AV} {vs : Array Value} (h : ARelL X w Z hs xs vs.toList) : ARel X w Z hs (.t xs) (.tuple vs)
 | n : ARel X w Z hs .n undef
 | u {v : Value} : ARel X w Z hs .u v
 | ub {b : Bool} : ARel X w Z hs .ub (.bool b)
 | w {id lo hi cap : Nat} {base : Option Addr} {h : Hd} (hh : hs[id]? = some h) (hlo : lo ≤ hi) (hhi : hi ≤ h.len) (h0 : lo = 0 → base = h.base ∧ cap = h.cap)
   (hb : ∀ b off, lo < hi → h.base = some ⟨b, off, none⟩ → base = some ⟨b, off + lo * h.wd, none⟩) : ARel X w Z hs (.w id lo hi) (.slice base (hi - lo) cap)
inductive ARelL (X : Nat → Prop) (w : World) (Z : Nat → Prop) (hs : List Hd) : List AV → List Value → Prop
 | nil : ARelL X w Z hs [] []
 | cons {x : AV} {xs : List AV} {v : Value} {vs : List Value} (h : ARel X w Z hs x v) (h' : ARelL X w Z hs xs vs) : ARelL X w Z hs (x :: xs) (v :: vs)
end
inductive CRel (w : World) (Z : Nat → Prop) (hs : List Hd) : AV → Value → List Nat → Prop
 | v {x : Value} (h : Sc x) : CRel w Z hs (.v x) x []
 | o {wd : Nat} {rows : Rows} {v : Value} {c : List Nat} (h : OwnD w (.s wd rows) v c) : CRel w Z hs (.o wd rows) v c
 | fz {wd : Nat} {rows : Rows} {v : Value} (h : FroD w Z (.s wd rows) v) : CRel w Z hs (.fz wd rows) v []
 | r {id : Nat} {h : Hd} (hh : hs[id]? = some h) : CRel w Z hs (.r id) (.slice h.base h.len h.cap) []
inductive CRelL (w : World) (Z : Nat → Prop) (hs : List Hd) : List AV → List Value → List Nat → Prop
 | nil : CRelL w Z hs [] [] []
 | cons {x : AV} {xs : List AV} {v : Value} {vs : List Value} {c c' : List Nat} (h : CRel w Z hs x v c) (h' : CRelL w Z hs xs vs c') : CRelL w Z hs (x :: xs) (v :: vs) (c ++ c')
def viewRow (o : Opens) (i : Nat) : Nat → Row → List AV
 | _, [] => []
 | j, d :: ds => (findO i j o).getD d.up :: viewRow o i (j + 1) ds
def viewRows (o : Opens) : Nat → Rows → List AV
 | _, [] => []
 | i, r :: rs => viewRow o i 0 r ++ viewRows o (i + 1) rs
def Node.view (n : Node) : List AV := viewRows n.opens 0 n.rows
structure NodeRel (w : World) (Z : Nat → Prop) (hs : List Hd) (h : Hd) (n : Node) (c : List Nat) : Prop where
 wd : h.wd = n.wd
 len : h.len = n.rows.length
 rows : ∀ r ∈ n.rows, r.length = n.wd
 opens : ∀ e ∈ n.opens, e.1.1 < n.rows.length ∧ e.1.2 < n.wd
 keys : n.opens.Pairwise fun e e' => e.1 ≠ e'.1
 kind : ∀ e ∈ n.opens, (∃ id, e.2 = .r id) ∨ ∃ wd rows, e.2 = .fz wd rows
 mem : (n.rows = [] ∧ h.cap = 0 ∧ c = []) ∨ ∃ b off vs c', h.base = some ⟨b, off, none⟩ ∧ n.rows.length ≤ h.cap ∧ Holds w b off vs ∧ Free w b off (h.cap * n.wd) ∧ CRelL w Z hs n.view vs c' ∧ c = b :: c'
inductive MemL (w : World) (Z : Nat → Prop) (hs : List Hd) : List Hd → Mem → List Nat → Prop
 | nil : MemL w Z hs [] [] []
 | dead {h : Hd} {l : List Hd} {m : Mem} {c : List Nat} (r : MemL w Z hs l m c) : MemL w Z hs (h :: l) (none :: m) c
 | live {h : Hd} {l : List Hd} {n : Node} {m : Mem} {c c' : List Nat} (hn : NodeRel w Z hs h n c) (r : MemL w Z hs l m c') : MemL w Z hs (h :: l) (some n :: m) (c ++ c')
end Go.Am
/- AM: frames of the relations; the view of an opened array as a list of cells, and how it changes. Nothing is assumed. -/
namespace Go.Am
section
variable {X : Nat → Prop} {w w' : World} {Z Z' : Nat → Prop} {hs hs' : List Hd}
theorem IFro.frame {x : I} {v : Value} (h : IFro X w Z x v) (hz : ∀ b, Z b → Z' b) (hb : ∀ b, Z b → w'.heap[b]? = w.heap[b]?) : IFro X w' Z' x v :=
 IFro.rec (motive_1 := fun x v _ => IFro X w' Z' x v) (motive_2 := fun x v _ => IFroL X w' Z' x v)
  (fun h => .d (h.frame hz hb)) (fun h => .g (h.frame hz hb)) (fun hz' hh h => .p (hz _ hz') (hh.frame (hb _ hz')) (h.frame hz hb))
  (fun hx _ ih => .f hx ih) (fun _ ih => .t ih) .nil (fun _ _ ih ih' => .cons ih ih') h
theorem IFroL.frame {x : List I} {v : List Value} (h : IFroL X w Z x v) (hz : ∀ b, Z b → Z' b) (hb : ∀ b, Z b → w'.heap[b]? = w.heap[b]?) : IFroL X w' Z' x v := by
 induction x generalizing v with
 | nil => cases h; exact .nil
 | cons d ds ih => cases h with | cons h h' => exact .cons (h.frame hz hb) (ih h')
theorem ARel.frame {x : AV} {v : Value} (h : ARel X w Z hs x v) (hz : ∀ b, Z b → Z' b) (hb : ∀ b, Z b → w'.heap[b]? = w.heap[b]?)
  (hh : ∀ (id : Nat) (h : Hd), hs[id]? = some h → hs'[id]? = some h) : ARel X w' Z' hs' x v :=
 ARel.rec (motive_1 := fun x v _ => ARel X w' Z' hs' x v) (motive_2 := fun x v _ => ARelL X w' Z' hs' x v)
  (fun h => .v h) .o (fun h => .fz (h.frame hz hb)) (fun h => .r (hh _ _ h)) (fun _ ih => .g ih) (fun h e hi => .a (hh _ _ h) e hi)
  (fun hz' hl h => .fa (hz _ hz') (hl.frame (hb _ hz')) (h.frame hz hb)) (fun hx _ ih => .f hx ih) (fun hx h => .ff hx (h.frame hz hb)) (fun _ ih => .t ih) .n .u .ub (fun h h1 h2 h3 h4 => .w (hh _ _ h) h1 h2 h3 h4)
  .nil (fun _ _ ih ih' => .cons ih ih') h
theorem ARelL.frame {x : List AV} {v : List Value} (h : ARelL X w Z hs x v) (hz : ∀ b, Z b → Z' b) (hb : ∀ b, Z b → w'.heap[b]? = w.heap[b]?)
  (hh : ∀ (id : Nat) (h : Hd), hs[id]? = some h → hs'[id]? = some h) : ARelL X w' Z' hs' x v := by
 induction x generalizing v with
 | nil => cases h; exact .nil
 | cons d ds ih => cases h with | cons h h' => exact .cons (h.frame hz hb hh) (ih h')
theorem CRel.frame {x : AV} {v : Value} {c : List Nat} (h : CRel w Z hs x v c) (hz : ∀ b, Z b → Z' b) (hb : ∀ b, Z b → w'.heap[b]? = w.heap[b]?)
  (hc : ∀ b ∈ c, w'.heap[b]? = w.heap[b]?) (hh : ∀ (id : Nat) (h : Hd), hs[id]? = some h → hs'[id]? = some h) : CRel w' Z' hs' x v c := by
 cases h with
 | v h => exact .v h
 | o h => exact .o (h.frame hc)
 | fz h => exact .fz (h.frame hz hb)
 | r h => exact .r (hh _ _ h)
theorem CRel.lt {x : AV} {v : Value} {c : List Nat} (h : CRel w Z hs x v c) : ∀ b ∈ c, b < w.heap.size := by
 cases h with
 | o h => exact h.lt
 | _ => simp
theorem CRelL.frame {x : List AV} {v : List Value} {c : List Nat} (h : CRelL w Z hs x v c) (hz : ∀ b, Z b → Z' b) (hb : ∀ b, Z b → w'.heap[b]? = w.heap[b]?)
  (hc : ∀ b ∈ c, w'.heap[b]? = w.heap[b]?) (hh : ∀ (id : Nat) (h : Hd), hs[id]? = some h → hs'[id]? = some h) : CRelL w' Z' hs' x v c := by
 induction x generalizing v c with
 | nil => cases h; exact .nil
 | cons d ds ih => cases h with
  | cons h h' => exact .cons (h.frame hz hb (fun b h => hc b (by simp [h])) hh) (ih h' fun b h => hc b (by simp [h]))
theorem CRelL.lt {x : List AV} {v : List Value} {c : List Nat} (h : CRelL w Z hs x v c) : ∀ b ∈ c, b < w.heap.size := by
 induction x generalizing v c with
 | nil => cases h; simp
 | cons d ds ih => cases h with
  | cons h h' =>
   intro b hb
   rcases List.mem_append.1 hb with hb | hb
   ·exact h.lt b hb
   ·exact ih h' b hb
theorem CRelL.length {x : List AV} {v : List Value} {c : List Nat} (h : CRelL w Z hs x v c) : v.length = x.length := by
 induction x generalizing v c with
 | nil => cases h; rfl
 | cons d ds ih => cases h with | cons h h' => simp [ih h']
theorem CRelL.append {x y : List AV} {v u : List Value} {c e : List Nat} (h : CRelL w Z hs x v c) (h' : CRelL w Z hs y u e) : CRelL w Z hs (x ++ y) (v ++ u) (c ++ e) := by
 induction x generalizing v c with
 | nil => cases h; simpa using h'
 | cons d ds ih => cases h with | cons h h1 => simpa [List.append_assoc] using CRelL.cons h (ih h1)
theorem CRelL.at {x : List AV} {v : List Value} {c : List Nat} (h : CRelL w Z hs x v c) {k : Nat} {y : AV} (hk : x[k]? = some y) :
  ∃ u c1 ck c2, v[k]? = some u ∧ CRel w Z hs y u ck ∧ c = c1 ++ ck ++ c2 ∧
   ∀ y' u' ck', CRel w Z hs y' u' ck' → CRelL w Z hs (x.set k y') (v.set k u') (c1 ++ ck' ++ c2) := by
 induction x generalizing v c k with
 | nil => simp at hk
 | cons d ds ih => cases h with
  | @cons _ _ v0 vs c0 c' h h' => cases k with
   | zero =>
    simp at hk; subst hk
    exact ⟨_, [], c0, c', rfl, h, by simp, fun y' u' ck' h1 => by simpa using CRelL.cons h1 h'⟩
   | succ k =>
    obtain ⟨u, c1, ck, c2, e1, e2, e3, e4⟩ := ih h' (by simpa using hk)
    refine ⟨u, c0 ++ c1, ck, c2, by simpa using e1, e2, by simp [e3], fun y' u' ck' h1 => ?_⟩
    have := CRelL.cons h (e4 y' u' ck' h1)
    simpa [List.append_assoc] using this
theorem NodeRel.frame {h : Hd} {n : Node} {c : List Nat} (r : NodeRel w Z hs h n c) (hz : ∀ b, Z b → Z' b) (hb : ∀ b, Z b → w'.heap[b]? = w.heap[b]?)
  (hc : ∀ b ∈ c, w'.heap[b]? = w.heap[b]?) (hh : ∀ (id : Nat) (h : Hd), hs[id]? = some h → hs'[id]? = some h) : NodeRel w' Z' hs' h n c := by
 refine ⟨r.wd, r.len, r.rows, r.opens, r.keys, r.kind, ?_⟩
 rcases r.mem with h | ⟨b, off, vs, c', e1, e2, e3, e4, e5, rfl⟩
 ·exact .inl h
 ·exact .inr ⟨b, off, vs, c', e1, e2, e3.frame (hc _ (by simp)), e4.frame (hc _ (by simp)), e5.frame hz hb (fun b h => hc b (by simp [h])) hh, rfl⟩
theorem NodeRel.lt {h : Hd} {n : Node} {c : List Nat} (r : NodeRel w Z hs h n c) : ∀ b ∈ c, b < w.heap.size := by
 rcases r.mem with ⟨_, _, rfl⟩ | ⟨b, off, vs, c', e1, e2, e3, e4, e5, rfl⟩
 ·simp
 ·intro b hb
  rcases List.mem_cons.1 hb with rfl | hb
  ·exact e3.lt
  ·exact e5.lt b hb
theorem MemL.frame {l : List Hd} {m : Mem} {c : List Nat} (r : MemL w Z hs l m c) (hz : ∀ b, Z b → Z' b) (hb : ∀ b, Z b → w'.heap[b]? = w.heap[b]?)
  (hc : ∀ b ∈ c, w'.heap[b]? = w.heap[b]?) (hh : ∀ (id : Nat) (h : Hd), hs[id]? = some h → hs'[id]? = some h) : MemL w' Z' hs' l m c := by
 induction r with
 | nil => exact .nil
 | dead r ih => exact .dead (ih hc)
 | live hn r ih => exact .live (hn.frame hz hb (fun b h => hc b (by simp [h])) hh) (ih fun b h => hc b (by simp [h]))
theorem MemL.lt {l : List Hd} {m : Mem} {c : List Nat} (r : MemL w Z hs l m c) : ∀ b ∈ c, b < w.heap.size := by
 induction r with
 | nil => simp
 | dead r ih => exact ih
 | live hn r ih =>
  intro b hb
  rcases List.mem_append.1 hb with hb | hb
  ·exact hn.lt b hb
  ·exact ih b hb
theorem MemL.length {l : List Hd} {m : Mem} {c : List Nat} (r : MemL w Z hs l m c) : l.length = m.length := by
 induction r with
 | nil => rfl
 | dead r ih => simp [ih]
 | live hn r ih => simp [ih]
theorem MemL.append {l : List Hd} {m : Mem} {c cn : List Nat} (r : MemL w Z hs l m c) {h : Hd} {n : Node} (hn : NodeRel w Z hs h n cn) :
  MemL w Z hs (l ++ [h]) (m ++ [some n]) (c ++ cn) := by
 induction r with
 | nil => simpa using MemL.live hn .nil
 | dead r ih => exact .dead ih
 | live hn' r ih => simpa [List.append_assoc] using MemL.live hn' ih
theorem MemL.at {l : List Hd} {m : Mem} {c : List Nat} (r : MemL w Z hs l m c) {id : Nat} {n : Node} (hn : getNode m id = some n) :
  ∃ h c1 cn c2, l[id]? = some h ∧ id < m.length ∧ NodeRel w Z hs h n cn ∧ c = c1 ++ cn ++ c2 ∧ MemL w Z hs l (m.set id none) (c1 ++ c2) ∧
   ∀ n' cn', NodeRel w Z hs h n' cn' → MemL w Z hs l (m.set id (some n')) (c1 ++ cn' ++ c2) := by
 induction r generalizing id with
 | nil => simp [getNode] at hn
 | @dead h l m c r ih => cases id with
  | zero => simp [getNode] at hn
  | succ id =>
   obtain ⟨h', c1, cn, c2, e1, e2, e3, e4, e5, e6⟩ := ih (id := id) (by simpa [getNode] using hn)
   exact ⟨h', c1, cn, c2, by simpa using e1, by simpa using e2, e3, e4, by simpa using MemL.dead e5, fun n' cn' h => by simpa using MemL.dead (e6 n' cn' h)⟩
 | @live h l n0 m c0 c' hn0 r ih => cases id with
  | zero =>
   simp [getNode] at hn; subst hn
   exact ⟨h, [], c0, c', rfl, by simp, hn0, by simp, by simpa using MemL.dead r, fun n' cn' h' => by simpa using MemL.live h' r⟩
  | succ id =>
   obtain ⟨h', c1, cn, c2, e1, e2, e3, e4, e5, e6⟩ := ih (id := id) (by simpa [getNode] using hn)
   refine ⟨h', c0 ++ c1, cn, c2, by simpa using e1, by simpa using e2, e3, by simp [e4], ?_, fun n' cn' h => ?_⟩
   ·simpa [List.append_assoc] using MemL.live hn0 e5
   ·simpa [List.append_assoc] using MemL.live hn0 (e6 n' cn' h)
end
theorem findO_dropO (i c i' c' : Nat) (l : Opens) : findO i' c' (dropO i c l) = if c' = c ∧ i' = i then none else findO i' c' l := by
 induction l with
 | nil => simp [dropO, findO]
 | cons e l ih =>
  obtain ⟨⟨i2, c2⟩, x⟩ := e
  simp only [dropO, findO]
  by_cases h : c = c2 ∧ i = i2
  ·obtain ⟨rfl, rfl⟩ := h
   simp only [and_self, if_true, ih]
   split <;> rfl
  ·simp only [h, if_false, findO, ih]
   by_cases h2 : c' = c2 ∧ i' = i2
   ·obtain ⟨rfl, rfl⟩ := h2
    have : ¬ (c' = c ∧ i' = i) := fun h' => h ⟨h'.1.symm, h'.2.symm⟩
    simp [this]
   ·simp [h2]
theorem findO_addO (i c i' c' : Nat) (o : Option AV) (l : Opens) : findO i' c' (addO i c o l) = if c' = c ∧ i' = i then o else findO i' c' l := by
 cases o with
 | none => simp [addO, findO_dropO]
 | some x =>
  simp only [addO, findO, findO_dropO]
  by_cases h : c' = c ∧ i' = i <;> simp [h]
theorem viewRow_get (o : Opens) (i : Nat) (r : Row) (j k : Nat) : (viewRow o i j r)[k]? = r[k]?.map fun d => (findO i (j + k) o).getD d.up := by
 induction r generalizing j k with
 | nil => simp [viewRow]
 | cons d ds ih => cases k with
  | zero => simp [viewRow]
  | succ k => simp [viewRow, ih, Nat.add_assoc, Nat.add_comm 1 k]
theorem viewRow_length (o : Opens) (i : Nat) (r : Row) (j : Nat) : (viewRow o i j r).length = r.length := by
 induction r generalizing j with
 | nil => rfl
 | cons d ds ih => simp [viewRow, ih]
theorem viewRows_length (o : Opens) (wd : Nat) (rows : Rows) (hw : ∀ r ∈ rows, r.length = wd) (i : Nat) : (viewRows o i rows).length = rows.length * wd := by
 induction rows generalizing i with
 | nil => simp [viewRows]
 | cons r rs ih =>
  simp [viewRows, viewRow_length, ih (fun r h => hw r (by simp [h])), hw r (by simp), Nat.add_mul, Nat.add_comm]
theorem viewRows_get (o : Opens) (wd : Nat) (rows : Rows) (hw : ∀ r ∈ rows, r.length = wd) (i a b : Nat) (hb : b < wd) :
  (viewRows o i rows)[a * wd + b]? = (rows[a]?).bind fun r => r[b]?.map fun d => (findO (i + a) b o).getD d.up := by
 induction rows generalizing i a with
 | nil => simp [viewRows]
 | cons r rs ih =>
  have hr := hw r (by simp)
  cases a with
  | zero =>
   simp only [viewRows, Nat.zero_mul, Nat.zero_add, Nat.add_zero]
   rw [List.getElem?_append_left (by simp [viewRow_length, hr, hb])]
   simp [viewRow_get]
  | succ a =>
   simp only [viewRows]
   have e : (a + 1) * wd + b = a * wd + b + wd := by rw [Nat.add_mul]; omega
   rw [List.getElem?_append_right (by simp [viewRow_length, hr, e])]
   simp only [viewRow_length, hr, e, Nat.add_sub_cancel]
   rw [ih (fun r h => hw r (by simp [h]))]
   simp [Nat.add_assoc, Nat.add_comm 1 a]
theorem setD_get (rows : Rows) (i c a : Nat) (d : D) : (setD rows i c d)[a]? = if a = i then rows[a]?.map (·.set c d) else rows[a]? := by
 unfold setD
 rw [List.getElem?_modify]
 by_cases h : i = a
 ·subst h; simp
 ·simp [h, Ne.symm h]
theorem setD_length (rows : Rows) (i c : Nat) (d : D) : (setD rows i c d).length = rows.length := by simp [setD]
theorem setD_wd {rows : Rows} {wd : Nat} (hw : ∀ r ∈ rows, r.length = wd) (i c : Nat) (d : D) : ∀ r ∈ setD rows i c d, r.length = wd := by
 intro r hr
 obtain ⟨a, ha⟩ := List.getElem?_of_mem hr
 rw [setD_get] at ha
 split at ha
 ·cases h : rows[a]? with
  | none => simp [h] at ha
  | some r' =>
   simp [h] at ha
   rw [← ha]
   simpa using hw r' (List.mem_of_getElem? h)
 ·exact hw r (List.mem_of_getElem? ha)
theorem view_ext {wd : Nat} {rows rows' : Rows} {o o' : Opens} (hw : ∀ r ∈ rows, r.length = wd) (hw' : ∀ r ∈ rows', r.length = wd) {i c : Nat} (hi : i < rows.length) (hc : c < wd)
  (hl : rows'.length = rows.length) (x : AV)
  (h : ∀ a b, b < wd → ((rows'[a]?).bind fun r => r[b]?.map fun d => (findO a b o').getD d.up) = if b = c ∧ a = i then some x else (rows[a]?).bind fun r => r[b]?.map fun d => (findO a b o).getD d.up) :
  viewRows o' 0 rows' = (viewRows o 0 rows).set (i * wd + c) x := by
 have hpos : 0 < wd := by omega
 apply List.ext_getElem?
 intro k
 obtain ⟨a, b, hb, rfl⟩ : ∃ a b, b < wd ∧ k = a * wd + b := ⟨k / wd, k % wd, Nat.mod_lt _ hpos, by rw [Nat.mul_comm]; exact (Nat.div_add_mod k wd).symm⟩
 rw [viewRows_get o' wd rows' hw' 0 a b hb, List.getElem?_set]
 simp only [Nat.zero_add]
 rw [h a b hb]
 by_cases hab : b = c ∧ a = i
 ·obtain ⟨rfl, rfl⟩ := hab
  have : a * wd + b < (viewRows o 0 rows).length := by
   rw [viewRows_length o wd rows hw 0]
   have : a * wd + wd ≤ rows.length * wd := by rw [← Nat.succ_mul]; exact Nat.mul_le_mul_right _ hi
   omega
  simp [this]
 ·have : ¬ (i * wd + c = a * wd + b) := by
   intro e
   apply hab
   have h1 : (i * wd + c) % wd = (a * wd + b) % wd := by rw [e]
   rw [Nat.add_comm, Nat.add_mul_mod_self_right, Nat.add_comm (a * wd), Nat.add_mul_mod_self_right, Nat.mod_eq_of_lt hc, Nat.mod_eq_of_lt hb] at h1
   refine ⟨h1.symm, ?_⟩
   subst h1
   have : i * wd = a * wd := by omega
   exact (Nat.eq_of_mul_eq_mul_right hpos this).symm
  simp only [hab, if_false, this]
  rw [viewRows_get o wd rows hw 0 a b hb]
  simp
theorem view_set {n : Node} (hw : ∀ r ∈ n.rows, r.length = n.wd) {i c : Nat} (hi : i < n.rows.length) (hc : c < n.wd) (d : D) (x : Option AV) :
  (Node.mk n.wd (setD n.rows i c d) (addO i c x n.opens)).view = n.view.set (i * n.wd + c) (x.getD d.up) := by
 refine view_ext hw (setD_wd hw i c d) hi hc (setD_length ..) _ fun a b hb => ?_
 simp only [setD_get, findO_addO]
 by_cases hab : b = c ∧ a = i
 ·obtain ⟨rfl, rfl⟩ := hab
  have hr : n.rows[a]? = some n.rows[a] := List.getElem?_eq_getElem hi
  have hl : b < (n.rows[a]).length := by rw [hw _ (List.getElem_mem hi)]; exact hc
  simp [hr, hl]
 ·simp only [hab, if_false]
  by_cases ha : a = i
  ·subst ha
   have hbc : ¬ c = b := fun h => hab ⟨h.symm, rfl⟩
   cases h : n.rows[a]? with
   | none => simp
   | some r => simp [List.getElem?_set, hbc]
  ·simp [ha]
theorem view_open {n : Node} (hw : ∀ r ∈ n.rows, r.length = n.wd) {i c : Nat} (hi : i < n.rows.length) (hc : c < n.wd) (x : AV) :
  (Node.mk n.wd n.rows (((i, c), x) :: n.opens)).view = n.view.set (i * n.wd + c) x := by
 refine view_ext hw hw hi hc rfl _ fun a b hb => ?_
 simp only [findO]
 by_cases hab : b = c ∧ a = i
 ·obtain ⟨rfl, rfl⟩ := hab
  have hr : n.rows[a]? = some n.rows[a] := List.getElem?_eq_getElem hi
  have hl : b < (n.rows[a]).length := by rw [hw _ (List.getElem_mem hi)]; exact hc
  simp [hr, hl]
 ·simp [hab]
theorem view_get {n : Node} (hw : ∀ r ∈ n.rows, r.length = n.wd) {i c : Nat} (hc : c < n.wd) {r : Row} (hr : n.rows[i]? = some r) {d : D} (hd : r[c]? = some d) :
  n.view[i * n.wd + c]? = some ((findO i c n.opens).getD d.up) := by
 unfold Node.view
 rw [viewRows_get _ _ _ hw 0 i c hc, hr]
 simp [hd]
end Go.Am
/- AM: what is taken out of the memory of an activation is an own tree. Nothing is assumed. -/
namespace Go.Am
section
variable {X : Nat → Prop} {w : World} {Z : Nat → Prop} {hs : List Hd}
theorem findO_none {i c : Nat} {l : Opens} (h : ∀ e ∈ l, e.1 ≠ (i, c)) : findO i c l = none := by
 induction l with
 | nil => rfl
 | cons e l ih =>
  obtain ⟨⟨i', c'⟩, x⟩ := e
  have h0 := h _ List.mem_cons_self
  simp only [findO]
  have : ¬ (c = c' ∧ i = i') := fun h' => h0 (by simp [h'.1, h'.2])
  simp [this, ih fun e he => h e (by simp [he])]
theorem view_close {wd : Nat} {rows : Rows} (hw : ∀ r ∈ rows, r.length = wd) {i c : Nat} (hi : i < rows.length) (hc : c < wd) (x : AV) (l : Opens) (hn : findO i c l = none) (d : D) :
  viewRows l 0 (setD rows i c d) = (viewRows (((i, c), x) :: l) 0 rows).set (i * wd + c) d.up := by
 refine view_ext hw (setD_wd hw i c d) hi hc (setD_length ..) _ fun a b hb => ?_
 simp only [setD_get, findO]
 by_cases hab : b = c ∧ a = i
 ·obtain ⟨rfl, rfl⟩ := hab
  have hr : rows[a]? = some rows[a] := List.getElem?_eq_getElem hi
  have hl : b < (rows[a]).length := by rw [hw _ (List.getElem_mem hi)]; exact hc
  simp [hr, hl, hn]
 ·simp only [hab, if_false]
  by_cases ha : a = i
  ·subst ha
   have hbc : ¬ c = b := fun h => hab ⟨h.symm, rfl⟩
   cases h : rows[a]? with
   | none => simp
   | some r => simp [hbc]
  ·simp [ha]
theorem viewRows_nil (rows : Rows) (i : Nat) : viewRows [] i rows = rows.flatten.map D.up := by
 have h1 : ∀ (r : Row) i j, viewRow [] i j r = r.map D.up := by
  intro r; induction r with
  | nil => intros; rfl
  | cons d ds ih => intros; simp [viewRow, findO, ih]
 induction rows generalizing i with
 | nil => rfl
 | cons r rs ih => simp [viewRows, h1, ih]
theorem CRel.own {d : D} {v : Value} {c : List Nat} (h : CRel w Z hs d.up v c) : OwnD w d v c := by
 cases d with
 | v x => cases h with | v h => exact .v h
 | s wd rows => cases h with | o h => exact h
theorem CRel.of_own {d : D} {v : Value} {c : List Nat} (h : OwnD w d v c) : CRel w Z hs d.up v c := by
 cases h with
 | v h => exact .v h
 | z => exact .o .z
 | s h1 h2 h3 h4 h5 => exact .o (.s h1 h2 h3 h4 h5)
theorem CRelL.own {ds : List D} {vs : List Value} {c : List Nat} (h : CRelL w Z hs (ds.map D.up) vs c) : OwnL w ds vs c := by
 induction ds generalizing vs c with
 | nil => cases h; exact .nil
 | cons d ds ih => cases h with | cons h h' => exact .cons h.own (ih h')
theorem CRelL.of_own {ds : List D} {vs : List Value} {c : List Nat} (h : OwnL w ds vs c) : CRelL w Z hs (ds.map D.up) vs c := by
 induction ds generalizing vs c with
 | nil => cases h; exact .nil
 | cons d ds ih => cases h with | cons h h' => exact .cons (.of_own h) (ih h')
theorem set_same {α : Type} {l : List α} {k : Nat} {x : α} (h : l[k]? = some x) : l.set k x = l := by
 apply List.ext_getElem?
 intro j
 rw [List.getElem?_set]
 split
 ·rename_i e; subst e; rw [h]; have := List.getElem?_eq_some_iff.1 h; simp [this.1]
 ·rfl
theorem closeOpens_ok (f : Mem → Nat → Option (D × Mem))
  (hf : ∀ m id d m' c, f m id = some (d, m') → MemL w Z hs hs m c → ∃ h c' cd, hs[id]? = some h ∧ OwnD w d (.slice h.base h.len h.cap) cd ∧ MemL w Z hs hs m' c' ∧ ∀ b, (c' ++ cd).count b = c.count b)
  {wd : Nat} (l : Opens) : ∀ (m : Mem) (rows : Rows) (rows' : Rows) (m' : Mem) (c cv : List Nat) (vs : List Value),
   closeOpens f m rows l = some (rows', m') → MemL w Z hs hs m c → (∀ r ∈ rows, r.length = wd) → (∀ e ∈ l, e.1.1 < rows.length ∧ e.1.2 < wd) → (l.Pairwise fun e e' => e.1 ≠ e'.1) →
   CRelL w Z hs (viewRows l 0 rows) vs cv →
   ∃ c' cv', rows'.length = rows.length ∧ (∀ r ∈ rows', r.length = wd) ∧ OwnL w rows'.flatten vs cv' ∧ MemL w Z hs hs m' c' ∧ ∀ b, (c' ++ cv').count b = (c ++ cv).count b := by
 induction l with
 | nil =>
  intro m rows rows' m' c cv vs h hm hw _ _ hv
  simp only [closeOpens, Option.some.injEq, Prod.mk.injEq] at h
  obtain ⟨rfl, rfl⟩ := h
  rw [viewRows_nil] at hv
  exact ⟨c, cv, rfl, hw, hv.own, hm, fun b => rfl⟩
 | cons e l ih =>
  obtain ⟨⟨i, c0⟩, x⟩ := e
  intro m rows rows' m' c cv vs h hm hw ho hk hv
  simp only [closeOpens] at h
  split at h
  ·rename_i id
   split at h
   ·rename_i d m1 hfe
    obtain ⟨hd, c1, cd, e1, e2, e3, e4⟩ := hf _ _ _ _ _ hfe hm
    obtain ⟨hi, hc⟩ := ho _ List.mem_cons_self
    have hk' := List.pairwise_cons.1 hk
    have hn : findO i c0 l = none := findO_none fun e he h' => hk'.1 e he h'.symm
    have hr : rows[i]? = some rows[i] := List.getElem?_eq_getElem hi
    have hlen : c0 < (rows[i]).length := by rw [hw _ (List.getElem_mem hi)]; exact hc
    have hget : (viewRows (((i, c0), .r id) :: l) 0 rows)[i * wd + c0]? = some (.r id) := by
     rw [viewRows_get _ wd rows hw 0 i c0 hc, hr]
     simp [hlen, findO]
    obtain ⟨u, a1, ak, a2, g1, g2, g3, g4⟩ := hv.at hget
    cases g2 with
    | r hh' =>
     rw [e1] at hh'
     cases hh'
     have g5 := g4 _ _ _ (CRel.of_own (Z := Z) (hs := hs) e2)
     rw [set_same g1, ← view_close hw hi hc (.r id) l hn d] at g5
     obtain ⟨c', cv', r1, r2, r3, r4, r5⟩ := ih _ _ _ _ _ _ _ h e3 (setD_wd hw i c0 d) (fun e he => by rw [setD_length]; exact ho e (by simp [he])) hk'.2 g5
     refine ⟨c', cv', by rw [r1, setD_length], r2, r3, r4, fun b => ?_⟩
     have h1 := r5 b
     have h2 := e4 b
     subst g3
     simp only [List.count_append, List.count_nil] at *
     omega
   ·simp at h
  ·simp at h
theorem closeId_ok (k : Nat) : ∀ (m : Mem) (id : Nat) (d : D) (m' : Mem) (c : List Nat), closeId k m id = some (d, m') → MemL w Z hs hs m c →
  ∃ h c' cd, hs[id]? = some h ∧ OwnD w d (.slice h.base h.len h.cap) cd ∧ MemL w Z hs hs m' c' ∧ ∀ b, (c' ++ cd).count b = c.count b := by
 induction k with
 | zero => intro m id d m' c h; simp [closeId] at h
 | succ k ih =>
  intro m id d m' c h hm
  simp only [closeId] at h
  split at h
  ·rename_i n hn
   split at h
   ·rename_i rows m1 hc
    simp only [Option.some.injEq, Prod.mk.injEq] at h
    obtain ⟨rfl, rfl⟩ := h
    obtain ⟨hd, c1, cn, c2, e1, e2, e3, rfl, e5, _⟩ := hm.at hn
    rcases e3.mem with ⟨z1, z2, rfl⟩ | ⟨b, off, vs, c', f1, f2, f3, f4, f5, rfl⟩
    ·have ho : n.opens = [] := by
      cases ho : n.opens with
      | nil => rfl
      | cons e l => have := (e3.opens e (by simp [ho])).1; simp [z1] at this
     rw [ho, z1] at hc
     simp only [closeOpens, Option.some.injEq, Prod.mk.injEq] at hc
     obtain ⟨rfl, rfl⟩ := hc
     refine ⟨hd, _, [], e1, ?_, e5, fun b => by simp⟩
     rw [e3.len, z1, z2]
     exact .z
    ·obtain ⟨c3, cv', r1, r2, r3, r4, r5⟩ := closeOpens_ok (closeId k) ih _ _ _ _ _ _ _ _ hc e5 e3.rows e3.opens e3.keys f5
     refine ⟨hd, c3, b :: cv', e1, ?_, r4, fun x => ?_⟩
     ·rw [f1, e3.len, ← r1]
      exact .s r2 (by omega) f3 f4 r3
     ·have := r5 x
      simp only [List.count_append, List.count_cons] at *
      omega
   ·simp at h
  ·simp at h
theorem takeId_ok {m : Mem} {id : Nat} {d : D} {m' : Mem} {c : List Nat} (h : takeId m id = some (d, m')) (hm : MemL w Z hs hs m c) :
  ∃ h c' cd, hs[id]? = some h ∧ OwnD w d (.slice h.base h.len h.cap) cd ∧ MemL w Z hs hs m' c' ∧ ∀ b, (c' ++ cd).count b = c.count b :=
 closeId_ok _ _ _ _ _ _ h hm
theorem OwnL.take {ds : List D} : ∀ {vs : List Value} {c : List Nat} (n : Nat), OwnL w ds vs c → ∃ c', OwnL w (ds.take n) (vs.take n) c' ∧ ∀ b, c'.count b ≤ c.count b := by
 induction ds with
 | nil => intro vs c n h; cases h; exact ⟨[], by simpa using OwnL.nil, fun b => Nat.le_refl _⟩
 | cons x xs ih =>
  intro vs c n h
  cases h with
  | @cons _ _ _ _ c1 c2 h h' =>
   cases n with
   | zero => exact ⟨[], by simpa using OwnL.nil, fun b => by simp⟩
   | succ n =>
    obtain ⟨c', e1, e2⟩ := ih n h'
    exact ⟨c1 ++ c', by simpa using OwnL.cons h e1, fun b => by have := e2 b; simp only [List.count_append]; omega⟩
theorem rows_take {wd : Nat} {rows : Rows} (hw : ∀ r ∈ rows, r.length = wd) (l : Nat) : (rows.take l).flatten = rows.flatten.take (l * wd) := by
 induction l generalizing rows with
 | zero => simp
 | succ l ih => cases rows with
  | nil => simp
  | cons r rs =>
   have h1 := hw r (by simp)
   simp only [List.take_succ_cons, List.flatten_cons]
   rw [ih fun r h => hw r (by simp [h]), Nat.succ_mul, List.take_append, List.take_of_length_le (l := r) (by omega)]
   congr 2
   omega
theorem holds_take {w : World} {b off : Nat} {vs : List Value} (h : Holds w b off vs) (k : Nat) : Holds w b off (vs.take k) := by
 obtain ⟨cs, e, f, h1, h2⟩ := h
 refine ⟨cs, e, f, h1, fun j v hj => h2 j v ?_⟩
 rw [List.getElem?_take] at hj
 split at hj
 ·exact hj
 ·simp at hj
theorem OwnD.cut {wd : Nat} {rows : Rows} {base : Option Addr} {len cap hi : Nat} {c : List Nat} (h : OwnD w (.s wd rows) (.slice base len cap) c) (hh : hi ≤ len) :
  ∃ c', OwnD w (.s wd (rows.take hi)) (.slice base (hi - 0) cap) c' ∧ ∀ b, c'.count b ≤ c.count b := by
 cases h with
 | z =>
  have : hi = 0 := by omega
  subst this
  exact ⟨[], by simpa using OwnD.z, fun b => Nat.le_refl _⟩
 | @s _ b off _ _ vs c hw hc hho hf hl =>
  obtain ⟨c', e1, e2⟩ := hl.take (hi * wd)
  refine ⟨b :: c', ?_, fun x => by have := e2 x; simp only [List.count_cons]; omega⟩
  have hlen : (rows.take hi).length = hi := by simp; omega
  have := OwnD.s (w := w) (wd := wd) (b := b) (off := off) (cap := cap) (rows := rows.take hi) (vs := vs.take (hi * wd)) (c := c') (fun r hr => hw r (List.mem_of_mem_take hr)) (by omega) (holds_take hho _) hf (by rw [rows_take hw]; exact e1)
  rwa [hlen] at this
theorem takeCell_ok {m m' : Mem} {x : AV} {d : D} {v : Value} {c : List Nat} (h : takeCell m x = some (d, m')) (hx : ARel X w Z hs x v) (hm : MemL w Z hs hs m c) :
  ∃ c' cd, OwnD w d v cd ∧ MemL w Z hs hs m' c' ∧ ∀ b, (c' ++ cd).count b ≤ c.count b := by
 unfold takeCell at h
 split at h
 ·cases h; cases hx with | v h => exact ⟨c, [], .v h, hm, fun b => by simp⟩
 ·cases h; cases hx with | o => exact ⟨c, [], .z, hm, fun b => by simp⟩
 ·cases hx with
  | r hh =>
   obtain ⟨h', c', cd, e1, e2, e3, e4⟩ := takeId_ok h hm
   rw [e1] at hh
   cases hh
   exact ⟨c', cd, e2, e3, fun b => Nat.le_of_eq (e4 b)⟩
 ·rename_i id lo hi
  cases hb : Nat.beq lo 0 with
  | false => simp [hb] at h
  | true =>
   simp only [hb, cond_true] at h
   have hb := Nat.eq_of_beq_eq_true hb
   subst hb
   split at h
   ·rename_i wd rows m1 ht
    cases h
    obtain ⟨h', c', cd, e1, e2, e3, e4⟩ := takeId_ok ht hm
    cases hx with
    | w hh k1 k2 k3 k4 =>
     rw [e1] at hh
     cases hh
     obtain ⟨rfl, rfl⟩ := k3 rfl
     obtain ⟨cd', f1, f2⟩ := e2.cut k2
     refine ⟨c', cd', f1, e3, fun b => ?_⟩
     have := e4 b
     have := f2 b
     simp only [List.count_append] at *
     omega
   ·simp at h
 ·simp at h
theorem takeCells_ok {xs : List AV} : ∀ {m m' : Mem} {ds : Row} {vs : List Value} {c : List Nat}, takeCells m xs = some (ds, m') → ARelL X w Z hs xs vs → MemL w Z hs hs m c →
  ∃ c' cd, OwnL w ds vs cd ∧ MemL w Z hs hs m' c' ∧ ∀ b, (c' ++ cd).count b ≤ c.count b := by
 induction xs with
 | nil =>
  intro m m' ds vs c h hx hm
  simp only [takeCells, Option.some.injEq, Prod.mk.injEq] at h
  obtain ⟨rfl, rfl⟩ := h
  cases hx
  exact ⟨c, [], .nil, hm, fun b => by simp⟩
 | cons x xs ih =>
  intro m m' ds vs c h hx hm
  cases hx with
  | cons hx hx' =>
   simp only [takeCells] at h
   split at h
   ·rename_i d m1 h1
    split at h
    ·rename_i ds' m2 h2
     simp only [Option.some.injEq, Prod.mk.injEq] at h
     obtain ⟨rfl, rfl⟩ := h
     obtain ⟨c1, cd, e1, e2, e3⟩ := takeCell_ok h1 hx hm
     obtain ⟨c2, cd', f1, f2, f3⟩ := ih h2 hx' e2
     refine ⟨c2, cd ++ cd', .cons e1 f1, f2, fun b => ?_⟩
     have := e3 b
     have := f3 b
     simp only [List.count_append] at *
     omega
    ·simp at h
   ·simp at h
theorem takeI_ok {m m' : Mem} {x : AV} {i : I} {v : Value} {c : List Nat} (h : takeI m x = some (i, m')) (hx : ARel X w Z hs x v) (hm : MemL w Z hs hs m c) :
  ∃ c' cd, IOwn X w i v cd ∧ MemL w Z hs hs m' c' ∧ ∀ b, (c' ++ cd).count b ≤ c.count b := by
 unfold takeI at h
 split at h
 ·split at h
  ·rename_i ds m1 h1
   cases h
   cases hx with
   | g hx =>
    obtain ⟨c1, cd, e1, e2, e3⟩ := takeCells_ok h1 hx hm
    exact ⟨c1, cd, .g e1, e2, e3⟩
  ·simp at h
 ·cases h
  cases hx with
  | @f _ _ cs hfn hx =>
   have : cs = #[] := by
    have : cs.toList = [] := by generalize cs.toList = l at hx; cases hx; rfl
    exact Array.toList_eq_nil_iff.1 this
   subst this
   exact ⟨c, [], .f hfn, hm, fun b => by simp⟩
 ·split at h
  ·rename_i row m1 h1
   cases h
   unfold takeVar at h1
   split at h1
   ·rename_i wd row' m2 h2
    cases h1
    obtain ⟨hd, c', cd, e1, e2, e3, e4⟩ := takeId_ok h2 hm
    cases hx with
    | @a _ _ _ b off hd' hh hb hi =>
     rw [e1] at hh
     cases hh
     rw [hb] at e2
     generalize hl : hd.len = n at e2
     cases e2 with
     | @s _ _ _ cap _ vs c2 g1 g2 g3 g4 g5 =>
      simp only [Nat.zero_mul, Nat.add_zero]
      refine ⟨c', _, .p g3 ?_ (by simpa using g5), e3, fun b => Nat.le_of_eq (e4 b)⟩
      have hl1 := g1 row (by simp)
      obtain ⟨cs, el, fz, k1, k2, k3⟩ := g4
      have : wd ≤ hd.cap * wd := Nat.le_mul_of_pos_left _ (by simp at g2; omega)
      exact ⟨cs, el, fz, k1, by omega, fun k h1 h2 => k3 k h1 (by omega)⟩
   ·simp at h1
  ·simp at h
 ·split at h
  ·rename_i d m1 h1
   cases h
   obtain ⟨c1, cd, e1, e2, e3⟩ := takeCell_ok h1 hx hm
   exact ⟨c1, cd, .d e1, e2, e3⟩
  ·simp at h
end
end Go.Am
/- AM: a deep look into the memory of an activation is frozen data, for as long as nobody writes there. Nothing is assumed. -/
namespace Go.Am
section
variable {X : Nat → Prop} {w : World} {Z Z' : Nat → Prop} {hs : List Hd}
inductive FC (w : World) (Z : Nat → Prop) (hs : List Hd) : AV → Value → Prop
 | v {x : Value} (h : Sc x) : FC w Z hs (.v x) x
 | o {wd : Nat} {rows : Rows} {v : Value} (h : FroD w Z (.s wd rows) v) : FC w Z hs (.o wd rows) v
 | fz {wd : Nat} {rows : Rows} {v : Value} (h : FroD w Z (.s wd rows) v) : FC w Z hs (.fz wd rows) v
 | r {id : Nat} {h : Hd} (hh : hs[id]? = some h) : FC w Z hs (.r id) (.slice h.base h.len h.cap)
inductive FCL (w : World) (Z : Nat → Prop) (hs : List Hd) : List AV → List Value → Prop
 | nil : FCL w Z hs [] []
 | cons {x : AV} {xs : List AV} {v : Value} {vs : List Value} (h : FC w Z hs x v) (h' : FCL w Z hs xs vs) : FCL w Z hs (x :: xs) (v :: vs)
theorem FCL.of {x : List AV} {v : List Value} {c : List Nat} (h : CRelL w Z hs x v c) (hz : ∀ b, Z b → Z' b) (hc : ∀ b ∈ c, Z' b) : FCL w Z' hs x v := by
 induction x generalizing v c with
 | nil => cases h; exact .nil
 | cons y ys ih => cases h with
  | cons h h' =>
   refine .cons ?_ (ih h' fun b h => hc b (by simp [h]))
   cases h with
   | v h => exact .v h
   | o h => exact .o (h.fro fun b h => hc b (by simp [h]))
   | fz h => exact .fz (h.frame hz fun _ _ => rfl)
   | r h => exact .r h
theorem FCL.at {x : List AV} {v : List Value} (h : FCL w Z hs x v) {k : Nat} {y : AV} (hk : x[k]? = some y) :
  ∃ u, v[k]? = some u ∧ FC w Z hs y u ∧ ∀ y' u', FC w Z hs y' u' → FCL w Z hs (x.set k y') (v.set k u') := by
 induction x generalizing v k with
 | nil => simp at hk
 | cons d ds ih => cases h with
  | cons h h' => cases k with
   | zero => simp at hk; subst hk; exact ⟨_, rfl, h, fun y' u' h1 => by simpa using FCL.cons h1 h'⟩
   | succ k =>
    obtain ⟨u, e1, e2, e4⟩ := ih h' (by simpa using hk)
    exact ⟨u, by simpa using e1, e2, fun y' u' h1 => by simpa using FCL.cons h (e4 y' u' h1)⟩
theorem FC.fro {d : D} {v : Value} (h : FC w Z hs d.up v) : FroD w Z d v := by
 cases d with
 | v x => cases h with | v h => exact .v h
 | s wd rows => cases h with | o h => exact h
theorem FCL.fro {ds : List D} {vs : List Value} (h : FCL w Z hs (ds.map D.up) vs) : FroL w Z ds vs := by
 induction ds generalizing vs with
 | nil => cases h; exact .nil
 | cons d ds ih => cases h with | cons h h' => exact .cons h.fro (ih h')
theorem FC.of_fro {d : D} {v : Value} (h : FroD w Z d v) : FC w Z hs d.up v := by
 cases h with
 | v h => exact .v h
 | z => exact .o .z
 | s h1 h2 h3 h4 h5 => exact .o (.s h1 h2 h3 h4 h5)
theorem snapOpens_ok (f : Nat → Option D) (hf : ∀ id d, f id = some d → ∃ h, hs[id]? = some h ∧ FroD w Z d (.slice h.base h.len h.cap))
  {wd : Nat} (l : Opens) : ∀ (rows rows' : Rows) (vs : List Value), snapOpens f rows l = some rows' → (∀ r ∈ rows, r.length = wd) →
   (∀ e ∈ l, e.1.1 < rows.length ∧ e.1.2 < wd) → (l.Pairwise fun e e' => e.1 ≠ e'.1) → FCL w Z hs (viewRows l 0 rows) vs →
   rows'.length = rows.length ∧ (∀ r ∈ rows', r.length = wd) ∧ FroL w Z rows'.flatten vs := by
 induction l with
 | nil =>
  intro rows rows' vs h hw _ _ hv
  simp only [snapOpens, Option.some.injEq] at h
  subst h
  rw [viewRows_nil] at hv
  exact ⟨rfl, hw, hv.fro⟩
 | cons e l ih =>
  obtain ⟨⟨i, c0⟩, x⟩ := e
  intro rows rows' vs h hw ho hk hv
  obtain ⟨hi, hc⟩ := ho _ List.mem_cons_self
  have hk' := List.pairwise_cons.1 hk
  have hn : findO i c0 l = none := findO_none fun e he h' => hk'.1 e he h'.symm
  have hr : rows[i]? = some rows[i] := List.getElem?_eq_getElem hi
  have hlen : c0 < (rows[i]).length := by rw [hw _ (List.getElem_mem hi)]; exact hc
  have hget : (viewRows (((i, c0), x) :: l) 0 rows)[i * wd + c0]? = some x := by
   rw [viewRows_get _ wd rows hw 0 i c0 hc, hr]
   simp [hlen, findO]
  obtain ⟨u, g1, g2, g4⟩ := hv.at hget
  have step : ∀ d, FroD w Z d u → snapOpens f (setD rows i c0 d) l = some rows' →
    rows'.length = rows.length ∧ (∀ r ∈ rows', r.length = wd) ∧ FroL w Z rows'.flatten vs := by
   intro d hd h
   have g5 := g4 _ _ (FC.of_fro (hs := hs) hd)
   rw [set_same g1, ← view_close hw hi hc x l hn d] at g5
   obtain ⟨r1, r2, r3⟩ := ih _ _ _ h (setD_wd hw i c0 d) (fun e he => by rw [setD_length]; exact ho e (by simp [he])) hk'.2 g5
   exact ⟨by rw [r1, setD_length], r2, r3⟩
  simp only [snapOpens] at h
  split at h
  ·rename_i id
   split at h
   ·rename_i d hfe
    obtain ⟨hd, e1, e2⟩ := hf _ _ hfe
    cases g2 with
    | r hh' => rw [e1] at hh'; cases hh'; exact step d e2 h
   ·simp at h
  ·cases g2 with | fz h' => exact step _ h' h
  ·simp at h
theorem snapId_ok {m : Mem} {c : List Nat} (hm : MemL w Z hs hs m c) (hz : ∀ b, Z b → Z' b) (hc : ∀ b ∈ c, Z' b) (k : Nat) :
  ∀ (id : Nat) (d : D), snapId m k id = some d → ∃ h, hs[id]? = some h ∧ FroD w Z' d (.slice h.base h.len h.cap) := by
 induction k with
 | zero => intro id d h; simp [snapId] at h
 | succ k ih =>
  intro id d h
  simp only [snapId] at h
  split at h
  ·rename_i n hn
   split at h
   ·rename_i rows hc'
    simp only [Option.some.injEq] at h
    subst h
    obtain ⟨hd, c1, cn, c2, e1, e2, e3, rfl, e5, _⟩ := hm.at hn
    refine ⟨hd, e1, ?_⟩
    rcases e3.mem with ⟨z1, z2, rfl⟩ | ⟨b, off, vs, c', f1, f2, f3, f4, f5, rfl⟩
    ·have ho : n.opens = [] := by
      cases ho : n.opens with
      | nil => rfl
      | cons e l => have := (e3.opens e (by simp [ho])).1; simp [z1] at this
     rw [ho, z1] at hc'
     simp only [snapOpens, Option.some.injEq] at hc'
     subst hc'
     rw [e3.len, z1]
     exact .z
    ·obtain ⟨r1, r2, r3⟩ := snapOpens_ok (hs := hs) (snapId m k) ih _ _ _ _ hc' e3.rows e3.opens e3.keys (FCL.of f5 hz fun b h => hc b (by simp [h]))
     rw [f1, e3.len, ← r1]
     exact .s r2 (by omega) (hc _ (by simp)) f3 r3
   ·simp at h
  ·simp at h
theorem snapCell_ok {m : Mem} {c : List Nat} (hm : MemL w Z hs hs m c) (hz : ∀ b, Z b → Z' b) (hc : ∀ b ∈ c, Z' b) {x : AV} {d : D} {v : Value}
  (h : snapCell m x = some d) (hx : ARel X w Z hs x v) : FroD w Z' d v := by
 cases x with
 | v x => simp only [snapCell, Option.some.injEq] at h; subst h; cases hx with | v h => exact .v h
 | o wd rows => simp only [snapCell, Option.some.injEq] at h; subst h; cases hx with | o => exact .z
 | fz wd rows => simp only [snapCell, Option.some.injEq] at h; subst h; cases hx with | fz h => exact h.frame hz fun _ _ => rfl
 | r id =>
  simp only [snapCell] at h
  obtain ⟨hd, e1, e2⟩ := snapId_ok hm hz hc _ _ _ h
  cases hx with | r hh => rw [e1] at hh; cases hh; exact e2
 | _ => simp [snapCell] at h
theorem snapCells_ok {m : Mem} {c : List Nat} (hm : MemL w Z hs hs m c) (hz : ∀ b, Z b → Z' b) (hc : ∀ b ∈ c, Z' b) {xs : List AV} :
  ∀ {ds : Row} {vs : List Value}, snapCells m xs = some ds → ARelL X w Z hs xs vs → FroL w Z' ds vs := by
 induction xs with
 | nil => intro ds vs h hx; simp only [snapCells, Option.some.injEq] at h; subst h; cases hx; exact .nil
 | cons x xs ih =>
  intro ds vs h hx
  cases hx with
  | cons hx hx' =>
   simp only [snapCells] at h
   split at h
   ·rename_i d h1
    split at h
    ·rename_i ds' h2
     simp only [Option.some.injEq] at h
     subst h
     exact .cons (snapCell_ok hm hz hc h1 hx) (ih h2 hx')
    ·simp at h
   ·simp at h
theorem snapI1ok {m : Mem} {c : List Nat} (hm : MemL w Z hs hs m c) (hz : ∀ b, Z b → Z' b) (hc : ∀ b ∈ c, Z' b) {x : AV} {i : I} {v : Value}
  (h : snapI1 m x = some i) (hx : ARel X w Z hs x v) : IFro X w Z' i v := by
 unfold snapI1 at h
 split at h
 ·split at h
  ·rename_i ds h1
   cases h
   cases hx with | g hx => exact .g (snapCells_ok hm hz hc h1 hx)
  ·simp at h
 ·cases h
  cases hx with | fa hz' hh h => exact .p (hz _ hz') hh (by simpa using h.frame hz fun _ _ => rfl)
 ·rename_i id
  split at h
  ·rename_i wd row h1
   cases h
   obtain ⟨hd, e1, e2⟩ := snapId_ok hm hz hc _ _ _ h1
   cases hx with
   | @a _ _ _ b off hd' hh hb hi =>
    rw [e1] at hh
    cases hh
    rw [hb] at e2
    generalize hl : hd.len = n at e2
    cases e2 with
    | s g1 g1' g2 g3 g4 => simp only [Nat.zero_mul, Nat.add_zero]; exact .p g2 g3 (by simpa using g4)
  ·simp at h
 ·split at h
  ·rename_i d h1
   cases h
   exact .d (snapCell_ok hm hz hc h1 hx)
  ·simp at h
theorem snapI1s_ok {m : Mem} {c : List Nat} (hm : MemL w Z hs hs m c) (hz : ∀ b, Z b → Z' b) (hc : ∀ b ∈ c, Z' b) {xs : List AV} :
  ∀ {is : List I} {vs : List Value}, snapI1s m xs = some is → ARelL X w Z hs xs vs → IFroL X w Z' is vs := by
 induction xs with
 | nil => intro ds vs h hx; simp only [snapI1s, Option.some.injEq] at h; subst h; cases hx; exact .nil
 | cons x xs ih =>
  intro ds vs h hx
  cases hx with
  | cons hx hx' =>
   simp only [snapI1s] at h
   split at h
   ·rename_i d h1
    split at h
    ·rename_i ds' h2
     simp only [Option.some.injEq] at h
     subst h
     exact .cons (snapI1ok hm hz hc h1 hx) (ih h2 hx')
    ·simp at h
   ·simp at h
theorem snapI_ok {m : Mem} {c : List Nat} (hm : MemL w Z hs hs m c) (hz : ∀ b, Z b → Z' b) (hc : ∀ b ∈ c, Z' b) {x : AV} {i : I} {v : Value}
  (h : snapI m x = some i) (hx : ARel X w Z hs x v) : IFro X w Z' i v := by
 unfold snapI at h
 split at h
 ·split at h
  ·rename_i is h1
   cases h
   cases hx with | f hf hx => exact .f hf (snapI1s_ok hm hz hc h1 hx)
  ·simp at h
 ·cases h
  cases hx with | ff hf hx => exact .f hf (hx.frame hz fun _ _ => rfl)
 ·exact snapI1ok hm hz hc h hx
theorem takeIs_ok {xs : List AV} : ∀ {m m' : Mem} {is : List I} {vs : List Value} {c : List Nat}, takeIs m xs = some (is, m') → ARelL X w Z hs xs vs → MemL w Z hs hs m c →
  ∃ c' cd, IOwnL X w is vs cd ∧ MemL w Z hs hs m' c' ∧ ∀ b, (c' ++ cd).count b ≤ c.count b := by
 induction xs with
 | nil =>
  intro m m' ds vs c h hx hm
  simp only [takeIs, Option.some.injEq, Prod.mk.injEq] at h
  obtain ⟨rfl, rfl⟩ := h
  cases hx
  exact ⟨c, [], .nil, hm, fun b => by simp⟩
 | cons x xs ih =>
  intro m m' ds vs c h hx hm
  cases hx with
  | cons hx hx' =>
   simp only [takeIs] at h
   split at h
   ·rename_i d m1 h1
    split at h
    ·rename_i ds' m2 h2
     simp only [Option.some.injEq, Prod.mk.injEq] at h
     obtain ⟨rfl, rfl⟩ := h
     obtain ⟨c1, cd, e1, e2, e3⟩ := takeI_ok h1 hx hm
     obtain ⟨c2, cd', f1, f2, f3⟩ := ih h2 hx' e2
     refine ⟨c2, cd ++ cd', .cons e1 f1, f2, fun b => ?_⟩
     have := e3 b
     have := f3 b
     simp only [List.count_append] at *
     omega
    ·simp at h
   ·simp at h
inductive ArgsRel (X : Nat → Prop) (w : World) (Z : Nat → Prop) : List Mode → List I → List Value → List Nat → Prop
 | nil : ArgsRel X w Z [] [] [] []
 | rd {i : I} {is : List I} {v : Value} {vs : List Value} {ms : List Mode} {c : List Nat} (h : IFro X w Z i v) (h' : ArgsRel X w Z ms is vs c) : ArgsRel X w Z (.rd :: ms) (i :: is) (v :: vs) c
 | own {i : I} {is : List I} {v : Value} {vs : List Value} {ms : List Mode} {c c' : List Nat} (h : IOwn X w i v c) (h' : ArgsRel X w Z ms is vs c') : ArgsRel X w Z (.own :: ms) (i :: is) (v :: vs) (c ++ c')
 | lent {i : I} {is : List I} {v : Value} {vs : List Value} {ms : List Mode} {c c' : List Nat} (h : IOwn X w i v c) (h' : ArgsRel X w Z ms is vs c') : ArgsRel X w Z (.lent :: ms) (i :: is) (v :: vs) (c ++ c')
theorem passArgs_ok {ms : List Mode} : ∀ {m m' : Mem} {xs : List AV} {is : List I} {vs : List Value} {c : List Nat}, passArgs m ms xs = some (is, m') → ARelL X w Z hs xs vs → MemL w Z hs hs m c →
  ∃ c' cin, MemL w Z hs hs m' c' ∧ (∀ b, (c' ++ cin).count b ≤ c.count b) ∧ ∀ Z' : Nat → Prop, (∀ b, Z b → Z' b) → (∀ b ∈ c', Z' b) → ArgsRel X w Z' ms is vs cin := by
 induction ms with
 | nil =>
  intro m m' xs is vs c h hx hm
  cases xs with
  | cons => simp [passArgs] at h
  | nil =>
   simp only [passArgs, Option.some.injEq, Prod.mk.injEq] at h
   obtain ⟨rfl, rfl⟩ := h
   cases hx
   exact ⟨c, [], hm, fun b => by simp, fun _ _ _ => .nil⟩
 | cons md ms ih =>
  intro m m' xs is vs c h hx hm
  cases hx with
  | nil => cases md <;> simp [passArgs] at h
  | @cons x xs v vs hx hx' =>
   have own : ∀ (take : takeI m x ≠ none → True), (match takeI m x with
     | some (i, m) => match passArgs m ms xs with
      | some (is, m) => some (i :: is, m)
      | none => none
     | none => none) = some (is, m') →
     ∃ c' cin ci i is', is = i :: is' ∧ MemL w Z hs hs m' c' ∧ (∀ b, (c' ++ (ci ++ cin)).count b ≤ c.count b) ∧ IOwn X w i v ci ∧
      ∀ Z' : Nat → Prop, (∀ b, Z b → Z' b) → (∀ b ∈ c', Z' b) → ArgsRel X w Z' ms is' vs cin := by
    intro _ h
    split at h
    ·rename_i i m1 h1
     split at h
     ·rename_i is' m2 h2
      simp only [Option.some.injEq, Prod.mk.injEq] at h
      obtain ⟨rfl, rfl⟩ := h
      obtain ⟨c1, cd, e1, e2, e3⟩ := takeI_ok h1 hx hm
      obtain ⟨c2, cin, f1, f2, f3⟩ := ih h2 hx' e2
      refine ⟨c2, cin, cd, i, is', rfl, f1, fun b => ?_, e1, f3⟩
      have := e3 b
      have := f2 b
      simp only [List.count_append] at *
      omega
     ·simp at h
    ·simp at h
   cases md with
   | rd =>
    simp only [passArgs] at h
    split at h
    ·rename_i is' m1 h1
     split at h
     ·rename_i i h2
      simp only [Option.some.injEq, Prod.mk.injEq] at h
      obtain ⟨rfl, rfl⟩ := h
      obtain ⟨c', cin, f1, f2, f3⟩ := ih h1 hx' hm
      exact ⟨c', cin, f1, f2, fun Z' hz hc => .rd (snapI_ok f1 hz hc h2 hx) (f3 Z' hz hc)⟩
     ·simp at h
    ·simp at h
   | own =>
    obtain ⟨c', cin, ci, i, is', rfl, f1, f2, f3, f4⟩ := own (fun _ => trivial) (by simp only [passArgs] at h; exact h)
    exact ⟨c', ci ++ cin, f1, f2, fun Z' hz hc => .own f3 (f4 Z' hz hc)⟩
   | lent =>
    obtain ⟨c', cin, ci, i, is', rfl, f1, f2, f3, f4⟩ := own (fun _ => trivial) (by simp only [passArgs] at h; exact h)
    exact ⟨c', ci ++ cin, f1, f2, fun Z' hz hc => .lent f3 (f4 Z' hz hc)⟩
end
end Go.Am
/- AM: what holds of an activation; contracts; the first operations. Nothing is assumed. -/
namespace Go.Am
structure Mute (w w' : World) : Prop where
 os : w'.os = w.os
 output : w'.output = w.output
 tape : w'.tape = w.tape
theorem Mute.refl (w : World) : Mute w w := ⟨rfl, rfl, rfl⟩
theorem Mute.trans {a b c : World} (h : Mute a b) (h' : Mute b c) : Mute a c := ⟨h'.os.trans h.os, h'.output.trans h.output, h'.tape.trans h.tape⟩
def Stay (w w' : World) : Prop := ∀ (b : Nat) (cs : Array Value) el fz, w.heap[b]? = some (Obj.cells cs el fz) → ∃ cs' : Array Value, w'.heap[b]? = some (Obj.cells cs' el fz) ∧ cs'.size = cs.size
theorem Stay.refl (w : World) : Stay w w := fun _ cs _ _ h => ⟨cs, h, rfl⟩
theorem Stay.trans {a b c : World} (h : Stay a b) (h' : Stay b c) : Stay a c := fun x cs el fz hx => by
 obtain ⟨cs1, h1, h2⟩ := h x cs el fz hx
 obtain ⟨cs2, h3, h4⟩ := h' x cs1 el fz h1
 exact ⟨cs2, h3, h4.trans h2⟩
theorem Stay.same {w w' : World} (h : w'.heap = w.heap) : Stay w w' := fun _ cs _ _ hx => ⟨cs, by rw [h]; exact hx, rfl⟩
theorem Stay.push {w w' : World} {o : Obj} (h : w'.heap = w.heap.push o) : Stay w w' := fun b cs _ _ hx => by
 have := (Array.getElem?_eq_some_iff.1 hx).1
 refine ⟨cs, ?_, rfl⟩
 rw [h, Array.getElem?_push]
 have : b ≠ w.heap.size := by omega
 simpa [this] using hx
theorem Free.stay {w w' : World} {b off n : Nat} (h : Free w b off n) (hs : Stay w w') : Free w' b off n := by
 obtain ⟨cs, el, fz, h1, h2, h3⟩ := h
 obtain ⟨cs', g1, g2⟩ := hs b cs el fz h1
 exact ⟨cs', el, fz, g1, by omega, h3⟩
structure WInv (w0 : World) (c0 : List Nat) (Z : Nat → Prop) (w : World) (c : List Nat) : Prop where
 cnt : ∀ b, c.count b ≤ 1
 dis : ∀ b, Z b → b ∉ c
 zlt : ∀ b, Z b → b < w0.heap.size ∧ b ∉ c0
 size : w0.heap.size ≤ w.heap.size
 own : ∀ b ∈ c, b ∈ c0 ∨ w0.heap.size ≤ b
 frame : ∀ b, b < w0.heap.size → b ∉ c0 → w.heap[b]? = w0.heap[b]?
 mute : Mute w0 w
 stay : Stay w0 w
theorem WInv.zsame {w0 w w' : World} {c0 c c' : List Nat} {Z : Nat → Prop} (h : WInv w0 c0 Z w c) (h' : WInv w0 c0 Z w' c') : ∀ b, Z b → w'.heap[b]? = w.heap[b]? :=
 fun b hb => by
  obtain ⟨h1, h2⟩ := h.zlt b hb
  rw [h.frame b h1 h2, h'.frame b h1 h2]
theorem WInv.less {w0 w : World} {c0 c c' : List Nat} {Z : Nat → Prop} (h : WInv w0 c0 Z w c) (hc : ∀ b, c'.count b ≤ c.count b) : WInv w0 c0 Z w c' := by
 have sub : ∀ b ∈ c', b ∈ c := fun b hb => by
  have h1 := List.count_pos_iff.2 hb
  have h2 := hc b
  exact List.count_pos_iff.1 (by omega)
 exact ⟨fun b => by have h1 := hc b; have h2 := h.cnt b; omega, fun b hz hb => h.dis b hz (sub b hb), h.zlt, h.size, fun b hb => h.own b (sub b hb), h.frame, h.mute, h.stay⟩
theorem push_get {w w' : World} {o : Obj} (hw : w'.heap = w.heap.push o) : (∀ b, b < w.heap.size → w'.heap[b]? = w.heap[b]?) ∧ w'.heap[w.heap.size]? = some o ∧ w'.heap.size = w.heap.size + 1 := by
 refine ⟨fun b hb => ?_, ?_, ?_⟩
 ·rw [hw, Array.getElem?_push]
  have : b ≠ w.heap.size := by omega
  simp [this]
 ·rw [hw]; simp
 ·rw [hw]; simp
theorem WInv.push {w0 w w' : World} {c0 c : List Nat} {Z : Nat → Prop} {o : Obj} (h : WInv w0 c0 Z w c) (hc : ∀ b ∈ c, b < w.heap.size) (hw : w'.heap = w.heap.push o) (hmu : Mute w w' := by exact ⟨rfl, rfl, rfl⟩) :
  WInv w0 c0 Z w' (c ++ [w.heap.size]) := by
 obtain ⟨h1, h2, h3⟩ := push_get hw
 have hs := h.size
 refine ⟨fun b => ?_, fun b hz hb => ?_, h.zlt, by omega, fun b hb => ?_, fun b hb hn => ?_, h.mute.trans hmu, h.stay.trans (Stay.push hw)⟩
 ·rw [List.count_append]
  have := h.cnt b
  by_cases hb : b = w.heap.size
  ·subst hb
   have : c.count w.heap.size = 0 := List.count_eq_zero.2 fun hm => Nat.lt_irrefl _ (hc _ hm)
   simp [this]
  ·have : [w.heap.size].count b = 0 := List.count_eq_zero.2 (by simpa using hb)
   omega
 ·rcases List.mem_append.1 hb with hb | hb
  ·exact h.dis b hz hb
  ·have := h.zlt b hz
   simp at hb
   omega
 ·rcases List.mem_append.1 hb with hb | hb
  ·exact h.own b hb
  ·simp at hb
   exact .inr (by omega)
 ·rw [h1 b (by omega), h.frame b hb hn]
theorem WInv.write {w0 w w' : World} {c0 c : List Nat} {Z : Nat → Prop} (h : WInv w0 c0 Z w c) {b : Nat} (hb : b ∈ c) (hw : ∀ x, x ≠ b → w'.heap[x]? = w.heap[x]?) (hs : w'.heap.size = w.heap.size) (hmu : Mute w w') (hst : Stay w w') :
  WInv w0 c0 Z w' c := by
 refine ⟨h.cnt, h.dis, h.zlt, by rw [hs]; exact h.size, h.own, fun x hx hn => ?_, h.mute.trans hmu, h.stay.trans hst⟩
 have : x ≠ b := by
  rintro rfl
  rcases h.own x hb with h' | h'
  ·exact hn h'
  ·omega
 rw [hw x this, h.frame x hx hn]
abbrev Sigs := Nat → Option (List Mode)
def Sigs.modes (sg : Sigs) (fn n : Nat) : List Mode := (sg fn).getD (List.replicate n .rd)
def Sigs.X (sg : Sigs) (fn : Nat) : Prop := sg fn = none
inductive BackRel (X : Nat → Prop) (w : World) : List Mode → List Value → List I → List Nat → Prop
 | nil : BackRel X w [] [] [] []
 | rd {v : Value} {vs : List Value} {ms : List Mode} {is : List I} {c : List Nat} (h : BackRel X w ms vs is c) : BackRel X w (.rd :: ms) (v :: vs) is c
 | own {v : Value} {vs : List Value} {ms : List Mode} {is : List I} {c : List Nat} (h : BackRel X w ms vs is c) : BackRel X w (.own :: ms) (v :: vs) is c
 | lent {i : I} {v : Value} {vs : List Value} {ms : List Mode} {is : List I} {c c' : List Nat} (h : IOwn X w i v c) (h' : BackRel X w ms vs is c') : BackRel X w (.lent :: ms) (v :: vs) (i :: is) (c ++ c')
def CallsF (P : Program) (fn : Nat) (vs : Array Value) (w : World) (R : Ending → World → Prop) : Prop :=
 ((callFunc fn vs).run P w = .ok (.enter fn vs) w ∧ Calls P fn vs w R) ∨ ∃ v w', (callFunc fn vs).run P w = .ok (.value v) w' ∧ R (.returned v) w'
structure Src where
 b : Nat
 off : Nat
 bytes : List UInt8
def noSrc : Src := ⟨0, 0, []⟩
def Src.At (K : Src) (Z : Nat → Prop) (w : World) : Prop := K.bytes ≠ [] → Z K.b ∧ Holds w K.b K.off (K.bytes.map fun c => .int .u8 (c.toNat : Int))
theorem noSrc_at {Z : Nat → Prop} {w : World} : noSrc.At Z w := fun h => absurd rfl h
def Pin (P : Program) (K : Src) (Z : Nat → Prop) (w : World) : Prop := (∃ wt : World, wt.ShapedOpen P ∧ ∀ g, g < P.globals.size → g < wt.heap.size → Z g ∧ w.heap[g]? = wt.heap[g]?) ∧ K.At Z w
theorem Pin.mono {P : Program} {K : Src} {Z Z' : Nat → Prop} {w w' : World} (h : Pin P K Z w) (hz : ∀ b, Z b → Z' b) (hh : ∀ b, Z b → w'.heap[b]? = w.heap[b]?) : Pin P K Z' w' := by
 obtain ⟨⟨wt, h1, h2⟩, hk⟩ := h
 refine ⟨⟨wt, h1, fun g hg hl => ?_⟩, fun hne => ?_⟩
 ·obtain ⟨h3, h4⟩ := h2 g hg hl
  exact ⟨hz g h3, (hh g h3).trans h4⟩
 ·obtain ⟨h3, h4⟩ := hk hne
  exact ⟨hz _ h3, h4.frame (hh _ h3)⟩
def SatAt (P : Program) (sg : Sigs) (fn : Nat) (is : List I) (o : Out) (w : World) (Z : Nat → Prop) (vs : List Value) (cin : List Nat) : Prop :=
 ArgsRel sg.X w Z (sg.modes fn is.length) is vs cin → WInv w cin Z w cin →
  CallsF P fn vs.toArray w fun e w' => ∃ v cres cbk, e = .returned v ∧ IOwn sg.X w' o.res v cres ∧ BackRel sg.X w' (sg.modes fn is.length) vs o.back cbk ∧ WInv w cin Z w' (cres ++ cbk)
def Sat (P : Program) (sg : Sigs) (K : Src) (fn : Nat) (is : List I) (o : Out) : Prop :=
 ∀ (w : World) (Z : Nat → Prop) (vs : List Value) (cin : List Nat), Pin P K Z w → SatAt P sg fn is o w Z vs cin
def codeQ (mk : Nat) (b : Option Addr) (n c : Nat) (i : Int) : List I := [.f mk [], .d (.v (.slice b n c)), .d (.v (.int .i64 i))]
def CodeAt (w : World) (Z : Nat → Prop) (b : Option Addr) (n : Nat) (i : Int) (o : Out) : Prop :=
 ∃ bk off x, o.res = .d (.v (.int .u8 x)) ∧ b = some ⟨bk, off, none⟩ ∧ 0 ≤ i ∧ i < (n : Int) ∧ Z bk ∧ Holds w bk (off + i.toNat) [.int .u8 x]
def Good (P : Program) (sg : Sigs) (K : Src) (T : Table) : Prop := (∀ fn is o, T fn is = some o → Sat P sg K fn is o) ∧
 ∀ mk b n c i o, T 0 (codeQ mk b n c i) = some o → ∀ (w : World) (Z : Nat → Prop), Pin P K Z w → CodeAt w Z b n i o
def GoodAt (P : Program) (sg : Sigs) (w0 : World) (Z0 : Nat → Prop) (T : Table) : Prop := (∀ fn is o, T fn is = some o → ∀ (w : World) (Z : Nat → Prop) (vs : List Value) (cin : List Nat),
 (∀ b, Z0 b → Z b) → (∀ b, Z0 b → w.heap[b]? = w0.heap[b]?) → SatAt P sg fn is o w Z vs cin) ∧
 ∀ mk b n c i o, T 0 (codeQ mk b n c i) = some o → ∀ (w : World), (∀ b, Z0 b → w.heap[b]? = w0.heap[b]?) → CodeAt w Z0 b n i o
theorem Good.at {P : Program} {sg : Sigs} {K : Src} {w0 : World} {Z0 : Nat → Prop} {T : Table} (h : Good P sg K T) (hp : Pin P K Z0 w0) : GoodAt P sg w0 Z0 T :=
 ⟨fun fn is o ho w Z vs cin h1 h2 => h.1 fn is o ho w Z vs cin (hp.mono h1 h2), fun mk b n c i o ho w h2 => h.2 mk b n c i o ho w Z0 (hp.mono (fun _ h => h) h2)⟩
theorem GoodAt.mono {P : Program} {sg : Sigs} {w0 w1 : World} {Z0 : Nat → Prop} {T : Table} (h : GoodAt P sg w0 Z0 T) (hh : ∀ b, Z0 b → w1.heap[b]? = w0.heap[b]?) : GoodAt P sg w1 Z0 T :=
 ⟨fun fn is o ho w Z vs cin h1 h2 => h.1 fn is o ho w Z vs cin h1 fun b hb => (h2 b hb).trans (hh b hb), fun mk b n c i o ho w h2 => h.2 mk b n c i o ho w fun b hb => (h2 b hb).trans (hh b hb)⟩
structure SInv (X : Nat → Prop) (keep : List Nat) (N : Nat) (args : Nat → Value) (w0 : World) (c0 : List Nat) (Z : Nat → Prop) (hs : List Hd) (c : List Nat) (st : St) (a : Act) (w : World) : Prop where
 mem : MemL w Z hs hs st.m c
 tmp : ∀ i, ARel X w Z hs (st.t i) (a.tmps.getD i undef)
 win : WInv w0 c0 Z w c
 defers : a.defers = []
 size : a.tmps.size = N
 keep : ∀ i ∈ keep, a.tmps.getD i undef = args i
def Ext (hs hs' : List Hd) : Prop := ∀ (id : Nat) (h : Hd), hs[id]? = some h → hs'[id]? = some h
theorem Ext.refl (hs : List Hd) : Ext hs hs := fun _ _ h => h
theorem Ext.append (hs l : List Hd) : Ext hs (hs ++ l) := fun id h hh => by
 have := List.getElem?_eq_some_iff.1 hh
 rw [List.getElem?_append_left this.1]; exact hh
theorem sinv_put {X : Nat → Prop} {keep : List Nat} {N : Nat} {args : Nat → Value} {w0 : World} {c0 : List Nat} {Z : Nat → Prop} {hs hs' : List Hd} {c c' : List Nat} {st : St} {a : Act} {w w' : World}
  (h : SInv X keep N args w0 c0 Z hs c st a w) {dst : Option Nat} {av : AV} {v : Value} {m' : Mem} (hd : ∀ d, dst = some d → d < N) (hk : mayPut keep dst = true)
  (hm : MemL w' Z hs' hs' m' c') (hv : ARel X w' Z hs' av v) (hw : WInv w0 c0 Z w' c') (he : Ext hs hs') :
  SInv X keep N args w0 c0 Z hs' c' ⟨put st.t dst av, m'⟩ (a.put dst v) w' := by
 have hz := h.win.zsame hw
 cases dst with
 | none => exact ⟨hm, fun i => (h.tmp i).frame (fun _ h => h) hz he, hw, h.defers, h.size, h.keep⟩
 | some d =>
  have hd' := hd d rfl
  have hsz : d < a.tmps.size := by rw [h.size]; exact hd'
  refine ⟨hm, fun i => ?_, hw, h.defers, by simp [Act.put, h.size], fun i hi => ?_⟩
  ·simp only [put, upd, Act.put]
   by_cases hid : i = d
   ·subst hid
    simp [hsz, hv]
   ·have : Nat.beq i d = false := by rw [← Bool.not_eq_true, Nat.beq_eq]; exact hid
    simp only [this, cond_false]
    have h1 : (a.tmps.setIfInBounds d v).getD i undef = a.tmps.getD i undef := by
     simp [Array.getD_eq_getD_getElem?, Array.getElem?_setIfInBounds, Ne.symm hid]
    rw [h1]
    exact (h.tmp i).frame (fun _ h => h) hz he
  ·have hid : i ≠ d := by
    rintro rfl
    simp [mayPut] at hk
    exact hk hi
   simp only [Act.put]
   rw [← h.keep i hi]
   simp [Array.getD_eq_getD_getElem?, Array.getElem?_setIfInBounds, Ne.symm hid]
end Go.Am
/- AM: operations that leave the world alone. Nothing is assumed. -/
namespace Go.Am
def chkV : AV → Value → Bool
 | .v (.int k n), .int k' n' => k == k' && n == n'
 | .v (.bool b), .bool b' => b == b'
 | .v (.string s), .string s' => s.data.toList == s'.data.toList
 | .o _ [], .slice none 0 0 => true
 | .v (.slice none 0 0), .slice none 0 0 => true
 | .u, .pointer none => true
 | _, _ => false
def chkVs : List AV → List Value → Bool
 | [], [] => true
 | x :: xs, v :: vs => chkV x v && chkVs xs vs
 | _, _ => false
def chkC (x : AV) (v : Value) : Bool := match x, v with
 | .g xs, .agg vs => chkVs xs vs.toList
 | x, v => chkV x v
def chkX (sg : Sigs) (fn : Nat) : Bool := (sg fn).isNone
def chkOpd (sg : Sigs) : Opd → Operand → Bool
 | .t i, .tmp j => i == j
 | .c x, .const v => chkC x v
 | .f fn, .func fn' => fn == fn' && chkX sg fn
 | _, _ => false
section
variable {X : Nat → Prop} {w : World} {Z : Nat → Prop} {hs : List Hd}
theorem chkV_ok {x : AV} {v : Value} (h : chkV x v = true) : ARel X w Z hs x v := by
 unfold chkV at h
 split at h
 ·simp at h; obtain ⟨rfl, rfl⟩ := h; exact .v trivial
 ·simp at h; subst h; exact .v trivial
 ·rename_i s s'
  simp at h
  obtain rfl : s = s' := by cases s; cases s'; simp at h; simp [h]
  exact .v trivial
 ·exact .o
 ·exact .v trivial
 ·exact .u
 ·simp at h
theorem chkVs_ok {xs : List AV} : ∀ {vs : List Value}, chkVs xs vs = true → ARelL X w Z hs xs vs := by
 induction xs with
 | nil => intro vs h; cases vs with
  | nil => exact .nil
  | cons => simp [chkVs] at h
 | cons x xs ih => intro vs h; cases vs with
  | nil => simp [chkVs] at h
  | cons v vs => simp [chkVs] at h; exact .cons (chkV_ok h.1) (ih h.2)
theorem chkC_ok {x : AV} {v : Value} (h : chkC x v = true) : ARel X w Z hs x v := by
 unfold chkC at h
 split at h
 ·exact .g (chkVs_ok h)
 ·exact chkV_ok h
end
section
variable {P : Program} {sg : Sigs} {T : Table} {keep : List Nat} {N : Nat} {args : Nat → Value} {w0 : World} {c0 : List Nat} {Z : Nat → Prop}
theorem chkOpd_ok {x : Opd} {y : Operand} (h : chkOpd sg x y = true) {hs : List Hd} {c : List Nat} {st : St} {a : Act} {w : World} (hi : SInv sg.X keep N args w0 c0 Z hs c st a w) :
  ARel sg.X w Z hs (ev st.t x) (a.eval y) := by
 unfold chkOpd at h
 split at h
 ·simp at h; subst h; exact hi.tmp _
 ·exact chkC_ok h
 ·simp [chkX] at h
  obtain ⟨rfl, hx⟩ := h
  exact .f hx (by simpa using ARelL.nil)
 ·simp at h
def OpPost (X : Nat → Prop) (w0 : World) (c0 : List Nat) (Z : Nat → Prop) (hs : List Hd) (av : AV) (m' : Mem) (v : Value) (w' : World) : Prop :=
 ∃ hs' c', Ext hs hs' ∧ MemL w' Z hs' hs' m' c' ∧ ARel X w' Z hs' av v ∧ WInv w0 c0 Z w' c'
def OpOk (P : Program) (sg : Sigs) (keep : List Nat) (N : Nat) (args : Nat → Value) (w0 : World) (c0 : List Nat) (Z : Nat → Prop) (o : Oper) (st : St) (av : AV) (m' : Mem) : Prop :=
 ∀ (hs : List Hd) (c : List Nat) (a : Act) (w : World), SInv sg.X keep N args w0 c0 Z hs c st a w → ∀ (next : Act → World → Prop) (Q : Exit → Act → World → Prop),
  (∀ v w', OpPost sg.X w0 c0 Z hs av m' v w' → next (a.put o.dst v) w') → o.wp P a w next Q
theorem pure_ok {o : Oper} {st : St} {av : AV} (h : ∀ (hs : List Hd) (c : List Nat) (a : Act) (w : World), SInv sg.X keep N args w0 c0 Z hs c st a w →
  ∃ v, (execOp a.eval o).run P w = .ok (.value v) w ∧ ARel sg.X w Z hs av v) : OpOk P sg keep N args w0 c0 Z o st av st.m := by
 intro hs c a w hi next Q hn
 obtain ⟨v, h1, h2⟩ := h hs c a w hi
 unfold Oper.wp
 rw [h1]
 exact hn v w ⟨hs, c, Ext.refl _, hi.mem, h2, hi.win⟩
theorem mv_ok {o : Oper} {st : St} {x : Opd} {y : Operand} (hc : chkOpd sg x y = true) (ho : o.op = .move y ∨ o.op = .assign y) :
  OpOk P sg keep N args w0 c0 Z o st (ev st.t x) st.m :=
 pure_ok fun hs c a w hi => ⟨a.eval y, by rcases ho with ho | ho <;> simp [execOp, ho, Sem.run, pure], chkOpd_ok hc hi⟩
theorem sc_cases {x : Value} (h : Sc x) : (∃ k n, x = .int k n) ∨ (∃ b, x = .bool b) ∨ (∃ s, x = .string s) ∨ ∃ b n c, x = .slice b n c := by
 cases x <;> simp [Sc] at h <;> simp
def ScS : Value → Prop
 | .int _ _ => True
 | .bool _ => True
 | .string _ => True
 | _ => False
theorem scs_cases {x : Value} (h : ScS x) : (∃ k n, x = .int k n) ∨ (∃ b, x = .bool b) ∨ ∃ s, x = .string s := by
 cases x <;> simp [ScS] at h <;> simp
theorem run_eqGuard_sc {op : BinOp} {t : TypeId} {x y : Operand} {a b : Value} (h : ScS a) (w : World) : (eqGuard op t x y a b).run P w = .ok () w := by
 rcases scs_cases h with ⟨k, n, rfl⟩ | ⟨b', rfl⟩ | ⟨s, rfl⟩ <;> unfold eqGuard <;> split <;> simp
theorem val_of {X : Nat → Prop} {w : World} {hs : List Hd} {x v : Value} (h : ARel X w Z hs (.v x) v) : v = x := by cases h; rfl
theorem two_ok {o : Oper} {st : St} {x y : Opd} {x' y' : Operand} {a b z : Value} (hx : chkOpd sg x x' = true) (hy : chkOpd sg y y' = true)
  (ea : ev st.t x = .v a) (eb : ev st.t y = .v b) (hz : Sc z)
  (h : ∀ (ac : Act) (w : World), ac.eval x' = a → ac.eval y' = b → Sc a → Sc b → (execOp ac.eval o).run P w = .ok (.value z) w) : OpOk P sg keep N args w0 c0 Z o st (.v z) st.m :=
 pure_ok fun hs c ac w hi => by
  have h1 := chkOpd_ok hx hi
  have h2 := chkOpd_ok hy hi
  rw [ea] at h1
  rw [eb] at h2
  have sa : Sc a := by cases h1; assumption
  have sb : Sc b := by cases h2; assumption
  exact ⟨z, h ac w (val_of h1) (val_of h2) sa sb, .v hz⟩
theorem run_binI {R : Type} {r : R} {op : BinOp} {k : IntKind} {a b : Int} {t : TypeId} {K : Value → Option R} (h : binI op k a b K = some r) :
  ∃ z, K z = some r ∧ Sc z ∧ ∀ w, (binOp op t (.int k a) (.int k b)).run P w = .ok z w := by
 cases op <;> simp only [binI, tst] at h <;> try (simp at h; done)
 all_goals first
  | exact ⟨_, h, trivial, fun w => by simp [binOp, Op.intArith, Op.intCmp, Op.intBits, andI, orI, xorI]⟩
  | (cases hb : decide (b ≠ 0) with
     | false => simp [hb] at h
     | true =>
     rw [hb] at h
     have : b ≠ 0 := by simpa using hb
     exact ⟨_, h, trivial, fun w => by simp [binOp, Op.intDiv, this]⟩)
theorem run_shl {R : Type} {r : R} {op : BinOp} {k k' : IntKind} {a b : Int} {t : TypeId} {K : Value → Option R} (hs : isShl op = true) (h : tst (decide (0 ≤ b)) (K (.int k (shlI k a b))) = some r) :
  ∃ z, K z = some r ∧ Sc z ∧ ∀ w, (binOp op t (.int k a) (.int k' b)).run P w = .ok z w := by
 cases op <;> simp only [isShl, Bool.false_eq_true] at hs
 simp only [tst] at h
 cases hb : decide (0 ≤ b) with
 | false => simp [hb] at h
 | true =>
  rw [hb] at h
  have : ¬ b < 0 := by have := of_decide_eq_true hb; omega
  exact ⟨_, h, trivial, fun w => by simp [binOp, Op.shift, this, shlI]⟩
theorem run_binS {R : Type} {r : R} {op : BinOp} {a b : ByteArray} {t : TypeId} {K : Value → Option R} (h : binS op a b K = some r) :
  ∃ z, K z = some r ∧ Sc z ∧ ∀ w, (binOp op t (.string a) (.string b)).run P w = .ok z w := by
 cases op <;> simp only [binS, tst] at h <;> try (simp at h; done)
 all_goals first
  | exact ⟨_, h, trivial, fun w => by simp [binOp, Op.stringOp, bytesEq, bytesLess]⟩
  | (cases hb : decide (a.size + b.size ≤ maxLen) with
     | false => simp [hb] at h
     | true =>
     rw [hb] at h
     have : a.size + b.size ≤ maxLen := by simpa using hb
     refine ⟨_, h, trivial, fun w => ?_⟩
     have h2 : ¬ (((a.size + b.size : Nat) : Int) > IntKind.i64.max) := by
      simp [maxLen] at this
      simp [IntKind.max, IntKind.bits, IntKind.signed]
      omega
     simp only [binOp, Op.stringOp]
     rw [if_neg h2]
     rfl)
theorem bin_ok {R : Type} {r : R} {o : Oper} {st : St} {op : BinOp} {t t' : TypeId} {x y : Opd} {x' y' : Operand} {a b : Value} {K : Value → Option R} (hx : chkOpd sg x x' = true) (hy : chkOpd sg y y' = true)
  (ho : o.op = .binOp op t x' y' t') (ea : ev st.t x = .v a) (eb : ev st.t y = .v b) (h : binV op a b K = some r) :
  ∃ z, K z = some r ∧ OpOk P sg keep N args w0 c0 Z o st (.v z) st.m := by
 have key : ScS a → ∀ z, Sc z → (∀ w, (binOp op t a b).run P w = .ok z w) → OpOk P sg keep N args w0 c0 Z o st (.v z) st.m := by
  intro ss z hz h
  refine two_ok hx hy ea eb hz fun ac w e1 e2 sa sb => ?_
  simp [execOp, ho, e1, e2, run_eqGuard_sc ss, h]
 cases a <;> cases b <;> simp only [binV] at h <;> try (simp at h; done)
 ·cases hs : isShl op with
  | true =>
   rw [hs] at h
   obtain ⟨z, h1, h2, h3⟩ := run_shl (P := P) (t := t) hs h
   exact ⟨z, h1, key trivial z h2 h3⟩
  | false =>
   rw [hs] at h
   simp only [cond_false] at h
   unfold sameKind at h
   split at h
   ·rename_i e
    subst e
    obtain ⟨z, h1, h2, h3⟩ := run_binI (P := P) (t := t) h
    exact ⟨z, h1, key trivial z h2 h3⟩
   ·simp at h
 ·obtain ⟨z, h1, h2, h3⟩ := run_binS (P := P) (t := t) h
  exact ⟨z, h1, key trivial z h2 h3⟩
theorem beq_ok {o : Oper} {st : St} {op : BinOp} {t t' : TypeId} {x y : Opd} {x' y' : Operand} {a b neg : Bool} (hx : chkOpd sg x x' = true) (hy : chkOpd sg y y' = true)
  (hu : P.underlying t = some .bool) (hop : op = if neg then .neq else .eql)
  (ho : o.op = .binOp op t x' y' t') (ea : ev st.t x = .v (.bool a)) (eb : ev st.t y = .v (.bool b)) :
  OpOk P sg keep N args w0 c0 Z o st (.v (.bool (if neg then a != b else a == b))) st.m := by
 refine two_ok hx hy ea eb trivial fun ac w e1 e2 sa sb => ?_
 have h1 := run_equalIn_bool' (P := P) (w := w) 9999 t a b hu
 cases neg
 ·simp only [Bool.false_eq_true, if_false] at hop
  subst hop
  simp [execOp, ho, e1, e2, run_eqGuard_sc (show ScS (.bool a) from trivial), binOp, Op.equal, Op.maxDepth, h1]
 ·simp only [if_true] at hop
  subst hop
  simp [execOp, ho, e1, e2, run_eqGuard_sc (show ScS (.bool a) from trivial), binOp, Op.equal, Op.maxDepth, h1, bne]
end
end Go.Am
/- AM: more operations that leave the world alone. Nothing is assumed. -/
namespace Go.Am
section
variable {P : Program} {sg : Sigs} {T : Table} {keep : List Nat} {N : Nat} {args : Nat → Value} {w0 : World} {c0 : List Nat} {Z : Nat → Prop}
theorem run_sizeOf' {t : TypeId} {i : TypeInfo} (h : P.info? t = some i) (w : World) : (sizeOf t).run P w = .ok i.size w := by
 simp [sizeOf, typeInfo, h]
theorem un_ok {R : Type} {r : R} {o : Oper} {st : St} {op : UnOp} {t : TypeId} {x : Opd} {x' : Operand} {a : Value} {K : Value → Option R} (hx : chkOpd sg x x' = true)
  (ho : o.op = .unOp op t x') (ea : ev st.t x = .v a) (h : unV op a K = some r) : ∃ z, K z = some r ∧ OpOk P sg keep N args w0 c0 Z o st (.v z) st.m := by
 unfold unV at h
 split at h
 ·rename_i k n
  exact ⟨_, h, two_ok hx hx ea ea trivial fun ac w e1 _ _ _ => by simp [execOp, ho, e1, Op.unary, Op.intArith]⟩
 ·rename_i b
  exact ⟨_, h, two_ok hx hx ea ea trivial fun ac w e1 _ _ _ => by simp [execOp, ho, e1, Op.unary]⟩
 ·simp at h
theorem pick_ok {o : Oper} {st : St} {c x y : Opd} {c' x' y' : Operand} {b : Bool} (hc : chkOpd sg c c' = true) (hx : chkOpd sg x x' = true) (hy : chkOpd sg y y' = true)
  (ho : o.op = .pick c' x' y') (ec : ev st.t c = .v (.bool b)) : OpOk P sg keep N args w0 c0 Z o st (if b then ev st.t x else ev st.t y) st.m :=
 pure_ok fun hs cc a w hi => by
  have h1 := chkOpd_ok hc hi
  rw [ec] at h1
  have h2 := chkOpd_ok hx hi
  have h3 := chkOpd_ok hy hi
  refine ⟨if b then a.eval x' else a.eval y', by simp [execOp, ho, val_of h1, asBool], ?_⟩
  cases b <;> simpa
theorem ARelL.get {X : Nat → Prop} {w : World} {hs : List Hd} {xs : List AV} {vs : List Value} (h : ARelL X w Z hs xs vs) {i : Nat} {x : AV} (hi : xs[i]? = some x) :
  ∃ v, vs[i]? = some v ∧ ARel X w Z hs x v := by
 induction xs generalizing vs i with
 | nil => simp at hi
 | cons y ys ih => cases h with
  | cons h h' => cases i with
   | zero => simp at hi; subst hi; exact ⟨_, rfl, h⟩
   | succ i => simpa using ih h' (by simpa using hi)
theorem ARelL.length {X : Nat → Prop} {w : World} {hs : List Hd} {xs : List AV} {vs : List Value} (h : ARelL X w Z hs xs vs) : vs.length = xs.length := by
 induction xs generalizing vs with
 | nil => cases h; rfl
 | cons y ys ih => cases h with | cons h h' => simp [ih h']
theorem ARelL.drop {X : Nat → Prop} {w : World} {hs : List Hd} {xs : List AV} {vs : List Value} (h : ARelL X w Z hs xs vs) (k : Nat) : ARelL X w Z hs (xs.drop k) (vs.drop k) := by
 induction k generalizing xs vs with
 | zero => simpa using h
 | succ k ih => cases h with
  | nil => simpa using ARelL.nil
  | cons h h' => simpa using ih h'
theorem ARelL.take {X : Nat → Prop} {w : World} {hs : List Hd} {xs : List AV} {vs : List Value} (h : ARelL X w Z hs xs vs) (k : Nat) : ARelL X w Z hs (xs.take k) (vs.take k) := by
 induction k generalizing xs vs with
 | zero => simpa using ARelL.nil
 | succ k ih => cases h with
  | nil => simpa using ARelL.nil
  | cons h h' => simpa using ARelL.cons h (ih h')
theorem ext_ok {o : Oper} {st : St} {x : Opd} {x' : Operand} {i : Nat} {xs : List AV} {y : AV} (hx : chkOpd sg x x' = true)
  (ho : o.op = .extract x' i) (ea : ev st.t x = .t xs) (hi : xs[i]? = some y) : OpOk P sg keep N args w0 c0 Z o st y st.m :=
 pure_ok fun hs cc a w hin => by
  have h1 := chkOpd_ok hx hin
  rw [ea] at h1
  generalize hv : a.eval x' = u at h1
  cases h1 with
  | @t _ vs h =>
   obtain ⟨v, h2, h3⟩ := h.get hi
   have h4 : vs[i]? = some v := by simpa using h2
   exact ⟨v, by simp [execOp, ho, hv, Instr.extract, h4], h3⟩
theorem fn_ok {o : Oper} {st : St} {f : Nat} {caps : List Opd} {first cs : Array Operand} (hc : chkX sg f = true)
  (hx : ∀ (hs : List Hd) (c : List Nat) (a : Act) (w : World), SInv sg.X keep N args w0 c0 Z hs c st a w → ARelL sg.X w Z hs (evs st.t caps) (cs.map a.eval).toList)
  (hf : first = #[]) (ho : o.op = .makeFunc (.func f) first cs) : OpOk P sg keep N args w0 c0 Z o st (.f f (evs st.t caps)) st.m :=
 pure_ok fun hs cc a w hin => ⟨_, by simp [execOp, ho, hf, Instr.makeFunc], .f (show sg f = none by simpa [chkX] using hc) (hx hs cc a w hin)⟩
theorem len_ok {o : Oper} {st : St} {x : Opd} {x' : Operand} {n : Nat} {str : Bool} {tys : Array TypeId} {t : TypeId} (hx : chkOpd sg x x' = true) (ht : tys[0]? = some t)
  (ho : o.op = .call { callee := .builtin .len, args := #[x'], argTypes := tys })
  (hu : (str = true ∧ P.underlying t = some .string) ∨ (str = false ∧ ∃ e, P.underlying t = some (.slice e)))
  (hn : lenAV str st.m (ev st.t x) = some n) : OpOk P sg keep N args w0 c0 Z o st (.v (.int .i64 n)) st.m :=
 pure_ok fun hs cc a w hin => by
  have h1 := chkOpd_ok hx hin
  refine ⟨.int .i64 n, ?_, .v trivial⟩
  generalize hu' : a.eval x' = u at h1
  generalize ev st.t x = av at h1 hn
  rcases hu with ⟨rfl, hu⟩ | ⟨rfl, e, hu⟩
  ·unfold lenAV at hn
   split at hn
   ·simp at hn
    subst hn
    cases h1 with
    | v _ => simp [execOp, ho, resolve, invoke, builtin, Builtin.len_, ht, hu', run_underlying hu, goInt]
   all_goals simp_all
  ·have key : ∃ base cap, u = .slice base n cap := by
    unfold lenAV at hn
    split at hn
    ·simp_all
    ·cases h1 with
     | fz h => cases h with
      | z => simp at hn; subst hn; exact ⟨_, _, rfl⟩
      | s => simp at hn; subst hn; exact ⟨_, _, rfl⟩
    ·cases h1 with | o => simp at hn; subst hn; exact ⟨_, _, rfl⟩
    ·cases h1 with
     | r hh =>
      split at hn
      ·rename_i nd hnd
       obtain ⟨hd, c1, cn, c2, e1, e2, e3, _, e5, _⟩ := hin.mem.at hnd
       rw [e1] at hh
       cases hh
       simp at hn
       subst hn
       rw [e3.len]
       exact ⟨_, _, rfl⟩
      ·simp at hn
    ·simp at hn
   obtain ⟨base, cap, e1⟩ := key
   subst e1
   simp [execOp, ho, resolve, invoke, builtin, Builtin.len_, ht, hu', run_underlying hu, goInt]
theorem mx_ok {o : Oper} {st : St} {x y : Opd} {x' y' : Operand} {k : IntKind} {a b : Int} {tys : Array TypeId} (hx : chkOpd sg x x' = true) (hy : chkOpd sg y y' = true)
  (ho : o.op = .call { callee := .builtin .max, args := #[x', y'], argTypes := tys }) (ea : ev st.t x = .v (.int k a)) (eb : ev st.t y = .v (.int k b)) :
  OpOk P sg keep N args w0 c0 Z o st (.v (.int k (bif decide (b > a) then b else a))) st.m :=
 two_ok hx hy ea eb trivial fun ac w e1 e2 _ _ => by
  simp [execOp, ho, resolve, invoke, builtin, Builtin.max_, e1, e2, Builtin.max2]
theorem conv_int_ok {o : Oper} {st : St} {x : Opd} {x' : Operand} {k k' : IntKind} {n : Int} {src dst : TypeId} {d : TypeDesc} (hx : chkOpd sg x x' = true)
  (hs : P.underlying src = some d) (hd : P.underlying dst = some (.int k)) (ho : o.op = .convert src dst x') (ea : ev st.t x = .v (.int k' n)) :
  OpOk P sg keep N args w0 c0 Z o st (.v (.int k (k.wrap n))) st.m :=
 two_ok hx hx ea ea trivial fun ac w e1 _ _ _ => by
  simp [execOp, ho, e1, convert, run_underlying hs, run_underlying hd, Conv.intToInt]
theorem conv_str_ok {o : Oper} {st : St} {x : Opd} {x' : Operand} {s : ByteArray} {src dst : TypeId} (hx : chkOpd sg x x' = true)
  (hs : P.underlying src = some .string) (hd : P.underlying dst = some .string) (ho : o.op = .convert src dst x') (ea : ev st.t x = .v (.string s)) :
  OpOk P sg keep N args w0 c0 Z o st (.v (.string s)) st.m :=
 two_ok hx hx ea ea trivial fun ac w e1 _ _ _ => by
  simp [execOp, ho, e1, convert, run_underlying hs, run_underlying hd]
theorem conv_intStr_ok {o : Oper} {st : St} {x : Opd} {x' : Operand} {k k' : IntKind} {n : Int} {src dst : TypeId} (hx : chkOpd sg x x' = true)
  (hs : P.underlying src = some (.int k')) (hd : P.underlying dst = some .string) (ho : o.op = .convert src dst x') (ea : ev st.t x = .v (.int k n)) :
  OpOk P sg keep N args w0 c0 Z o st (.v (.string (Utf8.encode n))) st.m :=
 two_ok hx hx ea ea trivial fun ac w e1 _ _ _ => by
  simp [execOp, ho, e1, convert, run_underlying hs, run_underlying hd, Conv.intToString]
theorem addr_add (b off n : Nat) : (⟨b, off, none⟩ : Addr).add n = ⟨b, off + n, none⟩ := by
 unfold Addr.add
 split
 ·rename_i h; subst h; rfl
 ·rfl
theorem Holds.drop {w : World} {b off : Nat} {vs : List Value} (h : Holds w b off vs) (k : Nat) : Holds w b (off + k) (vs.drop k) := by
 obtain ⟨cs, e, f, h1, h2⟩ := h
 refine ⟨cs, e, f, h1, fun j v hj => ?_⟩
 rw [List.getElem?_drop] at hj
 have := h2 _ _ hj
 rwa [show off + k + j = off + (k + j) by omega]
theorem fad_ok {o : Oper} {st : St} {x : Opd} {x' : Operand} {s : TypeId} {f off : Nat} {fs : Array Field} {fd : Field} {ti : TypeInfo} {av : AV} (hx : chkOpd sg x x' = true)
  (hu : P.underlying s = some (.struct fs)) (hf : fs[f]? = some fd) (hi : P.info? fd.type = some ti) (hz : ti.size ≠ 0) (hoff : fd.offset = off)
  (ho : o.op = .fieldAddr s x' f)
  (hav : (∃ id i c, ev st.t x = .a id i c ∧ av = .a id i (c + off)) ∨ (∃ row c, ev st.t x = .fa row c ∧ av = .fa row (c + off))) :
  OpOk P sg keep N args w0 c0 Z o st av st.m :=
 pure_ok fun hs cc a w hin => by
  have h1 := chkOpd_ok hx hin
  generalize hv : a.eval x' = u at h1
  have run : ∀ b o2, u = .pointer (some ⟨b, o2, none⟩) → (execOp a.eval o).run P w = .ok (.value (.pointer (some ⟨b, o2 + off, none⟩))) w := by
   intro b o2 e
   subst e
   simp [execOp, ho, hv, Instr.fieldAt, run_underlying hu, hf, Instr.sureAddr, fieldPlace, run_sizeOf' hi, hz, hoff, addr_add]
  rcases hav with ⟨id, i, c, e, rfl⟩ | ⟨row, c, e, rfl⟩
  ·rw [e] at h1
   cases h1 with
   | @a _ _ _ b off' h hh hb hil =>
    refine ⟨_, run _ _ rfl, ?_⟩
    have := ARel.a (X := sg.X) (w := w) (Z := Z) (c := c + off) hh hb hil
    rwa [← Nat.add_assoc] at this
  ·rw [e] at h1
   cases h1 with
   | @fa _ _ b off' vs hzb hh h =>
    refine ⟨_, run _ _ rfl, .fa hzb (hh.drop off) ?_⟩
    have := h.drop off
    rwa [List.drop_drop] at this
end
end Go.Am
/- AM: fields, elements, cuts. Nothing is assumed. -/
namespace Go.Am
section
variable {P : Program} {sg : Sigs} {T : Table} {keep : List Nat} {N : Nat} {args : Nat → Value} {w0 : World} {c0 : List Nat} {Z : Nat → Prop}
def aggB (P : Program) (t : TypeId) : Option Bool := match P.underlying t with
 | some (.struct _) => some true
 | some (.array _ _) => some true
 | some _ => some false
 | none => none
theorem run_isAgg {t : TypeId} {b : Bool} (h : aggB P t = some b) (w : World) : (isAgg t).run P w = .ok b w := by
 unfold aggB at h
 split at h <;> simp at h <;> subst h
 ·rename_i fs hu; simp [isAgg, run_underlying hu]
 ·rename_i n e hu; simp [isAgg, run_underlying hu]
 ·rename_i d h1 h2 hu
  simp only [isAgg, Sem.run_bind, run_underlying hu, Result.andThen_ok]
  simp
theorem fld_ok {o : Oper} {st : St} {x : Opd} {x' : Operand} {t : TypeId} {f off n : Nat} {agg : Bool} {fs : Array Field} {fd : Field} {ti : TypeInfo} {xs : List AV} {y : AV} (hx : chkOpd sg x x' = true)
  (hu : P.underlying t = some (.struct fs)) (hf : fs[f]? = some fd) (hi : P.info? fd.type = some ti) (hz : ti.size = n) (hoff : fd.offset = off) (hag : aggB P fd.type = some agg)
  (ho : o.op = .field t x' f) (ex : ev st.t x = .g xs) (hle : off + n ≤ xs.length) (hy : mkAgg agg ((xs.drop off).take n) = some y) :
  OpOk P sg keep N args w0 c0 Z o st y st.m :=
 pure_ok fun hs cc a w hin => by
  have h1 := chkOpd_ok hx hin
  rw [ex] at h1
  generalize hv : a.eval x' = u at h1
  cases h1 with
  | @g _ vs h =>
   have hl := h.length
   cases agg with
   | true =>
    simp only [mkAgg, Option.some.injEq] at hy
    subst hy
    refine ⟨.agg (vs.extract off (off + n)), by simp [execOp, ho, hv, Instr.field, run_underlying hu, hf, asAgg, part, run_isAgg hag, run_sizeOf' hi, hz, hoff], .g ?_⟩
    have := (h.drop off).take n
    have e : (vs.extract off (off + n)).toList = (vs.toList.drop off).take n := by
     simp [List.extract_eq_take_drop]
    rwa [e]
   | false =>
    have hd := (h.drop off).take n
    generalize hq : (xs.drop off).take n = q at *
    match q, hy with
    | [z], hy =>
     simp only [mkAgg, Option.some.injEq] at hy
     subst hy
     have hn : 0 < n := by
      rcases Nat.eq_zero_or_pos n with rfl | h
      ·simp at hq
      ·exact h
     have hg : xs[off]? = some z := by
      have : ((xs.drop off).take n)[0]? = some z := by rw [hq]; rfl
      rw [List.getElem?_take] at this
      simpa [hn, List.getElem?_drop] using this
     obtain ⟨v, e1, e2⟩ := h.get hg
     have e3 : vs[off]? = some v := by simpa using e1
     exact ⟨v, by simp [execOp, ho, hv, Instr.field, run_underlying hu, hf, asAgg, part, run_isAgg hag, hoff, e3], e2⟩
    | [], hy => simp [mkAgg] at hy
    | _ :: _ :: _, hy => simp [mkAgg] at hy
theorem intOf_ok {x : AV} {i : Int} (h : intOf x = some i) : x = .v (.int .i64 i) := by
 unfold intOf at h
 split at h
 ·simp at h; subst h; rfl
 ·simp at h
theorem anyI_ok {x : AV} {i : Int} (h : anyI x = some i) : ∃ k, x = .v (.int k i) := by
 unfold anyI at h
 split at h
 ·simp at h; subst h; exact ⟨_, rfl⟩
 ·simp at h
theorem idx_ok {o : Oper} {st : St} {x y : Opd} {x' y' : Operand} {t : TypeId} {i : Int} {s : ByteArray} {b : UInt8} (hx : chkOpd sg x x' = true) (hy : chkOpd sg y y' = true)
  (hu : P.underlying t = some .string) (ho : o.op = .index t x' y') (ei : anyI (ev st.t y) = some i) (ex : ev st.t x = .v (.string s)) (h0 : 0 ≤ i) (hb : s.toList[i.toNat]? = some b) :
  OpOk P sg keep N args w0 c0 Z o st (.v (.int .u8 b.toNat)) st.m :=
 have ⟨k, hk⟩ := anyI_ok ei
 two_ok hx hy ex hk trivial fun ac w e1 e2 _ _ => by
  have h1 : s[i.toNat]? = some b := by
   rw [ByteArray.toList_eq] at hb
   obtain ⟨hlt, he⟩ := List.getElem?_eq_some_iff.1 hb
   have hlt' : i.toNat < s.size := by simpa using hlt
   rw [getElem?_pos s i.toNat hlt']
   simp at he
   exact congrArg some he
  simp [execOp, ho, e1, e2, Instr.index, asIntOf, run_underlying hu, h0, h1]
theorem iad_ok {o : Oper} {st : St} {x y : Opd} {x' y' : Operand} {t e : TypeId} {i : Int} {ti : TypeInfo} {av : AV} (hx : chkOpd sg x x' = true) (hy : chkOpd sg y y' = true)
  (hu : P.underlying t = some (.slice e)) (hi : P.info? e = some ti) (ho : o.op = .indexAddr t x' y') (ei : intOf (ev st.t y) = some i) (h0 : 0 ≤ i)
  (hav : (∃ id n, ev st.t x = .r id ∧ getNode st.m id = some n ∧ n.wd = ti.size ∧ i.toNat < n.rows.length ∧ av = .a id i.toNat 0) ∨
   (∃ rows row, ev st.t x = .fz ti.size rows ∧ rows[i.toNat]? = some row ∧ av = .fa row 0)) : OpOk P sg keep N args w0 c0 Z o st av st.m :=
 pure_ok fun hs cc a w hin => by
  have h1 := chkOpd_ok hx hin
  have h2 := chkOpd_ok hy hin
  rw [intOf_ok ei] at h2
  have h2 := val_of h2
  have run : ∀ b o2 len cap, a.eval x' = .slice (some ⟨b, o2, none⟩) len cap → i.toNat < len → (execOp a.eval o).run P w = .ok (.value (.pointer (some ⟨b, o2 + i.toNat * ti.size, none⟩))) w := by
   intro b o2 len cap e1 hlt
   have h3 : i < (len : Int) := by omega
   have h4 : 0 ≤ i ∧ i < (len : Int) := ⟨h0, h3⟩
   simp only [execOp, ho, h2, e1, Instr.indexAt, asIntOf, Sem.run_bind, Sem.run_pure, Result.andThen_ok, run_underlying hu]
   rw [if_pos h4]
   simp [run_sizeOf' hi, addr_add]
  rcases hav with ⟨id, n, ex, hn, hwd, hlt, rfl⟩ | ⟨rows, row, ex, hr, rfl⟩
  ·rw [ex] at h1
   obtain ⟨hd, c1, cn, c2, e1, e2, e3, _, e5, _⟩ := hin.mem.at hn
   rcases e3.mem with ⟨z1, _⟩ | ⟨b, off, vs, c', f1, f2, f3, f4, f5, _⟩
   ·simp [z1] at hlt
   ·generalize hv : a.eval x' = u at h1
    cases h1 with
    | r hh =>
     rw [e1] at hh
     cases hh
     rw [f1] at hv
     refine ⟨_, run b off _ _ hv (by rw [e3.len]; exact hlt), ?_⟩
     have := ARel.a (X := sg.X) (w := w) (Z := Z) (c := 0) e1 f1 (i := i.toNat) (by rw [e3.len]; exact hlt)
     rwa [e3.wd, hwd, Nat.add_zero] at this
  ·rw [ex] at h1
   generalize hv : a.eval x' = u at h1
   cases h1 with
   | fz h =>
    have hlt : i.toNat < rows.length := (List.getElem?_eq_some_iff.1 hr).1
    cases h with
    | z => simp at hlt
    | @s _ b off cap _ vs hw hc hz hh hl =>
     refine ⟨_, run b off _ _ hv hlt, .fa (vs := (vs.drop (i.toNat * ti.size)).take row.length) hz ?_ ?_⟩
     ·obtain ⟨cs, el, fz, k1, k2⟩ := hh.drop (i.toNat * ti.size)
      refine ⟨cs, el, fz, k1, fun k v hk => k2 k v ?_⟩
      rw [List.getElem?_take] at hk
      split at hk
      ·exact hk
      ·simp at hk
     ·have := (hl.drop (i.toNat * ti.size)).take row.length
      have e : (rows.flatten.drop (i.toNat * ti.size)).take row.length = row := by
       have key : ∀ (rows : Rows) (k : Nat), (∀ r ∈ rows, r.length = ti.size) → ∀ row, rows[k]? = some row → (rows.flatten.drop (k * ti.size)).take row.length = row := by
        intro rows
        induction rows with
        | nil => intro k _ row h; simp at h
        | cons r rs ih =>
         intro k hw row h
         cases k with
         | zero => simp at h; subst h; simp
         | succ k =>
          have hr := hw r (by simp)
          have : (k + 1) * ti.size = r.length + k * ti.size := by rw [hr, Nat.add_mul]; omega
          rw [this, List.flatten_cons, ← List.drop_drop, List.drop_left]
          exact ih k (fun r h => hw r (by simp [h])) row (by simpa using h)
       exact key rows _ hw row hr
      simpa [e] using this
end
end Go.Am
/- AM: reading. Nothing is assumed. -/
namespace Go.Am
section
variable {P : Program} {X : Nat → Prop} {w : World} {Z : Nat → Prop} {hs : List Hd} {R : Type} {r : R}
theorem tst_some {b : Bool} {K : Option R} (h : tst b K = some r) : b = true ∧ K = some r := by
 cases b with
 | false => simp [tst] at h
 | true => exact ⟨rfl, h⟩
theorem look_some {rows : Rows} {i : Nat} {K : Row → Option R} (h : look rows i K = some r) : ∃ row, rows[i]? = some row ∧ K row = some r := by
 unfold look at h
 split at h
 ·rename_i row e; exact ⟨row, e, h⟩
 ·simp at h
theorem cell_some {row : Row} {c : Nat} {K : D → Option R} (h : cell row c K = some r) : ∃ d, row[c]? = some d ∧ K d = some r := by
 unfold cell at h
 split at h
 ·rename_i row e; exact ⟨row, e, h⟩
 ·simp at h
theorem dI_some {k : IntKind} {d : D} {K : Int → Option R} (h : dI k d K = some r) : ∃ n, d = .v (.int k n) ∧ K n = some r := by
 unfold dI at h
 split at h
 ·split at h
  ·rename_i e; subst e; exact ⟨_, rfl, h⟩
  ·simp at h
 ·simp at h
theorem dB_some {d : D} {K : Bool → Option R} (h : dB d K = some r) : ∃ n, d = .v (.bool n) ∧ K n = some r := by
 unfold dB at h
 split at h
 ·exact ⟨_, rfl, h⟩
 ·simp at h
theorem dS_some {d : D} {K : ByteArray → Option R} (h : dS d K = some r) : ∃ n, d = .v (.string n) ∧ K n = some r := by
 unfold dS at h
 split at h
 ·exact ⟨_, rfl, h⟩
 ·simp at h
theorem dL_some {wd : Nat} {d : D} {K : Rows → Option R} (h : dL wd d K = some r) : ∃ rows, d = .s wd rows ∧ K rows = some r := by
 unfold dL at h
 split at h
 ·split at h
  ·rename_i e; subst e; exact ⟨_, rfl, h⟩
  ·simp at h
 ·simp at h
theorem dH_some {d : D} {K : Option Addr → Nat → Nat → Option R} (h : dH d K = some r) : ∃ b n c, d = .v (.slice b n c) ∧ K b n c = some r := by
 unfold dH at h
 split at h
 ·exact ⟨_, _, _, rfl, h⟩
 ·simp at h
theorem ldF_some {k : Kd} {d : D} {K : AV → Option R} (h : ldF k d K = some r) : ∃ x, K x = some r ∧ ∀ (w : World) (Z : Nat → Prop) (hs : List Hd) (v : Value), FroD w Z d v → ARel X w Z hs x v := by
 cases k with
 | i k => obtain ⟨n, rfl, h'⟩ := dI_some h; exact ⟨_, h', fun _ _ _ v hv => by cases hv; exact .v trivial⟩
 | b => obtain ⟨n, rfl, h'⟩ := dB_some h; exact ⟨_, h', fun _ _ _ v hv => by cases hv; exact .v trivial⟩
 | s => obtain ⟨n, rfl, h'⟩ := dS_some h; exact ⟨_, h', fun _ _ _ v hv => by cases hv; exact .v trivial⟩
 | sl wd => obtain ⟨n, rfl, h'⟩ := dL_some h; exact ⟨_, h', fun _ _ _ v hv => .fz hv⟩
 | h => obtain ⟨b, n, c, rfl, h'⟩ := dH_some h; exact ⟨_, h', fun _ _ _ v hv => by cases hv; exact .v trivial⟩
theorem ldFs_some {ks : List Kd} : ∀ {row : Row} {c : Nat} {K : List AV → Option R}, ldFs ks row c K = some r →
  ∃ xs, K xs = some r ∧ xs.length = ks.length ∧ ∀ (w : World) (Z : Nat → Prop) (hs : List Hd) (vs : List Value), FroL w Z (row.drop c) vs → ks.length ≤ vs.length ∧ ARelL X w Z hs xs (vs.take ks.length) := by
 induction ks with
 | nil => intro row c K h; exact ⟨[], h, rfl, fun _ _ _ vs _ => ⟨by simp, by simpa using ARelL.nil⟩⟩
 | cons k ks ih =>
  intro row c K h
  simp only [ldFs] at h
  obtain ⟨d, hd, h⟩ := cell_some h
  obtain ⟨x, h, hx⟩ := ldF_some (X := X) h
  obtain ⟨xs, h, hl, hxs⟩ := ih h
  refine ⟨x :: xs, h, by simp [hl], fun w Z hs vs hv => ?_⟩
  have hlt : c < row.length := (List.getElem?_eq_some_iff.1 hd).1
  have e : row.drop c = d :: row.drop (c + 1) := by
   rw [List.drop_eq_getElem_cons hlt, (List.getElem?_eq_some_iff.1 hd).2]
  rw [e] at hv
  cases hv with
  | cons h1 h2 =>
   obtain ⟨g1, g2⟩ := hxs _ _ hs _ h2
   exact ⟨by simp; omega, by simpa using ARelL.cons (hx _ _ _ _ h1) g2⟩
theorem findO_mem {i c : Nat} {l : Opens} (h : findO i c l = none) : ∀ e ∈ l, e.1 ≠ (i, c) := by
 induction l with
 | nil => simp
 | cons e l ih =>
  obtain ⟨⟨i', c'⟩, x⟩ := e
  simp only [findO] at h
  split at h
  ·simp at h
  ·rename_i hne
   intro e he
   rcases List.mem_cons.1 he with rfl | he
   ·intro h'; simp at h'; exact hne ⟨h'.2.symm, h'.1.symm⟩
   ·exact ih h e he
theorem own_node {wd : Nat} {rows : Rows} {u : Value} {ck : List Nat} (h : OwnD w (.s wd rows) u ck) :
  ∃ hd : Hd, u = .slice hd.base hd.len hd.cap ∧ hd.wd = wd ∧ ∀ hs, NodeRel w Z hs hd ⟨wd, rows, []⟩ ck := by
 cases h with
 | @z _ base => exact ⟨⟨base, wd, 0, 0⟩, rfl, rfl, fun hs => ⟨rfl, rfl, by simp, by simp, by simp, by simp, .inl ⟨rfl, rfl, rfl⟩⟩⟩
 | @s _ b off cap _ vs c hw hc hh hf hl =>
  refine ⟨⟨some ⟨b, off, none⟩, wd, rows.length, cap⟩, rfl, rfl, fun hs => ⟨rfl, rfl, hw, by simp, by simp, by simp, .inr ⟨b, off, vs, c, rfl, hc, hh, hf, ?_, rfl⟩⟩⟩
  show CRelL w Z hs (viewRows [] 0 rows) vs c
  rw [viewRows_nil]
  exact .of_own hl
theorem ldO_some {k : Kd} {m : Mem} {id i c : Nat} {K : AV → Mem → Option R} (h : ldO k m id i c K = some r) :
  ∃ x m', K x m' = some r ∧ ∀ (w : World) (hs : List Hd) (cc : List Nat) (hd : Hd) (b off : Nat), MemL w Z hs hs m cc → hs[id]? = some hd → hd.base = some ⟨b, off, none⟩ →
   ∃ hs' c' v, Ext hs hs' ∧ MemL w Z hs' hs' m' c' ∧ (∀ b, c'.count b = cc.count b) ∧ ARel X w Z hs' x v ∧ Holds w b (off + i * hd.wd + c) [v] := by
 unfold ldO at h
 split at h
 ·simp at h
 ·rename_i n hn
  have place : ∀ (w : World) (hs : List Hd) (hd : Hd) (cn : List Nat) (b off : Nat), NodeRel w Z hs hd n cn → hd.base = some ⟨b, off, none⟩ → ∀ y, n.view[i * n.wd + c]? = some y → n.rows ≠ [] →
    ∃ vs u c1 ck c2, Holds w b off vs ∧ Free w b off (hd.cap * n.wd) ∧ n.rows.length ≤ hd.cap ∧ vs[i * n.wd + c]? = some u ∧ CRel w Z hs y u ck ∧ cn = b :: (c1 ++ ck ++ c2) ∧
     (∀ y' u' ck', CRel w Z hs y' u' ck' → CRelL w Z hs (n.view.set (i * n.wd + c) y') (vs.set (i * n.wd + c) u') (c1 ++ ck' ++ c2)) ∧ Holds w b (off + i * hd.wd + c) [u] := by
   intro w hs hd cn b off hr hb y hy hne
   rcases hr.mem with ⟨z1, _⟩ | ⟨b', off', vs, c', f1, f2, f3, f4, f5, rfl⟩
   ·exact absurd z1 hne
   ·rw [hb] at f1
    cases f1
    obtain ⟨u, c1, ck, c2, g1, g2, g3, g4⟩ := f5.at hy
    refine ⟨vs, u, c1, ck, c2, f3, f4, f2, g1, g2, by rw [g3], g4, ?_⟩
    obtain ⟨cs, el, fz, k1, k2⟩ := f3
    refine ⟨cs, el, fz, k1, fun k v hk => ?_⟩
    cases k with
    | zero =>
     simp at hk
     subst hk
     have := k2 _ _ g1
     rw [hr.wd, Nat.add_zero]
     rwa [← Nat.add_assoc] at this
    | succ k => simp at hk
  split at h
  ·rename_i x hx
   refine ⟨x, m, h, fun w hs cc hd b off hm hh hb => ?_⟩
   obtain ⟨hd', c1, cn, c2, e1, e2, e3, e4, _, _⟩ := hm.at hn
   rw [e1] at hh
   cases hh
   have hin : ∃ e ∈ n.opens, e.1 = (i, c) ∧ e.2 = x := by
    clear e3 e4 h hn
    generalize n.opens = l at hx
    induction l with
    | nil => simp [findO] at hx
    | cons e l ih =>
     obtain ⟨⟨i', c'⟩, y⟩ := e
     simp only [findO] at hx
     split at hx
     ·rename_i h1
      simp at hx
      exact ⟨_, List.mem_cons_self, by simp [h1.1, h1.2], hx⟩
     ·obtain ⟨e, he, h2⟩ := ih hx
      exact ⟨e, List.mem_cons_of_mem _ he, h2⟩
   obtain ⟨e, he, he1, he2⟩ := hin
   have hrng := e3.opens e he
   rw [he1] at hrng
   have hrow : n.rows[i]? = some n.rows[i] := List.getElem?_eq_getElem hrng.1
   have hlen : (n.rows[i]).length = n.wd := e3.rows _ (List.getElem_mem hrng.1)
   have hcell : (n.rows[i])[c]? = some (n.rows[i])[c] := List.getElem?_eq_getElem (by rw [hlen]; exact hrng.2)
   have hv := view_get e3.rows hrng.2 hrow hcell
   rw [hx] at hv
   obtain ⟨vs, u, a1, ak, a2, g1, _, _, g2, g3, g4, g5, g6⟩ := place w hs hd cn b off e3 hb _ hv (by intro h; simp [h] at hrng)
   refine ⟨hs, cc, u, Ext.refl _, hm, fun _ => rfl, ?_, g6⟩
   simp only [Option.getD_some] at g3
   rcases e3.kind e he with ⟨id', hk⟩ | ⟨wd, rows, hk⟩
   ·rw [← he2, hk] at g3 ⊢; cases g3 with | r h => exact .r h
   ·rw [← he2, hk] at g3 ⊢; cases g3 with | fz h => exact .fz h
  ·rename_i hx
   obtain ⟨row, hrow, h⟩ := look_some h
   obtain ⟨d, hd0, h⟩ := cell_some h
   have hne : n.rows ≠ [] := by intro e; simp [e] at hrow
   have scal : ∀ x, d = .v x → K (.v x) m = some r → ∃ x m', K x m' = some r ∧ ∀ (w : World) (hs : List Hd) (cc : List Nat) (hd : Hd) (b off : Nat), MemL w Z hs hs m cc → hs[id]? = some hd → hd.base = some ⟨b, off, none⟩ →
     ∃ hs' c' v, Ext hs hs' ∧ MemL w Z hs' hs' m' c' ∧ (∀ b, c'.count b = cc.count b) ∧ ARel X w Z hs' x v ∧ Holds w b (off + i * hd.wd + c) [v] := by
    intro x hdx hK
    subst hdx
    refine ⟨_, _, hK, fun w hs cc hd b off hm hh hb => ?_⟩
    obtain ⟨hd', c1, cn, c2, e1, e2, e3, e4, _, _⟩ := hm.at hn
    rw [e1] at hh
    cases hh
    have hclt : c < n.wd := by rw [← e3.rows row (List.mem_of_getElem? hrow)]; exact (List.getElem?_eq_some_iff.1 hd0).1
    have hv := view_get e3.rows hclt hrow hd0
    rw [hx] at hv
    obtain ⟨vs, u, a1, ak, a2, g1, _, _, g2, g3, g4, g5, g6⟩ := place w hs hd cn b off e3 hb _ hv hne
    refine ⟨hs, cc, u, Ext.refl _, hm, fun _ => rfl, ?_, g6⟩
    cases g3 with | v h => exact .v h
   cases k with
   | i k => obtain ⟨n', e, h'⟩ := dI_some h; exact scal _ e h'
   | b => obtain ⟨n', e, h'⟩ := dB_some h; exact scal _ e h'
   | s => obtain ⟨n', e, h'⟩ := dS_some h; exact scal _ e h'
   | h => obtain ⟨b', n', c', e, h'⟩ := dH_some h; exact scal _ e h'
   | sl wd =>
    obtain ⟨rows, hdx, hK⟩ := dL_some h
    subst hdx
    refine ⟨_, _, hK, fun w hs cc hd b off hm hh hb => ?_⟩
    have hlen := hm.length
    have hclt : c < n.wd := by
     obtain ⟨hd', c1, cn, c2, e1, e2, e3, e4, _, _⟩ := hm.at hn
     rw [← e3.rows row (List.mem_of_getElem? hrow)]; exact (List.getElem?_eq_some_iff.1 hd0).1
    obtain ⟨hd2, u0, hu0, hu2, hw2⟩ : ∃ (hd2 : Hd) (u0 : Value), Holds w b (off + i * hd.wd + c) [u0] ∧ u0 = .slice hd2.base hd2.len hd2.cap ∧ hd2.wd = wd := by
     obtain ⟨hd', c1, cn, c2, e1, e2, e3, e4, _, _⟩ := hm.at hn
     rw [e1] at hh
     cases hh
     have hv := view_get e3.rows hclt hrow hd0
     rw [hx] at hv
     obtain ⟨vs, u, a1, ak, a2, g1, _, _, g2, g3, g4, g5, g6⟩ := place w hs hd cn b off e3 hb _ hv hne
     simp only [Option.getD_none, D.up] at g3
     cases g3 with
     | o ho =>
      obtain ⟨hd2, h1, h2, _⟩ := own_node (Z := Z) ho
      exact ⟨hd2, u, g6, h1, h2⟩
    have hm2 := hm.frame (hs' := hs ++ [hd2]) (w' := w) (Z' := Z) (fun _ h => h) (fun _ _ => rfl) (fun _ _ => rfl) (Ext.append hs _)
    obtain ⟨hd', c1, cn, c2, e1, e2, e3, e4, _, e6⟩ := hm2.at hn
    have hh' := hh
    rw [e1] at hh'
    cases hh'
    have hv := view_get e3.rows hclt hrow hd0
    rw [hx] at hv
    obtain ⟨vs, u, a1, ak, a2, g1, gf, gc, g2, g3, g4, g5, g6⟩ := place w (hs ++ [hd2]) hd cn b off e3 hb _ hv hne
    have hui : u = u0 := by
     obtain ⟨cs, el, fz, k1, k2⟩ := g6
     obtain ⟨cs', el', fz', k3, k4⟩ := hu0
     rw [k1] at k3
     cases k3
     have h1 := k2 0 u rfl
     have h2 := k4 0 u0 rfl
     rw [h1] at h2
     exact Option.some.inj h2
    simp only [Option.getD_none, D.up] at g3
    cases g3 with
    | o ho =>
     obtain ⟨hd3, h1, h2, h3⟩ := own_node (Z := Z) ho
     have hd23 : hd3 = hd2 := by
      rw [hui, hu2] at h1
      have hl2 := (h3 []).len
      obtain ⟨x1, x2, x3, x4⟩ := hd2
      obtain ⟨y1, y2, y3, y4⟩ := hd3
      simp only [Value.slice.injEq] at h1
      simp only at hw2 h2
      simp [h1.1, h1.2.1, h1.2.2, hw2, h2]
     subst hd23
     have hnew : (hs ++ [hd3])[m.length]? = some hd3 := by rw [← hlen]; simp
     have g7 := g5 (.r m.length) u [] (by rw [h1]; exact .r hnew)
     rw [set_same g2, ← view_open e3.rows (List.getElem?_eq_some_iff.1 hrow).1 hclt] at g7
     have node : NodeRel w Z (hs ++ [hd3]) hd ⟨n.wd, n.rows, ((i, c), .r m.length) :: n.opens⟩ (b :: (a1 ++ [] ++ a2)) := by
      refine ⟨e3.wd, e3.len, e3.rows, ?_, ?_, ?_, .inr ⟨b, off, vs, _, hb, gc, g1, gf, g7, rfl⟩⟩
      ·intro e he
       rcases List.mem_cons.1 he with rfl | he
       ·exact ⟨(List.getElem?_eq_some_iff.1 hrow).1, hclt⟩
       ·exact e3.opens e he
      ·refine List.pairwise_cons.2 ⟨fun e he h => ?_, e3.keys⟩
       exact findO_mem hx e he h.symm
      ·intro e he
       rcases List.mem_cons.1 he with rfl | he
       ·exact .inl ⟨_, rfl⟩
       ·exact e3.kind e he
     refine ⟨hs ++ [hd3], _, u, Ext.append hs _, (e6 _ _ node).append (h3 _), fun x => ?_, ?_, g6⟩
     ·rw [e4, g4]
      simp only [List.count_append, List.count_cons, List.append_nil]
      omega
     ·rw [h1]
      exact .r hnew
end
end Go.Am
/- AM: the operation load. Nothing is assumed. -/
namespace Go.Am
section
variable {X : Nat → Prop} {w : World} {Z : Nat → Prop} {R : Type} {r : R}
theorem ldOs_some {ks : List Kd} : ∀ {m : Mem} {id i c : Nat} {K : List AV → Mem → Option R}, ldOs ks m id i c K = some r →
  ∃ xs m', K xs m' = some r ∧ xs.length = ks.length ∧ ∀ (w : World) (hs : List Hd) (cc : List Nat) (hd : Hd) (b off : Nat), MemL w Z hs hs m cc → hs[id]? = some hd → hd.base = some ⟨b, off, none⟩ →
   ∃ hs' c' vs, Ext hs hs' ∧ MemL w Z hs' hs' m' c' ∧ (∀ b, c'.count b = cc.count b) ∧ ARelL X w Z hs' xs vs ∧ vs.length = ks.length ∧
    ∀ k v, vs[k]? = some v → Holds w b (off + i * hd.wd + c + k) [v] := by
 induction ks with
 | nil =>
  intro m id i c K h
  exact ⟨[], m, h, rfl, fun w hs cc hd b off hm _ _ => ⟨hs, cc, [], Ext.refl _, hm, fun _ => rfl, .nil, rfl, by simp⟩⟩
 | cons k ks ih =>
  intro m id i c K h
  simp only [ldOs] at h
  obtain ⟨x, m1, h1, g1⟩ := ldO_some (X := X) (Z := Z) h
  obtain ⟨xs, m2, h2, hl, g2⟩ := ih h1
  refine ⟨x :: xs, m2, h2, by simp [hl], fun w hs cc hd b off hm hh hb => ?_⟩
  obtain ⟨hs1, c1, v, a1, a2, a3, a4, a5⟩ := g1 w hs cc hd b off hm hh hb
  obtain ⟨hs2, c2, vs, b1, b2, b3, b4, b5, b6⟩ := g2 w hs1 c1 hd b off a2 (a1 _ _ hh) hb
  refine ⟨hs2, c2, v :: vs, fun id h hh => b1 _ _ (a1 _ _ hh), b2, fun x => by rw [b3, a3], .cons (a4.frame (fun _ h => h) (fun _ _ => rfl) b1) b4, by simp [b5], fun k u hk => ?_⟩
  cases k with
  | zero => simp at hk; subst hk; simpa using a5
  | succ k =>
   have := b6 k u (by simpa using hk)
   rwa [show off + i * hd.wd + c + (k + 1) = off + i * hd.wd + (c + 1) + k by omega]
theorem Holds.cell {b o : Nat} {v : Value} (h : Holds w b o [v]) : w.cell? ⟨b, o, none⟩ = some v := by
 obtain ⟨cs, e, f, h1, h2⟩ := h
 have := h2 0 v rfl
 simpa [World.cell?, h1] using this
end
section
variable {P : Program} {sg : Sigs} {T : Table} {keep : List Nat} {N : Nat} {args : Nat → Value} {w0 : World} {c0 : List Nat} {Z : Nat → Prop}
theorem run_loadAt {w : World} {t : TypeId} {agg : Bool} {ti : TypeInfo} {b o : Nat} {vs : List Value} (ha : aggB P t = some agg) (hi : P.info? t = some ti) (hl : vs.length = ti.size)
  (h : ∀ k v, vs[k]? = some v → Holds w b (o + k) [v]) {y : Value} (hy : (agg = true ∧ y = .agg vs.toArray) ∨ (agg = false ∧ vs = [y])) :
  (Instr.loadAt t (.pointer (some ⟨b, o, none⟩))).run P w = .ok y w := by
 have hc : ∀ j v, vs[j]? = some v → w.cell? ((⟨b, o, none⟩ : Addr).add j) = some v := fun j v hj => by
  rw [addr_add]; exact (h j v hj).cell
 rcases hy with ⟨rfl, rfl⟩ | ⟨rfl, rfl⟩
 ·have := run_loadCells_list (P := P) (w := w) ⟨b, o, none⟩ vs hc
  simp [Instr.loadAt, Instr.sureAddr, loadVar, run_isAgg ha, run_sizeOf' hi, ← hl, this]
 ·have := hc 0 y rfl
  rw [addr_add, Nat.add_zero] at this
  simp [Instr.loadAt, Instr.sureAddr, loadVar, run_isAgg ha, load, Sem.run, this]
theorem load_ok {R : Type} {r : R} {o : Oper} {st : St} {x : Opd} {x' : Operand} {t : TypeId} {agg : Bool} {ks : List Kd} {ti : TypeInfo} {K : AV → Mem → Option R} (hx : chkOpd sg x x' = true)
  (ha : aggB P t = some agg) (hi : P.info? t = some ti) (hk : ks.length = ti.size) (ho : o.op = .load t x')
  (h : evalOp T st.t st.m (.load agg ks x) K = some r) : ∃ av m', K av m' = some r ∧ OpOk P sg keep N args w0 c0 Z o st av m' := by
 have agg1 : ∀ {xs : List AV} {m : Mem} {K : AV → Mem → Option R}, ret1 K m (mkAgg agg xs) = some r → ∃ av, K av m = some r ∧ ((agg = true ∧ av = .g xs) ∨ (agg = false ∧ xs = [av])) := by
  intro xs m K h
  cases agg with
  | true => exact ⟨_, h, .inl ⟨rfl, rfl⟩⟩
  | false =>
   match xs, h with
   | [z], h => exact ⟨z, h, .inr ⟨rfl, rfl⟩⟩
   | [], h => simp [mkAgg, ret1] at h
   | _ :: _ :: _, h => simp [mkAgg, ret1] at h
 have fin : ∀ {w : World} {hs : List Hd} {xs : List AV} {vs : List Value} {av : AV}, ((agg = true ∧ av = .g xs) ∨ (agg = false ∧ xs = [av])) → ARelL sg.X w Z hs xs vs →
   ∃ y, ((agg = true ∧ y = Value.agg vs.toArray) ∨ (agg = false ∧ vs = [y])) ∧ ARel sg.X w Z hs av y := by
  intro w hs xs vs av hav hv
  rcases hav with ⟨rfl, rfl⟩ | ⟨rfl, rfl⟩
  ·exact ⟨_, .inl ⟨rfl, rfl⟩, .g hv⟩
  ·cases hv with | cons h1 h2 => cases h2; exact ⟨_, .inr ⟨rfl, rfl⟩, h1⟩
 simp only [evalOp] at h
 split at h
 ·rename_i id i c ex
  obtain ⟨xs, m', h1, hl, g⟩ := ldOs_some (X := sg.X) (Z := Z) h
  obtain ⟨av, h2, hav⟩ := agg1 h1
  refine ⟨av, m', h2, fun hs cc a w hin next Q hn => ?_⟩
  have hp := chkOpd_ok hx hin
  rw [ex] at hp
  generalize hv : a.eval x' = u at hp
  cases hp with
  | @a _ _ _ b off hd hh hb hil =>
   obtain ⟨hs', c', vs, b1, b2, b3, b4, b5, b6⟩ := g w hs cc hd b off hin.mem hh hb
   obtain ⟨y, hy, hr⟩ := fin hav b4
   have hrun := run_loadAt (P := P) (w := w) ha hi (by rw [b5, hk]) b6 hy
   unfold Oper.wp
   have : (execOp a.eval o).run P w = .ok (.value y) w := by
    simp only [execOp, ho, hv, Sem.run_bind, hrun, Result.andThen_ok]
    rfl
   rw [this]
   exact hn y w ⟨hs', c', b1, b2, hr, hin.win.less fun x => by rw [b3]; exact Nat.le_refl _⟩
 ·rename_i row c ex
  obtain ⟨xs, h1, hl, g⟩ := ldFs_some (X := sg.X) h
  obtain ⟨av, h2, hav⟩ := agg1 h1
  refine ⟨av, st.m, h2, pure_ok fun hs cc a w hin => ?_⟩
  have hp := chkOpd_ok hx hin
  rw [ex] at hp
  generalize hv : a.eval x' = u at hp
  cases hp with
  | @fa _ _ b off vs hz hh hf =>
   obtain ⟨g1, g2⟩ := g w Z hs vs hf
   obtain ⟨y, hy, hr⟩ := fin hav g2
   refine ⟨y, ?_, hr⟩
   have hrun := run_loadAt (P := P) (w := w) (b := b) (o := off) ha hi (by rw [List.length_take, ← hk]; omega) (fun k v hkv => by
    rw [List.getElem?_take] at hkv
    split at hkv
    ·obtain ⟨cs, el, fz, k1, k2⟩ := hh
     refine ⟨cs, el, fz, k1, fun j u hj => ?_⟩
     cases j with
     | zero => simp at hj; subst hj; exact k2 _ _ hkv
     | succ j => simp at hj
    ·simp at hkv) hy
   simp only [execOp, ho, hv, Sem.run_bind, hrun, Result.andThen_ok]
   rfl
 ·simp at h
end
end Go.Am
/- AM: writing. Nothing is assumed. -/
namespace Go.Am
section
variable {X : Nat → Prop} {w : World} {Z : Nat → Prop} {hs : List Hd}
theorem MemL.at2 {l : List Hd} {m : Mem} {c : List Nat} (r : MemL w Z hs l m c) {id : Nat} {n : Node} (hn : getNode m id = some n) :
  ∃ h c1 cn c2, l[id]? = some h ∧ id < m.length ∧ NodeRel w Z hs h n cn ∧ c = c1 ++ cn ++ c2 ∧
   ∀ w', (∀ b, Z b → w'.heap[b]? = w.heap[b]?) → (∀ b ∈ c1 ++ c2, w'.heap[b]? = w.heap[b]?) → ∀ n' cn', NodeRel w' Z hs h n' cn' → MemL w' Z hs l (m.set id (some n')) (c1 ++ cn' ++ c2) := by
 induction r generalizing id with
 | nil => simp [getNode] at hn
 | @dead h l m c r ih => cases id with
  | zero => simp [getNode] at hn
  | succ id =>
   obtain ⟨h', c1, cn, c2, e1, e2, e3, e4, e6⟩ := ih (id := id) (by simpa [getNode] using hn)
   exact ⟨h', c1, cn, c2, by simpa using e1, by simpa using e2, e3, e4, fun w' hz hc n' cn' h => by simpa using MemL.dead (e6 w' hz hc n' cn' h)⟩
 | @live h l n0 m c0 c' hn0 r ih => cases id with
  | zero =>
   simp [getNode] at hn; subst hn
   exact ⟨h, [], c0, c', rfl, by simp, hn0, by simp, fun w' hz hc n' cn' h' => by
    simpa using MemL.live h' (r.frame (fun _ h => h) hz (fun b hb => hc b (by simpa using hb)) (fun _ _ h => h))⟩
  | succ id =>
   obtain ⟨h', c1, cn, c2, e1, e2, e3, e4, e6⟩ := ih (id := id) (by simpa [getNode] using hn)
   refine ⟨h', c0 ++ c1, cn, c2, by simpa using e1, by simpa using e2, e3, by simp [e4], fun w' hz hc n' cn' h => ?_⟩
   have h1 := hn0.frame (hs' := hs) (fun _ h => h) hz (fun b hb => hc b (by simp [hb])) (fun _ _ h => h)
   have h2 := e6 w' hz (fun b hb => hc b (by
    rcases List.mem_append.1 hb with hb | hb
    ·simp [hb]
    ·simp [hb])) n' cn' h
   simpa [List.append_assoc] using MemL.live h1 h2
theorem setCell_heap {b o : Nat} {v : Value} : (∀ x, x ≠ b → (w.setCell ⟨b, o, none⟩ v).heap[x]? = w.heap[x]?) ∧ (w.setCell ⟨b, o, none⟩ v).heap.size = w.heap.size ∧
  ∀ cs e f, w.heap[b]? = some (.cells cs e f) → (w.setCell ⟨b, o, none⟩ v).heap[b]? = some (.cells (cs.setIfInBounds o v) e f) := by
 refine ⟨fun x hx => ?_, by simp [World.setCell], fun cs e f h => ?_⟩
 ·simp [World.setCell, Array.getElem?_modify, Ne.symm hx]
 ·simp [World.setCell, Array.getElem?_modify, h]
theorem Holds.set {b off k : Nat} {vs : List Value} {v : Value} (h : Holds w b off vs) (hk : k < vs.length) : Holds (w.setCell ⟨b, off + k, none⟩ v) b off (vs.set k v) := by
 obtain ⟨cs, e, f, h1, h2⟩ := h
 refine ⟨_, e, f, setCell_heap.2.2 _ _ _ h1, fun j u hj => ?_⟩
 rw [List.getElem?_set] at hj
 have hlt : off + k < cs.size := by
  have := h2 k _ (List.getElem?_eq_getElem hk)
  exact (Array.getElem?_eq_some_iff.1 this).1
 by_cases hkj : k = j
 ·subst hkj
  simp [hk] at hj
  subst hj
  simp [hlt]
 ·simp [hkj] at hj
  rw [Array.getElem?_setIfInBounds]
  have : ¬ (off + k = off + j) := by omega
  simp only [this, if_false]
  exact h2 _ _ hj
theorem Free.set {b off n o : Nat} {v : Value} (h : Free w b off n) : Free (w.setCell ⟨b, o, none⟩ v) b off n := by
 obtain ⟨cs, e, f, h1, h2, h3⟩ := h
 exact ⟨_, e, f, setCell_heap.2.2 _ _ _ h1, by simpa using h2, h3⟩
theorem cellIn_ok {x : AV} {d : D} {o : Option AV} {v : Value} (h : cellIn x = some (d, o)) (hx : ARel X w Z hs x v) :
  CRel w Z hs (o.getD d.up) v [] ∧ (∀ y, o = some y → (∃ id, y = .r id) ∨ ∃ wd rows, y = .fz wd rows) := by
 unfold cellIn at h
 split at h <;> simp at h <;> obtain ⟨rfl, rfl⟩ := h
 ·cases hx with | v h => exact ⟨.v h, by simp⟩
 ·cases hx with | o => exact ⟨.o .z, by simp⟩
 ·cases hx with | fz h => exact ⟨.fz h, fun y hy => by cases hy; exact .inr ⟨_, _, rfl⟩⟩
 ·cases hx with | r h => exact ⟨.r h, fun y hy => by cases hy; exact .inl ⟨_, rfl⟩⟩
theorem addO_mem {i c : Nat} {o : Option AV} {l : Opens} {e : (Nat × Nat) × AV} (h : e ∈ addO i c o l) : (e.1 = (i, c) ∧ o = some e.2) ∨ (e ∈ l ∧ e.1 ≠ (i, c)) := by
 have hd : ∀ l : Opens, e ∈ dropO i c l → e ∈ l ∧ e.1 ≠ (i, c) := by
  intro l
  induction l with
  | nil => simp [dropO]
  | cons e' l ih =>
   obtain ⟨⟨i', c'⟩, x⟩ := e'
   simp only [dropO]
   split
   ·intro h; exact ⟨List.mem_cons_of_mem _ (ih h).1, (ih h).2⟩
   ·rename_i hne
    intro h
    rcases List.mem_cons.1 h with rfl | h
    ·exact ⟨List.mem_cons_self, fun h => hne (by simp at h; exact ⟨h.2.symm, h.1.symm⟩)⟩
    ·exact ⟨List.mem_cons_of_mem _ (ih h).1, (ih h).2⟩
 cases o with
 | none => exact .inr (hd _ h)
 | some x =>
  rcases List.mem_cons.1 h with rfl | h
  ·exact .inl ⟨rfl, rfl⟩
  ·exact .inr (hd _ h)
theorem dropO_sub {i c : Nat} (l : Opens) : (dropO i c l).Sublist l := by
 induction l with
 | nil => exact .slnil
 | cons e' l ih =>
  obtain ⟨⟨i', c'⟩, x⟩ := e'
  simp only [dropO]
  split
  ·exact .cons _ ih
  ·exact .cons_cons _ ih
theorem addO_keys {i c : Nat} {o : Option AV} {l : Opens} (h : l.Pairwise fun e e' => e.1 ≠ e'.1) : (addO i c o l).Pairwise fun e e' => e.1 ≠ e'.1 := by
 cases o with
 | none => exact h.sublist (dropO_sub l)
 | some x =>
  refine List.pairwise_cons.2 ⟨fun e he h' => ?_, h.sublist (dropO_sub l)⟩
  have : e ∈ addO i c none l := he
  rcases addO_mem this with ⟨_, h2⟩ | ⟨_, h2⟩
  ·simp at h2
  ·exact h2 h'.symm
theorem setCells_ok {hd : Hd} {b off : Nat} (hb : hd.base = some ⟨b, off, none⟩) (hzb : ¬ Z b) (xs : List AV) : ∀ {w : World} {n n' : Node} {i c : Nat} {vs : List Value} {cn : List Nat},
  setCells n i c xs = some n' → NodeRel w Z hs hd n cn → i < n.rows.length → (∀ x, cn.count x ≤ 1) → ARelL X w Z hs xs vs →
  ∃ cn', NodeRel (w.setCells b (off + i * n.wd + c) vs) Z hs hd n' cn' ∧ (∀ x, cn'.count x ≤ cn.count x) ∧ (∀ x, x ≠ b → (w.setCells b (off + i * n.wd + c) vs).heap[x]? = w.heap[x]?) ∧
   (w.setCells b (off + i * n.wd + c) vs).heap.size = w.heap.size ∧ (xs ≠ [] → b ∈ cn) ∧ c + xs.length ≤ max c n.wd := by
 induction xs with
 | nil =>
  intro w n n' i c vs cn h hn hi hc hx
  simp only [setCells, Option.some.injEq] at h
  subst h
  cases hx
  exact ⟨cn, hn, fun _ => Nat.le_refl _, fun _ _ => rfl, rfl, by simp, by simp; omega⟩
 | cons x xs ih =>
  intro w n n' i c vs cn h hn hi hc hx
  cases hx with
  | @cons _ _ v vs hx hx' =>
   simp only [setCells] at h
   split at h
   ·rename_i d o hci
    cases hlt : Nat.blt c n.wd with
    | false => simp [hlt] at h
    | true =>
     simp only [hlt, cond_true] at h
     have hcw : c < n.wd := Nat.blt_eq.mp hlt
     obtain ⟨hcr, hkind⟩ := cellIn_ok hci hx
     rcases hn.mem with ⟨z1, _⟩ | ⟨b', off', vs0, c', f1, f2, f3, f4, f5, rfl⟩
     ·simp [z1] at hi
     ·rw [hb] at f1
      cases f1
      have hrow : n.rows[i]? = some n.rows[i] := List.getElem?_eq_getElem hi
      have hlen : (n.rows[i]).length = n.wd := hn.rows _ (List.getElem_mem hi)
      have hcell : (n.rows[i])[c]? = some (n.rows[i])[c] := List.getElem?_eq_getElem (by rw [hlen]; exact hcw)
      have hv := view_get hn.rows hcw hrow hcell
      obtain ⟨u, a1, ak, a2, g1, g2, g3, g4⟩ := f5.at hv
      have hbc : b ∉ c' := by
       have := hc b
       simp only [List.count_cons_self] at this
       exact List.count_eq_zero.1 (by omega)
      have hk : i * n.wd + c < vs0.length := (List.getElem?_eq_some_iff.1 g1).1
      have hsame : ∀ y, y ≠ b → (w.setCell ⟨b, off + i * n.wd + c, none⟩ v).heap[y]? = w.heap[y]? := setCell_heap.1
      have hz : ∀ y, Z y → (w.setCell ⟨b, off + i * n.wd + c, none⟩ v).heap[y]? = w.heap[y]? := fun y hy => hsame y (by rintro rfl; exact hzb hy)
      have g5 := (g4 _ _ _ hcr).frame (w' := w.setCell ⟨b, off + i * n.wd + c, none⟩ v) (Z' := Z) (hs' := hs) (fun _ h => h) hz (fun y hy => hsame y (by
       rintro rfl
       apply hbc
       rw [g3]
       simp at hy ⊢
       rcases hy with hy | hy <;> simp [hy])) (fun _ _ h => h)
      rw [← view_set hn.rows hi hcw d o] at g5
      have hh := f3.set (v := v) hk
      rw [← Nat.add_assoc] at hh
      have node : NodeRel (w.setCell ⟨b, off + i * n.wd + c, none⟩ v) Z hs hd ⟨n.wd, setD n.rows i c d, addO i c o n.opens⟩ (b :: (a1 ++ [] ++ a2)) := by
       refine ⟨hn.wd, by rw [hn.len]; simp [setD_length], setD_wd hn.rows i c d, fun e he => ?_, addO_keys hn.keys, fun e he => ?_, .inr ⟨b, off, _, _, hb, by simpa [setD_length] using f2, hh, f4.set, g5, rfl⟩⟩
       ·simp only [setD_length]
        rcases addO_mem he with ⟨h1, _⟩ | ⟨h1, _⟩
        ·rw [h1]; exact ⟨hi, hcw⟩
        ·exact hn.opens e h1
       ·rcases addO_mem he with ⟨_, h2⟩ | ⟨h1, _⟩
        ·exact hkind _ h2
        ·exact hn.kind e h1
      obtain ⟨cn', r1, r2, r3, r4, r5, r6⟩ := ih h node (by simpa [setD_length] using hi) (fun y => by
        have := hc y
        rw [g3] at this
        simp only [List.count_cons, List.count_append, List.append_nil] at *
        omega) (hx'.frame (fun _ h => h) hz (fun _ _ h => h))
      refine ⟨cn', r1, fun y => ?_, fun y hy => ?_, ?_, by simp, ?_⟩
      ·have h1 := r2 y
       rw [g3]
       simp only [List.count_cons, List.count_append, List.append_nil] at *
       omega
      ·exact (r3 y hy).trans (hsame y hy)
      ·exact r4.trans setCell_heap.2.1
      ·simp only [List.length_cons]
       simp only at r6
       omega
   ·simp at h
end
end Go.Am
/- AM: the operation store. Nothing is assumed. -/
namespace Go.Am
section
variable {P : Program} {sg : Sigs} {T : Table} {keep : List Nat} {N : Nat} {args : Nat → Value} {w0 : World} {c0 : List Nat} {Z : Nat → Prop}
theorem cells_one {v : Value} (h : v.oneCell' = true) : v.cells = #[v] := by
 cases v <;> first | rfl | simp [Value.oneCell'] at h
theorem cellsOf_ok {X : Nat → Prop} {w : World} {hs : List Hd} {x : AV} {cs : List AV} {v : Value} (h : cellsOf x = some cs) (hx : ARel X w Z hs x v) : ARelL X w Z hs cs v.cells.toList := by
 have one : v.oneCell' = true → cs = [x] → ARelL X w Z hs cs v.cells.toList := by
  intro h1 h2
  rw [cells_one h1, h2]
  exact .cons hx .nil
 unfold cellsOf at h
 split at h <;> simp at h <;> subst h
 ·cases hx with | g h => exact h
 ·cases hx with | v h => rcases sc_cases h with ⟨k, n, rfl⟩ | ⟨b', rfl⟩ | ⟨s, rfl⟩ | ⟨b', n', c', rfl⟩ <;> exact one rfl rfl
 ·cases hx with | o => exact one rfl rfl
 ·exact one (by cases hx with | fz h => cases h <;> rfl) rfl
 ·cases hx with | r h => exact one rfl rfl
theorem setCell_stay {b o : Nat} {v : Value} {w : World} : Stay w (w.setCell ⟨b, o, none⟩ v) := fun x cs el fz hx => by
 by_cases h : x = b
 ·subst h
  exact ⟨_, setCell_heap.2.2 _ _ _ hx, by simp⟩
 ·exact ⟨cs, (setCell_heap.1 x h).trans hx, rfl⟩
theorem setCells_stay {b : Nat} (us : List Value) : ∀ (o : Nat) (w : World), Stay w (w.setCells b o us) := by
 induction us with
 | nil => exact fun _ w => Stay.refl w
 | cons u us ih => exact fun o w => Stay.trans (b := w.setCell ⟨b, o, none⟩ u) setCell_stay (ih _ _)
theorem setCells_mute {b : Nat} (us : List Value) : ∀ (o : Nat) (w : World), Mute w (w.setCells b o us) := by
 induction us with
 | nil => exact fun _ w => Mute.refl w
 | cons u us ih => exact fun o w => Mute.trans (b := w.setCell ⟨b, o, none⟩ u) ⟨rfl, rfl, rfl⟩ (ih _ _)
theorem setCells_one {X : Nat → Prop} {w : World} {hs : List Hd} {xs : List AV} : ∀ {n n' : Node} {i c : Nat} {vs : List Value}, setCells n i c xs = some n' → ARelL X w Z hs xs vs → ∀ v ∈ vs, v.oneCell' = true := by
 induction xs with
 | nil => intro n n' i c vs _ hx; cases hx; simp
 | cons x xs ih =>
  intro n n' i c vs h hx
  cases hx with
  | cons hx hx' =>
   simp only [setCells] at h
   split at h
   ·rename_i d o hci
    cases hlt : Nat.blt c n.wd with
    | false => simp [hlt] at h
    | true =>
     simp only [hlt, cond_true] at h
     intro v hv
     rcases List.mem_cons.1 hv with rfl | hv
     ·unfold cellIn at hci
      split at hci <;> simp at hci
      ·cases hx with | v h => rcases sc_cases h with ⟨k, n, rfl⟩ | ⟨b', rfl⟩ | ⟨s, rfl⟩ | ⟨b', n', c', rfl⟩ <;> rfl
      ·cases hx with | o => rfl
      ·cases hx with | fz h => cases h <;> rfl
      ·cases hx with | r h => rfl
     ·exact ih h hx' v hv
   ·simp at h
theorem store_ok {R : Type} {r : R} {o : Oper} {st : St} {x y : Opd} {x' y' : Operand} {t : TypeId} {k : Nat} {ti : TypeInfo} {K : AV → Mem → Option R} (hx : chkOpd sg x x' = true) (hy : chkOpd sg y y' = true)
  (hi : P.info? t = some ti) (hk : k = ti.size) (ho : o.op = .store t x' y')
  (h : evalOp T st.t st.m (.store k x y) K = some r) : ∃ av m', K av m' = some r ∧ OpOk P sg keep N args w0 c0 Z o st av m' := by
 simp only [evalOp] at h
 split at h
 ·rename_i id i c cs ex ec
  cases hl : Nat.beq cs.length k with
  | false => simp [hl] at h
  | true =>
   simp only [hl, cond_true] at h
   have hl := Nat.eq_of_beq_eq_true hl
   split at h
   ·rename_i n hn
    split at h
    ·rename_i n' hn'
     refine ⟨_, _, h, fun hs cc a w hin next Q hnext => ?_⟩
     have hp := chkOpd_ok hx hin
     have hq := chkOpd_ok hy hin
     rw [ex] at hp
     generalize hv : a.eval x' = u at hp
     generalize hv2 : a.eval y' = v at hq
     have hcs := cellsOf_ok ec hq
     have hone := setCells_one hn' hcs
     have hvl : v.cells.toList.length = k := by rw [hcs.length, hl]
     cases hp with
     | @a _ _ _ b off hd hh hb hil =>
      obtain ⟨hd', c1, cn, c2, e1, e2, e3, e4, e6⟩ := hin.mem.at2 hn
      rw [e1] at hh
      cases hh
      have hil' : i < n.rows.length := by rw [← e3.len]; exact hil
      rcases e3.mem with ⟨z1, _⟩ | ⟨b', off', vs0, c', f1, f2, f3, f4, f5, f6⟩
      ·simp [z1] at hil'
      ·rw [hb] at f1
       cases f1
       have hbn : b ∈ cc := by rw [e4, f6]; simp
       have hzb : ¬ Z b := fun hz => hin.win.dis b hz hbn
       have hcnt : ∀ x, cn.count x ≤ 1 := fun x => by
        have := hin.win.cnt x
        rw [e4] at this
        simp only [List.count_append] at this
        omega
       obtain ⟨cn', r1, r2, r3, r4, r5, r6⟩ := setCells_ok (Z := Z) hb hzb cs hn' e3 hil' hcnt hcs
       have hnb : ∀ y ∈ c1 ++ c2, y ≠ b := by
        rintro y hy rfl
        have := hin.win.cnt y
        rw [e4, f6] at this
        simp only [List.count_append, List.count_cons_self] at this
        have : (c1 ++ c2).count y ≠ 0 := fun h0 => List.count_eq_zero.1 h0 hy
        simp only [List.count_append] at this
        omega
       have hzs : ∀ y, Z y → (w.setCells b (off + i * n.wd + c) v.cells.toList).heap[y]? = w.heap[y]? := fun y hy => r3 y (by rintro rfl; exact hzb hy)
       have hmem := e6 _ hzs (fun y hy => r3 y (hnb y hy)) n' cn' r1
       have hwin : WInv w0 c0 Z (w.setCells b (off + i * n.wd + c) v.cells.toList) (c1 ++ cn' ++ c2) := by
        refine (hin.win.write hbn r3 r4 (setCells_mute _ _ _) (setCells_stay _ _ _)).less fun x => ?_
        have := r2 x
        rw [e4]
        simp only [List.count_append]
        omega
       have hcl : v.cells.toList.length = 0 ∨ c + v.cells.toList.length ≤ n.wd := by rw [hvl, ← hl]; omega
       have hrun : (execOp a.eval o).run P w = .ok .skip (w.setCells b (off + i * n.wd + c) v.cells.toList) := by
        have hst : (storeCells ⟨b, off + i * n.wd + c, none⟩ v.cells.toList 0).run P w = .ok () (w.setCells b (off + i * n.wd + c) v.cells.toList) := by
         obtain ⟨cs', el, fz, k1, k2, k3⟩ := f4
         have key : ∀ j, j < v.cells.toList.length → off + i * n.wd + c + j < off + hd.cap * n.wd := fun j hj => by
          have h1 : (i + 1) * n.wd ≤ hd.cap * n.wd := Nat.mul_le_mul_right _ (by omega)
          rw [Nat.add_mul] at h1
          omega
         have := run_storeCells_cells (P := P) b (off + i * n.wd + c) v.cells.toList 0 w (fun j hj => by
           have h1 := key j hj
           have : off + i * n.wd + c + j < cs'.size := by omega
           simp [World.cell?, k1, this]) (fun j hj => by
           have h1 := key j hj
           have h2 := k3 (off + i * n.wd + c + 0 + j) (by omega) (by omega)
           simp only [World.frozen?, k1]
           simpa using h2) hone
         simpa using this
        have hsz : v.cells.size = ti.size := by rw [← Array.length_toList, hvl, hk]
        rw [e3.wd] at hv
        simp [execOp, ho, hv, hv2, Instr.storeAt, Instr.sureAddr, storeVar, run_sizeOf' hi, hsz, hst]
       unfold Oper.wp
       rw [hrun]
       exact hnext undef _ ⟨hs, _, Ext.refl _, hmem, .u, hwin⟩
    ·simp at h
   ·simp at h
 ·simp at h
end
end Go.Am
/- AM: new variables and arrays. Nothing is assumed. -/
namespace Go.Am
section
variable {P : Program} {sg : Sigs} {T : Table} {keep : List Nat} {N : Nat} {args : Nat → Value} {w0 : World} {c0 : List Nat} {Z : Nat → Prop}
def CellK : AV → Prop
 | .v _ | .o _ _ | .fz _ _ | .r _ => True
 | _ => False
theorem wakeRow_length (xs : List AV) : (wakeRow xs).length = xs.length := by
 induction xs with
 | nil => rfl
 | cons x xs ih => cases x <;> simp [wakeRow, ih]
theorem findO_wake_lt {xs : List AV} : ∀ {k c : Nat}, c < k → findO 0 c (wakeOpens k xs) = none := by
 induction xs with
 | nil => intros; rfl
 | cons x xs ih =>
  intro k c h
  cases x <;> simp only [wakeOpens, findO] <;> first
   | exact ih (by omega)
   | (have : ¬ (c = k) := by omega
      simp only [this, false_and, if_false]
      exact ih (by omega))
theorem view_wake_get {xs : List AV} (hk : ∀ x ∈ xs, CellK x) : ∀ {k j : Nat} {x : AV}, xs[j]? = some x → ∃ d, (wakeRow xs)[j]? = some d ∧ (findO 0 (k + j) (wakeOpens k xs)).getD d.up = x := by
 induction xs with
 | nil => intro k j x h; simp at h
 | cons y xs ih =>
  intro k j x h
  have hy := hk y (by simp)
  cases j with
  | zero =>
   simp at h
   subst h
   cases y <;> simp [CellK] at hy <;> simp [wakeRow, wakeOpens, findO, D.up, findO_wake_lt (xs := xs) (Nat.lt_succ_self k)]
  | succ j =>
   obtain ⟨d, h1, h2⟩ := ih (fun x hx => hk x (by simp [hx])) (k := k + 1) (j := j) (x := x) (by simpa using h)
   refine ⟨d, by cases y <;> simpa [wakeRow] using h1, ?_⟩
   rw [show k + (j + 1) = k + 1 + j by omega]
   cases y <;> simp only [wakeOpens, findO] <;> first
    | exact h2
    | (have : ¬ (k + 1 + j = k) := by omega
       simp only [this, false_and, if_false]
       exact h2)
theorem view_wake {xs : List AV} (hk : ∀ x ∈ xs, CellK x) (wd : Nat) : (Node.mk wd [wakeRow xs] (wakeOpens 0 xs)).view = xs := by
 unfold Node.view
 simp only [viewRows, List.append_nil]
 apply List.ext_getElem?
 intro j
 rw [viewRow_get]
 cases h : xs[j]? with
 | none =>
  have : (wakeRow xs)[j]? = none := by
   rw [List.getElem?_eq_none_iff] at h ⊢
   rw [wakeRow_length]; exact h
  simp [this]
 | some x =>
  obtain ⟨d, h1, h2⟩ := view_wake_get hk (k := 0) h
  rw [Nat.zero_add] at h2
  simp [h1, h2]
theorem wakeOpens_mem {xs : List AV} (hk : ∀ x ∈ xs, CellK x) : ∀ {k : Nat} {e : (Nat × Nat) × AV}, e ∈ wakeOpens k xs → e.1.1 = 0 ∧ k ≤ e.1.2 ∧ e.1.2 < k + xs.length ∧ ((∃ id, e.2 = .r id) ∨ ∃ wd rows, e.2 = .fz wd rows) := by
 induction xs with
 | nil => intro k e h; simp [wakeOpens] at h
 | cons x xs ih =>
  intro k e h
  have hx := hk x (by simp)
  have ih' := @ih (fun x hx => hk x (by simp [hx])) (k + 1) e
  cases x <;> simp [CellK] at hx <;> simp only [wakeOpens, List.mem_cons] at h
  ·have := ih' h; simp only [List.length_cons]; refine ⟨this.1, by omega, by omega, this.2.2.2⟩
  ·have := ih' h; simp only [List.length_cons]; refine ⟨this.1, by omega, by omega, this.2.2.2⟩
  ·rcases h with rfl | h
   ·simp only [List.length_cons]; exact ⟨trivial, Nat.le_refl _, by omega, .inr ⟨_, _, rfl⟩⟩
   ·have := ih' h; simp only [List.length_cons]; refine ⟨this.1, by omega, by omega, this.2.2.2⟩
  ·rcases h with rfl | h
   ·simp only [List.length_cons]; exact ⟨trivial, Nat.le_refl _, by omega, .inl ⟨_, rfl⟩⟩
   ·have := ih' h; simp only [List.length_cons]; refine ⟨this.1, by omega, by omega, this.2.2.2⟩
theorem wakeOpens_keys {xs : List AV} (hk : ∀ x ∈ xs, CellK x) : ∀ {k : Nat}, (wakeOpens k xs).Pairwise fun e e' => e.1 ≠ e'.1 := by
 induction xs with
 | nil => intro k; simp [wakeOpens]
 | cons x xs ih =>
  intro k
  have hx := hk x (by simp)
  have hk' : ∀ x ∈ xs, CellK x := fun x hx => hk x (by simp [hx])
  cases x <;> simp [CellK] at hx <;> simp only [wakeOpens]
  ·exact ih hk'
  ·exact ih hk'
  ·refine List.pairwise_cons.2 ⟨fun e he h => ?_, ih hk'⟩
   have := (wakeOpens_mem hk' he).2.1
   rw [← h] at this
   simp at this
   omega
  ·refine List.pairwise_cons.2 ⟨fun e he h => ?_, ih hk'⟩
   have := (wakeOpens_mem hk' he).2.1
   rw [← h] at this
   simp at this
   omega
theorem new_ok {X : Nat → Prop} {hs : List Hd} {c : List Nat} {st : St} {a : Act} {w w' : World} (hin : SInv X keep N args w0 c0 Z hs c st a w) {n : Node} {vals : List Value} {cells : Array Value} {e : TypeId} {cap : Nat}
  (hw : w'.heap = w.heap.push (.cells cells e)) (hc : cap * n.wd ≤ cells.size) (hl : n.rows.length ≤ cap) (hv : ∀ (k : Nat) (v : Value), vals[k]? = some v → cells[k]? = some v)
  (hr : ∀ r ∈ n.rows, r.length = n.wd) (ho : ∀ e ∈ n.opens, e.1.1 < n.rows.length ∧ e.1.2 < n.wd) (hk : n.opens.Pairwise fun e e' => e.1 ≠ e'.1)
  (hkd : ∀ e ∈ n.opens, (∃ id, e.2 = .r id) ∨ ∃ wd rows, e.2 = .fz wd rows) (hview : CRelL w Z hs n.view vals []) (hmu : Mute w w' := by exact ⟨rfl, rfl, rfl⟩) :
  ∃ hs' c', Ext hs hs' ∧ MemL w' Z hs' hs' (st.m ++ [some n]) c' ∧ hs'[st.m.length]? = some ⟨some ⟨w.heap.size, 0, none⟩, n.wd, n.rows.length, cap⟩ ∧ WInv w0 c0 Z w' c' := by
 obtain ⟨p1, p2, p3⟩ := push_get hw
 have hlt := hin.mem.lt
 have hz : ∀ b, Z b → w'.heap[b]? = w.heap[b]? := fun b hb => p1 b (by have := hin.win.zlt b hb; have := hin.win.size; omega)
 refine ⟨hs ++ [⟨some ⟨w.heap.size, 0, none⟩, n.wd, n.rows.length, cap⟩], c ++ [w.heap.size], Ext.append _ _, ?_, by rw [← hin.mem.length]; simp, hin.win.push hlt hw hmu⟩
 refine (hin.mem.frame (fun _ h => h) hz (fun b hb => p1 b (hlt b hb)) (Ext.append _ _)).append ?_
 refine ⟨rfl, rfl, hr, ho, hk, hkd, .inr ⟨w.heap.size, 0, vals, [], rfl, hl, ⟨cells, e, (0, 0), p2, fun k v h => by simpa using hv k v h⟩, ⟨cells, e, (0, 0), p2, by simpa using hc, fun k _ _ => by simp⟩, ?_, rfl⟩⟩
 exact hview.frame (fun _ h => h) hz (by simp) (Ext.append _ _)
end
end Go.Am
/- AM: the operations that make new variables and arrays. Nothing is assumed. -/
namespace Go.Am
section
variable {P : Program} {sg : Sigs} {T : Table} {keep : List Nat} {N : Nat} {args : Nat → Value} {w0 : World} {c0 : List Nat} {Z : Nat → Prop}
theorem boxable_ok {X : Nat → Prop} {w : World} {hs : List Hd} {xs : List AV} : ∀ {vs : List Value}, boxable xs = true → ARelL X w Z hs xs vs → (∀ x ∈ xs, CellK x) ∧ CRelL w Z hs xs vs [] := by
 induction xs with
 | nil => intro vs _ h; cases h; exact ⟨by simp, .nil⟩
 | cons x xs ih =>
  intro vs hb h
  cases h with
  | @cons _ _ v vs h h' =>
   have key : boxable xs = true → CellK x → CRel w Z hs x v [] → (∀ y ∈ x :: xs, CellK y) ∧ CRelL w Z hs (x :: xs) (v :: vs) [] := by
    intro h1 h2 h3
    obtain ⟨g1, g2⟩ := ih h1 h'
    refine ⟨fun y hy => ?_, by simpa using CRelL.cons h3 g2⟩
    rcases List.mem_cons.1 hy with rfl | hy
    ·exact h2
    ·exact g1 y hy
   cases h with
   | v h => exact key (by simpa [boxable] using hb) trivial (.v h)
   | o => exact key (by simpa [boxable] using hb) trivial (.o .z)
   | fz h => exact key (by simpa [boxable] using hb) trivial (.fz h)
   | r h => exact key (by simpa [boxable] using hb) trivial (.r h)
   | _ => simp [boxable] at hb
theorem box_ok {R : Type} {r : R} {o : Oper} {st : St} {x : Opd} {x' : Operand} {t : TypeId} {K : AV → Mem → Option R} (hx : chkOpd sg x x' = true) (ho : o.op = .box t x')
  (h : evalOp T st.t st.m (.box x) K = some r) : ∃ av m', K av m' = some r ∧ OpOk P sg keep N args w0 c0 Z o st av m' := by
 simp only [evalOp] at h
 split at h
 ·rename_i cs ec
  cases hb : boxable cs with
  | false => simp [hb] at h
  | true =>
   simp only [hb, cond_true] at h
   refine ⟨_, _, h, fun hs c a w hin next Q hnext => ?_⟩
   have hq := chkOpd_ok hx hin
   generalize hv : a.eval x' = v at hq
   have hcs := cellsOf_ok ec hq
   obtain ⟨hk, hc⟩ := boxable_ok hb hcs
   have hlen : v.cells.size = cs.length := by rw [← Array.length_toList, hcs.length]
   obtain ⟨hs', c', e1, e2, e3, e4⟩ := new_ok (w' := { w with heap := w.heap.push (.cells v.cells t) }) (e := t) (cells := v.cells) (cap := 1) hin (n := ⟨cs.length, [wakeRow cs], wakeOpens 0 cs⟩) (vals := v.cells.toList) rfl
    (by simp [hlen]) (by simp) (fun k v h => by simpa using h) (by simp [wakeRow_length]) (fun e he => by
     have := wakeOpens_mem hk he
     simp only [List.length_singleton]
     exact ⟨by omega, by omega⟩) (wakeOpens_keys hk) (fun e he => (wakeOpens_mem hk he).2.2.2) (by rw [view_wake hk]; exact hc)
   have hrun : (execOp a.eval o).run P w = .ok (.value (.pointer (some ⟨w.heap.size, 0, none⟩))) { w with heap := w.heap.push (.cells v.cells t) } := by
    simp [execOp, ho, hv, Instr.box, newVar, newRow, newObj, Sem.run]
   unfold Oper.wp
   rw [hrun]
   refine hnext _ _ ⟨hs', c', e1, e2, ?_, e4⟩
   have := ARel.a (X := sg.X) (w := { w with heap := w.heap.push (.cells v.cells t) }) (Z := Z) (c := 0) (i := 0) e3 rfl (by simp)
   simpa using this
 ·simp at h
def chkZ : List D → List Value → Bool
 | [], [] => true
 | .v x :: ds, v :: vs => chkV (.v x) v && chkZ ds vs
 | .s _ [] :: ds, .slice none 0 0 :: vs => chkZ ds vs
 | _, _ => false
theorem chkZ_ok {w : World} {hs : List Hd} {ds : List D} : ∀ {vs : List Value}, chkZ ds vs = true → CRelL w Z hs (ds.map D.up) vs [] := by
 induction ds with
 | nil => intro vs h; cases vs with
  | nil => exact .nil
  | cons => simp [chkZ] at h
 | cons d ds ih =>
  intro vs h
  unfold chkZ at h
  split at h
  ·rename_i heq; exact absurd heq (by simp)
  ·rename_i x ds' v vs' heq
   simp at heq
   obtain ⟨rfl, rfl⟩ := heq
   simp at h
   have h1 : ARel (fun _ => False) w Z hs (.v x) v := chkV_ok h.1
   cases h1 with
   | v hs' => simpa [D.up] using CRelL.cons (CRel.v hs') (ih h.2)
  ·rename_i wd ds' vs' heq
   simp at heq
   obtain ⟨rfl, rfl⟩ := heq
   simpa [D.up] using CRelL.cons (CRel.o .z) (ih h)
  ·simp at h
theorem run_zeroValue {t : TypeId} {ti : TypeInfo} {z : Value} (hi : P.info? t = some ti) (hz : ti.zero = some z) (w : World) : (zeroValue t).run P w = .ok z w := by
 simp [zeroValue, typeInfo, hi, hz]
theorem alloc_ok {R : Type} {r : R} {o : Oper} {st : St} {zero : Row} {t : TypeId} {ti : TypeInfo} {z : Value} {K : AV → Mem → Option R} (hi : P.info? t = some ti) (hz : ti.zero = some z)
  (hc : chkZ zero z.cells.toList = true) (ho : o.op = .alloc t)
  (h : evalOp T st.t st.m (.alloc zero) K = some r) : ∃ av m', K av m' = some r ∧ OpOk P sg keep N args w0 c0 Z o st av m' := by
 simp only [evalOp] at h
 refine ⟨_, _, h, fun hs c a w hin next Q hnext => ?_⟩
 have hcr := chkZ_ok (w := w) (Z := Z) (hs := hs) hc
 have hlen : z.cells.size = zero.length := by
  have := hcr.length
  simpa using this
 obtain ⟨hs', c', e1, e2, e3, e4⟩ := new_ok (w' := { w with heap := w.heap.push (.cells z.cells t) }) (e := t) (cells := z.cells) (cap := 1) hin (n := ⟨zero.length, [zero], []⟩) (vals := z.cells.toList) rfl
  (by simp [hlen]) (by simp) (fun k v h => by simpa using h) (by simp) (by simp) (by simp) (by simp) (by
   show CRelL w Z hs (viewRows [] 0 [zero]) _ []
   rw [viewRows_nil]
   simpa using hcr)
 have hrun : (execOp a.eval o).run P w = .ok (.value (.pointer (some ⟨w.heap.size, 0, none⟩))) { w with heap := w.heap.push (.cells z.cells t) } := by
  simp [execOp, ho, Instr.alloc, run_zeroValue hi hz, newVar, newRow, newObj, Sem.run]
 unfold Oper.wp
 rw [hrun]
 refine hnext _ _ ⟨hs', c', e1, e2, ?_, e4⟩
 have := ARel.a (X := sg.X) (w := { w with heap := w.heap.push (.cells z.cells t) }) (Z := Z) (c := 0) (i := 0) e3 rfl (by simp)
 simpa using this
end
end Go.Am
/- AM: made slices, structs built, cuts. Nothing is assumed. -/
namespace Go.Am
section
variable {P : Program} {sg : Sigs} {T : Table} {keep : List Nat} {N : Nat} {args : Nat → Value} {w0 : World} {c0 : List Nat} {Z : Nat → Prop}
theorem wrap64 {n : Int} (h0 : 0 ≤ n) (h1 : n ≤ maxLen) : IntKind.i64.wrap n = n := by
 simp only [maxLen] at h1
 have h2 : n ≤ 9223372036854775807 := by simpa using h1
 have hm : n % (18446744073709551616 : Int) = n := Int.emod_eq_of_lt h0 (by omega)
 simp [IntKind.wrap, IntKind.bits, IntKind.signed, hm]
 omega
theorem cutOk_iff {l h : Int} {n : Nat} (e : cutOk l h n = true) : 0 ≤ l ∧ l ≤ h ∧ h ≤ n := by
 simp [cutOk] at e
 exact ⟨e.1.1, e.1.2, e.2⟩
theorem rep_get (zs : List Value) : ∀ (k j : Nat) (v : Value), (List.replicate k zs).flatten[j]? = some v → zs[j % zs.length]? = some v := by
 intro k
 induction k with
 | zero => intro j v h; simp at h
 | succ k ih =>
  intro j v h
  rw [List.replicate_succ, List.flatten_cons, List.getElem?_append] at h
  split at h
  ·rename_i hlt; rw [Nat.mod_eq_of_lt hlt]; exact h
  ·rename_i hlt
   have := ih _ _ h
   rwa [← Nat.mod_eq_sub_mod (by omega)] at this
theorem rep_rel {w : World} {hs : List Hd} {zero : Row} {zs : List Value} (h : CRelL w Z hs (zero.map D.up) zs []) (k : Nat) :
  CRelL w Z hs ((List.replicate k zero).flatten.map D.up) (List.replicate k zs).flatten [] := by
 induction k with
 | zero => exact .nil
 | succ k ih => simpa [List.replicate_succ] using h.append ih
theorem mk_ok {R : Type} {r : R} {o : Oper} {st : St} {x y : Opd} {x' y' : Operand} {t e : TypeId} {ti : TypeInfo} {z : Value} {zero : Row} {bytes : Nat} {K : AV → Mem → Option R} (hx : chkOpd sg x x' = true) (hy : chkOpd sg y y' = true)
  (hu : P.underlying t = some (.slice e)) (hi : P.info? e = some ti) (hz : ti.zero = some z) (hc : chkZ zero z.cells.toList = true) (hs : ti.size = zero.length) (hb : ti.bytes = bytes)
  (ho : o.op = .makeSlice t x' y') (h : evalOp T st.t st.m (.mk zero bytes x y) K = some r) : ∃ av m', K av m' = some r ∧ OpOk P sg keep N args w0 c0 Z o st av m' := by
 simp only [evalOp] at h
 split at h
 ·rename_i n c en ec
  obtain ⟨h1, h⟩ := tst_some h
  simp only [Bool.and_eq_true, decide_eq_true_eq] at h1
  obtain ⟨h2, h3⟩ := h1
  obtain ⟨g0, g1, g2⟩ := cutOk_iff h2
  refine ⟨_, _, h, fun hs' cc a w hin next Q hnext => ?_⟩
  have e1 := chkOpd_ok hx hin
  have e2 := chkOpd_ok hy hin
  rw [intOf_ok en] at e1
  rw [intOf_ok ec] at e2
  have e1 := val_of e1
  have e2 := val_of e2
  have hcr := chkZ_ok (w := w) (Z := Z) (hs := hs') hc
  have hlen : z.cells.size = zero.length := by
   have := hcr.length
   simpa using this
  generalize hcells : ((Array.range (c.toNat * ti.size)).map (fun i => (if c.toNat * ti.size = 0 then #[] else z.cells)[i % (if c.toNat * ti.size = 0 then #[] else z.cells).size]!)) = cells
  have hsize : cells.size = c.toNat * ti.size := by rw [← hcells]; simp
  have hval : ∀ (k : Nat) (v : Value), (List.replicate n.toNat z.cells.toList).flatten[k]? = some v → cells[k]? = some v := by
   intro k v hk
   have h4 := rep_get _ _ _ _ hk
   have hk2 : k < (List.replicate n.toNat z.cells.toList).flatten.length := (List.getElem?_eq_some_iff.1 hk).1
   simp only [List.length_flatten, List.map_replicate, List.sum_replicate_nat, Array.length_toList, hlen] at hk2
   have h5 : n.toNat * zero.length ≤ c.toNat * ti.size := by rw [hs]; exact Nat.mul_le_mul_right _ (by omega)
   have hk3 : k < c.toNat * ti.size := by omega
   have hne : ¬ (c.toNat * ti.size = 0) := by omega
   rw [← hcells]
   simp only [hne, if_false, Array.getElem?_map]
   rw [Array.getElem?_range]
   simp only [hk3, if_true, Option.map_some]
   simp only [Array.length_toList] at h4
   have h6 : z.cells[k % z.cells.size]? = some v := by simpa using h4
   simp [getElem!_def, h6]
  obtain ⟨hs2, c2, q1, q2, q3, q4⟩ := new_ok (w' := { w with heap := w.heap.push (.cells cells e) }) (e := e) (cells := cells) (cap := c.toNat) hin (n := ⟨zero.length, List.replicate n.toNat zero, []⟩)
   (vals := (List.replicate n.toNat z.cells.toList).flatten) rfl (by rw [hsize, hs]; exact Nat.le_refl _) (by simp; omega) hval (by simp) (by simp) (by simp) (by simp) (by
    show CRelL w Z hs' (viewRows [] 0 _) _ []
    rw [viewRows_nil]
    exact rep_rel hcr _)
  have hrun : (execOp a.eval o).run P w = .ok (.value (.slice (some ⟨w.heap.size, 0, none⟩) n.toNat c.toNat)) { w with heap := w.heap.push (.cells cells e) } := by
   have w1 : IntKind.i64.wrap n = n := wrap64 g0 (by omega)
   have w2 : IntKind.i64.wrap c = c := wrap64 (by omega) g2
   have hbig : ¬ ((bytes : Int) * c > 2 ^ 48) := by
    simp only [maxBytes] at h3
    have : (bytes : Int) * c = ((c.toNat * bytes : Nat) : Int) := by
     rw [Int.natCast_mul, Int.toNat_of_nonneg (by omega), Int.mul_comm]
    rw [this]
    omega
   have hroom : ¬ (c.toNat * bytes > roomBytes) := by
    simp only [maxBytes] at h3
    simp only [roomBytes]
    omega
   have n1 : ¬ (c < 0) := by omega
   have n2 : ¬ (n < 0) := by omega
   have n3 : ¬ (n > c) := by omega
   have hbig' : ¬ ((ti.bytes : Int) * c > 2 ^ 48) := by rw [hb]; exact hbig
   have hroom' : ¬ (c.toNat * ti.bytes > roomBytes) := by rw [hb]; exact hroom
   have hti : ∀ w, (typeInfo e).run P w = .ok ti w := fun w => by simp [typeInfo, hi]
   simp only [execOp, ho, e1, e2, Instr.makeSlice, Sem.run_bind, run_underlying hu, Result.andThen_ok, asInt, asIntOf, Sem.run_pure, hti, w1, w2, n1, n2, n3, hbig', decide_false, Bool.or_false, Bool.false_or, Bool.false_eq_true, if_false, askRoom, hroom', sizeOf, newRow, newObj]
   rw [← hcells]
   by_cases h0 : c.toNat * ti.size = 0
   ·simp [h0, Sem.run]
   ·simp [h0, run_zeroValue hi hz, Sem.run]
  unfold Oper.wp
  rw [hrun]
  refine hnext _ _ ⟨hs2, c2, q1, q2, ?_, q4⟩
  have := ARel.r (X := sg.X) (w := { w with heap := w.heap.push (.cells cells e) }) (Z := Z) q3
  simpa using this
 ·simp at h
end
end Go.Am
