/-
  NARROWER THAN 'FOR EVERY INPUT', by the rows' own cells (each row's printed sentence says how): FnExactServed: loops · FnExactLacking: loops · FnExactActOk: loops · FnExactFedOk: loops.
  DERIVED. THE GIVEN ROWS OF THIS SEAT. 4 by the template 'for every input the law returns true; each argument reads behind the call as it read before'; 0 by the template 'total and deterministic' (their statements: YtmgeoejefnablaaGreatTotals.lean).
  GIVEN WITH THE SEED: the statements are not yours to turn. If you find one false, say at which input.
  Laid BY PROGRAM, IN A SANDBOX (cutbox-rows.mjs): the forced cells as the released guide's own fill.sh prints them over the translation a64f3799a08902d4… (all of the seat's roots in one cut). By AI agents, Wed Nov 11 2026. No macro, syntax, notation, axiom, sorry.
-/
import Derived.Test.YtmgeoejefnablaaGreatChecked
import GoSem.Claim
import GoSem.ClaimJoined
import GoSem.ClaimMapViews
import Derived.JoinedTies
import Derived.KernelRfl
namespace Go.Proofs.YtmgeoejefnablaaGreat
/- THE CELL 'sum', in the pinned program and in every row, IS THE sha256 OF THE DUMP (.gsa) THAT YtmgeoejefnablaaGreatProg.lean LOADS. Nothing in Lean hashes anything: it is a label: what it is worth is what the hold of that sum in a sandbox is worth. -/
noncomputable def Tryz.pinned : Pinned := { name := "ytmgeoejefnablaagreat", sum := "a64f3799a08902d492fd5e116d73fc9054e821ad20190870ca411eb3beada11b", checked := Tryz.checked }
namespace Rows
def none {H : Type} : Left H := { results := [], args := [] }

/-- 'laws.FnExactServed': WHATEVER THE INPUT: true; the input reads as it did. -/
def fnExactServedSpec : ChangeSpec := { name := "fnExactServed", fn := fun _ => fun
  | [d1, d2] => { results := [.lit (.bool true)], args := [d1, d2] }
  | _ => none }
def fnExactServedRow : OpenClaim := { program := "ytmgeoejefnablaagreat", sum := "a64f3799a08902d492fd5e116d73fc9054e821ad20190870ca411eb3beada11b", func := "loop.example/g00119/laws.FnExactServed", spec := "fnExactServed", recurses := true, loops := true, apart := false }
def FnExactServedSaid : Prop := fnExactServedRow.holds Tryz.pinned (OpenSpec.ofChange fnExactServedSpec)

/-- ITS FALSE NEIGHBOUR: 'it returns false'. Refute it at one input. -/
def fnExactServedWrong : ChangeSpec := { name := "fnExactServed", fn := fun _ => fun
  | [d1, d2] => { results := [.lit (.bool false)], args := [d1, d2] }
  | _ => none }
def FnExactServedWrongFalsely : Prop := fnExactServedRow.holds Tryz.pinned (OpenSpec.ofChange fnExactServedWrong)

/-- 'laws.FnExactLacking': WHATEVER THE INPUT: true; the input reads as it did. -/
def fnExactLackingSpec : ChangeSpec := { name := "fnExactLacking", fn := fun _ => fun
  | [d] => { results := [.lit (.bool true)], args := [d] }
  | _ => none }
def fnExactLackingRow : OpenClaim := { program := "ytmgeoejefnablaagreat", sum := "a64f3799a08902d492fd5e116d73fc9054e821ad20190870ca411eb3beada11b", func := "loop.example/g00119/laws.FnExactLacking", spec := "fnExactLacking", recurses := true, loops := true, apart := false }
def FnExactLackingSaid : Prop := fnExactLackingRow.holds Tryz.pinned (OpenSpec.ofChange fnExactLackingSpec)

/-- ITS FALSE NEIGHBOUR: 'it returns false'. Refute it at one input. -/
def fnExactLackingWrong : ChangeSpec := { name := "fnExactLacking", fn := fun _ => fun
  | [d] => { results := [.lit (.bool false)], args := [d] }
  | _ => none }
def FnExactLackingWrongFalsely : Prop := fnExactLackingRow.holds Tryz.pinned (OpenSpec.ofChange fnExactLackingWrong)

/-- 'laws.FnExactActOk': WHATEVER THE INPUT: true; the input reads as it did. -/
def fnExactActOkSpec : ChangeSpec := { name := "fnExactActOk", fn := fun _ => fun
  | [d] => { results := [.lit (.bool true)], args := [d] }
  | _ => none }
def fnExactActOkRow : OpenClaim := { program := "ytmgeoejefnablaagreat", sum := "a64f3799a08902d492fd5e116d73fc9054e821ad20190870ca411eb3beada11b", func := "loop.example/g00119/laws.FnExactActOk", spec := "fnExactActOk", inPlace := ["slices.overlaps[string]", "slices.overlaps[loop.example/g00119/impl.Value]"], unfollowed := true, recurses := true, loops := true, apart := false }
def FnExactActOkSaid : Prop := fnExactActOkRow.holds Tryz.pinned (OpenSpec.ofChange fnExactActOkSpec)

/-- ITS FALSE NEIGHBOUR: 'it returns false'. Refute it at one input. -/
def fnExactActOkWrong : ChangeSpec := { name := "fnExactActOk", fn := fun _ => fun
  | [d] => { results := [.lit (.bool false)], args := [d] }
  | _ => none }
def FnExactActOkWrongFalsely : Prop := fnExactActOkRow.holds Tryz.pinned (OpenSpec.ofChange fnExactActOkWrong)

/-- 'laws.FnExactFedOk': WHATEVER THE INPUT: true; the input reads as it did. -/
def fnExactFedOkSpec : ChangeSpec := { name := "fnExactFedOk", fn := fun _ => fun
  | [d] => { results := [.lit (.bool true)], args := [d] }
  | _ => none }
def fnExactFedOkRow : OpenClaim := { program := "ytmgeoejefnablaagreat", sum := "a64f3799a08902d492fd5e116d73fc9054e821ad20190870ca411eb3beada11b", func := "loop.example/g00119/laws.FnExactFedOk", spec := "fnExactFedOk", inPlace := ["slices.overlaps[string]", "slices.overlaps[loop.example/g00119/impl.Value]", "internal/bytealg.abigen_runtime_cmpstring"], unfollowed := true, recurses := true, loops := true, apart := false }
def FnExactFedOkSaid : Prop := fnExactFedOkRow.holds Tryz.pinned (OpenSpec.ofChange fnExactFedOkSpec)

/-- ITS FALSE NEIGHBOUR: 'it returns false'. Refute it at one input. -/
def fnExactFedOkWrong : ChangeSpec := { name := "fnExactFedOk", fn := fun _ => fun
  | [d] => { results := [.lit (.bool false)], args := [d] }
  | _ => none }
def FnExactFedOkWrongFalsely : Prop := fnExactFedOkRow.holds Tryz.pinned (OpenSpec.ofChange fnExactFedOkWrong)

/- THE SECOND FORM. 'bulk': how many values and letters a reading holds, each counted each time it is reached (what is shared counts as often as it is met; a slice's spare places count too). A statement '..UptoSaid' is the law's where the arguments, and the package variables that the reading takes, are together of bulk at most 1048576: NARROWER than '..Said'. Prove '..Said' where nothing that the law and all that it calls make is longer than what came in: it says more and counts as full. Else prove '..UptoSaid'. A law counts once. -/
mutual
def uptoBulk {H : Type} : DataW H → Nat
  | .lit (.string bytes) => bytes.length + 1
  | .lit _ => 1
  | .nil => 1
  | .ptr d => uptoBulk d + 1
  | .slice elems spare => uptoBulkAll elems + uptoBulkAll spare + 1
  | .agg parts => uptoBulkAll parts + 1
  | .iface _ d => uptoBulk d + 1
  | .map entries => uptoBulkEntries entries + 1
  | .held _ => 1
def uptoBulkAll {H : Type} : List (DataW H) → Nat
  | [] => 0
  | d :: r => uptoBulk d + uptoBulkAll r
def uptoBulkEntries {H : Type} : List (Lit × DataW H) → Nat
  | [] => 0
  | x :: r => uptoBulkEntry x + uptoBulkEntries r
def uptoBulkEntry {H : Type} : Lit × DataW H → Nat
  | (.string bytes, d) => bytes.length + uptoBulk d + 1
  | (_, d) => uptoBulk d + 1
 end
def uptoSmall : (H : Type) → List (DataW H) → Bool := fun _ ds => decide (uptoBulkAll ds ≤ 1048576)
def OpenSpec.upto (s : _root_.Go.ChangeSpec) : _root_.Go.OpenSpec := { _root_.Go.OpenSpec.ofChange s with cond := some uptoSmall }

/-- 'laws.FnExactServed', WHERE WHAT IT READS IS OF BULK AT MOST 1048576: true; the input reads as it did. -/
def fnExactServedUptoRow : OpenClaim := { program := "ytmgeoejefnablaagreat", sum := "a64f3799a08902d492fd5e116d73fc9054e821ad20190870ca411eb3beada11b", func := "loop.example/g00119/laws.FnExactServed", spec := "fnExactServed", recurses := true, loops := true, apart := false, narrowed := true }
def FnExactServedUptoSaid : Prop := fnExactServedUptoRow.holds Tryz.pinned (OpenSpec.upto fnExactServedSpec)

/-- 'laws.FnExactLacking', WHERE WHAT IT READS IS OF BULK AT MOST 1048576: true; the input reads as it did. -/
def fnExactLackingUptoRow : OpenClaim := { program := "ytmgeoejefnablaagreat", sum := "a64f3799a08902d492fd5e116d73fc9054e821ad20190870ca411eb3beada11b", func := "loop.example/g00119/laws.FnExactLacking", spec := "fnExactLacking", recurses := true, loops := true, apart := false, narrowed := true }
def FnExactLackingUptoSaid : Prop := fnExactLackingUptoRow.holds Tryz.pinned (OpenSpec.upto fnExactLackingSpec)

/-- 'laws.FnExactActOk', WHERE WHAT IT READS IS OF BULK AT MOST 1048576: true; the input reads as it did. -/
def fnExactActOkUptoRow : OpenClaim := { program := "ytmgeoejefnablaagreat", sum := "a64f3799a08902d492fd5e116d73fc9054e821ad20190870ca411eb3beada11b", func := "loop.example/g00119/laws.FnExactActOk", spec := "fnExactActOk", inPlace := ["slices.overlaps[string]", "slices.overlaps[loop.example/g00119/impl.Value]"], unfollowed := true, recurses := true, loops := true, apart := false, narrowed := true }
def FnExactActOkUptoSaid : Prop := fnExactActOkUptoRow.holds Tryz.pinned (OpenSpec.upto fnExactActOkSpec)

/-- 'laws.FnExactFedOk', WHERE WHAT IT READS IS OF BULK AT MOST 1048576: true; the input reads as it did. -/
def fnExactFedOkUptoRow : OpenClaim := { program := "ytmgeoejefnablaagreat", sum := "a64f3799a08902d492fd5e116d73fc9054e821ad20190870ca411eb3beada11b", func := "loop.example/g00119/laws.FnExactFedOk", spec := "fnExactFedOk", inPlace := ["slices.overlaps[string]", "slices.overlaps[loop.example/g00119/impl.Value]", "internal/bytealg.abigen_runtime_cmpstring"], unfollowed := true, recurses := true, loops := true, apart := false, narrowed := true }
def FnExactFedOkUptoSaid : Prop := fnExactFedOkUptoRow.holds Tryz.pinned (OpenSpec.upto fnExactFedOkSpec)

end Rows
end Go.Proofs.YtmgeoejefnablaaGreat
