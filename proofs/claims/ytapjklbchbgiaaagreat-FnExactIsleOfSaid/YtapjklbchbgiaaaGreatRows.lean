/-
  NARROWER THAN 'FOR EVERY INPUT', by the rows' own cells (each row's printed sentence says how): FnExactLacking: loops · FnExactActOk: loops · FnExactIsleOf: loops · FnExactFedOk: loops.
  DERIVED. THE GIVEN ROWS OF THIS SEAT. 6 by the template 'for every input the law returns true; each argument reads behind the call as it read before'; 0 by the template 'total and deterministic' (their statements: YtapjklbchbgiaaaGreatTotals.lean).
  GIVEN WITH THE SEED: the statements are not yours to turn. If you find one false, say at which input.
  Laid BY PROGRAM, IN A SANDBOX (cutbox-rows.mjs): the forced cells as the released guide's own fill.sh prints them over the translation ae0ee699d06bf08b… (all of the seat's roots in one cut). By AI agents, Wed Nov 11 2026. No macro, syntax, notation, axiom, sorry.
-/
import Derived.Test.YtapjklbchbgiaaaGreatChecked
import GoSem.Claim
import GoSem.ClaimJoined
import GoSem.ClaimMapViews
import Derived.JoinedTies
import Derived.KernelRfl
namespace Go.Proofs.YtapjklbchbgiaaaGreat
/- THE CELL 'sum', in the pinned program and in every row, IS THE sha256 OF THE DUMP (.gsa) THAT YtapjklbchbgiaaaGreatProg.lean LOADS. Nothing in Lean hashes anything: it is a label: what it is worth is what the hold of that sum in a sandbox is worth. -/
noncomputable def Tryz.pinned : Pinned := { name := "ytapjklbchbgiaaagreat", sum := "ae0ee699d06bf08bcd79057401e2f86c50db5e1b390a077eb5da5fc50cd8d36d", checked := Tryz.checked }
namespace Rows
def none {H : Type} : Left H := { results := [], args := [] }

/-- 'laws.FnExactLacking': WHATEVER THE INPUT: true; the input reads as it did. -/
def fnExactLackingSpec : ChangeSpec := { name := "fnExactLacking", fn := fun _ => fun
  | [d] => { results := [.lit (.bool true)], args := [d] }
  | _ => none }
def fnExactLackingRow : OpenClaim := { program := "ytapjklbchbgiaaagreat", sum := "ae0ee699d06bf08bcd79057401e2f86c50db5e1b390a077eb5da5fc50cd8d36d", func := "loop.example/g00119/laws.FnExactLacking", spec := "fnExactLacking", recurses := true, loops := true, apart := false }
def FnExactLackingSaid : Prop := fnExactLackingRow.holds Tryz.pinned (OpenSpec.ofChange fnExactLackingSpec)

/-- ITS FALSE NEIGHBOUR: 'it returns false'. Refute it at one input. -/
def fnExactLackingWrong : ChangeSpec := { name := "fnExactLacking", fn := fun _ => fun
  | [d] => { results := [.lit (.bool false)], args := [d] }
  | _ => none }
def FnExactLackingWrongFalsely : Prop := fnExactLackingRow.holds Tryz.pinned (OpenSpec.ofChange fnExactLackingWrong)

/-- 'laws.FnExactActOk': WHATEVER THE INPUT: true; the input reads as it did. -/
def fnExactActOkSpec : ChangeSpec := { name := "fnExactActOk", fn := fun _ => fun
  | [d] => { results := [.lit (.bool true)], args := [d] }
  | _ => none }
def fnExactActOkRow : OpenClaim := { program := "ytapjklbchbgiaaagreat", sum := "ae0ee699d06bf08bcd79057401e2f86c50db5e1b390a077eb5da5fc50cd8d36d", func := "loop.example/g00119/laws.FnExactActOk", spec := "fnExactActOk", inPlace := ["slices.overlaps[string]", "slices.overlaps[loop.example/g00119/impl.Value]"], unfollowed := true, recurses := true, loops := true, apart := false }
def FnExactActOkSaid : Prop := fnExactActOkRow.holds Tryz.pinned (OpenSpec.ofChange fnExactActOkSpec)

/-- ITS FALSE NEIGHBOUR: 'it returns false'. Refute it at one input. -/
def fnExactActOkWrong : ChangeSpec := { name := "fnExactActOk", fn := fun _ => fun
  | [d] => { results := [.lit (.bool false)], args := [d] }
  | _ => none }
def FnExactActOkWrongFalsely : Prop := fnExactActOkRow.holds Tryz.pinned (OpenSpec.ofChange fnExactActOkWrong)

/-- 'laws.FnExactIsleOf': WHATEVER THE INPUT: true; the input reads as it did. -/
def fnExactIsleOfSpec : ChangeSpec := { name := "fnExactIsleOf", fn := fun _ => fun
  | [d1, d2] => { results := [.lit (.bool true)], args := [d1, d2] }
  | _ => none }
def fnExactIsleOfRow : OpenClaim := { program := "ytapjklbchbgiaaagreat", sum := "ae0ee699d06bf08bcd79057401e2f86c50db5e1b390a077eb5da5fc50cd8d36d", func := "loop.example/g00119/laws.FnExactIsleOf", spec := "fnExactIsleOf", recurses := true, loops := true, apart := false }
def FnExactIsleOfSaid : Prop := fnExactIsleOfRow.holds Tryz.pinned (OpenSpec.ofChange fnExactIsleOfSpec)

/-- ITS FALSE NEIGHBOUR: 'it returns false'. Refute it at one input. -/
def fnExactIsleOfWrong : ChangeSpec := { name := "fnExactIsleOf", fn := fun _ => fun
  | [d1, d2] => { results := [.lit (.bool false)], args := [d1, d2] }
  | _ => none }
def FnExactIsleOfWrongFalsely : Prop := fnExactIsleOfRow.holds Tryz.pinned (OpenSpec.ofChange fnExactIsleOfWrong)

/-- 'laws.FnCounted': WHATEVER THE INPUT: true; the input reads as it did. -/
def fnCountedSpec : ChangeSpec := { name := "fnCounted", fn := fun _ => fun
  | [d] => { results := [.lit (.bool true)], args := [d] }
  | _ => none }
def fnCountedRow : OpenClaim := { program := "ytapjklbchbgiaaagreat", sum := "ae0ee699d06bf08bcd79057401e2f86c50db5e1b390a077eb5da5fc50cd8d36d", func := "loop.example/g00119/laws.FnCounted", spec := "fnCounted", inPlace := ["internal/bytealg.abigen_runtime_cmpstring"], unfollowed := true, recurses := true, apart := false }
def FnCountedSaid : Prop := fnCountedRow.holds Tryz.pinned (OpenSpec.ofChange fnCountedSpec)

/-- ITS FALSE NEIGHBOUR: 'it returns false'. Refute it at one input. -/
def fnCountedWrong : ChangeSpec := { name := "fnCounted", fn := fun _ => fun
  | [d] => { results := [.lit (.bool false)], args := [d] }
  | _ => none }
def FnCountedWrongFalsely : Prop := fnCountedRow.holds Tryz.pinned (OpenSpec.ofChange fnCountedWrong)

/-- 'laws.FnExactFedOk': WHATEVER THE INPUT: true; the input reads as it did. -/
def fnExactFedOkSpec : ChangeSpec := { name := "fnExactFedOk", fn := fun _ => fun
  | [d] => { results := [.lit (.bool true)], args := [d] }
  | _ => none }
def fnExactFedOkRow : OpenClaim := { program := "ytapjklbchbgiaaagreat", sum := "ae0ee699d06bf08bcd79057401e2f86c50db5e1b390a077eb5da5fc50cd8d36d", func := "loop.example/g00119/laws.FnExactFedOk", spec := "fnExactFedOk", inPlace := ["slices.overlaps[string]", "slices.overlaps[loop.example/g00119/impl.Value]", "internal/bytealg.abigen_runtime_cmpstring"], unfollowed := true, recurses := true, loops := true, apart := false }
def FnExactFedOkSaid : Prop := fnExactFedOkRow.holds Tryz.pinned (OpenSpec.ofChange fnExactFedOkSpec)

/-- ITS FALSE NEIGHBOUR: 'it returns false'. Refute it at one input. -/
def fnExactFedOkWrong : ChangeSpec := { name := "fnExactFedOk", fn := fun _ => fun
  | [d] => { results := [.lit (.bool false)], args := [d] }
  | _ => none }
def FnExactFedOkWrongFalsely : Prop := fnExactFedOkRow.holds Tryz.pinned (OpenSpec.ofChange fnExactFedOkWrong)

/-- 'laws.FnLease': WHATEVER THE INPUT: true; the input reads as it did. -/
def fnLeaseSpec : ChangeSpec := { name := "fnLease", fn := fun _ => fun
  | [d] => { results := [.lit (.bool true)], args := [d] }
  | _ => none }
def fnLeaseRow : OpenClaim := { program := "ytapjklbchbgiaaagreat", sum := "ae0ee699d06bf08bcd79057401e2f86c50db5e1b390a077eb5da5fc50cd8d36d", func := "loop.example/g00119/laws.FnLease", spec := "fnLease", inPlace := ["slices.overlaps[string]", "slices.overlaps[loop.example/g00119/impl.Value]", "internal/bytealg.abigen_runtime_cmpstring"], unfollowed := true, recurses := true, apart := false }
def FnLeaseSaid : Prop := fnLeaseRow.holds Tryz.pinned (OpenSpec.ofChange fnLeaseSpec)

/-- ITS FALSE NEIGHBOUR: 'it returns false'. Refute it at one input. -/
def fnLeaseWrong : ChangeSpec := { name := "fnLease", fn := fun _ => fun
  | [d] => { results := [.lit (.bool false)], args := [d] }
  | _ => none }
def FnLeaseWrongFalsely : Prop := fnLeaseRow.holds Tryz.pinned (OpenSpec.ofChange fnLeaseWrong)

/- THE SECOND FORM. 'bulk': how many values and letters a reading holds, each counted each time it is reached (what is shared counts as often as it is met; a slice's spare places count too). A statement '..UptoSaid' is the law's where the arguments, and the package variables that the reading takes, are together of bulk at most 1048576: NARROWER than '..Said'. Prove '..Said' where nothing that the law and all that it calls make is longer than what came in: it says more and counts as full. Else prove '..UptoSaid'. A law counts once. -/
mutual
def uptoBulk {H : Type} : DataW H → Nat
  | .lit (.string bytes) => bytes.length + 1
  | .lit _ => 1
  | .nil => 1
  | .ptr d => uptoBulk d + 1
  | .slice elems spare => uptoBulkAll elems + uptoBulkAll spare + 1
  | .agg parts => uptoBulkAll parts + 1
  | .iface _ d => uptoBulk d + 1
  | .map entries => uptoBulkEntries entries + 1
  | .held _ => 1
def uptoBulkAll {H : Type} : List (DataW H) → Nat
  | [] => 0
  | d :: r => uptoBulk d + uptoBulkAll r
def uptoBulkEntries {H : Type} : List (Lit × DataW H) → Nat
  | [] => 0
  | x :: r => uptoBulkEntry x + uptoBulkEntries r
def uptoBulkEntry {H : Type} : Lit × DataW H → Nat
  | (.string bytes, d) => bytes.length + uptoBulk d + 1
  | (_, d) => uptoBulk d + 1
 end
def uptoSmall : (H : Type) → List (DataW H) → Bool := fun _ ds => decide (uptoBulkAll ds ≤ 1048576)
def OpenSpec.upto (s : _root_.Go.ChangeSpec) : _root_.Go.OpenSpec := { _root_.Go.OpenSpec.ofChange s with cond := some uptoSmall }

/-- 'laws.FnExactLacking', WHERE WHAT IT READS IS OF BULK AT MOST 1048576: true; the input reads as it did. -/
def fnExactLackingUptoRow : OpenClaim := { program := "ytapjklbchbgiaaagreat", sum := "ae0ee699d06bf08bcd79057401e2f86c50db5e1b390a077eb5da5fc50cd8d36d", func := "loop.example/g00119/laws.FnExactLacking", spec := "fnExactLacking", recurses := true, loops := true, apart := false, narrowed := true }
def FnExactLackingUptoSaid : Prop := fnExactLackingUptoRow.holds Tryz.pinned (OpenSpec.upto fnExactLackingSpec)

/-- 'laws.FnExactActOk', WHERE WHAT IT READS IS OF BULK AT MOST 1048576: true; the input reads as it did. -/
def fnExactActOkUptoRow : OpenClaim := { program := "ytapjklbchbgiaaagreat", sum := "ae0ee699d06bf08bcd79057401e2f86c50db5e1b390a077eb5da5fc50cd8d36d", func := "loop.example/g00119/laws.FnExactActOk", spec := "fnExactActOk", inPlace := ["slices.overlaps[string]", "slices.overlaps[loop.example/g00119/impl.Value]"], unfollowed := true, recurses := true, loops := true, apart := false, narrowed := true }
def FnExactActOkUptoSaid : Prop := fnExactActOkUptoRow.holds Tryz.pinned (OpenSpec.upto fnExactActOkSpec)

/-- 'laws.FnExactIsleOf', WHERE WHAT IT READS IS OF BULK AT MOST 1048576: true; the input reads as it did. -/
def fnExactIsleOfUptoRow : OpenClaim := { program := "ytapjklbchbgiaaagreat", sum := "ae0ee699d06bf08bcd79057401e2f86c50db5e1b390a077eb5da5fc50cd8d36d", func := "loop.example/g00119/laws.FnExactIsleOf", spec := "fnExactIsleOf", recurses := true, loops := true, apart := false, narrowed := true }
def FnExactIsleOfUptoSaid : Prop := fnExactIsleOfUptoRow.holds Tryz.pinned (OpenSpec.upto fnExactIsleOfSpec)

/-- 'laws.FnCounted', WHERE WHAT IT READS IS OF BULK AT MOST 1048576: true; the input reads as it did. -/
def fnCountedUptoRow : OpenClaim := { program := "ytapjklbchbgiaaagreat", sum := "ae0ee699d06bf08bcd79057401e2f86c50db5e1b390a077eb5da5fc50cd8d36d", func := "loop.example/g00119/laws.FnCounted", spec := "fnCounted", inPlace := ["internal/bytealg.abigen_runtime_cmpstring"], unfollowed := true, recurses := true, apart := false, narrowed := true }
def FnCountedUptoSaid : Prop := fnCountedUptoRow.holds Tryz.pinned (OpenSpec.upto fnCountedSpec)

/-- 'laws.FnExactFedOk', WHERE WHAT IT READS IS OF BULK AT MOST 1048576: true; the input reads as it did. -/
def fnExactFedOkUptoRow : OpenClaim := { program := "ytapjklbchbgiaaagreat", sum := "ae0ee699d06bf08bcd79057401e2f86c50db5e1b390a077eb5da5fc50cd8d36d", func := "loop.example/g00119/laws.FnExactFedOk", spec := "fnExactFedOk", inPlace := ["slices.overlaps[string]", "slices.overlaps[loop.example/g00119/impl.Value]", "internal/bytealg.abigen_runtime_cmpstring"], unfollowed := true, recurses := true, loops := true, apart := false, narrowed := true }
def FnExactFedOkUptoSaid : Prop := fnExactFedOkUptoRow.holds Tryz.pinned (OpenSpec.upto fnExactFedOkSpec)

/-- 'laws.FnLease', WHERE WHAT IT READS IS OF BULK AT MOST 1048576: true; the input reads as it did. -/
def fnLeaseUptoRow : OpenClaim := { program := "ytapjklbchbgiaaagreat", sum := "ae0ee699d06bf08bcd79057401e2f86c50db5e1b390a077eb5da5fc50cd8d36d", func := "loop.example/g00119/laws.FnLease", spec := "fnLease", inPlace := ["slices.overlaps[string]", "slices.overlaps[loop.example/g00119/impl.Value]", "internal/bytealg.abigen_runtime_cmpstring"], unfollowed := true, recurses := true, apart := false, narrowed := true }
def FnLeaseUptoSaid : Prop := fnLeaseUptoRow.holds Tryz.pinned (OpenSpec.upto fnLeaseSpec)

end Rows
end Go.Proofs.YtapjklbchbgiaaaGreat
