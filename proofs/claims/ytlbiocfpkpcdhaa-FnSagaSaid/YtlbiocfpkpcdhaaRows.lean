/-
  No cell of these rows narrows 'for every input' (looked for: loops, veiled, ifaces, maps, wideKeys, modest, calm, conditions, laid).
  DERIVED. THE GIVEN ROWS OF THIS SEAT. 5 by the template 'for every input the law returns true; each argument reads behind the call as it read before'; 0 by the template 'total and deterministic' (their statements: YtlbiocfpkpcdhaaTotals.lean).
  GIVEN WITH THE SEED: the statements are not yours to turn. If you find one false, say at which input.
  Laid BY PROGRAM, IN A SANDBOX (cutbox-rows.mjs): the forced cells as the released guide's own fill.sh prints them over the translation 6b56a3b22008495e… (all of the seat's roots in one cut). By AI agents, Wed Nov 11 2026. No macro, syntax, notation, axiom, sorry.
-/
import Derived.Test.YtlbiocfpkpcdhaaChecked
import GoSem.Claim
import GoSem.ClaimJoined
import GoSem.ClaimMapViews
import Derived.JoinedTies
import Derived.KernelRfl
namespace Go.Proofs.Ytlbiocfpkpcdhaa
/- THE CELL 'sum', in the pinned program and in every row, IS THE sha256 OF THE DUMP (.gsa) THAT YtlbiocfpkpcdhaaProg.lean LOADS. Nothing in Lean hashes anything: it is a label: what it is worth is what the hold of that sum in a sandbox is worth. -/
noncomputable def Try.pinned : Pinned := { name := "ytlbiocfpkpcdhaa", sum := "6b56a3b22008495e5e8ec6b6408a3b5b254a5ba5ed169b1cd89ccade2ff031f1", checked := Try.checked }
namespace Rows
def none {H : Type} : Left H := { results := [], args := [] }

/-- 'laws.FnExactDefBytes': WHATEVER THE INPUT: true; the input reads as it did. -/
def fnExactDefBytesSpec : ChangeSpec := { name := "fnExactDefBytes", fn := fun _ => fun
  | [d] => { results := [.lit (.bool true)], args := [d] }
  | _ => none }
def fnExactDefBytesRow : OpenClaim := { program := "ytlbiocfpkpcdhaa", sum := "6b56a3b22008495e5e8ec6b6408a3b5b254a5ba5ed169b1cd89ccade2ff031f1", func := "loop.example/g00271/laws.FnExactDefBytes", spec := "fnExactDefBytes", inPlace := ["internal/abi.NoEscape"], unfollowed := true, recurses := true, apart := false }
def FnExactDefBytesSaid : Prop := fnExactDefBytesRow.holds Try.pinned (OpenSpec.ofChange fnExactDefBytesSpec)

/-- ITS FALSE NEIGHBOUR: 'it returns false'. Refute it at one input. -/
def fnExactDefBytesWrong : ChangeSpec := { name := "fnExactDefBytes", fn := fun _ => fun
  | [d] => { results := [.lit (.bool false)], args := [d] }
  | _ => none }
def FnExactDefBytesWrongFalsely : Prop := fnExactDefBytesRow.holds Try.pinned (OpenSpec.ofChange fnExactDefBytesWrong)

/-- 'laws.FnEnds': WHATEVER THE INPUT: true; the input reads as it did. -/
def fnEndsSpec : ChangeSpec := { name := "fnEnds", fn := fun _ => fun
  | [d1, d2] => { results := [.lit (.bool true)], args := [d1, d2] }
  | _ => none }
def fnEndsRow : OpenClaim := { program := "ytlbiocfpkpcdhaa", sum := "6b56a3b22008495e5e8ec6b6408a3b5b254a5ba5ed169b1cd89ccade2ff031f1", func := "loop.example/g00271/laws.FnEnds", spec := "fnEnds", unfollowed := true, recurses := true, apart := false }
def FnEndsSaid : Prop := fnEndsRow.holds Try.pinned (OpenSpec.ofChange fnEndsSpec)

/-- ITS FALSE NEIGHBOUR: 'it returns false'. Refute it at one input. -/
def fnEndsWrong : ChangeSpec := { name := "fnEnds", fn := fun _ => fun
  | [d1, d2] => { results := [.lit (.bool false)], args := [d1, d2] }
  | _ => none }
def FnEndsWrongFalsely : Prop := fnEndsRow.holds Try.pinned (OpenSpec.ofChange fnEndsWrong)

/-- 'laws.FnDef': WHATEVER THE INPUT: true; the input reads as it did. -/
def fnDefSpec : ChangeSpec := { name := "fnDef", fn := fun _ => fun
  | [d1, d2] => { results := [.lit (.bool true)], args := [d1, d2] }
  | _ => none }
def fnDefRow : OpenClaim := { program := "ytlbiocfpkpcdhaa", sum := "6b56a3b22008495e5e8ec6b6408a3b5b254a5ba5ed169b1cd89ccade2ff031f1", func := "loop.example/g00271/laws.FnDef", spec := "fnDef", inPlace := ["internal/abi.NoEscape"], unfollowed := true, recurses := true, apart := false }
def FnDefSaid : Prop := fnDefRow.holds Try.pinned (OpenSpec.ofChange fnDefSpec)

/-- ITS FALSE NEIGHBOUR: 'it returns false'. Refute it at one input. -/
def fnDefWrong : ChangeSpec := { name := "fnDef", fn := fun _ => fun
  | [d1, d2] => { results := [.lit (.bool false)], args := [d1, d2] }
  | _ => none }
def FnDefWrongFalsely : Prop := fnDefRow.holds Try.pinned (OpenSpec.ofChange fnDefWrong)

/-- 'laws.FnSaga': WHATEVER THE INPUT: true; the input reads as it did. -/
def fnSagaSpec : ChangeSpec := { name := "fnSaga", fn := fun _ => fun
  | [d1, d2] => { results := [.lit (.bool true)], args := [d1, d2] }
  | _ => none }
def fnSagaRow : OpenClaim := { program := "ytlbiocfpkpcdhaa", sum := "6b56a3b22008495e5e8ec6b6408a3b5b254a5ba5ed169b1cd89ccade2ff031f1", func := "loop.example/g00271/laws.FnSaga", spec := "fnSaga", unfollowed := true, recurses := true, apart := false }
def FnSagaSaid : Prop := fnSagaRow.holds Try.pinned (OpenSpec.ofChange fnSagaSpec)

/-- ITS FALSE NEIGHBOUR: 'it returns false'. Refute it at one input. -/
def fnSagaWrong : ChangeSpec := { name := "fnSaga", fn := fun _ => fun
  | [d1, d2] => { results := [.lit (.bool false)], args := [d1, d2] }
  | _ => none }
def FnSagaWrongFalsely : Prop := fnSagaRow.holds Try.pinned (OpenSpec.ofChange fnSagaWrong)

/-- 'laws.FnSchema': WHATEVER THE INPUT: true; the input reads as it did. -/
def fnSchemaSpec : ChangeSpec := { name := "fnSchema", fn := fun _ => fun
  | [d1, d2] => { results := [.lit (.bool true)], args := [d1, d2] }
  | _ => none }
def fnSchemaRow : OpenClaim := { program := "ytlbiocfpkpcdhaa", sum := "6b56a3b22008495e5e8ec6b6408a3b5b254a5ba5ed169b1cd89ccade2ff031f1", func := "loop.example/g00271/laws.FnSchema", spec := "fnSchema", inPlace := ["internal/abi.NoEscape"], unfollowed := true, recurses := true, apart := false }
def FnSchemaSaid : Prop := fnSchemaRow.holds Try.pinned (OpenSpec.ofChange fnSchemaSpec)

/-- ITS FALSE NEIGHBOUR: 'it returns false'. Refute it at one input. -/
def fnSchemaWrong : ChangeSpec := { name := "fnSchema", fn := fun _ => fun
  | [d1, d2] => { results := [.lit (.bool false)], args := [d1, d2] }
  | _ => none }
def FnSchemaWrongFalsely : Prop := fnSchemaRow.holds Try.pinned (OpenSpec.ofChange fnSchemaWrong)

/- THE SECOND FORM. 'bulk': how many values and letters a reading holds, each counted each time it is reached (what is shared counts as often as it is met; a slice's spare places count too). A statement '..UptoSaid' is the law's where the arguments, and the package variables that the reading takes, are together of bulk at most 1048576: NARROWER than '..Said'. Prove '..Said' where nothing that the law and all that it calls make is longer than what came in: it says more and counts as full. Else prove '..UptoSaid'. A law counts once. -/
mutual
def uptoBulk {H : Type} : DataW H → Nat
  | .lit (.string bytes) => bytes.length + 1
  | .lit _ => 1
  | .nil => 1
  | .ptr d => uptoBulk d + 1
  | .slice elems spare => uptoBulkAll elems + uptoBulkAll spare + 1
  | .agg parts => uptoBulkAll parts + 1
  | .iface _ d => uptoBulk d + 1
  | .map entries => uptoBulkEntries entries + 1
  | .held _ => 1
def uptoBulkAll {H : Type} : List (DataW H) → Nat
  | [] => 0
  | d :: r => uptoBulk d + uptoBulkAll r
def uptoBulkEntries {H : Type} : List (Lit × DataW H) → Nat
  | [] => 0
  | x :: r => uptoBulkEntry x + uptoBulkEntries r
def uptoBulkEntry {H : Type} : Lit × DataW H → Nat
  | (.string bytes, d) => bytes.length + uptoBulk d + 1
  | (_, d) => uptoBulk d + 1
 end
def uptoSmall : (H : Type) → List (DataW H) → Bool := fun _ ds => decide (uptoBulkAll ds ≤ 1048576)
def OpenSpec.upto (s : _root_.Go.ChangeSpec) : _root_.Go.OpenSpec := { _root_.Go.OpenSpec.ofChange s with cond := some uptoSmall }

/-- 'laws.FnExactDefBytes', WHERE WHAT IT READS IS OF BULK AT MOST 1048576: true; the input reads as it did. -/
def fnExactDefBytesUptoRow : OpenClaim := { program := "ytlbiocfpkpcdhaa", sum := "6b56a3b22008495e5e8ec6b6408a3b5b254a5ba5ed169b1cd89ccade2ff031f1", func := "loop.example/g00271/laws.FnExactDefBytes", spec := "fnExactDefBytes", inPlace := ["internal/abi.NoEscape"], unfollowed := true, recurses := true, apart := false, narrowed := true }
def FnExactDefBytesUptoSaid : Prop := fnExactDefBytesUptoRow.holds Try.pinned (OpenSpec.upto fnExactDefBytesSpec)

/-- 'laws.FnEnds', WHERE WHAT IT READS IS OF BULK AT MOST 1048576: true; the input reads as it did. -/
def fnEndsUptoRow : OpenClaim := { program := "ytlbiocfpkpcdhaa", sum := "6b56a3b22008495e5e8ec6b6408a3b5b254a5ba5ed169b1cd89ccade2ff031f1", func := "loop.example/g00271/laws.FnEnds", spec := "fnEnds", unfollowed := true, recurses := true, apart := false, narrowed := true }
def FnEndsUptoSaid : Prop := fnEndsUptoRow.holds Try.pinned (OpenSpec.upto fnEndsSpec)

/-- 'laws.FnDef', WHERE WHAT IT READS IS OF BULK AT MOST 1048576: true; the input reads as it did. -/
def fnDefUptoRow : OpenClaim := { program := "ytlbiocfpkpcdhaa", sum := "6b56a3b22008495e5e8ec6b6408a3b5b254a5ba5ed169b1cd89ccade2ff031f1", func := "loop.example/g00271/laws.FnDef", spec := "fnDef", inPlace := ["internal/abi.NoEscape"], unfollowed := true, recurses := true, apart := false, narrowed := true }
def FnDefUptoSaid : Prop := fnDefUptoRow.holds Try.pinned (OpenSpec.upto fnDefSpec)

/-- 'laws.FnSaga', WHERE WHAT IT READS IS OF BULK AT MOST 1048576: true; the input reads as it did. -/
def fnSagaUptoRow : OpenClaim := { program := "ytlbiocfpkpcdhaa", sum := "6b56a3b22008495e5e8ec6b6408a3b5b254a5ba5ed169b1cd89ccade2ff031f1", func := "loop.example/g00271/laws.FnSaga", spec := "fnSaga", unfollowed := true, recurses := true, apart := false, narrowed := true }
def FnSagaUptoSaid : Prop := fnSagaUptoRow.holds Try.pinned (OpenSpec.upto fnSagaSpec)

/-- 'laws.FnSchema', WHERE WHAT IT READS IS OF BULK AT MOST 1048576: true; the input reads as it did. -/
def fnSchemaUptoRow : OpenClaim := { program := "ytlbiocfpkpcdhaa", sum := "6b56a3b22008495e5e8ec6b6408a3b5b254a5ba5ed169b1cd89ccade2ff031f1", func := "loop.example/g00271/laws.FnSchema", spec := "fnSchema", inPlace := ["internal/abi.NoEscape"], unfollowed := true, recurses := true, apart := false, narrowed := true }
def FnSchemaUptoSaid : Prop := fnSchemaUptoRow.holds Try.pinned (OpenSpec.upto fnSchemaSpec)

end Rows
end Go.Proofs.Ytlbiocfpkpcdhaa
