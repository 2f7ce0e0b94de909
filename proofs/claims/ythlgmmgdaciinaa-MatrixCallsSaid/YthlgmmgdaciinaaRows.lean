/-
  No cell of these rows narrows 'for every input' (looked for: loops, veiled, ifaces, maps, wideKeys, modest, calm, conditions, laid).
  DERIVED. THE GIVEN ROWS OF THIS SEAT. 7 by the template 'for every input the law returns true; each argument reads behind the call as it read before'; 0 by the template 'total and deterministic' (their statements: YthlgmmgdaciinaaTotals.lean).
  GIVEN WITH THE SEED: the statements are not yours to turn. If you find one false, say at which input.
  Laid BY PROGRAM, IN A SANDBOX (cutbox-rows.mjs): the forced cells as the released guide's own fill.sh prints them over the translation e37eb5a30e2be080… (all of the seat's roots in one cut). By AI agents, Wed Nov 11 2026. No macro, syntax, notation, axiom, sorry.
-/
import Derived.Test.YthlgmmgdaciinaaChecked
import GoSem.Claim
import GoSem.ClaimJoined
import GoSem.ClaimMapViews
import Derived.JoinedTies
import Derived.KernelRfl
namespace Go.Proofs.Ythlgmmgdaciinaa
/- THE CELL 'sum', in the pinned program and in every row, IS THE sha256 OF THE DUMP (.gsa) THAT YthlgmmgdaciinaaProg.lean LOADS. Nothing in Lean hashes anything: it is a label: what it is worth is what the hold of that sum in a sandbox is worth. -/
noncomputable def Try.pinned : Pinned := { name := "ythlgmmgdaciinaa", sum := "e37eb5a30e2be080c563acaa4948d7a531b12eba3d295fd8d6deb0865cdbc028", checked := Try.checked }
namespace Rows
def none {H : Type} : Left H := { results := [], args := [] }

/-- 'braidworklaw06.MatrixSolves': WHATEVER THE INPUT: true; the input reads as it did. -/
def matrixSolvesSpec : ChangeSpec := { name := "matrixSolves", fn := fun _ => fun
  | [d1, d2, d3] => { results := [.lit (.bool true)], args := [d1, d2, d3] }
  | _ => none }
def matrixSolvesRow : OpenClaim := { program := "ythlgmmgdaciinaa", sum := "e37eb5a30e2be080c563acaa4948d7a531b12eba3d295fd8d6deb0865cdbc028", func := "braidwork/braidworklaw06.MatrixSolves", spec := "matrixSolves", unfollowed := true, recurses := true, apart := false }
def MatrixSolvesSaid : Prop := matrixSolvesRow.holds Try.pinned (OpenSpec.ofChange matrixSolvesSpec)

/-- ITS FALSE NEIGHBOUR: 'it returns false'. Refute it at one input. -/
def matrixSolvesWrong : ChangeSpec := { name := "matrixSolves", fn := fun _ => fun
  | [d1, d2, d3] => { results := [.lit (.bool false)], args := [d1, d2, d3] }
  | _ => none }
def MatrixSolvesWrongFalsely : Prop := matrixSolvesRow.holds Try.pinned (OpenSpec.ofChange matrixSolvesWrong)

/-- 'braidworklaw06.MatrixInverses': WHATEVER THE INPUT: true; the input reads as it did. -/
def matrixInversesSpec : ChangeSpec := { name := "matrixInverses", fn := fun _ => fun
  | [d1, d2, d3] => { results := [.lit (.bool true)], args := [d1, d2, d3] }
  | _ => none }
def matrixInversesRow : OpenClaim := { program := "ythlgmmgdaciinaa", sum := "e37eb5a30e2be080c563acaa4948d7a531b12eba3d295fd8d6deb0865cdbc028", func := "braidwork/braidworklaw06.MatrixInverses", spec := "matrixInverses", unfollowed := true, recurses := true, apart := false }
def MatrixInversesSaid : Prop := matrixInversesRow.holds Try.pinned (OpenSpec.ofChange matrixInversesSpec)

/-- ITS FALSE NEIGHBOUR: 'it returns false'. Refute it at one input. -/
def matrixInversesWrong : ChangeSpec := { name := "matrixInverses", fn := fun _ => fun
  | [d1, d2, d3] => { results := [.lit (.bool false)], args := [d1, d2, d3] }
  | _ => none }
def MatrixInversesWrongFalsely : Prop := matrixInversesRow.holds Try.pinned (OpenSpec.ofChange matrixInversesWrong)

/-- 'braidworklaw06.MatrixRanks': WHATEVER THE INPUT: true; the input reads as it did. -/
def matrixRanksSpec : ChangeSpec := { name := "matrixRanks", fn := fun _ => fun
  | [d1, d2, d3, d4] => { results := [.lit (.bool true)], args := [d1, d2, d3, d4] }
  | _ => none }
def matrixRanksRow : OpenClaim := { program := "ythlgmmgdaciinaa", sum := "e37eb5a30e2be080c563acaa4948d7a531b12eba3d295fd8d6deb0865cdbc028", func := "braidwork/braidworklaw06.MatrixRanks", spec := "matrixRanks", unfollowed := true, recurses := true, apart := false }
def MatrixRanksSaid : Prop := matrixRanksRow.holds Try.pinned (OpenSpec.ofChange matrixRanksSpec)

/-- ITS FALSE NEIGHBOUR: 'it returns false'. Refute it at one input. -/
def matrixRanksWrong : ChangeSpec := { name := "matrixRanks", fn := fun _ => fun
  | [d1, d2, d3, d4] => { results := [.lit (.bool false)], args := [d1, d2, d3, d4] }
  | _ => none }
def MatrixRanksWrongFalsely : Prop := matrixRanksRow.holds Try.pinned (OpenSpec.ofChange matrixRanksWrong)

/-- 'braidworklaw06.MatrixForm': WHATEVER THE INPUT: true; the input reads as it did. -/
def matrixFormSpec : ChangeSpec := { name := "matrixForm", fn := fun _ => fun
  | [d1, d2, d3, d4] => { results := [.lit (.bool true)], args := [d1, d2, d3, d4] }
  | _ => none }
def matrixFormRow : OpenClaim := { program := "ythlgmmgdaciinaa", sum := "e37eb5a30e2be080c563acaa4948d7a531b12eba3d295fd8d6deb0865cdbc028", func := "braidwork/braidworklaw06.MatrixForm", spec := "matrixForm", unfollowed := true, recurses := true, apart := false }
def MatrixFormSaid : Prop := matrixFormRow.holds Try.pinned (OpenSpec.ofChange matrixFormSpec)

/-- ITS FALSE NEIGHBOUR: 'it returns false'. Refute it at one input. -/
def matrixFormWrong : ChangeSpec := { name := "matrixForm", fn := fun _ => fun
  | [d1, d2, d3, d4] => { results := [.lit (.bool false)], args := [d1, d2, d3, d4] }
  | _ => none }
def MatrixFormWrongFalsely : Prop := matrixFormRow.holds Try.pinned (OpenSpec.ofChange matrixFormWrong)

/-- 'braidworklaw06.MatrixKnown': WHATEVER THE INPUT: true; the input reads as it did. -/
def matrixKnownSpec : ChangeSpec := { name := "matrixKnown", fn := fun _ => fun
  | [] => { results := [.lit (.bool true)], args := [] }
  | _ => none }
def matrixKnownRow : OpenClaim := { program := "ythlgmmgdaciinaa", sum := "e37eb5a30e2be080c563acaa4948d7a531b12eba3d295fd8d6deb0865cdbc028", func := "braidwork/braidworklaw06.MatrixKnown", spec := "matrixKnown", unfollowed := true, recurses := true, apart := false }
def MatrixKnownSaid : Prop := matrixKnownRow.holds Try.pinned (OpenSpec.ofChange matrixKnownSpec)

/-- ITS FALSE NEIGHBOUR: 'it returns false'. Refute it at one input. -/
def matrixKnownWrong : ChangeSpec := { name := "matrixKnown", fn := fun _ => fun
  | [] => { results := [.lit (.bool false)], args := [] }
  | _ => none }
def MatrixKnownWrongFalsely : Prop := matrixKnownRow.holds Try.pinned (OpenSpec.ofChange matrixKnownWrong)

/-- 'braidworklaw06.MatrixCalls': WHATEVER THE INPUT: true; the input reads as it did. -/
def matrixCallsSpec : ChangeSpec := { name := "matrixCalls", fn := fun _ => fun
  | [d1, d2, d3] => { results := [.lit (.bool true)], args := [d1, d2, d3] }
  | _ => none }
def matrixCallsRow : OpenClaim := { program := "ythlgmmgdaciinaa", sum := "e37eb5a30e2be080c563acaa4948d7a531b12eba3d295fd8d6deb0865cdbc028", func := "braidwork/braidworklaw06.MatrixCalls", spec := "matrixCalls", unfollowed := true, recurses := true, apart := false }
def MatrixCallsSaid : Prop := matrixCallsRow.holds Try.pinned (OpenSpec.ofChange matrixCallsSpec)

/-- ITS FALSE NEIGHBOUR: 'it returns false'. Refute it at one input. -/
def matrixCallsWrong : ChangeSpec := { name := "matrixCalls", fn := fun _ => fun
  | [d1, d2, d3] => { results := [.lit (.bool false)], args := [d1, d2, d3] }
  | _ => none }
def MatrixCallsWrongFalsely : Prop := matrixCallsRow.holds Try.pinned (OpenSpec.ofChange matrixCallsWrong)

/-- 'braidworklaw06.MatrixProducts': WHATEVER THE INPUT: true; the input reads as it did. -/
def matrixProductsSpec : ChangeSpec := { name := "matrixProducts", fn := fun _ => fun
  | [d1, d2, d3, d4] => { results := [.lit (.bool true)], args := [d1, d2, d3, d4] }
  | _ => none }
def matrixProductsRow : OpenClaim := { program := "ythlgmmgdaciinaa", sum := "e37eb5a30e2be080c563acaa4948d7a531b12eba3d295fd8d6deb0865cdbc028", func := "braidwork/braidworklaw06.MatrixProducts", spec := "matrixProducts", unfollowed := true, recurses := true, apart := false }
def MatrixProductsSaid : Prop := matrixProductsRow.holds Try.pinned (OpenSpec.ofChange matrixProductsSpec)

/-- ITS FALSE NEIGHBOUR: 'it returns false'. Refute it at one input. -/
def matrixProductsWrong : ChangeSpec := { name := "matrixProducts", fn := fun _ => fun
  | [d1, d2, d3, d4] => { results := [.lit (.bool false)], args := [d1, d2, d3, d4] }
  | _ => none }
def MatrixProductsWrongFalsely : Prop := matrixProductsRow.holds Try.pinned (OpenSpec.ofChange matrixProductsWrong)

/- THE SECOND FORM. 'bulk': how many values and letters a reading holds, each counted each time it is reached (what is shared counts as often as it is met; a slice's spare places count too). A statement '..UptoSaid' is the law's where the arguments, and the package variables that the reading takes, are together of bulk at most 1048576: NARROWER than '..Said'. Prove '..Said' where nothing that the law and all that it calls make is longer than what came in: it says more and counts as full. Else prove '..UptoSaid'. A law counts once. -/
mutual
def uptoBulk {H : Type} : DataW H → Nat
  | .lit (.string bytes) => bytes.length + 1
  | .lit _ => 1
  | .nil => 1
  | .ptr d => uptoBulk d + 1
  | .slice elems spare => uptoBulkAll elems + uptoBulkAll spare + 1
  | .agg parts => uptoBulkAll parts + 1
  | .iface _ d => uptoBulk d + 1
  | .map entries => uptoBulkEntries entries + 1
  | .held _ => 1
def uptoBulkAll {H : Type} : List (DataW H) → Nat
  | [] => 0
  | d :: r => uptoBulk d + uptoBulkAll r
def uptoBulkEntries {H : Type} : List (Lit × DataW H) → Nat
  | [] => 0
  | x :: r => uptoBulkEntry x + uptoBulkEntries r
def uptoBulkEntry {H : Type} : Lit × DataW H → Nat
  | (.string bytes, d) => bytes.length + uptoBulk d + 1
  | (_, d) => uptoBulk d + 1
 end
def uptoSmall : (H : Type) → List (DataW H) → Bool := fun _ ds => decide (uptoBulkAll ds ≤ 1048576)
def OpenSpec.upto (s : _root_.Go.ChangeSpec) : _root_.Go.OpenSpec := { _root_.Go.OpenSpec.ofChange s with cond := some uptoSmall }

/-- 'braidworklaw06.MatrixSolves', WHERE WHAT IT READS IS OF BULK AT MOST 1048576: true; the input reads as it did. -/
def matrixSolvesUptoRow : OpenClaim := { program := "ythlgmmgdaciinaa", sum := "e37eb5a30e2be080c563acaa4948d7a531b12eba3d295fd8d6deb0865cdbc028", func := "braidwork/braidworklaw06.MatrixSolves", spec := "matrixSolves", unfollowed := true, recurses := true, apart := false, narrowed := true }
def MatrixSolvesUptoSaid : Prop := matrixSolvesUptoRow.holds Try.pinned (OpenSpec.upto matrixSolvesSpec)

/-- 'braidworklaw06.MatrixInverses', WHERE WHAT IT READS IS OF BULK AT MOST 1048576: true; the input reads as it did. -/
def matrixInversesUptoRow : OpenClaim := { program := "ythlgmmgdaciinaa", sum := "e37eb5a30e2be080c563acaa4948d7a531b12eba3d295fd8d6deb0865cdbc028", func := "braidwork/braidworklaw06.MatrixInverses", spec := "matrixInverses", unfollowed := true, recurses := true, apart := false, narrowed := true }
def MatrixInversesUptoSaid : Prop := matrixInversesUptoRow.holds Try.pinned (OpenSpec.upto matrixInversesSpec)

/-- 'braidworklaw06.MatrixRanks', WHERE WHAT IT READS IS OF BULK AT MOST 1048576: true; the input reads as it did. -/
def matrixRanksUptoRow : OpenClaim := { program := "ythlgmmgdaciinaa", sum := "e37eb5a30e2be080c563acaa4948d7a531b12eba3d295fd8d6deb0865cdbc028", func := "braidwork/braidworklaw06.MatrixRanks", spec := "matrixRanks", unfollowed := true, recurses := true, apart := false, narrowed := true }
def MatrixRanksUptoSaid : Prop := matrixRanksUptoRow.holds Try.pinned (OpenSpec.upto matrixRanksSpec)

/-- 'braidworklaw06.MatrixForm', WHERE WHAT IT READS IS OF BULK AT MOST 1048576: true; the input reads as it did. -/
def matrixFormUptoRow : OpenClaim := { program := "ythlgmmgdaciinaa", sum := "e37eb5a30e2be080c563acaa4948d7a531b12eba3d295fd8d6deb0865cdbc028", func := "braidwork/braidworklaw06.MatrixForm", spec := "matrixForm", unfollowed := true, recurses := true, apart := false, narrowed := true }
def MatrixFormUptoSaid : Prop := matrixFormUptoRow.holds Try.pinned (OpenSpec.upto matrixFormSpec)

/-- 'braidworklaw06.MatrixKnown', WHERE WHAT IT READS IS OF BULK AT MOST 1048576: true; the input reads as it did. -/
def matrixKnownUptoRow : OpenClaim := { program := "ythlgmmgdaciinaa", sum := "e37eb5a30e2be080c563acaa4948d7a531b12eba3d295fd8d6deb0865cdbc028", func := "braidwork/braidworklaw06.MatrixKnown", spec := "matrixKnown", unfollowed := true, recurses := true, apart := false, narrowed := true }
def MatrixKnownUptoSaid : Prop := matrixKnownUptoRow.holds Try.pinned (OpenSpec.upto matrixKnownSpec)

/-- 'braidworklaw06.MatrixCalls', WHERE WHAT IT READS IS OF BULK AT MOST 1048576: true; the input reads as it did. -/
def matrixCallsUptoRow : OpenClaim := { program := "ythlgmmgdaciinaa", sum := "e37eb5a30e2be080c563acaa4948d7a531b12eba3d295fd8d6deb0865cdbc028", func := "braidwork/braidworklaw06.MatrixCalls", spec := "matrixCalls", unfollowed := true, recurses := true, apart := false, narrowed := true }
def MatrixCallsUptoSaid : Prop := matrixCallsUptoRow.holds Try.pinned (OpenSpec.upto matrixCallsSpec)

/-- 'braidworklaw06.MatrixProducts', WHERE WHAT IT READS IS OF BULK AT MOST 1048576: true; the input reads as it did. -/
def matrixProductsUptoRow : OpenClaim := { program := "ythlgmmgdaciinaa", sum := "e37eb5a30e2be080c563acaa4948d7a531b12eba3d295fd8d6deb0865cdbc028", func := "braidwork/braidworklaw06.MatrixProducts", spec := "matrixProducts", unfollowed := true, recurses := true, apart := false, narrowed := true }
def MatrixProductsUptoSaid : Prop := matrixProductsUptoRow.holds Try.pinned (OpenSpec.upto matrixProductsSpec)

end Rows
end Go.Proofs.Ythlgmmgdaciinaa
