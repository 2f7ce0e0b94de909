/-
  No cell of these rows narrows 'for every input' (looked for: loops, veiled, ifaces, maps, wideKeys, modest, calm, conditions, laid).
  DERIVED. THE GIVEN ROWS OF THIS SEAT. 7 by the template 'for every input the law returns true; each argument reads behind the call as it read before'; 0 by the template 'total and deterministic' (their statements: YtpipmhofekfkgaaTotals.lean).
  GIVEN WITH THE SEED: the statements are not yours to turn. If you find one false, say at which input.
  Laid BY PROGRAM, IN A SANDBOX (cutbox-rows.mjs): the forced cells as the released guide's own fill.sh prints them over the translation 5868f753e7074ba2… (all of the seat's roots in one cut). By AI agents, Wed Nov 11 2026. No macro, syntax, notation, axiom, sorry.
-/
import Derived.Test.YtpipmhofekfkgaaChecked
import GoSem.Claim
import GoSem.ClaimJoined
import GoSem.ClaimMapViews
import Derived.JoinedTies
import Derived.KernelRfl
namespace Go.Proofs.Ytpipmhofekfkgaa
/- THE CELL 'sum', in the pinned program and in every row, IS THE sha256 OF THE DUMP (.gsa) THAT YtpipmhofekfkgaaProg.lean LOADS. Nothing in Lean hashes anything: it is a label: what it is worth is what the hold of that sum in a sandbox is worth. -/
noncomputable def Try.pinned : Pinned := { name := "ytpipmhofekfkgaa", sum := "5868f753e7074ba26af1dc198ddd4260f62275d99d416ffd8feda368502510eb", checked := Try.checked }
namespace Rows
def none {H : Type} : Left H := { results := [], args := [] }

/-- 'braidworklaw02.VectorDual': WHATEVER THE INPUT: true; the input reads as it did. -/
def vectorDualSpec : ChangeSpec := { name := "vectorDual", fn := fun _ => fun
  | [d1, d2, d3] => { results := [.lit (.bool true)], args := [d1, d2, d3] }
  | _ => none }
def vectorDualRow : OpenClaim := { program := "ytpipmhofekfkgaa", sum := "5868f753e7074ba26af1dc198ddd4260f62275d99d416ffd8feda368502510eb", func := "braidwork/braidworklaw02.VectorDual", spec := "vectorDual", unfollowed := true, recurses := true, apart := false }
def VectorDualSaid : Prop := vectorDualRow.holds Try.pinned (OpenSpec.ofChange vectorDualSpec)

/-- ITS FALSE NEIGHBOUR: 'it returns false'. Refute it at one input. -/
def vectorDualWrong : ChangeSpec := { name := "vectorDual", fn := fun _ => fun
  | [d1, d2, d3] => { results := [.lit (.bool false)], args := [d1, d2, d3] }
  | _ => none }
def VectorDualWrongFalsely : Prop := vectorDualRow.holds Try.pinned (OpenSpec.ofChange vectorDualWrong)

/-- 'braidworklaw02.VectorSums': WHATEVER THE INPUT: true; the input reads as it did. -/
def vectorSumsSpec : ChangeSpec := { name := "vectorSums", fn := fun _ => fun
  | [d1, d2, d3] => { results := [.lit (.bool true)], args := [d1, d2, d3] }
  | _ => none }
def vectorSumsRow : OpenClaim := { program := "ytpipmhofekfkgaa", sum := "5868f753e7074ba26af1dc198ddd4260f62275d99d416ffd8feda368502510eb", func := "braidwork/braidworklaw02.VectorSums", spec := "vectorSums", unfollowed := true, recurses := true, apart := false }
def VectorSumsSaid : Prop := vectorSumsRow.holds Try.pinned (OpenSpec.ofChange vectorSumsSpec)

/-- ITS FALSE NEIGHBOUR: 'it returns false'. Refute it at one input. -/
def vectorSumsWrong : ChangeSpec := { name := "vectorSums", fn := fun _ => fun
  | [d1, d2, d3] => { results := [.lit (.bool false)], args := [d1, d2, d3] }
  | _ => none }
def VectorSumsWrongFalsely : Prop := vectorSumsRow.holds Try.pinned (OpenSpec.ofChange vectorSumsWrong)

/-- 'braidworklaw02.VectorSpace': WHATEVER THE INPUT: true; the input reads as it did. -/
def vectorSpaceSpec : ChangeSpec := { name := "vectorSpace", fn := fun _ => fun
  | [d1, d2, d3, d4, d5] => { results := [.lit (.bool true)], args := [d1, d2, d3, d4, d5] }
  | _ => none }
def vectorSpaceRow : OpenClaim := { program := "ytpipmhofekfkgaa", sum := "5868f753e7074ba26af1dc198ddd4260f62275d99d416ffd8feda368502510eb", func := "braidwork/braidworklaw02.VectorSpace", spec := "vectorSpace", unfollowed := true, recurses := true, apart := false }
def VectorSpaceSaid : Prop := vectorSpaceRow.holds Try.pinned (OpenSpec.ofChange vectorSpaceSpec)

/-- ITS FALSE NEIGHBOUR: 'it returns false'. Refute it at one input. -/
def vectorSpaceWrong : ChangeSpec := { name := "vectorSpace", fn := fun _ => fun
  | [d1, d2, d3, d4, d5] => { results := [.lit (.bool false)], args := [d1, d2, d3, d4, d5] }
  | _ => none }
def VectorSpaceWrongFalsely : Prop := vectorSpaceRow.holds Try.pinned (OpenSpec.ofChange vectorSpaceWrong)

/-- 'braidworklaw02.VectorCombines': WHATEVER THE INPUT: true; the input reads as it did. -/
def vectorCombinesSpec : ChangeSpec := { name := "vectorCombines", fn := fun _ => fun
  | [d1, d2, d3, d4] => { results := [.lit (.bool true)], args := [d1, d2, d3, d4] }
  | _ => none }
def vectorCombinesRow : OpenClaim := { program := "ytpipmhofekfkgaa", sum := "5868f753e7074ba26af1dc198ddd4260f62275d99d416ffd8feda368502510eb", func := "braidwork/braidworklaw02.VectorCombines", spec := "vectorCombines", unfollowed := true, recurses := true, apart := false }
def VectorCombinesSaid : Prop := vectorCombinesRow.holds Try.pinned (OpenSpec.ofChange vectorCombinesSpec)

/-- ITS FALSE NEIGHBOUR: 'it returns false'. Refute it at one input. -/
def vectorCombinesWrong : ChangeSpec := { name := "vectorCombines", fn := fun _ => fun
  | [d1, d2, d3, d4] => { results := [.lit (.bool false)], args := [d1, d2, d3, d4] }
  | _ => none }
def VectorCombinesWrongFalsely : Prop := vectorCombinesRow.holds Try.pinned (OpenSpec.ofChange vectorCombinesWrong)

/-- 'braidworklaw02.VectorLinear': WHATEVER THE INPUT: true; the input reads as it did. -/
def vectorLinearSpec : ChangeSpec := { name := "vectorLinear", fn := fun _ => fun
  | [d1, d2, d3, d4, d5] => { results := [.lit (.bool true)], args := [d1, d2, d3, d4, d5] }
  | _ => none }
def vectorLinearRow : OpenClaim := { program := "ytpipmhofekfkgaa", sum := "5868f753e7074ba26af1dc198ddd4260f62275d99d416ffd8feda368502510eb", func := "braidwork/braidworklaw02.VectorLinear", spec := "vectorLinear", unfollowed := true, recurses := true, apart := false }
def VectorLinearSaid : Prop := vectorLinearRow.holds Try.pinned (OpenSpec.ofChange vectorLinearSpec)

/-- ITS FALSE NEIGHBOUR: 'it returns false'. Refute it at one input. -/
def vectorLinearWrong : ChangeSpec := { name := "vectorLinear", fn := fun _ => fun
  | [d1, d2, d3, d4, d5] => { results := [.lit (.bool false)], args := [d1, d2, d3, d4, d5] }
  | _ => none }
def VectorLinearWrongFalsely : Prop := vectorLinearRow.holds Try.pinned (OpenSpec.ofChange vectorLinearWrong)

/-- 'braidworklaw02.VectorUnits': WHATEVER THE INPUT: true; the input reads as it did. -/
def vectorUnitsSpec : ChangeSpec := { name := "vectorUnits", fn := fun _ => fun
  | [d] => { results := [.lit (.bool true)], args := [d] }
  | _ => none }
def vectorUnitsRow : OpenClaim := { program := "ytpipmhofekfkgaa", sum := "5868f753e7074ba26af1dc198ddd4260f62275d99d416ffd8feda368502510eb", func := "braidwork/braidworklaw02.VectorUnits", spec := "vectorUnits", unfollowed := true, recurses := true, apart := false }
def VectorUnitsSaid : Prop := vectorUnitsRow.holds Try.pinned (OpenSpec.ofChange vectorUnitsSpec)

/-- ITS FALSE NEIGHBOUR: 'it returns false'. Refute it at one input. -/
def vectorUnitsWrong : ChangeSpec := { name := "vectorUnits", fn := fun _ => fun
  | [d] => { results := [.lit (.bool false)], args := [d] }
  | _ => none }
def VectorUnitsWrongFalsely : Prop := vectorUnitsRow.holds Try.pinned (OpenSpec.ofChange vectorUnitsWrong)

/-- 'braidworklaw02.VectorKnown': WHATEVER THE INPUT: true; the input reads as it did. -/
def vectorKnownSpec : ChangeSpec := { name := "vectorKnown", fn := fun _ => fun
  | [] => { results := [.lit (.bool true)], args := [] }
  | _ => none }
def vectorKnownRow : OpenClaim := { program := "ytpipmhofekfkgaa", sum := "5868f753e7074ba26af1dc198ddd4260f62275d99d416ffd8feda368502510eb", func := "braidwork/braidworklaw02.VectorKnown", spec := "vectorKnown", unfollowed := true, recurses := true, apart := false }
def VectorKnownSaid : Prop := vectorKnownRow.holds Try.pinned (OpenSpec.ofChange vectorKnownSpec)

/-- ITS FALSE NEIGHBOUR: 'it returns false'. Refute it at one input. -/
def vectorKnownWrong : ChangeSpec := { name := "vectorKnown", fn := fun _ => fun
  | [] => { results := [.lit (.bool false)], args := [] }
  | _ => none }
def VectorKnownWrongFalsely : Prop := vectorKnownRow.holds Try.pinned (OpenSpec.ofChange vectorKnownWrong)

/- THE SECOND FORM. 'bulk': how many values and letters a reading holds, each counted each time it is reached (what is shared counts as often as it is met; a slice's spare places count too). A statement '..UptoSaid' is the law's where the arguments, and the package variables that the reading takes, are together of bulk at most 1048576: NARROWER than '..Said'. Prove '..Said' where nothing that the law and all that it calls make is longer than what came in: it says more and counts as full. Else prove '..UptoSaid'. A law counts once. -/
mutual
def uptoBulk {H : Type} : DataW H → Nat
  | .lit (.string bytes) => bytes.length + 1
  | .lit _ => 1
  | .nil => 1
  | .ptr d => uptoBulk d + 1
  | .slice elems spare => uptoBulkAll elems + uptoBulkAll spare + 1
  | .agg parts => uptoBulkAll parts + 1
  | .iface _ d => uptoBulk d + 1
  | .map entries => uptoBulkEntries entries + 1
  | .held _ => 1
def uptoBulkAll {H : Type} : List (DataW H) → Nat
  | [] => 0
  | d :: r => uptoBulk d + uptoBulkAll r
def uptoBulkEntries {H : Type} : List (Lit × DataW H) → Nat
  | [] => 0
  | x :: r => uptoBulkEntry x + uptoBulkEntries r
def uptoBulkEntry {H : Type} : Lit × DataW H → Nat
  | (.string bytes, d) => bytes.length + uptoBulk d + 1
  | (_, d) => uptoBulk d + 1
 end
def uptoSmall : (H : Type) → List (DataW H) → Bool := fun _ ds => decide (uptoBulkAll ds ≤ 1048576)
def OpenSpec.upto (s : _root_.Go.ChangeSpec) : _root_.Go.OpenSpec := { _root_.Go.OpenSpec.ofChange s with cond := some uptoSmall }

/-- 'braidworklaw02.VectorDual', WHERE WHAT IT READS IS OF BULK AT MOST 1048576: true; the input reads as it did. -/
def vectorDualUptoRow : OpenClaim := { program := "ytpipmhofekfkgaa", sum := "5868f753e7074ba26af1dc198ddd4260f62275d99d416ffd8feda368502510eb", func := "braidwork/braidworklaw02.VectorDual", spec := "vectorDual", unfollowed := true, recurses := true, apart := false, narrowed := true }
def VectorDualUptoSaid : Prop := vectorDualUptoRow.holds Try.pinned (OpenSpec.upto vectorDualSpec)

/-- 'braidworklaw02.VectorSums', WHERE WHAT IT READS IS OF BULK AT MOST 1048576: true; the input reads as it did. -/
def vectorSumsUptoRow : OpenClaim := { program := "ytpipmhofekfkgaa", sum := "5868f753e7074ba26af1dc198ddd4260f62275d99d416ffd8feda368502510eb", func := "braidwork/braidworklaw02.VectorSums", spec := "vectorSums", unfollowed := true, recurses := true, apart := false, narrowed := true }
def VectorSumsUptoSaid : Prop := vectorSumsUptoRow.holds Try.pinned (OpenSpec.upto vectorSumsSpec)

/-- 'braidworklaw02.VectorSpace', WHERE WHAT IT READS IS OF BULK AT MOST 1048576: true; the input reads as it did. -/
def vectorSpaceUptoRow : OpenClaim := { program := "ytpipmhofekfkgaa", sum := "5868f753e7074ba26af1dc198ddd4260f62275d99d416ffd8feda368502510eb", func := "braidwork/braidworklaw02.VectorSpace", spec := "vectorSpace", unfollowed := true, recurses := true, apart := false, narrowed := true }
def VectorSpaceUptoSaid : Prop := vectorSpaceUptoRow.holds Try.pinned (OpenSpec.upto vectorSpaceSpec)

/-- 'braidworklaw02.VectorCombines', WHERE WHAT IT READS IS OF BULK AT MOST 1048576: true; the input reads as it did. -/
def vectorCombinesUptoRow : OpenClaim := { program := "ytpipmhofekfkgaa", sum := "5868f753e7074ba26af1dc198ddd4260f62275d99d416ffd8feda368502510eb", func := "braidwork/braidworklaw02.VectorCombines", spec := "vectorCombines", unfollowed := true, recurses := true, apart := false, narrowed := true }
def VectorCombinesUptoSaid : Prop := vectorCombinesUptoRow.holds Try.pinned (OpenSpec.upto vectorCombinesSpec)

/-- 'braidworklaw02.VectorLinear', WHERE WHAT IT READS IS OF BULK AT MOST 1048576: true; the input reads as it did. -/
def vectorLinearUptoRow : OpenClaim := { program := "ytpipmhofekfkgaa", sum := "5868f753e7074ba26af1dc198ddd4260f62275d99d416ffd8feda368502510eb", func := "braidwork/braidworklaw02.VectorLinear", spec := "vectorLinear", unfollowed := true, recurses := true, apart := false, narrowed := true }
def VectorLinearUptoSaid : Prop := vectorLinearUptoRow.holds Try.pinned (OpenSpec.upto vectorLinearSpec)

/-- 'braidworklaw02.VectorUnits', WHERE WHAT IT READS IS OF BULK AT MOST 1048576: true; the input reads as it did. -/
def vectorUnitsUptoRow : OpenClaim := { program := "ytpipmhofekfkgaa", sum := "5868f753e7074ba26af1dc198ddd4260f62275d99d416ffd8feda368502510eb", func := "braidwork/braidworklaw02.VectorUnits", spec := "vectorUnits", unfollowed := true, recurses := true, apart := false, narrowed := true }
def VectorUnitsUptoSaid : Prop := vectorUnitsUptoRow.holds Try.pinned (OpenSpec.upto vectorUnitsSpec)

/-- 'braidworklaw02.VectorKnown', WHERE WHAT IT READS IS OF BULK AT MOST 1048576: true; the input reads as it did. -/
def vectorKnownUptoRow : OpenClaim := { program := "ytpipmhofekfkgaa", sum := "5868f753e7074ba26af1dc198ddd4260f62275d99d416ffd8feda368502510eb", func := "braidwork/braidworklaw02.VectorKnown", spec := "vectorKnown", unfollowed := true, recurses := true, apart := false, narrowed := true }
def VectorKnownUptoSaid : Prop := vectorKnownUptoRow.holds Try.pinned (OpenSpec.upto vectorKnownSpec)

end Rows
end Go.Proofs.Ytpipmhofekfkgaa
