/-
  No cell of these rows narrows 'for every input' (looked for: loops, veiled, ifaces, maps, wideKeys, modest, calm, conditions, laid).
  DERIVED. THE GIVEN ROWS OF THIS SEAT. 6 by the template 'for every input the law returns true; each argument reads behind the call as it read before'; 0 by the template 'total and deterministic' (their statements: YthgpmneplpdeiaaTotals.lean).
  GIVEN WITH THE SEED: the statements are not yours to turn. If you find one false, say at which input.
  Laid BY PROGRAM, IN A SANDBOX (cutbox-rows.mjs): the forced cells as the released guide's own fill.sh prints them over the translation ba04ac183e834392… (all of the seat's roots in one cut). By AI agents, Wed Nov 11 2026. No macro, syntax, notation, axiom, sorry.
-/
import Derived.Test.YthgpmneplpdeiaaChecked
import GoSem.Claim
import GoSem.ClaimJoined
import GoSem.ClaimMapViews
import Derived.JoinedTies
import Derived.KernelRfl
namespace Go.Proofs.Ythgpmneplpdeiaa
/- THE CELL 'sum', in the pinned program and in every row, IS THE sha256 OF THE DUMP (.gsa) THAT YthgpmneplpdeiaaProg.lean LOADS. Nothing in Lean hashes anything: it is a label: what it is worth is what the hold of that sum in a sandbox is worth. -/
noncomputable def Try.pinned : Pinned := { name := "ythgpmneplpdeiaa", sum := "ba04ac183e834392dc5af345ac394470d45606848e3a3601e1a6033129ad3a0f", checked := Try.checked }
namespace Rows
def none {H : Type} : Left H := { results := [], args := [] }

/-- 'braidworklaw08.SpanCalls': WHATEVER THE INPUT: true; the input reads as it did. -/
def spanCallsSpec : ChangeSpec := { name := "spanCalls", fn := fun _ => fun
  | [d1, d2, d3] => { results := [.lit (.bool true)], args := [d1, d2, d3] }
  | _ => none }
def spanCallsRow : OpenClaim := { program := "ythgpmneplpdeiaa", sum := "ba04ac183e834392dc5af345ac394470d45606848e3a3601e1a6033129ad3a0f", func := "braidwork/braidworklaw08.SpanCalls", spec := "spanCalls", unfollowed := true, recurses := true, apart := false }
def SpanCallsSaid : Prop := spanCallsRow.holds Try.pinned (OpenSpec.ofChange spanCallsSpec)

/-- ITS FALSE NEIGHBOUR: 'it returns false'. Refute it at one input. -/
def spanCallsWrong : ChangeSpec := { name := "spanCalls", fn := fun _ => fun
  | [d1, d2, d3] => { results := [.lit (.bool false)], args := [d1, d2, d3] }
  | _ => none }
def SpanCallsWrongFalsely : Prop := spanCallsRow.holds Try.pinned (OpenSpec.ofChange spanCallsWrong)

/-- 'braidworklaw08.SpanKnown': WHATEVER THE INPUT: true; the input reads as it did. -/
def spanKnownSpec : ChangeSpec := { name := "spanKnown", fn := fun _ => fun
  | [] => { results := [.lit (.bool true)], args := [] }
  | _ => none }
def spanKnownRow : OpenClaim := { program := "ythgpmneplpdeiaa", sum := "ba04ac183e834392dc5af345ac394470d45606848e3a3601e1a6033129ad3a0f", func := "braidwork/braidworklaw08.SpanKnown", spec := "spanKnown", unfollowed := true, recurses := true, apart := false }
def SpanKnownSaid : Prop := spanKnownRow.holds Try.pinned (OpenSpec.ofChange spanKnownSpec)

/-- ITS FALSE NEIGHBOUR: 'it returns false'. Refute it at one input. -/
def spanKnownWrong : ChangeSpec := { name := "spanKnown", fn := fun _ => fun
  | [] => { results := [.lit (.bool false)], args := [] }
  | _ => none }
def SpanKnownWrongFalsely : Prop := spanKnownRow.holds Try.pinned (OpenSpec.ofChange spanKnownWrong)

/-- 'braidworklaw08.SpanModular': WHATEVER THE INPUT: true; the input reads as it did. -/
def spanModularSpec : ChangeSpec := { name := "spanModular", fn := fun _ => fun
  | [d1, d2, d3, d4] => { results := [.lit (.bool true)], args := [d1, d2, d3, d4] }
  | _ => none }
def spanModularRow : OpenClaim := { program := "ythgpmneplpdeiaa", sum := "ba04ac183e834392dc5af345ac394470d45606848e3a3601e1a6033129ad3a0f", func := "braidwork/braidworklaw08.SpanModular", spec := "spanModular", unfollowed := true, recurses := true, apart := false }
def SpanModularSaid : Prop := spanModularRow.holds Try.pinned (OpenSpec.ofChange spanModularSpec)

/-- ITS FALSE NEIGHBOUR: 'it returns false'. Refute it at one input. -/
def spanModularWrong : ChangeSpec := { name := "spanModular", fn := fun _ => fun
  | [d1, d2, d3, d4] => { results := [.lit (.bool false)], args := [d1, d2, d3, d4] }
  | _ => none }
def SpanModularWrongFalsely : Prop := spanModularRow.holds Try.pinned (OpenSpec.ofChange spanModularWrong)

/-- 'braidworklaw08.SpanWitness': WHATEVER THE INPUT: true; the input reads as it did. -/
def spanWitnessSpec : ChangeSpec := { name := "spanWitness", fn := fun _ => fun
  | [d1, d2, d3, d4] => { results := [.lit (.bool true)], args := [d1, d2, d3, d4] }
  | _ => none }
def spanWitnessRow : OpenClaim := { program := "ythgpmneplpdeiaa", sum := "ba04ac183e834392dc5af345ac394470d45606848e3a3601e1a6033129ad3a0f", func := "braidwork/braidworklaw08.SpanWitness", spec := "spanWitness", unfollowed := true, recurses := true, apart := false }
def SpanWitnessSaid : Prop := spanWitnessRow.holds Try.pinned (OpenSpec.ofChange spanWitnessSpec)

/-- ITS FALSE NEIGHBOUR: 'it returns false'. Refute it at one input. -/
def spanWitnessWrong : ChangeSpec := { name := "spanWitness", fn := fun _ => fun
  | [d1, d2, d3, d4] => { results := [.lit (.bool false)], args := [d1, d2, d3, d4] }
  | _ => none }
def SpanWitnessWrongFalsely : Prop := spanWitnessRow.holds Try.pinned (OpenSpec.ofChange spanWitnessWrong)

/-- 'braidworklaw08.SpanRanks': WHATEVER THE INPUT: true; the input reads as it did. -/
def spanRanksSpec : ChangeSpec := { name := "spanRanks", fn := fun _ => fun
  | [d1, d2, d3, d4] => { results := [.lit (.bool true)], args := [d1, d2, d3, d4] }
  | _ => none }
def spanRanksRow : OpenClaim := { program := "ythgpmneplpdeiaa", sum := "ba04ac183e834392dc5af345ac394470d45606848e3a3601e1a6033129ad3a0f", func := "braidwork/braidworklaw08.SpanRanks", spec := "spanRanks", unfollowed := true, recurses := true, apart := false }
def SpanRanksSaid : Prop := spanRanksRow.holds Try.pinned (OpenSpec.ofChange spanRanksSpec)

/-- ITS FALSE NEIGHBOUR: 'it returns false'. Refute it at one input. -/
def spanRanksWrong : ChangeSpec := { name := "spanRanks", fn := fun _ => fun
  | [d1, d2, d3, d4] => { results := [.lit (.bool false)], args := [d1, d2, d3, d4] }
  | _ => none }
def SpanRanksWrongFalsely : Prop := spanRanksRow.holds Try.pinned (OpenSpec.ofChange spanRanksWrong)

/-- 'braidworklaw08.SpanOrder': WHATEVER THE INPUT: true; the input reads as it did. -/
def spanOrderSpec : ChangeSpec := { name := "spanOrder", fn := fun _ => fun
  | [d1, d2, d3, d4] => { results := [.lit (.bool true)], args := [d1, d2, d3, d4] }
  | _ => none }
def spanOrderRow : OpenClaim := { program := "ythgpmneplpdeiaa", sum := "ba04ac183e834392dc5af345ac394470d45606848e3a3601e1a6033129ad3a0f", func := "braidwork/braidworklaw08.SpanOrder", spec := "spanOrder", unfollowed := true, recurses := true, apart := false }
def SpanOrderSaid : Prop := spanOrderRow.holds Try.pinned (OpenSpec.ofChange spanOrderSpec)

/-- ITS FALSE NEIGHBOUR: 'it returns false'. Refute it at one input. -/
def spanOrderWrong : ChangeSpec := { name := "spanOrder", fn := fun _ => fun
  | [d1, d2, d3, d4] => { results := [.lit (.bool false)], args := [d1, d2, d3, d4] }
  | _ => none }
def SpanOrderWrongFalsely : Prop := spanOrderRow.holds Try.pinned (OpenSpec.ofChange spanOrderWrong)

/- THE SECOND FORM. 'bulk': how many values and letters a reading holds, each counted each time it is reached (what is shared counts as often as it is met; a slice's spare places count too). A statement '..UptoSaid' is the law's where the arguments, and the package variables that the reading takes, are together of bulk at most 1048576: NARROWER than '..Said'. Prove '..Said' where nothing that the law and all that it calls make is longer than what came in: it says more and counts as full. Else prove '..UptoSaid'. A law counts once. -/
mutual
def uptoBulk {H : Type} : DataW H → Nat
  | .lit (.string bytes) => bytes.length + 1
  | .lit _ => 1
  | .nil => 1
  | .ptr d => uptoBulk d + 1
  | .slice elems spare => uptoBulkAll elems + uptoBulkAll spare + 1
  | .agg parts => uptoBulkAll parts + 1
  | .iface _ d => uptoBulk d + 1
  | .map entries => uptoBulkEntries entries + 1
  | .held _ => 1
def uptoBulkAll {H : Type} : List (DataW H) → Nat
  | [] => 0
  | d :: r => uptoBulk d + uptoBulkAll r
def uptoBulkEntries {H : Type} : List (Lit × DataW H) → Nat
  | [] => 0
  | x :: r => uptoBulkEntry x + uptoBulkEntries r
def uptoBulkEntry {H : Type} : Lit × DataW H → Nat
  | (.string bytes, d) => bytes.length + uptoBulk d + 1
  | (_, d) => uptoBulk d + 1
 end
def uptoSmall : (H : Type) → List (DataW H) → Bool := fun _ ds => decide (uptoBulkAll ds ≤ 1048576)
def OpenSpec.upto (s : _root_.Go.ChangeSpec) : _root_.Go.OpenSpec := { _root_.Go.OpenSpec.ofChange s with cond := some uptoSmall }

/-- 'braidworklaw08.SpanCalls', WHERE WHAT IT READS IS OF BULK AT MOST 1048576: true; the input reads as it did. -/
def spanCallsUptoRow : OpenClaim := { program := "ythgpmneplpdeiaa", sum := "ba04ac183e834392dc5af345ac394470d45606848e3a3601e1a6033129ad3a0f", func := "braidwork/braidworklaw08.SpanCalls", spec := "spanCalls", unfollowed := true, recurses := true, apart := false, narrowed := true }
def SpanCallsUptoSaid : Prop := spanCallsUptoRow.holds Try.pinned (OpenSpec.upto spanCallsSpec)

/-- 'braidworklaw08.SpanKnown', WHERE WHAT IT READS IS OF BULK AT MOST 1048576: true; the input reads as it did. -/
def spanKnownUptoRow : OpenClaim := { program := "ythgpmneplpdeiaa", sum := "ba04ac183e834392dc5af345ac394470d45606848e3a3601e1a6033129ad3a0f", func := "braidwork/braidworklaw08.SpanKnown", spec := "spanKnown", unfollowed := true, recurses := true, apart := false, narrowed := true }
def SpanKnownUptoSaid : Prop := spanKnownUptoRow.holds Try.pinned (OpenSpec.upto spanKnownSpec)

/-- 'braidworklaw08.SpanModular', WHERE WHAT IT READS IS OF BULK AT MOST 1048576: true; the input reads as it did. -/
def spanModularUptoRow : OpenClaim := { program := "ythgpmneplpdeiaa", sum := "ba04ac183e834392dc5af345ac394470d45606848e3a3601e1a6033129ad3a0f", func := "braidwork/braidworklaw08.SpanModular", spec := "spanModular", unfollowed := true, recurses := true, apart := false, narrowed := true }
def SpanModularUptoSaid : Prop := spanModularUptoRow.holds Try.pinned (OpenSpec.upto spanModularSpec)

/-- 'braidworklaw08.SpanWitness', WHERE WHAT IT READS IS OF BULK AT MOST 1048576: true; the input reads as it did. -/
def spanWitnessUptoRow : OpenClaim := { program := "ythgpmneplpdeiaa", sum := "ba04ac183e834392dc5af345ac394470d45606848e3a3601e1a6033129ad3a0f", func := "braidwork/braidworklaw08.SpanWitness", spec := "spanWitness", unfollowed := true, recurses := true, apart := false, narrowed := true }
def SpanWitnessUptoSaid : Prop := spanWitnessUptoRow.holds Try.pinned (OpenSpec.upto spanWitnessSpec)

/-- 'braidworklaw08.SpanRanks', WHERE WHAT IT READS IS OF BULK AT MOST 1048576: true; the input reads as it did. -/
def spanRanksUptoRow : OpenClaim := { program := "ythgpmneplpdeiaa", sum := "ba04ac183e834392dc5af345ac394470d45606848e3a3601e1a6033129ad3a0f", func := "braidwork/braidworklaw08.SpanRanks", spec := "spanRanks", unfollowed := true, recurses := true, apart := false, narrowed := true }
def SpanRanksUptoSaid : Prop := spanRanksUptoRow.holds Try.pinned (OpenSpec.upto spanRanksSpec)

/-- 'braidworklaw08.SpanOrder', WHERE WHAT IT READS IS OF BULK AT MOST 1048576: true; the input reads as it did. -/
def spanOrderUptoRow : OpenClaim := { program := "ythgpmneplpdeiaa", sum := "ba04ac183e834392dc5af345ac394470d45606848e3a3601e1a6033129ad3a0f", func := "braidwork/braidworklaw08.SpanOrder", spec := "spanOrder", unfollowed := true, recurses := true, apart := false, narrowed := true }
def SpanOrderUptoSaid : Prop := spanOrderUptoRow.holds Try.pinned (OpenSpec.upto spanOrderSpec)

end Rows
end Go.Proofs.Ythgpmneplpdeiaa
