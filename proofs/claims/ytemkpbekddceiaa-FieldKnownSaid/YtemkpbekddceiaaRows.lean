/-
  No cell of these rows narrows 'for every input' (looked for: loops, veiled, ifaces, maps, wideKeys, modest, calm, conditions, laid).
  DERIVED. THE GIVEN ROWS OF THIS SEAT. 7 by the template 'for every input the law returns true; each argument reads behind the call as it read before'; 0 by the template 'total and deterministic' (their statements: YtemkpbekddceiaaTotals.lean).
  GIVEN WITH THE SEED: the statements are not yours to turn. If you find one false, say at which input.
  Laid BY PROGRAM, IN A SANDBOX (cutbox-rows.mjs): the forced cells as the released guide's own fill.sh prints them over the translation c55b58d24bb701f9… (all of the seat's roots in one cut). By AI agents, Wed Nov 11 2026. No macro, syntax, notation, axiom, sorry.
-/
import Derived.Test.YtemkpbekddceiaaChecked
import GoSem.Claim
import GoSem.ClaimJoined
import GoSem.ClaimMapViews
import Derived.JoinedTies
import Derived.KernelRfl
namespace Go.Proofs.Ytemkpbekddceiaa
/- THE CELL 'sum', in the pinned program and in every row, IS THE sha256 OF THE DUMP (.gsa) THAT YtemkpbekddceiaaProg.lean LOADS. Nothing in Lean hashes anything: it is a label: what it is worth is what the hold of that sum in a sandbox is worth. -/
noncomputable def Try.pinned : Pinned := { name := "ytemkpbekddceiaa", sum := "c55b58d24bb701f9bc43d0a55c86c2c18c0449cb8732401e4420db9de16d7ba0", checked := Try.checked }
namespace Rows
def none {H : Type} : Left H := { results := [], args := [] }

/-- 'braidworklaw01.FieldBits': WHATEVER THE INPUT: true; the input reads as it did. -/
def fieldBitsSpec : ChangeSpec := { name := "fieldBits", fn := fun _ => fun
  | [d1, d2] => { results := [.lit (.bool true)], args := [d1, d2] }
  | _ => none }
def fieldBitsRow : OpenClaim := { program := "ytemkpbekddceiaa", sum := "c55b58d24bb701f9bc43d0a55c86c2c18c0449cb8732401e4420db9de16d7ba0", func := "braidwork/braidworklaw01.FieldBits", spec := "fieldBits", apart := false }
def FieldBitsSaid : Prop := fieldBitsRow.holds Try.pinned (OpenSpec.ofChange fieldBitsSpec)

/-- ITS FALSE NEIGHBOUR: 'it returns false'. Refute it at one input. -/
def fieldBitsWrong : ChangeSpec := { name := "fieldBits", fn := fun _ => fun
  | [d1, d2] => { results := [.lit (.bool false)], args := [d1, d2] }
  | _ => none }
def FieldBitsWrongFalsely : Prop := fieldBitsRow.holds Try.pinned (OpenSpec.ofChange fieldBitsWrong)

/-- 'braidworklaw01.FieldPairs': WHATEVER THE INPUT: true; the input reads as it did. -/
def fieldPairsSpec : ChangeSpec := { name := "fieldPairs", fn := fun _ => fun
  | [d1, d2] => { results := [.lit (.bool true)], args := [d1, d2] }
  | _ => none }
def fieldPairsRow : OpenClaim := { program := "ytemkpbekddceiaa", sum := "c55b58d24bb701f9bc43d0a55c86c2c18c0449cb8732401e4420db9de16d7ba0", func := "braidwork/braidworklaw01.FieldPairs", spec := "fieldPairs", apart := false }
def FieldPairsSaid : Prop := fieldPairsRow.holds Try.pinned (OpenSpec.ofChange fieldPairsSpec)

/-- ITS FALSE NEIGHBOUR: 'it returns false'. Refute it at one input. -/
def fieldPairsWrong : ChangeSpec := { name := "fieldPairs", fn := fun _ => fun
  | [d1, d2] => { results := [.lit (.bool false)], args := [d1, d2] }
  | _ => none }
def FieldPairsWrongFalsely : Prop := fieldPairsRow.holds Try.pinned (OpenSpec.ofChange fieldPairsWrong)

/-- 'braidworklaw01.FieldRules': WHATEVER THE INPUT: true; the input reads as it did. -/
def fieldRulesSpec : ChangeSpec := { name := "fieldRules", fn := fun _ => fun
  | [d1, d2, d3] => { results := [.lit (.bool true)], args := [d1, d2, d3] }
  | _ => none }
def fieldRulesRow : OpenClaim := { program := "ytemkpbekddceiaa", sum := "c55b58d24bb701f9bc43d0a55c86c2c18c0449cb8732401e4420db9de16d7ba0", func := "braidwork/braidworklaw01.FieldRules", spec := "fieldRules", unfollowed := true, recurses := true, apart := false }
def FieldRulesSaid : Prop := fieldRulesRow.holds Try.pinned (OpenSpec.ofChange fieldRulesSpec)

/-- ITS FALSE NEIGHBOUR: 'it returns false'. Refute it at one input. -/
def fieldRulesWrong : ChangeSpec := { name := "fieldRules", fn := fun _ => fun
  | [d1, d2, d3] => { results := [.lit (.bool false)], args := [d1, d2, d3] }
  | _ => none }
def FieldRulesWrongFalsely : Prop := fieldRulesRow.holds Try.pinned (OpenSpec.ofChange fieldRulesWrong)

/-- 'braidworklaw01.FieldSquares': WHATEVER THE INPUT: true; the input reads as it did. -/
def fieldSquaresSpec : ChangeSpec := { name := "fieldSquares", fn := fun _ => fun
  | [d1, d2] => { results := [.lit (.bool true)], args := [d1, d2] }
  | _ => none }
def fieldSquaresRow : OpenClaim := { program := "ytemkpbekddceiaa", sum := "c55b58d24bb701f9bc43d0a55c86c2c18c0449cb8732401e4420db9de16d7ba0", func := "braidwork/braidworklaw01.FieldSquares", spec := "fieldSquares", unfollowed := true, recurses := true, apart := false }
def FieldSquaresSaid : Prop := fieldSquaresRow.holds Try.pinned (OpenSpec.ofChange fieldSquaresSpec)

/-- ITS FALSE NEIGHBOUR: 'it returns false'. Refute it at one input. -/
def fieldSquaresWrong : ChangeSpec := { name := "fieldSquares", fn := fun _ => fun
  | [d1, d2] => { results := [.lit (.bool false)], args := [d1, d2] }
  | _ => none }
def FieldSquaresWrongFalsely : Prop := fieldSquaresRow.holds Try.pinned (OpenSpec.ofChange fieldSquaresWrong)

/-- 'braidworklaw01.FieldPowers': WHATEVER THE INPUT: true; the input reads as it did. -/
def fieldPowersSpec : ChangeSpec := { name := "fieldPowers", fn := fun _ => fun
  | [d1, d2] => { results := [.lit (.bool true)], args := [d1, d2] }
  | _ => none }
def fieldPowersRow : OpenClaim := { program := "ytemkpbekddceiaa", sum := "c55b58d24bb701f9bc43d0a55c86c2c18c0449cb8732401e4420db9de16d7ba0", func := "braidwork/braidworklaw01.FieldPowers", spec := "fieldPowers", apart := false }
def FieldPowersSaid : Prop := fieldPowersRow.holds Try.pinned (OpenSpec.ofChange fieldPowersSpec)

/-- ITS FALSE NEIGHBOUR: 'it returns false'. Refute it at one input. -/
def fieldPowersWrong : ChangeSpec := { name := "fieldPowers", fn := fun _ => fun
  | [d1, d2] => { results := [.lit (.bool false)], args := [d1, d2] }
  | _ => none }
def FieldPowersWrongFalsely : Prop := fieldPowersRow.holds Try.pinned (OpenSpec.ofChange fieldPowersWrong)

/-- 'braidworklaw01.FieldLogs': WHATEVER THE INPUT: true; the input reads as it did. -/
def fieldLogsSpec : ChangeSpec := { name := "fieldLogs", fn := fun _ => fun
  | [d] => { results := [.lit (.bool true)], args := [d] }
  | _ => none }
def fieldLogsRow : OpenClaim := { program := "ytemkpbekddceiaa", sum := "c55b58d24bb701f9bc43d0a55c86c2c18c0449cb8732401e4420db9de16d7ba0", func := "braidwork/braidworklaw01.FieldLogs", spec := "fieldLogs", apart := false }
def FieldLogsSaid : Prop := fieldLogsRow.holds Try.pinned (OpenSpec.ofChange fieldLogsSpec)

/-- ITS FALSE NEIGHBOUR: 'it returns false'. Refute it at one input. -/
def fieldLogsWrong : ChangeSpec := { name := "fieldLogs", fn := fun _ => fun
  | [d] => { results := [.lit (.bool false)], args := [d] }
  | _ => none }
def FieldLogsWrongFalsely : Prop := fieldLogsRow.holds Try.pinned (OpenSpec.ofChange fieldLogsWrong)

/-- 'braidworklaw01.FieldKnown': WHATEVER THE INPUT: true; the input reads as it did. -/
def fieldKnownSpec : ChangeSpec := { name := "fieldKnown", fn := fun _ => fun
  | [] => { results := [.lit (.bool true)], args := [] }
  | _ => none }
def fieldKnownRow : OpenClaim := { program := "ytemkpbekddceiaa", sum := "c55b58d24bb701f9bc43d0a55c86c2c18c0449cb8732401e4420db9de16d7ba0", func := "braidwork/braidworklaw01.FieldKnown", spec := "fieldKnown", apart := false }
def FieldKnownSaid : Prop := fieldKnownRow.holds Try.pinned (OpenSpec.ofChange fieldKnownSpec)

/-- ITS FALSE NEIGHBOUR: 'it returns false'. Refute it at one input. -/
def fieldKnownWrong : ChangeSpec := { name := "fieldKnown", fn := fun _ => fun
  | [] => { results := [.lit (.bool false)], args := [] }
  | _ => none }
def FieldKnownWrongFalsely : Prop := fieldKnownRow.holds Try.pinned (OpenSpec.ofChange fieldKnownWrong)

/- THE SECOND FORM. 'bulk': how many values and letters a reading holds, each counted each time it is reached (what is shared counts as often as it is met; a slice's spare places count too). A statement '..UptoSaid' is the law's where the arguments, and the package variables that the reading takes, are together of bulk at most 1048576: NARROWER than '..Said'. Prove '..Said' where nothing that the law and all that it calls make is longer than what came in: it says more and counts as full. Else prove '..UptoSaid'. A law counts once. -/
mutual
def uptoBulk {H : Type} : DataW H → Nat
  | .lit (.string bytes) => bytes.length + 1
  | .lit _ => 1
  | .nil => 1
  | .ptr d => uptoBulk d + 1
  | .slice elems spare => uptoBulkAll elems + uptoBulkAll spare + 1
  | .agg parts => uptoBulkAll parts + 1
  | .iface _ d => uptoBulk d + 1
  | .map entries => uptoBulkEntries entries + 1
  | .held _ => 1
def uptoBulkAll {H : Type} : List (DataW H) → Nat
  | [] => 0
  | d :: r => uptoBulk d + uptoBulkAll r
def uptoBulkEntries {H : Type} : List (Lit × DataW H) → Nat
  | [] => 0
  | x :: r => uptoBulkEntry x + uptoBulkEntries r
def uptoBulkEntry {H : Type} : Lit × DataW H → Nat
  | (.string bytes, d) => bytes.length + uptoBulk d + 1
  | (_, d) => uptoBulk d + 1
 end
def uptoSmall : (H : Type) → List (DataW H) → Bool := fun _ ds => decide (uptoBulkAll ds ≤ 1048576)
def OpenSpec.upto (s : _root_.Go.ChangeSpec) : _root_.Go.OpenSpec := { _root_.Go.OpenSpec.ofChange s with cond := some uptoSmall }

/-- 'braidworklaw01.FieldBits', WHERE WHAT IT READS IS OF BULK AT MOST 1048576: true; the input reads as it did. -/
def fieldBitsUptoRow : OpenClaim := { program := "ytemkpbekddceiaa", sum := "c55b58d24bb701f9bc43d0a55c86c2c18c0449cb8732401e4420db9de16d7ba0", func := "braidwork/braidworklaw01.FieldBits", spec := "fieldBits", apart := false, narrowed := true }
def FieldBitsUptoSaid : Prop := fieldBitsUptoRow.holds Try.pinned (OpenSpec.upto fieldBitsSpec)

/-- 'braidworklaw01.FieldPairs', WHERE WHAT IT READS IS OF BULK AT MOST 1048576: true; the input reads as it did. -/
def fieldPairsUptoRow : OpenClaim := { program := "ytemkpbekddceiaa", sum := "c55b58d24bb701f9bc43d0a55c86c2c18c0449cb8732401e4420db9de16d7ba0", func := "braidwork/braidworklaw01.FieldPairs", spec := "fieldPairs", apart := false, narrowed := true }
def FieldPairsUptoSaid : Prop := fieldPairsUptoRow.holds Try.pinned (OpenSpec.upto fieldPairsSpec)

/-- 'braidworklaw01.FieldRules', WHERE WHAT IT READS IS OF BULK AT MOST 1048576: true; the input reads as it did. -/
def fieldRulesUptoRow : OpenClaim := { program := "ytemkpbekddceiaa", sum := "c55b58d24bb701f9bc43d0a55c86c2c18c0449cb8732401e4420db9de16d7ba0", func := "braidwork/braidworklaw01.FieldRules", spec := "fieldRules", unfollowed := true, recurses := true, apart := false, narrowed := true }
def FieldRulesUptoSaid : Prop := fieldRulesUptoRow.holds Try.pinned (OpenSpec.upto fieldRulesSpec)

/-- 'braidworklaw01.FieldSquares', WHERE WHAT IT READS IS OF BULK AT MOST 1048576: true; the input reads as it did. -/
def fieldSquaresUptoRow : OpenClaim := { program := "ytemkpbekddceiaa", sum := "c55b58d24bb701f9bc43d0a55c86c2c18c0449cb8732401e4420db9de16d7ba0", func := "braidwork/braidworklaw01.FieldSquares", spec := "fieldSquares", unfollowed := true, recurses := true, apart := false, narrowed := true }
def FieldSquaresUptoSaid : Prop := fieldSquaresUptoRow.holds Try.pinned (OpenSpec.upto fieldSquaresSpec)

/-- 'braidworklaw01.FieldPowers', WHERE WHAT IT READS IS OF BULK AT MOST 1048576: true; the input reads as it did. -/
def fieldPowersUptoRow : OpenClaim := { program := "ytemkpbekddceiaa", sum := "c55b58d24bb701f9bc43d0a55c86c2c18c0449cb8732401e4420db9de16d7ba0", func := "braidwork/braidworklaw01.FieldPowers", spec := "fieldPowers", apart := false, narrowed := true }
def FieldPowersUptoSaid : Prop := fieldPowersUptoRow.holds Try.pinned (OpenSpec.upto fieldPowersSpec)

/-- 'braidworklaw01.FieldLogs', WHERE WHAT IT READS IS OF BULK AT MOST 1048576: true; the input reads as it did. -/
def fieldLogsUptoRow : OpenClaim := { program := "ytemkpbekddceiaa", sum := "c55b58d24bb701f9bc43d0a55c86c2c18c0449cb8732401e4420db9de16d7ba0", func := "braidwork/braidworklaw01.FieldLogs", spec := "fieldLogs", apart := false, narrowed := true }
def FieldLogsUptoSaid : Prop := fieldLogsUptoRow.holds Try.pinned (OpenSpec.upto fieldLogsSpec)

/-- 'braidworklaw01.FieldKnown', WHERE WHAT IT READS IS OF BULK AT MOST 1048576: true; the input reads as it did. -/
def fieldKnownUptoRow : OpenClaim := { program := "ytemkpbekddceiaa", sum := "c55b58d24bb701f9bc43d0a55c86c2c18c0449cb8732401e4420db9de16d7ba0", func := "braidwork/braidworklaw01.FieldKnown", spec := "fieldKnown", apart := false, narrowed := true }
def FieldKnownUptoSaid : Prop := fieldKnownUptoRow.holds Try.pinned (OpenSpec.upto fieldKnownSpec)

end Rows
end Go.Proofs.Ytemkpbekddceiaa
