/- Written by a program of this session out of the translation: the Go functions of this seat as Lean functions, with the walks that show that the Go code answers as these functions do. -/
import Derived.Test.YtemkpbekddceiaaProg
import Derived.Below
import Derived.Deep.Draws
import Derived.Deep.AppendLies
import Derived.Maps.AppendAt
import Derived.OwnWalk
import Derived.Laws.BytesArg
import Derived.Laws.MakeOwn
import Derived.Laws.OwnMore
import Derived.Deep.OwnRows
import Derived.Tactics
import Derived.Lib.ConvBytes
import Derived.Laws.Slices
import Derived.WalkKit
import Derived.KernelRfl
import Derived.RowKit3
import Derived.Deep.LoopGhost
import Derived.Deep.QuietTactic
import Derived.BigQuiet
import Derived.WideLaws
import Derived.Deep.DeepCutAuto
import Derived.Deep.CutBlock
import Derived.Deep.RegionHeld3
import Derived.Laws.Rows
import Derived.Lib.AppendStr
import Derived.ArgAppend
import Derived.Laws.IdiomCopy
import Derived.OrdersHeld
import Derived.Laws.BitsLemmas
import Derived.RowKit
import Derived.Test.YtemkpbekddceiaaHField
import Derived.Test.YtemkpbekddceiaaWWords
import Derived.Test.YtemkpbekddceiaaWLast
import Derived.Test.YtemkpbekddceiaaWTab
import Derived.Test.YtemkpbekddceiaaWFour
import Derived.Test.YtemkpbekddceiaaWQPut
import Derived.Test.YtemkpbekddceiaaWApart
import Derived.Test.YtemkpbekddceiaaWArr
import Derived.Test.YtemkpbekddceiaaWZeros
import Derived.Test.YtemkpbekddceiaaWFoot
import Derived.Test.YtemkpbekddceiaaWKept
import Derived.Test.YtemkpbekddceiaaWShare
import Derived.Test.YtemkpbekddceiaaWN
import Derived.Test.YtemkpbekddceiaaWFootNe
import Derived.Test.YtemkpbekddceiaaWAt
import Derived.Test.YtemkpbekddceiaaWEqStruct
import Derived.Test.YtemkpbekddceiaaWRepsOne
import Derived.Test.YtemkpbekddceiaaWInv
import Derived.Test.YtemkpbekddceiaaWInvWords
import Derived.Test.YtemkpbekddceiaaWGuard
import Derived.Test.YtemkpbekddceiaaWNEv
import Derived.Test.YtemkpbekddceiaaWMore
namespace Go.Proofs.Ytemkpbekddceiaa.P
open Go.Proofs.Ytemkpbekddceiaa.Hand Go.RowKit Go.Proofs.YtemkpbekddceiaaW.PrintWords Go.Proofs.YtemkpbekddceiaaW.PrintLast Go.Proofs.YtemkpbekddceiaaW.PrintMore
attribute [local go_sem] max2_int min2_int max_two min_two max_three min_three max_four min_four   -- for this text's walks alone
set_option linter.unusedVariables false
set_option linter.unusedSimpArgs false



def errW : Option Int → Value
  | none => .nilIface
  | some c => .iface 0 (.int .i64 c)
theorem errW_none : errW none = .nilIface := rfl
theorem errW_some (c : Int) : errW (some c) = .iface 0 (.int .i64 c) := rfl

-- the values' own types

end Go.Proofs.Ytemkpbekddceiaa.P
