/- The contract of vector.Dot. -/
import Derived.Test.YthlgmmgdaciinaaHVec
import Derived.Test.YthlgmmgdaciinaaHIdx
set_option linter.unusedVariables false
set_option linter.unusedSimpArgs false
namespace Go.Proofs.Ythlgmmgdaciinaa.Hand
open Go.RowKit Go.Proofs.YthlgmmgdaciinaaW.PrintWords Go.Proofs.YthlgmmgdaciinaaW.PrintLast Go.Proofs.YthlgmmgdaciinaaW.PrintMore
attribute [local go_sem] max2_int min2_int max_two min_two max_three min_three max_four min_four

def dotI (l0 l1 : List Int) : Int := (List.zipWith gm l0 l1).foldl xr 0
end Go.Proofs.Ythlgmmgdaciinaa.Hand
