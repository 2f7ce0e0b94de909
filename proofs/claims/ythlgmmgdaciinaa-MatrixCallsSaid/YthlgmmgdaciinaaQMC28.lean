/- QMC, part 28: WSized. -/
import Derived.SizedLaws
import Derived.ChangeSlices

section
namespace Go.Proofs.YthlgmmgdaciinaaW.PrintWords
open Go.ChangeShapes Go.WideShapes
end Go.Proofs.YthlgmmgdaciinaaW.PrintWords
end
