/- QSC, part 32: WSized. -/
import Derived.SizedLaws
import Derived.ChangeSlices

section
namespace Go.Proofs.YthgpmneplpdeiaaW.PrintWords
open Go.ChangeShapes Go.WideShapes
end Go.Proofs.YthgpmneplpdeiaaW.PrintWords
end
