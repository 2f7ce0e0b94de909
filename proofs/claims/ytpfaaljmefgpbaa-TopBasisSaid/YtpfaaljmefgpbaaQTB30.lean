/- QTB, part 30: WSized. -/
import Derived.SizedLaws
import Derived.ChangeSlices

section
namespace Go.Proofs.YtpfaaljmefgpbaaW.PrintWords
open Go.ChangeShapes Go.WideShapes
end Go.Proofs.YtpfaaljmefgpbaaW.PrintWords
end
