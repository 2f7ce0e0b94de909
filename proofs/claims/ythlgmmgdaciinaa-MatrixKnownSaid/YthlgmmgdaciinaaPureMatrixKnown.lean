/- What the chapter's rows, none, and the limits are. -/
import Derived.Test.YthlgmmgdaciinaaP3
namespace Go.Proofs.Ythlgmmgdaciinaa.Pure
open Go.Proofs.Ythlgmmgdaciinaa.Hand Go.RowKit Go.Proofs.Ythlgmmgdaciinaa.P Go.Proofs.YthlgmmgdaciinaaW.PrintWords Go.Proofs.YthlgmmgdaciinaaW.PrintLast

theorem MatrixKnown : braidworklaw06_MatrixKnown.Pure := ⟨300, by kernel_rfl⟩

end Go.Proofs.Ythlgmmgdaciinaa.Pure
