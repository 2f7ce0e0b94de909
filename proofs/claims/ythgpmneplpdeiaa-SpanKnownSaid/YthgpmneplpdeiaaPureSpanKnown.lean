/- What the chapter's rows, none, and what does not fit are. -/
import Derived.Test.YthgpmneplpdeiaaPB
namespace Go.Proofs.Ythgpmneplpdeiaa.Pure
open Go.Proofs.Ythgpmneplpdeiaa.Hand Go.RowKit Go.Proofs.Ythgpmneplpdeiaa.PB Go.Proofs.YthgpmneplpdeiaaW.PrintWords Go.Proofs.YthgpmneplpdeiaaW.PrintLast

theorem SpanKnown : braidworklaw08_SpanKnown.Pure := by kernel_rfl

end Go.Proofs.Ythgpmneplpdeiaa.Pure
