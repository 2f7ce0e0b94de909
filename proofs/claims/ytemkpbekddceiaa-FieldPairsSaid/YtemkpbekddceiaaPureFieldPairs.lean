/- FieldPairs, as a statement over numbers alone: sums, products, quotients, inverses are the document's. -/
import Derived.Test.YtemkpbekddceiaaHFieldRef
import Derived.Test.YtemkpbekddceiaaP1
namespace Go.Proofs.Ytemkpbekddceiaa.Pure
open Go.Proofs.Ytemkpbekddceiaa.Hand Go.RowKit Go.Proofs.Ytemkpbekddceiaa.P

theorem FieldPairs : braidworklaw01_FieldPairs.Pure := by
  intro a b wa wb
  have ha := isB_of_wf wa
  have hb := isB_of_wf wb
  refine ⟨400, ?_⟩
  unfold braidworklaw01_FieldPairs.f
  rw [div_f ha hb, ref_div ha hb (by omega), inv_f ha, ref_inv ha (by omega), awake_f, mul_f ha hb, ref_mul ha hb (by omega)]
  simp [field_Add.f]

end Go.Proofs.Ytemkpbekddceiaa.Pure
