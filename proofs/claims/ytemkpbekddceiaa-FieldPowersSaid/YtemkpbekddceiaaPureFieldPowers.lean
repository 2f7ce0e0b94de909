/- FieldPowers, as a statement over numbers alone: powers and exponents are the document's. -/
import Derived.Test.YtemkpbekddceiaaHFieldRef
import Derived.Test.YtemkpbekddceiaaP2
namespace Go.Proofs.Ytemkpbekddceiaa.Pure
open Go.Proofs.Ytemkpbekddceiaa.Hand Go.RowKit Go.Proofs.Ytemkpbekddceiaa.P

theorem FieldPowers : braidworklaw01_FieldPowers.Pure := by
  intro a n wa wn
  have ha := isB_of_wf wa
  have hn : n ≤ 9223372036854775807 := by
    simp [Lit.wf, IntKind.min, IntKind.max, IntKind.bits, IntKind.signed] at wn
    omega
  refine ⟨400, ?_⟩
  unfold braidworklaw01_FieldPowers.f
  rw [pow_f ha, ref_pow ha hn (by omega), exp_f, ref_exp hn (by omega), log_f ha, ref_log ha (by omega), awake_f]
  simp

end Go.Proofs.Ytemkpbekddceiaa.Pure
