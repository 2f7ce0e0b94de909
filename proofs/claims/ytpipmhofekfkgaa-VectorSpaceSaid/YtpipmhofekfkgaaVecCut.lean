/- Rows cut to one length; products: plain words of several vector laws. -/
import Derived.Test.YtpipmhofekfkgaaVecPlain
set_option linter.unusedVariables false
set_option linter.unusedSimpArgs false
namespace Go.Proofs.Ytpipmhofekfkgaa.Pure
open Go.Proofs.Ytpipmhofekfkgaa.Hand Go.Proofs.Ytpipmhofekfkgaa.GF Go.Proofs.Ytpipmhofekfkgaa.LA Go.RowKit Go.Proofs.Ytpipmhofekfkgaa.P Go.Proofs.YtpipmhofekfkgaaW.PrintWords Go.Proofs.YtpipmhofekfkgaaW.PrintLast

def cutTo (l : List (List Int)) (n i : Nat) : List (List Int) := (l.take i).map fun r => r.take n
theorem cutTo_next (l : List (List Int)) (n i : Nat) (h : i < l.length) : cutTo l n i ++ [l[i].take n] = cutTo l n (i + 1) := by
  unfold cutTo
  rw [List.take_succ_eq_append_getElem h, List.map_append]; rfl
theorem cutTo_length (l : List (List Int)) (n i : Nat) (h : i ≤ l.length) : (cutTo l n i).length = i := by simp [cutTo, h]
theorem dot_f {a b : List Int} (h : a.length = b.length) (hn : a.length ≤ vN) (ha : areB a) (hb : areB b) : vector_Dot.f a b = some (dotI a b, 0) := by
  unfold vector_Dot.f
  rw [if_pos h, if_pos ⟨hn, ha, hb⟩]
end Go.Proofs.Ytpipmhofekfkgaa.Pure
