/- VectorKnown: its plain law. -/
import Derived.Test.YtpipmhofekfkgaaP5
import Derived.Test.YtpipmhofekfkgaaVecPlain
namespace Go.Proofs.Ytpipmhofekfkgaa.Pure
open Go.Proofs.Ytpipmhofekfkgaa.Hand Go.RowKit Go.Proofs.Ytpipmhofekfkgaa.P Go.Proofs.YtpipmhofekfkgaaW.PrintWords Go.Proofs.YtpipmhofekfkgaaW.PrintLast

theorem VectorKnown : braidworklaw02_VectorKnown.Pure := by
  refine ⟨3, ?_⟩
  have h1 : vector_AddScaled.f [1] [] 3 = some ([], 21) := by kernel_rfl
  have h2 : vector_Dot.f [1] [1, 2] = some (0, 21) := by kernel_rfl
  have h3 : vector_Combine.f 3 [] [] = some ([], 1) := by kernel_rfl
  have h4 : vector_Combine.f 3 [[1]] [] = some ([], 21) := by kernel_rfl
  have h5 : vector_Combine.f 3 [[1], [1, 2]] [1, 1] = some ([], 21) := by kernel_rfl
  have h6 : vector_Combine.f 3 [[], []] [1, 1] = some ([], 0) := by kernel_rfl
  have h7 : vector_Unit.f 3 3 = some ([], 1) := by kernel_rfl
  have h8 : vector_Unit.f (-1) 0 = some ([], 1) := by kernel_rfl
  have h9 : vector_Unit.f 70001 0 = some ([], 1) := by kernel_rfl
  have h10 : vector_Unit.f 70000 69999 = some ((List.replicate 70000 0).set 69999 1, 0) := unit_eq 70000 69999 (by decide) (by decide)
  have h11 : vector_Lead.f ((List.replicate 70000 0).set 69999 1) = some 69999 := lead_unit_f 70000 69999 (by decide) (by decide)
  have h12 : vector_IsZero.f [] = some true := by kernel_rfl
  have h13 := wakes_ok 0
  unfold braidworklaw02_VectorKnown.f
  rw [h1, Option.bind_some, h2, Option.bind_some, h3, Option.bind_some, h4, Option.bind_some, h5, Option.bind_some, h6, Option.bind_some, h7, Option.bind_some, h8, Option.bind_some, h9, Option.bind_some, h10, Option.bind_some]
  rw [if_pos rfl, if_pos rfl, if_pos rfl, if_pos rfl, if_pos rfl, if_pos rfl]
  refine (if_pos (show ((([] : List Int).length : Nat) : Int) = 0 from rfl)).trans ?_
  have h14 : ∀ (q : Option Bool) (x : Bool), q = some x → (q.bind fun t => some t) = some x := fun q x h => by rw [h]; rfl
  try rw [if_pos rfl, if_pos rfl, if_pos rfl, if_pos rfl]
  rw [h11, Option.bind_some, if_pos rfl, h12, Option.bind_some, if_pos rfl]
  exact h14 _ _ h13
end Go.Proofs.Ytpipmhofekfkgaa.Pure
