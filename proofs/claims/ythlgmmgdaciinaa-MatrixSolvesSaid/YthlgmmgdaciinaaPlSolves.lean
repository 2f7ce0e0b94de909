/- Plain: what a matrix makes of a row is undone by its inverse. -/
import Derived.Test.YthlgmmgdaciinaaMatMul
namespace Go.Proofs.Ythlgmmgdaciinaa.Plain
open Go.Proofs.Ythlgmmgdaciinaa.Hand Go.Proofs.Ythlgmmgdaciinaa.GF Go.Proofs.Ythlgmmgdaciinaa.LA Go.RowKit Go.Proofs.Ythlgmmgdaciinaa.P Go.Proofs.YthlgmmgdaciinaaW.PrintWords Go.Proofs.YthlgmmgdaciinaaW.PrintLast
theorem solves_plain (n : Nat) (h1 : 1 ≤ n) (h6 : n ≤ 6) (X : List (List Int)) (hXl : X.length = n) (hX : Fits n X) (row : List Int) (hr : row.length = n) (hB : areB row) :
    (∃ i x y made, matrix_Inverse.f X = some (i, 0) ∧ matrix_Mul.f 200 [row] i = some (x, 0) ∧ matrix_Mul.f 200 x X = some (y, 0) ∧ vector_Combine.f 200 X row = some (made, 0) ∧ vector_Combine.f 200 i made = some (row, 0) ∧ matrix_Same.f y [row] = some true) ∨ matrix_Inverse.f X = some ([], 24) := by
  rcases inv_spec hX hXl (by omega) with ⟨hf, B, b1, b2, b3, b4⟩ | ⟨_, q⟩
  · left
    have hXs := vecs_supp hX
    have hR : Fits n [row] := fun r h => by rw [List.mem_singleton.1 h]; exact ⟨hr, hB⟩
    obtain ⟨x, x1, x2, x3, x4⟩ := mul_f [row] B hR b3 b2 (by omega) (by unfold vN; omega) (by simp) (by simp) (by omega) 200 (by simp; omega)
    obtain ⟨y, y1, y2, y3, y4⟩ := mul_f x X x3 hX hXl (by omega) (by unfold vN; omega) (by rw [x2]; simp) (by rw [x2]; simp) (by omega) 200 (by rw [x2]; simp; omega)
    obtain ⟨made, m1, m2, m3, m4⟩ := combine_f X row hX (by omega) (by omega) hB (by unfold vN; omega) (by omega) 200 (by omega)
    obtain ⟨back, k1, k2, k3, k4⟩ := combine_f B made b3 (by omega) (by omega) m3 (by unfold vN; omega) (by omega) 200 (by omega)
    have hright := inverse_right hXs (by rw [vecs_length, hXl]) (by rw [vecs_length, b2]) (vecs_supp b3) b4
    have e1 : back = row := vec_ext (by omega) k3 hB (fun j _ => by
      rw [k4, m4, comb_comb, hright, comb_ident (by have := vec_supp row; rwa [hr] at this)])
    have e2 : vecs y = vecs [row] := by rw [y4, x4, prod_assoc, b4, prod_ident (vecs_supp hR)]
    refine ⟨B, x, y, made, b1, x1, y1, m1, by rw [k1, e1], ?_⟩
    rw [same_f y3 hR (by rw [y2, x2]; simp), decide_eq_true (vecs_inj y3 hR e2)]
  · exact Or.inr q
/-- the row that is cut, or filled up with noughts -/
def filled (l : List Int) (n : Nat) : List Int := l.take (min l.length n) ++ (List.replicate n (0 : Int)).drop (min l.length n)
theorem filled_length (l : List Int) (n : Nat) : (filled l n).length = n := by simp [filled]; omega
theorem filled_B {l : List Int} (h : areB l) (n : Nat) : areB (filled l n) := fun x hx => by
  rcases List.mem_append.1 hx with q | q
  · exact h x (List.mem_of_mem_take q)
  · exact areB_zeros n x (List.mem_of_mem_drop q)
end Go.Proofs.Ythlgmmgdaciinaa.Plain
