/- Plain: ranks of rows together, of sums, of one row less. -/
import Derived.Test.YthlgmmgdaciinaaMatMul
import Derived.Test.YthlgmmgdaciinaaP3
namespace Go.Proofs.Ythlgmmgdaciinaa.Plain
open Go.Proofs.Ythlgmmgdaciinaa.Hand Go.Proofs.Ythlgmmgdaciinaa.GF Go.Proofs.Ythlgmmgdaciinaa.LA Go.RowKit Go.Proofs.Ythlgmmgdaciinaa.P Go.Proofs.YthlgmmgdaciinaaW.PrintWords Go.Proofs.YthlgmmgdaciinaaW.PrintLast
theorem rank_f {n : Nat} {L : List (List Int)} (hL : Fits n L) (hl : L.length < 1000000000) (hn : n < 140737488355328) : matrix_Rank.f L = some (((rk n (vecs L) : Nat) : Int), 0) := by
  unfold matrix_Rank.f
  rw [reduce_f hL hl hn, Option.bind_some, redRows_rank hL]
theorem rk_append {n : Nat} {l m : List V} (hl : AllSupp n l) (hm : AllSupp n m) : rk n (l ++ m) ≤ rk n l + rk n m := by
  obtain ⟨r, p, hr, e, _⟩ := exists_red n l hl
  obtain ⟨s, q, hs, e2, _⟩ := exists_red n m hm
  have hr2 := hl.of_le e.ge
  have hs2 := hm.of_le e2.ge
  rw [rk_eq hl hr e, rk_eq hm hs e2, rk_congr (hr2.append hs2) (SpEq.append e e2)]
  have := rk_le_length (hr2.append hs2)
  rwa [List.length_append] at this
/-- the sums, row by row -/
def sumRows (X Y : List (List Int)) : List (List Int) := List.zipWith (fun a b => List.zipWith xr a b) X Y
theorem sumRows_at {X Y : List (List Int)} (h : X.length = Y.length) {i : Nat} (hi : i < X.length) : (sumRows X Y).getD i [] = List.zipWith xr (X.getD i []) (Y.getD i []) := by
  unfold sumRows
  rw [List.getD_eq_getElem?_getD, List.getD_eq_getElem?_getD, List.getD_eq_getElem?_getD, List.getElem?_zipWith, List.getElem?_eq_getElem hi, List.getElem?_eq_getElem (by omega)]
  rfl
theorem sumRows_length {X Y : List (List Int)} (h : X.length = Y.length) : (sumRows X Y).length = X.length := by simp [sumRows]; omega
theorem sumRows_fits {c : Nat} {X Y : List (List Int)} (h : X.length = Y.length) (hX : Fits c X) (hY : Fits c Y) : Fits c (sumRows X Y) := fits_of fun j hj => by
  rw [sumRows_length h] at hj
  rw [sumRows_at h hj]
  have h1 := getD_fits hX hj
  have h2 := getD_fits hY (show j < Y.length by omega)
  exact ⟨by rw [List.length_zipWith]; omega, areB_zip _ xr_B _ _⟩
theorem add_f {a b : List Int} (h : a.length = b.length) (hn : a.length ≤ vN) : vector_Add.f a b = some (List.zipWith xr a b, 0) := by
  unfold vector_Add.f; rw [if_pos h, if_pos hn]
/-- one row less -/
def lessRow (X : List (List Int)) (k : Nat) : List (List Int) := X.take k ++ X.drop (k + 1)
theorem ranks_plain {c : Nat} {X Y : List (List Int)} (h : X.length = Y.length) (hX : Fits c X) (hY : Fits c Y) (k : Nat) (hk : k < X.length) :
    rk c (vecs (X ++ Y)) ≤ rk c (vecs X) + rk c (vecs Y) ∧ rk c (vecs X) ≤ rk c (vecs (X ++ Y)) ∧ rk c (vecs Y) ≤ rk c (vecs (X ++ Y)) ∧ rk c (vecs (sumRows X Y)) ≤ rk c (vecs X) + rk c (vecs Y) ∧ rk c (vecs (lessRow X k)) ≤ rk c (vecs X) ∧ rk c (vecs X) ≤ rk c (vecs (lessRow X k)) + 1 := by
  have hXs := vecs_supp hX
  have hYs := vecs_supp hY
  have hv : vecs (X ++ Y) = vecs X ++ vecs Y := by simp [vecs]
  have hXY : AllSupp c (vecs X ++ vecs Y) := hXs.append hYs
  have h1 := rk_append hXs hYs
  have hL : SpLe (vecs (lessRow X k)) (vecs X) := SpLe.of_sub fun v hv => by
    obtain ⟨r, hr, rfl⟩ := List.mem_map.1 hv
    refine List.mem_map.2 ⟨r, ?_, rfl⟩
    rcases List.mem_append.1 hr with q | q
    · exact List.mem_of_mem_take q
    · exact List.mem_of_mem_drop q
  have hLs : AllSupp c (vecs (lessRow X k)) := hXs.of_le hL
  have hone : AllSupp c [row (vecs X) k] := fun v hv => by rw [List.mem_singleton.1 hv]; exact hXs _ (row_mem (by rw [vecs_length]; exact hk))
  rw [hv]
  refine ⟨h1, rk_mono hXY (SpLe.left _ _), rk_mono hXY (SpLe.right _ _), ?_, rk_mono hXs hL, ?_⟩
  · refine Nat.le_trans (rk_mono hXY (SpLe.of_mem fun v hv => ?_)) h1
    obtain ⟨j, hj, rfl⟩ := mem_row hv
    rw [vecs_length, sumRows_length h] at hj
    have a := getD_fits hX hj
    have b := getD_fits hY (show j < Y.length by omega)
    rw [vecs_row, sumRows_at h hj, vec_add (by omega)]
    refine .add (.mem (List.mem_append_left _ ?_)) (.mem (List.mem_append_right _ ?_))
    · rw [← vecs_row]; exact row_mem (by rw [vecs_length]; exact hj)
    · rw [← vecs_row]; exact row_mem (by rw [vecs_length]; omega)
  · have h2 := rk_append hLs hone
    have h3 := rk_le_length hone
    have h4 : rk c (vecs X) ≤ rk c (vecs (lessRow X k) ++ [row (vecs X) k]) := rk_mono (hLs.append hone) (SpLe.of_mem fun v hv => by
      obtain ⟨j, hj, rfl⟩ := mem_row hv
      by_cases e : j = k
      · rw [e]; exact .mem (List.mem_append_right _ (List.mem_singleton.2 rfl))
      · refine .mem (List.mem_append_left _ (List.mem_map.2 ⟨X.getD j [], ?_, (vecs_row X j).symm⟩))
        rw [vecs_length] at hj
        rw [List.getD_eq_getElem?_getD, List.getElem?_eq_getElem hj]
        show X[j] ∈ lessRow X k
        unfold lessRow
        rw [List.mem_append]
        rcases Nat.lt_or_ge j k with q | q
        · left
          exact List.mem_iff_getElem.2 ⟨j, by rw [List.length_take]; omega, by rw [List.getElem_take]⟩
        · right
          exact List.mem_iff_getElem.2 ⟨j - (k + 1), by rw [List.length_drop]; omega, by rw [List.getElem_drop]; congr 1; omega⟩)
    simp only [List.length_cons, List.length_nil] at h3
    omega
end Go.Proofs.Ythlgmmgdaciinaa.Plain
