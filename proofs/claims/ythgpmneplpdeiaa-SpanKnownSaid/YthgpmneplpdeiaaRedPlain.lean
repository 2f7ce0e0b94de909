/- Plain: elimination on rows of bytes is LA's elimination; what Reduce tells. -/
import Derived.Test.YthgpmneplpdeiaaHBytes
import Derived.Test.YthgpmneplpdeiaaLD
import Derived.Test.YthgpmneplpdeiaaHReduce
import Derived.Test.YthgpmneplpdeiaaHSame
/-! Plain: elimination on rows of bytes is LA's elimination; what Reduce and Inverse tell. -/
namespace Go.Proofs.Ythgpmneplpdeiaa.Plain
open Go.Proofs.Ythgpmneplpdeiaa.Hand Go.Proofs.Ythgpmneplpdeiaa.GF Go.Proofs.Ythgpmneplpdeiaa.LA Go.RowKit Go.Proofs.YthgpmneplpdeiaaW.PrintWords Go.Proofs.YthgpmneplpdeiaaW.PrintLast

/-- rows of bytes as vectors -/
def vecs (L : List (List Int)) : List V := L.map vec
theorem vecs_length (L : List (List Int)) : (vecs L).length = L.length := by simp [vecs]
theorem vec_nil : vec [] = vz := funext fun _ => rfl
theorem vecs_row (L : List (List Int)) (i : Nat) : row (vecs L) i = vec (L.getD i []) := by
  unfold row vecs
  rw [List.getD_eq_getElem?_getD, List.getElem?_map, List.getD_eq_getElem?_getD]
  cases L[i]? with
  | none => exact vec_nil.symm
  | some x => rfl
theorem vecs_supp {n : Nat} {L : List (List Int)} (h : Fits n L) : AllSupp n (vecs L) := fun v hv => by
  obtain ⟨r, hr, rfl⟩ := List.mem_map.1 hv
  have := vec_supp r
  rw [(h r hr).1] at this
  exact this
theorem vecs_take (L : List (List Int)) (d : Nat) : vecs (L.take d) = (vecs L).take d := by simp [vecs, List.map_take]
/-- rows of one length are told by their vectors -/
theorem vecs_inj {n : Nat} : ∀ {A B : List (List Int)}, Fits n A → Fits n B → vecs A = vecs B → A = B
  | [], [], _, _, _ => rfl
  | [], b :: B, _, _, h => by simp [vecs] at h
  | a :: A, [], _, _, h => by simp [vecs] at h
  | a :: A, b :: B, hA, hB, h => by
    simp only [vecs, List.map_cons, List.cons.injEq] at h
    have h1 := hA a (List.mem_cons_self)
    have h2 := hB b (List.mem_cons_self)
    rw [vec_ext (h1.1.trans h2.1.symm) h1.2 h2.2 (fun j _ => by rw [h.1]), vecs_inj (fun r hr => hA r (List.mem_cons_of_mem _ hr)) (fun r hr => hB r (List.mem_cons_of_mem _ hr)) h.2]
theorem toG_gi (x : Int) : toG (gi x) = inv (toG x) := toG_ofG _
theorem getD_set (M : List (List Int)) (i j : Nat) (x : List Int) (hi : i < M.length) : (M.set i x).getD j [] = if j = i then x else M.getD j [] := by
  rw [List.getD_eq_getElem?_getD, List.getD_eq_getElem?_getD]
  by_cases e : j = i
  · subst e; rw [if_pos rfl, List.getElem?_set_self hi]; rfl
  · rw [if_neg e, List.getElem?_set_ne (fun q => e q.symm)]
theorem pivoted_getD (M : List (List Int)) (d i k j : Nat) (hd : d < M.length) (hi : i < M.length) : (pivoted M d i k).getD j [] = if j = d then (M.getD i []).map (fun x => gm x (gi ((M.getD i []).getD k 0))) else if j = i then M.getD d [] else M.getD j [] := by
  unfold pivoted
  rw [getD_set _ _ _ _ (by rw [List.length_set]; exact hd)]
  by_cases e : j = d
  · rw [if_pos e, if_pos e]
  · rw [if_neg e, if_neg e, getD_set _ _ _ _ hi]
theorem step_vec {n : Nat} {M : List (List Int)} (hM : Fits n M) {d i : Nat} (hd : d < M.length) (hi : i < M.length) (k : Nat) : vecs (stepI M d i k) = LA.step (vecs M) d i k := by
  have hP := pivoted_fits hM hd hi k
  have hlen : (vecs (stepI M d i k)).length = (LA.step (vecs M) d i k).length := by rw [vecs_length, stepI_length, step_length, vecs_length]
  refine ext_rows hlen fun j hj => ?_
  rw [vecs_length, stepI_length] at hj
  have hPl := pivoted_length M d i k
  have hdP : vec ((pivoted M d i k).getD d []) = pivot (vecs M) i k := by
    rw [pivoted_getD M d i k d hd hi, if_pos rfl, vec_scale, toG_gi]
    unfold pivot
    rw [vecs_row]
    rfl
  have hjP : j ≠ d → vec ((pivoted M d i k).getD j []) = swapped (vecs M) d i j := fun e => by
    rw [pivoted_getD M d i k j hd hi, if_neg e]
    unfold swapped
    by_cases e2 : j = i
    · rw [if_pos e2, if_pos e2, vecs_row]
    · rw [if_neg e2, if_neg e2, vecs_row]
  rw [step_row (by rw [vecs_length]; exact hj), vecs_row]
  have e0 : (stepI M d i k).getD j [] = if j < M.length ∧ j ≠ d then addS ((pivoted M d i k).getD j []) ((pivoted M d i k).getD d []) (((pivoted M d i k).getD j []).getD k 0) else (pivoted M d i k).getD j [] := by
    unfold stepI clr
    rw [List.getD_eq_getElem?_getD, List.getElem?_map, hPl, List.getElem?_range hj]
    rfl
  rw [e0]
  by_cases e : j = d
  · rw [if_neg (by omega), if_pos e, e, hdP]
  · rw [if_pos ⟨hj, e⟩, if_neg e]
    unfold addS
    rw [vec_addScaled (by rw [(getD_fits hP (by rw [hPl]; exact hj)).1, (getD_fits hP (by rw [hPl]; exact hd)).1]), hdP, hjP e]
    have : toG (((pivoted M d i k).getD j []).getD k 0) = vec ((pivoted M d i k).getD j []) k := rfl
    rw [this, hjP e]
theorem redTo_inv {n : Nat} {L : List (List Int)} (hL : Fits n L) (k : Nat) : ∃ p, LA.Inv (vecs (redTo L k).1) (redTo L k).2 k p ∧ SpEq (vecs L) (vecs (redTo L k).1) := by
  induction k with
  | zero => exact ⟨[], .start _, .refl _⟩
  | succ k ih =>
    obtain ⟨p, h1, h2⟩ := ih
    have hF := redTo_fits hL k
    show ∃ p, LA.Inv (vecs (colStep (redTo L k) k).1) (colStep (redTo L k) k).2 (k + 1) p ∧ SpEq (vecs L) (vecs (colStep (redTo L k) k).1)
    generalize redTo L k = S at *
    unfold colStep
    cases e : pick S.1 S.2 k with
    | none =>
      refine ⟨p, h1.pass fun i hi1 hi2 => ?_, h2⟩
      rw [vecs_length] at hi2
      unfold pick at e
      rw [List.find?_eq_none] at e
      have := e i (List.mem_range.2 hi2)
      rw [vecs_row]
      have h0 : (S.1.getD i []).getD k 0 = 0 := by
        rcases Decidable.em ((S.1.getD i []).getD k 0 = 0) with q | q
        · exact q
        · exact absurd (by simp only [Bool.and_eq_true, decide_eq_true_eq, bne_iff_ne, ne_eq]; exact ⟨hi1, q⟩) this
      show toG ((S.1.getD i []).getD k 0) = _
      rw [h0]; rfl
    | some i =>
      obtain ⟨hi1, hi2, hi3⟩ := pick_some e
      have hne : row (vecs S.1) i k ≠ 0#8 := by
        rw [vecs_row]
        intro h0
        have hB := (getD_fits hF.1 hi2).2
        have hb : isB ((S.1.getD i []).getD k 0) := by
          rw [List.getD_eq_getElem?_getD]
          cases q : (S.1.getD i [])[k]? with
          | none => exact ⟨by decide, by decide⟩
          | some x => exact hB x (List.mem_of_getElem? q)
        exact hi3 (byte_eq hb ⟨by decide, by decide⟩ h0)
      dsimp only
      rw [step_vec hF.1 (by omega) hi2 k]
      exact ⟨p ++ [k], h1.step hi1 (by rw [vecs_length]; exact hi2) hne, h2.trans (step_span (by rw [vecs_length]; omega) (by rw [vecs_length]; exact hi2) hne)⟩
/-- the reduced rows -/
def redRows (L : List (List Int)) (n : Nat) : List (List Int) := (redTo L n).1.take (redTo L n).2
theorem redRows_spec {n : Nat} {L : List (List Int)} (hL : Fits n L) : ∃ p, Red (vecs (redRows L n)) p ∧ SpEq (vecs L) (vecs (redRows L n)) ∧ Fits n (redRows L n) ∧ (redRows L n).length ≤ L.length := by
  obtain ⟨p, h1, h2⟩ := redTo_inv hL n
  have hF := redTo_fits hL n
  refine ⟨p, ?_, ?_, fun r hr => hF.1 r (List.mem_of_mem_take hr), ?_⟩
  · unfold redRows; rw [vecs_take]; exact h1.red
  · unfold redRows; rw [vecs_take]; exact h2.trans (h1.span (vecs_supp hF.1))
  · unfold redRows; rw [List.length_take, hF.2]; omega
theorem redRows_rank {n : Nat} {L : List (List Int)} (hL : Fits n L) : (redRows L n).length = rk n (vecs L) := by
  obtain ⟨p, h1, h2, _, _⟩ := redRows_spec hL
  rw [rk_eq (vecs_supp hL) h1 h2, vecs_length]
/-- the same span: the same reduced rows -/
theorem redRows_eq {n : Nat} {L M : List (List Int)} (hL : Fits n L) (hM : Fits n M) (h : SpEq (vecs L) (vecs M)) : redRows L n = redRows M n := by
  obtain ⟨p, h1, h2, h3, _⟩ := redRows_spec hL
  obtain ⟨q, k1, k2, k3, _⟩ := redRows_spec hM
  exact vecs_inj h3 k3 (h1.unique k1 ((h2.symm.trans h).trans k2))
theorem any_len {n : Nat} {L : List (List Int)} (hL : Fits n L) : (L.any fun x => (x.length : Int) != ((rdR L 0).length : Int)) = false := by
  refine List.any_eq_false.2 fun x hx => ?_
  have h0 : (rdR L 0).length = n := by
    have hp : 0 < L.length := List.length_pos_of_mem hx
    exact (getD_fits hL hp).1
  rw [h0, (hL x hx).1]; simp
theorem width {n : Nat} {L : List (List Int)} (hL : Fits n L) (hp : 0 < L.length) : (rdR L 0).length = n := (getD_fits hL hp).1
theorem redTo_nil (k : Nat) : redTo [] k = ([], 0) := by
  induction k with
  | zero => rfl
  | succ k ih => show colStep (redTo [] k) k = _; rw [ih]; rfl
theorem reduce_f {n : Nat} {L : List (List Int)} (hL : Fits n L) (hl : L.length < 1000000000) (hn : n < 140737488355328) : matrix_Reduce.f L = some (redRows L n, 0) := by
  unfold matrix_Reduce.f
  rw [if_pos hl, if_neg (by rw [any_len hL]; decide)]
  by_cases hp : 0 < L.length
  · rw [width hL hp, if_pos ⟨hn, fun x hx => (hL x hx).2⟩]; rfl
  · have e := List.length_eq_zero_iff.1 (show L.length = 0 by omega)
    subst e
    unfold redRows
    rw [redTo_nil, redTo_nil, if_pos ⟨by decide, fun x hx => by cases hx⟩]
theorem same_f {n m : Nat} {A B : List (List Int)} (hA : Fits n A) (hB : Fits m B) (hl : A.length < 1000000000) : matrix_Same.f A B = some (decide (A = B)) := by
  unfold matrix_Same.f
  rw [if_pos ⟨hl, fun x hx => (hA x hx).2, fun x hx => (hB x hx).2⟩]
end Go.Proofs.Ythgpmneplpdeiaa.Plain
