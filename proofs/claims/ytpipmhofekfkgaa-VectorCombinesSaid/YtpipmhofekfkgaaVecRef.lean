/- The reference's sums, combinations and units are the program's. -/
import Derived.Test.YtpipmhofekfkgaaVecPlain
import Derived.Test.YtpipmhofekfkgaaHRef
namespace Go.Proofs.Ytpipmhofekfkgaa.Pure
open Go.Proofs.Ytpipmhofekfkgaa.Hand Go.Proofs.Ytpipmhofekfkgaa.LA Go.RowKit Go.Proofs.Ytpipmhofekfkgaa.P Go.Proofs.YtpipmhofekfkgaaW.PrintWords Go.Proofs.YtpipmhofekfkgaaW.PrintLast

theorem ref_as_loop (a b : List Int) (c : Int) (hl : a.length = b.length) (hB : areB b) (hc : isB c) (hn : a.length < 140737488355328) (d : Nat) : ∀ (i k : Nat), i + d = a.length → d + 9 < k →
    braidworkref02_AddScaled.l0 k a b c ((List.zipWith (fun x y => xr x (gm y c)) a b).take i) i = some (List.zipWith (fun x y => xr x (gm y c)) a b, 0) := by
  have hz : (List.zipWith (fun x y => xr x (gm y c)) a b).length = a.length := by rw [List.length_zipWith]; omega
  induction d with
  | zero =>
    intro i k hi hk
    obtain ⟨k, rfl⟩ : ∃ m, k = m + 1 := ⟨k - 1, by omega⟩
    simp only [braidworkref02_AddScaled.l0]
    rw [if_neg (by omega), List.take_of_length_le (by omega)]
  | succ d ih =>
    intro i k hi hk
    obtain ⟨k, rfl⟩ : ∃ m, k = m + 1 := ⟨k - 1, by omega⟩
    have hia : i < a.length := by omega
    have hib : i < b.length := by omega
    have g := ih (i + 1) k (by omega) (by omega)
    rw [List.take_succ_eq_append_getElem (by omega), List.getElem_zipWith] at g
    simp only [braidworkref02_AddScaled.l0]
    rw [if_pos (by omega), if_pos (by omega), if_pos (by omega), rd_at b i hib, ref_mul (hB _ (List.getElem_mem hib)) hc (by omega), Option.bind_some, if_pos (by rw [List.length_take]; omega), rd_at a i hia, show wrap64 ((i : Int) + 1) = ((i + 1 : Nat) : Int) from by unfold wrap64; omega]
    exact g
theorem ref_addScaled {a b : List Int} {c : Int} (hl : a.length = b.length) (hB : areB b) (hc : isB c) (hn : a.length < 140737488355328) {k : Nat} (hk : a.length + 9 < k) :
    braidworkref02_AddScaled.f k a b c = some (List.zipWith (fun x y => xr x (gm y c)) a b, 0) := by
  unfold braidworkref02_AddScaled.f
  rw [if_pos (by omega)]
  exact ref_as_loop a b c hl hB hc hn a.length 0 k (by omega) hk
theorem both_combine_loop (l : List (List Int)) (c : List Int) (hr : ∀ r ∈ l, r.length < 140737488355328 ∧ areB r) (hc : c.length = l.length) (hB : areB c) (hl : l.length < 9223372036854775807) (d : Nat) :
    ∀ (i k k' : Nat) (acc : List Int), acc.length < 140737488355328 → areB acc → i + d = l.length → d < k → d + acc.length + 20 < k' →
      ∃ out, vector_Combine.l0 k l c acc (l.length : Int) i = some out ∧ braidworkref02_Combine.l0 k' l c acc i = some out ∧ out.1.length < 140737488355328 := by
  have hv : vN = 281474976710656 := rfl
  induction d with
  | zero =>
    intro i k k' acc h1 h2 h3 h4 h5
    obtain ⟨k, rfl⟩ : ∃ m, k = m + 1 := ⟨k - 1, by omega⟩
    obtain ⟨k', rfl⟩ : ∃ m, k' = m + 1 := ⟨k' - 1, by omega⟩
    refine ⟨(acc, 0), ?_, ?_, h1⟩
    · simp only [vector_Combine.l0]; rw [if_neg (by omega)]
    · simp only [braidworkref02_Combine.l0]; rw [if_neg (by omega)]
  | succ d ih =>
    intro i k k' acc h1 h2 h3 h4 h5
    obtain ⟨k, rfl⟩ : ∃ m, k = m + 1 := ⟨k - 1, by omega⟩
    obtain ⟨k', rfl⟩ : ∃ m, k' = m + 1 := ⟨k' - 1, by omega⟩
    have hi : i < l.length := by omega
    have hri := hr _ (List.getElem_mem hi)
    have hci := hB _ (List.getElem_mem (show i < c.length by omega))
    simp only [vector_Combine.l0, braidworkref02_Combine.l0]
    rw [if_pos (show (i : Int) < (l.length : Int) by omega), if_pos (show (0 : Int) ≤ (i : Int) by omega), if_pos (show (i : Int) < (l.length : Int) by omega), if_pos (show (i : Int) < (c.length : Int) by omega), if_pos (show (i : Int) < (l.length : Int) by omega), if_pos (show (0 : Int) ≤ (i : Int) by omega), rd_L1_nat l i hi, rd_at c i (by omega)]
    by_cases hz : acc.length = (l[i]).length
    · have ha : vector_AddScaled.f acc l[i] (c[i]'(by omega)) = some (List.zipWith (fun x y => xr x (gm y (c[i]'(by omega)))) acc l[i], 0) := by
        unfold vector_AddScaled.f
        rw [if_pos hz, if_pos ⟨by omega, hri.2, hci⟩]
      obtain ⟨out, g1, g2, g3⟩ := ih (i + 1) k k' (List.zipWith (fun x y => xr x (gm y (c[i]'(by omega)))) acc l[i]) (by rw [List.length_zipWith]; omega) (areB_zip _ (fun x y => xr_B _ _) _ _) (by omega) (by omega) (by rw [List.length_zipWith]; omega)
      refine ⟨out, ?_, ?_, g3⟩
      · rw [ha, Option.bind_some, if_pos rfl, show wrap64 ((i : Int) + 1) = ((i + 1 : Nat) : Int) from by unfold wrap64; omega]
        exact g1
      · rw [if_pos (by omega), if_pos (by omega), ref_addScaled hz hri.2 hci (by omega) (by omega), Option.bind_some, show wrap64 ((i : Int) + 1) = ((i + 1 : Nat) : Int) from by unfold wrap64; omega]
        exact g2
    · refine ⟨([], 21), ?_, ?_, by decide⟩
      · have ha : vector_AddScaled.f acc l[i] (c[i]'(by omega)) = some ([], 21) := by
          unfold vector_AddScaled.f
          rw [if_neg hz]
        rw [ha, Option.bind_some, if_neg (by decide)]
      · rw [if_neg (by omega)]
/-- Combine, the program's and the reference's: the same, whatever comes in -/
theorem both_combine (l : List (List Int)) (c : List Int) (hr : ∀ r ∈ l, r.length < 140737488355328 ∧ areB r) (hB : areB c) (hl : l.length < 9223372036854775807) (k k' : Nat) (hk : l.length < k) (hk' : ∀ r ∈ l, l.length + r.length + 20 < k') :
    ∃ out, vector_Combine.f k l c = some out ∧ braidworkref02_Combine.f k' l c = some out ∧ out.1.length < 140737488355328 := by
  by_cases h0 : l.length = 0
  · exact ⟨([], 1), by unfold vector_Combine.f; rw [if_pos (by omega)], by unfold braidworkref02_Combine.f; rw [if_pos (by omega)], by decide⟩
  · by_cases hc : c.length = l.length
    · have h0' : 0 < l.length := by omega
      have hm := hr _ (List.getElem_mem h0')
      have hk2 := hk' _ (List.getElem_mem h0')
      have hz : rd_L1 l 0 = l[0] := rd_L1_nat l 0 h0'
      have e1 : vector_Combine.f k l c = vector_Combine.l0 k l c (List.replicate l[0].length 0) (l.length : Int) 0 := by
        unfold vector_Combine.f
        rw [if_neg (by omega), if_pos (by omega), if_pos (by omega), if_pos (by omega), hz, if_pos (by omega), Int.toNat_natCast]
      have e2 : braidworkref02_Combine.f k' l c = braidworkref02_Combine.l0 k' l c (List.replicate l[0].length 0) 0 := by
        unfold braidworkref02_Combine.f
        rw [if_neg (by omega), if_pos (by omega), if_pos (by omega), if_pos (by omega), hz, if_pos (by omega), Int.toNat_natCast]
      rw [e1, e2]
      exact both_combine_loop l c hr hc hB hl l.length 0 k k' _ (by simp; omega) (areB_zeros _) (by omega) hk (by simp; omega)
    · exact ⟨([], 21), by unfold vector_Combine.f; rw [if_neg (by omega), if_neg (by omega)], by unfold braidworkref02_Combine.f; rw [if_neg (by omega), if_neg (by omega)], by decide⟩
theorem both_unit (n i : Int) : ∃ out, vector_Unit.f n i = some out ∧ braidworkref02_Unit.f n i = some out := by
  have e : braidworkref02_Unit.f n i = vector_Unit.f n i := rfl
  rw [e]
  suffices h : ∃ out, vector_Unit.f n i = some out from h.elim fun o ho => ⟨o, ho, ho⟩
  unfold vector_Unit.f
  by_cases h1 : n < 0
  · rw [if_pos h1]; exact ⟨_, rfl⟩
  by_cases h2 : n > 70000
  · rw [if_neg h1, if_pos h2]; exact ⟨_, rfl⟩
  by_cases h3 : i < 0
  · rw [if_neg h1, if_neg h2, if_pos h3]; exact ⟨_, rfl⟩
  by_cases h4 : i ≥ n
  · rw [if_neg h1, if_neg h2, if_neg h3, if_pos h4]; exact ⟨_, rfl⟩
  · rw [if_neg h1, if_neg h2, if_neg h3, if_neg h4, if_pos (by omega), if_pos (by omega), Option.bind_some, if_pos (by omega), if_pos (by rw [List.length_replicate]; omega)]
    exact ⟨_, rfl⟩
end Go.Proofs.Ytpipmhofekfkgaa.Pure
