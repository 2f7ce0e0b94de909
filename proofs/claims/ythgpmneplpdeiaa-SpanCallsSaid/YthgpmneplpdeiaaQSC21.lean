/- QSC, part 21: PlRefs. -/
import Derived.Test.YthgpmneplpdeiaaQSC19
import Derived.Test.YthgpmneplpdeiaaQSC20

section
namespace Go.Proofs.Ythgpmneplpdeiaa.Plain
open Go.Proofs.Ythgpmneplpdeiaa.Hand Go.Proofs.Ythgpmneplpdeiaa.GF Go.Proofs.Ythgpmneplpdeiaa.LA Go.RowKit Go.Proofs.Ythgpmneplpdeiaa.P Go.Proofs.YthgpmneplpdeiaaW.PrintWords Go.Proofs.YthgpmneplpdeiaaW.PrintLast
theorem rd_atR (l : List Int) (i : Nat) (h : i < l.length) : rd l (i : Int) = l[i] := by
  rw [rd_nat, List.getD_eq_getElem?_getD, List.getElem?_eq_getElem h, Option.getD_some]
theorem one_stepR (i : Nat) (h : i < 140737488355328) : wrap64 ((i : Int) + 1) = ((i + 1 : Nat) : Int) := by unfold wrap64; omega
theorem ref_as_loop (a b : List Int) (c : Int) (hl : a.length = b.length) (hB : areB b) (hc : isB c) (hn : a.length < 140737488355328) (d : Nat) : ∀ (i k : Nat), i + d = a.length → d + 9 < k →
    braidworkref02_AddScaled.l0 k a b c ((List.zipWith (fun x y => xr x (gm y c)) a b).take i) i = some (List.zipWith (fun x y => xr x (gm y c)) a b, 0) := by
  have hz : (List.zipWith (fun x y => xr x (gm y c)) a b).length = a.length := by rw [List.length_zipWith]; omega
  induction d with
  | zero =>
    intro i k hi hk
    obtain ⟨k, rfl⟩ : ∃ m, k = m + 1 := ⟨k - 1, by omega⟩
    simp only [braidworkref02_AddScaled.l0]
    rw [if_neg (by omega), List.take_of_length_le (by omega)]
  | succ d ih =>
    intro i k hi hk
    obtain ⟨k, rfl⟩ : ∃ m, k = m + 1 := ⟨k - 1, by omega⟩
    have hia : i < a.length := by omega
    have hib : i < b.length := by omega
    have g := ih (i + 1) k (by omega) (by omega)
    rw [List.take_succ_eq_append_getElem (by omega), List.getElem_zipWith] at g
    simp only [braidworkref02_AddScaled.l0]
    rw [if_pos (by omega), if_pos (by omega), if_pos (by omega), rd_atR b i hib, ref_mul (hB _ (List.getElem_mem hib)) hc (by omega), Option.bind_some, if_pos (by rw [List.length_take]; omega), rd_atR a i hia, one_stepR i (by omega)]
    exact g
theorem ref_addScaled {a b : List Int} {c : Int} (hl : a.length = b.length) (hB : areB b) (hc : isB c) (hn : a.length < 140737488355328) {k : Nat} (hk : a.length + 9 < k) :
    braidworkref02_AddScaled.f k a b c = some (List.zipWith (fun x y => xr x (gm y c)) a b, 0) := by
  unfold braidworkref02_AddScaled.f
  rw [if_pos (by omega)]
  exact ref_as_loop a b c hl hB hc hn a.length 0 k (by omega) hk
theorem ref_lead_loop (a : List Int) (hn : a.length < 140737488355328) (d : Nat) : ∀ (i k : Nat), i + d = a.length → d < k → (∀ j (h : j < a.length), j < i → a[j] = 0) → braidworkref02_Lead.l0 k a i = some (leadN a) := by
  induction d with
  | zero =>
    intro i k hi hk h0
    obtain ⟨k, rfl⟩ : ∃ m, k = m + 1 := ⟨k - 1, by omega⟩
    simp only [braidworkref02_Lead.l0]
    rw [if_neg (by omega), leadN_neg fun x hx => by
      obtain ⟨j, hj, rfl⟩ := List.mem_iff_getElem.1 hx
      exact h0 j hj (by omega)]
  | succ d ih =>
    intro i k hi hk h0
    obtain ⟨k, rfl⟩ : ∃ m, k = m + 1 := ⟨k - 1, by omega⟩
    have hia : i < a.length := by omega
    simp only [braidworkref02_Lead.l0]
    rw [if_pos (by omega), if_pos (by omega), rd_atR a i hia]
    by_cases z : a[i] = 0
    · rw [if_pos z, one_stepR i (by omega)]
      exact ih (i + 1) k (by omega) (by omega) (fun j hj hji => by
        by_cases e : j = i
        · subst e; exact z
        · exact h0 j hj (by omega))
    · rw [if_neg z, leadN_pos hia z (fun j hj => h0 j (by omega) hj)]
theorem ref_addS {l r : List Int} {c : Int} (hl : l.length = r.length) (hB : areB r) (hc : isB c) (hn : l.length < 1000) : braidworkref02_AddScaled.f 2000 l r c = some (addS l r c, 0) := by
  rw [ref_addScaled hl hB hc (by omega) (by omega)]; rfl
theorem ref_lead (l : List Int) (z : Int) (hl : l.length < 1000) (h : leadN l = z) : braidworkref02_Lead.f 2000 l = some z := by
  rw [← h]
  exact ref_lead_loop l (by omega) l.length 0 _ (by omega) (by omega) (fun j _ h => absurd h (by omega))
theorem ref_scale (a : List Int) (c : Int) (hA : areB a) (hc : isB c) (hl : a.length < 1000) : braidworkref02_Scale.f 2000 a c = some (a.map fun x => gm x c) := by
  unfold braidworkref02_Scale.f
  rw [if_pos (by omega), if_pos (by omega), Int.toNat_natCast, ref_addScaled (by simp) hA hc (by simp; omega) (by simp; omega), Option.bind_some]
  congr 1
  refine List.ext_getElem (by simp) fun j h1 h2 => ?_
  simp only [List.getElem_zipWith, List.getElem_replicate, List.getElem_map]
  have hg := gm_B (a[j]'(by simpa using h2)) c
  refine byte_eq (xr_B _ _) hg ?_
  rw [toG_xr, show toG 0 = 0#8 from rfl, BitVec.zero_xor]
theorem gi_spec {x : Int} (hx : isB x) (h0 : x ≠ 0) : isB (gi x) ∧ gi x ≠ 0 ∧ gm x (gi x) = 1 ∧ ∀ y, isB y → gm x y = 1 → y = gi x := by
  have hg : toG x ≠ 0#8 := fun q => h0 (byte_eq (b := 0) hx ⟨by decide, by decide⟩ q)
  have hB : isB (gi x) := isB_ofG _
  have hm : gm x (gi x) = 1 := by unfold gm; rw [toG_gi, mul_inv _ hg]; rfl
  refine ⟨hB, fun e => ?_, hm, fun y hy e => ?_⟩
  · rw [e, gm_zero (Or.inr rfl)] at hm
    exact absurd hm (by decide)
  · refine byte_eq hy hB ?_
    rw [toG_gi]
    have e2 : mul (toG x) (toG y) = 1#8 := by rw [← toG_gm, e]; rfl
    have e3 : mul (inv (toG x)) (mul (toG x) (toG y)) = mul (inv (toG x)) 1#8 := by rw [e2]
    rw [← mul_assoc, inv_mul _ hg, one_mul, mul_one] at e3
    exact e3
theorem ref_inv_loop {x : Int} (hx : isB x) (h0 : x ≠ 0) (d : Nat) : ∀ (i k : Nat), 1 ≤ i → ((i + d : Nat) : Int) = gi x → d + 9 < k → braidworkref06_inv.l0 k x i = some (gi x) := by
  obtain ⟨hB, hn, hm, hu⟩ := gi_spec hx h0
  induction d with
  | zero =>
    intro i k h1 hi hk
    obtain ⟨k, rfl⟩ : ∃ m, k = m + 1 := ⟨k - 1, by omega⟩
    rw [Nat.add_zero] at hi
    simp only [braidworkref06_inv.l0]
    have hB2 := hB
    unfold isB at hB2
    have e : (i : Int) % 256 = gi x := by rw [hi]; omega
    rw [if_pos (by omega), e, ref_mul hx hB (by omega), Option.bind_some, hm, if_pos rfl]
  | succ d ih =>
    intro i k h1 hi hk
    obtain ⟨k, rfl⟩ : ∃ m, k = m + 1 := ⟨k - 1, by omega⟩
    simp only [braidworkref06_inv.l0]
    have hB2 := hB
    unfold isB at hB2
    have e : (i : Int) % 256 = (i : Int) := by omega
    have hiB : isB (i : Int) := ⟨by omega, by omega⟩
    have hne : gm x (i : Int) ≠ 1 := fun q => by have := hu _ hiB q; omega
    rw [if_pos (by omega), e, ref_mul hx hiB (by omega), Option.bind_some, if_neg hne, one_stepR i (by omega)]
    exact ih (i + 1) k (by omega) (by omega) (by omega)
theorem ref_inv {x : Int} (hx : isB x) (h0 : x ≠ 0) : braidworkref06_inv.f 2000 x = some (gi x) := by
  obtain ⟨hB, hn, _, _⟩ := gi_spec hx h0
  unfold isB at hB
  exact ref_inv_loop hx h0 ((gi x).toNat - 1) 1 2000 (by omega) (by omega) (by omega)
end Go.Proofs.Ythgpmneplpdeiaa.Plain
end
