/- Plain: sums, products, leads: the program's answers are the reference's. -/
import Derived.Test.YtpipmhofekfkgaaHBytes
import Derived.Test.YtpipmhofekfkgaaHRef
import Derived.Test.YtpipmhofekfkgaaP2
import Derived.Test.YtpipmhofekfkgaaP1
import Derived.Test.YtpipmhofekfkgaaP1
import Derived.Test.YtpipmhofekfkgaaP2
namespace Go.Proofs.Ytpipmhofekfkgaa.Plain
open Go.Proofs.Ytpipmhofekfkgaa.Hand Go.Proofs.Ytpipmhofekfkgaa.GF Go.Proofs.Ytpipmhofekfkgaa.LA Go.RowKit Go.Proofs.Ytpipmhofekfkgaa.P Go.Proofs.YtpipmhofekfkgaaW.PrintWords Go.Proofs.YtpipmhofekfkgaaW.PrintLast
theorem sums_wakes (k : Nat) : braidworklaw02_wakes.f (k + 3) = some true := by kernel_rfl
theorem rd_at (l : List Int) (i : Nat) (h : i < l.length) : rd l (i : Int) = l[i] := by
  rw [rd_nat, List.getD_eq_getElem?_getD, List.getElem?_eq_getElem h, Option.getD_some]
theorem one_step (i : Nat) (h : i < 140737488355328) : wrap64 ((i : Int) + 1) = ((i + 1 : Nat) : Int) := by unfold wrap64; omega
theorem ref_as_loop (a b : List Int) (c : Int) (hl : a.length = b.length) (hB : areB b) (hc : isB c) (hn : a.length < 140737488355328) (d : Nat) : ∀ (i k : Nat), i + d = a.length → d + 9 < k →
    braidworkref02_AddScaled.l0 k a b c ((List.zipWith (fun x y => xr x (gm y c)) a b).take i) i = some (List.zipWith (fun x y => xr x (gm y c)) a b, 0) := by
  have hz : (List.zipWith (fun x y => xr x (gm y c)) a b).length = a.length := by rw [List.length_zipWith]; omega
  induction d with
  | zero =>
    intro i k hi hk
    obtain ⟨k, rfl⟩ : ∃ m, k = m + 1 := ⟨k - 1, by omega⟩
    simp only [braidworkref02_AddScaled.l0]
    rw [if_neg (by omega), List.take_of_length_le (by omega)]
  | succ d ih =>
    intro i k hi hk
    obtain ⟨k, rfl⟩ : ∃ m, k = m + 1 := ⟨k - 1, by omega⟩
    have hia : i < a.length := by omega
    have hib : i < b.length := by omega
    have g := ih (i + 1) k (by omega) (by omega)
    rw [List.take_succ_eq_append_getElem (by omega), List.getElem_zipWith] at g
    simp only [braidworkref02_AddScaled.l0]
    rw [if_pos (by omega), if_pos (by omega), if_pos (by omega), rd_at b i hib, ref_mul (hB _ (List.getElem_mem hib)) hc (by omega), Option.bind_some, if_pos (by rw [List.length_take]; omega), rd_at a i hia, one_step i (by omega)]
    exact g
theorem ref_addScaled {a b : List Int} {c : Int} (hl : a.length = b.length) (hB : areB b) (hc : isB c) (hn : a.length < 140737488355328) {k : Nat} (hk : a.length + 9 < k) :
    braidworkref02_AddScaled.f k a b c = some (List.zipWith (fun x y => xr x (gm y c)) a b, 0) := by
  unfold braidworkref02_AddScaled.f
  rw [if_pos (by omega)]
  exact ref_as_loop a b c hl hB hc hn a.length 0 k (by omega) hk
theorem ref_dot_loop (a b : List Int) (hl : a.length = b.length) (hA : areB a) (hB : areB b) (hn : a.length < 140737488355328) (d : Nat) : ∀ (i k : Nat) (s : Int), i + d = a.length → d + 9 < k →
    braidworkref02_Dot.l0 k a b s i = some (((List.zipWith gm a b).drop i).foldl xr s, 0) := by
  induction d with
  | zero =>
    intro i k s hi hk
    obtain ⟨k, rfl⟩ : ∃ m, k = m + 1 := ⟨k - 1, by omega⟩
    simp only [braidworkref02_Dot.l0]
    rw [if_neg (by omega), List.drop_of_length_le (by rw [List.length_zipWith]; omega)]; rfl
  | succ d ih =>
    intro i k s hi hk
    obtain ⟨k, rfl⟩ : ∃ m, k = m + 1 := ⟨k - 1, by omega⟩
    have hia : i < a.length := by omega
    have hib : i < b.length := by omega
    have hz : i < (List.zipWith gm a b).length := by rw [List.length_zipWith]; omega
    simp only [braidworkref02_Dot.l0]
    rw [if_pos (by omega), if_pos (by omega), if_pos (by omega), rd_at a i hia, rd_at b i hib, ref_mul (hA _ (List.getElem_mem hia)) (hB _ (List.getElem_mem hib)) (by omega), Option.bind_some, one_step i (by omega), List.drop_eq_getElem_cons hz, List.getElem_zipWith]
    exact ih (i + 1) k _ (by omega) (by omega)
theorem ref_lead_loop (a : List Int) (hn : a.length < 140737488355328) (d : Nat) : ∀ (i k : Nat), i + d = a.length → d < k → (∀ j (h : j < a.length), j < i → a[j] = 0) → braidworkref02_Lead.l0 k a i = some (leadN a) := by
  induction d with
  | zero =>
    intro i k hi hk h0
    obtain ⟨k, rfl⟩ : ∃ m, k = m + 1 := ⟨k - 1, by omega⟩
    simp only [braidworkref02_Lead.l0]
    rw [if_neg (by omega), leadN_neg fun x hx => by
      obtain ⟨j, hj, rfl⟩ := List.mem_iff_getElem.1 hx
      exact h0 j hj (by omega)]
  | succ d ih =>
    intro i k hi hk h0
    obtain ⟨k, rfl⟩ : ∃ m, k = m + 1 := ⟨k - 1, by omega⟩
    have hia : i < a.length := by omega
    simp only [braidworkref02_Lead.l0]
    rw [if_pos (by omega), if_pos (by omega), rd_at a i hia]
    by_cases z : a[i] = 0
    · rw [if_pos z, one_step i (by omega)]
      exact ih (i + 1) k (by omega) (by omega) (fun j hj hji => by
        by_cases e : j = i
        · subst e; exact z
        · exact h0 j hj (by omega))
    · rw [if_neg z, leadN_pos hia z (fun j hj => h0 j (by omega) hj)]
theorem gm_one {y : Int} (h : isB y) : gm y 1 = y := by
  unfold gm
  rw [show toG 1 = 1#8 from rfl, mul_one, ofG_toG h.1 h.2]
theorem sums_plain (a b : List Int) (c : Int) (hA : areB a) (hB : areB b) (hc : isB c) (ha : a.length ≤ 140737488351232) (hb : b.length ≤ 140737488351232) :
    ∃ (l : List Int) (e : Int) (n : List Int) (g p i : Int) (s : List Int) (d : Int) (k : Nat), vector_Add.f a b = some (l, e) ∧ braidworkref02_Add.f k a b = some (l, e) ∧ vector_AddScaled.f a b c = some (n, g) ∧ braidworkref02_AddScaled.f k a b c = some (n, g) ∧ vector_Dot.f a b = some (p, i) ∧ braidworkref02_Dot.f k a b = some (p, i) ∧
      vector_Scale.f a c = some s ∧ braidworkref02_Scale.f k a c = some s ∧ vector_Lead.f a = some d ∧ braidworkref02_Lead.f k a = some d ∧ vector_IsZero.f a = some (decide (d < 0)) ∧ braidworklaw02_own.f a = some a ∧ braidworklaw02_own.f b = some b := by
  have vn : a.length ≤ vN := Nat.le_trans ha (by decide)
  have hs : vector_Scale.f a c = some (a.map fun x => gm x c) := by unfold vector_Scale.f; rw [if_pos ⟨vn, hA, hc⟩]
  have hs2 : braidworkref02_Scale.f (a.length + 20) a c = some (a.map fun x => gm x c) := by
    unfold braidworkref02_Scale.f
    rw [if_pos (by omega), if_pos (by omega), Int.toNat_natCast, ref_addScaled (by simp) hA hc (by simp; omega) (by simp), Option.bind_some]
    congr 1
    refine List.ext_getElem (by simp) fun j h1 h2 => ?_
    simp only [List.getElem_zipWith, List.getElem_replicate, List.getElem_map]
    have hg := gm_B (a[j]'(by simpa using h2)) c
    refine byte_eq (xr_B _ _) hg ?_
    rw [toG_xr, show toG 0 = 0#8 from rfl, BitVec.zero_xor]
  have hd : vector_Lead.f a = some (leadN a) := if_pos (by omega)
  have hd2 : braidworkref02_Lead.f (a.length + 20) a = some (leadN a) := ref_lead_loop a (by omega) a.length 0 _ (by omega) (by omega) (fun j _ h => absurd h (by omega))
  have hz : vector_IsZero.f a = some (decide (leadN a < 0)) := by unfold vector_IsZero.f; rw [hd, Option.bind_some]
  have ho : ∀ x : List Int, x.length ≤ 140737488351232 → braidworklaw02_own.f x = some x := fun x hx => by
    unfold braidworklaw02_own.f
    rw [if_pos (by simp; omega)]; simp
  by_cases hl : a.length = b.length
  · have h1 : braidworkref02_AddScaled.f (a.length + 20) a b 1 = some (List.zipWith xr a b, 0) := by
      rw [ref_addScaled hl hB ⟨by decide, by decide⟩ (by omega) (by omega)]
      congr 2
      refine List.ext_getElem (by simp) fun j h1 h2 => ?_
      simp only [List.getElem_zipWith]
      rw [gm_one (hB _ (List.getElem_mem _))]
    refine ⟨List.zipWith xr a b, 0, List.zipWith (fun x y => xr x (gm y c)) a b, 0, dotI a b, 0, _, _, a.length + 20, ?_, ?_, ?_, ref_addScaled hl hB hc (by omega) (by omega), ?_, ?_, hs, hs2, hd, hd2, hz, ho a ha, ho b hb⟩
    · unfold vector_Add.f; rw [if_pos hl, if_pos vn]
    · unfold braidworkref02_Add.f; rw [h1, Option.bind_some]
    · unfold vector_AddScaled.f; rw [if_pos hl, if_pos ⟨vn, hB, hc⟩]
    · unfold vector_Dot.f; rw [if_pos hl, if_pos ⟨vn, hA, hB⟩]
    · unfold braidworkref02_Dot.f
      rw [if_pos (by omega)]
      exact ref_dot_loop a b hl hA hB (by omega) a.length 0 _ 0 (by omega) (by omega)
  · have hl2 : ¬ (a.length : Int) = (b.length : Int) := by omega
    have h1 : ∀ x, braidworkref02_AddScaled.f (a.length + 20) a b x = some ([], 21) := fun x => by unfold braidworkref02_AddScaled.f; rw [if_neg hl2]
    refine ⟨[], 21, [], 21, 0, 21, _, _, a.length + 20, ?_, ?_, ?_, h1 c, ?_, ?_, hs, hs2, hd, hd2, hz, ho a ha, ho b hb⟩
    · unfold vector_Add.f; rw [if_neg hl]
    · unfold braidworkref02_Add.f; rw [h1, Option.bind_some]
    · unfold vector_AddScaled.f; rw [if_neg hl]
    · unfold vector_Dot.f; rw [if_neg hl]
    · unfold braidworkref02_Dot.f; rw [if_neg hl2]
end Go.Proofs.Ytpipmhofekfkgaa.Plain
