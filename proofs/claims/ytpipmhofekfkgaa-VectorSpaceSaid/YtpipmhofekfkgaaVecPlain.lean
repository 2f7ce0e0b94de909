/- Plain: what the printed functions of the vector laws answer. -/
import Derived.Test.YtpipmhofekfkgaaHBytes
import Derived.Test.YtpipmhofekfkgaaP1
import Derived.Test.YtpipmhofekfkgaaP1
import Derived.Test.YtpipmhofekfkgaaP1
namespace Go.Proofs.Ytpipmhofekfkgaa.Pure
open Go.Proofs.Ytpipmhofekfkgaa.Hand Go.Proofs.Ytpipmhofekfkgaa.GF Go.Proofs.Ytpipmhofekfkgaa.LA Go.RowKit Go.Proofs.Ytpipmhofekfkgaa.P Go.Proofs.YtpipmhofekfkgaaW.PrintWords Go.Proofs.YtpipmhofekfkgaaW.PrintLast

theorem wakes_ok (k : Nat) : braidworklaw02_wakes.f (k + 3) = some true := by kernel_rfl
theorem unit_eq (n i : Nat) (hn : n ≤ 70000) (hi : i < n) : vector_Unit.f (n : Int) (i : Int) = some ((List.replicate n 0).set i 1, 0) := by
  unfold vector_Unit.f
  rw [if_neg (by omega), if_neg (by omega), if_neg (by omega), if_neg (by omega), if_pos (by omega), if_pos (by omega), Option.bind_some, Int.toNat_natCast, List.length_replicate, if_pos (by omega), if_pos (by omega), Int.toNat_natCast]
theorem lead_unit (n i : Nat) (hi : i < n) : leadN ((List.replicate n 0).set i 1) = i := by
  have h1 : ((List.replicate n (0 : Int)).set i 1).findIdx (fun x => x != 0) = i := by
    refine (List.findIdx_eq (by simpa using hi)).2 ⟨by simp, fun j hj => ?_⟩
    rw [List.getElem_set_ne (by omega)]
    simp
  unfold leadN
  rw [h1, if_pos (by simpa using hi)]
theorem lead_unit_f (n i : Nat) (hn : n ≤ 70000) (hi : i < n) : vector_Lead.f ((List.replicate n 0).set i 1) = some (i : Int) := by
  unfold vector_Lead.f
  rw [if_pos (by simp; omega), lead_unit n i hi]
theorem comb_cons (v : V) (l : List V) (c : Nat → G) : comb (v :: l) c = va (vs (c 0) v) (comb l fun j => c (j + 1)) := funext fun k => by
  unfold comb va vs
  rw [List.length_cons, Nat.add_comm, S_append]
  congr 1
  · show 0#8 ^^^ _ = _
    rw [BitVec.zero_xor]; rfl
  · exact S_congr fun i _ => by rw [Nat.add_comm]; rfl
theorem rd_L1_nat (l : List (List Int)) (i : Nat) (h : i < l.length) : rd_L1 l (i : Int) = l[i] := by
  unfold rd_L1; rw [Int.toNat_natCast, List.getD_eq_getElem?_getD, List.getElem?_eq_getElem h, Option.getD_some]
theorem rd_at (l : List Int) (i : Nat) (h : i < l.length) : rd l (i : Int) = l[i] := by
  rw [rd_nat, List.getD_eq_getElem?_getD, List.getElem?_eq_getElem h, Option.getD_some]
theorem combine_loop {n : Nat} (l : List (List Int)) (c : List Int) (hr : ∀ r ∈ l, r.length = n ∧ areB r) (hc : c.length = l.length) (hB : areB c) (hn : n ≤ vN) (hl : l.length < 9223372036854775807) (d : Nat) :
    ∀ (i k : Nat) (acc : List Int), acc.length = n → areB acc → i + d = l.length → d < k →
      ∃ out, vector_Combine.l0 k l c acc (l.length : Int) i = some (out, 0) ∧ out.length = n ∧ areB out ∧ vec out = va (vec acc) (comb ((l.drop i).map vec) fun j => vec c (i + j)) := by
  induction d with
  | zero =>
    intro i k acc h1 h2 h3 h4
    obtain ⟨k, rfl⟩ : ∃ m, k = m + 1 := ⟨k - 1, by omega⟩
    refine ⟨acc, ?_, h1, h2, ?_⟩
    · simp only [vector_Combine.l0]
      rw [if_neg (by omega)]
    · rw [List.drop_of_length_le (by omega)]
      exact (va_zero _).symm
  | succ d ih =>
    intro i k acc h1 h2 h3 h4
    obtain ⟨k, rfl⟩ : ∃ m, k = m + 1 := ⟨k - 1, by omega⟩
    have hi : i < l.length := by omega
    have hri := hr _ (List.getElem_mem hi)
    have hci := hB _ (List.getElem_mem (show i < c.length by omega))
    have hz : acc.length = (l[i]).length := by omega
    have ha : vector_AddScaled.f acc l[i] (c[i]'(by omega)) = some (List.zipWith (fun x y => xr x (gm y (c[i]'(by omega)))) acc l[i], 0) := by
      unfold vector_AddScaled.f
      rw [if_pos hz, if_pos ⟨by omega, hri.2, hci⟩]
    obtain ⟨out, g1, g2, g3, g4⟩ := ih (i + 1) k _ (show (List.zipWith (fun x y => xr x (gm y (c[i]'(by omega)))) acc l[i]).length = n by rw [List.length_zipWith]; omega) (areB_zip _ (fun x y => xr_B _ _) _ _) (by omega) (by omega)
    refine ⟨out, ?_, g2, g3, ?_⟩
    · simp only [vector_Combine.l0]
      rw [if_pos (by omega), if_pos (by omega), if_pos (by omega), if_pos (by omega), rd_L1_nat l i hi, rd_at c i (by omega), ha, Option.bind_some, if_pos rfl, show wrap64 ((i : Int) + 1) = ((i + 1 : Nat) : Int) from by unfold wrap64; omega]
      exact g1
    · rw [g4, vec_addScaled hz, List.drop_eq_getElem_cons hi, List.map_cons, comb_cons, va_assoc]
      congr 2
      · rw [Nat.add_zero, vec_lt (by omega)]
      · rw [show (fun j => vec c (i + 1 + j)) = fun j => vec c (i + (j + 1)) from funext fun j => by rw [show i + 1 + j = i + (j + 1) from by omega]]
/-- what Combine makes of rows that fit -/
theorem combine_f {n : Nat} (l : List (List Int)) (c : List Int) (hr : ∀ r ∈ l, r.length = n ∧ areB r) (h0 : 0 < l.length) (hc : c.length = l.length) (hB : areB c) (hn : n ≤ vN) (hl : l.length < 9223372036854775807) (k : Nat) (hk : l.length < k) :
    ∃ out, vector_Combine.f k l c = some (out, 0) ∧ out.length = n ∧ areB out ∧ vec out = comb (l.map vec) (vec c) := by
  obtain ⟨out, g1, g2, g3, g4⟩ := combine_loop l c hr hc hB hn hl l.length 0 k (List.replicate n 0) (by simp) (areB_zeros n) (by omega) hk
  refine ⟨out, ?_, g2, g3, ?_⟩
  · have hz : (rd_L1 l 0).length = n := by
      rw [show (0 : Int) = ((0 : Nat) : Int) from rfl, rd_L1_nat l 0 h0]
      exact (hr _ (List.getElem_mem h0)).1
    unfold vector_Combine.f
    unfold vN at hn
    rw [if_neg (by omega), if_pos (by omega), if_pos (by omega), if_pos (by omega), hz, if_pos (by omega), Int.toNat_natCast]
    exact g1
  · rw [g4, List.drop_zero, vec_zeros, va_comm, va_zero]
    congr 1
    funext j
    rw [Nat.zero_add]
/-- the product with a unit is that number -/
theorem dot_unit {a : List Int} (ha : areB a) (i : Nat) (hi : i < a.length) (hn : a.length ≤ vN) : vector_Dot.f ((List.replicate a.length 0).set i 1) a = some (a[i], 0) := by
  have hl : ((List.replicate a.length (0 : Int)).set i 1).length = a.length := by simp
  unfold vector_Dot.f
  rw [if_pos hl, if_pos ⟨by omega, areB_set (areB_zeros _) _ ⟨by decide, by decide⟩, ha⟩]
  congr 2
  refine byte_eq (dot_B _ _) (ha _ (List.getElem_mem hi)) ?_
  rw [toG_dot hl, hl, vec_unit hi, ← vec_lt hi]
  exact S_delta hi (vec a)
theorem leadN_snoc (l : List Int) (v : Int) : leadN (l ++ [v]) = if leadN l < 0 then (if v = 0 then -1 else (l.length : Int)) else leadN l := by
  rcases leadN_cases l with ⟨h1, h2⟩ | ⟨i, hi, h1, h2, h3⟩
  · rw [if_pos (by omega)]
    by_cases e : v = 0
    · rw [if_pos e, leadN_neg fun x hx => (List.mem_append.1 hx).elim (h2 x) fun q => by rw [List.mem_singleton.1 q, e]]
    · rw [if_neg e]
      refine leadN_pos (by simp) (by simpa using e) fun j hj => ?_
      rw [List.getElem_append_left hj]; exact h2 _ (List.getElem_mem hj)
  · rw [if_neg (by omega), h1]
    refine leadN_pos (by rw [List.length_append]; omega) (by rw [List.getElem_append_left hi]; exact h2) fun j hj => ?_
    rw [List.getElem_append_left (by omega)]; exact h3 j hj
theorem lead_f {l : List Int} (h : l.length < 9223372036854775807) : vector_Lead.f l = some (leadN l) := if_pos h
end Go.Proofs.Ytpipmhofekfkgaa.Pure
