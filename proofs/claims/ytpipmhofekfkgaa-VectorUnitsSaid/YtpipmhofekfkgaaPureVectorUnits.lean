/- VectorUnits: its plain law. -/
import Derived.Test.YtpipmhofekfkgaaP5
import Derived.Test.YtpipmhofekfkgaaVecPlain
namespace Go.Proofs.Ytpipmhofekfkgaa.Pure
open Go.Proofs.Ytpipmhofekfkgaa.Hand Go.Proofs.Ytpipmhofekfkgaa.LA Go.RowKit Go.Proofs.Ytpipmhofekfkgaa.P Go.Proofs.YtpipmhofekfkgaaW.PrintWords Go.Proofs.YtpipmhofekfkgaaW.PrintLast

def unitsTo (n i : Nat) : List (List Int) := (List.range i).map fun j => (List.replicate n 0).set j 1
theorem unitsTo_next (n i : Nat) : unitsTo n i ++ [(List.replicate n 0).set i 1] = unitsTo n (i + 1) := by
  unfold unitsTo
  rw [List.range_succ, List.map_append]; rfl
theorem unitsTo_length (n i : Nat) : (unitsTo n i).length = i := by simp [unitsTo]
theorem leadN_le (l : List Int) : -1 ≤ leadN l ∧ leadN l < l.length ∨ leadN l = -1 := by
  rcases leadN_cases l with ⟨h, _⟩ | ⟨i, hi, h, _⟩
  · right; exact h
  · left; omega
theorem units_loop (a : List Int) (ha : areB a) (hn : a.length ≤ 30) (d : Nat) : ∀ (i k : Nat), i + d = a.length → 2 * d + 40 ≤ k →
    braidworklaw02_VectorUnits.l0 k a (unitsTo a.length i) (leadN (a.take i)) i = some true := by
  have hv : vN = 281474976710656 := rfl
  induction d with
  | zero =>
    intro i k hi hk
    obtain ⟨k, rfl⟩ : ∃ m, k = m + 1 := ⟨k - 1, by omega⟩
    have hia : i = a.length := by omega
    have hw : braidworklaw02_wakes.f k = some true := by
      obtain ⟨m, rfl⟩ : ∃ m, k = m + 3 := ⟨k - 3, by omega⟩
      exact wakes_ok m
    have hfin : ∀ q : Option Bool, q = some true → (q.bind fun t => some t) = some true := fun q h => by rw [h]; rfl
    simp only [braidworklaw02_VectorUnits.l0]
    rw [if_neg (by omega)]
    by_cases h0 : a.length = 0
    · rw [if_pos (by omega), lead_f (by omega), Option.bind_some, if_pos]
      · exact hfin _ hw
      · rw [List.length_eq_zero_iff.1 h0]; rfl
    · rw [if_neg (by omega)]
      obtain ⟨out, g1, g2, g3, g4⟩ := combine_f (n := a.length) (unitsTo a.length i) a (fun r hr => by
        obtain ⟨j, _, rfl⟩ := List.mem_map.1 hr
        exact ⟨by simp, areB_set (areB_zeros _) _ ⟨by decide, by decide⟩⟩) (by rw [unitsTo_length]; omega) (by rw [unitsTo_length]; omega) ha (by omega) (by rw [unitsTo_length]; omega) k (by rw [unitsTo_length]; omega)
      have hmap : (unitsTo a.length i).map vec = ident a.length := by
        unfold unitsTo ident
        rw [List.map_map, hia]
        refine List.map_congr_left fun j hj => vec_unit (List.mem_range.1 hj)
      have hout : out = a := by
        refine vec_ext (by omega) g3 ha fun j _ => ?_
        rw [g4, hmap, comb_ident (vec_supp a)]
      subst hout
      rw [g1, Option.bind_some, if_pos rfl, if_pos rfl, lead_f (by omega), Option.bind_some, if_pos]
      · exact hfin _ hw
      · rw [hia, List.take_length]
  | succ d ih =>
    intro i k hi hk
    obtain ⟨k, rfl⟩ : ∃ m, k = m + 2 := ⟨k - 2, by omega⟩
    have hia : i < a.length := by omega
    have hB := ha _ (List.getElem_mem hia)
    have hs : ((i : Int) + 1) = ((i + 1 : Nat) : Int) := by omega
    have hw : wrap64 ((i : Int) + 1) = ((i + 1 : Nat) : Int) := by unfold wrap64; omega
    have hlen : (a.take i).length = i := by rw [List.length_take]; omega
    have hnext : leadN (a.take (i + 1)) = if leadN (a.take i) < 0 then (if a[i] = 0 then -1 else (i : Int)) else leadN (a.take i) := by
      rw [List.take_succ_eq_append_getElem hia, leadN_snoc, hlen]
    have g := ih (i + 1) k (by omega) (by omega)
    rw [← unitsTo_next, hnext] at g
    simp only [braidworklaw02_VectorUnits.l0, braidworklaw02_VectorUnits.j1]
    rw [if_pos (by omega), unit_eq a.length i (by omega) hia, Option.bind_some, dot_unit ha i hia (by omega), Option.bind_some, if_pos rfl, if_pos rfl, if_pos (by omega), rd_at a i hia, if_pos rfl, lead_unit_f a.length i (by omega) hia, Option.bind_some, if_neg (by simp), hw]
    have hsz : (unitsTo a.length i).length < 5864062014805 := by rw [unitsTo_length]; omega
    have hneg : leadN (a.take i) < 0 → leadN (a.take i) = -1 := fun h => by
      rcases leadN_le (a.take i) with q | q <;> omega
    by_cases c1 : a[i] = 0
    · rw [if_pos c1, if_pos hsz]
      rw [if_pos c1] at g
      by_cases c2 : leadN (a.take i) < 0
      · rw [if_pos c2, ← hneg c2] at g; exact g
      · rw [if_neg c2] at g; exact g
    · rw [if_neg c1]
      rw [if_neg c1] at g
      by_cases c2 : leadN (a.take i) < 0
      · rw [if_pos c2] at g; rw [if_pos c2, if_pos hsz]; exact g
      · rw [if_neg c2] at g; rw [if_neg c2, if_pos hsz]; exact g
theorem VectorUnits : braidworklaw02_VectorUnits.Pure := by
  intro l0 h1 h2 h3
  have ha := areB_of_wf h3
  have hm : 0 ≤ mn (l0.length : Int) 30 ∧ mn (l0.length : Int) 30 ≤ (l0.length : Int) ∧ mn (l0.length : Int) 30 ≤ 30 := by
    unfold mn; split <;> omega
  refine ⟨200, ?_⟩
  unfold braidworklaw02_VectorUnits.f
  rw [if_pos hm.1, if_pos hm.2.1]
  have hl : (l0.take (mn (l0.length : Int) 30).toNat).length ≤ 30 := by rw [List.length_take]; omega
  have g := units_loop (l0.take (mn (l0.length : Int) 30).toNat) (areB_take ha _) hl _ 0 200 (Nat.zero_add _) (by omega)
  exact g
end Go.Proofs.Ytpipmhofekfkgaa.Pure
