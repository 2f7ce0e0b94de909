/- VectorDual: its plain law. -/
import Derived.Test.YtpipmhofekfkgaaP5
import Derived.Test.YtpipmhofekfkgaaVecPlain
set_option linter.unusedVariables false
set_option linter.unusedSimpArgs false
namespace Go.Proofs.Ytpipmhofekfkgaa.Pure
open Go.Proofs.Ytpipmhofekfkgaa.Hand Go.Proofs.Ytpipmhofekfkgaa.GF Go.Proofs.Ytpipmhofekfkgaa.LA Go.RowKit Go.Proofs.Ytpipmhofekfkgaa.P Go.Proofs.YtpipmhofekfkgaaW.PrintWords Go.Proofs.YtpipmhofekfkgaaW.PrintLast

theorem dual_l0 (l0 : List (List Int)) (l1 l2 : List Int) (m : Nat) (hm : m ≤ l0.length) (hm2 : m ≤ 20) (d : Nat) : ∀ (i n0 k : Nat), i + d = m →
    ∃ n : Nat, n ≤ n0 ∧ (∀ j (h : j < l0.length), i ≤ j → j < m → n ≤ l0[j].length) ∧ braidworklaw02_VectorDual.l0 (k + d + 1) l0 l1 l2 (m : Int) (n0 : Int) (i : Int) = braidworklaw02_VectorDual.l1 k l0 l1 l2 (m : Int) (n : Int) [] [] 0 := by
  induction d with
  | zero =>
    intro i n0 k hi
    refine ⟨n0, Nat.le_refl _, fun j h a b => by omega, ?_⟩
    simp only [Nat.add_zero, braidworklaw02_VectorDual.l0]
    rw [if_neg (by omega)]
  | succ d ih =>
    intro i n0 k hi
    have hil : i < l0.length := by omega
    obtain ⟨n, h1, h2, h3⟩ := ih (i + 1) (min n0 l0[i].length) k (by omega)
    refine ⟨n, by omega, fun j h a b => ?_, ?_⟩
    · by_cases e : j = i
      · subst e; omega
      · exact h2 j h (by omega) b
    · rw [show k + (d + 1) + 1 = (k + d + 1) + 1 from by omega]
      simp only [braidworklaw02_VectorDual.l0]
      rw [if_pos (by omega), if_pos (by omega), if_pos (by omega), rd_L1_nat l0 i hil, show mn (n0 : Int) (l0[i].length : Int) = ((min n0 l0[i].length : Nat) : Int) from by unfold mn; split <;> omega, show wrap64 ((i : Int) + 1) = ((i + 1 : Nat) : Int) from by unfold wrap64; omega]
      exact h3
def cutTo (l : List (List Int)) (n i : Nat) : List (List Int) := (l.take i).map fun r => r.take n
theorem cutTo_next (l : List (List Int)) (n i : Nat) (h : i < l.length) : cutTo l n i ++ [l[i].take n] = cutTo l n (i + 1) := by
  unfold cutTo
  rw [List.take_succ_eq_append_getElem h, List.map_append]; rfl
theorem cutTo_length (l : List (List Int)) (n i : Nat) (h : i ≤ l.length) : (cutTo l n i).length = i := by simp [cutTo, h]
def dotsTo (l : List (List Int)) (v : List Int) (n i : Nat) : List Int := (l.take i).map fun r => dotI (r.take n) (v.take n)
theorem dotsTo_next (l : List (List Int)) (v : List Int) (n i : Nat) (h : i < l.length) : dotsTo l v n i ++ [dotI (l[i].take n) (v.take n)] = dotsTo l v n (i + 1) := by
  unfold dotsTo
  rw [List.take_succ_eq_append_getElem h, List.map_append]; rfl
theorem dotsTo_length (l : List (List Int)) (v : List Int) (n i : Nat) (h : i ≤ l.length) : (dotsTo l v n i).length = i := by simp [dotsTo, h]
theorem dot_f {a b : List Int} (h : a.length = b.length) (hn : a.length ≤ vN) (ha : areB a) (hb : areB b) : vector_Dot.f a b = some (dotI a b, 0) := by
  unfold vector_Dot.f
  rw [if_pos h, if_pos ⟨hn, ha, hb⟩]
theorem dual_math (l : List (List Int)) (c v out : List Int) (n m : Nat) (hm : m ≤ l.length) (hc : c.length = m) (hv : v.length = n) (hl : ∀ j (h : j < l.length), j < m → n ≤ l[j].length)
    (ho : out.length = n) (hvo : vec out = comb ((cutTo l n m).map vec) (vec c)) (dots : List Int) (hd : dots = (l.take m).map fun r => dotI (r.take n) v) : dotI out v = dotI c dots := by
  have hdl : dots.length = m := by subst hd; simp [hm]
  refine byte_eq (dot_B _ _) (dot_B _ _) ?_
  rw [toG_dot (by omega), toG_dot (by omega), hvo, ho, hc]
  have h := dot_comb n ((cutTo l n m).map vec) (vec c) (vec v)
  unfold dot at h
  rw [h, List.length_map, cutTo_length l n m hm]
  refine S_congr fun j hj => ?_
  congr 1
  have hjl : j < l.length := by omega
  have e1 : row ((cutTo l n m).map vec) j = vec (l[j].take n) := by
    unfold row cutTo
    rw [List.getD_eq_getElem?_getD]
    simp [hj, hjl]
  have e2 : vec dots j = toG (dotI (l[j].take n) v) := by
    rw [vec_lt (by omega)]
    subst hd
    simp
  have hjn := hl j hjl hj
  rw [e1, e2, toG_dot (by simp; omega)]
  rw [show (l[j].take n).length = n from by simp; omega]
theorem dual_l1 (l0 : List (List Int)) (l1 l2 : List Int) (m n : Nat) (hm : m ≤ l0.length) (hm1 : m ≤ l1.length) (hm0 : 0 < m) (hm2 : m ≤ 20) (hn : n ≤ l2.length) (hnN : n ≤ vN) (hB0 : ∀ r ∈ l0, areB r) (hB1 : areB l1) (hB2 : areB l2)
    (hl : ∀ j (h : j < l0.length), j < m → n ≤ l0[j].length) (d : Nat) : ∀ (i k : Nat), i + d = m → d + 60 < k →
    braidworklaw02_VectorDual.l1 k l0 l1 l2 (m : Int) (n : Int) (cutTo l0 n i) (dotsTo l0 l2 n i) (i : Int) = some true := by
  have hv : vN = 281474976710656 := rfl
  induction d with
  | zero =>
    intro i k hi hk
    obtain ⟨k, rfl⟩ : ∃ m, k = m + 1 := ⟨k - 1, by omega⟩
    obtain rfl : i = m := by omega
    have hcl : (l1.take i).length = i := by simp; omega
    have hvl : (l2.take n).length = n := by simp; omega
    obtain ⟨out, g1, g2, g3, g4⟩ := combine_f (n := n) (cutTo l0 n i) (l1.take i) (fun r hr => by
      obtain ⟨x, hx, rfl⟩ := List.mem_map.1 hr
      obtain ⟨j, hj, rfl⟩ := List.mem_iff_getElem.1 hx
      simp only [List.length_take] at hj
      rw [List.getElem_take]
      refine ⟨?_, areB_take (hB0 _ (List.getElem_mem _)) _⟩
      have := hl j (by omega) (by omega)
      simp; omega) (by rw [cutTo_length _ _ _ hm]; omega) (by rw [hcl, cutTo_length _ _ _ hm]) (areB_take hB1 _) (by omega) (by rw [cutTo_length _ _ _ hm]; omega) k (by rw [cutTo_length _ _ _ hm]; omega)
    have hdl := dotsTo_length l0 l2 n i hm
    have hdB : areB (dotsTo l0 l2 n i) := fun x hx => by
      obtain ⟨r, _, rfl⟩ := List.mem_map.1 hx
      exact dot_B _ _
    have hmath := dual_math l0 (l1.take i) (l2.take n) out n i hm hcl hvl hl g2 g4 (dotsTo l0 l2 n i) rfl
    have hw : braidworklaw02_wakes.f k = some true := by
      obtain ⟨q, rfl⟩ : ∃ q, k = q + 3 := ⟨k - 3, by omega⟩
      exact wakes_ok q
    simp only [braidworklaw02_VectorDual.l1]
    rw [if_neg (by omega), if_pos (by omega), if_pos (by omega), Int.toNat_natCast, Int.toNat_natCast, g1, Option.bind_some, if_pos (by omega), if_pos (by omega), dot_f (by omega) (by omega) g3 (areB_take hB2 _), Option.bind_some,
      dot_f (by omega) (by omega) (areB_take hB1 _) hdB, Option.bind_some, if_pos rfl, if_pos rfl, if_pos rfl, if_pos hmath, hw]
    rfl
  | succ d ih =>
    intro i k hi hk
    obtain ⟨k, rfl⟩ : ∃ m, k = m + 1 := ⟨k - 1, by omega⟩
    have hil : i < l0.length := by omega
    have hin := hl i hil (by omega)
    have h1 : (l0[i].take n).length = n := by simp; omega
    have h2 : (l2.take n).length = n := by simp; omega
    have hcl := cutTo_length l0 n i (by omega)
    have hdl := dotsTo_length l0 l2 n i (by omega)
    simp only [braidworklaw02_VectorDual.l1]
    rw [if_pos (by omega), if_pos (by omega), if_pos (by omega), if_pos (by omega), rd_L1_nat l0 i hil, if_pos (by omega), if_pos (by omega), if_pos (by omega), Int.toNat_natCast,
      dot_f (by omega) (by omega) (areB_take (hB0 _ (List.getElem_mem hil)) _) (areB_take hB2 _), Option.bind_some, if_pos rfl, if_pos (by omega), cutTo_next l0 n i hil, dotsTo_next l0 l2 n i hil, show wrap64 ((i : Int) + 1) = ((i + 1 : Nat) : Int) from by unfold wrap64; omega]
    exact ih (i + 1) k (by omega) (by omega)
theorem dual (l0 : List (List Int)) (l1 l2 : List Int) (h0 : ∀ y ∈ l0, y.length ≤ 140737488351232) (w0 : ∀ x ∈ l0, ∀ y ∈ x, (Lit.int .u8 y).wf = true) (h1 : l1.length ≤ 140737488351232) (w1 : ∀ y ∈ l1, (Lit.int .u8 y).wf = true)
    (h2 : l2.length ≤ 140737488351232) (w2 : ∀ y ∈ l2, (Lit.int .u8 y).wf = true) : ∃ k, braidworklaw02_VectorDual.f k l0 l1 l2 = some true := by
  have hmn : mn (mn (l0.length : Int) (l1.length : Int)) 20 = ((min (min l0.length l1.length) 20 : Nat) : Int) := by unfold mn; repeat' split; all_goals omega
  unfold braidworklaw02_VectorDual.f
  rw [hmn]
  generalize hm : min (min l0.length l1.length) 20 = m
  by_cases e : m = 0
  · refine ⟨3, ?_⟩
    rw [if_pos (by omega), wakes_ok 0]; rfl
  · obtain ⟨n, g1, g2, g3⟩ := dual_l0 l0 l1 l2 m (by omega) (by omega) m 0 l2.length (m + 100) (by omega)
    refine ⟨m + 100 + m + 1, ?_⟩
    rw [if_neg (by omega)]
    refine g3.trans ?_
    exact dual_l1 l0 l1 l2 m n (by omega) (by omega) (by omega) (by omega) g1 (by unfold vN; omega) (fun r hr => areB_of_wf (w0 r hr)) (areB_of_wf w1) (areB_of_wf w2) (fun j h a => g2 j h (by omega) a) m 0 (m + 100) (by omega) (by omega)
theorem dual_calls (A0 : Option Addr) (c0 : Nat) (l0 : List (List Int)) (A1 : Option Addr) (c1 : Nat) (l1 : List Int) (A2 : Option Addr) (c2 : Nat) (l2 : List Int) (w : World) (hr0 : Kd.C (Kd.slice 5 (Kd.int .u8)) w A0 l0.length l0) (hc0 : l0.length ≤ c0)
    (hr1 : Kd.C (Kd.int .u8) w A1 l1.length l1) (hc1 : l1.length ≤ c1) (hr2 : Kd.C (Kd.int .u8) w A2 l2.length l2) (hc2 : l2.length ≤ c2) (h0 : ∀ y ∈ l0, y.length ≤ 140737488351232) (w0 : ∀ x ∈ l0, ∀ y ∈ x, (Lit.int .u8 y).wf = true) (h1 : l1.length ≤ 140737488351232) (w1 : ∀ y ∈ l1, (Lit.int .u8 y).wf = true)
    (h2 : l2.length ≤ 140737488351232) (w2 : ∀ y ∈ l2, (Lit.int .u8 y).wf = true) :
    Calls Try.prog 3 #[.slice A0 l0.length c0, .slice A1 l1.length c1, .slice A2 l2.length c2] w fun e w' => e = .returned (.bool true) ∧ Below w.heap.size w w' := by
  obtain ⟨k, hk⟩ := dual l0 l1 l2 h0 w0 h1 w1 h2 w2
  exact braidworklaw02_VectorDual.calls k (fun k_ => k_ < w.heap.size) A0 c0 l0 A1 c1 l1 A2 c2 l2 true w ⟨A0, c0, rfl, hc0, Kd.C_F (Kd.heap_slice _ (Kd.heap_int _)) hr0⟩ hr1 hc1 hr2 hc2 hk
end Go.Proofs.Ytpipmhofekfkgaa.Pure
