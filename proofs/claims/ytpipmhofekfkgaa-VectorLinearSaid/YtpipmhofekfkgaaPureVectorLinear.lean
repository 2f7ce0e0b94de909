/- VectorLinear: its plain law. -/
import Derived.Test.YtpipmhofekfkgaaP2
import Derived.Test.YtpipmhofekfkgaaVecCut
set_option linter.unusedVariables false
set_option linter.unusedSimpArgs false
namespace Go.Proofs.Ytpipmhofekfkgaa.Pure
open Go.Proofs.Ytpipmhofekfkgaa.Hand Go.Proofs.Ytpipmhofekfkgaa.GF Go.Proofs.Ytpipmhofekfkgaa.LA Go.RowKit Go.Proofs.Ytpipmhofekfkgaa.P Go.Proofs.YtpipmhofekfkgaaW.PrintWords Go.Proofs.YtpipmhofekfkgaaW.PrintLast

theorem add_f {a b : List Int} (h : a.length = b.length) (hn : a.length ≤ vN) : vector_Add.f a b = some (List.zipWith xr a b, 0) := by
  unfold vector_Add.f
  rw [if_pos h, if_pos hn]
theorem scale_f {a : List Int} {c : Int} (hn : a.length ≤ vN) (ha : areB a) (hc : isB c) : vector_Scale.f a c = some (a.map fun x => gm x c) := if_pos ⟨hn, ha, hc⟩
theorem lin_l0 (l0 : List (List Int)) (l1 l2 : List Int) (a3 a4 : Int) (m : Nat) (hm : m ≤ l0.length) (hm2 : m ≤ 20) (d : Nat) : ∀ (i n0 k : Nat), i + d = m →
    ∃ n : Nat, n ≤ n0 ∧ (∀ j (h : j < l0.length), i ≤ j → j < m → n ≤ l0[j].length) ∧ braidworklaw02_VectorLinear.l0 (k + d + 1) l0 l1 l2 a3 a4 (m : Int) (n0 : Int) (i : Int) = braidworklaw02_VectorLinear.l1 k l0 l1 l2 a3 a4 (m : Int) (n : Int) [] 0 := by
  induction d with
  | zero =>
    intro i n0 k hi
    refine ⟨n0, Nat.le_refl _, fun j h a b => by omega, ?_⟩
    simp only [Nat.add_zero, braidworklaw02_VectorLinear.l0]
    rw [if_neg (by omega)]
  | succ d ih =>
    intro i n0 k hi
    have hil : i < l0.length := by omega
    obtain ⟨n, h1, h2, h3⟩ := ih (i + 1) (min n0 l0[i].length) k (by omega)
    refine ⟨n, by omega, fun j h a b => ?_, ?_⟩
    · by_cases e : j = i
      · subst e; omega
      · exact h2 j h (by omega) b
    · rw [show k + (d + 1) + 1 = (k + d + 1) + 1 from by omega]
      simp only [braidworklaw02_VectorLinear.l0]
      rw [if_pos (by omega), if_pos (by omega), if_pos (by omega), rd_L1_nat l0 i hil, show mn (n0 : Int) (l0[i].length : Int) = ((min n0 l0[i].length : Nat) : Int) from by unfold mn; split <;> omega, show wrap64 ((i : Int) + 1) = ((i + 1 : Nat) : Int) from by unfold wrap64; omega]
      exact h3
/-- rows that are the same vectors are the same -/
theorem row_eq {a b : List Int} (hl : a.length = b.length) (ha : areB a) (hb : areB b) (h : vec a = vec b) : a = b := vec_ext hl ha hb fun j _ => by rw [h]
theorem lin_j2 (L : List (List Int)) (c d a : List Int) (x a4 : Int) (n m : Nat) (hL : L.length = m) (hm0 : 0 < m) (hm2 : m ≤ 20) (hr : ∀ r ∈ L, r.length = n ∧ areB r) (hn : n ≤ vN) (hc : c.length = m) (hd : d.length = m) (hBc : areB c) (hBd : areB d) (hx : isB x) (ha4 : isB a4)
    (hal : a.length = n) (haB : areB a) (hav : vec a = comb (L.map vec) (vec c)) (k : Nat) (hk : 30 < k) :
    braidworklaw02_VectorLinear.j2 k c d x a4 (m : Int) L a (List.zipWith xr c d) false = some true := by
  have hv : vN = 281474976710656 := rfl
  obtain ⟨k, rfl⟩ : ∃ m, k = m + 1 := ⟨k - 1, by omega⟩
  have hw : braidworklaw02_wakes.f k = some true := by
    obtain ⟨q, rfl⟩ : ∃ q, k = q + 3 := ⟨k - 3, by omega⟩
    exact wakes_ok q
  have hsc : areB (c.map fun y => gm y x) := areB_map _ (fun _ => gm_B _ _) c
  obtain ⟨s, s1, s2, s3, s4⟩ := combine_f (n := n) L (c.map fun y => gm y x) hr (by omega) (by rw [List.length_map]; omega) hsc hn (by omega) k (by omega)
  have es : s = a.map fun y => gm y x := by
    refine row_eq (by rw [List.length_map]; omega) s3 (areB_map _ (fun _ => gm_B _ _) a) ?_
    rw [s4, vec_scale, vec_scale, comb_vs, hav]
  have hi : (Int.tmod (wrap64 a4) (m : Int)) = ((a4.toNat % m : Nat) : Int) := by
    obtain ⟨h0, h1⟩ := ha4
    obtain ⟨q, rfl⟩ := Int.eq_ofNat_of_zero_le h0
    rw [show wrap64 (q : Int) = (q : Int) from by unfold wrap64; omega, Int.toNat_natCast]
    exact Int.ofNat_tmod q m
  have him : a4.toNat % m < m := Nat.mod_lt _ hm0
  generalize a4.toNat % m = i at hi him
  have hu := unit_eq m i (by omega) him
  have hul : ((List.replicate m (0 : Int)).set i 1).length = m := by simp
  have huB : areB ((List.replicate m (0 : Int)).set i 1) := areB_set (areB_zeros _) _ ⟨by decide, by decide⟩
  obtain ⟨o, o1, o2, o3, o4⟩ := combine_f (n := n) L ((List.replicate m 0).set i 1) hr (by omega) (by omega) huB hn (by omega) k (by omega)
  have hiL : i < L.length := by omega
  have eo : o = L[i] := by
    refine row_eq ?_ o3 (hr _ (List.getElem_mem hiL)).2 ?_
    · rw [o2, (hr _ (List.getElem_mem hiL)).1]
    · rw [o4, vec_unit him, comb_unit (by rw [List.length_map]; omega)]
      unfold row
      rw [List.getD_eq_getElem?_getD]
      simp [hiL]
  have hcd : (List.zipWith xr c d).length = m := by simp; omega
  have hBcd : areB (List.zipWith xr c d) := areB_zip _ xr_B c d
  have e1 : dotI c d = dotI d c := byte_eq (dot_B _ _) (dot_B _ _) (by
    rw [toG_dot (by omega), toG_dot (by omega), hc, hd]; exact S_congr fun j _ => mul_comm _ _)
  have e2 : dotI (List.zipWith xr c d) c = xr (dotI c c) (dotI d c) := byte_eq (dot_B _ _) (xr_B _ _) (by
    rw [toG_xr, toG_dot (by omega), toG_dot rfl, toG_dot (by omega), hcd, hc, hd, vec_add (by omega)]
    exact dot_add m (vec c) (vec d) (vec c))
  have e3 : dotI (c.map fun y => gm y x) d = gm (dotI c d) x := byte_eq (dot_B _ _) (gm_B _ _) (by
    rw [toGgm, toG_dot (by rw [List.length_map]; omega), toG_dot (by omega), List.length_map, hc, vec_scale, mul_comm]
    exact dot_smul m (toG x) (vec c) (vec d))
  have hci : i < c.length := by omega
  have e4 : vector_Dot.f ((List.replicate m 0).set i 1) c = some (c[i], 0) := by
    have := dot_unit hBc i hci (by omega)
    rw [hc] at this
    exact this
  simp only [braidworklaw02_VectorLinear.j2]
  rw [if_neg (by decide), scale_f (by omega) hBc hx, Option.bind_some, s1, Option.bind_some, scale_f (by omega) haB hx, Option.bind_some, if_pos (by rw [es]), if_neg (by omega), hi, hu, Option.bind_some, o1, Option.bind_some, if_pos (by omega), if_pos (by omega), if_pos (by rw [rd_L1_nat L i hiL, eo]),
    dot_f (by omega) (by omega) hBc hBd, Option.bind_some, dot_f (by omega) (by omega) hBd hBc, Option.bind_some, dot_f (by omega) (by omega) hBcd hBc, Option.bind_some, dot_f rfl (by omega) hBc hBc, Option.bind_some, Option.bind_some,
    dot_f (by rw [List.length_map]; omega) (by rw [List.length_map]; omega) hsc hBd, Option.bind_some, e4, Option.bind_some, if_pos e1,
    show field_Add.f (dotI c c) (dotI d c) = some (xr (dotI c c) (dotI d c)) from rfl, Option.bind_some, if_pos e2, show field_Mul.f (dotI c d) x = some (gm (dotI c d) x) from if_pos ⟨dot_B _ _, hx⟩, Option.bind_some, if_pos e3, if_pos (by omega), if_pos (by rw [rd_at c i hci]), hw]
  rfl
theorem lin_l1 (l0 : List (List Int)) (c d : List Int) (x a4 : Int) (m n : Nat) (hm : m = l0.length) (hm1 : c.length = m) (hm3 : d.length = m) (hm0 : 0 < m) (hm2 : m ≤ 20) (hnN : n ≤ vN) (hB0 : ∀ r ∈ l0, areB r) (hB1 : areB c) (hB2 : areB d) (hx : isB x) (ha4 : isB a4)
    (hl : ∀ j (h : j < l0.length), j < m → n ≤ l0[j].length) (e : Nat) : ∀ (i k : Nat), i + e = m → e + 100 < k →
    braidworklaw02_VectorLinear.l1 k l0 c d x a4 (m : Int) (n : Int) (cutTo l0 n i) (i : Int) = some true := by
  have hv : vN = 281474976710656 := rfl
  induction e with
  | zero =>
    intro i k hi hk
    obtain ⟨k, rfl⟩ : ∃ m, k = m + 1 := ⟨k - 1, by omega⟩
    obtain rfl : i = m := by omega
    have hLl := cutTo_length l0 n i (by omega)
    have hr : ∀ r ∈ cutTo l0 n i, r.length = n ∧ areB r := fun r hr => by
      obtain ⟨y, hy, rfl⟩ := List.mem_map.1 hr
      obtain ⟨j, hj, rfl⟩ := List.mem_iff_getElem.1 hy
      simp only [List.length_take] at hj
      rw [List.getElem_take]
      refine ⟨?_, areB_take (hB0 _ (List.getElem_mem _)) _⟩
      have := hl j (by omega) (by omega)
      simp; omega
    generalize hL : cutTo l0 n i = L at hLl hr
    have hcd : (List.zipWith xr c d).length = i := by simp; omega
    obtain ⟨a, a1, a2, a3, a4'⟩ := combine_f (n := n) L c hr (by omega) (by omega) hB1 hnN (by omega) k (by omega)
    obtain ⟨b, b1, b2, b3, b4⟩ := combine_f (n := n) L d hr (by omega) (by omega) hB2 hnN (by omega) k (by omega)
    obtain ⟨o, o1, o2, o3, o4⟩ := combine_f (n := n) L (List.zipWith xr c d) hr (by omega) (by omega) (areB_zip _ xr_B c d) hnN (by omega) k (by omega)
    have eo : o = List.zipWith xr a b := by
      refine row_eq (by simp; omega) o3 (areB_zip _ xr_B a b) ?_
      rw [o4, vec_add (by omega), comb_va, vec_add (by omega), a4', b4]
    simp only [braidworklaw02_VectorLinear.l1]
    rw [if_neg (by omega), a1, Option.bind_some, b1, Option.bind_some, add_f (by omega) (by omega), Option.bind_some, o1, Option.bind_some, add_f (a := a) (b := b) (by omega) (by omega), Option.bind_some, if_pos rfl, if_pos rfl, if_pos rfl, if_pos rfl, if_pos (by rw [eo]),
      show ((a.length : Int) != (n : Int)) = false from by simp [a2]]
    exact lin_j2 L c d a x a4 n i hLl hm0 hm2 hr hnN hm1 hm3 hB1 hB2 hx ha4 a2 a3 a4' k (by omega)
  | succ e ih =>
    intro i k hi hk
    obtain ⟨k, rfl⟩ : ∃ m, k = m + 1 := ⟨k - 1, by omega⟩
    have hil : i < l0.length := by omega
    have hin := hl i hil (by omega)
    have hcl := cutTo_length l0 n i (by omega)
    simp only [braidworklaw02_VectorLinear.l1]
    rw [if_pos (by omega), if_pos (by omega), if_pos (by omega), if_pos (by omega), rd_L1_nat l0 i hil, if_pos (by omega), if_pos (by omega), Int.toNat_natCast, cutTo_next l0 n i hil, show wrap64 ((i : Int) + 1) = ((i + 1 : Nat) : Int) from by unfold wrap64; omega]
    exact ih (i + 1) k (by omega) (by omega)
theorem linear (l0 : List (List Int)) (l1 l2 : List Int) (a3 a4 : Int) (h0 : ∀ y ∈ l0, y.length ≤ 140737488351232) (w0 : ∀ x ∈ l0, ∀ y ∈ x, (Lit.int .u8 y).wf = true) (h1 : l1.length ≤ 140737488351232) (w1 : ∀ y ∈ l1, (Lit.int .u8 y).wf = true)
    (h2 : l2.length ≤ 140737488351232) (w2 : ∀ y ∈ l2, (Lit.int .u8 y).wf = true) (w3 : isB a3) (w4 : isB a4) : ∃ k, braidworklaw02_VectorLinear.f k l0 l1 l2 a3 a4 = some true := by
  have hmn : mn (mn (mn (l0.length : Int) (l1.length : Int)) (l2.length : Int)) 20 = ((min (min (min l0.length l1.length) l2.length) 20 : Nat) : Int) := by unfold mn; repeat' split; all_goals omega
  unfold braidworklaw02_VectorLinear.f
  rw [hmn]
  generalize hm : min (min (min l0.length l1.length) l2.length) 20 = m
  by_cases e : m = 0
  · refine ⟨3, ?_⟩
    rw [if_pos (by omega), wakes_ok 0]; rfl
  · have hl0 : (l0.take m).length = m := by simp; omega
    have hB0 : ∀ r ∈ l0.take m, areB r := fun r hr => areB_of_wf (w0 r (List.mem_of_mem_take hr))
    have hlen : ∀ r ∈ l0.take m, r.length ≤ 140737488351232 := fun r hr => h0 r (List.mem_of_mem_take hr)
    have hz : rd_L1 (l0.take m) 0 = (l0.take m)[0]'(by omega) := rd_L1_nat _ 0 (by omega)
    obtain ⟨n, g1, g2, g3⟩ := lin_l0 (l0.take m) (l1.take m) (l2.take m) a3 a4 m (by omega) (by omega) m 0 ((l0.take m)[0]'(by omega)).length (m + 200) (by omega)
    have hn0 := hlen _ (List.getElem_mem (show 0 < (l0.take m).length by omega))
    refine ⟨m + 200 + m + 1, ?_⟩
    rw [if_neg (by omega), if_pos (by omega), if_pos (by omega), Option.bind_some, if_pos (by omega), if_pos (by omega), Int.toNat_natCast, if_pos (by omega), hz]
    refine g3.trans ?_
    exact lin_l1 (l0.take m) (l1.take m) (l2.take m) a3 a4 m n hl0.symm (by simp; omega) (by simp; omega) (by omega) (by omega) (by unfold vN; omega) hB0 (areB_take (areB_of_wf w1) _) (areB_take (areB_of_wf w2) _) w3 w4 (fun j h a => g2 j h (by omega) a) m 0 (m + 200) (by omega) (by omega)
theorem isB_of_wf' {x : Int} (h : (Lit.int .u8 x).wf = true) : isB x := by
  simp [Lit.wf, IntKind.min, IntKind.max, IntKind.bits, IntKind.signed] at h
  exact ⟨h.1, by omega⟩
theorem linear_calls (A0 : Option Addr) (c0 : Nat) (l0 : List (List Int)) (A1 : Option Addr) (c1 : Nat) (l1 : List Int) (A2 : Option Addr) (c2 : Nat) (l2 : List Int) (a3 a4 : Int) (w : World) (hr0 : Kd.C (Kd.slice 5 (Kd.int .u8)) w A0 l0.length l0) (hc0 : l0.length ≤ c0)
    (hr1 : Kd.C (Kd.int .u8) w A1 l1.length l1) (hc1 : l1.length ≤ c1) (hr2 : Kd.C (Kd.int .u8) w A2 l2.length l2) (hc2 : l2.length ≤ c2) (h0 : ∀ y ∈ l0, y.length ≤ 140737488351232) (w0 : ∀ x ∈ l0, ∀ y ∈ x, (Lit.int .u8 y).wf = true) (h1 : l1.length ≤ 140737488351232) (w1 : ∀ y ∈ l1, (Lit.int .u8 y).wf = true)
    (h2 : l2.length ≤ 140737488351232) (w2 : ∀ y ∈ l2, (Lit.int .u8 y).wf = true) (w3 : isB a3) (w4 : isB a4) :
    Calls Try.prog 7 #[.slice A0 l0.length c0, .slice A1 l1.length c1, .slice A2 l2.length c2, .int .u8 a3, .int .u8 a4] w fun e w' => e = .returned (.bool true) ∧ Below w.heap.size w w' := by
  obtain ⟨k, hk⟩ := linear l0 l1 l2 a3 a4 h0 w0 h1 w1 h2 w2 w3 w4
  exact braidworklaw02_VectorLinear.calls k (fun k_ => k_ < w.heap.size) A0 c0 l0 A1 c1 l1 A2 c2 l2 a3 a4 true w ⟨A0, c0, rfl, hc0, Kd.C_F (Kd.heap_slice _ (Kd.heap_int _)) hr0⟩ hr1 hc1 hr2 hc2 hk
end Go.Proofs.Ytpipmhofekfkgaa.Pure
