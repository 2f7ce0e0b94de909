/- VectorSpace: its plain law. -/
import Derived.Test.YtpipmhofekfkgaaPS1
import Derived.Test.YtpipmhofekfkgaaVecCut
set_option linter.unusedVariables false
set_option linter.unusedSimpArgs false
namespace Go.Proofs.Ytpipmhofekfkgaa.PureS
open Go.Proofs.Ytpipmhofekfkgaa.Hand Go.Proofs.Ytpipmhofekfkgaa.GF Go.Proofs.Ytpipmhofekfkgaa.LA Go.RowKit Go.Proofs.Ytpipmhofekfkgaa.PS Go.Proofs.YtpipmhofekfkgaaW.PrintWords Go.Proofs.YtpipmhofekfkgaaW.PrintLast
open Go.Proofs.Ytpipmhofekfkgaa.Pure (wakes_ok lead_f)
open Go.Proofs.Ytpipmhofekfkgaa.P (braidworklaw02_wakes.f)

theorem add_f {a b : List Int} (h : a.length = b.length) (hn : a.length ≤ vN) : vector_Add.f a b = some (List.zipWith xr a b, 0) := by
  unfold vector_Add.f
  rw [if_pos h, if_pos hn]
theorem scale_f {a : List Int} {c : Int} (hn : a.length ≤ vN) (ha : areB a) (hc : isB c) : vector_Scale.f a c = some (a.map fun x => gm x c) := if_pos ⟨hn, ha, hc⟩
theorem scaled_f {a b : List Int} {c : Int} (h : a.length = b.length) (hn : a.length ≤ vN) (hb : areB b) (hc : isB c) : vector_AddScaled.f a b c = some (List.zipWith (fun x y => xr x (gm y c)) a b, 0) := by
  unfold vector_AddScaled.f
  rw [if_pos h, if_pos ⟨hn, hb, hc⟩]
theorem row_eq {a b : List Int} (hl : a.length = b.length) (ha : areB a) (hb : areB b) (h : vec a = vec b) : a = b := vec_ext hl ha hb fun j _ => by rw [h]
theorem zero_f {l : List Int} (hn : l.length < 9223372036854775807) (h : ∀ x ∈ l, x = 0) : vector_IsZero.f l = some true := by
  unfold vector_IsZero.f
  rw [lead_f hn, leadN_neg h]; rfl
theorem all_zero {l : List Int} (hB : areB l) (h : vec l = vz) : ∀ x ∈ l, x = 0 := fun x hx => by
  obtain ⟨i, hi, rfl⟩ := List.mem_iff_getElem.1 hx
  have h1 := congrFun h i
  rw [vec_lt hi] at h1
  exact (toG_eq_zero (hB _ hx).1 (hB _ hx).2).1 h1
theorem lead_same {a b : List Int} (hl : a.length = b.length) (h : ∀ i (h1 : i < a.length) (h2 : i < b.length), a[i] = 0 ↔ b[i] = 0) : leadN a = leadN b := by
  rcases leadN_cases b with ⟨h1, h2⟩ | ⟨i, hi, h1, h2, h3⟩
  · rw [h1, leadN_neg fun x hx => ?_]
    obtain ⟨j, hj, rfl⟩ := List.mem_iff_getElem.1 hx
    exact (h j hj (by omega)).2 (h2 _ (List.getElem_mem _))
  · rw [h1]
    exact leadN_pos (by omega) (fun e => h2 ((h i (by omega) hi).1 e)) fun j hj => (h j (by omega) (by omega)).2 (h3 j hj)
theorem space_j2 (a : List Int) (x : Int) (ha : areB a) (hx : isB x) (hn : a.length ≤ vN) (k : Nat) (hk : 10 < k) : braidworklaw02_VectorSpace.j2 k a x (a.map fun y => gm y x) false = some true := by
  have hv : vN = 281474976710656 := rfl
  obtain ⟨k, rfl⟩ : ∃ m, k = m + 1 := ⟨k - 1, by omega⟩
  have hw : braidworklaw02_wakes.f k = some true := by
    obtain ⟨q, rfl⟩ : ∃ q, k = q + 3 := ⟨k - 3, by omega⟩
    exact wakes_ok q
  simp only [braidworklaw02_VectorSpace.j2]
  rw [if_neg (by decide)]
  by_cases e : x = 0
  · rw [if_pos e, hw]; rfl
  · rw [if_neg e, lead_f (by rw [List.length_map]; omega), Option.bind_some, lead_f (by omega), Option.bind_some, if_pos, hw]
    · rfl
    · refine lead_same (by simp) fun i h1 h2 => ?_
      rw [List.getElem_map]
      have hb := ha _ (List.getElem_mem h2)
      constructor
      · intro h
        have h3 := congrArg toG h
        rw [toGgm] at h3
        have hx0 : toG x ≠ 0#8 := fun q => e ((toG_eq_zero hx.1 hx.2).1 q)
        have h4 : GF.mul (GF.mul (toG a[i]) (toG x)) (GF.inv (toG x)) = 0#8 := by rw [h3]; exact GF.zero_mul _
        rw [GF.mul_assoc, GF.mul_inv _ hx0, GF.mul_one] at h4
        exact (toG_eq_zero hb.1 hb.2).1 h4
      · intro h
        rw [h]
        exact gm_zero (Or.inl rfl)
theorem space_j1 (a : List Int) (x y : Int) (ha : areB a) (hx : isB x) (hy : isB y) (hn : a.length ≤ vN) (k : Nat) (hk : 20 < k) : braidworklaw02_VectorSpace.j1 k a x y (a.map fun z => gm z x) false = some true := by
  have hv : vN = 281474976710656 := rfl
  obtain ⟨k, rfl⟩ : ∃ m, k = m + 1 := ⟨k - 1, by omega⟩
  have hM : ∀ c, areB (a.map fun z => gm z c) := fun c => areB_map _ (fun _ => gm_B _ _) a
  have e1 : (a.map fun z => gm z (xr x y)) = List.zipWith xr (a.map fun z => gm z x) (a.map fun z => gm z y) := row_eq (by simp) (hM _) (areB_zip _ xr_B _ _) (by
    rw [vec_scale, vec_add (by simp), vec_scale, vec_scale, toG_xr]
    exact funext fun j => GF.add_mul _ _ _)
  have e2 : ((a.map fun z => gm z y).map fun z => gm z x) = a.map fun z => gm z (gm x y) := row_eq (by simp) (areB_map _ (fun _ => gm_B _ _) _) (hM _) (by
    rw [vec_scale, vec_scale, vec_scale, toGgm, vs_vs])
  have e3 : (a.map fun z => gm z 1) = a := row_eq (by simp) (hM _) ha (by rw [vec_scale]; exact vs_one _)
  have e4 : vector_IsZero.f (a.map fun z => gm z 0) = some true := zero_f (by rw [List.length_map]; omega) fun z hz => by
    obtain ⟨q, _, rfl⟩ := List.mem_map.1 hz
    exact gm_zero (Or.inr rfl)
  have hg : isB (xr x y) := xr_B _ _
  have hgm : isB (gm x y) := gm_B _ _
  simp only [braidworklaw02_VectorSpace.j1]
  rw [if_neg (by decide), scale_f hn ha hy, Option.bind_some, add_f (by simp) (by rw [List.length_map]; exact hn), Option.bind_some, show field_Add.f x y = some (xr x y) from rfl, Option.bind_some, scale_f hn ha hg, Option.bind_some, if_pos (by rw [e1]),
    scale_f (by rw [List.length_map]; exact hn) (hM _) hx, Option.bind_some, show field_Mul.f x y = some (gm x y) from if_pos ⟨hx, hy⟩, Option.bind_some, scale_f hn ha hgm, Option.bind_some, if_pos (by rw [e2]),
    scale_f hn ha ⟨by decide, by decide⟩, Option.bind_some, if_pos (by rw [e3]), scale_f hn ha ⟨by decide, by decide⟩, Option.bind_some, e4, Option.bind_some]
  exact space_j2 a x ha hx hn k (by omega)
theorem space_j0 (a b : List Int) (x y : Int) (hl : a.length = b.length) (ha : areB a) (hb : areB b) (hx : isB x) (hy : isB y) (hn : a.length ≤ vN) (k : Nat) (hk : 30 < k) : braidworklaw02_VectorSpace.j0 k a b x y (List.zipWith xr a b) false = some true := by
  have hv : vN = 281474976710656 := rfl
  obtain ⟨k, rfl⟩ : ∃ m, k = m + 1 := ⟨k - 1, by omega⟩
  have hM : ∀ (l : List Int) c, areB (l.map fun z => gm z c) := fun l c => areB_map _ (fun _ => gm_B _ _) l
  have hz : (List.zipWith xr a b).length = a.length := by simp; omega
  have e1 : ((List.zipWith xr a b).map fun z => gm z x) = List.zipWith xr (a.map fun z => gm z x) (b.map fun z => gm z x) := row_eq (by simp) (hM _ _) (areB_zip _ xr_B _ _) (by
    rw [vec_scale, vec_add hl, vec_add (by simp; omega), vec_scale, vec_scale, vs_va])
  have e2 : List.zipWith (fun u v => xr u (gm v x)) a b = List.zipWith xr a (b.map fun z => gm z x) := by rw [List.zipWith_map_right]
  simp only [braidworklaw02_VectorSpace.j0]
  rw [if_neg (by decide), scale_f hn ha hx, Option.bind_some, scale_f (by omega) hb hx, Option.bind_some, add_f (by simp; omega) (by rw [List.length_map]; exact hn), Option.bind_some, scaled_f hl hn hb hx, Option.bind_some, add_f (by simp; omega) hn, Option.bind_some,
    scale_f (by omega) (areB_zip _ xr_B _ _) hx, Option.bind_some, if_pos (by rw [e1]), show ((strOfNums (List.zipWith (fun u v => xr u (gm v x)) a b, (0 : Int)).1).toList != (strOfNums (List.zipWith xr a (b.map fun z => gm z x), (0 : Int)).1).toList) = false from by rw [e2]; simp]
  exact space_j1 a x y ha hx hy hn k (by omega)
theorem space (l0 l1 l2 : List Int) (a3 a4 : Int) (h0 : l0.length ≤ 140737488351232) (w0 : ∀ y ∈ l0, (Lit.int .u8 y).wf = true) (h1 : l1.length ≤ 140737488351232) (w1 : ∀ y ∈ l1, (Lit.int .u8 y).wf = true)
    (h2 : l2.length ≤ 140737488351232) (w2 : ∀ y ∈ l2, (Lit.int .u8 y).wf = true) (w3 : isB a3) (w4 : isB a4) : ∃ k, braidworklaw02_VectorSpace.f k l0 l1 l2 a3 a4 = some true := by
  have hv : vN = 281474976710656 := rfl
  have hmn : mn (mn (l0.length : Int) (l1.length : Int)) (l2.length : Int) = ((min (min l0.length l1.length) l2.length : Nat) : Int) := by unfold mn; repeat' split; all_goals omega
  unfold braidworklaw02_VectorSpace.f
  rw [hmn]
  generalize hm : min (min l0.length l1.length) l2.length = m
  have ha : (l0.take m).length = m := by simp; omega
  have hb : (l1.take m).length = m := by simp; omega
  have hc : (l2.take m).length = m := by simp; omega
  have hBa := areB_take (areB_of_wf w0) m
  have hBb := areB_take (areB_of_wf w1) m
  have hBc := areB_take (areB_of_wf w2) m
  refine ⟨100, ?_⟩
  rw [if_pos (by omega), if_pos (by omega), if_pos (by omega), if_pos (by omega), Int.toNat_natCast]
  generalize l0.take m = a at *
  generalize l1.take m = b at *
  generalize l2.take m = c at *
  have hab : (List.zipWith xr a b).length = m := by simp; omega
  have hbc : (List.zipWith xr b c).length = m := by simp; omega
  have e1 : List.zipWith xr a b = List.zipWith xr b a := row_eq (by rw [List.length_zipWith, List.length_zipWith]; omega) (areB_zip _ xr_B _ _) (areB_zip _ xr_B _ _) (by rw [vec_add (by omega), vec_add (by omega), va_comm])
  have e2 : List.zipWith xr (List.zipWith xr a b) c = List.zipWith xr a (List.zipWith xr b c) := row_eq (by simp only [List.length_zipWith]; omega) (areB_zip _ xr_B _ _) (areB_zip _ xr_B _ _) (by
    rw [vec_add (by omega), vec_add (by omega), vec_add (by omega), vec_add (by omega), va_assoc])
  have e3 : vector_IsZero.f (List.zipWith xr a a) = some true := zero_f (by rw [List.length_zipWith]; omega) (all_zero (areB_zip _ xr_B _ _) (by rw [vec_add rfl, va_self]))
  have e4 : ((List.zipWith xr a a).length : Int) = (m : Int) := by rw [List.length_zipWith]; omega
  rw [add_f (by omega) (by omega), Option.bind_some, add_f (by omega) (by omega), Option.bind_some, add_f (by omega) (by omega), Option.bind_some, add_f (a := List.zipWith xr a b) (b := c) (by omega) (by omega), Option.bind_some, add_f (a := a) (b := List.zipWith xr b c) (by omega) (by omega), Option.bind_some,
    add_f rfl (by omega), Option.bind_some, if_pos (by rw [e1]), if_pos (by rw [e2]), if_pos rfl, e3, Option.bind_some, if_pos rfl, show (((List.zipWith xr a a, (0 : Int)).1.length : Int) != (m : Int)) = false from by simp only [e4]; simp]
  exact space_j0 a b a3 a4 (by omega) hBa hBb w3 w4 (by omega) 100 (by omega)
theorem isB_of_wf' {x : Int} (h : (Lit.int .u8 x).wf = true) : isB x := by
  simp [Lit.wf, IntKind.min, IntKind.max, IntKind.bits, IntKind.signed] at h
  exact ⟨h.1, by omega⟩
theorem space_calls (A0 : Option Addr) (c0 : Nat) (l0 : List Int) (A1 : Option Addr) (c1 : Nat) (l1 : List Int) (A2 : Option Addr) (c2 : Nat) (l2 : List Int) (a3 a4 : Int) (w : World) (hr0 : Kd.C (Kd.int .u8) w A0 l0.length l0) (hc0 : l0.length ≤ c0)
    (hr1 : Kd.C (Kd.int .u8) w A1 l1.length l1) (hc1 : l1.length ≤ c1) (hr2 : Kd.C (Kd.int .u8) w A2 l2.length l2) (hc2 : l2.length ≤ c2) (h0 : l0.length ≤ 140737488351232) (w0 : ∀ y ∈ l0, (Lit.int .u8 y).wf = true) (h1 : l1.length ≤ 140737488351232) (w1 : ∀ y ∈ l1, (Lit.int .u8 y).wf = true)
    (h2 : l2.length ≤ 140737488351232) (w2 : ∀ y ∈ l2, (Lit.int .u8 y).wf = true) (w3 : isB a3) (w4 : isB a4) :
    Calls Try.prog 5 #[.slice A0 l0.length c0, .slice A1 l1.length c1, .slice A2 l2.length c2, .int .u8 a3, .int .u8 a4] w fun e w' => e = .returned (.bool true) ∧ Below w.heap.size w w' := by
  obtain ⟨k, hk⟩ := space l0 l1 l2 a3 a4 h0 w0 h1 w1 h2 w2 w3 w4
  exact braidworklaw02_VectorSpace.calls k A0 c0 l0 A1 c1 l1 A2 c2 l2 a3 a4 true w hr0 hc0 hr1 hc1 hr2 hc2 hk
end Go.Proofs.Ytpipmhofekfkgaa.PureS
