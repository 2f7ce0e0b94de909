/- Plain: the reduced matrix is reduced, and spans the same. -/
import Derived.Test.YthlgmmgdaciinaaPlRanks
namespace Go.Proofs.Ythlgmmgdaciinaa.Plain
open Go.Proofs.Ythlgmmgdaciinaa.Hand Go.Proofs.Ythlgmmgdaciinaa.GF Go.Proofs.Ythlgmmgdaciinaa.LA Go.RowKit Go.Proofs.Ythlgmmgdaciinaa.P Go.Proofs.YthlgmmgdaciinaaW.PrintWords Go.Proofs.YthlgmmgdaciinaaW.PrintLast
theorem getElem_getD (l : List Int) (j : Nat) (q : j < l.length) : l[j] = l.getD j 0 := by rw [List.getD_eq_getElem?_getD, List.getElem?_eq_getElem q]; rfl
theorem getD_B {n : Nat} {R : List (List Int)} (hR : Fits n R) (k x : Nat) : isB ((R.getD k []).getD x 0) := by
  by_cases h : k < R.length
  · have := rd_B (getD_fits hR h).2 (x : Int)
    unfold rd at this
    rwa [Int.toNat_natCast] at this
  · rw [show R.getD k [] = [] from by rw [List.getD_eq_getElem?_getD, List.getElem?_eq_none (by omega)]; rfl]
    exact (show isB 0 from ⟨by decide, by decide⟩)
/-- the places of the leads -/
theorem red_lead {n : Nat} {R : List (List Int)} {p : List Nat} (hR : Fits n R) (h : Red (vecs R) p) {i : Nat} (hi : i < R.length) :
    p.getD i 0 < n ∧ leadN (R.getD i []) = ((p.getD i 0 : Nat) : Int) ∧ ∀ k, k < R.length → (R.getD k []).getD (p.getD i 0) 0 = if k = i then 1 else 0 := by
  have hv : ∀ k, k < R.length → row (vecs R) k (p.getD i 0) = if k = i then 1#8 else 0#8 := fun k hk => h.one k i (by rw [vecs_length]; exact hk) (by rw [vecs_length]; exact hi)
  have hlt : p.getD i 0 < n := by
    refine Nat.lt_of_not_le fun hle => ?_
    have h1 := vecs_supp hR _ (row_mem (l := vecs R) (i := i) (by rw [vecs_length]; exact hi)) _ hle
    rw [hv i hi, if_pos rfl] at h1
    exact absurd h1 (by decide)
  have hval : ∀ k, k < R.length → (R.getD k []).getD (p.getD i 0) 0 = if k = i then 1 else 0 := fun k hk => by
    have h1 := hv k hk
    rw [vecs_row] at h1
    refine byte_eq (getD_B hR k _) (by split <;> exact ⟨by decide, by decide⟩) ?_
    show vec (R.getD k []) (p.getD i 0) = _
    rw [h1]
    by_cases e : k = i
    · rw [if_pos e, if_pos e]; rfl
    · rw [if_neg e, if_neg e]; rfl
  refine ⟨hlt, ?_, hval⟩
  have hRi := getD_fits hR hi
  have at_ : ∀ j (q : j < (R.getD i []).length), (R.getD i [])[j] = (R.getD i []).getD j 0 := fun j q => getElem_getD _ j q
  refine leadN_pos (by rw [hRi.1]; exact hlt) (by rw [at_, hval i hi, if_pos rfl]; decide) fun j hj => ?_
  rw [at_]
  refine byte_eq (getD_B hR i j) ⟨by decide, by decide⟩ ?_
  have h2 := h.low i (by rw [vecs_length]; exact hi) j hj
  rw [vecs_row] at h2
  exact h2
/-- what is left of a row when the first k reduced rows are taken from it -/
def leftL (R : List (List Int)) (l : List Int) : Nat → List Int
  | 0 => l
  | k + 1 => addS (leftL R l k) (R.getD k []) ((leftL R l k).getD (leadN (R.getD k [])).toNat 0)
theorem leftL_fits {n : Nat} {R : List (List Int)} (hR : Fits n R) {l : List Int} (hl : l.length = n ∧ areB l) : ∀ k, k ≤ R.length → (leftL R l k).length = n ∧ areB (leftL R l k)
  | 0, _ => hl
  | k + 1, h => addS_fits (leftL_fits hR hl k (by omega)).1 (getD_fits hR (by omega)).1 _
theorem leftL_vec {n : Nat} {R : List (List Int)} {p : List Nat} (hR : Fits n R) (h : Red (vecs R) p) {l : List Int} (hl : l.length = n ∧ areB l) : ∀ k, k ≤ R.length → vec (leftL R l k) = fun x => vec l x ^^^ S k (fun j => mul (vec l (p.getD j 0)) (row (vecs R) j x))
  | 0, _ => funext fun x => by show vec l x = vec l x ^^^ 0#8; rw [BitVec.xor_zero]
  | k + 1, hk => by
    have ih := leftL_vec hR h hl k (by omega)
    have hkR : k < R.length := by omega
    obtain ⟨a1, a2, a3⟩ := red_lead hR h hkR
    have hlen := (leftL_fits hR hl k (by omega)).1
    have hc : toG ((leftL R l k).getD (leadN (R.getD k [])).toNat 0) = vec l (p.getD k 0) := by
      rw [a2, Int.toNat_natCast]
      show vec (leftL R l k) (p.getD k 0) = _
      rw [ih]
      show vec l (p.getD k 0) ^^^ S k _ = _
      rw [S_zero fun j hj => by
        have := h.one j k (by rw [vecs_length]; omega) (by rw [vecs_length]; exact hkR)
        rw [this, if_neg (by omega), mul_zero]]
      exact BitVec.xor_zero
    show vec (addS (leftL R l k) (R.getD k []) _) = _
    unfold addS
    rw [vec_addScaled (by rw [hlen, (getD_fits hR hkR).1]), hc, ih]
    funext x
    show (vec l x ^^^ S k _) ^^^ mul _ (vec (R.getD k []) x) = vec l x ^^^ (S k _ ^^^ mul _ (row (vecs R) k x))
    rw [vecs_row, BitVec.xor_assoc]
theorem left_zero {n : Nat} {R : List (List Int)} {p : List Nat} (hR : Fits n R) (h : Red (vecs R) p) {l : List Int} (hl : l.length = n ∧ areB l) (hs : Sp (vecs R) (vec l)) : ∀ x, x ∈ leftL R l R.length → x = 0 := by
  have hv := leftL_vec hR h hl R.length (Nat.le_refl _)
  have hf := leftL_fits hR hl R.length (Nat.le_refl _)
  have e := h.coord hs
  have hz : vec (leftL R l R.length) = vz := by
    rw [hv]
    funext x
    have := congrFun e x
    unfold comb at this
    rw [vecs_length] at this
    show vec l x ^^^ S R.length _ = 0#8
    rw [← this]
    exact BitVec.xor_self
  intro x hx
  obtain ⟨j, hj, rfl⟩ := List.mem_iff_getElem.1 hx
  refine byte_eq (hf.2 _ (List.getElem_mem hj)) ⟨by decide, by decide⟩ ?_
  have := congrFun hz j
  rw [vec_lt hj] at this
  exact this
/-- rows that lie in the span of others, and the other way round -/
theorem same_red {n : Nat} {L M : List (List Int)} (hL : Fits n L) (hM : Fits n M) (h : ∀ r, r ∈ L → Sp (vecs M) (vec r)) (k : ∀ r, r ∈ M → Sp (vecs L) (vec r)) : redRows L n = redRows M n :=
  redRows_eq hL hM (SpEq.of_mem (fun v hv => by obtain ⟨r, hr, rfl⟩ := List.mem_map.1 hv; exact h r hr) (fun v hv => by obtain ⟨r, hr, rfl⟩ := List.mem_map.1 hv; exact k r hr))
theorem sp_of_mem {L : List (List Int)} {r : List Int} (h : r ∈ L) : Sp (vecs L) (vec r) := .mem (List.mem_map.2 ⟨r, h, rfl⟩)
/-- rows in another order, and twice, have the same reduced rows -/
theorem red_turned {n : Nat} {L : List (List Int)} (hL : Fits n L) (i : Nat) : redRows (L.drop i ++ L.take i) n = redRows L n := by
  have hm : ∀ r, r ∈ L.drop i ++ L.take i ↔ r ∈ L := fun r => by
    rw [List.mem_append]
    constructor
    · rintro (q | q)
      · exact List.mem_of_mem_drop q
      · exact List.mem_of_mem_take q
    · intro q
      rw [← List.take_append_drop i L] at q
      exact (List.mem_append.1 q).symm
  exact same_red (fun r hr => hL r ((hm r).1 hr)) hL (fun r hr => sp_of_mem ((hm r).1 hr)) (fun r hr => sp_of_mem ((hm r).2 hr))
theorem red_twice {n : Nat} {L : List (List Int)} (hL : Fits n L) {r : List Int} (hr : r ∈ L) : redRows (L ++ [r]) n = redRows L n :=
  same_red (fun x hx => (List.mem_append.1 hx).elim (hL x) (fun q => by rw [List.mem_singleton.1 q]; exact hL r hr)) hL
    (fun x hx => (List.mem_append.1 hx).elim sp_of_mem (fun q => by rw [List.mem_singleton.1 q]; exact sp_of_mem hr)) (fun x hx => sp_of_mem (List.mem_append_left _ hx))
/-- the reduced rows are their own -/
theorem red_self {n : Nat} {L : List (List Int)} (hL : Fits n L) : redRows (redRows L n) n = redRows L n := by
  obtain ⟨p, h1, h2, h3, _⟩ := redRows_spec hL
  exact redRows_eq h3 hL h2.symm
/-- the rank of the reduced rows and the rows -/
theorem red_rank_both {n : Nat} {L : List (List Int)} (hL : Fits n L) : rk n (vecs (redRows L n ++ L)) = (redRows L n).length := by
  obtain ⟨p, h1, h2, h3, _⟩ := redRows_spec hL
  have hv : vecs (redRows L n ++ L) = vecs (redRows L n) ++ vecs L := by simp [vecs]
  rw [hv, ← vecs_length (redRows L n)]
  exact rk_eq ((vecs_supp h3).append (vecs_supp hL)) h1 ((SpLe.append (SpLe.of_sub fun _ h => h) h2.le).eq (SpLe.left _ _))
theorem mem_set_other {L : List (List Int)} {i t : Nat} (ht : t < L.length) (hne : t ≠ i) (r : List Int) : L[t] ∈ L.set i r :=
  List.mem_iff_getElem.2 ⟨t, by rw [List.length_set]; exact ht, by rw [List.getElem_set_ne (fun q => hne q.symm)]⟩
theorem mem_set_self {L : List (List Int)} {i : Nat} (hi : i < L.length) (r : List Int) : r ∈ L.set i r :=
  List.mem_iff_getElem.2 ⟨i, by rw [List.length_set]; exact hi, by rw [List.getElem_set_self]⟩
/-- a multiple of another row added to a row: the same reduced rows -/
theorem red_set_add {n : Nat} {L : List (List Int)} (hL : Fits n L) {i j : Nat} (hi : i < L.length) (hj : j < L.length) (hne : j ≠ i) (c : Int) :
    Fits n (L.set i (addS L[i] L[j] c)) ∧ redRows (L.set i (addS L[i] L[j] c)) n = redRows L n := by
  have hLi := hL _ (List.getElem_mem hi)
  have hLj := hL _ (List.getElem_mem hj)
  have hv : vec (addS L[i] L[j] c) = va (vec L[i]) (vs (toG c) (vec L[j])) := by unfold addS; exact vec_addScaled (by rw [hLi.1, hLj.1]) c
  have hF := fits_set hL i (addS_fits hLi.1 hLj.1 c)
  refine ⟨hF, same_red hF hL (fun r hr => ?_) (fun r hr => ?_)⟩
  · rcases List.mem_or_eq_of_mem_set hr with q | q
    · exact sp_of_mem q
    · rw [q, hv]; exact .add (sp_of_mem (List.getElem_mem hi)) (.smul _ (sp_of_mem (List.getElem_mem hj)))
  · obtain ⟨t, ht, rfl⟩ := List.mem_iff_getElem.1 hr
    by_cases e : t = i
    · subst e
      have h1 : vec L[t] = va (vec (addS L[t] L[j] c)) (vs (toG c) (vec L[j])) := by rw [hv, va_assoc, va_self, va_zero]
      rw [h1]
      exact .add (sp_of_mem (mem_set_self ht _)) (.smul _ (sp_of_mem (mem_set_other hj hne _)))
    · exact sp_of_mem (mem_set_other ht e _)
/-- a row scaled by what is not 0: the same reduced rows -/
theorem red_set_scale {n : Nat} {L : List (List Int)} (hL : Fits n L) {i : Nat} (hi : i < L.length) {c : Int} (hc : isB c) (h0 : c ≠ 0) :
    Fits n (L.set i (L[i].map fun x => gm x c)) ∧ redRows (L.set i (L[i].map fun x => gm x c)) n = redRows L n := by
  have hLi := hL _ (List.getElem_mem hi)
  have hg : toG c ≠ 0#8 := fun e => h0 (byte_eq hc ⟨by decide, by decide⟩ e)
  have hF := fits_set hL i (r := L[i].map fun x => gm x c) ⟨by rw [List.length_map]; exact hLi.1, areB_map _ (fun x => gm_B x c) _⟩
  refine ⟨hF, same_red hF hL (fun r hr => ?_) (fun r hr => ?_)⟩
  · rcases List.mem_or_eq_of_mem_set hr with q | q
    · exact sp_of_mem q
    · rw [q, vec_scale]; exact .smul _ (sp_of_mem (List.getElem_mem hi))
  · obtain ⟨t, ht, rfl⟩ := List.mem_iff_getElem.1 hr
    by_cases e : t = i
    · subst e
      have h1 : vec L[t] = vs (inv (toG c)) (vec (L[t].map fun x => gm x c)) := by rw [vec_scale, vs_vs, inv_mul _ hg, vs_one]
      rw [h1]
      exact .smul _ (sp_of_mem (mem_set_self ht _))
    · exact sp_of_mem (mem_set_other ht e _)
end Go.Proofs.Ythlgmmgdaciinaa.Plain
