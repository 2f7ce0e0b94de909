/- Plain: what is left of a row when the reduced rows are taken from it; spans told by what is left. -/
import Derived.Test.YthgpmneplpdeiaaRedPlain
import Derived.Test.YthgpmneplpdeiaaHConcatR
namespace Go.Proofs.Ythgpmneplpdeiaa.Plain
open Go.Proofs.Ythgpmneplpdeiaa.Hand Go.Proofs.Ythgpmneplpdeiaa.GF Go.Proofs.Ythgpmneplpdeiaa.LA Go.RowKit Go.Proofs.YthgpmneplpdeiaaW.PrintWords Go.Proofs.YthgpmneplpdeiaaW.PrintLast
theorem rd_B {b : List Int} (hb : areB b) (i : Int) : isB (rd b i) := by
  unfold rd
  rw [List.getD_eq_getElem?_getD]
  cases h : b[i.toNat]? with
  | none => exact ⟨by decide, by decide⟩
  | some x => exact hb x (List.mem_of_getElem? h)
theorem getElem_getD (l : List Int) (j : Nat) (q : j < l.length) : l[j] = l.getD j 0 := by rw [List.getD_eq_getElem?_getD, List.getElem?_eq_getElem q]; rfl
theorem getD_B {n : Nat} {R : List (List Int)} (hR : Fits n R) (k x : Nat) : isB ((R.getD k []).getD x 0) := by
  by_cases h : k < R.length
  · have := rd_B (getD_fits hR h).2 (x : Int)
    unfold rd at this
    rwa [Int.toNat_natCast] at this
  · rw [show R.getD k [] = [] from by rw [List.getD_eq_getElem?_getD, List.getElem?_eq_none (by omega)]; rfl]
    exact (show isB 0 from ⟨by decide, by decide⟩)
/-- the places of the leads -/
theorem red_lead {n : Nat} {R : List (List Int)} {p : List Nat} (hR : Fits n R) (h : Red (vecs R) p) {i : Nat} (hi : i < R.length) :
    p.getD i 0 < n ∧ leadN (R.getD i []) = ((p.getD i 0 : Nat) : Int) ∧ ∀ k, k < R.length → (R.getD k []).getD (p.getD i 0) 0 = if k = i then 1 else 0 := by
  have hv : ∀ k, k < R.length → row (vecs R) k (p.getD i 0) = if k = i then 1#8 else 0#8 := fun k hk => h.one k i (by rw [vecs_length]; exact hk) (by rw [vecs_length]; exact hi)
  have hlt : p.getD i 0 < n := by
    refine Nat.lt_of_not_le fun hle => ?_
    have h1 := vecs_supp hR _ (row_mem (l := vecs R) (i := i) (by rw [vecs_length]; exact hi)) _ hle
    rw [hv i hi, if_pos rfl] at h1
    exact absurd h1 (by decide)
  have hval : ∀ k, k < R.length → (R.getD k []).getD (p.getD i 0) 0 = if k = i then 1 else 0 := fun k hk => by
    have h1 := hv k hk
    rw [vecs_row] at h1
    refine byte_eq (getD_B hR k _) (by split <;> exact ⟨by decide, by decide⟩) ?_
    show vec (R.getD k []) (p.getD i 0) = _
    rw [h1]
    by_cases e : k = i
    · rw [if_pos e, if_pos e]; rfl
    · rw [if_neg e, if_neg e]; rfl
  refine ⟨hlt, ?_, hval⟩
  have hRi := getD_fits hR hi
  have at_ : ∀ j (q : j < (R.getD i []).length), (R.getD i [])[j] = (R.getD i []).getD j 0 := fun j q => getElem_getD _ j q
  refine leadN_pos (by rw [hRi.1]; exact hlt) (by rw [at_, hval i hi, if_pos rfl]; decide) fun j hj => ?_
  rw [at_]
  refine byte_eq (getD_B hR i j) ⟨by decide, by decide⟩ ?_
  have h2 := h.low i (by rw [vecs_length]; exact hi) j hj
  rw [vecs_row] at h2
  exact h2
/-- what is left of a row when the first k reduced rows are taken from it -/
def leftL (R : List (List Int)) (l : List Int) : Nat → List Int
  | 0 => l
  | k + 1 => addS (leftL R l k) (R.getD k []) ((leftL R l k).getD (leadN (R.getD k [])).toNat 0)
theorem leftL_fits {n : Nat} {R : List (List Int)} (hR : Fits n R) {l : List Int} (hl : l.length = n ∧ areB l) : ∀ k, k ≤ R.length → (leftL R l k).length = n ∧ areB (leftL R l k)
  | 0, _ => hl
  | k + 1, h => addS_fits (leftL_fits hR hl k (by omega)).1 (getD_fits hR (by omega)).1 _
theorem leftL_vec {n : Nat} {R : List (List Int)} {p : List Nat} (hR : Fits n R) (h : Red (vecs R) p) {l : List Int} (hl : l.length = n ∧ areB l) : ∀ k, k ≤ R.length → vec (leftL R l k) = fun x => vec l x ^^^ S k (fun j => mul (vec l (p.getD j 0)) (row (vecs R) j x))
  | 0, _ => funext fun x => by show vec l x = vec l x ^^^ 0#8; rw [BitVec.xor_zero]
  | k + 1, hk => by
    have ih := leftL_vec hR h hl k (by omega)
    have hkR : k < R.length := by omega
    obtain ⟨a1, a2, a3⟩ := red_lead hR h hkR
    have hlen := (leftL_fits hR hl k (by omega)).1
    have hc : toG ((leftL R l k).getD (leadN (R.getD k [])).toNat 0) = vec l (p.getD k 0) := by
      rw [a2, Int.toNat_natCast]
      show vec (leftL R l k) (p.getD k 0) = _
      rw [ih]
      show vec l (p.getD k 0) ^^^ S k _ = _
      rw [S_zero fun j hj => by
        have := h.one j k (by rw [vecs_length]; omega) (by rw [vecs_length]; exact hkR)
        rw [this, if_neg (by omega), mul_zero]]
      exact BitVec.xor_zero
    show vec (addS (leftL R l k) (R.getD k []) _) = _
    unfold addS
    rw [vec_addScaled (by rw [hlen, (getD_fits hR hkR).1]), hc, ih]
    funext x
    show (vec l x ^^^ S k _) ^^^ mul _ (vec (R.getD k []) x) = vec l x ^^^ (S k _ ^^^ mul _ (row (vecs R) k x))
    rw [vecs_row, BitVec.xor_assoc]
theorem left_zero {n : Nat} {R : List (List Int)} {p : List Nat} (hR : Fits n R) (h : Red (vecs R) p) {l : List Int} (hl : l.length = n ∧ areB l) (hs : Sp (vecs R) (vec l)) : ∀ x, x ∈ leftL R l R.length → x = 0 := by
  have hv := leftL_vec hR h hl R.length (Nat.le_refl _)
  have hf := leftL_fits hR hl R.length (Nat.le_refl _)
  have e := h.coord hs
  have hz : vec (leftL R l R.length) = vz := by
    rw [hv]
    funext x
    have := congrFun e x
    unfold comb at this
    rw [vecs_length] at this
    show vec l x ^^^ S R.length _ = 0#8
    rw [← this]
    exact BitVec.xor_self
  intro x hx
  obtain ⟨j, hj, rfl⟩ := List.mem_iff_getElem.1 hx
  refine byte_eq (hf.2 _ (List.getElem_mem hj)) ⟨by decide, by decide⟩ ?_
  have := congrFun hz j
  rw [vec_lt hj] at this
  exact this
/-- rows that lie in the span of others, and the other way round -/
theorem same_red {n : Nat} {L M : List (List Int)} (hL : Fits n L) (hM : Fits n M) (h : ∀ r, r ∈ L → Sp (vecs M) (vec r)) (k : ∀ r, r ∈ M → Sp (vecs L) (vec r)) : redRows L n = redRows M n :=
  redRows_eq hL hM (SpEq.of_mem (fun v hv => by obtain ⟨r, hr, rfl⟩ := List.mem_map.1 hv; exact h r hr) (fun v hv => by obtain ⟨r, hr, rfl⟩ := List.mem_map.1 hv; exact k r hr))
theorem sp_of_mem {L : List (List Int)} {r : List Int} (h : r ∈ L) : Sp (vecs L) (vec r) := .mem (List.mem_map.2 ⟨r, h, rfl⟩)
theorem red_self {n : Nat} {L : List (List Int)} (hL : Fits n L) : redRows (redRows L n) n = redRows L n := by
  obtain ⟨p, h1, h2, h3, _⟩ := redRows_spec hL
  exact redRows_eq h3 hL h2.symm
/-- what is left of a row that does not lie in the span is not 0 -/
theorem left_sp {n : Nat} {R : List (List Int)} {p : List Nat} (hR : Fits n R) (h : Red (vecs R) p) {l : List Int} (hl : l.length = n ∧ areB l) (hz : ∀ x, x ∈ leftL R l R.length → x = 0) : Sp (vecs R) (vec l) := by
  have hv := leftL_vec hR h hl R.length (Nat.le_refl _)
  have h0 : vec (leftL R l R.length) = vz := by
    funext j
    unfold vec
    by_cases hj : j < (leftL R l R.length).length
    · rw [List.getD_eq_getElem?_getD, List.getElem?_eq_getElem hj, Option.getD_some, hz _ (List.getElem_mem hj)]; rfl
    · rw [List.getD_eq_getElem?_getD, List.getElem?_eq_none (by omega), Option.getD_none]; rfl
  rw [h0] at hv
  have e : vec l = comb (vecs R) (fun j => vec l (p.getD j 0)) := by
    funext x
    have := congrFun hv x
    unfold comb
    rw [vecs_length]
    have h2 : vec l x ^^^ S R.length (fun j => mul (vec l (p.getD j 0)) (row (vecs R) j x)) = 0#8 := this.symm
    have h3 : vec l x = S R.length (fun j => mul (vec l (p.getD j 0)) (row (vecs R) j x)) := by
      rw [← BitVec.xor_zero (x := S R.length _), ← h2, BitVec.xor_comm, BitVec.xor_assoc, BitVec.xor_self, BitVec.xor_zero]
    exact h3
  rw [e]
  exact comb_sp _ _
/-- whether a row lies in the span of some rows -/
def hasB (l : List (List Int)) (v : List Int) : Bool := (leftL (redRows l v.length) v (redRows l v.length).length).all (fun z => z == 0)
theorem hasB_iff {n : Nat} {l : List (List Int)} (hl : Fits n l) {v : List Int} (hv : v.length = n ∧ areB v) : hasB l v = true ↔ Sp (vecs l) (vec v) := by
  obtain ⟨p, r1, r2, r3, _⟩ := redRows_spec hl
  unfold hasB
  rw [hv.1, List.all_eq_true]
  constructor
  · intro h
    exact (r2 _).2 (left_sp r3 r1 hv fun x hx => by simpa using h x hx)
  · intro h x hx
    have := left_zero r3 r1 hv ((r2 _).1 h) x hx
    simp [this]
end Go.Proofs.Ythgpmneplpdeiaa.Plain
