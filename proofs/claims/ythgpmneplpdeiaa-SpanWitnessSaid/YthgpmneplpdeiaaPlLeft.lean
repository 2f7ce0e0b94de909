/- Plain: what is left of a row when the reduced rows are taken from it; spans told by what is left. -/
import Derived.Test.YthgpmneplpdeiaaHBytes
import Derived.Test.YthgpmneplpdeiaaLD
import Derived.Test.YthgpmneplpdeiaaHReduce
import Derived.Test.YthgpmneplpdeiaaHSame
import Derived.Test.YthgpmneplpdeiaaHConcatR
/-! Plain: elimination on rows of bytes is LA's elimination; what Reduce tells. -/
/-! Plain: elimination on rows of bytes is LA's elimination; what Reduce and Inverse tell. -/
namespace Go.Proofs.Ythgpmneplpdeiaa.Plain
open Go.Proofs.Ythgpmneplpdeiaa.Hand Go.Proofs.Ythgpmneplpdeiaa.GF Go.Proofs.Ythgpmneplpdeiaa.LA Go.RowKit Go.Proofs.YthgpmneplpdeiaaW.PrintWords Go.Proofs.YthgpmneplpdeiaaW.PrintLast

/-- rows of bytes as vectors -/
def vecs (L : List (List Int)) : List V := L.map vec
theorem vecs_length (L : List (List Int)) : (vecs L).length = L.length := by simp [vecs]
theorem vec_nil : vec [] = vz := funext fun _ => rfl
theorem vecs_row (L : List (List Int)) (i : Nat) : row (vecs L) i = vec (L.getD i []) := by
  unfold row vecs
  rw [List.getD_eq_getElem?_getD, List.getElem?_map, List.getD_eq_getElem?_getD]
  cases L[i]? with
  | none => exact vec_nil.symm
  | some x => rfl
theorem vecs_supp {n : Nat} {L : List (List Int)} (h : Fits n L) : AllSupp n (vecs L) := fun v hv => by
  obtain ⟨r, hr, rfl⟩ := List.mem_map.1 hv
  have := vec_supp r
  rw [(h r hr).1] at this
  exact this
theorem vecs_take (L : List (List Int)) (d : Nat) : vecs (L.take d) = (vecs L).take d := by simp [vecs, List.map_take]
/-- rows of one length are told by their vectors -/
theorem vecs_inj {n : Nat} : ∀ {A B : List (List Int)}, Fits n A → Fits n B → vecs A = vecs B → A = B
  | [], [], _, _, _ => rfl
  | [], b :: B, _, _, h => by simp [vecs] at h
  | a :: A, [], _, _, h => by simp [vecs] at h
  | a :: A, b :: B, hA, hB, h => by
    simp only [vecs, List.map_cons, List.cons.injEq] at h
    have h1 := hA a (List.mem_cons_self)
    have h2 := hB b (List.mem_cons_self)
    rw [vec_ext (h1.1.trans h2.1.symm) h1.2 h2.2 (fun j _ => by rw [h.1]), vecs_inj (fun r hr => hA r (List.mem_cons_of_mem _ hr)) (fun r hr => hB r (List.mem_cons_of_mem _ hr)) h.2]
theorem toG_gi (x : Int) : toG (gi x) = inv (toG x) := toG_ofG _
theorem getD_set (M : List (List Int)) (i j : Nat) (x : List Int) (hi : i < M.length) : (M.set i x).getD j [] = if j = i then x else M.getD j [] := by
  rw [List.getD_eq_getElem?_getD, List.getD_eq_getElem?_getD]
  by_cases e : j = i
  · subst e; rw [if_pos rfl, List.getElem?_set_self hi]; rfl
  · rw [if_neg e, List.getElem?_set_ne (fun q => e q.symm)]
theorem pivoted_getD (M : List (List Int)) (d i k j : Nat) (hd : d < M.length) (hi : i < M.length) : (pivoted M d i k).getD j [] = if j = d then (M.getD i []).map (fun x => gm x (gi ((M.getD i []).getD k 0))) else if j = i then M.getD d [] else M.getD j [] := by
  unfold pivoted
  rw [getD_set _ _ _ _ (by rw [List.length_set]; exact hd)]
  by_cases e : j = d
  · rw [if_pos e, if_pos e]
  · rw [if_neg e, if_neg e, getD_set _ _ _ _ hi]
theorem step_vec {n : Nat} {M : List (List Int)} (hM : Fits n M) {d i : Nat} (hd : d < M.length) (hi : i < M.length) (k : Nat) : vecs (stepI M d i k) = LA.step (vecs M) d i k := by
  have hP := pivoted_fits hM hd hi k
  have hlen : (vecs (stepI M d i k)).length = (LA.step (vecs M) d i k).length := by rw [vecs_length, stepI_length, step_length, vecs_length]
  refine ext_rows hlen fun j hj => ?_
  rw [vecs_length, stepI_length] at hj
  have hPl := pivoted_length M d i k
  have hdP : vec ((pivoted M d i k).getD d []) = pivot (vecs M) i k := by
    rw [pivoted_getD M d i k d hd hi, if_pos rfl, vec_scale, toG_gi]
    unfold pivot
    rw [vecs_row]
    rfl
  have hjP : j ≠ d → vec ((pivoted M d i k).getD j []) = swapped (vecs M) d i j := fun e => by
    rw [pivoted_getD M d i k j hd hi, if_neg e]
    unfold swapped
    by_cases e2 : j = i
    · rw [if_pos e2, if_pos e2, vecs_row]
    · rw [if_neg e2, if_neg e2, vecs_row]
  rw [step_row (by rw [vecs_length]; exact hj), vecs_row]
  have e0 : (stepI M d i k).getD j [] = if j < M.length ∧ j ≠ d then addS ((pivoted M d i k).getD j []) ((pivoted M d i k).getD d []) (((pivoted M d i k).getD j []).getD k 0) else (pivoted M d i k).getD j [] := by
    unfold stepI clr
    rw [List.getD_eq_getElem?_getD, List.getElem?_map, hPl, List.getElem?_range hj]
    rfl
  rw [e0]
  by_cases e : j = d
  · rw [if_neg (by omega), if_pos e, e, hdP]
  · rw [if_pos ⟨hj, e⟩, if_neg e]
    unfold addS
    rw [vec_addScaled (by rw [(getD_fits hP (by rw [hPl]; exact hj)).1, (getD_fits hP (by rw [hPl]; exact hd)).1]), hdP, hjP e]
    have : toG (((pivoted M d i k).getD j []).getD k 0) = vec ((pivoted M d i k).getD j []) k := rfl
    rw [this, hjP e]
theorem redTo_inv {n : Nat} {L : List (List Int)} (hL : Fits n L) (k : Nat) : ∃ p, LA.Inv (vecs (redTo L k).1) (redTo L k).2 k p ∧ SpEq (vecs L) (vecs (redTo L k).1) := by
  induction k with
  | zero => exact ⟨[], .start _, .refl _⟩
  | succ k ih =>
    obtain ⟨p, h1, h2⟩ := ih
    have hF := redTo_fits hL k
    show ∃ p, LA.Inv (vecs (colStep (redTo L k) k).1) (colStep (redTo L k) k).2 (k + 1) p ∧ SpEq (vecs L) (vecs (colStep (redTo L k) k).1)
    generalize redTo L k = S at *
    unfold colStep
    cases e : pick S.1 S.2 k with
    | none =>
      refine ⟨p, h1.pass fun i hi1 hi2 => ?_, h2⟩
      rw [vecs_length] at hi2
      unfold pick at e
      rw [List.find?_eq_none] at e
      have := e i (List.mem_range.2 hi2)
      rw [vecs_row]
      have h0 : (S.1.getD i []).getD k 0 = 0 := by
        rcases Decidable.em ((S.1.getD i []).getD k 0 = 0) with q | q
        · exact q
        · exact absurd (by simp only [Bool.and_eq_true, decide_eq_true_eq, bne_iff_ne, ne_eq]; exact ⟨hi1, q⟩) this
      show toG ((S.1.getD i []).getD k 0) = _
      rw [h0]; rfl
    | some i =>
      obtain ⟨hi1, hi2, hi3⟩ := pick_some e
      have hne : row (vecs S.1) i k ≠ 0#8 := by
        rw [vecs_row]
        intro h0
        have hB := (getD_fits hF.1 hi2).2
        have hb : isB ((S.1.getD i []).getD k 0) := by
          rw [List.getD_eq_getElem?_getD]
          cases q : (S.1.getD i [])[k]? with
          | none => exact ⟨by decide, by decide⟩
          | some x => exact hB x (List.mem_of_getElem? q)
        exact hi3 (byte_eq hb ⟨by decide, by decide⟩ h0)
      dsimp only
      rw [step_vec hF.1 (by omega) hi2 k]
      exact ⟨p ++ [k], h1.step hi1 (by rw [vecs_length]; exact hi2) hne, h2.trans (step_span (by rw [vecs_length]; omega) (by rw [vecs_length]; exact hi2) hne)⟩
/-- the reduced rows -/
def redRows (L : List (List Int)) (n : Nat) : List (List Int) := (redTo L n).1.take (redTo L n).2
theorem redRows_spec {n : Nat} {L : List (List Int)} (hL : Fits n L) : ∃ p, Red (vecs (redRows L n)) p ∧ SpEq (vecs L) (vecs (redRows L n)) ∧ Fits n (redRows L n) ∧ (redRows L n).length ≤ L.length := by
  obtain ⟨p, h1, h2⟩ := redTo_inv hL n
  have hF := redTo_fits hL n
  refine ⟨p, ?_, ?_, fun r hr => hF.1 r (List.mem_of_mem_take hr), ?_⟩
  · unfold redRows; rw [vecs_take]; exact h1.red
  · unfold redRows; rw [vecs_take]; exact h2.trans (h1.span (vecs_supp hF.1))
  · unfold redRows; rw [List.length_take, hF.2]; omega
theorem redRows_rank {n : Nat} {L : List (List Int)} (hL : Fits n L) : (redRows L n).length = rk n (vecs L) := by
  obtain ⟨p, h1, h2, _, _⟩ := redRows_spec hL
  rw [rk_eq (vecs_supp hL) h1 h2, vecs_length]
/-- the same span: the same reduced rows -/
theorem redRows_eq {n : Nat} {L M : List (List Int)} (hL : Fits n L) (hM : Fits n M) (h : SpEq (vecs L) (vecs M)) : redRows L n = redRows M n := by
  obtain ⟨p, h1, h2, h3, _⟩ := redRows_spec hL
  obtain ⟨q, k1, k2, k3, _⟩ := redRows_spec hM
  exact vecs_inj h3 k3 (h1.unique k1 ((h2.symm.trans h).trans k2))
theorem any_len {n : Nat} {L : List (List Int)} (hL : Fits n L) : (L.any fun x => (x.length : Int) != ((rdR L 0).length : Int)) = false := by
  refine List.any_eq_false.2 fun x hx => ?_
  have h0 : (rdR L 0).length = n := by
    have hp : 0 < L.length := List.length_pos_of_mem hx
    exact (getD_fits hL hp).1
  rw [h0, (hL x hx).1]; simp
theorem width {n : Nat} {L : List (List Int)} (hL : Fits n L) (hp : 0 < L.length) : (rdR L 0).length = n := (getD_fits hL hp).1
theorem redTo_nil (k : Nat) : redTo [] k = ([], 0) := by
  induction k with
  | zero => rfl
  | succ k ih => show colStep (redTo [] k) k = _; rw [ih]; rfl
theorem reduce_f {n : Nat} {L : List (List Int)} (hL : Fits n L) (hl : L.length < 1000000000) (hn : n < 140737488355328) : matrix_Reduce.f L = some (redRows L n, 0) := by
  unfold matrix_Reduce.f
  rw [if_pos hl, if_neg (by rw [any_len hL]; decide)]
  by_cases hp : 0 < L.length
  · rw [width hL hp, if_pos ⟨hn, fun x hx => (hL x hx).2⟩]; rfl
  · have e := List.length_eq_zero_iff.1 (show L.length = 0 by omega)
    subst e
    unfold redRows
    rw [redTo_nil, redTo_nil, if_pos ⟨by decide, fun x hx => by cases hx⟩]
theorem same_f {n m : Nat} {A B : List (List Int)} (hA : Fits n A) (hB : Fits m B) (hl : A.length < 1000000000) : matrix_Same.f A B = some (decide (A = B)) := by
  unfold matrix_Same.f
  rw [if_pos ⟨hl, fun x hx => (hA x hx).2, fun x hx => (hB x hx).2⟩]
end Go.Proofs.Ythgpmneplpdeiaa.Plain

/-! Plain: what is left of a row when the reduced rows are taken from it; spans told by what is left. -/
namespace Go.Proofs.Ythgpmneplpdeiaa.Plain
open Go.Proofs.Ythgpmneplpdeiaa.Hand Go.Proofs.Ythgpmneplpdeiaa.GF Go.Proofs.Ythgpmneplpdeiaa.LA Go.RowKit Go.Proofs.YthgpmneplpdeiaaW.PrintWords Go.Proofs.YthgpmneplpdeiaaW.PrintLast
theorem rd_B {b : List Int} (hb : areB b) (i : Int) : isB (rd b i) := by
  unfold rd
  rw [List.getD_eq_getElem?_getD]
  cases h : b[i.toNat]? with
  | none => exact ⟨by decide, by decide⟩
  | some x => exact hb x (List.mem_of_getElem? h)
theorem getElem_getD (l : List Int) (j : Nat) (q : j < l.length) : l[j] = l.getD j 0 := by rw [List.getD_eq_getElem?_getD, List.getElem?_eq_getElem q]; rfl
theorem getD_B {n : Nat} {R : List (List Int)} (hR : Fits n R) (k x : Nat) : isB ((R.getD k []).getD x 0) := by
  by_cases h : k < R.length
  · have := rd_B (getD_fits hR h).2 (x : Int)
    unfold rd at this
    rwa [Int.toNat_natCast] at this
  · rw [show R.getD k [] = [] from by rw [List.getD_eq_getElem?_getD, List.getElem?_eq_none (by omega)]; rfl]
    exact (show isB 0 from ⟨by decide, by decide⟩)
/-- the places of the leads -/
theorem red_lead {n : Nat} {R : List (List Int)} {p : List Nat} (hR : Fits n R) (h : Red (vecs R) p) {i : Nat} (hi : i < R.length) :
    p.getD i 0 < n ∧ leadN (R.getD i []) = ((p.getD i 0 : Nat) : Int) ∧ ∀ k, k < R.length → (R.getD k []).getD (p.getD i 0) 0 = if k = i then 1 else 0 := by
  have hv : ∀ k, k < R.length → row (vecs R) k (p.getD i 0) = if k = i then 1#8 else 0#8 := fun k hk => h.one k i (by rw [vecs_length]; exact hk) (by rw [vecs_length]; exact hi)
  have hlt : p.getD i 0 < n := by
    refine Nat.lt_of_not_le fun hle => ?_
    have h1 := vecs_supp hR _ (row_mem (l := vecs R) (i := i) (by rw [vecs_length]; exact hi)) _ hle
    rw [hv i hi, if_pos rfl] at h1
    exact absurd h1 (by decide)
  have hval : ∀ k, k < R.length → (R.getD k []).getD (p.getD i 0) 0 = if k = i then 1 else 0 := fun k hk => by
    have h1 := hv k hk
    rw [vecs_row] at h1
    refine byte_eq (getD_B hR k _) (by split <;> exact ⟨by decide, by decide⟩) ?_
    show vec (R.getD k []) (p.getD i 0) = _
    rw [h1]
    by_cases e : k = i
    · rw [if_pos e, if_pos e]; rfl
    · rw [if_neg e, if_neg e]; rfl
  refine ⟨hlt, ?_, hval⟩
  have hRi := getD_fits hR hi
  have at_ : ∀ j (q : j < (R.getD i []).length), (R.getD i [])[j] = (R.getD i []).getD j 0 := fun j q => getElem_getD _ j q
  refine leadN_pos (by rw [hRi.1]; exact hlt) (by rw [at_, hval i hi, if_pos rfl]; decide) fun j hj => ?_
  rw [at_]
  refine byte_eq (getD_B hR i j) ⟨by decide, by decide⟩ ?_
  have h2 := h.low i (by rw [vecs_length]; exact hi) j hj
  rw [vecs_row] at h2
  exact h2
/-- what is left of a row when the first k reduced rows are taken from it -/
def leftL (R : List (List Int)) (l : List Int) : Nat → List Int
  | 0 => l
  | k + 1 => addS (leftL R l k) (R.getD k []) ((leftL R l k).getD (leadN (R.getD k [])).toNat 0)
theorem leftL_fits {n : Nat} {R : List (List Int)} (hR : Fits n R) {l : List Int} (hl : l.length = n ∧ areB l) : ∀ k, k ≤ R.length → (leftL R l k).length = n ∧ areB (leftL R l k)
  | 0, _ => hl
  | k + 1, h => addS_fits (leftL_fits hR hl k (by omega)).1 (getD_fits hR (by omega)).1 _
theorem leftL_vec {n : Nat} {R : List (List Int)} {p : List Nat} (hR : Fits n R) (h : Red (vecs R) p) {l : List Int} (hl : l.length = n ∧ areB l) : ∀ k, k ≤ R.length → vec (leftL R l k) = fun x => vec l x ^^^ S k (fun j => mul (vec l (p.getD j 0)) (row (vecs R) j x))
  | 0, _ => funext fun x => by show vec l x = vec l x ^^^ 0#8; rw [BitVec.xor_zero]
  | k + 1, hk => by
    have ih := leftL_vec hR h hl k (by omega)
    have hkR : k < R.length := by omega
    obtain ⟨a1, a2, a3⟩ := red_lead hR h hkR
    have hlen := (leftL_fits hR hl k (by omega)).1
    have hc : toG ((leftL R l k).getD (leadN (R.getD k [])).toNat 0) = vec l (p.getD k 0) := by
      rw [a2, Int.toNat_natCast]
      show vec (leftL R l k) (p.getD k 0) = _
      rw [ih]
      show vec l (p.getD k 0) ^^^ S k _ = _
      rw [S_zero fun j hj => by
        have := h.one j k (by rw [vecs_length]; omega) (by rw [vecs_length]; exact hkR)
        rw [this, if_neg (by omega), mul_zero]]
      exact BitVec.xor_zero
    show vec (addS (leftL R l k) (R.getD k []) _) = _
    unfold addS
    rw [vec_addScaled (by rw [hlen, (getD_fits hR hkR).1]), hc, ih]
    funext x
    show (vec l x ^^^ S k _) ^^^ mul _ (vec (R.getD k []) x) = vec l x ^^^ (S k _ ^^^ mul _ (row (vecs R) k x))
    rw [vecs_row, BitVec.xor_assoc]
theorem left_zero {n : Nat} {R : List (List Int)} {p : List Nat} (hR : Fits n R) (h : Red (vecs R) p) {l : List Int} (hl : l.length = n ∧ areB l) (hs : Sp (vecs R) (vec l)) : ∀ x, x ∈ leftL R l R.length → x = 0 := by
  have hv := leftL_vec hR h hl R.length (Nat.le_refl _)
  have hf := leftL_fits hR hl R.length (Nat.le_refl _)
  have e := h.coord hs
  have hz : vec (leftL R l R.length) = vz := by
    rw [hv]
    funext x
    have := congrFun e x
    unfold comb at this
    rw [vecs_length] at this
    show vec l x ^^^ S R.length _ = 0#8
    rw [← this]
    exact BitVec.xor_self
  intro x hx
  obtain ⟨j, hj, rfl⟩ := List.mem_iff_getElem.1 hx
  refine byte_eq (hf.2 _ (List.getElem_mem hj)) ⟨by decide, by decide⟩ ?_
  have := congrFun hz j
  rw [vec_lt hj] at this
  exact this
/-- rows that lie in the span of others, and the other way round -/
theorem same_red {n : Nat} {L M : List (List Int)} (hL : Fits n L) (hM : Fits n M) (h : ∀ r, r ∈ L → Sp (vecs M) (vec r)) (k : ∀ r, r ∈ M → Sp (vecs L) (vec r)) : redRows L n = redRows M n :=
  redRows_eq hL hM (SpEq.of_mem (fun v hv => by obtain ⟨r, hr, rfl⟩ := List.mem_map.1 hv; exact h r hr) (fun v hv => by obtain ⟨r, hr, rfl⟩ := List.mem_map.1 hv; exact k r hr))
theorem sp_of_mem {L : List (List Int)} {r : List Int} (h : r ∈ L) : Sp (vecs L) (vec r) := .mem (List.mem_map.2 ⟨r, h, rfl⟩)
theorem red_self {n : Nat} {L : List (List Int)} (hL : Fits n L) : redRows (redRows L n) n = redRows L n := by
  obtain ⟨p, h1, h2, h3, _⟩ := redRows_spec hL
  exact redRows_eq h3 hL h2.symm
/-- what is left of a row that does not lie in the span is not 0 -/
theorem left_sp {n : Nat} {R : List (List Int)} {p : List Nat} (hR : Fits n R) (h : Red (vecs R) p) {l : List Int} (hl : l.length = n ∧ areB l) (hz : ∀ x, x ∈ leftL R l R.length → x = 0) : Sp (vecs R) (vec l) := by
  have hv := leftL_vec hR h hl R.length (Nat.le_refl _)
  have h0 : vec (leftL R l R.length) = vz := by
    funext j
    unfold vec
    by_cases hj : j < (leftL R l R.length).length
    · rw [List.getD_eq_getElem?_getD, List.getElem?_eq_getElem hj, Option.getD_some, hz _ (List.getElem_mem hj)]; rfl
    · rw [List.getD_eq_getElem?_getD, List.getElem?_eq_none (by omega), Option.getD_none]; rfl
  rw [h0] at hv
  have e : vec l = comb (vecs R) (fun j => vec l (p.getD j 0)) := by
    funext x
    have := congrFun hv x
    unfold comb
    rw [vecs_length]
    have h2 : vec l x ^^^ S R.length (fun j => mul (vec l (p.getD j 0)) (row (vecs R) j x)) = 0#8 := this.symm
    have h3 : vec l x = S R.length (fun j => mul (vec l (p.getD j 0)) (row (vecs R) j x)) := by
      rw [← BitVec.xor_zero (x := S R.length _), ← h2, BitVec.xor_comm, BitVec.xor_assoc, BitVec.xor_self, BitVec.xor_zero]
    exact h3
  rw [e]
  exact comb_sp _ _
/-- whether a row lies in the span of some rows -/
def hasB (l : List (List Int)) (v : List Int) : Bool := (leftL (redRows l v.length) v (redRows l v.length).length).all (fun z => z == 0)
theorem hasB_iff {n : Nat} {l : List (List Int)} (hl : Fits n l) {v : List Int} (hv : v.length = n ∧ areB v) : hasB l v = true ↔ Sp (vecs l) (vec v) := by
  obtain ⟨p, r1, r2, r3, _⟩ := redRows_spec hl
  unfold hasB
  rw [hv.1, List.all_eq_true]
  constructor
  · intro h
    exact (r2 _).2 (left_sp r3 r1 hv fun x hx => by simpa using h x hx)
  · intro h x hx
    have := left_zero r3 r1 hv ((r2 _).1 h) x hx
    simp [this]
end Go.Proofs.Ythgpmneplpdeiaa.Plain
