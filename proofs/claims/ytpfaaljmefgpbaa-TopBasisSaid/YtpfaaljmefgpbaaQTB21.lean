/- QTB, part 21: PlInsert PlBasis. -/
import Derived.Test.YtpfaaljmefgpbaaQTB15

section
namespace Go.Proofs.Ytpfaaljmefgpbaa.Plain
open Go.Proofs.Ytpfaaljmefgpbaa.Hand Go.Proofs.Ytpfaaljmefgpbaa.GF Go.Proofs.Ytpfaaljmefgpbaa.LA Go.RowKit Go.Proofs.YtpfaaljmefgpbaaW.PrintWords Go.Proofs.YtpfaaljmefgpbaaW.PrintLast
def clV (s : V) (k : Nat) (v : V) : V := va v (vs (v k) s)
theorem lay_row {M : List V} {s : V} {t : Nat} (f : V → V) (ht : t ≤ M.length) (i : Nat) : row ((M.take t).map f ++ [s] ++ (M.drop t).map f) i = if i < t then f (row M i) else if i = t then s else if i ≤ M.length then f (row M (i - 1)) else vz := by
  have hl : ((M.take t).map f).length = t := by rw [List.length_map, List.length_take]; omega
  unfold row
  rw [List.append_assoc]
  by_cases h1 : i < t
  · rw [if_pos h1, List.getD_eq_getElem?_getD, List.getElem?_append_left (by omega), List.getElem?_map, List.getElem?_take, if_pos h1, List.getD_eq_getElem?_getD, List.getElem?_eq_getElem (by omega)]; rfl
  · rw [if_neg h1, List.getD_eq_getElem?_getD, List.getElem?_append_right (by omega), hl]
    by_cases h2 : i = t
    · rw [if_pos h2, h2, Nat.sub_self]; rfl
    · rw [if_neg h2, List.getElem?_append_right (by rw [List.length_singleton]; omega), List.length_singleton, List.getElem?_map, List.getElem?_drop]
      by_cases h3 : i ≤ M.length
      · rw [if_pos h3, show t + (i - t - 1) = i - 1 from by omega, List.getD_eq_getElem?_getD, List.getElem?_eq_getElem (by omega)]; rfl
      · rw [if_neg h3, List.getElem?_eq_none (by omega)]; rfl
theorem lay_place {p : List Nat} {k t : Nat} (ht : t ≤ p.length) (i : Nat) : (p.take t ++ [k] ++ p.drop t).getD i 0 = if i < t then p.getD i 0 else if i = t then k else p.getD (i - 1) 0 := by
  have hl : (p.take t).length = t := by rw [List.length_take]; omega
  rw [List.append_assoc]
  by_cases h1 : i < t
  · rw [if_pos h1, List.getD_eq_getElem?_getD, List.getElem?_append_left (by omega), List.getElem?_take, if_pos h1, List.getD_eq_getElem?_getD]
  · rw [if_neg h1, List.getD_eq_getElem?_getD, List.getElem?_append_right (by omega), hl]
    by_cases h2 : i = t
    · rw [if_pos h2, h2, Nat.sub_self]; rfl
    · rw [if_neg h2, List.getElem?_append_right (by rw [List.length_singleton]; omega), List.length_singleton, List.getElem?_drop, show t + (i - t - 1) = i - 1 from by omega, List.getD_eq_getElem?_getD]
theorem red_lay {M : List V} {p : List Nat} (h : Red M p) {s : V} {k t : Nat} (hk : s k = 1#8) (hlow : ∀ x, x < k → s x = 0#8) (hp : ∀ j, j < M.length → s (p.getD j 0) = 0#8) (ht : t ≤ M.length) (h1 : ∀ j, j < t → p.getD j 0 < k) (h2 : ∀ j, t ≤ j → j < M.length → k < p.getD j 0) :
    Red ((M.take t).map (clV s k) ++ [s] ++ (M.drop t).map (clV s k)) (p.take t ++ [k] ++ p.drop t) := by
  have hlen := h.len
  have hL : ((M.take t).map (clV s k) ++ [s] ++ (M.drop t).map (clV s k)).length = M.length + 1 := by
    simp only [List.length_append, List.length_map, List.length_take, List.length_drop, List.length_singleton]; omega
  have at_p : ∀ i j, i < M.length → j < M.length → clV s k (row M i) (p.getD j 0) = if i = j then 1#8 else 0#8 := fun i j hi hj => by
    show row M i (p.getD j 0) ^^^ mul (row M i k) (s (p.getD j 0)) = _
    rw [hp j hj, mul_zero, BitVec.xor_zero, h.one i j hi hj]
  have at_k : ∀ i, clV s k (row M i) k = 0#8 := fun i => by
    show row M i k ^^^ mul (row M i k) (s k) = 0#8
    rw [hk, mul_one, BitVec.xor_self]
  refine ⟨by rw [hL]; simp only [List.length_append, List.length_take, List.length_drop, List.length_singleton]; omega, ?_, fun i j hi hj => ?_, fun i hi x hx => ?_⟩
  · rw [List.append_assoc, List.pairwise_append]
    refine ⟨h.inc.sublist (List.take_sublist t p), ?_, fun a ha b hb => ?_⟩
    · rw [List.singleton_append, List.pairwise_cons]
      refine ⟨fun b hb => ?_, h.inc.sublist (List.drop_sublist t p)⟩
      obtain ⟨j, hj, rfl⟩ := mem_pget hb
      rw [List.length_drop] at hj
      rw [pget_drop]
      exact h2 _ (by omega) (by omega)
    · obtain ⟨j, hj, rfl⟩ := mem_pget ha
      rw [List.length_take] at hj
      rw [pget_take (by omega)]
      have hjk := h1 j (by omega)
      rw [List.singleton_append] at hb
      rcases List.mem_cons.1 hb with q | q
      · rw [q]; exact hjk
      · obtain ⟨m, hm, rfl⟩ := mem_pget q
        rw [List.length_drop] at hm
        rw [pget_drop]
        have := h2 (t + m) (by omega) (by omega)
        omega
  · rw [hL] at hi hj
    rw [lay_row _ ht, lay_place (by omega) j]
    by_cases i1 : i < t
    · rw [if_pos i1]
      by_cases j1 : j < t
      · rw [if_pos j1, at_p i j (by omega) (by omega)]
      · rw [if_neg j1]
        by_cases j2 : j = t
        · rw [if_pos j2, at_k, if_neg (by omega)]
        · rw [if_neg j2, at_p i (j - 1) (by omega) (by omega), if_neg (by omega), if_neg (by omega)]
    · rw [if_neg i1]
      by_cases i2 : i = t
      · rw [if_pos i2]
        by_cases j1 : j < t
        · rw [if_pos j1, hp j (by omega), if_neg (by omega)]
        · rw [if_neg j1]
          by_cases j2 : j = t
          · rw [if_pos j2, hk, if_pos (by omega)]
          · rw [if_neg j2, hp (j - 1) (by omega), if_neg (by omega)]
      · rw [if_neg i2, if_pos (by omega)]
        by_cases j1 : j < t
        · rw [if_pos j1, at_p (i - 1) j (by omega) (by omega), if_neg (by omega), if_neg (by omega)]
        · rw [if_neg j1]
          by_cases j2 : j = t
          · rw [if_pos j2, at_k, if_neg (by omega)]
          · rw [if_neg j2, at_p (i - 1) (j - 1) (by omega) (by omega)]
            by_cases e : i = j
            · rw [if_pos (by omega), if_pos e]
            · rw [if_neg (by omega), if_neg e]
  · rw [hL] at hi
    rw [lay_place (by omega) i] at hx
    rw [lay_row _ ht]
    by_cases i1 : i < t
    · rw [if_pos i1] at hx ⊢
      show row M i x ^^^ mul (row M i k) (s x) = 0#8
      rw [h.low i (by omega) x hx, hlow x (by have := h1 i i1; omega), mul_zero, BitVec.xor_zero]
    · rw [if_neg i1] at hx ⊢
      by_cases i2 : i = t
      · rw [if_pos i2] at hx ⊢
        exact hlow x hx
      · rw [if_neg i2] at hx
        rw [if_neg i2, if_pos (by omega)]
        show row M (i - 1) x ^^^ mul (row M (i - 1) k) (s x) = 0#8
        rw [h.low (i - 1) (by omega) x hx, h.low (i - 1) (by omega) k (h2 (i - 1) (by omega) (by omega)), zero_mul, BitVec.xor_zero]
theorem lay_span {M : List V} {s : V} {k t : Nat} : SpEq ((M.take t).map (clV s k) ++ [s] ++ (M.drop t).map (clV s k)) (M ++ [s]) := by
  have hs : s ∈ (M.take t).map (clV s k) ++ [s] ++ (M.drop t).map (clV s k) := by simp
  refine SpEq.of_mem (fun v hv => ?_) (fun v hv => ?_)
  · have key : ∀ u, u ∈ M → Sp (M ++ [s]) (clV s k u) := fun u hu => .add (.mem (List.mem_append_left _ hu)) (.smul _ (.mem (List.mem_append_right _ (List.mem_singleton.2 rfl))))
    rcases List.mem_append.1 hv with q | q
    · rcases List.mem_append.1 q with q | q
      · obtain ⟨u, hu, rfl⟩ := List.mem_map.1 q
        exact key u (List.mem_of_mem_take hu)
      · rw [List.mem_singleton.1 q]; exact .mem (List.mem_append_right _ (List.mem_singleton.2 rfl))
    · obtain ⟨u, hu, rfl⟩ := List.mem_map.1 q
      exact key u (List.mem_of_mem_drop hu)
  · rcases List.mem_append.1 hv with q | q
    · have hc : clV s k v ∈ (M.take t).map (clV s k) ++ [s] ++ (M.drop t).map (clV s k) := by
        rw [← List.take_append_drop t M] at q
        rcases List.mem_append.1 q with q | q
        · exact List.mem_append_left _ (List.mem_append_left _ (List.mem_map.2 ⟨v, q, rfl⟩))
        · exact List.mem_append_right _ (List.mem_map.2 ⟨v, q, rfl⟩)
      have e : v = va (clV s k v) (vs (v k) s) := by unfold clV; rw [va_assoc, va_self, va_zero]
      rw [e]
      exact .add (.mem hc) (.smul _ (.mem hs))
    · rw [List.mem_singleton.1 q]; exact .mem hs
def one1 (l : List Int) : List Int := l.map fun x => gm x (gi (l.getD (leadN l).toNat 0))
def insW (M : List (List Int)) (l : List Int) : List (List Int) :=
  if leadN l < 0 then M else
    (M.take (M.findIdx fun x => decide (leadN x > leadN l))).map (fun x => addS x (one1 l) (x.getD (leadN l).toNat 0)) ++ [one1 l] ++ (M.drop (M.findIdx fun x => decide (leadN x > leadN l))).map (fun x => addS x (one1 l) (x.getD (leadN l).toNat 0))
def insL (M : List (List Int)) (r : List Int) : List (List Int) := insW M (leftL M r M.length)
theorem leadN_spec (l : List Int) : (leadN l = -1 ∧ ∀ x ∈ l, x = 0) ∨ ∃ i, ∃ h : i < l.length, leadN l = (i : Int) ∧ l[i] ≠ 0 ∧ ∀ j (q : j < i), l[j] = 0 := by
  by_cases h : ∀ x ∈ l, x = 0
  · exact Or.inl ⟨leadN_neg h, h⟩
  · obtain ⟨x, hx⟩ := Classical.not_forall.1 h
    obtain ⟨hx, hn⟩ := Classical.not_imp.1 hx
    obtain ⟨i, hi, rfl⟩ := List.mem_iff_getElem.1 hx
    obtain ⟨m, hm, ⟨hml, hmn⟩, hlw⟩ := least (fun k => ∃ q : k < l.length, l[k] ≠ 0) i ⟨hi, hn⟩
    have hz : ∀ j (q : j < m), l[j] = 0 := fun j q => Classical.byContradiction fun e => hlw j q ⟨by omega, e⟩
    exact Or.inr ⟨m, hml, leadN_pos hml hmn hz, hmn, hz⟩
theorem vec_at {l : List Int} {i : Nat} (h : i < l.length) : vec l i = toG l[i] := vec_lt h
theorem vecs_append' (a b : List (List Int)) : vecs (a ++ b) = vecs a ++ vecs b := by unfold vecs; rw [List.map_append]
theorem ins_red {n : Nat} {M : List (List Int)} {p : List Nat} (hM : Fits n M) (h : Red (vecs M) p) {r : List Int} (hr : r.length = n ∧ areB r) :
    Fits n (insL M r) ∧ (∃ p', Red (vecs (insL M r)) p') ∧ SpEq (vecs (insL M r)) (vecs (M ++ [r])) := by
  have hv := leftL_vec hM h hr M.length (Nat.le_refl _)
  have hf := leftL_fits hM hr M.length (Nat.le_refl _)
  -- what is left, and the row: one span with the rows
  have hspan : SpEq (vecs M ++ [vec (leftL M r M.length)]) (vecs (M ++ [r])) := by
    rw [vecs_append']
    have hc : vec (leftL M r M.length) = va (vec r) (comb (vecs M) fun j => vec r (p.getD j 0)) := by
      rw [hv]; funext x; unfold va comb; rw [vecs_length]
    show SpEq _ (vecs M ++ [vec r])
    refine SpEq.of_mem (fun v hv_ => ?_) (fun v hv_ => ?_)
    · rcases List.mem_append.1 hv_ with q | q
      · exact .mem (List.mem_append_left _ q)
      · rw [List.mem_singleton.1 q, hc]
        exact .add (.mem (List.mem_append_right _ (List.mem_singleton.2 rfl))) (SpLe.left _ _ _ (comb_sp _ _))
    · rcases List.mem_append.1 hv_ with q | q
      · exact .mem (List.mem_append_left _ q)
      · have e : vec r = va (vec (leftL M r M.length)) (comb (vecs M) fun j => vec r (p.getD j 0)) := by rw [hc, va_assoc, va_self, va_zero]
        rw [List.mem_singleton.1 q, e]
        exact .add (.mem (List.mem_append_right _ (List.mem_singleton.2 rfl))) (SpLe.left _ _ _ (comb_sp _ _))
  have hpz : ∀ j, j < M.length → vec (leftL M r M.length) (p.getD j 0) = 0#8 := fun j hj => by
    rw [hv]
    show vec r (p.getD j 0) ^^^ S M.length (fun i => mul (vec r (p.getD i 0)) (row (vecs M) i (p.getD j 0))) = 0#8
    rw [S_one hj fun i hi hne => by rw [h.one i j (by rw [vecs_length]; exact hi) (by rw [vecs_length]; exact hj), if_neg hne, mul_zero], h.one j j (by rw [vecs_length]; exact hj) (by rw [vecs_length]; exact hj), if_pos rfl, mul_one, BitVec.xor_self]
  unfold insL
  clear hv
  generalize leftL M r M.length = l at hf hspan hpz ⊢
  rcases leadN_spec l with ⟨e, hz⟩ | ⟨k, hk, e, hne, hlow⟩
  · have hl : insW M l = M := by unfold insW; rw [if_pos (by omega)]
    rw [hl]
    refine ⟨hM, ⟨p, h⟩, SpEq.trans ?_ hspan⟩
    have hl0 : vec l = vz := by
      funext j
      by_cases q : j < l.length
      · rw [vec_at q, hz _ (List.getElem_mem q)]; rfl
      · unfold vec; rw [List.getD_eq_getElem?_getD, List.getElem?_eq_none (by omega)]; rfl
    exact (SpLe.left _ _).eq (SpLe.append (fun _ q => q) (SpLe.of_mem fun v q => by rw [List.mem_singleton.1 q, hl0]; exact .zero))
  · have hk1 : (leadN l).toNat = k := by rw [e]; rfl
    have hgd : l.getD k 0 = l[k] := by rw [List.getD_eq_getElem?_getD, List.getElem?_eq_getElem hk, Option.getD_some]
    have hB := hf.2 _ (List.getElem_mem hk)
    have hg : toG l[k] ≠ 0#8 := fun q => hne (byte_eq (b := 0) hB ⟨by decide, by decide⟩ q)
    have hs : vec (one1 l) = vs (inv (toG l[k])) (vec l) := by unfold one1; rw [vec_scale, toG_gi, hk1, hgd]
    have hsf : (one1 l).length = n ∧ areB (one1 l) := ⟨by unfold one1; rw [List.length_map]; exact hf.1, by unfold one1; exact areB_map _ (fun x => gm_B x _) _⟩
    have hsk : vec (one1 l) k = 1#8 := by
      rw [hs]; show mul (inv (toG l[k])) (vec l k) = 1#8
      rw [vec_at hk, inv_mul _ hg]
    have hsl : ∀ x, x < k → vec (one1 l) x = 0#8 := fun x hx => by
      rw [hs]; show mul _ (vec l x) = 0#8
      rw [vec_at (by omega), hlow x hx]; exact mul_zero _
    have hsp : ∀ j, j < M.length → vec (one1 l) (p.getD j 0) = 0#8 := fun j hj => by
      rw [hs]; show mul _ (vec l (p.getD j 0)) = 0#8
      rw [hpz j hj, mul_zero]
    have hlen : M.length = p.length := by have := h.len; rwa [vecs_length] at this
    have hlead : ∀ j (q : j < M.length), leadN M[j] = ((p.getD j 0 : Nat) : Int) := fun j q => by
      have := (red_lead hM h q).2.1
      rwa [List.getD_eq_getElem?_getD, List.getElem?_eq_getElem q, Option.getD_some] at this
    obtain ⟨t, ht⟩ : ∃ t, t = M.findIdx fun x => decide (leadN x > leadN l) := ⟨_, rfl⟩
    have htl : t ≤ M.length := by rw [ht]; exact List.findIdx_le_length
    have hne_k : ∀ j, j < M.length → p.getD j 0 ≠ k := fun j hj q => by
      have := hsp j hj
      rw [q, hsk] at this
      exact absurd this (by decide)
    have h1 : ∀ j, j < t → p.getD j 0 < k := fun j hj => by
      have := List.not_of_lt_findIdx (show j < M.findIdx (fun x => decide (leadN x > leadN l)) by omega)
      have h2 := hlead j (by omega)
      have h3 := hne_k j (by omega)
      have h4 : ¬ leadN M[j] > leadN l := by simpa using this
      rw [h2, e] at h4
      omega
    have h2 : ∀ j, t ≤ j → j < M.length → k < p.getD j 0 := fun j hj hjl => by
      have ht2 : t < M.length := by omega
      have q := List.findIdx_getElem (xs := M) (p := fun x => decide (leadN x > leadN l)) (w := by rw [← ht]; exact ht2)
      have q2 := hlead t ht2
      simp only [← ht, decide_eq_true_eq] at q
      rw [q2, e] at q
      rcases Nat.lt_or_ge t j with c | c
      · have := pget h.inc c (by omega); omega
      · have : t = j := by omega
        subst this; omega
    have hadd : ∀ x, x ∈ M → vec (addS x (one1 l) (x.getD k 0)) = clV (vec (one1 l)) k (vec x) := fun x hx => by
      unfold addS clV
      rw [vec_addScaled (by rw [(hM x hx).1, hsf.1])]; rfl
    have hI : insW M l = (M.take t).map (fun x => addS x (one1 l) (x.getD k 0)) ++ [one1 l] ++ (M.drop t).map (fun x => addS x (one1 l) (x.getD k 0)) := by
      unfold insW; rw [if_neg (by omega), hk1, ← ht]
    have hV : vecs (insW M l) = ((vecs M).take t).map (clV (vec (one1 l)) k) ++ [vec (one1 l)] ++ ((vecs M).drop t).map (clV (vec (one1 l)) k) := by
      rw [hI]
      unfold vecs
      rw [List.map_append, List.map_append, List.map_map, List.map_map, ← List.map_take, ← List.map_drop, List.map_map, List.map_map]
      congr 1
      · congr 1
        exact List.map_congr_left fun x hx => hadd x (List.mem_of_mem_take hx)
      · exact List.map_congr_left fun x hx => hadd x (List.mem_of_mem_drop hx)
    refine ⟨?_, ⟨_, by rw [hV]; exact red_lay h hsk hsl (fun j hj => hsp j (by rw [vecs_length] at hj; exact hj)) (by rw [vecs_length]; exact htl) h1 (fun j a b => h2 j a (by rw [vecs_length] at b; exact b))⟩, ?_⟩
    · rw [hI]
      intro x hx
      have ok : ∀ y, y ∈ M → (addS y (one1 l) (y.getD k 0)).length = n ∧ areB (addS y (one1 l) (y.getD k 0)) := fun y hy => addS_fits (hM y hy).1 hsf.1 _
      rcases List.mem_append.1 hx with q | q
      · rcases List.mem_append.1 q with q | q
        · obtain ⟨y, hy, rfl⟩ := List.mem_map.1 q
          exact ok y (List.mem_of_mem_take hy)
        · rw [List.mem_singleton.1 q]; exact hsf
      · obtain ⟨y, hy, rfl⟩ := List.mem_map.1 q
        exact ok y (List.mem_of_mem_drop hy)
    · rw [hV]
      refine (lay_span.trans ?_).trans hspan
      have e2 : vec l = vs (toG l[k]) (vec (one1 l)) := by rw [hs, vs_vs, mul_inv _ hg, vs_one]
      refine SpEq.of_mem (fun v q => ?_) (fun v q => ?_)
      · rcases List.mem_append.1 q with q | q
        · exact .mem (List.mem_append_left _ q)
        · rw [List.mem_singleton.1 q, hs]; exact .smul _ (.mem (List.mem_append_right _ (List.mem_singleton.2 rfl)))
      · rcases List.mem_append.1 q with q | q
        · exact .mem (List.mem_append_left _ q)
        · rw [List.mem_singleton.1 q, e2]; exact .smul _ (.mem (List.mem_append_right _ (List.mem_singleton.2 rfl)))
theorem ins_eq {n : Nat} {L : List (List Int)} (hL : Fits n L) {r : List Int} (hr : r.length = n ∧ areB r) : insL (redRows L n) r = redRows (L ++ [r]) n := by
  obtain ⟨p, h1, h2, h3, _⟩ := redRows_spec hL
  obtain ⟨k1, ⟨p', k2⟩, k3⟩ := ins_red h3 h1 hr
  have hLr : Fits n (L ++ [r]) := fun x hx => (List.mem_append.1 hx).elim (hL x) (fun q => by rw [List.mem_singleton.1 q]; exact hr)
  obtain ⟨q, m1, m2, m3, _⟩ := redRows_spec hLr
  refine vecs_inj k1 m3 (k2.unique m1 ((k3.trans ?_).trans m2))
  rw [vecs_append', vecs_append']
  exact SpEq.append h2.symm (SpEq.refl _)
end Go.Proofs.Ytpfaaljmefgpbaa.Plain
end

section
namespace Go.Proofs.Ytpfaaljmefgpbaa.Plain
open Go.Proofs.Ytpfaaljmefgpbaa.Hand Go.Proofs.Ytpfaaljmefgpbaa.GF Go.Proofs.Ytpfaaljmefgpbaa.LA Go.RowKit Go.Proofs.YtpfaaljmefgpbaaW.PrintWords Go.Proofs.YtpfaaljmefgpbaaW.PrintLast
theorem rkb_app {n : Nat} {l m : List V} (hl : AllSupp n l) (hm : AllSupp n m) : rk n (l ++ m) ≤ rk n l + rk n m := by
  obtain ⟨r, p, hr, e, _⟩ := exists_red n l hl
  obtain ⟨s, q, hs, e2, _⟩ := exists_red n m hm
  have hr2 := hl.of_le e.ge
  have hs2 := hm.of_le e2.ge
  rw [rk_eq hl hr e, rk_eq hm hs e2, rk_congr (hr2.append hs2) (SpEq.append e e2)]
  have := rk_le_length (hr2.append hs2)
  rwa [List.length_append] at this
theorem rkb_snoc {n : Nat} {l : List V} {v : V} (hl : AllSupp n l) (hv : Supp n v) (h : ¬ Sp l v) : rk n (l ++ [v]) = rk n l + 1 := by
  have h1 : AllSupp n [v] := fun x hx => by rw [List.mem_singleton.1 hx]; exact hv
  have h2 := rkb_app hl h1
  have h3 := rk_le_length h1
  rw [List.length_singleton] at h3
  have h4 : ¬ rk n (l ++ [v]) ≤ rk n l := fun q => h ((eq_of_rk (hl.append h1) (SpLe.left _ _) q).ge _ (.mem (List.mem_append_right _ (List.mem_singleton.2 rfl))))
  omega
theorem vec_addS {a b : List Int} (hl : a.length = b.length) (c : Int) : vec (addS a b c) = va (vec a) (vs (toG c) (vec b)) := vec_addScaled hl c
def payTo (s : Nat) (sy : List (List Int)) (r : List Int) : Nat → List Int
  | 0 => List.replicate s 0
  | k + 1 => addS (payTo s sy r k) (sy.getD k []) (r.getD k 0)
def payL (s : Nat) (sy : List (List Int)) (r : List Int) : List Int := payTo s sy r sy.length
section
variable {s : Nat} {sy : List (List Int)}
theorem payTo_spec (hsy : Fits s sy) (r : List Int) : ∀ k, k ≤ sy.length → (payTo s sy r k).length = s ∧ areB (payTo s sy r k) ∧ vec (payTo s sy r k) = fun x => S k fun j => mul (vec r j) (row (vecs sy) j x)
  | 0, _ => ⟨List.length_replicate, areB_zeros s, vec_zeros s⟩
  | k + 1, h => by
    obtain ⟨h1, h2, h3⟩ := payTo_spec hsy r k (by omega)
    have hk := getD_fits hsy (show k < sy.length by omega)
    refine ⟨(addS_fits h1 hk.1 _).1, (addS_fits h1 hk.1 _).2, ?_⟩
    show vec (addS (payTo s sy r k) (sy.getD k []) (r.getD k 0)) = _
    rw [vec_addS (by rw [h1, hk.1]), h3]
    funext x
    show (S k _) ^^^ mul (toG (r.getD k 0)) (vec (sy.getD k []) x) = S k _ ^^^ mul (vec r k) (row (vecs sy) k x)
    rw [vecs_row]
    rfl
theorem payL_spec (hsy : Fits s sy) (r : List Int) : (payL s sy r).length = s ∧ areB (payL s sy r) ∧ vec (payL s sy r) = comb (vecs sy) (vec r) := by
  obtain ⟨h1, h2, h3⟩ := payTo_spec hsy r sy.length (Nat.le_refl _)
  refine ⟨h1, h2, h3.trans ?_⟩
  unfold comb
  rw [vecs_length]
theorem pay_eq (hsy : Fits s sy) {r y : List Int} (h1 : y.length = s) (h2 : areB y) (h3 : vec y = comb (vecs sy) (vec r)) : y = payL s sy r := by
  obtain ⟨k1, k2, k3⟩ := payL_spec hsy r
  exact vec_ext (h1.trans k1.symm) h2 k2 fun j _ => by rw [h3, k3]
theorem pay_add (hsy : Fits s sy) {a b : List Int} (hl : a.length = b.length) (c : Int) : addS (payL s sy a) (payL s sy b) c = payL s sy (addS a b c) := by
  obtain ⟨a1, a2, a3⟩ := payL_spec hsy a
  obtain ⟨b1, b2, b3⟩ := payL_spec hsy b
  refine pay_eq hsy (addS_fits a1 b1 c).1 (addS_fits a1 b1 c).2 ?_
  rw [vec_addS (by rw [a1, b1]), vec_addS hl, a3, b3, comb_va, comb_vs]
theorem pay_scale (hsy : Fits s sy) (a : List Int) (c : Int) : ((payL s sy a).map fun x => gm x c) = payL s sy (a.map fun x => gm x c) := by
  obtain ⟨a1, a2, a3⟩ := payL_spec hsy a
  refine pay_eq hsy (by rw [List.length_map]; exact a1) (areB_map _ (fun x => gm_B x c) _) ?_
  rw [vec_scale, vec_scale, a3, comb_vs]
theorem pays_vecs (hsy : Fits s sy) (L : List (List Int)) : vecs (L.map (payL s sy)) = prod (vecs L) (vecs sy) := by
  unfold vecs prod
  rw [List.map_map, List.map_map]
  exact List.map_congr_left fun r _ => (payL_spec hsy r).2.2
theorem pays_fits (hsy : Fits s sy) (L : List (List Int)) : Fits s (L.map (payL s sy)) := fun r hr => by
  obtain ⟨x, -, rfl⟩ := List.mem_map.1 hr
  exact ⟨(payL_spec hsy x).1, (payL_spec hsy x).2.1⟩
end
def isIn (C : List (List Int)) (i : Nat) : Bool := hasB (C.take i) (C.getD i [])
def newTo (C : List (List Int)) : Nat → List (List Int)
  | 0 => []
  | i + 1 => if isIn C i = true then newTo C i else newTo C i ++ [C.getD i []]
section
variable {g : Nat} {C : List (List Int)}
theorem take_snoc {i : Nat} (h : i < C.length) : C.take (i + 1) = C.take i ++ [C.getD i []] := by
  rw [List.take_add_one, List.getElem?_eq_getElem h, Option.toList_some, List.getD_eq_getElem?_getD, List.getElem?_eq_getElem h]; rfl
theorem take_fits (hC : Fits g C) (i : Nat) : Fits g (C.take i) := fun r hr => hC r (List.mem_of_mem_take hr)
theorem isIn_iff (hC : Fits g C) {i : Nat} (h : i < C.length) : isIn C i = true ↔ Sp (vecs (C.take i)) (vec (C.getD i [])) := hasB_iff (take_fits hC i) (getD_fits hC h)
theorem rk_next (hC : Fits g C) {i : Nat} (h : i < C.length) : rk g (vecs (C.take (i + 1))) = if isIn C i = true then rk g (vecs (C.take i)) else rk g (vecs (C.take i)) + 1 := by
  have hs := vecs_supp (take_fits hC i)
  have hv : Supp g (vec (C.getD i [])) := by have := vec_supp (C.getD i []); rwa [(getD_fits hC h).1] at this
  have e : vecs (C.take (i + 1)) = vecs (C.take i) ++ [vec (C.getD i [])] := by rw [take_snoc h, vecs_append']; rfl
  rw [e]
  by_cases q : isIn C i = true
  · rw [if_pos q]
    have h1 : AllSupp g [vec (C.getD i [])] := fun x hx => by rw [List.mem_singleton.1 hx]; exact hv
    exact rk_congr hs ((SpLe.append (fun _ k => k) (SpLe.of_mem fun x hx => by rw [List.mem_singleton.1 hx]; exact (isIn_iff hC h).1 q)).eq (SpLe.left _ _))
  · rw [if_neg q]
    exact rkb_snoc hs hv fun k => q ((isIn_iff hC h).2 k)
theorem newTo_spec (hC : Fits g C) : ∀ i, i ≤ C.length → Fits g (newTo C i) ∧ SpEq (vecs (newTo C i)) (vecs (C.take i)) ∧ (newTo C i).length = rk g (vecs (C.take i))
  | 0, _ => by
    refine ⟨fun r hr => (by cases hr), by rw [List.take_zero]; exact SpEq.refl _, ?_⟩
    have := rk_le_length (n := g) (l := vecs (C.take 0)) (vecs_supp (take_fits hC 0))
    rw [vecs_length, List.take_zero] at this
    show 0 = _
    rw [List.take_zero]
    simp at this
    omega
  | i + 1, h => by
    obtain ⟨h1, h2, h3⟩ := newTo_spec hC i (by omega)
    have hi : i < C.length := h
    rw [rk_next hC hi]
    show Fits g (if isIn C i = true then newTo C i else newTo C i ++ [C.getD i []]) ∧ _
    have e : vecs (C.take (i + 1)) = vecs (C.take i) ++ vecs [C.getD i []] := by rw [take_snoc hi, vecs_append']
    by_cases q : isIn C i = true
    · have hn : newTo C (i + 1) = newTo C i := by show (if _ then _ else _) = _; rw [if_pos q]
      rw [if_pos q, if_pos q, hn, e]
      refine ⟨h1, h2.trans ?_, h3⟩
      exact (SpLe.left _ _).eq (SpLe.append (fun _ k => k) (SpLe.of_mem fun x hx => by
        have : x = vec (C.getD i []) := by simpa [vecs] using hx
        rw [this]; exact (isIn_iff hC hi).1 q))
    · have hn : newTo C (i + 1) = newTo C i ++ [C.getD i []] := by show (if _ then _ else _) = _; rw [if_neg q]
      rw [if_neg q, if_neg q, hn, e]
      refine ⟨fun r hr => (List.mem_append.1 hr).elim (h1 r) (fun k => by rw [List.mem_singleton.1 k]; exact getD_fits hC hi), ?_, by rw [List.length_append, h3]; rfl⟩
      rw [vecs_append']
      exact SpEq.append h2 (SpEq.refl _)
theorem newTo_le (hC : Fits g C) {i : Nat} (h : i ≤ C.length) : (newTo C i).length ≤ g := by
  rw [(newTo_spec hC i h).2.2]
  exact rk_le_cols (vecs_supp (take_fits hC i))
theorem newTo_stop (hC : Fits g C) {i : Nat} (hg : (newTo C i).length = g) : ∀ d, i + d ≤ C.length → newTo C (i + d) = newTo C i
  | 0, _ => rfl
  | d + 1, h => by
    have ih := newTo_stop hC hg d (by omega)
    have hl := newTo_le hC (i := i + d + 1) (by omega)
    show newTo C (i + d + 1) = _
    have e : newTo C (i + d + 1) = if isIn C (i + d) = true then newTo C (i + d) else newTo C (i + d) ++ [C.getD (i + d) []] := rfl
    by_cases q : isIn C (i + d) = true
    · rw [e, if_pos q, ih]
    · rw [e, if_neg q, List.length_append, ih, hg, List.length_singleton] at hl
      omega
end
end Go.Proofs.Ytpfaaljmefgpbaa.Plain
end
