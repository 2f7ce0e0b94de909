/- Plain: what Witness draws. -/
import Derived.Test.YthgpmneplpdeiaaPlSpan
namespace Go.Proofs.Ythgpmneplpdeiaa.Plain
open Go.Proofs.Ythgpmneplpdeiaa.Hand Go.Proofs.Ythgpmneplpdeiaa.GF Go.Proofs.Ythgpmneplpdeiaa.LA Go.RowKit Go.Proofs.Ythgpmneplpdeiaa.P Go.Proofs.YthgpmneplpdeiaaW.PrintWords Go.Proofs.YthgpmneplpdeiaaW.PrintLast
theorem comb_cons (v : V) (l : List V) (c : Nat → G) : comb (v :: l) c = va (vs (c 0) v) (comb l fun j => c (j + 1)) := funext fun k => by
  unfold comb va vs
  rw [List.length_cons, Nat.add_comm, S_append]
  congr 1
  · show 0#8 ^^^ _ = _
    rw [BitVec.zero_xor]; rfl
  · exact S_congr fun i _ => by rw [Nat.add_comm]; rfl
theorem rd_L1_nat (l : List (List Int)) (i : Nat) (h : i < l.length) : rd_L1 l (i : Int) = l[i] := by
  unfold rd_L1; rw [Int.toNat_natCast, List.getD_eq_getElem?_getD, List.getElem?_eq_getElem h, Option.getD_some]
theorem rd_L1_getD (l : List (List Int)) (i : Nat) : rd_L1 l (i : Int) = l.getD i [] := by
  unfold rd_L1; rw [Int.toNat_natCast]
theorem rd_at (l : List Int) (i : Nat) (h : i < l.length) : rd l (i : Int) = l[i] := by
  rw [rd_nat, List.getD_eq_getElem?_getD, List.getElem?_eq_getElem h, Option.getD_some]
theorem combine_loop {n : Nat} (l : List (List Int)) (c : List Int) (hr : ∀ r ∈ l, r.length = n ∧ areB r) (hc : c.length = l.length) (hB : areB c) (hn : n ≤ vN) (hl : l.length < 9223372036854775807) (d : Nat) :
    ∀ (i k : Nat) (acc : List Int), acc.length = n → areB acc → i + d = l.length → d < k →
      ∃ out, vector_Combine.l0 k l c acc (l.length : Int) i = some (out, 0) ∧ out.length = n ∧ areB out ∧ vec out = va (vec acc) (comb ((l.drop i).map vec) fun j => vec c (i + j)) := by
  induction d with
  | zero =>
    intro i k acc h1 h2 h3 h4
    obtain ⟨k, rfl⟩ : ∃ m, k = m + 1 := ⟨k - 1, by omega⟩
    refine ⟨acc, ?_, h1, h2, ?_⟩
    · simp only [vector_Combine.l0]
      rw [if_neg (by omega)]
    · rw [List.drop_of_length_le (by omega)]
      exact (va_zero _).symm
  | succ d ih =>
    intro i k acc h1 h2 h3 h4
    obtain ⟨k, rfl⟩ : ∃ m, k = m + 1 := ⟨k - 1, by omega⟩
    have hi : i < l.length := by omega
    have hri := hr _ (List.getElem_mem hi)
    have hci := hB _ (List.getElem_mem (show i < c.length by omega))
    have hz : acc.length = (l[i]).length := by omega
    have ha : vector_AddScaled.f acc l[i] (c[i]'(by omega)) = some (List.zipWith (fun x y => xr x (gm y (c[i]'(by omega)))) acc l[i], 0) := by
      unfold vector_AddScaled.f
      rw [if_pos hz, if_pos ⟨by omega, hri.2, hci⟩]
    obtain ⟨out, g1, g2, g3, g4⟩ := ih (i + 1) k _ (show (List.zipWith (fun x y => xr x (gm y (c[i]'(by omega)))) acc l[i]).length = n by rw [List.length_zipWith]; omega) (areB_zip _ (fun x y => xr_B _ _) _ _) (by omega) (by omega)
    refine ⟨out, ?_, g2, g3, ?_⟩
    · simp only [vector_Combine.l0]
      rw [if_pos (by omega), if_pos (by omega), if_pos (by omega), if_pos (by omega), rd_L1_nat l i hi, rd_at c i (by omega), ha, Option.bind_some, if_pos rfl, show wrap64 ((i : Int) + 1) = ((i + 1 : Nat) : Int) from by unfold wrap64; omega]
      exact g1
    · rw [g4, vec_addScaled hz, List.drop_eq_getElem_cons hi, List.map_cons, comb_cons, va_assoc]
      congr 2
      · rw [Nat.add_zero, vec_lt (by omega)]
      · rw [show (fun j => vec c (i + 1 + j)) = fun j => vec c (i + (j + 1)) from funext fun j => by rw [show i + 1 + j = i + (j + 1) from by omega]]
/-- what Combine makes of rows that fit -/
theorem combine_f {n : Nat} (l : List (List Int)) (c : List Int) (hr : Fits n l) (h0 : 0 < l.length) (hc : c.length = l.length) (hB : areB c) (hn : n ≤ vN) (hl : l.length < 9223372036854775807) (k : Nat) (hk : l.length < k) :
    ∃ out, vector_Combine.f k l c = some (out, 0) ∧ out.length = n ∧ areB out ∧ vec out = comb (vecs l) (vec c) := by
  obtain ⟨out, g1, g2, g3, g4⟩ := combine_loop l c hr hc hB hn hl l.length 0 k (List.replicate n 0) (by simp) (areB_zeros n) (by omega) hk
  refine ⟨out, ?_, g2, g3, ?_⟩
  · have hz : (rd_L1 l 0).length = n := by
      rw [show (0 : Int) = ((0 : Nat) : Int) from rfl, rd_L1_nat l 0 h0]
      exact (hr _ (List.getElem_mem h0)).1
    unfold vector_Combine.f
    unfold vN at hn
    rw [if_neg (by omega), if_pos (by omega), if_pos (by omega), if_pos (by omega), hz, if_pos (by omega), Int.toNat_natCast]
    exact g1
  · rw [g4, List.drop_zero, vec_zeros, va_comm, va_zero]
    congr 1
    funext j
    rw [Nat.zero_add]
theorem rk_append {n : Nat} {l m : List V} (hl : AllSupp n l) (hm : AllSupp n m) : rk n (l ++ m) ≤ rk n l + rk n m := by
  obtain ⟨r, p, hr, e, _⟩ := exists_red n l hl
  obtain ⟨s, q, hs, e2, _⟩ := exists_red n m hm
  have hr2 := hl.of_le e.ge
  have hs2 := hm.of_le e2.ge
  rw [rk_eq hl hr e, rk_eq hm hs e2, rk_congr (hr2.append hs2) (SpEq.append e e2)]
  have := rk_le_length (hr2.append hs2)
  rwa [List.length_append] at this
/-- the sums, row by row -/
def sumRows (X Y : List (List Int)) : List (List Int) := List.zipWith (fun a b => List.zipWith xr a b) X Y
/-- the row that is cut, or filled up with noughts -/
def filled (l : List Int) (n : Nat) : List Int := l.take (min l.length n) ++ (List.replicate n (0 : Int)).drop (min l.length n)
theorem filled_length (l : List Int) (n : Nat) : (filled l n).length = n := by simp [filled]; omega
theorem filled_B {l : List Int} (h : areB l) (n : Nat) : areB (filled l n) := fun x hx => by
  rcases List.mem_append.1 hx with q | q
  · exact h x (List.mem_of_mem_take q)
  · exact areB_zeros n x (List.mem_of_mem_drop q)
/-- a row more that lies outside: the rank is one more -/
theorem rk_snoc {n : Nat} {l : List V} {v : V} (hl : AllSupp n l) (hv : Supp n v) (h : ¬ Sp l v) : rk n (l ++ [v]) = rk n l + 1 := by
  have h1 : AllSupp n [v] := fun x hx => by rw [List.mem_singleton.1 hx]; exact hv
  have h2 := rk_append hl h1
  have h3 := rk_le_length h1
  rw [List.length_singleton] at h3
  have h4 : ¬ rk n (l ++ [v]) ≤ rk n l := fun q => h ((eq_of_rk (hl.append h1) (SpLe.left _ _) q).ge _ (.mem (List.mem_append_right _ (List.mem_singleton.2 rfl))))
  omega
/-- a draw of one 1 -/
def oneAt (n i : Nat) : List Int := (List.replicate n (0 : Int)).set i 1
theorem oneAt_vec {n i : Nat} (h : i < n) : vec (oneAt n i) = unit i := by
  funext k
  unfold vec unit oneAt
  rw [List.getD_eq_getElem?_getD]
  by_cases e : k = i
  · subst e
    rw [if_pos rfl, List.getElem?_set_self (by rw [List.length_replicate]; exact h)]; rfl
  · rw [if_neg e, List.getElem?_set_ne (fun q => e q.symm), List.getElem?_replicate]
    by_cases q : k < n
    · rw [if_pos q]; rfl
    · rw [if_neg q]; rfl
/-- what Witness tells -/
theorem witness_f {n : Nat} {a b : List (List Int)} (ha : Small n a) (hb : Small n b) (hn : n < 1000) :
    (conB b a n = true ∧ span_Witness.f a b = some ([], false, 0)) ∨ (conB b a n = false ∧ ∃ i, ∃ h : i < a.length, span_Witness.f a b = some (oneAt a.length i, true, 0) ∧ ¬ Sp (vecs b) (vec a[i])) := by
  have hneg := outN_neg (R := redRows b n) (rows := a)
  have hc : conB b a n = decide (outN (redRows b n) a < 0) := hneg.symm
  unfold span_Witness.f
  rw [out_f ha hb hn, Option.bind_some, if_pos rfl]
  by_cases h : outN (redRows b n) a < 0
  · exact Or.inl ⟨by rw [hc, decide_eq_true h], by rw [if_pos h]⟩
  · refine Or.inr ⟨by rw [hc, decide_eq_false h], ?_⟩
    rw [if_neg h]
    unfold outN at h ⊢
    by_cases q : a.findIdx (fun v => !hasB (redRows b n) v) < a.length
    · rw [if_pos q]
      refine ⟨_, q, ?_, ?_⟩
      · have hl := ha.few
        rw [if_pos (Int.natCast_nonneg _), if_pos (by rw [Int.toNat_natCast]; omega), Option.bind_some, if_pos (Int.natCast_nonneg _), if_pos (by rw [List.length_replicate, Int.toNat_natCast]; exact Int.ofNat_lt.2 q), Int.toNat_natCast, Int.toNat_natCast]; rfl
      · have h1 := List.findIdx_getElem (w := q)
        intro hs
        have h2 := (hasB_red hb.fits (ha.fits _ (List.getElem_mem q))).2 hs
        rw [h2] at h1
        exact absurd h1 (by decide)
    · rw [if_neg q] at h
      exact absurd (by decide) h
/-- what the walk asks where nothing is new -/
theorem wit_plain {n : Nat} {a b : List (List Int)} (ha : Small n a) (hb : Small n b) (hn : n < 1000) (h0 : 0 < a.length) {draw : List Int} (hd : draw.length = a.length) (hB : areB draw) :
    ∃ any, vector_Combine.f 2000 a draw = some (any, 0) ∧ any.length = n ∧ areB any ∧ span_Has.f a any = some (true, 0) ∧ (conB b a n = true → span_Has.f b any = some (true, 0)) ∧ ∃ r, span_Has.f b any = some (r, 0) := by
  have hl := ha.few
  have hl2 := hb.few
  obtain ⟨any, g1, g2, g3, g4⟩ := combine_f a draw ha.fits h0 hd hB (by unfold vN; omega) (by omega) 2000 (by omega)
  have hsp : Sp (vecs a) (vec any) := by rw [g4]; exact comb_sp _ _
  refine ⟨any, g1, g2, g3, ?_, fun h => ?_, _, has_f hb.fits ⟨g2, g3⟩ (by omega) (by omega)⟩
  · rw [has_f ha.fits ⟨g2, g3⟩ (by omega) (by omega), (hasB_iff ha.fits ⟨g2, g3⟩).2 hsp]
  · rw [has_f hb.fits ⟨g2, g3⟩ (by omega) (by omega), (hasB_iff hb.fits ⟨g2, g3⟩).2 ((conB_iff hb.fits ha.fits).1 h _ hsp)]
/-- .. and where something is -/
theorem wit_new {n : Nat} {a b : List (List Int)} (ha : Small n a) (hb : Small n b) (hn : n < 1000) {i : Nat} (hi : i < a.length) (h : ¬ Sp (vecs b) (vec a[i])) :
    ∃ v, vector_Combine.f 2000 a (oneAt a.length i) = some (v, 0) ∧ v.length = n ∧ areB v ∧ span_Has.f b v = some (false, 0) ∧ matrix_Rank.f b = some (((rk n (vecs b) : Nat) : Int), 0) ∧ matrix_Rank.f (b ++ [v]) = some (((rk n (vecs b) + 1 : Nat) : Int), 0) ∧ rk n (vecs b) < 1000 := by
  have hl := ha.few
  have hl2 := hb.few
  obtain ⟨v, g1, g2, g3, g4⟩ := combine_f a (oneAt a.length i) ha.fits (by omega) (by unfold oneAt; rw [List.length_set, List.length_replicate]) (areB_set (areB_zeros _) i ⟨by decide, by decide⟩) (by unfold vN; omega) (by omega) 2000 (by omega)
  rw [oneAt_vec hi, comb_unit (by rw [vecs_length]; exact hi), vecs_row, List.getD_eq_getElem?_getD, List.getElem?_eq_getElem hi, Option.getD_some] at g4
  have hns : ¬ Sp (vecs b) (vec v) := by rw [g4]; exact h
  have hbv : Fits n (b ++ [v]) := fits_snoc hb.fits ⟨g2, g3⟩
  have hvv : vecs (b ++ [v]) = vecs b ++ [vec v] := by unfold vecs; rw [List.map_append]; rfl
  have hsv := vecs_supp hbv (vec v) (by rw [hvv]; exact List.mem_append_right _ (List.mem_singleton.2 rfl))
  refine ⟨v, g1, g2, g3, ?_, rank_f hb.fits (by omega) (by omega), ?_, ?_⟩
  · rw [has_f hb.fits ⟨g2, g3⟩ (by omega) (by omega)]
    cases q : hasB b v with
    | false => rfl
    | true => exact absurd ((hasB_iff hb.fits ⟨g2, g3⟩).1 q) hns
  · rw [rank_f hbv (by rw [List.length_append, List.length_singleton]; omega) (by omega), hvv, rk_snoc (vecs_supp hb.fits) hsv hns]
  · have := rk_le_cols (vecs_supp hb.fits); omega
end Go.Proofs.Ythgpmneplpdeiaa.Plain
