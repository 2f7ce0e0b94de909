/- Plain: what Combine, Mul, Identity and shaped tell. -/
import Derived.Test.YthlgmmgdaciinaaInvPlain
import Derived.Test.YthlgmmgdaciinaaP2
import Derived.Test.YthlgmmgdaciinaaP2
import Derived.Test.YthlgmmgdaciinaaP1
import Derived.Test.YthlgmmgdaciinaaP1
import Derived.Test.YthlgmmgdaciinaaP3
/-! Plain: what the kernel computes. -/
namespace Go.Proofs.Ythlgmmgdaciinaa.Plain
open Go.Proofs.Ythlgmmgdaciinaa.Hand Go.Proofs.Ythlgmmgdaciinaa.GF Go.Proofs.Ythlgmmgdaciinaa.LA Go.RowKit Go.Proofs.Ythlgmmgdaciinaa.P Go.Proofs.YthlgmmgdaciinaaW.PrintWords Go.Proofs.YthlgmmgdaciinaaW.PrintLast

def identRows (n : Nat) : List (List Int) := (List.range n).map (unitRow n)
theorem wakes_ok (k : Nat) : braidworklaw06_wakes.f (k + 8) = some true := by kernel_rfl
theorem ident1 (k : Nat) : matrix_Identity.f (k + 9) 1 = some (identRows 1, 0) := by kernel_rfl
theorem ident2 (k : Nat) : matrix_Identity.f (k + 9) 2 = some (identRows 2, 0) := by kernel_rfl
theorem ident3 (k : Nat) : matrix_Identity.f (k + 9) 3 = some (identRows 3, 0) := by kernel_rfl
theorem ident4 (k : Nat) : matrix_Identity.f (k + 9) 4 = some (identRows 4, 0) := by kernel_rfl
theorem ident5 (k : Nat) : matrix_Identity.f (k + 9) 5 = some (identRows 5, 0) := by kernel_rfl
theorem ident6 (k : Nat) : matrix_Identity.f (k + 9) 6 = some (identRows 6, 0) := by kernel_rfl
end Go.Proofs.Ythlgmmgdaciinaa.Plain

/-! Plain: what Combine, Mul, Identity and shaped tell. -/
namespace Go.Proofs.Ythlgmmgdaciinaa.Plain
open Go.Proofs.Ythlgmmgdaciinaa.Hand Go.Proofs.Ythlgmmgdaciinaa.GF Go.Proofs.Ythlgmmgdaciinaa.LA Go.RowKit Go.Proofs.Ythlgmmgdaciinaa.P Go.Proofs.YthlgmmgdaciinaaW.PrintWords Go.Proofs.YthlgmmgdaciinaaW.PrintLast

theorem comb_cons (v : V) (l : List V) (c : Nat → G) : comb (v :: l) c = va (vs (c 0) v) (comb l fun j => c (j + 1)) := funext fun k => by
  unfold comb va vs
  rw [List.length_cons, Nat.add_comm, S_append]
  congr 1
  · show 0#8 ^^^ _ = _
    rw [BitVec.zero_xor]; rfl
  · exact S_congr fun i _ => by rw [Nat.add_comm]; rfl
theorem rd_L1_nat (l : List (List Int)) (i : Nat) (h : i < l.length) : rd_L1 l (i : Int) = l[i] := by
  unfold rd_L1; rw [Int.toNat_natCast, List.getD_eq_getElem?_getD, List.getElem?_eq_getElem h, Option.getD_some]
theorem rd_L1_getD (l : List (List Int)) (i : Nat) : rd_L1 l (i : Int) = l.getD i [] := by
  unfold rd_L1; rw [Int.toNat_natCast]
theorem rd_at (l : List Int) (i : Nat) (h : i < l.length) : rd l (i : Int) = l[i] := by
  rw [rd_nat, List.getD_eq_getElem?_getD, List.getElem?_eq_getElem h, Option.getD_some]
theorem combine_loop {n : Nat} (l : List (List Int)) (c : List Int) (hr : ∀ r ∈ l, r.length = n ∧ areB r) (hc : c.length = l.length) (hB : areB c) (hn : n ≤ vN) (hl : l.length < 9223372036854775807) (d : Nat) :
    ∀ (i k : Nat) (acc : List Int), acc.length = n → areB acc → i + d = l.length → d < k →
      ∃ out, vector_Combine.l0 k l c acc (l.length : Int) i = some (out, 0) ∧ out.length = n ∧ areB out ∧ vec out = va (vec acc) (comb ((l.drop i).map vec) fun j => vec c (i + j)) := by
  induction d with
  | zero =>
    intro i k acc h1 h2 h3 h4
    obtain ⟨k, rfl⟩ : ∃ m, k = m + 1 := ⟨k - 1, by omega⟩
    refine ⟨acc, ?_, h1, h2, ?_⟩
    · simp only [vector_Combine.l0]
      rw [if_neg (by omega)]
    · rw [List.drop_of_length_le (by omega)]
      exact (va_zero _).symm
  | succ d ih =>
    intro i k acc h1 h2 h3 h4
    obtain ⟨k, rfl⟩ : ∃ m, k = m + 1 := ⟨k - 1, by omega⟩
    have hi : i < l.length := by omega
    have hri := hr _ (List.getElem_mem hi)
    have hci := hB _ (List.getElem_mem (show i < c.length by omega))
    have hz : acc.length = (l[i]).length := by omega
    have ha : vector_AddScaled.f acc l[i] (c[i]'(by omega)) = some (List.zipWith (fun x y => xr x (gm y (c[i]'(by omega)))) acc l[i], 0) := by
      unfold vector_AddScaled.f
      rw [if_pos hz, if_pos ⟨by omega, hri.2, hci⟩]
    obtain ⟨out, g1, g2, g3, g4⟩ := ih (i + 1) k _ (show (List.zipWith (fun x y => xr x (gm y (c[i]'(by omega)))) acc l[i]).length = n by rw [List.length_zipWith]; omega) (areB_zip _ (fun x y => xr_B _ _) _ _) (by omega) (by omega)
    refine ⟨out, ?_, g2, g3, ?_⟩
    · simp only [vector_Combine.l0]
      rw [if_pos (by omega), if_pos (by omega), if_pos (by omega), if_pos (by omega), rd_L1_nat l i hi, rd_at c i (by omega), ha, Option.bind_some, if_pos rfl, show wrap64 ((i : Int) + 1) = ((i + 1 : Nat) : Int) from by unfold wrap64; omega]
      exact g1
    · rw [g4, vec_addScaled hz, List.drop_eq_getElem_cons hi, List.map_cons, comb_cons, va_assoc]
      congr 2
      · rw [Nat.add_zero, vec_lt (by omega)]
      · rw [show (fun j => vec c (i + 1 + j)) = fun j => vec c (i + (j + 1)) from funext fun j => by rw [show i + 1 + j = i + (j + 1) from by omega]]
/-- what Combine makes of rows that fit -/
theorem combine_f {n : Nat} (l : List (List Int)) (c : List Int) (hr : Fits n l) (h0 : 0 < l.length) (hc : c.length = l.length) (hB : areB c) (hn : n ≤ vN) (hl : l.length < 9223372036854775807) (k : Nat) (hk : l.length < k) :
    ∃ out, vector_Combine.f k l c = some (out, 0) ∧ out.length = n ∧ areB out ∧ vec out = comb (vecs l) (vec c) := by
  obtain ⟨out, g1, g2, g3, g4⟩ := combine_loop l c hr hc hB hn hl l.length 0 k (List.replicate n 0) (by simp) (areB_zeros n) (by omega) hk
  refine ⟨out, ?_, g2, g3, ?_⟩
  · have hz : (rd_L1 l 0).length = n := by
      rw [show (0 : Int) = ((0 : Nat) : Int) from rfl, rd_L1_nat l 0 h0]
      exact (hr _ (List.getElem_mem h0)).1
    unfold vector_Combine.f
    unfold vN at hn
    rw [if_neg (by omega), if_pos (by omega), if_pos (by omega), if_pos (by omega), hz, if_pos (by omega), Int.toNat_natCast]
    exact g1
  · rw [g4, List.drop_zero, vec_zeros, va_comm, va_zero]
    congr 1
    funext j
    rw [Nat.zero_add]
/-- a row fits -/
def Fit1 (c : Nat) (r : List Int) : Prop := r.length = c ∧ areB r
theorem fits_of {c : Nat} {L : List (List Int)} (h : ∀ j, j < L.length → Fit1 c (L.getD j [])) : Fits c L := fun r hr => by
  obtain ⟨j, hj, rfl⟩ := List.mem_iff_getElem.1 hr
  have := h j hj
  rw [List.getD_eq_getElem?_getD, List.getElem?_eq_getElem hj] at this
  exact this
theorem mul_loop {m c : Nat} (A B : List (List Int)) (hA : Fits m A) (hB : Fits c B) (hBl : B.length = m) (hm : 0 < m) (hc : c ≤ vN) (hAl : A.length < 1000000000) (hml : m < 1000000000) (d : Nat) :
    ∀ (i k : Nat) (x : List (List Int)), i + d = A.length → d + m + 1 < k → x.length = A.length → (∀ j, j < i → Fit1 c (x.getD j []) ∧ vec (x.getD j []) = comb (vecs B) (vec (A.getD j []))) →
      ∃ C, matrix_Mul.l0 k A B x (A.length : Int) i = some (C, 0) ∧ C.length = A.length ∧ ∀ j, j < A.length → Fit1 c (C.getD j []) ∧ vec (C.getD j []) = comb (vecs B) (vec (A.getD j [])) := by
  induction d with
  | zero =>
    intro i k x h1 h2 h3 h4
    obtain ⟨k, rfl⟩ : ∃ m, k = m + 1 := ⟨k - 1, by omega⟩
    refine ⟨x, ?_, h3, fun j hj => h4 j (by omega)⟩
    simp only [matrix_Mul.l0]
    rw [if_neg (by omega)]
  | succ d ih =>
    intro i k x h1 h2 h3 h4
    obtain ⟨k, rfl⟩ : ∃ m, k = m + 1 := ⟨k - 1, by omega⟩
    have hi : i < A.length := by omega
    have hAi := getD_fits hA hi
    obtain ⟨out, g1, g2, g3, g4⟩ := combine_f B (A.getD i []) hB (by omega) (by rw [hAi.1, hBl]) hAi.2 hc (by omega) k (by omega)
    obtain ⟨C, c1, c2, c3⟩ := ih (i + 1) k (x.set i out) (by omega) (by omega) (by rw [List.length_set]; exact h3) (fun j hj => by
      rw [getD_set _ _ _ _ (by omega)]
      by_cases e : j = i
      · rw [if_pos e, e]; exact ⟨⟨g2, g3⟩, g4⟩
      · rw [if_neg e]; exact h4 j (by omega))
    refine ⟨C, ?_, c2, c3⟩
    simp only [matrix_Mul.l0]
    rw [if_pos (by omega), if_pos (by omega), if_pos (by omega), rd_L1_getD, g1, Option.bind_some, if_pos (by omega), Int.toNat_natCast, show wrap64 ((i : Int) + 1) = ((i + 1 : Nat) : Int) from by unfold wrap64; omega]
    exact c1
theorem size_f {n : Nat} {L : List (List Int)} (hL : Fits n L) (hp : 0 < L.length) (hl : L.length < 1000000000) : matrix_Size.f L = some ((L.length : Int), (n : Int), 0) := by
  rw [size_ok L hl (any_len hL), width hL hp]
/-- what Mul makes of matrices that fit -/
theorem mul_f {m c : Nat} (A B : List (List Int)) (hA : Fits m A) (hB : Fits c B) (hBl : B.length = m) (hm : 0 < m) (hc : c ≤ vN) (hAp : 0 < A.length) (hAl : A.length < 1000000000) (hml : m < 1000000000) (k : Nat) (hk : A.length + m + 3 < k) :
    ∃ C, matrix_Mul.f k A B = some (C, 0) ∧ C.length = A.length ∧ Fits c C ∧ vecs C = prod (vecs A) (vecs B) := by
  obtain ⟨k, rfl⟩ : ∃ m, k = m + 1 := ⟨k - 1, by omega⟩
  obtain ⟨C, c1, c2, c3⟩ := mul_loop A B hA hB hBl hm hc hAl hml A.length 0 k (List.replicate A.length []) (by omega) (by omega) (by simp) (fun j hj => absurd hj (by omega))
  refine ⟨C, ?_, c2, fits_of fun j hj => (c3 j (by omega)).1, ?_⟩
  · unfold matrix_Mul.f
    rw [size_f hA hAp hAl, Option.bind_some, size_f hB (by omega) (by omega), Option.bind_some, if_pos rfl, if_pos rfl, hBl]
    simp only [matrix_Mul.j0]
    rw [if_neg (by simp), if_pos (by omega), if_pos (by omega), Option.bind_some, Int.toNat_natCast, List.length_replicate]
    exact c1
  · refine ext_rows (by rw [prod_length, vecs_length, vecs_length, c2]) fun j hj => ?_
    rw [vecs_length, c2] at hj
    rw [prod_row (by rw [vecs_length]; exact hj), vecs_row, vecs_row]
    exact (c3 j hj).2
theorem identRows_length (n : Nat) : (identRows n).length = n := by simp [identRows]
theorem identRows_fits (n : Nat) : Fits n (identRows n) := fun r hr => by
  obtain ⟨i, _, rfl⟩ := List.mem_map.1 hr
  exact ⟨unitRow_length _ _, unitRow_B _ _⟩
theorem identRows_vecs (n : Nat) : vecs (identRows n) = ident n := by
  unfold vecs identRows ident
  rw [List.map_map]
  refine List.map_congr_left fun i hi => ?_
  exact vec_unit (List.mem_range.1 hi)
theorem ident_f (n k : Nat) (h1 : 1 ≤ n) (h6 : n ≤ 6) : matrix_Identity.f (k + 9) (n : Int) = some (identRows n, 0) := by
  have : n = 1 ∨ n = 2 ∨ n = 3 ∨ n = 4 ∨ n = 5 ∨ n = 6 := by omega
  rcases this with rfl | rfl | rfl | rfl | rfl | rfl
  · exact ident1 k
  · exact ident2 k
  · exact ident3 k
  · exact ident4 k
  · exact ident5 k
  · exact ident6 k
theorem next_ok (c : Nat) (hc : c ≤ 6) : wrap64 ((c : Int) + 1) = ((c + 1 : Nat) : Int) := by unfold wrap64; omega
theorem idx_ok (z c : Nat) (hz : z ≤ 36) (hc : c ≤ 6) : wrap64 (wrap64 ((z : Nat) : Int) + (c : Int)) = ((z + c : Nat) : Int) := by
  have h : wrap64 ((z : Nat) : Int) = (z : Int) := by unfold wrap64; omega
  rw [h]
  unfold wrap64; omega
theorem rd_B {b : List Int} (hb : areB b) (i : Int) : isB (rd b i) := by
  unfold rd
  rw [List.getD_eq_getElem?_getD]
  cases h : b[i.toNat]? with
  | none => exact ⟨by decide, by decide⟩
  | some x => exact hb x (List.mem_of_getElem? h)
/-- the rows ahead of i fit -/
def Pre (rows cols : Nat) (x : List (List Int)) (i : Nat) : Prop := x.length = rows ∧ ∀ j, j < i → Fit1 cols (x.getD j [])
theorem Pre.set {rows cols : Nat} {x : List (List Int)} {i : Nat} (h : Pre rows cols x i) (hi : i < rows) {r : List Int} (hr : Fit1 cols r) : Pre rows cols (x.set i r) (i + 1) := ⟨by rw [List.length_set]; exact h.1, fun j hj => by
  rw [getD_set _ _ _ _ (by rw [h.1]; exact hi)]
  by_cases e : j = i
  · rw [if_pos e]; exact hr
  · rw [if_neg e]; exact h.2 j (by omega)⟩
theorem shaped_loop (b : List Int) (hb : areB b) (rows cols : Nat) (hr : rows ≤ 6) (hc : cols ≤ 6) (d : Nat) :
    ∀ (i k : Nat) (x : List (List Int)), i + d = rows → d * (cols + 3) < k → Pre rows cols x i → ∃ X, braidworklaw06_shaped.l0 k b rows cols x i = some X ∧ X.length = rows ∧ Fits cols X := by
  induction d with
  | zero =>
    intro i k x h1 h2 h3
    obtain ⟨k, rfl⟩ : ∃ m, k = m + 1 := ⟨k - 1, by omega⟩
    refine ⟨x, ?_, h3.1, fits_of fun j hj => h3.2 j (by rw [h3.1] at hj; omega)⟩
    simp only [braidworklaw06_shaped.l0]
    rw [if_neg (by omega)]
  | succ d ih =>
    intro i k x h1 h2 h3
    have hi : i < rows := by omega
    have hw : wrap64 ((i : Int) + 1) = ((i + 1 : Nat) : Int) := next_ok i (by omega)
    rw [Nat.succ_mul] at h2
    generalize d * (cols + 3) = D at ih h2
    have hi1 : i + 1 + d = rows := by omega
    have hi6 : i ≤ 6 := by omega
    have inner : ∀ (m c k : Nat) (x : List (List Int)), c + m = cols → m + 1 + D < k → Pre rows cols x (i + 1) → ∃ X, braidworklaw06_shaped.l1 k b rows cols x i c = some X ∧ X.length = rows ∧ Fits cols X := by
      intro m
      induction m with
      | zero =>
        intro c k x h1 h2 h3
        obtain ⟨k, rfl⟩ : ∃ m, k = m + 1 := ⟨k - 1, by omega⟩
        have n1 : ¬ (c : Int) < (cols : Int) := by omega
        obtain ⟨X, g⟩ := ih (i + 1) k x hi1 (by omega) h3
        refine ⟨X, ?_, g.2⟩
        simp only [braidworklaw06_shaped.l1]
        rw [if_neg n1, hw]
        exact g.1
      | succ m ihm =>
        intro c k x h1 h2 h3
        obtain ⟨k, rfl⟩ : ∃ m, k = m + 1 := ⟨k - 1, by omega⟩
        have a1 : c + 1 + m = cols := by omega
        have a2 : m + 1 + D < k := by omega
        have a3 : D < k := by omega
        have a4 : c ≤ 6 := by omega
        have a5 : c < cols := by omega
        have hic : i * cols ≤ 36 := Nat.mul_le_mul hi6 hc
        have e1 : wrap64 (wrap64 ((i : Int) * (cols : Int)) + (c : Int)) = ((i * cols + c : Nat) : Int) := by
          rw [show (i : Int) * (cols : Int) = ((i * cols : Nat) : Int) from by rw [Int.natCast_mul]]
          exact idx_ok _ _ hic a4
        simp only [braidworklaw06_shaped.l1]
        have f0 : (c : Int) < (cols : Int) := Int.ofNat_lt.2 a5
        rw [e1, if_pos f0]
        by_cases hx : ((i * cols + c : Nat) : Int) < (b.length : Int)
        · have hxi := h3.2 i (Nat.lt_succ_self i)
          have f1 : (0 : Int) ≤ (i : Int) := Int.natCast_nonneg _
          have f2 : (i : Int) < (x.length : Int) := by rw [h3.1]; exact Int.ofNat_lt.2 hi
          have f3 : (0 : Int) ≤ ((i * cols + c : Nat) : Int) := Int.natCast_nonneg _
          have f4 : (0 : Int) ≤ (c : Int) := Int.natCast_nonneg _
          have f5 : (c : Int) < ((rd_L1 x (i : Int)).length : Int) := by rw [rd_L1_getD, hxi.1]; exact Int.ofNat_lt.2 a5
          rw [if_pos hx, if_pos f1, if_pos f2, if_pos f3, if_pos f4, if_pos f5, next_ok c a4, rd_L1_getD]
          exact ihm (c + 1) k _ a1 a2 (Pre.set (i := i) ⟨h3.1, fun j hj => h3.2 j (Nat.lt_succ_of_lt hj)⟩ hi ⟨by rw [List.length_set]; exact hxi.1, areB_set hxi.2 _ (rd_B hb _)⟩)
        · rw [if_neg hx, hw]
          exact ih (i + 1) k x hi1 a3 h3
    obtain ⟨k, rfl⟩ : ∃ m, k = m + 1 := ⟨k - 1, by omega⟩
    have b1 : cols + 1 + D < k := by omega
    have f1 : (i : Int) < (rows : Int) := Int.ofNat_lt.2 hi
    have f2 : (0 : Int) ≤ (cols : Int) := Int.natCast_nonneg _
    have f3 : (cols : Int).toNat ≤ 281474976710656 := by rw [Int.toNat_natCast]; exact Nat.le_trans hc (by decide)
    have f4 : (0 : Int) ≤ (i : Int) := Int.natCast_nonneg _
    have f5 : (i : Int) < (x.length : Int) := by rw [h3.1]; exact Int.ofNat_lt.2 hi
    simp only [braidworklaw06_shaped.l0]
    rw [if_pos f1, if_pos f2, if_pos f3, if_pos f4, if_pos f5, Int.toNat_natCast, Int.toNat_natCast]
    exact inner cols 0 k _ (Nat.zero_add _) b1 (h3.set hi ⟨List.length_replicate, areB_zeros _⟩)
theorem shaped_f (b : List Int) (hb : areB b) (rows cols : Nat) (hr : rows ≤ 6) (hc : cols ≤ 6) (k : Nat) (hk : 60 < k) : ∃ X, braidworklaw06_shaped.f k b rows cols = some X ∧ X.length = rows ∧ Fits cols X := by
  have h0 : rows * (cols + 3) ≤ 54 := Nat.mul_le_mul hr (show cols + 3 ≤ 9 by omega)
  obtain ⟨X, g⟩ := shaped_loop b hb rows cols hr hc rows 0 k (List.replicate rows []) (by omega) (by omega) ⟨by simp, fun j hj => absurd hj (by omega)⟩
  refine ⟨X, ?_, g.2⟩
  unfold braidworklaw06_shaped.f
  rw [if_pos (by omega), if_pos (by omega), Int.toNat_natCast]
  exact g.1
theorem size_six (a : Int) (h0 : 0 ≤ a) : ∃ n : Nat, 1 ≤ n ∧ n ≤ 6 ∧ wrap64 (1 + (wrap64 (Int.tmod a 6))) = (n : Int) := by
  refine ⟨1 + (a % 6).toNat, by omega, by omega, ?_⟩
  rw [Int.tmod_eq_emod_of_nonneg h0]
  unfold wrap64; omega
theorem nonneg_of_wf {a : Int} (h : (Lit.int .u8 a).wf = true) : isB a := by
  have := areB_of_wf (l := [a]) (fun x hx => by rw [List.mem_singleton.1 hx]; exact h)
  exact this a (List.mem_singleton.2 rfl)
end Go.Proofs.Ythlgmmgdaciinaa.Plain
