/- The walk of the law MatrixProducts. -/
import Derived.Test.YthlgmmgdaciinaaPlRanks
import Derived.Test.YthlgmmgdaciinaaP4
/-! Plain: products, transposes, ranks. -/
namespace Go.Proofs.Ythlgmmgdaciinaa.Plain
open Go.Proofs.Ythlgmmgdaciinaa.Hand Go.Proofs.Ythlgmmgdaciinaa.GF Go.Proofs.Ythlgmmgdaciinaa.LA Go.RowKit Go.Proofs.Ythlgmmgdaciinaa.P Go.Proofs.YthlgmmgdaciinaaW.PrintWords Go.Proofs.YthlgmmgdaciinaaW.PrintLast
def colOf (X : List (List Int)) (j : Nat) : List Int := (List.range X.length).map fun t => (X.getD t []).getD j 0
theorem colOf_length (X : List (List Int)) (j : Nat) : (colOf X j).length = X.length := by simp [colOf]
theorem colOf_B {c : Nat} {X : List (List Int)} (hX : Fits c X) (j : Nat) : areB (colOf X j) := fun x hx => by
  obtain ⟨t, ht, rfl⟩ := List.mem_map.1 hx
  have ht := List.mem_range.1 ht
  have := rd_B (getD_fits hX ht).2 (j : Int)
  unfold rd at this
  rwa [Int.toNat_natCast] at this
theorem colOf_at (X : List (List Int)) (j t : Nat) (h : t < X.length) : (colOf X j).getD t 0 = (X.getD t []).getD j 0 := by
  unfold colOf
  rw [List.getD_eq_getElem?_getD, List.getElem?_map, List.getElem?_range h]; rfl
theorem colOf_vec (X : List (List Int)) (j : Nat) : vec (colOf X j) = fun t => if t < X.length then row (vecs X) t j else 0#8 := funext fun t => by
  show toG ((colOf X j).getD t 0) = _
  by_cases h : t < X.length
  · rw [if_pos h, colOf_at X j t h, vecs_row]; rfl
  · rw [if_neg h, List.getD_eq_getElem?_getD, List.getElem?_eq_none (by rw [colOf_length]; omega)]; rfl
theorem colOf_ext {l : List Int} {X : List (List Int)} {i : Nat} (hl : l.length = X.length) (h : ∀ s, s < X.length → l.getD s 0 = (X.getD s []).getD i 0) : l = colOf X i := by
  refine List.ext_getElem (by rw [colOf_length, hl]) fun s h1 h2 => ?_
  have a := h s (by omega)
  rw [← colOf_at X i s (by omega), List.getD_eq_getElem?_getD, List.getD_eq_getElem?_getD, List.getElem?_eq_getElem h1, List.getElem?_eq_getElem h2] at a
  exact a
theorem getD_set1 (l : List Int) (t s : Nat) (v : Int) (ht : t < l.length) : (l.set t v).getD s 0 = if s = t then v else l.getD s 0 := by
  rw [List.getD_eq_getElem?_getD, List.getD_eq_getElem?_getD]
  by_cases e : s = t
  · subst e; rw [if_pos rfl, List.getElem?_set_self ht]; rfl
  · rw [if_neg e, List.getElem?_set_ne (fun q => e q.symm)]
theorem transpose_loop {cols : Nat} (X : List (List Int)) (hX : Fits cols X) (hr : X.length ≤ 6) (hc : cols ≤ 6) (d : Nat) :
    ∀ (i k : Nat) (x : List (List Int)), i + d = cols → d * (X.length + 3) < k → x.length = cols → (∀ j, j < i → x.getD j [] = colOf X j) → ∃ T, matrix_Transpose.l0 k X X.length x cols i = some (T, 0) ∧ T.length = cols ∧ ∀ j, j < cols → T.getD j [] = colOf X j := by
  induction d with
  | zero =>
    intro i k x h1 h2 h3 h4
    obtain ⟨k, rfl⟩ : ∃ m, k = m + 1 := ⟨k - 1, by omega⟩
    refine ⟨x, ?_, h3, fun j hj => h4 j (by omega)⟩
    simp only [matrix_Transpose.l0]
    rw [if_neg (by omega)]
  | succ d ih =>
    intro i k x h1 h2 h3 h4
    have hi : i < cols := by omega
    have hi1 : i + 1 + d = cols := by omega
    have hi6 : i ≤ 6 := by omega
    rw [Nat.succ_mul] at h2
    generalize d * (X.length + 3) = D at ih h2
    have inner : ∀ (m t k : Nat) (x : List (List Int)), t + m = X.length → m + 1 + D < k → x.length = cols → (∀ j, j < i → x.getD j [] = colOf X j) → (x.getD i []).length = X.length → (∀ s, s < t → (x.getD i []).getD s 0 = (X.getD s []).getD i 0) →
        ∃ T, matrix_Transpose.l1 k X X.length x i cols i X.length t = some (T, 0) ∧ T.length = cols ∧ ∀ j, j < cols → T.getD j [] = colOf X j := by
      intro m
      induction m with
      | zero =>
        intro t k x h1 h2 h3 h4 h5 h6
        obtain ⟨k, rfl⟩ : ∃ m, k = m + 1 := ⟨k - 1, by omega⟩
        have n1 : ¬ (t : Int) < (X.length : Int) := by omega
        have ht : t = X.length := by omega
        obtain ⟨T, g⟩ := ih (i + 1) k x hi1 (by omega) h3 (fun j hj => by
          by_cases e : j = i
          · rw [e]; exact colOf_ext h5 (fun s hs => h6 s (by omega))
          · exact h4 j (by omega))
        refine ⟨T, ?_, g.2⟩
        simp only [matrix_Transpose.l1]
        rw [if_neg n1, next_ok i hi6]
        exact g.1
      | succ m ihm =>
        intro t k x h1 h2 h3 h4 h5 h6
        obtain ⟨k, rfl⟩ : ∃ m, k = m + 1 := ⟨k - 1, by omega⟩
        have a1 : t + 1 + m = X.length := by omega
        have a2 : m + 1 + D < k := by omega
        have a4 : t ≤ 6 := by omega
        have a5 : t < X.length := by omega
        have hxt := getD_fits hX a5
        have f0 : (t : Int) < (X.length : Int) := Int.ofNat_lt.2 a5
        have f1 : (0 : Int) ≤ (i : Int) := Int.natCast_nonneg _
        have f2 : (i : Int) < (x.length : Int) := by rw [h3]; exact Int.ofNat_lt.2 hi
        have f3 : (0 : Int) ≤ (t : Int) := Int.natCast_nonneg _
        have f5 : (i : Int) < ((rd_L1 X (t : Int)).length : Int) := by rw [rd_L1_getD, hxt.1]; exact Int.ofNat_lt.2 hi
        have f6 : (t : Int) < ((rd_L1 x (i : Int)).length : Int) := by rw [rd_L1_getD, h5]; exact f0
        have e0 : rd (rd_L1 X (t : Int)) (i : Int) = (X.getD t []).getD i 0 := by rw [rd_L1_getD]; unfold rd; rw [Int.toNat_natCast]
        have hix : i < x.length := by rw [h3]; exact hi
        simp only [matrix_Transpose.l1]
        rw [if_pos f0, if_pos f1, if_pos f2, if_pos f3, if_pos f0, if_pos f5, if_pos f6, next_ok t a4, e0, rd_L1_getD, Int.toNat_natCast, Int.toNat_natCast]
        refine ihm (t + 1) k _ a1 a2 (by rw [List.length_set]; exact h3) (fun j hj => ?_) ?_ (fun s hs => ?_)
        · rw [getD_set _ _ _ _ hix, if_neg (by omega)]; exact h4 j hj
        · rw [getD_set _ _ _ _ hix, if_pos rfl, List.length_set]; exact h5
        · rw [getD_set _ _ _ _ hix, if_pos rfl, getD_set1 _ _ _ _ (by rw [h5]; exact a5)]
          by_cases e : s = t
          · rw [if_pos e, e]
          · rw [if_neg e]; exact h6 s (by omega)
    obtain ⟨k, rfl⟩ : ∃ m, k = m + 1 := ⟨k - 1, by omega⟩
    have b1 : X.length + 1 + D < k := by omega
    have f1 : (i : Int) < (cols : Int) := Int.ofNat_lt.2 hi
    have f2 : (0 : Int) ≤ (X.length : Int) := Int.natCast_nonneg _
    have f3 : (X.length : Int).toNat ≤ 281474976710656 := by rw [Int.toNat_natCast]; exact Nat.le_trans hr (by decide)
    have f4 : (0 : Int) ≤ (i : Int) := Int.natCast_nonneg _
    have f5 : (i : Int) < (x.length : Int) := by rw [h3]; exact f1
    have hix : i < x.length := by rw [h3]; exact hi
    simp only [matrix_Transpose.l0]
    rw [if_pos f1, if_pos f2, if_pos f3, if_pos f4, if_pos f5, Int.toNat_natCast, Int.toNat_natCast]
    refine inner X.length 0 k _ (Nat.zero_add _) b1 (by rw [List.length_set]; exact h3) (fun j hj => ?_) ?_ (fun s hs => absurd hs (by omega))
    · rw [getD_set _ _ _ _ hix, if_neg (by omega)]; exact h4 j hj
    · rw [getD_set _ _ _ _ hix, if_pos rfl]; exact List.length_replicate
theorem transpose_f {cols : Nat} (X : List (List Int)) (hX : Fits cols X) (hp : 0 < X.length) (hr : X.length ≤ 6) (hc : cols ≤ 6) (k : Nat) (hk : 60 < k) :
    ∃ T, matrix_Transpose.f k X = some (T, 0) ∧ T.length = cols ∧ Fits X.length T ∧ vecs T = tr cols (vecs X) := by
  have h0 : cols * (X.length + 3) ≤ 54 := Nat.mul_le_mul hc (show X.length + 3 ≤ 9 by omega)
  obtain ⟨T, g1, g2, g3⟩ := transpose_loop X hX hr hc cols 0 k (List.replicate cols []) (by omega) (by omega) (by simp) (fun j hj => absurd hj (by omega))
  refine ⟨T, ?_, g2, fits_of fun j hj => ?_, ?_⟩
  · unfold matrix_Transpose.f
    rw [size_f hX hp (by omega), Option.bind_some, if_pos rfl, if_pos (Int.natCast_nonneg _), if_pos (by rw [Int.toNat_natCast]; omega), Option.bind_some, Int.toNat_natCast, List.length_replicate]
    exact g1
  · rw [g2] at hj
    rw [g3 j hj]
    exact ⟨colOf_length X j, colOf_B hX j⟩
  · refine ext_rows (by rw [vecs_length, tr_length, g2]) fun j hj => ?_
    rw [vecs_length, g2] at hj
    rw [vecs_row, g3 j hj, tr_row hj, colOf_vec, vecs_length]
/-- all that is asked of three matrices -/
theorem products_plain (n0 n1 n2 n3 : Nat) (a0 : 1 ≤ n0 ∧ n0 ≤ 6) (a1 : 1 ≤ n1 ∧ n1 ≤ 6) (a2 : 1 ≤ n2 ∧ n2 ≤ 6) (a3 : 1 ≤ n3 ∧ n3 ≤ 6) (X Y Z : List (List Int)) (xl : X.length = n0) (xf : Fits n1 X) (yl : Y.length = n1) (yf : Fits n2 Y) (zl : Z.length = n2) (zf : Fits n3 Z) :
    ∃ xy yz l one tx ty txy, ∃ p q s : Nat, matrix_Mul.f 200 X Y = some (xy, 0) ∧ matrix_Mul.f 200 Y Z = some (yz, 0) ∧ matrix_Mul.f 200 xy Z = some (l, 0) ∧ matrix_Mul.f 200 X yz = some (l, 0) ∧ matrix_Same.f l l = some true ∧
      matrix_Identity.f 200 (n1 : Int) = some (one, 0) ∧ matrix_Mul.f 200 X one = some (X, 0) ∧ matrix_Mul.f 200 one Y = some (Y, 0) ∧ matrix_Same.f X X = some true ∧ matrix_Same.f Y Y = some true ∧
      matrix_Transpose.f 200 X = some (tx, 0) ∧ matrix_Transpose.f 200 Y = some (ty, 0) ∧ matrix_Mul.f 200 ty tx = some (txy, 0) ∧ matrix_Transpose.f 200 xy = some (txy, 0) ∧ matrix_Transpose.f 200 tx = some (X, 0) ∧ matrix_Same.f txy txy = some true ∧
      matrix_Rank.f X = some ((p : Int), 0) ∧ matrix_Rank.f Y = some ((q : Int), 0) ∧ matrix_Rank.f xy = some ((s : Int), 0) ∧ matrix_Rank.f tx = some ((p : Int), 0) ∧ s ≤ p ∧ s ≤ q ∧ p ≤ n0 ∧ p ≤ n1 := by
  have vok : ∀ n, n ≤ 6 → n ≤ vN := fun n h => Nat.le_trans h (by decide)
  have xs := vecs_supp xf
  have ys := vecs_supp yf
  have zs := vecs_supp zf
  obtain ⟨xy, m1, m2, m3, m4⟩ := mul_f X Y xf yf yl (by omega) (vok _ a2.2) (by omega) (by omega) (by omega) 200 (by omega)
  obtain ⟨yz, o1, o2, o3, o4⟩ := mul_f Y Z yf zf zl (by omega) (vok _ a3.2) (by omega) (by omega) (by omega) 200 (by omega)
  obtain ⟨l, l1, l2, l3, l4⟩ := mul_f xy Z m3 zf zl (by omega) (vok _ a3.2) (by omega) (by omega) (by omega) 200 (by omega)
  obtain ⟨r, r1, r2, r3, r4⟩ := mul_f X yz xf o3 (by omega) (by omega) (vok _ a3.2) (by omega) (by omega) (by omega) 200 (by omega)
  have hi := ident_f n1 191 a1.1 a1.2
  have hil := identRows_length n1
  have hif := identRows_fits n1
  have hiv := identRows_vecs n1
  obtain ⟨sm, s1, s2, s3, s4⟩ := mul_f X (identRows n1) xf hif hil (by omega) (vok _ a1.2) (by omega) (by omega) (by omega) 200 (by omega)
  obtain ⟨ag, g1, g2, g3, g4⟩ := mul_f (identRows n1) Y hif yf yl (by omega) (vok _ a2.2) (by omega) (by omega) (by omega) 200 (by omega)
  obtain ⟨tx, t1, t2, t3, t4⟩ := transpose_f X xf (by omega) (by omega) a1.2 200 (by omega)
  obtain ⟨ty, u1, u2, u3, u4⟩ := transpose_f Y yf (by omega) (by omega) a2.2 200 (by omega)
  rw [xl] at t3
  rw [yl] at u3
  obtain ⟨bk, b1, b2, b3, b4⟩ := mul_f ty tx u3 t3 t2 (by omega) (vok _ a0.2) (by omega) (by omega) (by omega) 200 (by omega)
  obtain ⟨txy, v1, v2, v3, v4⟩ := transpose_f xy m3 (by omega) (by omega) a2.2 200 (by omega)
  obtain ⟨ttx, w1, w2, w3, w4⟩ := transpose_f tx t3 (by omega) (by omega) a0.2 200 (by omega)
  rw [m2, xl] at v3
  rw [t2] at w3
  have e1 : r = l := vecs_inj r3 l3 (by rw [r4, l4, o4, m4, prod_assoc])
  have e2 : sm = X := vecs_inj s3 xf (by rw [s4, hiv, prod_ident xs])
  have e3 : ag = Y := vecs_inj g3 yf (by rw [g4, hiv, ← yl, ← vecs_length Y, ident_prod])
  have ey : (vecs Y).length = n1 := by rw [vecs_length, yl]
  have ex : (vecs X).length = n0 := by rw [vecs_length, xl]
  have e4 : bk = txy := vecs_inj b3 v3 (by
    rw [b4, v4, u4, t4, m4, ← ey]
    exact tr_prod (by rw [ey]; exact xs))
  have e5 : ttx = X := vecs_inj w3 xf (by rw [w4, t4, ← ex]; exact tr_tr xs)
  have big : ∀ n, n ≤ 6 → n < 140737488355328 := fun n h => Nat.lt_of_le_of_lt h (by decide)
  have hrk : rk n0 (vecs tx) = rk n1 (vecs X) := by rw [t4, ← ex]; exact rk_tr xs
  have f1 := rank_f xf (by omega) (big _ a1.2)
  have f2 := rank_f yf (by omega) (big _ a2.2)
  have f3 := rank_f m3 (by omega) (big _ a2.2)
  have f4 := rank_f t3 (by omega) (big _ a0.2)
  rw [hrk] at f4
  have d1 := rk_prod_left (A := vecs X) (B := vecs Y) xs ys
  have d2 := rk_prod_right (A := vecs X) (B := vecs Y) ys
  rw [← m4] at d1 d2
  have d3 := rk_le_length xs
  have d4 := rk_le_cols xs
  rw [ex] at d3
  subst e1 e2 e3 e4 e5
  refine ⟨xy, yz, r, identRows n1, tx, ty, bk, _, _, _, m1, o1, l1, r1, ?_, hi, s1, g1, ?_, ?_, t1, u1, b1, v1, w1, ?_, f1, f2, f3, f4, d1, d2, d3, d4⟩
  · rw [same_f r3 r3 (by omega), decide_eq_true rfl]
  · rw [same_f s3 s3 (by omega), decide_eq_true rfl]
  · rw [same_f g3 g3 (by omega), decide_eq_true rfl]
  · rw [same_f b3 b3 (by omega), decide_eq_true rfl]
end Go.Proofs.Ythlgmmgdaciinaa.Plain

/-! The walk of the law MatrixProducts. -/
set_option linter.unusedVariables false
set_option linter.unusedSimpArgs false
namespace Go.Proofs.Ythlgmmgdaciinaa.Plain
open Go.Proofs.Ythlgmmgdaciinaa.Hand Go.Proofs.Ythlgmmgdaciinaa.GF Go.Proofs.Ythlgmmgdaciinaa.LA Go.RowKit Go.Proofs.Ythlgmmgdaciinaa.P Go.Proofs.YthlgmmgdaciinaaW.PrintWords Go.Proofs.YthlgmmgdaciinaaW.PrintLast Go.Proofs.YthlgmmgdaciinaaW.PrintMore
attribute [local go_sem] max2_int min2_int max_two min_two
/-- the sizes that are laid so far -/
def laid (n0 n1 n2 n3 : Int) (i : Nat) : Array Value := #[.int .i64 (if 0 < i then n0 else 0), .int .i64 (if 1 < i then n1 else 0), .int .i64 (if 2 < i then n2 else 0), .int .i64 (if 3 < i then n3 else 0)]
theorem laid_set (n0 n1 n2 n3 : Int) (W : World) (B t : Nat) (i : Nat) (hi : i < 4) (v : Int) (hv : v = (if i = 0 then n0 else if i = 1 then n1 else if i = 2 then n2 else n3)) (h : W.heap[B]? = some (.cells (laid n0 n1 n2 n3 i) t (0, 0))) :
    (W.setCell ⟨B, i, none⟩ (.int .i64 v)).heap[B]? = some (.cells (laid n0 n1 n2 n3 (i + 1)) t (0, 0)) := by
  subst hv
  simp only [World.setCell, Array.getElem?_modify, if_true, h, Option.map_some]
  have : i = 0 ∨ i = 1 ∨ i = 2 ∨ i = 3 := by omega
  rcases this with rfl | rfl | rfl | rfl <;> simp [laid]
theorem two_blocks (w : World) (a b : Obj) : ((w.alloc a).alloc b).heap[w.heap.size]? = some a ∧ ((w.alloc a).alloc b).heap[w.heap.size + 1]? = some b := by
  constructor
  · show ((w.heap.push a).push b)[w.heap.size]? = some a
    simp [Array.getElem?_push]
  · show ((w.heap.push a).push b)[w.heap.size + 1]? = some b
    have e : (w.heap.push a).size = w.heap.size + 1 := by simp
    rw [← e]
    generalize w.heap.push a = h
    simp
set_option maxHeartbeats 4000000 in
set_option maxRecDepth 100000 in
theorem products_walk (A0 : Option Addr) (c0 : Nat) (l0 : List Int) (A1 : Option Addr) (c1 : Nat) (l1 : List Int) (A2 : Option Addr) (c2 : Nat) (l2 : List Int) (s0 s1 s2 s3 : Int) (w : World) (Hl0 : Aside0 (Kd.C (Kd.int .u8) w A0 l0.length l0)) (Cl0 : Aside0 (l0.length ≤ c0)) (Hl1 : Aside0 (Kd.C (Kd.int .u8) w A1 l1.length l1)) (Cl1 : Aside0 (l1.length ≤ c1)) (Hl2 : Aside0 (Kd.C (Kd.int .u8) w A2 l2.length l2)) (Cl2 : Aside0 (l2.length ≤ c2))
    (n0 n1 n2 n3 : Int) (h0 : wrap64 (1 + (wrap64 (Int.tmod s0 6))) = n0) (h1 : wrap64 (1 + (wrap64 (Int.tmod s1 6))) = n1) (h2 : wrap64 (1 + (wrap64 (Int.tmod s2 6))) = n2) (h3 : wrap64 (1 + (wrap64 (Int.tmod s3 6))) = n3)
    (X Y Z xy yz l one tx ty txy : List (List Int)) (p q s mn mn2 : Int) (FX : Aside0 (braidworklaw06_shaped.f 200 l0 n0 n1 = some X)) (FY : Aside0 (braidworklaw06_shaped.f 200 l1 n1 n2 = some Y)) (FZ : Aside0 (braidworklaw06_shaped.f 200 l2 n2 n3 = some Z))
    (M1 : Aside0 (matrix_Mul.f 200 X Y = some (xy, 0))) (M2 : Aside0 (matrix_Mul.f 200 Y Z = some (yz, 0))) (M3 : Aside0 (matrix_Mul.f 200 xy Z = some (l, 0))) (M4 : Aside0 (matrix_Mul.f 200 X yz = some (l, 0))) (S1 : Aside0 (matrix_Same.f l l = some true))
    (I1 : Aside0 (matrix_Identity.f 200 n1 = some (one, 0))) (M5 : Aside0 (matrix_Mul.f 200 X one = some (X, 0))) (M6 : Aside0 (matrix_Mul.f 200 one Y = some (Y, 0))) (S2 : Aside0 (matrix_Same.f X X = some true)) (S3 : Aside0 (matrix_Same.f Y Y = some true))
    (T1 : Aside0 (matrix_Transpose.f 200 X = some (tx, 0))) (T2 : Aside0 (matrix_Transpose.f 200 Y = some (ty, 0))) (M7 : Aside0 (matrix_Mul.f 200 ty tx = some (txy, 0))) (T3 : Aside0 (matrix_Transpose.f 200 xy = some (txy, 0))) (T4 : Aside0 (matrix_Transpose.f 200 tx = some (X, 0))) (S4 : Aside0 (matrix_Same.f txy txy = some true))
    (R1 : Aside0 (matrix_Rank.f X = some (p, 0))) (R2 : Aside0 (matrix_Rank.f Y = some (q, 0))) (R3 : Aside0 (matrix_Rank.f xy = some (s, 0))) (R4 : Aside0 (matrix_Rank.f tx = some (p, 0)))
    (hm : (if q < p then q else p) = mn) (hm2 : (if n1 < n0 then n1 else n0) = mn2) (d1 : (s ≤ mn) = True) (d2 : (p ≤ mn2) = True) :
    Calls Try.prog 9 #[.slice A0 l0.length c0, .slice A1 l1.length c1, .slice A2 l2.length c2, .agg #[.int .u8 s0, .int .u8 s1, .int .u8 s2, .int .u8 s3]] w fun e w' => e = .returned (.bool true) ∧ Below w.heap.size w w' := by
  go_enter Try.func9, Try.ntmps9
  go_wp2
  go_loopg [10] 4 (fun kq v10 w' => ∃ i : Nat, v10 = .int .i64 (i : Int) ∧ Aside0 (kq + i = 4) ∧ Aside0 (w'.heap[w.heap.size]? = some (.cells #[.int .u8 s0, .int .u8 s1, .int .u8 s2, .int .u8 s3] 59 (0, 0))) ∧ Aside0 (w'.heap[w.heap.size + 1]? = some (.cells (laid n0 n1 n2 n3 i) 60 (0, 0))) ∧ Aside0 (Below w.heap.size w w'))
  case atStart => exact ⟨0, rfl, ⟨rfl⟩, ⟨(two_blocks w _ _).1⟩, ⟨(two_blocks w _ _).2⟩, ⟨below_alloc (below_alloc (Below.refl _ _) _) _⟩⟩
  case round =>
    obtain ⟨i, rfl, HI, H1, H2, HB⟩ := hrel
    by_cases hi : i < 4
    · have : i = 0 ∨ i = 1 ∨ i = 2 ∨ i = 3 := by omega
      clear hi
      rcases this with rfl | rfl | rfl | rfl
      · have hx := show wr.cell? ⟨w.heap.size, 0, none⟩ = some (.int .u8 s0) from by simp [World.cell?, H1.out]
        have hz := show wr.frozen? ⟨w.heap.size + 1, 0, none⟩ = false from by simp [World.frozen?, H2.out]
        have hy := show wr.cell? ⟨w.heap.size + 1, 0, none⟩ = some (.int .i64 0) from by simp [World.cell?, H2.out, laid]
        cases gk with
        | zero => exact absurd HI.out (by decide)
        | succ k1 =>
          go_wp2
          go_roundg k1
          case measure => omega
          case rel => exact ⟨1, rfl, ⟨by have := HI.out; omega⟩, ⟨(Below.heap_setCell _ _ _ _ (show w.heap.size ≠ w.heap.size + 1 by omega)).trans H1.out⟩, ⟨laid_set n0 n1 n2 n3 wr _ _ 0 (by decide) n0 rfl H2.out⟩, ⟨HB.out.setCell (Nat.le_succ _) _⟩⟩
      · have hx := show wr.cell? ⟨w.heap.size, 1, none⟩ = some (.int .u8 s1) from by simp [World.cell?, H1.out]
        have hz := show wr.frozen? ⟨w.heap.size + 1, 1, none⟩ = false from by simp [World.frozen?, H2.out]
        have hy := show wr.cell? ⟨w.heap.size + 1, 1, none⟩ = some (.int .i64 0) from by simp [World.cell?, H2.out, laid]
        cases gk with
        | zero => exact absurd HI.out (by decide)
        | succ k1 =>
          go_wp2
          go_roundg k1
          case measure => omega
          case rel => exact ⟨2, rfl, ⟨by have := HI.out; omega⟩, ⟨(Below.heap_setCell _ _ _ _ (show w.heap.size ≠ w.heap.size + 1 by omega)).trans H1.out⟩, ⟨laid_set n0 n1 n2 n3 wr _ _ 1 (by decide) n1 rfl H2.out⟩, ⟨HB.out.setCell (Nat.le_succ _) _⟩⟩
      · have hx := show wr.cell? ⟨w.heap.size, 2, none⟩ = some (.int .u8 s2) from by simp [World.cell?, H1.out]
        have hz := show wr.frozen? ⟨w.heap.size + 1, 2, none⟩ = false from by simp [World.frozen?, H2.out]
        have hy := show wr.cell? ⟨w.heap.size + 1, 2, none⟩ = some (.int .i64 0) from by simp [World.cell?, H2.out, laid]
        cases gk with
        | zero => exact absurd HI.out (by decide)
        | succ k1 =>
          go_wp2
          go_roundg k1
          case measure => omega
          case rel => exact ⟨3, rfl, ⟨by have := HI.out; omega⟩, ⟨(Below.heap_setCell _ _ _ _ (show w.heap.size ≠ w.heap.size + 1 by omega)).trans H1.out⟩, ⟨laid_set n0 n1 n2 n3 wr _ _ 2 (by decide) n2 rfl H2.out⟩, ⟨HB.out.setCell (Nat.le_succ _) _⟩⟩
      · have hx := show wr.cell? ⟨w.heap.size, 3, none⟩ = some (.int .u8 s3) from by simp [World.cell?, H1.out]
        have hz := show wr.frozen? ⟨w.heap.size + 1, 3, none⟩ = false from by simp [World.frozen?, H2.out]
        have hy := show wr.cell? ⟨w.heap.size + 1, 3, none⟩ = some (.int .i64 0) from by simp [World.cell?, H2.out, laid]
        cases gk with
        | zero => exact absurd HI.out (by decide)
        | succ k1 =>
          go_wp2
          go_roundg k1
          case measure => omega
          case rel => exact ⟨4, rfl, ⟨by have := HI.out; omega⟩, ⟨(Below.heap_setCell _ _ _ _ (show w.heap.size ≠ w.heap.size + 1 by omega)).trans H1.out⟩, ⟨laid_set n0 n1 n2 n3 wr _ _ 3 (by decide) n3 rfl H2.out⟩, ⟨HB.out.setCell (Nat.le_succ _) _⟩⟩
    · have e : i = 4 := by have := HI.out; omega
      subst e
      have hc0 := show wr.cell? ⟨w.heap.size + 1, 0, none⟩ = some (.int .i64 n0) from by simp [World.cell?, H2.out, laid]
      have hc1 := show wr.cell? ⟨w.heap.size + 1, 1, none⟩ = some (.int .i64 n1) from by simp [World.cell?, H2.out, laid]
      have hc2 := show wr.cell? ⟨w.heap.size + 1, 2, none⟩ = some (.int .i64 n2) from by simp [World.cell?, H2.out, laid]
      have hc3 := show wr.cell? ⟨w.heap.size + 1, 3, none⟩ = some (.int .i64 n3) from by simp [World.cell?, H2.out, laid]
      clear H1 H2 HI hi
      go_wp2
      refine start_ (n := 21) (S := fun w' => w'.cell? ⟨w.heap.size + 1, 0, none⟩ = some (.int .i64 n0) ∧ w'.cell? ⟨w.heap.size + 1, 1, none⟩ = some (.int .i64 n1) ∧ w'.cell? ⟨w.heap.size + 1, 2, none⟩ = some (.int .i64 n2) ∧ w'.cell? ⟨w.heap.size + 1, 3, none⟩ = some (.int .i64 n3)) (ds := []) #[false, false, false, false, false, false, false, false, false, false, false, false, false, false, false, false, false, false, false, false, false] (by kernel_rfl) rfl rfl ⟨(by simpa using hc0), (by simpa using hc1), (by simpa using hc2), (by simpa using hc3)⟩ (fun hHeld => ?_)
      replace HB := Aside0.mk (below_drew HB.out)
      replace Hl0 := Aside0.mk (Kd.C_below Hl0.out HB.out)
      replace Hl1 := Aside0.mk (Kd.C_below Hl1.out HB.out)
      replace Hl2 := Aside0.mk (Kd.C_below Hl2.out HB.out)
      clear hc0 hc1 hc2 hc3
      generalize wr.drew = w4 at HB Hl0 Hl1 Hl2 hHeld ⊢
      refine pure_ (i := 0) (N := some 58) (v := ?_) (a' := ?_) #[true, false, false, false, false, false, false, false, false, false, false, false, false, false, false, false, false, false, false, false, false] rfl rfl (by kernel_rfl) (fun _ _ _ h => h) (Or.inl ⟨by rfl, ?_⟩) ?_ ?_
      rotate_left
      · intro w'
        go_simp
        with_reducible rfl
      rotate_left
      · simp only [Act.put, List.setIfInBounds_toArray, List.set_cons_zero, List.set_cons_succ, i64_w, i32_w]
        rfl
      refine pure_ (i := 1) (N := some 59) (v := ?_) (a' := ?_) #[true, true, false, false, false, false, false, false, false, false, false, false, false, false, false, false, false, false, false, false, false] rfl rfl (by kernel_rfl) (fun _ _ _ h => h) (Or.inl ⟨by rfl, ?_⟩) ?_ ?_
      rotate_left
      · intro w'
        go_simp
        with_reducible rfl
      rotate_left
      · simp only [Act.put, List.setIfInBounds_toArray, List.set_cons_zero, List.set_cons_succ, i64_w, i32_w]
        rfl
      refine pure_ (i := 3) (N := some 61) (v := ?_) (a' := ?_) #[true, true, false, true, false, false, false, false, false, false, false, false, false, false, false, false, false, false, false, false, false] rfl rfl (by kernel_rfl) (fun _ _ _ h => h) (Or.inl ⟨by rfl, ?_⟩) ?_ ?_
      rotate_left
      · intro w'
        go_simp
        with_reducible rfl
      rotate_left
      · simp only [Act.put, List.setIfInBounds_toArray, List.set_cons_zero, List.set_cons_succ, i64_w, i32_w]
        rfl
      refine pure_ (i := 6) (N := some 64) (v := ?_) (a' := ?_) #[true, true, false, true, false, false, true, false, false, false, false, false, false, false, false, false, false, false, false, false, false] rfl rfl (by kernel_rfl) (fun _ _ _ h => h) (Or.inl ⟨by rfl, ?_⟩) ?_ ?_
      rotate_left
      · intro w'
        go_simp
        with_reducible rfl
      rotate_left
      · simp only [Act.put, List.setIfInBounds_toArray, List.set_cons_zero, List.set_cons_succ, i64_w, i32_w]
        rfl
      refine pure_ (i := 7) (N := some 65) (v := ?_) (a' := ?_) #[true, true, false, true, false, false, true, true, false, false, false, false, false, false, false, false, false, false, false, false, false] rfl rfl (by kernel_rfl) (fun _ _ _ h => h) (Or.inl ⟨by rfl, ?_⟩) ?_ ?_
      rotate_left
      · intro w'
        go_simp
        with_reducible rfl
      rotate_left
      · simp only [Act.put, List.setIfInBounds_toArray, List.set_cons_zero, List.set_cons_succ, i64_w, i32_w]
        rfl
      refine pure_ (i := 9) (N := some 67) (v := ?_) (a' := ?_) #[true, true, false, true, false, false, true, true, false, true, false, false, false, false, false, false, false, false, false, false, false] rfl rfl (by kernel_rfl) (fun _ _ _ h => h) (Or.inl ⟨by rfl, ?_⟩) ?_ ?_
      rotate_left
      · intro w'
        go_simp
        with_reducible rfl
      rotate_left
      · simp only [Act.put, List.setIfInBounds_toArray, List.set_cons_zero, List.set_cons_succ, i64_w, i32_w]
        rfl
      refine pure_ (i := 12) (N := some 70) (v := ?_) (a' := ?_) #[true, true, false, true, false, false, true, true, false, true, false, false, true, false, false, false, false, false, false, false, false] rfl rfl (by kernel_rfl) (fun _ _ _ h => h) (Or.inl ⟨by rfl, ?_⟩) ?_ ?_
      rotate_left
      · intro w'
        go_simp
        with_reducible rfl
      rotate_left
      · simp only [Act.put, List.setIfInBounds_toArray, List.set_cons_zero, List.set_cons_succ, i64_w, i32_w]
        rfl
      refine pure_ (i := 13) (N := some 71) (v := ?_) (a' := ?_) #[true, true, false, true, false, false, true, true, false, true, false, false, true, true, false, false, false, false, false, false, false] rfl rfl (by kernel_rfl) (fun _ _ _ h => h) (Or.inl ⟨by rfl, ?_⟩) ?_ ?_
      rotate_left
      · intro w'
        go_simp
        with_reducible rfl
      rotate_left
      · simp only [Act.put, List.setIfInBounds_toArray, List.set_cons_zero, List.set_cons_succ, i64_w, i32_w]
        rfl
      refine pure_ (i := 15) (N := some 73) (v := ?_) (a' := ?_) #[true, true, false, true, false, false, true, true, false, true, false, false, true, true, false, true, false, false, false, false, false] rfl rfl (by kernel_rfl) (fun _ _ _ h => h) (Or.inl ⟨by rfl, ?_⟩) ?_ ?_
      rotate_left
      · intro w'
        go_simp
        with_reducible rfl
      rotate_left
      · simp only [Act.put, List.setIfInBounds_toArray, List.set_cons_zero, List.set_cons_succ, i64_w, i32_w]
        rfl
      refine take_ (i := 2) (N := some 60) (v := ?_) (a' := ?_) #[true, true, true, true, false, false, true, true, false, true, false, false, true, true, false, true, false, false, false, false, false] rfl rfl (by kernel_rfl) (fun _ _ _ h => h) (Or.inl ⟨by rfl, ?_⟩) hHeld ?_ ?_
      rotate_left
      · rintro w' ⟨s0, s1, s2, s3⟩
        go_simp
        with_reducible rfl
      rotate_left
      · simp only [Act.put, List.setIfInBounds_toArray, List.set_cons_zero, List.set_cons_succ, i64_w, i32_w]
        rfl
      refine take_ (i := 4) (N := some 62) (v := ?_) (a' := ?_) #[true, true, true, true, true, false, true, true, false, true, false, false, true, true, false, true, false, false, false, false, false] rfl rfl (by kernel_rfl) (fun _ _ _ h => h) (Or.inl ⟨by rfl, ?_⟩) hHeld ?_ ?_
      rotate_left
      · rintro w' ⟨s0, s1, s2, s3⟩
        go_simp
        with_reducible rfl
      rotate_left
      · simp only [Act.put, List.setIfInBounds_toArray, List.set_cons_zero, List.set_cons_succ, i64_w, i32_w]
        rfl
      refine take_ (i := 8) (N := some 66) (v := ?_) (a' := ?_) #[true, true, true, true, true, false, true, true, true, true, false, false, true, true, false, true, false, false, false, false, false] rfl rfl (by kernel_rfl) (fun _ _ _ h => h) (Or.inl ⟨by rfl, ?_⟩) hHeld ?_ ?_
      rotate_left
      · rintro w' ⟨s0, s1, s2, s3⟩
        go_simp
        with_reducible rfl
      rotate_left
      · simp only [Act.put, List.setIfInBounds_toArray, List.set_cons_zero, List.set_cons_succ, i64_w, i32_w]
        rfl
      refine take_ (i := 10) (N := some 68) (v := ?_) (a' := ?_) #[true, true, true, true, true, false, true, true, true, true, true, false, true, true, false, true, false, false, false, false, false] rfl rfl (by kernel_rfl) (fun _ _ _ h => h) (Or.inl ⟨by rfl, ?_⟩) hHeld ?_ ?_
      rotate_left
      · rintro w' ⟨s0, s1, s2, s3⟩
        go_simp
        with_reducible rfl
      rotate_left
      · simp only [Act.put, List.setIfInBounds_toArray, List.set_cons_zero, List.set_cons_succ, i64_w, i32_w]
        rfl
      refine take_ (i := 14) (N := some 72) (v := ?_) (a' := ?_) #[true, true, true, true, true, false, true, true, true, true, true, false, true, true, true, true, false, false, false, false, false] rfl rfl (by kernel_rfl) (fun _ _ _ h => h) (Or.inl ⟨by rfl, ?_⟩) hHeld ?_ ?_
      rotate_left
      · rintro w' ⟨s0, s1, s2, s3⟩
        go_simp
        with_reducible rfl
      rotate_left
      · simp only [Act.put, List.setIfInBounds_toArray, List.set_cons_zero, List.set_cons_succ, i64_w, i32_w]
        rfl
      refine take_ (i := 16) (N := some 74) (v := ?_) (a' := ?_) #[true, true, true, true, true, false, true, true, true, true, true, false, true, true, true, true, true, false, false, false, false] rfl rfl (by kernel_rfl) (fun _ _ _ h => h) (Or.inl ⟨by rfl, ?_⟩) hHeld ?_ ?_
      rotate_left
      · rintro w' ⟨s0, s1, s2, s3⟩
        go_simp
        with_reducible rfl
      rotate_left
      · simp only [Act.put, List.setIfInBounds_toArray, List.set_cons_zero, List.set_cons_succ, i64_w, i32_w]
        rfl
      refine one_ (i := 5) (N := some 63) #[true, true, true, true, true, true, true, true, true, true, true, false, true, true, true, true, true, false, false, false, false] rfl rfl (by kernel_rfl) (by decide) (fun K hK => ?_)
      refine goes_ Try.func10 (by kernel_rfl) rfl #[.slice A0 l0.length c0, .int .i64 n0, .int .i64 n1] (by rfl) rfl rfl (by simp only [List.map_toArray, List.map_cons, List.map_nil]; rfl) ?_
      with_reducible refine (braidworklaw06_shaped.calls 200 A0 c0 l0 n0 n1 X _ Hl0.out Cl0.out FX.out).mono ?_
      rintro e w' ⟨v_, rfl, ho_, hb⟩
      refine ⟨_, rfl, ?_⟩
      obtain ⟨AX, cX, rfl⟩ := Kd.S_slice ho_
      have HX := Aside0.mk (Kd.S_reads' ho_).2.2
      have CX := Aside0.mk (Kd.S_reads' ho_).2.1
      clear ho_
      replace Hl1 := Aside0.mk (Kd.C_below Hl1.out hb)
      replace Hl2 := Aside0.mk (Kd.C_below Hl2.out hb)
      replace HB := Aside0.mk (HB.out.trans (hb.mono HB.out.size))
      refine hK.out _ _ ⟨((hb.cell (World.block_lt_of_cell? _ _ hHeld.1)).trans hHeld.1), ((hb.cell (World.block_lt_of_cell? _ _ hHeld.2.1)).trans hHeld.2.1), ((hb.cell (World.block_lt_of_cell? _ _ hHeld.2.2.1)).trans hHeld.2.2.1), ((hb.cell (World.block_lt_of_cell? _ _ hHeld.2.2.2)).trans hHeld.2.2.2)⟩ (fun hHeld => ?_)
      clear hK K
      refine norm_ (a' := ?_) ?_ ?_
      rotate_left
      · show Act.put _ (some 63) _ = _
        simp only [Act.put, List.setIfInBounds_toArray, List.set_cons_zero, List.set_cons_succ, i64_w, i32_w]
        rfl
      refine one_ (i := 11) (N := some 69) #[true, true, true, true, true, true, true, true, true, true, true, true, true, true, true, true, true, false, false, false, false] rfl rfl (by kernel_rfl) (by decide) (fun K hK => ?_)
      refine goes_ Try.func10 (by kernel_rfl) rfl #[.slice A1 l1.length c1, .int .i64 n1, .int .i64 n2] (by rfl) rfl rfl (by simp only [List.map_toArray, List.map_cons, List.map_nil]; rfl) ?_
      with_reducible refine (braidworklaw06_shaped.calls 200 A1 c1 l1 n1 n2 Y _ Hl1.out Cl1.out FY.out).mono ?_
      rintro e w' ⟨v_, rfl, ho_, hb⟩
      refine ⟨_, rfl, ?_⟩
      obtain ⟨AY, cY, rfl⟩ := Kd.S_slice ho_
      have HY := Aside0.mk (Kd.S_reads' ho_).2.2
      have CY := Aside0.mk (Kd.S_reads' ho_).2.1
      clear ho_
      replace HX := Aside0.mk (Kd.C_below HX.out hb)
      replace Hl2 := Aside0.mk (Kd.C_below Hl2.out hb)
      replace HB := Aside0.mk (HB.out.trans (hb.mono HB.out.size))
      refine hK.out _ _ ⟨((hb.cell (World.block_lt_of_cell? _ _ hHeld.1)).trans hHeld.1), ((hb.cell (World.block_lt_of_cell? _ _ hHeld.2.1)).trans hHeld.2.1), ((hb.cell (World.block_lt_of_cell? _ _ hHeld.2.2.1)).trans hHeld.2.2.1), ((hb.cell (World.block_lt_of_cell? _ _ hHeld.2.2.2)).trans hHeld.2.2.2)⟩ (fun hHeld => ?_)
      clear hK K
      refine norm_ (a' := ?_) ?_ ?_
      rotate_left
      · show Act.put _ (some 69) _ = _
        simp only [Act.put, List.setIfInBounds_toArray, List.set_cons_zero, List.set_cons_succ, i64_w, i32_w]
        rfl
      refine one_ (i := 17) (N := some 75) #[true, true, true, true, true, true, true, true, true, true, true, true, true, true, true, true, true, true, false, false, false] rfl rfl (by kernel_rfl) (by decide) (fun K hK => ?_)
      refine goes_ Try.func10 (by kernel_rfl) rfl #[.slice A2 l2.length c2, .int .i64 n2, .int .i64 n3] (by rfl) rfl rfl (by simp only [List.map_toArray, List.map_cons, List.map_nil]; rfl) ?_
      with_reducible refine (braidworklaw06_shaped.calls 200 A2 c2 l2 n2 n3 Z _ Hl2.out Cl2.out FZ.out).mono ?_
      rintro e w' ⟨v_, rfl, ho_, hb⟩
      refine ⟨_, rfl, ?_⟩
      obtain ⟨AZ, cZ, rfl⟩ := Kd.S_slice ho_
      have HZ := Aside0.mk (Kd.S_reads' ho_).2.2
      have CZ := Aside0.mk (Kd.S_reads' ho_).2.1
      clear ho_
      replace HX := Aside0.mk (Kd.C_below HX.out hb)
      replace HY := Aside0.mk (Kd.C_below HY.out hb)
      replace HB := Aside0.mk (HB.out.trans (hb.mono HB.out.size))
      have HC0 := Aside0.mk ((hb.cell (World.block_lt_of_cell? _ _ hHeld.1)).trans hHeld.1)
      have HC1 := Aside0.mk ((hb.cell (World.block_lt_of_cell? _ _ hHeld.2.1)).trans hHeld.2.1)
      refine hK.out _ _ ⟨((hb.cell (World.block_lt_of_cell? _ _ hHeld.1)).trans hHeld.1), ((hb.cell (World.block_lt_of_cell? _ _ hHeld.2.1)).trans hHeld.2.1), ((hb.cell (World.block_lt_of_cell? _ _ hHeld.2.2.1)).trans hHeld.2.2.1), ((hb.cell (World.block_lt_of_cell? _ _ hHeld.2.2.2)).trans hHeld.2.2.2)⟩ (fun hHeld => ?_)
      clear hK K
      refine norm_ (a' := ?_) ?_ ?_
      rotate_left
      · show Act.put _ (some 75) _ = _
        simp only [Act.put, List.setIfInBounds_toArray, List.set_cons_zero, List.set_cons_succ, i64_w, i32_w]
        rfl
      refine pure_ (i := 18) (N := some 11) (v := ?_) (a' := ?_) #[true, true, true, true, true, true, true, true, true, true, true, true, true, true, true, true, true, true, true, false, false] rfl rfl (by kernel_rfl) (fun _ _ _ h => h) (Or.inl ⟨by rfl, ?_⟩) ?_ ?_
      rotate_left
      · intro w'
        go_simp
        with_reducible rfl
      rotate_left
      · simp only [Act.put, List.setIfInBounds_toArray, List.set_cons_zero, List.set_cons_succ, i64_w, i32_w]
        rfl
      refine pure_ (i := 19) (N := some 12) (v := ?_) (a' := ?_) #[true, true, true, true, true, true, true, true, true, true, true, true, true, true, true, true, true, true, true, true, false] rfl rfl (by kernel_rfl) (fun _ _ _ h => h) (Or.inl ⟨by rfl, ?_⟩) ?_ ?_
      rotate_left
      · intro w'
        go_simp
        with_reducible rfl
      rotate_left
      · simp only [Act.put, List.setIfInBounds_toArray, List.set_cons_zero, List.set_cons_succ, i64_w, i32_w]
        rfl
      refine pure_ (i := 20) (N := some 13) (v := ?_) (a' := ?_) #[true, true, true, true, true, true, true, true, true, true, true, true, true, true, true, true, true, true, true, true, true] rfl rfl (by kernel_rfl) (fun _ _ _ h => h) (Or.inl ⟨by rfl, ?_⟩) ?_ ?_
      rotate_left
      · intro w'
        go_simp
        with_reducible rfl
      rotate_left
      · simp only [Act.put, List.setIfInBounds_toArray, List.set_cons_zero, List.set_cons_succ, i64_w, i32_w]
        rfl
      refine done_ (by kernel_rfl) ?_
      clear hHeld
      go_upto_region 11 with (first
      | (go_at_call 13; with_reducible refine (matrix_Mul.calls 200 AX cX X AY cY Y xy 0 _ HX.out CX.out HY.out CY.out M1.out).mono ?_; rintro e w' ⟨v_, rfl, ho_, hb⟩; obtain ⟨AP, cP, rfl⟩ := Kd.S_slice ho_; have HP := Aside0.mk (Kd.S_reads' ho_).2.2; have CP := Aside0.mk (Kd.S_reads' ho_).2.1; clear ho_; replace HC0 := Aside0.mk ((hb.cell (World.block_lt_of_cell? _ _ HC0.out)).trans HC0.out); replace HC1 := Aside0.mk ((hb.cell (World.block_lt_of_cell? _ _ HC1.out)).trans HC1.out); replace HX := Aside0.mk (Kd.C_below HX.out hb); replace HY := Aside0.mk (Kd.C_below HY.out hb); replace HZ := Aside0.mk (Kd.C_below HZ.out hb); replace HB := Aside0.mk (HB.out.trans (hb.mono HB.out.size)); clear hb)
      | (go_at_call 13; with_reducible refine (matrix_Mul.calls 200 AY cY Y AZ cZ Z yz 0 _ HY.out CY.out HZ.out CZ.out M2.out).mono ?_; rintro e w' ⟨v_, rfl, ho_, hb⟩; obtain ⟨AQ, cQ, rfl⟩ := Kd.S_slice ho_; have HQ := Aside0.mk (Kd.S_reads' ho_).2.2; have CQ := Aside0.mk (Kd.S_reads' ho_).2.1; clear ho_; replace HC0 := Aside0.mk ((hb.cell (World.block_lt_of_cell? _ _ HC0.out)).trans HC0.out); replace HC1 := Aside0.mk ((hb.cell (World.block_lt_of_cell? _ _ HC1.out)).trans HC1.out); replace HX := Aside0.mk (Kd.C_below HX.out hb); replace HY := Aside0.mk (Kd.C_below HY.out hb); replace HZ := Aside0.mk (Kd.C_below HZ.out hb); replace HP := Aside0.mk (Kd.C_below HP.out hb); replace HB := Aside0.mk (HB.out.trans (hb.mono HB.out.size)); clear hb)
      | (go_at_call 13; with_reducible refine (matrix_Mul.calls 200 AP cP xy AZ cZ Z l 0 _ HP.out CP.out HZ.out CZ.out M3.out).mono ?_; rintro e w' ⟨v_, rfl, ho_, hb⟩; obtain ⟨AL, cL, rfl⟩ := Kd.S_slice ho_; have HL := Aside0.mk (Kd.S_reads' ho_).2.2; have CL := Aside0.mk (Kd.S_reads' ho_).2.1; clear ho_; replace HC0 := Aside0.mk ((hb.cell (World.block_lt_of_cell? _ _ HC0.out)).trans HC0.out); replace HC1 := Aside0.mk ((hb.cell (World.block_lt_of_cell? _ _ HC1.out)).trans HC1.out); replace HX := Aside0.mk (Kd.C_below HX.out hb); replace HY := Aside0.mk (Kd.C_below HY.out hb); replace HP := Aside0.mk (Kd.C_below HP.out hb); replace HQ := Aside0.mk (Kd.C_below HQ.out hb); replace HB := Aside0.mk (HB.out.trans (hb.mono HB.out.size)); clear hb)
      | (go_at_call 13; with_reducible refine (matrix_Mul.calls 200 AX cX X AQ cQ yz l 0 _ HX.out CX.out HQ.out CQ.out M4.out).mono ?_; rintro e w' ⟨v_, rfl, ho_, hb⟩; obtain ⟨AR, cR, rfl⟩ := Kd.S_slice ho_; have HR := Aside0.mk (Kd.S_reads' ho_).2.2; have CR := Aside0.mk (Kd.S_reads' ho_).2.1; clear ho_; replace HC0 := Aside0.mk ((hb.cell (World.block_lt_of_cell? _ _ HC0.out)).trans HC0.out); replace HC1 := Aside0.mk ((hb.cell (World.block_lt_of_cell? _ _ HC1.out)).trans HC1.out); replace HX := Aside0.mk (Kd.C_below HX.out hb); replace HY := Aside0.mk (Kd.C_below HY.out hb); replace HP := Aside0.mk (Kd.C_below HP.out hb); replace HL := Aside0.mk (Kd.C_below HL.out hb); replace HB := Aside0.mk (HB.out.trans (hb.mono HB.out.size)); clear hb))
      go_upto_region 13 with (first
      | (go_at_call 15; with_reducible refine (matrix_Same.calls AL cL l AR cR l true _ HL.out CL.out HR.out CR.out S1.out).mono ?_; rintro e w' ⟨rfl, hd⟩; have hb := hd.below; clear hd; replace HC0 := Aside0.mk ((hb.cell (World.block_lt_of_cell? _ _ HC0.out)).trans HC0.out); replace HC1 := Aside0.mk ((hb.cell (World.block_lt_of_cell? _ _ HC1.out)).trans HC1.out); replace HX := Aside0.mk (Kd.C_below HX.out hb); replace HY := Aside0.mk (Kd.C_below HY.out hb); replace HP := Aside0.mk (Kd.C_below HP.out hb); replace HB := Aside0.mk (HB.out.trans (hb.mono HB.out.size)); clear hb; have hc1 := HC1.out))
      go_upto_region 16 with (first
      | (clear hc1; go_at_call 16; with_reducible refine (matrix_Identity.calls 200 n1 one 0 _ I1.out).mono ?_; rintro e w' ⟨v_, rfl, ho_, hb⟩; obtain ⟨AO, cO, rfl⟩ := Kd.S_slice ho_; have HO := Aside0.mk (Kd.S_reads' ho_).2.2; have CO := Aside0.mk (Kd.S_reads' ho_).2.1; clear ho_; replace HC0 := Aside0.mk ((hb.cell (World.block_lt_of_cell? _ _ HC0.out)).trans HC0.out); replace HC1 := Aside0.mk ((hb.cell (World.block_lt_of_cell? _ _ HC1.out)).trans HC1.out); replace HX := Aside0.mk (Kd.C_below HX.out hb); replace HY := Aside0.mk (Kd.C_below HY.out hb); replace HP := Aside0.mk (Kd.C_below HP.out hb); replace HB := Aside0.mk (HB.out.trans (hb.mono HB.out.size)); clear hb)
      | (go_at_call 13; with_reducible refine (matrix_Mul.calls 200 AX cX X AO cO one X 0 _ HX.out CX.out HO.out CO.out M5.out).mono ?_; rintro e w' ⟨v_, rfl, ho_, hb⟩; obtain ⟨AM, cM, rfl⟩ := Kd.S_slice ho_; have HM := Aside0.mk (Kd.S_reads' ho_).2.2; have CM := Aside0.mk (Kd.S_reads' ho_).2.1; clear ho_; replace HC0 := Aside0.mk ((hb.cell (World.block_lt_of_cell? _ _ HC0.out)).trans HC0.out); replace HC1 := Aside0.mk ((hb.cell (World.block_lt_of_cell? _ _ HC1.out)).trans HC1.out); replace HX := Aside0.mk (Kd.C_below HX.out hb); replace HY := Aside0.mk (Kd.C_below HY.out hb); replace HP := Aside0.mk (Kd.C_below HP.out hb); replace HO := Aside0.mk (Kd.C_below HO.out hb); replace HB := Aside0.mk (HB.out.trans (hb.mono HB.out.size)); clear hb)
      | (go_at_call 13; with_reducible refine (matrix_Mul.calls 200 AO cO one AY cY Y Y 0 _ HO.out CO.out HY.out CY.out M6.out).mono ?_; rintro e w' ⟨v_, rfl, ho_, hb⟩; obtain ⟨AG, cG, rfl⟩ := Kd.S_slice ho_; have HG := Aside0.mk (Kd.S_reads' ho_).2.2; have CG := Aside0.mk (Kd.S_reads' ho_).2.1; clear ho_; replace HC0 := Aside0.mk ((hb.cell (World.block_lt_of_cell? _ _ HC0.out)).trans HC0.out); replace HC1 := Aside0.mk ((hb.cell (World.block_lt_of_cell? _ _ HC1.out)).trans HC1.out); replace HX := Aside0.mk (Kd.C_below HX.out hb); replace HY := Aside0.mk (Kd.C_below HY.out hb); replace HP := Aside0.mk (Kd.C_below HP.out hb); replace HM := Aside0.mk (Kd.C_below HM.out hb); replace HB := Aside0.mk (HB.out.trans (hb.mono HB.out.size)); clear hb))
      go_upto_region 18 with (first
      | (go_at_call 15; with_reducible refine (matrix_Same.calls AM cM X AX cX X true _ HM.out CM.out HX.out CX.out S2.out).mono ?_; rintro e w' ⟨rfl, hd⟩; have hb := hd.below; clear hd; replace HC0 := Aside0.mk ((hb.cell (World.block_lt_of_cell? _ _ HC0.out)).trans HC0.out); replace HC1 := Aside0.mk ((hb.cell (World.block_lt_of_cell? _ _ HC1.out)).trans HC1.out); replace HX := Aside0.mk (Kd.C_below HX.out hb); replace HY := Aside0.mk (Kd.C_below HY.out hb); replace HP := Aside0.mk (Kd.C_below HP.out hb); replace HG := Aside0.mk (Kd.C_below HG.out hb); replace HB := Aside0.mk (HB.out.trans (hb.mono HB.out.size)); clear hb)
      | (go_at_call 15; with_reducible refine (matrix_Same.calls AG cG Y AY cY Y true _ HG.out CG.out HY.out CY.out S3.out).mono ?_; rintro e w' ⟨rfl, hd⟩; have hb := hd.below; clear hd; replace HC0 := Aside0.mk ((hb.cell (World.block_lt_of_cell? _ _ HC0.out)).trans HC0.out); replace HC1 := Aside0.mk ((hb.cell (World.block_lt_of_cell? _ _ HC1.out)).trans HC1.out); replace HX := Aside0.mk (Kd.C_below HX.out hb); replace HY := Aside0.mk (Kd.C_below HY.out hb); replace HP := Aside0.mk (Kd.C_below HP.out hb); replace HB := Aside0.mk (HB.out.trans (hb.mono HB.out.size)); clear hb))
      go_upto_region 23 with (first
      | (go_at_call 24; with_reducible refine (matrix_Transpose.calls 200 AX cX X tx 0 _ HX.out CX.out T1.out).mono ?_; rintro e w' ⟨v_, rfl, ho_, hb⟩; obtain ⟨AT, cT, rfl⟩ := Kd.S_slice ho_; have HT := Aside0.mk (Kd.S_reads' ho_).2.2; have CT := Aside0.mk (Kd.S_reads' ho_).2.1; clear ho_; replace HC0 := Aside0.mk ((hb.cell (World.block_lt_of_cell? _ _ HC0.out)).trans HC0.out); replace HC1 := Aside0.mk ((hb.cell (World.block_lt_of_cell? _ _ HC1.out)).trans HC1.out); replace HX := Aside0.mk (Kd.C_below HX.out hb); replace HY := Aside0.mk (Kd.C_below HY.out hb); replace HP := Aside0.mk (Kd.C_below HP.out hb); replace HB := Aside0.mk (HB.out.trans (hb.mono HB.out.size)); clear hb)
      | (go_at_call 24; with_reducible refine (matrix_Transpose.calls 200 AY cY Y ty 0 _ HY.out CY.out T2.out).mono ?_; rintro e w' ⟨v_, rfl, ho_, hb⟩; obtain ⟨AU, cU, rfl⟩ := Kd.S_slice ho_; have HU := Aside0.mk (Kd.S_reads' ho_).2.2; have CU := Aside0.mk (Kd.S_reads' ho_).2.1; clear ho_; replace HC0 := Aside0.mk ((hb.cell (World.block_lt_of_cell? _ _ HC0.out)).trans HC0.out); replace HC1 := Aside0.mk ((hb.cell (World.block_lt_of_cell? _ _ HC1.out)).trans HC1.out); replace HX := Aside0.mk (Kd.C_below HX.out hb); replace HY := Aside0.mk (Kd.C_below HY.out hb); replace HP := Aside0.mk (Kd.C_below HP.out hb); replace HT := Aside0.mk (Kd.C_below HT.out hb); replace HB := Aside0.mk (HB.out.trans (hb.mono HB.out.size)); clear hb)
      | (go_at_call 13; with_reducible refine (matrix_Mul.calls 200 AU cU ty AT cT tx txy 0 _ HU.out CU.out HT.out CT.out M7.out).mono ?_; rintro e w' ⟨v_, rfl, ho_, hb⟩; obtain ⟨AK, cK, rfl⟩ := Kd.S_slice ho_; have HK := Aside0.mk (Kd.S_reads' ho_).2.2; have CK := Aside0.mk (Kd.S_reads' ho_).2.1; clear ho_; replace HC0 := Aside0.mk ((hb.cell (World.block_lt_of_cell? _ _ HC0.out)).trans HC0.out); replace HC1 := Aside0.mk ((hb.cell (World.block_lt_of_cell? _ _ HC1.out)).trans HC1.out); replace HX := Aside0.mk (Kd.C_below HX.out hb); replace HY := Aside0.mk (Kd.C_below HY.out hb); replace HP := Aside0.mk (Kd.C_below HP.out hb); replace HT := Aside0.mk (Kd.C_below HT.out hb); replace HB := Aside0.mk (HB.out.trans (hb.mono HB.out.size)); clear hb)
      | (go_at_call 24; with_reducible refine (matrix_Transpose.calls 200 AP cP xy txy 0 _ HP.out CP.out T3.out).mono ?_; rintro e w' ⟨v_, rfl, ho_, hb⟩; obtain ⟨AV, cV, rfl⟩ := Kd.S_slice ho_; have HV := Aside0.mk (Kd.S_reads' ho_).2.2; have CV := Aside0.mk (Kd.S_reads' ho_).2.1; clear ho_; replace HC0 := Aside0.mk ((hb.cell (World.block_lt_of_cell? _ _ HC0.out)).trans HC0.out); replace HC1 := Aside0.mk ((hb.cell (World.block_lt_of_cell? _ _ HC1.out)).trans HC1.out); replace HX := Aside0.mk (Kd.C_below HX.out hb); replace HY := Aside0.mk (Kd.C_below HY.out hb); replace HP := Aside0.mk (Kd.C_below HP.out hb); replace HT := Aside0.mk (Kd.C_below HT.out hb); replace HK := Aside0.mk (Kd.C_below HK.out hb); replace HB := Aside0.mk (HB.out.trans (hb.mono HB.out.size)); clear hb)
      | (go_at_call 24; with_reducible refine (matrix_Transpose.calls 200 AT cT tx X 0 _ HT.out CT.out T4.out).mono ?_; rintro e w' ⟨v_, rfl, ho_, hb⟩; obtain ⟨AE, cE, rfl⟩ := Kd.S_slice ho_; have HE := Aside0.mk (Kd.S_reads' ho_).2.2; have CE := Aside0.mk (Kd.S_reads' ho_).2.1; clear ho_; replace HC0 := Aside0.mk ((hb.cell (World.block_lt_of_cell? _ _ HC0.out)).trans HC0.out); replace HC1 := Aside0.mk ((hb.cell (World.block_lt_of_cell? _ _ HC1.out)).trans HC1.out); replace HX := Aside0.mk (Kd.C_below HX.out hb); replace HY := Aside0.mk (Kd.C_below HY.out hb); replace HP := Aside0.mk (Kd.C_below HP.out hb); replace HT := Aside0.mk (Kd.C_below HT.out hb); replace HK := Aside0.mk (Kd.C_below HK.out hb); replace HV := Aside0.mk (Kd.C_below HV.out hb); replace HB := Aside0.mk (HB.out.trans (hb.mono HB.out.size)); clear hb))
      go_upto_region 25 with (first
      | (go_at_call 15; with_reducible refine (matrix_Same.calls AK cK txy AV cV txy true _ HK.out CK.out HV.out CV.out S4.out).mono ?_; rintro e w' ⟨rfl, hd⟩; have hb := hd.below; clear hd; replace HC0 := Aside0.mk ((hb.cell (World.block_lt_of_cell? _ _ HC0.out)).trans HC0.out); replace HC1 := Aside0.mk ((hb.cell (World.block_lt_of_cell? _ _ HC1.out)).trans HC1.out); replace HX := Aside0.mk (Kd.C_below HX.out hb); replace HY := Aside0.mk (Kd.C_below HY.out hb); replace HP := Aside0.mk (Kd.C_below HP.out hb); replace HT := Aside0.mk (Kd.C_below HT.out hb); replace HE := Aside0.mk (Kd.C_below HE.out hb); replace HB := Aside0.mk (HB.out.trans (hb.mono HB.out.size)); clear hb)
      | (go_at_call 15; with_reducible refine (matrix_Same.calls AE cE X AX cX X true _ HE.out CE.out HX.out CX.out S2.out).mono ?_; rintro e w' ⟨rfl, hd⟩; have hb := hd.below; clear hd; replace HC0 := Aside0.mk ((hb.cell (World.block_lt_of_cell? _ _ HC0.out)).trans HC0.out); replace HC1 := Aside0.mk ((hb.cell (World.block_lt_of_cell? _ _ HC1.out)).trans HC1.out); replace HX := Aside0.mk (Kd.C_below HX.out hb); replace HY := Aside0.mk (Kd.C_below HY.out hb); replace HP := Aside0.mk (Kd.C_below HP.out hb); replace HT := Aside0.mk (Kd.C_below HT.out hb); replace HB := Aside0.mk (HB.out.trans (hb.mono HB.out.size)); clear hb))
      go_wp2_with (first
      | (go_at_call 17; with_reducible refine (matrix_Rank.calls AX cX X p 0 _ HX.out CX.out R1.out).mono ?_; rintro e w' ⟨rfl, hb⟩; replace HC0 := Aside0.mk ((hb.cell (World.block_lt_of_cell? _ _ HC0.out)).trans HC0.out); replace HC1 := Aside0.mk ((hb.cell (World.block_lt_of_cell? _ _ HC1.out)).trans HC1.out); replace HY := Aside0.mk (Kd.C_below HY.out hb); replace HP := Aside0.mk (Kd.C_below HP.out hb); replace HT := Aside0.mk (Kd.C_below HT.out hb); replace HB := Aside0.mk (HB.out.trans (hb.mono HB.out.size)); clear hb)
      | (go_at_call 17; with_reducible refine (matrix_Rank.calls AY cY Y q 0 _ HY.out CY.out R2.out).mono ?_; rintro e w' ⟨rfl, hb⟩; replace HC0 := Aside0.mk ((hb.cell (World.block_lt_of_cell? _ _ HC0.out)).trans HC0.out); replace HC1 := Aside0.mk ((hb.cell (World.block_lt_of_cell? _ _ HC1.out)).trans HC1.out); replace HP := Aside0.mk (Kd.C_below HP.out hb); replace HT := Aside0.mk (Kd.C_below HT.out hb); replace HB := Aside0.mk (HB.out.trans (hb.mono HB.out.size)); clear hb)
      | (go_at_call 17; with_reducible refine (matrix_Rank.calls AP cP xy s 0 _ HP.out CP.out R3.out).mono ?_; rintro e w' ⟨rfl, hb⟩; replace HC0 := Aside0.mk ((hb.cell (World.block_lt_of_cell? _ _ HC0.out)).trans HC0.out); replace HC1 := Aside0.mk ((hb.cell (World.block_lt_of_cell? _ _ HC1.out)).trans HC1.out); replace HT := Aside0.mk (Kd.C_below HT.out hb); replace HB := Aside0.mk (HB.out.trans (hb.mono HB.out.size)); clear hb)
      | (go_at_call 17; with_reducible refine (matrix_Rank.calls AT cT tx p 0 _ HT.out CT.out R4.out).mono ?_; rintro e w' ⟨rfl, hb⟩; replace HC0 := Aside0.mk ((hb.cell (World.block_lt_of_cell? _ _ HC0.out)).trans HC0.out); replace HC1 := Aside0.mk ((hb.cell (World.block_lt_of_cell? _ _ HC1.out)).trans HC1.out); replace HB := Aside0.mk (HB.out.trans (hb.mono HB.out.size)); clear hb; have hc0 := HC0.out; have hc1 := HC1.out)
      | (go_at_call 12; with_reducible refine (braidworklaw06_wakes.calls 200 true _ (wakes_ok 192)).mono ?_; rintro e w' ⟨rfl, hb⟩; replace HB := Aside0.mk (HB.out.trans (hb.mono HB.out.size)); clear hb))
      go_ret
      exact ⟨rfl, HB.out⟩
theorem products_calls (A0 : Option Addr) (c0 : Nat) (l0 : List Int) (A1 : Option Addr) (c1 : Nat) (l1 : List Int) (A2 : Option Addr) (c2 : Nat) (l2 : List Int) (l3 : List Int) (w : World) (hr0 : Kd.C (Kd.int .u8) w A0 l0.length l0) (hc0 : l0.length ≤ c0) (hr1 : Kd.C (Kd.int .u8) w A1 l1.length l1) (hc1 : l1.length ≤ c1) (hr2 : Kd.C (Kd.int .u8) w A2 l2.length l2) (hc2 : l2.length ≤ c2)
    (w0 : ∀ y ∈ l0, (Lit.int .u8 y).wf = true) (w1 : ∀ y ∈ l1, (Lit.int .u8 y).wf = true) (w2 : ∀ y ∈ l2, (Lit.int .u8 y).wf = true) (h3 : l3.length = 4) (w3 : ∀ y ∈ l3, (Lit.int .u8 y).wf = true) :
    Calls Try.prog 9 #[.slice A0 l0.length c0, .slice A1 l1.length c1, .slice A2 l2.length c2, .agg (l3.map (Value.int .u8)).toArray] w fun e w' => e = .returned (.bool true) ∧ Below w.heap.size w w' := by
  match l3, h3 with
  | [s0, s1, s2, s3], _ =>
    obtain ⟨n0, a0, b0, e0⟩ := size_six s0 (nonneg_of_wf (w3 s0 (by simp))).1
    obtain ⟨n1, a1, b1, e1⟩ := size_six s1 (nonneg_of_wf (w3 s1 (by simp))).1
    obtain ⟨n2, a2, b2, e2⟩ := size_six s2 (nonneg_of_wf (w3 s2 (by simp))).1
    obtain ⟨n3, a3, b3, e3⟩ := size_six s3 (nonneg_of_wf (w3 s3 (by simp))).1
    obtain ⟨X, x1, x2, x3⟩ := shaped_f l0 (areB_of_wf w0) n0 n1 b0 b1 200 (by omega)
    obtain ⟨Y, y1, y2, y3⟩ := shaped_f l1 (areB_of_wf w1) n1 n2 b1 b2 200 (by omega)
    obtain ⟨Z, z1, z2, z3⟩ := shaped_f l2 (areB_of_wf w2) n2 n3 b2 b3 200 (by omega)
    obtain ⟨xy, yz, l, one, tx, ty, txy, p, q, s, f1, f2, f3, f4, f5, f6, f7, f8, f9, f10, f11, f12, f13, f14, f15, f16, f17, f18, f19, f20, g1, g2, g3, g4⟩ := products_plain n0 n1 n2 n3 ⟨a0, b0⟩ ⟨a1, b1⟩ ⟨a2, b2⟩ ⟨a3, b3⟩ X Y Z x2 x3 y2 y3 z2 z3
    exact products_walk A0 c0 l0 A1 c1 l1 A2 c2 l2 s0 s1 s2 s3 w ⟨hr0⟩ ⟨hc0⟩ ⟨hr1⟩ ⟨hc1⟩ ⟨hr2⟩ ⟨hc2⟩ n0 n1 n2 n3 e0 e1 e2 e3 X Y Z xy yz l one tx ty txy p q s _ _ ⟨x1⟩ ⟨y1⟩ ⟨z1⟩ ⟨f1⟩ ⟨f2⟩ ⟨f3⟩ ⟨f4⟩ ⟨f5⟩ ⟨f6⟩ ⟨f7⟩ ⟨f8⟩ ⟨f9⟩ ⟨f10⟩ ⟨f11⟩ ⟨f12⟩ ⟨f13⟩ ⟨f14⟩ ⟨f15⟩ ⟨f16⟩ ⟨f17⟩ ⟨f18⟩ ⟨f19⟩ ⟨f20⟩ rfl rfl (eq_true (by split <;> omega)) (eq_true (by split <;> omega))
end Go.Proofs.Ythlgmmgdaciinaa.Plain
