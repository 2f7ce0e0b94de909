/- Inverses, on either side: the plain law. -/
import Derived.Test.YthlgmmgdaciinaaMatMul
import Derived.Test.YthlgmmgdaciinaaP4
namespace Go.Proofs.Ythlgmmgdaciinaa.Pure
open Go.Proofs.Ythlgmmgdaciinaa.Plain Go.Proofs.Ythlgmmgdaciinaa.Hand Go.Proofs.Ythlgmmgdaciinaa.GF Go.Proofs.Ythlgmmgdaciinaa.LA Go.RowKit Go.Proofs.Ythlgmmgdaciinaa.P Go.Proofs.YthlgmmgdaciinaaW.PrintWords Go.Proofs.YthlgmmgdaciinaaW.PrintLast

theorem rank_f {n : Nat} {L : List (List Int)} (hL : Fits n L) (hl : L.length < 1000000000) (hn : n < 140737488355328) : matrix_Rank.f L = some (((rk n (vecs L) : Nat) : Int), 0) := by
  unfold matrix_Rank.f
  rw [reduce_f hL hl hn, Option.bind_some, redRows_rank hL]
theorem full_of_left {n : Nat} {M B : List V} (hM : AllSupp n M) (hBl : B.length = n) (h : prod B M = ident n) : rk n M = n := by
  refine rk_all hM fun i hi => ?_
  have := prod_row (A := B) (B := M) (i := i) (by rw [hBl]; exact hi)
  rw [h, ident_row hi] at this
  rw [this]; exact comb_sp _ _
/-- all that is asked of one pair -/
theorem pair_ok (n : Nat) (h1 : 1 ≤ n) (h6 : n ≤ 6) (X Y : List (List Int)) (hXl : X.length = n) (hX : Fits n X) (hYl : Y.length = n) (hY : Fits n Y) :
    ∃ one i e r k f xy ik g, matrix_Identity.f 200 (n : Int) = some (one, 0) ∧ matrix_Inverse.f X = some (i, e) ∧ matrix_Rank.f X = some (r, 0) ∧ ((e == 0) = (r == (n : Int))) ∧ (e = 0 ∨ e = 24) ∧
      matrix_Inverse.f Y = some (k, f) ∧ matrix_Mul.f 199 X Y = some (xy, 0) ∧ matrix_Inverse.f xy = some (ik, g) ∧ ((g == 0) = ((e == 0) && (f == 0))) ∧
      (e = 0 → ∃ l rr back, matrix_Mul.f 198 X i = some (l, 0) ∧ matrix_Mul.f 198 i X = some (rr, 0) ∧ matrix_Inverse.f i = some (back, 0) ∧ matrix_Same.f l one = some true ∧ matrix_Same.f rr one = some true ∧ matrix_Same.f back X = some true) ∧
      (g = 0 → ∀ q, 30 < q → ∃ ki, matrix_Mul.f q k i = some (ki, 0) ∧ matrix_Same.f ki ik = some true) := by
  have hXs := vecs_supp hX
  have hYs := vecs_supp hY
  have hI := identRows_fits n
  have hIl := identRows_length n
  have hIv := identRows_vecs n
  obtain ⟨xy, m1, m2, m3, m4⟩ := mul_f X Y hX hY hYl (by omega) (by unfold vN; omega) (by omega) (by omega) (by omega) 199 (by omega)
  have hxyl : xy.length = n := by omega
  have hxys := vecs_supp m3
  have big : n < 140737488355328 := by omega
  have same : ∀ {A B : List (List Int)}, Fits n A → Fits n B → A.length = n → vecs A = vecs B → matrix_Same.f A B = some true := fun {A B} hA hB hl h => by
    rw [same_f hA hB (by omega), decide_eq_true (vecs_inj hA hB h)]
  have mul : ∀ (A B : List (List Int)) (q : Nat), 30 < q → Fits n A → Fits n B → A.length = n → B.length = n → ∃ C, matrix_Mul.f q A B = some (C, 0) ∧ C.length = n ∧ Fits n C ∧ vecs C = prod (vecs A) (vecs B) := fun A B q hq hA hB hAl hBl => by
    obtain ⟨C, c1, c2, c3, c4⟩ := mul_f A B hA hB hBl (by omega) (by unfold vN; omega) (by omega) (by omega) (by omega) q (by omega)
    exact ⟨C, c1, by omega, c3, c4⟩
  have hone := ident_f n 191 h1 h6
  -- what the inverse of the product is told by
  have hprodfull : rk n (vecs xy) = n ↔ rk n (vecs X) = n ∧ rk n (vecs Y) = n := by
    constructor
    · intro h
      have a := rk_prod_left (A := vecs X) (B := vecs Y) hXs hYs
      have b := rk_prod_right (A := vecs X) (B := vecs Y) hYs
      rw [← m4, h] at a b
      have c := rk_le_cols hXs
      have d := rk_le_cols hYs
      omega
    · rintro ⟨hx, hy⟩
      rcases inv_spec hX hXl (by omega) with ⟨_, BX, _, bl, bf, bp⟩ | ⟨q, _⟩
      · rcases inv_spec hY hYl (by omega) with ⟨_, BY, _, cl, cf, cp⟩ | ⟨q, _⟩
        · refine full_of_left hxys (B := prod (vecs BY) (vecs BX)) (by rw [prod_length, vecs_length, cl]) ?_
          rw [m4, prod_assoc, ← prod_assoc (vecs BX), bp, ← hYl, ← vecs_length Y, ident_prod, vecs_length, hYl, cp]
        · omega
      · omega
  have left : ∀ {M B : List (List Int)}, Fits n M → M.length = n → Fits n B → B.length = n → prod (vecs B) (vecs M) = ident n → prod (vecs M) (vecs B) = ident n := fun hM hMl hB hBl h => inverse_right (vecs_supp hM) (by rw [vecs_length, hMl]) (by rw [vecs_length, hBl]) (vecs_supp hB) h
  have uniq : ∀ {M B C : List (List Int)}, Fits n M → M.length = n → Fits n B → B.length = n → Fits n C → C.length = n → prod (vecs B) (vecs M) = ident n → prod (vecs C) (vecs M) = ident n → vecs B = vecs C := fun hM hMl hB hBl hC hCl h k =>
    inverse_unique (vecs_supp hM) (by rw [vecs_length, hMl]) (by rw [vecs_length, hBl]) (vecs_supp hB) (by rw [vecs_length, hCl]) (vecs_supp hC) h k
  obtain ⟨ik, g, hik, hg1, hg2⟩ : ∃ ik g, matrix_Inverse.f xy = some (ik, g) ∧ (g = 0 ↔ rk n (vecs xy) = n) ∧ (g = 0 → ik.length = n ∧ Fits n ik ∧ prod (vecs ik) (vecs xy) = ident n) := by
    rcases inv_spec m3 hxyl (by omega) with ⟨a, B, b1, b2, b3, b4⟩ | ⟨a, b⟩
    · exact ⟨B, 0, b1, ⟨fun _ => a, fun _ => rfl⟩, fun _ => ⟨b2, b3, b4⟩⟩
    · exact ⟨[], 24, b, ⟨fun h => absurd h (by decide), fun h => absurd h (by omega)⟩, fun h => absurd h (by decide)⟩
  obtain ⟨k, f, hk, hf1, hf2⟩ : ∃ k f, matrix_Inverse.f Y = some (k, f) ∧ (f = 0 ↔ rk n (vecs Y) = n) ∧ (f = 0 → k.length = n ∧ Fits n k ∧ prod (vecs k) (vecs Y) = ident n) := by
    rcases inv_spec hY hYl (by omega) with ⟨a, B, b1, b2, b3, b4⟩ | ⟨a, b⟩
    · exact ⟨B, 0, b1, ⟨fun _ => a, fun _ => rfl⟩, fun _ => ⟨b2, b3, b4⟩⟩
    · exact ⟨[], 24, b, ⟨fun h => absurd h (by decide), fun h => absurd h (by omega)⟩, fun h => absurd h (by decide)⟩
  obtain ⟨i, e, hi, he1, he0, he2⟩ : ∃ i e, matrix_Inverse.f X = some (i, e) ∧ (e = 0 ↔ rk n (vecs X) = n) ∧ (e = 0 ∨ e = 24) ∧ (e = 0 → i.length = n ∧ Fits n i ∧ prod (vecs i) (vecs X) = ident n) := by
    rcases inv_spec hX hXl (by omega) with ⟨a, B, b1, b2, b3, b4⟩ | ⟨a, b⟩
    · exact ⟨B, 0, b1, ⟨fun _ => a, fun _ => rfl⟩, Or.inl rfl, fun _ => ⟨b2, b3, b4⟩⟩
    · exact ⟨[], 24, b, ⟨fun h => absurd h (by decide), fun h => absurd h (by omega)⟩, Or.inr rfl, fun h => absurd h (by decide)⟩
  refine ⟨identRows n, i, e, _, k, f, xy, ik, g, hone, hi, rank_f hX (by omega) big, ?_, he0, hk, m1, hik, ?_, ?_, ?_⟩
  · rw [Bool.eq_iff_iff, beq_iff_eq, beq_iff_eq, he1]
    omega
  · rw [Bool.eq_iff_iff, Bool.and_eq_true, beq_iff_eq, beq_iff_eq, beq_iff_eq, hg1, he1, hf1]
    exact hprodfull
  · intro h
    obtain ⟨a1, a2, a3⟩ := he2 h
    obtain ⟨l, l1, l2, l3, l4⟩ := mul X i 198 (by omega) hX a2 hXl a1
    obtain ⟨rr, r1, r2, r3, r4⟩ := mul i X 198 (by omega) a2 hX a1 hXl
    have a4 := left hX hXl a2 a1 a3
    have hfi : rk n (vecs i) = n := full_of_left (vecs_supp a2) (by rw [vecs_length, hXl]) a4
    rcases inv_spec a2 a1 (by omega) with ⟨_, B, b1, b2, b3, b4⟩ | ⟨q, _⟩
    · exact ⟨l, rr, B, l1, r1, b1, same l3 hI l2 (by rw [l4, a4, hIv]), same r3 hI r2 (by rw [r4, a3, hIv]), same b3 hX b2 (uniq a2 a1 b3 b2 hX hXl b4 a4)⟩
    · omega
  · intro h q hq
    obtain ⟨a1, a2, a3⟩ := hg2 h
    obtain ⟨hx, hy⟩ := hprodfull.1 (hg1.1 h)
    obtain ⟨b1, b2, b3⟩ := hf2 (hf1.2 hy)
    obtain ⟨c1, c2, c3⟩ := he2 (he1.2 hx)
    obtain ⟨ki, k1, k2, k3, k4⟩ := mul k i q hq b2 c2 b1 c1
    refine ⟨ki, k1, same k3 a2 k2 (uniq m3 hxyl k3 k2 a2 a1 ?_ a3)⟩
    rw [k4, m4, prod_assoc, ← prod_assoc (vecs i), c3, ← hYl, ← vecs_length Y, ident_prod, vecs_length, hYl, b3]
theorem MatrixInverses : braidworklaw06_MatrixInverses.Pure := by
  intro l0 l1 a2 _ _ w0 _ _ w1 wa
  obtain ⟨n, h1, h6, hn⟩ := size_six a2 (nonneg_of_wf wa).1
  refine ⟨200, ?_⟩
  obtain ⟨X, x1, x2, x3⟩ := shaped_f l0 (areB_of_wf w0) n n h6 h6 200 (by omega)
  obtain ⟨Y, y1, y2, y3⟩ := shaped_f l1 (areB_of_wf w1) n n h6 h6 200 (by omega)
  obtain ⟨one, i, e, r, k, f, xy, ik, g, p1, p2, p3, p4, p5, p6, p7, p8, p9, p10, p11⟩ := pair_ok n h1 h6 X Y x2 x3 y2 y3
  unfold braidworklaw06_MatrixInverses.f
  rw [hn, x1, Option.bind_some, y1, Option.bind_some, p1, Option.bind_some, p2, Option.bind_some, p3, Option.bind_some]
  dsimp only
  rw [if_neg (by rw [p4]; simp)]
  have hj2 : ∀ q, 40 < q → braidworklaw06_MatrixInverses.j2 q i k ik g = some true := by
    intro q hq
    obtain ⟨q, rfl⟩ : ∃ m, q = m + 1 := ⟨q - 1, by omega⟩
    obtain ⟨m, rfl⟩ : ∃ m, q = m + 8 := ⟨q - 8, by omega⟩
    simp only [braidworklaw06_MatrixInverses.j2]
    by_cases hg : g = 0
    · obtain ⟨ki, k1, k2⟩ := p11 hg (m + 8) (by omega)
      rw [if_pos hg, k1, Option.bind_some, k2, Option.bind_some, if_pos rfl, wakes_ok, Option.bind_some]
    · rw [if_neg hg, wakes_ok, Option.bind_some]
  have hj1 : braidworklaw06_MatrixInverses.j1 199 X one i e k ik g false = some true := by
    simp only [braidworklaw06_MatrixInverses.j1]
    rw [if_neg (by decide)]
    by_cases he : e = 0
    · obtain ⟨l, rr, back, q1, q2, q3, q4, q5, q6⟩ := p10 he
      rw [if_pos he, q1, Option.bind_some, q2, Option.bind_some, q3, Option.bind_some, q4, Option.bind_some, if_pos rfl, q5, Option.bind_some, if_pos rfl, if_pos rfl, q6, Option.bind_some, if_pos rfl]
      exact hj2 198 (by omega)
    · rw [if_neg he]
      exact hj2 198 (by omega)
  have hj0 : braidworklaw06_MatrixInverses.j0 200 X Y one i e false = some true := by
    simp only [braidworklaw06_MatrixInverses.j0]
    rw [if_neg (by decide), p6, Option.bind_some, p7, Option.bind_some, p8, Option.bind_some]
    by_cases he : e = 0
    · rw [if_pos he]
      have : ((g == 0) != (f == 0)) = false := by rw [p9, he]; simp
      dsimp only
      rw [this]
      exact hj1
    · rw [if_neg he]
      have : ((g == 0) != false) = false := by rw [p9, beq_eq_false_iff_ne.2 he]; rfl
      dsimp only
      rw [this]
      exact hj1
  by_cases he : e = 0
  · rw [if_pos he]; exact hj0
  · rw [if_neg he]
    have : (e != 24) = false := by rw [p5.resolve_left he]; rfl
    rw [this]; exact hj0
end Go.Proofs.Ythlgmmgdaciinaa.Pure
