/- QMC, part 27: PlCallC HRow. -/
import Derived.Test.YthlgmmgdaciinaaQMC5
import Derived.Test.YthlgmmgdaciinaaQMC18
import Derived.Test.YthlgmmgdaciinaaQMC26
import Derived.ProofKit
import Derived.OpenShut
import Derived.ChangeOld
import Derived.SizedLaws
import Derived.Deep.Matrix
import Derived.Lib.SmallJoins

section
namespace Go.Proofs.Ythlgmmgdaciinaa.Plain
open Go.Proofs.Ythlgmmgdaciinaa.Hand Go.Proofs.Ythlgmmgdaciinaa.GF Go.Proofs.Ythlgmmgdaciinaa.LA Go.RowKit Go.Proofs.Ythlgmmgdaciinaa.P Go.Proofs.YthlgmmgdaciinaaW.PrintWords Go.Proofs.YthlgmmgdaciinaaW.PrintLast
theorem mj0_true (A B : List (List Int)) (x : Int) : matrix_Mul.j0 2000 A B x true = some ([], 21) := by
  show matrix_Mul.j0 (1999 + 1) _ _ _ _ = _
  simp only [matrix_Mul.j0]
  rfl
theorem rmj0_true (A B : List (List Int)) (x y z : Int) : braidworkref06_Mul.j0 3000 A B x y z true = some ([], 21) := by
  show braidworkref06_Mul.j0 (2999 + 1) _ _ _ _ _ _ = _
  simp only [braidworkref06_Mul.j0]
  rfl
theorem mul_err {A B : List (List Int)} {s t : Int × Int × Int} (h1 : matrix_Size.f A = some s) (h2 : matrix_Size.f B = some t) (h : s.2.2 ≠ 0 ∨ t.2.2 ≠ 0 ∨ s.2.1 ≠ t.1) : matrix_Mul.f 2000 A B = some ([], 21) := by
  unfold matrix_Mul.f
  rw [h1, Option.bind_some, h2, Option.bind_some]
  by_cases a : s.2.2 = 0
  · rw [if_pos a]
    by_cases b : t.2.2 = 0
    · rw [if_pos b, show (s.2.1 != t.1) = true from by simpa using (h.resolve_left (fun x => x a)).resolve_left (fun x => x b)]
      exact mj0_true _ _ _
    · rw [if_neg b]; exact mj0_true _ _ _
  · rw [if_neg a]; exact mj0_true _ _ _
theorem rmul_err {A B : List (List Int)} {s t : Int × Int × Int} (h1 : braidworkref06_Size.f 3000 A = some s) (h2 : braidworkref06_Size.f 3000 B = some t) (h : s.2.2 ≠ 0 ∨ t.2.2 ≠ 0 ∨ s.2.1 ≠ t.1) : braidworkref06_Mul.f 3000 A B = some ([], 21) := by
  unfold braidworkref06_Mul.f
  rw [h1, Option.bind_some, h2, Option.bind_some]
  by_cases a : s.2.2 = 0
  · rw [if_pos a]
    by_cases b : t.2.2 = 0
    · rw [if_pos b, show (s.2.1 != t.1) = true from by simpa using (h.resolve_left (fun x => x a)).resolve_left (fun x => x b)]
      exact rmj0_true _ _ _ _ _
    · rw [if_neg b]; exact rmj0_true _ _ _ _ _
  · rw [if_neg a]; exact rmj0_true _ _ _ _ _
theorem mul0_loop (A : List (List Int)) (hl : A.length < 1000) (d : Nat) : ∀ (i k : Nat), i + d = A.length → d + 1 < k → matrix_Mul.l0 k A [] (List.replicate A.length []) (A.length : Int) (i : Int) = some (List.replicate A.length [], 0) := by
  induction d with
  | zero =>
    intro i k h1 h2
    obtain ⟨k, rfl⟩ : ∃ m, k = m + 1 := ⟨k - 1, by omega⟩
    simp only [matrix_Mul.l0]
    rw [if_neg (by omega)]
  | succ d ih =>
    intro i k h1 h2
    obtain ⟨k, rfl⟩ : ∃ m, k = m + 1 := ⟨k - 1, by omega⟩
    have e : (List.replicate A.length ([] : List Int)).set i [] = List.replicate A.length [] := by
      apply List.ext_getElem
      · simp
      · intro j a b
        rw [List.getElem_set]
        simp
    have hc : vector_Combine.f k [] (rd_L1 A (i : Int)) = some ([], 1) := by unfold vector_Combine.f; rw [if_pos (by rfl)]
    simp only [matrix_Mul.l0]
    rw [if_pos (by omega), if_pos (by omega), if_pos (by omega), hc, Option.bind_some, if_pos (by rw [List.length_replicate]; omega), Int.toNat_natCast, nx i (by omega)]
    show matrix_Mul.l0 k A [] ((List.replicate A.length []).set i []) _ _ = _
    rw [e]
    exact ih (i + 1) k (by omega) (by omega)
theorem mul0_f (A : List (List Int)) (hA : Sml A) (hs : matrix_Size.f A = some ((A.length : Int), 0, 0)) : matrix_Mul.f 2000 A [] = some (List.replicate A.length [], 0) := by
  have h1 := hA.1
  unfold matrix_Mul.f
  rw [hs, Option.bind_some, show matrix_Size.f [] = some (0, 0, 0) from rfl, Option.bind_some, if_pos rfl, if_pos rfl]
  show matrix_Mul.j0 (1999 + 1) A [] (A.length : Int) false = _
  simp only [matrix_Mul.j0]
  rw [if_neg (by simp), if_pos (by omega), if_pos (by omega), Option.bind_some, Int.toNat_natCast, List.length_replicate]
  exact mul0_loop A (by omega) A.length 0 1999 (by omega) (by omega)
theorem mul_both {A B : List (List Int)} (hA : Sml A) (hB : Sml B) : ∃ m1 e3, matrix_Mul.f 2000 A B = some (m1, e3) ∧ braidworkref06_Mul.f 3000 A B = some (m1, e3) ∧ Okl m1 := by
  have a1 := hA.1
  have b1 := hB.1
  have a2 := hA.width
  have b2 := hB.width
  have sA := sizes_both (A := A) (by omega)
  have sB := sizes_both (A := B) (by omega)
  have rA := ref_sizeK A (by omega) 3000 (by omega)
  have rB := ref_sizeK B (by omega) 3000 (by omega)
  cases eA : misR A with
  | true =>
    rw [if_pos eA] at sA rA
    exact ⟨[], 21, mul_err sA sB (.inl (show (21 : Int) ≠ 0 by decide)), rmul_err rA rB (.inl (show (21 : Int) ≠ 0 by decide)), okl_nil⟩
  | false =>
    cases eB : misR B with
    | true =>
      rw [if_pos eB] at sB rB
      exact ⟨[], 21, mul_err sA sB (.inr (.inl (show (21 : Int) ≠ 0 by decide))), rmul_err rA rB (.inr (.inl (show (21 : Int) ≠ 0 by decide))), okl_nil⟩
    | false =>
      rw [if_neg (by simp [eA])] at sA rA
      rw [if_neg (by simp [eB])] at sB rB
      by_cases hw : (rdR A 0).length = B.length
      · have fA := hA.fits eA
        have fB := hB.fits eB
        rw [hw] at fA sA rA
        have hb : A.length * ((rdR B 0).length * (B.length + 3) + 4) ≤ 12 * (12 * 15 + 4) := Nat.mul_le_mul a1 (Nat.add_le_add_right (Nat.mul_le_mul b2 (by omega)) 4)
        refine ⟨prodL A B (rdR B 0).length, 0, ?_, ?_, okl_fits (prodL_fits A B _) (by omega) (by rw [prodL_length]; omega)⟩
        · by_cases hp : 0 < B.length
          · have hAp : 0 < A.length := by
              cases A with
              | nil => simp [rdR] at hw; omega
              | cons a l => simp
            obtain ⟨C, c1, c2, c3, c4⟩ := mul_f A B fA fB rfl hp (by unfold vN; omega) hAp (by omega) (by omega) 2000 (by omega)
            rw [c1, vecs_inj c3 (prodL_fits A B _) (c4.trans (prodL_vecs A B fB).symm)]
          · have e := List.length_eq_zero_iff.1 (show B.length = 0 by omega)
            subst e
            rw [mul0_f A hA sA]
            have : prodL A [] (rdR [] 0).length = List.replicate A.length [] := by
              unfold prodL rowP
              show A.map (fun a => (List.range 0).map _) = _
              simp only [List.range_zero, List.map_nil]
              exact List.map_const'
            rw [this]
        · unfold braidworkref06_Mul.f
          rw [rA, Option.bind_some, rB, Option.bind_some, if_pos rfl, if_pos rfl]
          dsimp only
          rw [show ((B.length : Int) != (B.length : Int)) = false from by simp]
          show braidworkref06_Mul.j0 (2999 + 1) _ _ _ _ _ _ = _
          simp only [braidworkref06_Mul.j0]
          rw [if_neg (by simp)]
          exact rm_l0 A B fA fB rfl (by omega) (by omega) (by omega) A.length 0 2999 (by omega) (by omega)
      · refine ⟨[], 21, mul_err sA sB (.inr (.inr ?_)), rmul_err rA rB (.inr (.inr ?_)), okl_nil⟩
        · show ((rdR A 0).length : Int) ≠ (B.length : Int); omega
        · show ((rdR A 0).length : Int) ≠ (B.length : Int); omega
theorem reduce_both {A : List (List Int)} (h : Sml A) : ∃ r1 e4, matrix_Reduce.f A = some (r1, e4) ∧ redF A = (r1, e4) ∧ matrix_Rank.f A = some ((r1.length : Int), e4) ∧ Okl r1 := by
  have h1 := h.1
  have h2 := h.width
  cases e : misR A with
  | true =>
    have g : matrix_Reduce.f A = some ([], 21) := by
      unfold matrix_Reduce.f
      rw [if_pos (by omega), if_pos (show (A.any fun x => (x.length : Int) != ((rdR A 0).length : Int)) = true from e)]
    refine ⟨[], 21, g, by unfold redF; rw [if_pos e], ?_, okl_nil⟩
    unfold matrix_Rank.f
    rw [g]; rfl
  | false =>
    have hF := h.fits e
    have g := reduce_f hF (by omega) (by omega)
    obtain ⟨p, -, -, q1, q2⟩ := redRows_spec hF
    refine ⟨_, 0, g, by unfold redF; rw [if_neg (by simp [e])], ?_, okl_fits q1 (by omega) (by omega)⟩
    unfold matrix_Rank.f
    rw [g]; rfl
theorem redTo_stay {n : Nat} {L : List (List Int)} (hL : Fits n L) {k : Nat} (h : (redTo L k).2 = L.length) (d : Nat) : redTo L (k + d) = redTo L k := by
  induction d with
  | zero => rfl
  | succ d ih =>
    have h1 := redTo_le L (k + d + 1)
    rw [(redTo_fits hL (k + d + 1)).2] at h1
    have e : redTo L (k + d + 1) = colStep (redTo L (k + d)) (k + d) := rfl
    rw [e, ih] at h1
    show redTo L (k + d + 1) = _
    rw [e, ih]
    unfold colStep at h1 ⊢
    cases q : pick (redTo L k).1 (redTo L k).2 (k + d) with
    | none => rfl
    | some i =>
      rw [q] at h1
      have : (redTo L k).2 + 1 ≤ L.length := h1
      omega
theorem besideL_wide (A : List (List Int)) : besideL A (identRows A.length) = wideOf A := by
  unfold besideL wideOf
  refine List.map_congr_left fun i hi => ?_
  have hi := List.mem_range.1 hi
  congr 1
  unfold identRows
  rw [List.getD_eq_getElem?_getD, List.getElem?_map, List.getElem?_range hi]
  rfl
theorem inverse_both {A : List (List Int)} (h : Sml A) : ∃ v1 e5, matrix_Inverse.f A = some (v1, e5) ∧ Okl v1 ∧ ∀ (A0 : Option Addr) (c0 : Nat) (W : World), Kd.C rowK W A0 A.length A → A.length ≤ c0 → Calls Try.prog 32 #[.slice A0 A.length c0] W fun e w' => ∃ (Am : Option Addr) (cm : Nat), e = .returned (.tuple #[.slice Am v1.length cm, .int .i64 e5]) ∧ v1.length ≤ cm ∧ Kd.C rowK w' Am v1.length v1 ∧ Below W.heap.size W w' := by
  have h1 := h.1
  have h2 := h.width
  have hs := ref_size A (by omega)
  have hBs : ∀ x ∈ A, areB x := fun x hx => (h.2 x hx).1
  cases e : misR A with
  | true =>
    rw [if_pos e] at hs
    refine ⟨[], 21, ?_, okl_nil, fun A0 c0 W hC hc => ?_⟩
    · unfold matrix_Inverse.f
      rw [if_pos (by omega), if_pos (show (A.any fun x => (x.length : Int) != ((rdR A 0).length : Int)) = true from e)]
    · exact (refInv_err A0 c0 A W ⟨hC⟩ ⟨hc⟩ 0 0 21 ⟨hs⟩ (.inl (by decide))).mono fun e w' ⟨k1, k2⟩ => ⟨none, 0, k1, Nat.le_refl _, Kd.C_nil _ _, k2⟩
  | false =>
    rw [if_neg (by simp [e])] at hs
    have hF := h.fits e
    by_cases hq : A.length = (rdR A 0).length
    · rw [← hq] at hF hs
      have hR : redF A = (redRows A A.length, 0) := by unfold redF; rw [if_neg (by simp [e]), ← hq]
      have hrk := redRows_rank hF
      have e0 : matrix_Inverse.f A = if (redTo (wideOf A) A.length).2 < A.length then some ([], 24) else some ((redTo (wideOf A) A.length).1.map (·.drop A.length), 0) := by
        unfold matrix_Inverse.f
        rw [if_pos (by omega), if_neg (by rw [any_len hF]; decide), if_pos hq, if_pos ⟨by omega, hBs⟩]
      rcases inv_spec hF rfl (by omega) with ⟨k1, B, k2, k3, k4, -⟩ | ⟨k1, k2⟩
      · refine ⟨B, 0, k2, okl_fits k4 (by omega) (by omega), fun A0 c0 W hC hc => ?_⟩
        have hW := wideOf_fits hF
        have hl := redTo_le (wideOf A) A.length
        rw [(redTo_fits hW A.length).2, wideOf_length] at hl
        have hnl : ¬ (redTo (wideOf A) A.length).2 < A.length := fun z => by
          rw [if_pos z, k2] at e0
          simp at e0
        rw [if_neg hnl, k2] at e0
        have eB : B = (redTo (wideOf A) A.length).1.map (·.drop A.length) := by simpa using e0
        have hst := redTo_stay hW (k := A.length) (by rw [wideOf_length]; omega) A.length
        have hWR : redRows (wideOf A) (A.length + A.length) = (redTo (wideOf A) A.length).1 := by
          unfold redRows
          rw [hst, List.take_of_length_le (by rw [(redTo_fits hW A.length).2, wideOf_length]; omega)]
        exact refInv_walk A0 c0 A W ⟨hC⟩ ⟨hc⟩ ⟨hBs⟩ A.length ⟨hF⟩ rfl ⟨by omega⟩ ⟨hs⟩ _ ⟨hR⟩ (by rw [hrk, k1]) (identRows A.length) ⟨identRows_fits _⟩ ⟨identRows_length _⟩ ⟨refIdent_any _ (by omega)⟩ ((redTo (wideOf A) A.length).1) ⟨by rw [besideL_wide, hWR]⟩ ⟨by rw [(redTo_fits hW A.length).2, wideOf_length]⟩ B ⟨eB⟩ ⟨by omega⟩
      · refine ⟨[], 24, k2, okl_nil, fun A0 c0 W hC hc => ?_⟩
        exact (refInv_low A0 c0 A W ⟨hC⟩ ⟨hc⟩ ⟨hs⟩ (redRows A A.length).length (by rw [hrk]; exact k1) ⟨fun W' hC' => refRank_calls A0 c0 A W' hC' hc hBs (by omega) (by omega) _ _ hR⟩).mono fun e w' ⟨q1, q2⟩ => ⟨none, 0, q1, Nat.le_refl _, Kd.C_nil _ _, q2⟩
    · refine ⟨[], 21, ?_, okl_nil, fun A0 c0 W hC hc => ?_⟩
      · unfold matrix_Inverse.f
        rw [if_pos (by omega), if_neg (by rw [any_len hF]; decide), if_neg hq]
      · exact (refInv_err A0 c0 A W ⟨hC⟩ ⟨hc⟩ _ _ 0 ⟨hs⟩ (.inr ⟨by decide, by simp; omega⟩)).mono fun e w' ⟨k1, k2⟩ => ⟨none, 0, k1, Nat.le_refl _, Kd.C_nil _ _, k2⟩
theorem same_both {A B : List (List Int)} (hA : Sml A) (hB : Sml B) : matrix_Same.f A B = some (decide (A = B)) := by
  have := hA.1
  unfold matrix_Same.f
  rw [if_pos ⟨by omega, fun x hx => (hA.2 x hx).1, fun x hx => (hB.2 x hx).1⟩]
theorem cutL_sml {L : List (List Int)} (h : ∀ x ∈ L, areB x) : Sml (cutL L) := by
  refine ⟨by unfold cutL; rw [List.length_map, List.length_take]; omega, fun r hr => ?_⟩
  obtain ⟨a, ha, rfl⟩ := List.mem_map.1 hr
  exact ⟨fun x hx => h a (List.mem_of_mem_take ha) x (List.mem_of_mem_take hx), by rw [List.length_take]; omega⟩
theorem cutL_of_sml {L : List (List Int)} (h : Sml L) : cutL L = L := by
  unfold cutL
  rw [List.take_of_length_le h.1]
  exact (List.map_congr_left fun r hr => List.take_of_length_le (h.2 r hr).2).trans (List.map_id _)
theorem calls_calls (A0 : Option Addr) (c0 : Nat) (a0 : List (List Int)) (A1 : Option Addr) (c1 : Nat) (b0 : List (List Int)) (n : Int) (w : World) (Ha0 : Kd.C rowK w A0 a0.length a0) (Ca0 : a0.length ≤ c0) (Hb0 : Kd.C rowK w A1 b0.length b0) (Cb0 : b0.length ≤ c1)
    (la : a0.length ≤ 140737488355328) (ba : ∀ x ∈ a0, areB x) (lb : b0.length ≤ 140737488355328) (bb : ∀ x ∈ b0, areB x) :
    Calls Try.prog 8 #[.slice A0 a0.length c0, .slice A1 b0.length c1, .int .i64 n] w fun e w' => e = .returned (.bool true) ∧ Below w.heap.size w w' := by
  have hA := cutL_sml ba
  have hB := cutL_sml bb
  have a1 := hA.1
  have a2 := hA.width
  have b1 := hB.1
  have b2 := hB.width
  have hcA := cutL_of_sml hA
  have hcB := cutL_of_sml hB
  obtain ⟨i1, e1, I1, I2, I3⟩ := identity_both n
  obtain ⟨t1, e2, T1, T2, T3⟩ := transpose_both hA
  obtain ⟨m1, e3, M1, M2, M3⟩ := mul_both hA hB
  obtain ⟨r1, e4, R1, R2, R4, R3⟩ := reduce_both hA
  obtain ⟨v1, e5, V1, V3, V2⟩ := inverse_both hA
  have S1 := sizes_both (A := cutL a0) (by omega)
  have S2 := ref_size (cutL a0) (by omega)
  generalize hs : (if misR (cutL a0) = true then ((0 : Int), (0 : Int), (21 : Int)) else (((cutL a0).length : Int), ((rdR (cutL a0) 0).length : Int), 0)) = s at S1 S2
  obtain ⟨p, q, g⟩ := s
  exact calls_walk A0 c0 a0 A1 c1 b0 n w ⟨Ha0⟩ ⟨Ca0⟩ ⟨Hb0⟩ ⟨Cb0⟩ (cutL a0) (cutL b0) ⟨⟨la, rfl⟩, ⟨lb, rfl⟩, ⟨by omega, hcA⟩, ⟨by omega, hcB⟩⟩ ⟨fun x hx => (hA.2 x hx).1, by omega, by omega⟩ ⟨fun x hx => (hB.2 x hx).1, by omega, by omega⟩
    i1 t1 m1 r1 v1 e1 e2 e3 e4 e5 p q g (decide (cutL a0 = cutL b0)) ⟨I3⟩ ⟨T3⟩ ⟨M3⟩ ⟨R3⟩ ⟨V3⟩ ⟨I1⟩ ⟨I2⟩ ⟨T1⟩ ⟨T2⟩ ⟨M1⟩ ⟨M2⟩ ⟨R1⟩ ⟨R2⟩ ⟨V1⟩ ⟨V2⟩ ⟨S1⟩ ⟨S2⟩ ⟨R4⟩ ⟨same_both hA hB⟩ ⟨rfl⟩
end Go.Proofs.Ythlgmmgdaciinaa.Plain
end

section
set_option linter.unusedVariables false
set_option linter.unusedSimpArgs false
namespace Go.Proofs.Ythlgmmgdaciinaa.Hand
open Go.RowKit Go.Proofs.YthlgmmgdaciinaaW.PrintWords Go.ChangeShapes Go.WideShapes Go.ChangeAt Go.Deep
section
variable {H : Type} {enc : TypeId × Value → H} {P : Program} {W : World} {base : Nat}
theorem weights_all {P : Program} {t : TypeId} : ∀ {ds : List (DataW H)} {i : Nat} {D : DataW H}, ds[i]? = some D → ∀ n ∈ D.weights P t, n ∈ DataW.weightsAll P t ds
  | d0 :: ds, 0, D, h, n, hn => by
    simp only [List.getElem?_cons_zero, Option.some.injEq] at h
    subst h
    simp only [DataW.weightsAll, List.mem_append]
    exact .inl hn
  | d0 :: ds, i + 1, D, h, n, hn => by
    simp only [List.getElem?_cons_succ] at h
    simp only [DataW.weightsAll, List.mem_append]
    exact .inr (weights_all h n hn)
theorem sized_rows {P : Program} {ts : List TypeId} {ds : List (DataW H)} (h : (DataW.weightsEach P ts ds).all (· ≤ reachBytes) = true) {j : Nat} {t e q : TypeId} {es sp : List (DataW H)} (ht : ts[j]? = some t) (hd : ds[j]? = some (.slice es sp))
    (hu : P.underlying t = some (.slice e)) (hq : P.underlying e = some (.slice q)) (hb : P.bytesOf q = 1) {l : List (List Int)} (hl : ∀ (i : Nat) (y : List Int), l[i]? = some y → ∃ D, es[i]? = some D ∧ (y = [] ∨ ∃ f s', D = .slice f s' ∧ f.length = y.length)) : ∀ y ∈ l, y.length ≤ 140737488351232 := by
  intro y hy
  obtain ⟨i, hi, rfl⟩ := List.mem_iff_getElem.1 hy
  obtain ⟨D, hD, q0 | ⟨f, s', rfl, hf⟩⟩ := hl i _ (List.getElem?_eq_getElem hi)
  · rw [q0]; simp
  · have h1 : (f.length + s'.length) * P.bytesOf q ∈ (DataW.slice f s').weights P e := by simp [DataW.weights, hq]
    have h2 : (f.length + s'.length) * P.bytesOf q ∈ (DataW.slice es sp).weights P t := by
      simp only [DataW.weights, hu]
      exact List.mem_cons_of_mem _ (List.mem_append_left _ (weights_all hD _ h1))
    have h3 := List.all_eq_true.1 h _ (DataW.weights_mem_each ht hd _ h2)
    rw [hb] at h3
    have h4 : (f.length + s'.length) * 1 ≤ reachBytes := by simpa using h3
    simp only [reachBytes] at h4
    omega
theorem open_rows {r : Reach} {B : Nat} {t e q : TypeId} {v : Value} {d : DataW H} {p : List MemPlace} (ht : P.underlying t = some (.slice e)) (he : P.underlying e = some (.slice q)) (hq : P.underlying q = some (.int .u8)) (ce : P.cellsOf e = 1) (cq : P.cellsOf q = 1)
    (hv : Value.okWide P W r B t v) (h : DataW.Trod enc P W base (fun _ => true) true t v d p) :
    ∃ (A : Option Addr) (c : Nat) (l : List (List Int)), v = .slice A l.length c ∧ l.length ≤ c ∧ (Kd.slice q (Kd.int .u8)).C W A l.length l ∧ (∀ x ∈ l, ∀ y ∈ x, (Lit.int .u8 y).wf = true) ∧ (∀ x ∈ l, x.length ≤ 9223372036854775807) ∧
      ∃ es sp : List (DataW H), (d = .nil ∧ l = []) ∨ (d = .slice es sp ∧ es.length = l.length ∧ ∀ (j : Nat) (y : List Int), l[j]? = some y → ∃ D, es[j]? = some D ∧ (y = [] ∨ ∃ f s', D = .slice f s' ∧ f.length = y.length)) := by
  obtain ⟨A, n, c, rfl⟩ := okWide_slice ht hv
  obtain ⟨fuel, hf⟩ := h
  rcases open_int_rows ht he hq ce cq hf with ⟨hcs, hx⟩ | ⟨x, l, c', AA, L, C, Z, hcs, _, hl, hm, hx, hcell⟩
  · simp [Value.cells] at hcs
    obtain ⟨rfl, rfl, rfl⟩ := hcs
    simp only [Prod.mk.injEq] at hx
    exact ⟨none, 0, [], rfl, Nat.le_refl _, Kd.C_nil _ _, by simp, by simp, [], [], .inl ⟨hx.1, rfl⟩⟩
  · simp [Value.cells] at hcs
    obtain ⟨rfl, rfl, rfl⟩ := hcs
    simp only [Prod.mk.injEq] at hx
    let R : List (List Int) := (List.range n).map fun r => (Z r).take (L r)
    have hlen : R.length = n := by simp [R]
    have hrow : ∀ j, j < n → R[j]? = some ((Z j).take (L j)) := fun j hj => by simp [R, List.getElem?_map, List.getElem?_range hj]
    have hrl : ∀ j, j < n → ((Z j).take (L j)).length = L j := fun j hj => by
      obtain ⟨_, h1, _, h3, _⟩ := hcell j (by omega)
      rw [List.length_take]; omega
    have hes : ∀ (j : Nat) (y : List Int), R[j]? = some y → ∃ D : DataW H, ((List.range n).map fun r => intRow (H := H) .u8 (AA r) (L r) (Z r))[j]? = some D ∧ (y = [] ∨ ∃ f s', D = .slice f s' ∧ f.length = y.length) := fun j y hy => by
      have hj : j < n := by rw [← hlen]; exact (List.getElem?_eq_some_iff.1 hy).1
      rw [hrow j hj] at hy
      obtain rfl := Option.some.inj hy
      refine ⟨_, by rw [List.getElem?_map, List.getElem?_range hj]; rfl, ?_⟩
      obtain ⟨h0, h1, h2, h3, h4, h5, h6⟩ := hcell j (by omega)
      cases hA : AA j with
      | none =>
        left
        have := h5 hA
        exact List.length_eq_zero_iff.1 (by rw [hrl j hj]; omega)
      | some a' => right; exact ⟨lits .u8 ((Z j).take (L j)), lits .u8 ((Z j).drop (L j)), by simp only [hA, intRow], by simp [lits]⟩
    refine ⟨some x, c, R, by rw [hlen], by rw [hlen]; exact hl, ?_, fun y hy z hz => ?_, fun y hy => ?_, _, _, .inr ⟨hx.1, by simp [R], hes⟩⟩
    · rw [hlen]
      refine ⟨hlen, by simp only [maxLen] at hm; omega, fun _ => ⟨x, rfl, fun j y hy => ?_⟩⟩
      have hj : j < n := by rw [← hlen]; exact (List.getElem?_eq_some_iff.1 hy).1
      rw [hrow j hj] at hy
      obtain rfl := Option.some.inj hy
      obtain ⟨h0, h1, h2, h3, h4, h5, h6⟩ := hcell j (by omega)
      refine ⟨[.slice (AA j) (L j) (C j)], rfl, ⟨AA j, C j, by rw [hrl j hj], by rw [hrl j hj]; exact h1, ?_⟩, fun i u hu => ?_⟩
      · show (Kd.int .u8).C W (AA j) ((Z j).take (L j)).length ((Z j).take (L j))
        rw [hrl j hj]
        refine Kd.C_of_reads (d := (0 : Int)) (h1 := fun _ => rfl) ⟨hrl j hj, by simp only [maxLen] at h2; omega, fun hp => ?_⟩
        cases hA : AA j with
        | none => have := h5 hA; omega
        | some a' =>
          refine ⟨a', rfl, fun i hi => ?_⟩
          rw [(h6 a' hA).2 i (by omega)]
          congr 2
          rw [List.getD_eq_getElem?_getD, List.getD_eq_getElem?_getD, List.getElem?_take_of_lt hi]
      · have hi : i = 0 := by
          have := (List.getElem?_eq_some_iff.1 hu).1
          simpa using this
        subst hi
        simp only [List.getElem?_cons_zero, Option.some.injEq] at hu
        subst hu
        show W.cell? (x.add (j * 1 + 0)) = _
        rw [Nat.mul_one, Nat.add_zero]; exact h0
    · obtain ⟨j, hj, rfl⟩ := List.mem_map.1 hy
      have hj := List.mem_range.1 hj
      obtain ⟨_, _, _, _, h4, _⟩ := hcell j (by omega)
      exact h4 z (List.mem_of_mem_take hz)
    · obtain ⟨j, hj, rfl⟩ := List.mem_map.1 hy
      have hj := List.mem_range.1 hj
      obtain ⟨_, h1, h2, _, _⟩ := hcell j (by omega)
      rw [hrl j hj]; simp only [maxLen] at h2; omega
end
end Go.Proofs.Ythlgmmgdaciinaa.Hand
end
