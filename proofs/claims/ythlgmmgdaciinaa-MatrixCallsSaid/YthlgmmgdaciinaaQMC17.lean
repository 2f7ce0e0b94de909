/- QMC, part 17: P3 MatMul HCut HRefSame. -/
import Derived.Test.YthlgmmgdaciinaaQMC7
import Derived.Test.YthlgmmgdaciinaaQMC8
import Derived.Test.YthlgmmgdaciinaaQMC11
import Derived.Test.YthlgmmgdaciinaaQMC14
import Derived.Test.YthlgmmgdaciinaaQMC15
import Derived.Test.YthlgmmgdaciinaaQMC16

section
namespace Go.Proofs.Ythlgmmgdaciinaa.P
open Go.Proofs.Ythlgmmgdaciinaa.Hand Go.RowKit Go.Proofs.YthlgmmgdaciinaaW.PrintWords Go.Proofs.YthlgmmgdaciinaaW.PrintLast Go.Proofs.YthlgmmgdaciinaaW.PrintMore
attribute [local go_sem] max2_int min2_int max_two min_two max_three min_three max_four min_four   -- for this text's walks alone
set_option linter.unusedVariables false
set_option linter.unusedSimpArgs false
def braidworklaw06_shaped.T9 : Bool × List (List Nat × List Nat) := (true, [([], []), ([], []), ([0, 1], [0, 1]), ([2], [2]), ([], []), ([], []), ([], []), ([], []), ([6, 7], [6, 7]), ([], []), ([8, 9], [8, 9]), ([5, 10], [5, 10]), ([11], [11]), ([3, 4, 0, 1, 2, 3, 4, 5, 6, 7, 8, 9, 10, 11, 12], [3, 4]), ([13, 12, 0, 1, 2, 3, 4, 5, 6, 7, 8, 9, 10, 11, 12], [12, 13])])
def braidworklaw06_shaped.B9 : List Nat := [0, 0, 3, 7, 0, 0, 0, 0, 192, 0, 960, 2016, 4064, 8191, 16383]
theorem braidworklaw06_shaped.tab9 : rtab .any (opsOf Try.f10 9) = braidworklaw06_shaped.T9 := by kernel_rfl
theorem braidworklaw06_shaped.bits9 : waitsOk braidworklaw06_shaped.T9.2 braidworklaw06_shaped.B9 = true := by kernel_rfl
def matrix_Rank.f (l0 : List (List Int)) : Option (Int × Int) := (matrix_Reduce.f l0).bind fun bt255 => (some ((bt255.1.length : Int), bt255.2))
set_option maxHeartbeats 8000000 in
set_option maxRecDepth 100000 in
theorem matrix_Rank.calls (A0 : Option Addr) (c0 : Nat) (l0 : List (List Int)) (r1 : Int) (r2 : Int) (w : World) (hr0 : Kd.C (Kd.slice 5 (Kd.int .u8)) w A0 l0.length l0) (hc0 : l0.length ≤ c0) (h : matrix_Rank.f l0 = some (r1, r2)) :
    Calls Try.prog 17 #[.slice A0 l0.length c0] w fun e w' => e = .returned (.tuple #[.int .i64 r1, .int .i64 r2]) ∧ Below w.heap.size w w' := by
  have HR0 := Aside0.mk hr0
  have HC0 := Aside0.mk hc0
  clear hr0 hc0
  have HB := Aside0.mk (Below.refl w.heap.size w)
  have H : ((matrix_Reduce.f l0).bind fun bt255 => (some ((bt255.1.length : Int), bt255.2))) = some (r1, r2) := h
  clear h
  replace H := Option.bind_eq_some_iff.mp H
  obtain ⟨⟨t255, t256⟩, A20, H⟩ := H
  replace H : (some ((t255.length : Int), t256)) = some (r1, r2) := H
  have A2 := Aside0.mk A20
  clear A20
  simp only [Option.some.injEq, Prod.mk.injEq] at H
  obtain ⟨rfl, rfl⟩ := H
  go_enter Try.func17, Try.ntmps17
  go_wp2_with (first | ((with_reducible refine gate_callee (f := 19) rfl ?_); refine goesL_ (some 8) rfl rfl Try.func19 (by kernel_rfl) rfl #[.slice A0 l0.length c0] rfl (by (try simp only [List.map_toArray, List.map_cons, List.map_nil]); first | done | rfl | (simp only [List.length_drop, List.length_take]; rfl)) ?_; (with_reducible refine (matrix_Reduce.calls _ _ l0 t255 t256 _ ?side1 ?side2 A2.out).mono ?_); (case side1 => repeat (first | exact HR0.out | (with_reducible refine Kd.C_alloc ?_ _) | (with_reducible refine Kd.C_drewN ?_ _) | (with_reducible refine Kd.C_drew ?_))); (case side2 => exact HC0.out); rintro e w3 ⟨v257, rfl, ho0, hb⟩; refine ⟨_, rfl, ?_⟩; have n0_ := Aside0.mk (Kd.S_lower ho0 (below_size (by repeat (first | (with_reducible first | exact HB.out | apply below_alloc | apply pw_below_drewN | apply below_drew1) | exact HB.out)))); have n1_ := Aside0.mk (below_step (by repeat (first | (with_reducible first | exact HB.out | apply below_alloc | apply pw_below_drewN | apply below_drew1) | exact HB.out)) hb); clear HB; have HO258 := n0_; have HB := n1_; clear n0_ n1_; (try clear hb); (try clear hb2); (try clear hk); (try clear hi); (try clear ho0); obtain ⟨Ao4, co4, eo4⟩ := Kd.S_slice HO258.out; subst eo4))
  go_ret2
  exact ⟨by first | rfl | (simp [errW_none, errW_some] <;> rfl) | (simp [*, errW_none, errW_some] <;> rfl), by repeat (first | (with_reducible first | exact HB.out | apply below_alloc | apply pw_below_drewN | apply below_drew1) | exact HB.out)⟩
end Go.Proofs.Ythlgmmgdaciinaa.P
end

section
namespace Go.Proofs.Ythlgmmgdaciinaa.Plain
open Go.Proofs.Ythlgmmgdaciinaa.Hand Go.Proofs.Ythlgmmgdaciinaa.GF Go.Proofs.Ythlgmmgdaciinaa.LA Go.RowKit Go.Proofs.Ythlgmmgdaciinaa.P Go.Proofs.YthlgmmgdaciinaaW.PrintWords Go.Proofs.YthlgmmgdaciinaaW.PrintLast
def identRows (n : Nat) : List (List Int) := (List.range n).map (unitRow n)
theorem wakes_ok (k : Nat) : braidworklaw06_wakes.f (k + 8) = some true := by kernel_rfl
end Go.Proofs.Ythlgmmgdaciinaa.Plain
namespace Go.Proofs.Ythlgmmgdaciinaa.Plain
open Go.Proofs.Ythlgmmgdaciinaa.Hand Go.Proofs.Ythlgmmgdaciinaa.GF Go.Proofs.Ythlgmmgdaciinaa.LA Go.RowKit Go.Proofs.Ythlgmmgdaciinaa.P Go.Proofs.YthlgmmgdaciinaaW.PrintWords Go.Proofs.YthlgmmgdaciinaaW.PrintLast
theorem comb_cons (v : V) (l : List V) (c : Nat → G) : comb (v :: l) c = va (vs (c 0) v) (comb l fun j => c (j + 1)) := funext fun k => by
  unfold comb va vs
  rw [List.length_cons, Nat.add_comm, S_append]
  congr 1
  · show 0#8 ^^^ _ = _
    rw [BitVec.zero_xor]; rfl
  · exact S_congr fun i _ => by rw [Nat.add_comm]; rfl
theorem rd_L1_nat (l : List (List Int)) (i : Nat) (h : i < l.length) : rd_L1 l (i : Int) = l[i] := by
  unfold rd_L1; rw [Int.toNat_natCast, List.getD_eq_getElem?_getD, List.getElem?_eq_getElem h, Option.getD_some]
theorem rd_L1_getD (l : List (List Int)) (i : Nat) : rd_L1 l (i : Int) = l.getD i [] := by
  unfold rd_L1; rw [Int.toNat_natCast]
theorem rd_at (l : List Int) (i : Nat) (h : i < l.length) : rd l (i : Int) = l[i] := by
  rw [rd_nat, List.getD_eq_getElem?_getD, List.getElem?_eq_getElem h, Option.getD_some]
theorem combine_loop {n : Nat} (l : List (List Int)) (c : List Int) (hr : ∀ r ∈ l, r.length = n ∧ areB r) (hc : c.length = l.length) (hB : areB c) (hn : n ≤ vN) (hl : l.length < 9223372036854775807) (d : Nat) :
    ∀ (i k : Nat) (acc : List Int), acc.length = n → areB acc → i + d = l.length → d < k →
      ∃ out, vector_Combine.l0 k l c acc (l.length : Int) i = some (out, 0) ∧ out.length = n ∧ areB out ∧ vec out = va (vec acc) (comb ((l.drop i).map vec) fun j => vec c (i + j)) := by
  induction d with
  | zero =>
    intro i k acc h1 h2 h3 h4
    obtain ⟨k, rfl⟩ : ∃ m, k = m + 1 := ⟨k - 1, by omega⟩
    refine ⟨acc, ?_, h1, h2, ?_⟩
    · simp only [vector_Combine.l0]
      rw [if_neg (by omega)]
    · rw [List.drop_of_length_le (by omega)]
      exact (va_zero _).symm
  | succ d ih =>
    intro i k acc h1 h2 h3 h4
    obtain ⟨k, rfl⟩ : ∃ m, k = m + 1 := ⟨k - 1, by omega⟩
    have hi : i < l.length := by omega
    have hri := hr _ (List.getElem_mem hi)
    have hci := hB _ (List.getElem_mem (show i < c.length by omega))
    have hz : acc.length = (l[i]).length := by omega
    have ha : vector_AddScaled.f acc l[i] (c[i]'(by omega)) = some (List.zipWith (fun x y => xr x (gm y (c[i]'(by omega)))) acc l[i], 0) := by
      unfold vector_AddScaled.f
      rw [if_pos hz, if_pos ⟨by omega, hri.2, hci⟩]
    obtain ⟨out, g1, g2, g3, g4⟩ := ih (i + 1) k _ (show (List.zipWith (fun x y => xr x (gm y (c[i]'(by omega)))) acc l[i]).length = n by rw [List.length_zipWith]; omega) (areB_zip _ (fun x y => xr_B _ _) _ _) (by omega) (by omega)
    refine ⟨out, ?_, g2, g3, ?_⟩
    · simp only [vector_Combine.l0]
      rw [if_pos (by omega), if_pos (by omega), if_pos (by omega), if_pos (by omega), rd_L1_nat l i hi, rd_at c i (by omega), ha, Option.bind_some, if_pos rfl, show wrap64 ((i : Int) + 1) = ((i + 1 : Nat) : Int) from by unfold wrap64; omega]
      exact g1
    · rw [g4, vec_addScaled hz, List.drop_eq_getElem_cons hi, List.map_cons, comb_cons, va_assoc]
      congr 2
      · rw [Nat.add_zero, vec_lt (by omega)]
      · rw [show (fun j => vec c (i + 1 + j)) = fun j => vec c (i + (j + 1)) from funext fun j => by rw [show i + 1 + j = i + (j + 1) from by omega]]
theorem combine_f {n : Nat} (l : List (List Int)) (c : List Int) (hr : Fits n l) (h0 : 0 < l.length) (hc : c.length = l.length) (hB : areB c) (hn : n ≤ vN) (hl : l.length < 9223372036854775807) (k : Nat) (hk : l.length < k) :
    ∃ out, vector_Combine.f k l c = some (out, 0) ∧ out.length = n ∧ areB out ∧ vec out = comb (vecs l) (vec c) := by
  obtain ⟨out, g1, g2, g3, g4⟩ := combine_loop l c hr hc hB hn hl l.length 0 k (List.replicate n 0) (by simp) (areB_zeros n) (by omega) hk
  refine ⟨out, ?_, g2, g3, ?_⟩
  · have hz : (rd_L1 l 0).length = n := by
      rw [show (0 : Int) = ((0 : Nat) : Int) from rfl, rd_L1_nat l 0 h0]
      exact (hr _ (List.getElem_mem h0)).1
    unfold vector_Combine.f
    unfold vN at hn
    rw [if_neg (by omega), if_pos (by omega), if_pos (by omega), if_pos (by omega), hz, if_pos (by omega), Int.toNat_natCast]
    exact g1
  · rw [g4, List.drop_zero, vec_zeros, va_comm, va_zero]
    congr 1
    funext j
    rw [Nat.zero_add]
def Fit1 (c : Nat) (r : List Int) : Prop := r.length = c ∧ areB r
theorem fits_of {c : Nat} {L : List (List Int)} (h : ∀ j, j < L.length → Fit1 c (L.getD j [])) : Fits c L := fun r hr => by
  obtain ⟨j, hj, rfl⟩ := List.mem_iff_getElem.1 hr
  have := h j hj
  rw [List.getD_eq_getElem?_getD, List.getElem?_eq_getElem hj] at this
  exact this
theorem mul_loop {m c : Nat} (A B : List (List Int)) (hA : Fits m A) (hB : Fits c B) (hBl : B.length = m) (hm : 0 < m) (hc : c ≤ vN) (hAl : A.length < 1000000000) (hml : m < 1000000000) (d : Nat) :
    ∀ (i k : Nat) (x : List (List Int)), i + d = A.length → d + m + 1 < k → x.length = A.length → (∀ j, j < i → Fit1 c (x.getD j []) ∧ vec (x.getD j []) = comb (vecs B) (vec (A.getD j []))) →
      ∃ C, matrix_Mul.l0 k A B x (A.length : Int) i = some (C, 0) ∧ C.length = A.length ∧ ∀ j, j < A.length → Fit1 c (C.getD j []) ∧ vec (C.getD j []) = comb (vecs B) (vec (A.getD j [])) := by
  induction d with
  | zero =>
    intro i k x h1 h2 h3 h4
    obtain ⟨k, rfl⟩ : ∃ m, k = m + 1 := ⟨k - 1, by omega⟩
    refine ⟨x, ?_, h3, fun j hj => h4 j (by omega)⟩
    simp only [matrix_Mul.l0]
    rw [if_neg (by omega)]
  | succ d ih =>
    intro i k x h1 h2 h3 h4
    obtain ⟨k, rfl⟩ : ∃ m, k = m + 1 := ⟨k - 1, by omega⟩
    have hi : i < A.length := by omega
    have hAi := getD_fits hA hi
    obtain ⟨out, g1, g2, g3, g4⟩ := combine_f B (A.getD i []) hB (by omega) (by rw [hAi.1, hBl]) hAi.2 hc (by omega) k (by omega)
    obtain ⟨C, c1, c2, c3⟩ := ih (i + 1) k (x.set i out) (by omega) (by omega) (by rw [List.length_set]; exact h3) (fun j hj => by
      rw [getD_set _ _ _ _ (by omega)]
      by_cases e : j = i
      · rw [if_pos e, e]; exact ⟨⟨g2, g3⟩, g4⟩
      · rw [if_neg e]; exact h4 j (by omega))
    refine ⟨C, ?_, c2, c3⟩
    simp only [matrix_Mul.l0]
    rw [if_pos (by omega), if_pos (by omega), if_pos (by omega), rd_L1_getD, g1, Option.bind_some, if_pos (by omega), Int.toNat_natCast, show wrap64 ((i : Int) + 1) = ((i + 1 : Nat) : Int) from by unfold wrap64; omega]
    exact c1
theorem size_f {n : Nat} {L : List (List Int)} (hL : Fits n L) (hp : 0 < L.length) (hl : L.length < 1000000000) : matrix_Size.f L = some ((L.length : Int), (n : Int), 0) := by
  rw [size_ok L hl (any_len hL), width hL hp]
theorem mul_f {m c : Nat} (A B : List (List Int)) (hA : Fits m A) (hB : Fits c B) (hBl : B.length = m) (hm : 0 < m) (hc : c ≤ vN) (hAp : 0 < A.length) (hAl : A.length < 1000000000) (hml : m < 1000000000) (k : Nat) (hk : A.length + m + 3 < k) :
    ∃ C, matrix_Mul.f k A B = some (C, 0) ∧ C.length = A.length ∧ Fits c C ∧ vecs C = prod (vecs A) (vecs B) := by
  obtain ⟨k, rfl⟩ : ∃ m, k = m + 1 := ⟨k - 1, by omega⟩
  obtain ⟨C, c1, c2, c3⟩ := mul_loop A B hA hB hBl hm hc hAl hml A.length 0 k (List.replicate A.length []) (by omega) (by omega) (by simp) (fun j hj => absurd hj (by omega))
  refine ⟨C, ?_, c2, fits_of fun j hj => (c3 j (by omega)).1, ?_⟩
  · unfold matrix_Mul.f
    rw [size_f hA hAp hAl, Option.bind_some, size_f hB (by omega) (by omega), Option.bind_some, if_pos rfl, if_pos rfl, hBl]
    simp only [matrix_Mul.j0]
    rw [if_neg (by simp), if_pos (by omega), if_pos (by omega), Option.bind_some, Int.toNat_natCast, List.length_replicate]
    exact c1
  · refine ext_rows (by rw [prod_length, vecs_length, vecs_length, c2]) fun j hj => ?_
    rw [vecs_length, c2] at hj
    rw [prod_row (by rw [vecs_length]; exact hj), vecs_row, vecs_row]
    exact (c3 j hj).2
theorem identRows_length (n : Nat) : (identRows n).length = n := by simp [identRows]
theorem identRows_fits (n : Nat) : Fits n (identRows n) := fun r hr => by
  obtain ⟨i, _, rfl⟩ := List.mem_map.1 hr
  exact ⟨unitRow_length _ _, unitRow_B _ _⟩
theorem rd_B {b : List Int} (hb : areB b) (i : Int) : isB (rd b i) := by
  unfold rd
  rw [List.getD_eq_getElem?_getD]
  cases h : b[i.toNat]? with
  | none => exact ⟨by decide, by decide⟩
  | some x => exact hb x (List.mem_of_getElem? h)
def Pre (rows cols : Nat) (x : List (List Int)) (i : Nat) : Prop := x.length = rows ∧ ∀ j, j < i → Fit1 cols (x.getD j [])
theorem Pre.set {rows cols : Nat} {x : List (List Int)} {i : Nat} (h : Pre rows cols x i) (hi : i < rows) {r : List Int} (hr : Fit1 cols r) : Pre rows cols (x.set i r) (i + 1) := ⟨by rw [List.length_set]; exact h.1, fun j hj => by
  rw [getD_set _ _ _ _ (by rw [h.1]; exact hi)]
  by_cases e : j = i
  · rw [if_pos e]; exact hr
  · rw [if_neg e]; exact h.2 j (by omega)⟩
end Go.Proofs.Ythlgmmgdaciinaa.Plain
end

section
set_option linter.unusedVariables false
set_option linter.unusedSimpArgs false
namespace Go.Proofs.Ythlgmmgdaciinaa.Plain
open Go.Proofs.Ythlgmmgdaciinaa.Hand Go.RowKit Go.Proofs.YthlgmmgdaciinaaW.PrintWords Go.Proofs.YthlgmmgdaciinaaW.PrintLast Go.Proofs.YthlgmmgdaciinaaW.PrintMore
attribute [local go_sem] max2_int min2_int max_two min_two
def cutL (L : List (List Int)) : List (List Int) := (L.take 12).map fun r => r.take 12
theorem cu_next (k : Nat) (h : k ≤ 1000000000) : wrap64 ((k : Int) + 1) = ((k + 1 : Nat) : Int) := by unfold wrap64; omega
theorem cu_len {i : Nat} (l : List (List Int)) (f : List Int → List Int) (z : List Int) (h : i ≤ 12) : (((l.take i).map f).length + [z].length) * 24 ≤ 140737488355328 := by
  rw [List.length_map, List.length_take, List.length_singleton]; omega
theorem cu_succ (f : List Int → List Int) (l : List (List Int)) (i : Nat) (h : i < l.length) : (l.take (i + 1)).map f = (l.take i).map f ++ [f (l.getD i [])] := by
  rw [List.take_add_one, List.getElem?_eq_getElem h, Option.toList_some, List.map_append, List.getD_eq_getElem?_getD, List.getElem?_eq_getElem h]; rfl
set_option maxHeartbeats 1000000 in
set_option maxRecDepth 100000 in
theorem cut_calls (A0 : Option Addr) (c0 : Nat) (L : List (List Int)) (w : World) (hr0 : Kd.C rowK w A0 L.length L) (hc0 : L.length ≤ c0) (hL : L.length ≤ 140737488355328) :
    Calls Try.prog 25 #[.slice A0 L.length c0] w fun e w' => ∃ v : Value, e = .returned v ∧ Kd.N rowK 22 w' w.heap.size (fun _ => True) v (cutL L) ∧ Below w.heap.size w w' := by
  have Hl := Aside0.mk hr0
  have Cl := Aside0.mk hc0
  clear hr0 hc0
  go_enter Try.func25, Try.ntmps25
  go_wp2
  go_loopg [4, 3] 12 (fun kq v4 v3 w' => ∃ i : Nat, v4 = .int .i64 (i : Int) ∧ Aside0 (kq + i = 12) ∧ Aside0 (i ≤ L.length) ∧ Aside0 (Kd.N rowK 22 w' w.heap.size (fun _ => True) v3 ((L.take i).map fun r => r.take 12)) ∧ Aside0 (Below w.heap.size w w'))
  case atStart => exact ⟨0, rfl, ⟨rfl⟩, ⟨Nat.zero_le _⟩, ⟨by rw [List.take_zero]; exact Kd.N_nil _ _ _ _ _⟩, ⟨Below.refl _ _⟩⟩
  case round =>
    obtain ⟨i, rfl, HI, HIL, HN, HW⟩ := hrel
    by_cases hi : i < L.length
    · have p0 : (0 : Int) ≤ (i : Int) := Int.natCast_nonneg _
      have p1 : (i : Int) < (L.length : Int) := Int.ofNat_lt.2 hi
      have q1 : decide ((i : Int) < (L.length : Int)) = true := decide_eq_true p1
      by_cases h12 : i < 12
      · have r1 : decide ((i : Int) < 12) = true := decide_eq_true (by omega)
        have r2 : ((i : Int) < 12) = True := eq_true (by omega)
        have r3 : (i < 12) = True := eq_true h12
        obtain ⟨ad, Ai, ci, e1, hx1, hl1, hi1⟩ := at_R Hl.out (i : Int) p0 p1
        cases e1
        have er : rdR L (i : Int) = L.getD i [] := by unfold rdR; rw [Int.toNat_natCast]
        rw [er] at hx1 hl1 hi1
        rw [Int.toNat_natCast] at hx1
        have HX0 := Aside0.mk hx1
        replace hx1 := (HW.out.cell (World.block_lt_of_cell? _ _ hx1)).trans hx1
        have hx0 := Kd.C_below hi1 HW.out
        have HS := Aside0.mk (cu_succ (fun r => r.take 12) L i hi)
        have hnx := cu_next i (by omega)
        have q4 := eq_true p0
        have q5 := eq_true p1
        have q6 := eq_true hi
        have Hi := Aside0.mk (And.intro hi h12)
        clear p0 p1 hi er hi1 h12
        generalize L.getD i [] = x at *
        obtain ⟨q, hq⟩ : ∃ q, q = min x.length 12 := ⟨_, rfl⟩
        have hmn : (if (x.length : Int) < 12 then (x.length : Int) else 12) = (q : Int) := by rw [hq]; split <;> omega
        have hmn2 : (if 12 < (x.length : Int) then (12 : Int) else (x.length : Int)) = (q : Int) := by rw [hq]; split <;> omega
        have hmn3 : min (x.length : Int) 12 = (q : Int) := by rw [hq]; omega
        have hqx : q ≤ x.length := by omega
        have et : x.take 12 = x.take q := by rw [hq, List.take_eq_take_iff]; omega
        obtain ⟨info, hinfo, hinf2⟩ := Option.map_eq_some_iff.1 infoT5
        have hcut1 := cut_to (P := Try.prog) 22 5 .i64 Try.underlying22 hinfo Ai x.length ci (q : Int) (Int.natCast_nonneg _) (Int.ofNat_le.2 hqx) hl1
        rw [Int.toNat_natCast] at hcut1
        have ht := Kd.C_take (m := q) hx0 hqx
        have e1 : (x.take q).length = q := by rw [List.length_take]; omega
        obtain ⟨z, hz⟩ : ∃ z, z = x.take q := ⟨_, rfl⟩
        rw [← hz] at ht e1
        rw [e1] at ht
        rw [et, ← hz] at HS
        have LEN := Aside0.mk (show ((((L.take i).map fun r => r.take 12) : List (List Int)).length + [z].length) * 24 ≤ 140737488355328 from cu_len (i := i) L (fun r => r.take 12) z (by have := Hi.out; omega))
        have HT := Aside0.mk ht
        have E1 := Aside0.mk e1
        have Q12 := Aside0.mk (show q ≤ 12 from by omega)
        have q7 := eq_true (Int.natCast_nonneg q)
        have q8 := eq_true (show (q : Int) ≤ (x.length : Int) from Int.ofNat_le.2 hqx)
        clear hx0 hq ht e1 et hinfo hinf2 hqx hz
        cases gk with
        | zero => exact absurd HI.out (by have := Hi.out; omega)
        | succ k1 =>
        go_wp2
        refine start_ (n := 16) (S := fun w' => w'.cell? (ad.add i) = some (.slice Ai x.length ci)) (ds := []) #[false, false, false, false, false, false, false, false, false, false, false, false, false, false, false, false] (by kernel_rfl) rfl rfl (by simpa using hx1) (fun hHeld => ?_)
        have HX := HT
        replace HX := Aside0.mk (Kd.C_below HT.out (below_drew (Below.refl wr.heap.size wr)))
        replace HN := Aside0.mk (Kd.N_drew HN.out)
        replace HW := Aside0.mk (below_drew HW.out)
        clear hx1 HT
        generalize wr.drew = w4 at HX HN HW hHeld ⊢
        refine pure_ (i := 0) (N := some 15) (v := ?_) (a' := ?_) #[true, false, false, false, false, false, false, false, false, false, false, false, false, false, false, false] rfl rfl (by kernel_rfl) (fun _ _ _ h => h) (Or.inl ⟨by rfl, ?_⟩) ?_ ?_
        rotate_left
        · intro w'
          go_simp
          with_reducible rfl
        rotate_left
        · simp only [Act.put, List.setIfInBounds_toArray, List.set_cons_zero, List.set_cons_succ, i64_w, i32_w]
          rfl
        refine pure_ (i := 1) (N := some 16) (v := ?_) (a' := ?_) #[true, true, false, false, false, false, false, false, false, false, false, false, false, false, false, false] rfl rfl (by kernel_rfl) (fun _ _ _ h => h) (Or.inl ⟨by rfl, ?_⟩) ?_ ?_
        rotate_left
        · intro w'
          go_simp
          with_reducible rfl
        rotate_left
        · simp only [Act.put, List.setIfInBounds_toArray, List.set_cons_zero, List.set_cons_succ, i64_w, i32_w]
          rfl
        refine pure_ (i := 2) (N := some 17) (v := ?_) (a' := ?_) #[true, true, true, false, false, false, false, false, false, false, false, false, false, false, false, false] rfl rfl (by kernel_rfl) (fun _ _ _ h => h) (Or.inl ⟨by rfl, ?_⟩) ?_ ?_
        rotate_left
        · intro w'
          go_simp
          with_reducible rfl
        rotate_left
        · simp only [Act.put, List.setIfInBounds_toArray, List.set_cons_zero, List.set_cons_succ, i64_w, i32_w]
          rfl
        refine pure_ (i := 3) (N := some 18) (v := ?_) (a' := ?_) #[true, true, true, true, false, false, false, false, false, false, false, false, false, false, false, false] rfl rfl (by kernel_rfl) (fun _ _ _ h => h) (Or.inl ⟨by rfl, ?_⟩) ?_ ?_
        rotate_left
        · intro w'
          go_simp
          with_reducible rfl
        rotate_left
        · simp only [Act.put, List.setIfInBounds_toArray, List.set_cons_zero, List.set_cons_succ, i64_w, i32_w]
          rfl
        refine pure_ (i := 5) (N := some 20) (v := ?_) (a' := ?_) #[true, true, true, true, false, true, false, false, false, false, false, false, false, false, false, false] rfl rfl (by kernel_rfl) (fun _ _ _ h => h) (Or.inl ⟨by rfl, ?_⟩) ?_ ?_
        rotate_left
        · intro w'
          go_simp
          with_reducible rfl
        rotate_left
        · simp only [Act.put, List.setIfInBounds_toArray, List.set_cons_zero, List.set_cons_succ, i64_w, i32_w]
          rfl
        refine pure_ (i := 6) (N := some 21) (v := ?_) (a' := ?_) #[true, true, true, true, false, true, true, false, false, false, false, false, false, false, false, false] rfl rfl (by kernel_rfl) (fun _ _ _ h => h) (Or.inl ⟨by rfl, ?_⟩) ?_ ?_
        rotate_left
        · intro w'
          go_simp
          with_reducible rfl
        rotate_left
        · simp only [Act.put, List.setIfInBounds_toArray, List.set_cons_zero, List.set_cons_succ, i64_w, i32_w]
          rfl
        refine pure_ (i := 7) (N := some 22) (v := ?_) (a' := ?_) #[true, true, true, true, false, true, true, true, false, false, false, false, false, false, false, false] rfl rfl (by kernel_rfl) (fun _ _ _ h => h) (Or.inl ⟨by rfl, ?_⟩) ?_ ?_
        rotate_left
        · intro w'
          go_simp
          with_reducible rfl
        rotate_left
        · simp only [Act.put, List.setIfInBounds_toArray, List.set_cons_zero, List.set_cons_succ, i64_w, i32_w]
          rfl
        refine take_ (i := 4) (N := some 19) (v := ?_) (a' := ?_) #[true, true, true, true, true, true, true, true, false, false, false, false, false, false, false, false] rfl rfl (by kernel_rfl) (fun _ _ _ h => h) (Or.inl ⟨by rfl, ?_⟩) hHeld ?_ ?_
        rotate_left
        · intro w' s0
          go_simp
          with_reducible rfl
        rotate_left
        · simp only [Act.put, List.setIfInBounds_toArray, List.set_cons_zero, List.set_cons_succ, i64_w, i32_w]
          rfl
        refine take_ (i := 8) (N := some 23) (v := ?_) (a' := ?_) #[true, true, true, true, true, true, true, true, true, false, false, false, false, false, false, false] rfl rfl (by kernel_rfl) (fun _ _ _ h => h) (Or.inl ⟨by rfl, ?_⟩) hHeld ?_ ?_
        rotate_left
        · intro w' s0
          go_simp
          with_reducible rfl
        rotate_left
        · simp only [Act.put, List.setIfInBounds_toArray, List.set_cons_zero, List.set_cons_succ, i64_w, i32_w]
          rfl
        refine pure_ (i := 9) (N := some 24) (v := ?_) (a' := ?_) #[true, true, true, true, true, true, true, true, true, true, false, false, false, false, false, false] rfl rfl (by kernel_rfl) (fun _ _ _ h => h) (Or.inl ⟨by rfl, ?_⟩) ?_ ?_
        rotate_left
        · intro w'
          go_simp
          with_reducible rfl
        rotate_left
        · simp only [Act.put, List.setIfInBounds_toArray, List.set_cons_zero, List.set_cons_succ, i64_w, i32_w]
          rfl
        refine pure_ (i := 10) (N := some 25) (v := ?_) (a' := ?_) #[true, true, true, true, true, true, true, true, true, true, true, false, false, false, false, false] rfl rfl (by kernel_rfl) (fun _ _ _ h => h) (Or.inl ⟨by rfl, ?_⟩) ?_ ?_
        rotate_left
        · intro w'
          go_simp
          with_reducible rfl
        rotate_left
        · simp only [Act.put, List.setIfInBounds_toArray, List.set_cons_zero, List.set_cons_succ, i64_w, i32_w]
          rfl
        refine pure_ (i := 11) (N := some 26) (v := ?_) (a' := ?_) #[true, true, true, true, true, true, true, true, true, true, true, true, false, false, false, false] rfl rfl (by kernel_rfl) (fun _ _ _ h => h) (Or.inl ⟨by rfl, ?_⟩) ?_ ?_
        rotate_left
        · intro w'
          go_simp
          with_reducible rfl
        rotate_left
        · simp only [Act.put, List.setIfInBounds_toArray, List.set_cons_zero, List.set_cons_succ, i64_w, i32_w]
          rfl
        refine one_ (i := 12) (N := some 27) #[true, true, true, true, true, true, true, true, true, true, true, true, true, false, false, false] rfl rfl (by kernel_rfl) (by decide) (fun K hK => ?_)
        refine Kd.R_append_rows_step (Kd.int .u8) (w0 := w4) w4.heap.size (by rfl) (.const (.slice none 0 0)) (.tmp 26) 22 5 (.int .u8 0) 1 rfl Try.underlying22 infoT5 rfl (by decide) (by decide) (.slice none 0 0) [] z Ai q ci (fun _ => True) (fun _ => False) rfl rfl (Kd.R_nil _ _ _ _ _) HX.out (fun _ _ h => h) (fun _ h => h.elim) (fun _ _ => trivial) (Below.refl _ _) (Nat.le_refl _) (by have := Q12.out; rw [List.length_nil]; omega) ?_
        intro v5 w5 hR hb _ _
        rw [List.nil_append] at hR
        have HLT := Aside0.mk (Kd.N_lt HN.out)
        have H45 := Aside0.mk hb.size
        obtain ⟨As, cs, rfl⟩ := Kd.R_slice hR
        have Hs := Aside0.mk (Kd.R_mono (ok' := fun k_ => some k_ ≠ u3.ownBlock) (Kd.R_bound hR) (fun k_ hk e_ => by have := HLT.out _ e_.symm; have := hk.2.1; omega))
        have Cs := Aside0.mk (Kd.R_reads' hR).2.1
        replace HN := Aside0.mk (Kd.N_below HN.out hb)
        replace HW := Aside0.mk (HW.out.trans (hb.mono HW.out.size))
        clear hR HX
        refine hK.out _ _ ((hb.cell (World.block_lt_of_cell? _ _ hHeld)).trans hHeld) (fun hHeld => ?_)
        clear hK K
        refine norm_ (a' := ?_) ?_ ?_
        rotate_left
        · show Act.put _ (some 27) _ = _
          simp only [Act.put, List.setIfInBounds_toArray, List.set_cons_zero, List.set_cons_succ, i64_w, i32_w]
          rfl
        refine one_ (i := 13) (N := some 28) #[true, true, true, true, true, true, true, true, true, true, true, true, true, true, false, false] rfl rfl (by kernel_rfl) (by decide) (fun K hK => ?_)
        refine Kd.N_lit_step rowK (w0 := w5) w5.heap.size 22 (by rfl) (N' := 28) rfl (xs := [z]) (inner := [.slice As z.length cs]) (ok := fun k_ => some k_ ≠ u3.ownBlock) (okp := fun k_ => some k_ ≠ u3.ownBlock) ?hr (Reps.one (show Kd.FK rowK _ _ z [.slice As z.length cs] from Kd.FK_slice_mk Cs.out (Kd.R_F Hs.out)) (Reps.none _ _)) (fun _ h => h) (fun e_ => by have := HLT.out _ e_.symm; have := H45.out; omega) (Below.refl _ _) (Nat.le_refl _) (by simp) ?_
        case hr => first | (go_simp; done) | (go_simp; rfl)
        intro v_ w6 ho_ hb _ _
        obtain ⟨At, ct, rfl⟩ := Kd.N_slice ho_
        have HTT := Aside0.mk (Kd.N_F ho_)
        replace HN := Aside0.mk (Kd.N_below HN.out hb)
        replace HW := Aside0.mk (HW.out.trans (hb.mono HW.out.size))
        clear ho_
        refine hK.out _ _ ((hb.cell (World.block_lt_of_cell? _ _ hHeld)).trans hHeld) (fun hHeld => ?_)
        clear hK K
        refine norm_ (a' := ?_) ?_ ?_
        rotate_left
        · show Act.put _ (some 28) _ = _
          simp only [Act.put, List.setIfInBounds_toArray, List.set_cons_zero, List.set_cons_succ, i64_w, i32_w]
          rfl
        refine one_ (i := 14) (N := some 29) #[true, true, true, true, true, true, true, true, true, true, true, true, true, true, true, false] rfl rfl (by kernel_rfl) (by decide) (fun K hK => ?_)
        refine Kd.N_append_rows_step rowK (w0 := w) w.heap.size (by rfl) (.tmp 15) (.tmp 28) 23 22 (.slice none 0 0) 24 rfl Try.underlying23 infoRows rfl (show 0 < 1 by decide) (by decide) u3 ((L.take i).map fun r => r.take 12) [z] At [z].length ct (fun _ => True) (fun k_ => some k_ ≠ u3.ownBlock) rfl rfl HN.out HTT.out (fun k hk => ⟨trivial, hk⟩) (fun _ _ => trivial) HW.out HW.out.size ?hl ?hK
        case hl => exact LEN.out
        intro v9 w9 hN hb9 _ _
        have HN9 := Aside0.mk hN
        have HW9 := Aside0.mk hb9
        have hb := (show Below w.heap.size w w9 from hb9)
        clear hN
        refine hK.out _ _ ((hb9.cell (World.block_lt_of_cell? _ _ HX0.out)).trans HX0.out) (fun hHeld => ?_)
        clear hK K
        refine norm_ (a' := ?_) ?_ ?_
        rotate_left
        · show Act.put _ (some 29) _ = _
          simp only [Act.put, List.setIfInBounds_toArray, List.set_cons_zero, List.set_cons_succ, i64_w, i32_w]
          rfl
        refine pure_ (i := 15) (N := some 3) (v := ?_) (a' := ?_) #[true, true, true, true, true, true, true, true, true, true, true, true, true, true, true, true] rfl rfl (by kernel_rfl) (fun _ _ _ h => h) (Or.inl ⟨by rfl, ?_⟩) ?_ ?_
        rotate_left
        · intro w'
          go_simp
          with_reducible rfl
        rotate_left
        · simp only [Act.put, List.setIfInBounds_toArray, List.set_cons_zero, List.set_cons_succ, i64_w, i32_w]
          rfl
        refine done_ (by kernel_rfl) ?_
        clear hHeld
        go_wp2
        go_roundg k1
        case measure => omega
        case rel => exact ⟨i + 1, by first | rfl | rw [hnx], ⟨by have := HI.out; omega⟩, ⟨by have := Hi.out; omega⟩, ⟨by rw [HS.out]; exact HN9.out⟩, HW9⟩
      · have r1 : decide ((i : Int) < 12) = false := decide_eq_false (by omega)
        have r2 : ((i : Int) < 12) = False := eq_false (by omega)
        have r3 : (i < 12) = False := eq_false h12
        have e : i = 12 := by have := HI.out; omega
        have HE := Aside0.mk (show cutL L = (L.take i).map fun r => r.take 12 from by rw [e]; rfl)
        have q4 := eq_true p1
        have q5 := eq_true hi
        clear hi h12 p0 p1 e
        go_wp2
        go_ret
        exact ⟨_, rfl, by rw [HE.out]; exact HN.out, HW.out⟩
    · have q1 : decide ((i : Int) < (L.length : Int)) = false := decide_eq_false (by omega)
      have q2 : decide (i < L.length) = false := decide_eq_false hi
      have q3 := eq_false hi
      have e : i = L.length := by have := HIL.out; omega
      have HE := Aside0.mk (show cutL L = (L.take i).map fun r => r.take 12 from by
        unfold cutL
        rw [e, List.take_length, List.take_of_length_le (by have := HI.out; omega)])
      clear hi e
      go_wp2
      go_ret
      exact ⟨_, rfl, by rw [HE.out]; exact HN.out, HW.out⟩
end Go.Proofs.Ythlgmmgdaciinaa.Plain
end

section
set_option linter.unusedVariables false
set_option linter.unusedSimpArgs false
namespace Go.Proofs.Ythlgmmgdaciinaa.Hand
open Go.RowKit Go.Proofs.YthlgmmgdaciinaaW.PrintWords Go.Proofs.YthlgmmgdaciinaaW.PrintLast Go.Proofs.YthlgmmgdaciinaaW.PrintMore
theorem rs_next (k : Nat) (h : k ≤ 1000000000) : wrap64 ((k : Int) + 1) = ((k + 1 : Nat) : Int) := by unfold wrap64; omega
set_option maxHeartbeats 4000000 in
set_option maxRecDepth 100000 in
theorem refSame_calls (A0 : Option Addr) (c0 : Nat) (l0 : List (List Int)) (A1 : Option Addr) (c1 : Nat) (l1 : List (List Int)) (w : World) (hr0 : Kd.C rowK w A0 l0.length l0) (hr1 : Kd.C rowK w A1 l1.length l1) (hl : l0.length < 1000000000) (hb0 : ∀ x ∈ l0, areB x) (hb1 : ∀ x ∈ l1, areB x) :
    Calls Try.prog 27 #[.slice A0 l0.length c0, .slice A1 l1.length c1] w fun e w' => e = .returned (.bool (decide (l0 = l1))) ∧ Below w.heap.size w w' := by
  have HR0 := Aside0.mk hr0
  have HR1 := Aside0.mk hr1
  have HL := Aside0.mk hl
  have B0 := Aside0.mk hb0
  have B1 := Aside0.mk hb1
  clear hr0 hr1 hl hb0 hb1
  by_cases hn : l0.length = l1.length
  · have q0 : ((l0.length : Int) != (l1.length : Int)) = false := by simp [hn]
    have Hn := Aside0.mk hn
    clear hn
    go_enter Try.func27, Try.ntmps27
    go_wp2
    clear q0
    go_loopg [5] l0.length (fun kq v5 w' => ∃ i : Nat, v5 = .int .i64 (i : Int) ∧ Aside0 (kq + i = l0.length) ∧ Aside0 (∀ j, j < i → l0[j]? = l1[j]?) ∧ Aside0 (Below w.heap.size w w'))
    case atStart => exact ⟨0, rfl, ⟨by omega⟩, ⟨fun j hj => absurd hj (by omega)⟩, ⟨Below.refl _ _⟩⟩
    case round =>
      obtain ⟨i, rfl, HI, HE, HW⟩ := hrel
      by_cases hi : i < l0.length
      · have hi' : i < l1.length := by have := Hn.out; omega
        have q1 : decide ((i : Int) < (l0.length : Int)) = true := decide_eq_true (by omega)
        have p0 : (0 : Int) ≤ (i : Int) := Int.natCast_nonneg _
        have p1 : (i : Int) < (l0.length : Int) := Int.ofNat_lt.2 hi
        have p2 : (i : Int) < (l1.length : Int) := Int.ofNat_lt.2 hi'
        obtain ⟨ad, Ai, ci, e1, hx1, hl1, hi1⟩ := at_R HR0.out (i : Int) p0 p1
        cases e1
        obtain ⟨bd, Bi, di, e2, hx2, hl2, hi2⟩ := at_R HR1.out (i : Int) p0 p2
        cases e2
        have er : rdR l0 (i : Int) = l0[i] := by unfold rdR; rw [Int.toNat_natCast, List.getD_eq_getElem?_getD, List.getElem?_eq_getElem hi, Option.getD_some]
        have er' : rdR l1 (i : Int) = l1[i] := by unfold rdR; rw [Int.toNat_natCast, List.getD_eq_getElem?_getD, List.getElem?_eq_getElem hi', Option.getD_some]
        rw [er] at hx1 hl1 hi1
        rw [er'] at hx2 hl2 hi2
        rw [Int.toNat_natCast] at hx1 hx2
        replace hx1 := (HW.out.cell (World.block_lt_of_cell? _ _ hx1)).trans hx1
        replace hx2 := (HW.out.cell (World.block_lt_of_cell? _ _ hx2)).trans hx2
        have H1 := Kd.C_below hi1 HW.out
        have H2 := Kd.C_below hi2 HW.out
        have bx := B0.out _ (List.getElem_mem hi)
        have by_ := B1.out _ (List.getElem_mem hi')
        have hnx := rs_next i (by have := HL.out; omega)
        have Hi := Aside0.mk hi
        have HG := Aside0.mk (show l0[i]? = some l0[i] ∧ l1[i]? = some l1[i] from ⟨List.getElem?_eq_getElem hi, List.getElem?_eq_getElem hi'⟩)
        have q4 := eq_true p0
        have q5 := eq_true p1
        have q6 := eq_true hi
        have q7 := eq_true p2
        have q8 := eq_true hi'
        clear er er' hi1 hi2 hl1 hl2
        generalize l0[i] = x at *
        generalize l1[i] = y at *
        clear p0 p1 p2 hi hi'
        cases gk with
        | zero => exact absurd HI.out (by have := Hi.out; omega)
        | succ k1 =>
        go_wp2
        refine start_ (n := 11) (S := fun w' => w'.cell? (ad.add i) = some (.slice Ai x.length ci) ∧ w'.cell? (bd.add i) = some (.slice Bi y.length di) ∧ Kd.C (Kd.int .u8) w' Ai x.length x ∧ Kd.C (Kd.int .u8) w' Bi y.length y) (ds := []) #[false, false, false, false, false, false, false, false, false, false, false] (by kernel_rfl) rfl rfl ⟨(by simpa using hx1), (by simpa using hx2), (Kd.C_drew H1), (Kd.C_drew H2)⟩ (fun hHeld => ?_)
        refine pure_ (i := 0) (N := some 17) (v := ?_) (a' := ?_) #[true, false, false, false, false, false, false, false, false, false, false] rfl rfl (by kernel_rfl) (fun _ _ _ h => h) (Or.inl ⟨by rfl, ?_⟩) ?_ ?_
        rotate_left
        · intro w'
          go_simp
          with_reducible rfl
        rotate_left
        · simp only [Act.put, List.setIfInBounds_toArray, List.set_cons_zero, List.set_cons_succ, i64_w, i32_w]
          rfl
        refine pure_ (i := 1) (N := some 18) (v := ?_) (a' := ?_) #[true, true, false, false, false, false, false, false, false, false, false] rfl rfl (by kernel_rfl) (fun _ _ _ h => h) (Or.inl ⟨by rfl, ?_⟩) ?_ ?_
        rotate_left
        · intro w'
          go_simp
          with_reducible rfl
        rotate_left
        · simp only [Act.put, List.setIfInBounds_toArray, List.set_cons_zero, List.set_cons_succ, i64_w, i32_w]
          rfl
        refine pure_ (i := 2) (N := some 19) (v := ?_) (a' := ?_) #[true, true, true, false, false, false, false, false, false, false, false] rfl rfl (by kernel_rfl) (fun _ _ _ h => h) (Or.inl ⟨by rfl, ?_⟩) ?_ ?_
        rotate_left
        · intro w'
          go_simp
          with_reducible rfl
        rotate_left
        · simp only [Act.put, List.setIfInBounds_toArray, List.set_cons_zero, List.set_cons_succ, i64_w, i32_w]
          rfl
        refine pure_ (i := 5) (N := some 22) (v := ?_) (a' := ?_) #[true, true, true, false, false, true, false, false, false, false, false] rfl rfl (by kernel_rfl) (fun _ _ _ h => h) (Or.inl ⟨by rfl, ?_⟩) ?_ ?_
        rotate_left
        · intro w'
          go_simp
          with_reducible rfl
        rotate_left
        · simp only [Act.put, List.setIfInBounds_toArray, List.set_cons_zero, List.set_cons_succ, i64_w, i32_w]
          rfl
        refine pure_ (i := 6) (N := some 23) (v := ?_) (a' := ?_) #[true, true, true, false, false, true, true, false, false, false, false] rfl rfl (by kernel_rfl) (fun _ _ _ h => h) (Or.inl ⟨by rfl, ?_⟩) ?_ ?_
        rotate_left
        · intro w'
          go_simp
          with_reducible rfl
        rotate_left
        · simp only [Act.put, List.setIfInBounds_toArray, List.set_cons_zero, List.set_cons_succ, i64_w, i32_w]
          rfl
        refine pure_ (i := 7) (N := some 24) (v := ?_) (a' := ?_) #[true, true, true, false, false, true, true, true, false, false, false] rfl rfl (by kernel_rfl) (fun _ _ _ h => h) (Or.inl ⟨by rfl, ?_⟩) ?_ ?_
        rotate_left
        · intro w'
          go_simp
          with_reducible rfl
        rotate_left
        · simp only [Act.put, List.setIfInBounds_toArray, List.set_cons_zero, List.set_cons_succ, i64_w, i32_w]
          rfl
        refine take_ (i := 3) (N := some 20) (v := ?_) (a' := ?_) #[true, true, true, true, false, true, true, true, false, false, false] rfl rfl (by kernel_rfl) (fun _ _ _ h => h) (Or.inl ⟨by rfl, ?_⟩) hHeld ?_ ?_
        rotate_left
        · rintro w' ⟨s0, s1, s2, s3⟩
          go_simp
          with_reducible rfl
        rotate_left
        · simp only [Act.put, List.setIfInBounds_toArray, List.set_cons_zero, List.set_cons_succ, i64_w, i32_w]
          rfl
        refine take_ (i := 4) (N := some 21) (v := ?_) (a' := ?_) #[true, true, true, true, true, true, true, true, false, false, false] rfl rfl (by kernel_rfl) (fun _ _ _ h => h) (Or.inl ⟨by rfl, ?_⟩) hHeld ?_ ?_
        rotate_left
        · rintro w' ⟨s0, s1, s2, s3⟩
          have hq_ := Kd.C_string (P := Try.prog) (A := Ai) (c := ci) Try.underlying22 Try.underlying5 Try.underlying9 s2
          refine (conv_run rfl hq_ (by rfl)).trans ?_
          with_reducible rfl
        rotate_left
        · simp only [Act.put, List.setIfInBounds_toArray, List.set_cons_zero, List.set_cons_succ, i64_w, i32_w]
          rfl
        refine take_ (i := 8) (N := some 25) (v := ?_) (a' := ?_) #[true, true, true, true, true, true, true, true, true, false, false] rfl rfl (by kernel_rfl) (fun _ _ _ h => h) (Or.inl ⟨by rfl, ?_⟩) hHeld ?_ ?_
        rotate_left
        · rintro w' ⟨s0, s1, s2, s3⟩
          go_simp
          with_reducible rfl
        rotate_left
        · simp only [Act.put, List.setIfInBounds_toArray, List.set_cons_zero, List.set_cons_succ, i64_w, i32_w]
          rfl
        refine take_ (i := 9) (N := some 26) (v := ?_) (a' := ?_) #[true, true, true, true, true, true, true, true, true, true, false] rfl rfl (by kernel_rfl) (fun _ _ _ h => h) (Or.inl ⟨by rfl, ?_⟩) hHeld ?_ ?_
        rotate_left
        · rintro w' ⟨s0, s1, s2, s3⟩
          have hq_ := Kd.C_string (P := Try.prog) (A := Bi) (c := di) Try.underlying22 Try.underlying5 Try.underlying9 s3
          refine (conv_run rfl hq_ (by rfl)).trans ?_
          with_reducible rfl
        rotate_left
        · simp only [Act.put, List.setIfInBounds_toArray, List.set_cons_zero, List.set_cons_succ, i64_w, i32_w]
          rfl
        refine pure_ (i := 10) (N := some 27) (v := ?_) (a' := ?_) #[true, true, true, true, true, true, true, true, true, true, true] rfl rfl (by kernel_rfl) (fun _ _ _ h => h) (Or.inl ⟨by rfl, ?_⟩) ?_ ?_
        rotate_left
        · intro w'
          go_simp
          with_reducible rfl
        rotate_left
        · simp only [Act.put, List.setIfInBounds_toArray, List.set_cons_zero, List.set_cons_succ, i64_w, i32_w]
          rfl
        refine done_ (by kernel_rfl) ?_
        clear hHeld H1 H2 hx1 hx2
        replace HW := Aside0.mk (below_drew HW.out)
        by_cases e : x = y
        · have r1 : ((strOfNums x).toList == (strOfNums y).toList) = true := by rw [e]; simp
          have r2 : ((strOfNums x).toList = (strOfNums y).toList) = True := eq_true (by rw [e])
          have E := Aside0.mk e
          clear e r2
          rw [show (!(strOfNums x).toList == (strOfNums y).toList) = false from by rw [r1]; rfl]
          clear r1
          go_wp2
          go_roundg k1
          case measure => omega
          case rel => exact ⟨i + 1, by first | rfl | rw [hnx], ⟨by have := HI.out; omega⟩, ⟨fun j hj => by
            by_cases q : j = i
            · subst q; rw [HG.out.1, HG.out.2, E.out]
            · exact HE.out j (by omega)⟩, HW⟩
        · have r0 : (strOfNums x).toList ≠ (strOfNums y).toList := fun h => e (strOf_inj bx by_ h)
          have r1 : ((strOfNums x).toList == (strOfNums y).toList) = false := beq_eq_false_iff_ne.2 r0
          have r2 : ((strOfNums x).toList = (strOfNums y).toList) = False := eq_false r0
          have hne : decide (l0 = l1) = false := decide_eq_false fun q => e (by
            have h1 := HG.out.1
            have h2 := HG.out.2
            rw [q, h2] at h1
            exact (Option.some.inj h1).symm)
          have HNE := Aside0.mk hne
          clear e r0 hne r2
          rw [show (!(strOfNums x).toList == (strOfNums y).toList) = true from by rw [r1]; rfl]
          clear r1
          go_wp2
          go_ret
          exact ⟨by rw [HNE.out]; first | rfl | simp, HW.out⟩
      · have q1 : decide ((i : Int) < (l0.length : Int)) = false := decide_eq_false (by omega)
        have q2 : decide (i < l0.length) = false := decide_eq_false hi
        have q3 := eq_false hi
        have HNE := Aside0.mk (show decide (l0 = l1) = true from decide_eq_true (List.ext_getElem? fun j => by
          by_cases q : j < i
          · exact HE.out j q
          · have h1 := HI.out
            have h2 := Hn.out
            rw [List.getElem?_eq_none (by omega), List.getElem?_eq_none (by omega)]))
        clear hi
        go_wp2
        go_ret
        exact ⟨by rw [HNE.out]; first | rfl | simp, HW.out⟩
  · have q0 : ((l0.length : Int) != (l1.length : Int)) = true := by simp; omega
    have q1 : ((l0.length : Int) = (l1.length : Int)) = False := eq_false (by omega)
    have q2 : (l0.length = l1.length) = False := eq_false hn
    have HNE := Aside0.mk (show decide (l0 = l1) = false from decide_eq_false fun e => hn (by rw [e]))
    clear hn
    go_enter Try.func27, Try.ntmps27
    go_wp2
    go_ret
    exact ⟨by rw [HNE.out]; first | rfl | simp, Below.refl _ _⟩
end Go.Proofs.Ythlgmmgdaciinaa.Hand
end
