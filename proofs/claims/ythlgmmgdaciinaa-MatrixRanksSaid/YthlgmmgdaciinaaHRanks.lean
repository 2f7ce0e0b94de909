/- The walk of the law MatrixRanks. -/
import Derived.Test.YthlgmmgdaciinaaPlRanks
set_option linter.unusedVariables false
set_option linter.unusedSimpArgs false
namespace Go.Proofs.Ythlgmmgdaciinaa.Plain
open Go.Proofs.Ythlgmmgdaciinaa.Hand Go.Proofs.Ythlgmmgdaciinaa.GF Go.Proofs.Ythlgmmgdaciinaa.LA Go.RowKit Go.Proofs.Ythlgmmgdaciinaa.P Go.Proofs.YthlgmmgdaciinaaW.PrintWords Go.Proofs.YthlgmmgdaciinaaW.PrintLast Go.Proofs.YthlgmmgdaciinaaW.PrintMore
attribute [local go_sem] max2_int min2_int max_two min_two
theorem len8 (X : List (List Int)) (k : Nat) (h : k < X.length) (h6 : X.length ≤ 6) : ((X.take k).length + (X.length - (k + 1))) * 24 ≤ 140737488355328 := by rw [List.length_take]; omega
theorem len3 (k : Nat) (h : k ≤ 6) : (([] : List (List Int)).length + k) * 24 ≤ 140737488355328 := by simp only [List.length_nil]; omega
theorem len10 (X : List (List Int)) (h : X.length ≤ 6) : (([] : List (List Int)).length + X.length) * 24 ≤ 140737488355328 := by simp only [List.length_nil]; omega
theorem len11 (X Y : List (List Int)) (h : X.length ≤ 6) (h2 : Y.length = X.length) : (X.length + Y.length) * 24 ≤ 140737488355328 := by omega
theorem knext (k : Nat) (h : k ≤ 6) : wrap64 ((k : Int) + 1) = (k : Int) + 1 := by unfold wrap64; omega
set_option maxHeartbeats 8000000 in
set_option maxRecDepth 100000 in
theorem ranks_walk (A0 : Option Addr) (c0 : Nat) (l0 : List Int) (A1 : Option Addr) (c1 : Nat) (l1 : List Int) (s0 s1 a3 : Int) (w : World) (Hl0 : Aside0 (Kd.C (Kd.int .u8) w A0 l0.length l0)) (Cl0 : Aside0 (l0.length ≤ c0)) (Hl1 : Aside0 (Kd.C (Kd.int .u8) w A1 l1.length l1)) (Cl1 : Aside0 (l1.length ≤ c1))
    (cols k : Nat) (X Y : List (List Int)) (hr : wrap64 (1 + (wrap64 (Int.tmod s0 6))) = (X.length : Int)) (hc : wrap64 (1 + (wrap64 (Int.tmod s1 6))) = (cols : Int)) (hk : Int.tmod (wrap64 a3) (X.length : Int) = (k : Int)) (K6 : Aside0 (k < X.length ∧ X.length ≤ 6 ∧ Y.length = X.length ∧ cols ≤ 6))
    (FX : Aside0 (braidworklaw06_shaped.f 200 l0 X.length cols = some X)) (FY : Aside0 (braidworklaw06_shaped.f 200 l1 X.length cols = some Y)) (XF : Aside0 (Fits cols X)) (YF : Aside0 (Fits cols Y)) (p q b s l T U mx : Int)
    (Rp : Aside0 (matrix_Rank.f X = some (p, 0))) (Rq : Aside0 (matrix_Rank.f Y = some (q, 0))) (Rb : Aside0 (matrix_Rank.f (X ++ Y) = some (b, 0))) (Rs : Aside0 (matrix_Rank.f (sumRows X Y) = some (s, 0))) (Rl : Aside0 (matrix_Rank.f (lessRow X k) = some (l, 0)))
    (hT : wrap64 (p + q) = T) (hU : wrap64 (p - 1) = U) (hmx : (if p < q then q else p) = mx) (d1 : (b ≤ T) = True) (d2 : (mx ≤ b) = True) (d3 : (s ≤ T) = True) (d4 : (l ≤ p) = True) (d5 : (U ≤ l) = True) :
    Calls Try.prog 5 #[.slice A0 l0.length c0, .slice A1 l1.length c1, .agg #[.int .u8 s0, .int .u8 s1], .int .u8 a3] w fun e w' => e = .returned (.bool true) ∧ Below w.heap.size w w' := by
  have HB := Aside0.mk (below_drew (below_alloc (Below.refl w.heap.size w) (.cells #[.int .u8 s0, .int .u8 s1] 37)))
  obtain ⟨info, hinfo, hi2⟩ := Option.map_eq_some_iff.1 infoRows
  have hsz : info.size = 1 := by simp only [Prod.mk.injEq] at hi2; exact hi2.2.1
  clear hi2
  have z1 : ((X.length : Int) == 0) = false := by have := K6.out; simp; intro e; rw [e] at this; simp at this
  have z2 : ((X.length : Int) = 0) = False := eq_false (by have := K6.out; omega)
  have z3 : (X.length = 0) = False := eq_false (by have := K6.out; omega)
  have z4 : (X = []) = False := eq_false (by intro e; have := K6.out; rw [e] at this; simp at this)
  go_enter Try.func5, Try.ntmps5
  go_wp2
  refine start_ (n := 12) (S := fun w' => w'.cell? ⟨w.heap.size, 0, none⟩ = some (.int .u8 s0) ∧ w'.cell? ⟨w.heap.size, 1, none⟩ = some (.int .u8 s1)) (ds := []) #[false, false, false, false, false, false, false, false, false, false, false, false] (by kernel_rfl) rfl rfl ⟨(by simp), (by simp)⟩ (fun hHeld => ?_)
  generalize (World.drew _) = w1 at HB hHeld ⊢
  refine pure_ (i := 0) (N := some 28) (v := ?_) (a' := ?_) #[true, false, false, false, false, false, false, false, false, false, false, false] rfl rfl (by kernel_rfl) (fun _ _ _ h => h) (Or.inl ⟨by rfl, ?_⟩) ?_ ?_
  rotate_left
  · intro w'
    go_simp
    with_reducible rfl
  rotate_left
  · simp only [Act.put, List.setIfInBounds_toArray, List.set_cons_zero, List.set_cons_succ, i64_w, i32_w]
    rfl
  refine pure_ (i := 5) (N := some 33) (v := ?_) (a' := ?_) #[true, false, false, false, false, true, false, false, false, false, false, false] rfl rfl (by kernel_rfl) (fun _ _ _ h => h) (Or.inl ⟨by rfl, ?_⟩) ?_ ?_
  rotate_left
  · intro w'
    go_simp
    with_reducible rfl
  rotate_left
  · simp only [Act.put, List.setIfInBounds_toArray, List.set_cons_zero, List.set_cons_succ, i64_w, i32_w]
    rfl
  refine take_ (i := 1) (N := some 29) (v := ?_) (a' := ?_) #[true, true, false, false, false, true, false, false, false, false, false, false] rfl rfl (by kernel_rfl) (fun _ _ _ h => h) (Or.inl ⟨by rfl, ?_⟩) hHeld ?_ ?_
  rotate_left
  · rintro w' ⟨s0, s1⟩
    go_simp
    with_reducible rfl
  rotate_left
  · simp only [Act.put, List.setIfInBounds_toArray, List.set_cons_zero, List.set_cons_succ, i64_w, i32_w]
    rfl
  refine pure_ (i := 2) (N := some 30) (v := ?_) (a' := ?_) #[true, true, true, false, false, true, false, false, false, false, false, false] rfl rfl (by kernel_rfl) (fun _ _ _ h => h) (Or.inl ⟨by rfl, ?_⟩) ?_ ?_
  rotate_left
  · intro w'
    go_simp
    with_reducible rfl
  rotate_left
  · simp only [Act.put, List.setIfInBounds_toArray, List.set_cons_zero, List.set_cons_succ, i64_w, i32_w]
    rfl
  refine take_ (i := 3) (N := some 31) (v := ?_) (a' := ?_) #[true, true, true, true, false, true, false, false, false, false, false, false] rfl rfl (by kernel_rfl) (fun _ _ _ h => h) (Or.inl ⟨by rfl, ?_⟩) hHeld ?_ ?_
  rotate_left
  · rintro w' ⟨s0, s1⟩
    go_simp
    with_reducible rfl
  rotate_left
  · simp only [Act.put, List.setIfInBounds_toArray, List.set_cons_zero, List.set_cons_succ, i64_w, i32_w]
    rfl
  refine pure_ (i := 4) (N := some 32) (v := ?_) (a' := ?_) #[true, true, true, true, true, true, false, false, false, false, false, false] rfl rfl (by kernel_rfl) (fun _ _ _ h => h) (Or.inl ⟨by rfl, ?_⟩) ?_ ?_
  rotate_left
  · intro w'
    go_simp
    with_reducible rfl
  rotate_left
  · simp only [Act.put, List.setIfInBounds_toArray, List.set_cons_zero, List.set_cons_succ, i64_w, i32_w]
    rfl
  refine pure_ (i := 10) (N := some 9) (v := ?_) (a' := ?_) #[true, true, true, true, true, true, false, false, false, false, true, false] rfl rfl (by kernel_rfl) (fun _ _ _ h => h) (Or.inl ⟨by rfl, ?_⟩) ?_ ?_
  rotate_left
  · intro w'
    go_simp
    with_reducible rfl
  rotate_left
  · simp only [Act.put, List.setIfInBounds_toArray, List.set_cons_zero, List.set_cons_succ, i64_w, i32_w]
    rfl
  refine take_ (i := 6) (N := some 34) (v := ?_) (a' := ?_) #[true, true, true, true, true, true, true, false, false, false, true, false] rfl rfl (by kernel_rfl) (fun _ _ _ h => h) (Or.inl ⟨by rfl, ?_⟩) hHeld ?_ ?_
  rotate_left
  · rintro w' ⟨s0, s1⟩
    go_simp
    with_reducible rfl
  rotate_left
  · simp only [Act.put, List.setIfInBounds_toArray, List.set_cons_zero, List.set_cons_succ, i64_w, i32_w]
    rfl
  refine pure_ (i := 7) (N := some 35) (v := ?_) (a' := ?_) #[true, true, true, true, true, true, true, true, false, false, true, false] rfl rfl (by kernel_rfl) (fun _ _ _ h => h) (Or.inl ⟨by rfl, ?_⟩) ?_ ?_
  rotate_left
  · intro w'
    go_simp
    with_reducible rfl
  rotate_left
  · simp only [Act.put, List.setIfInBounds_toArray, List.set_cons_zero, List.set_cons_succ, i64_w, i32_w]
    rfl
  refine take_ (i := 8) (N := some 36) (v := ?_) (a' := ?_) #[true, true, true, true, true, true, true, true, true, false, true, false] rfl rfl (by kernel_rfl) (fun _ _ _ h => h) (Or.inl ⟨by rfl, ?_⟩) hHeld ?_ ?_
  rotate_left
  · rintro w' ⟨s0, s1⟩
    go_simp
    with_reducible rfl
  rotate_left
  · simp only [Act.put, List.setIfInBounds_toArray, List.set_cons_zero, List.set_cons_succ, i64_w, i32_w]
    rfl
  refine pure_ (i := 9) (N := some 37) (v := ?_) (a' := ?_) #[true, true, true, true, true, true, true, true, true, true, true, false] rfl rfl (by kernel_rfl) (fun _ _ _ h => h) (Or.inl ⟨by rfl, ?_⟩) ?_ ?_
  rotate_left
  · intro w'
    go_simp
    with_reducible rfl
  rotate_left
  · simp only [Act.put, List.setIfInBounds_toArray, List.set_cons_zero, List.set_cons_succ, i64_w, i32_w]
    rfl
  refine pure_ (i := 11) (N := some 10) (v := ?_) (a' := ?_) #[true, true, true, true, true, true, true, true, true, true, true, true] rfl rfl (by kernel_rfl) (fun _ _ _ h => h) (Or.inl ⟨by rfl, ?_⟩) ?_ ?_
  rotate_left
  · intro w'
    go_simp
    with_reducible rfl
  rotate_left
  · simp only [Act.put, List.setIfInBounds_toArray, List.set_cons_zero, List.set_cons_succ, i64_w, i32_w]
    rfl
  refine done_ (by kernel_rfl) ?_
  replace Hl0 := Aside0.mk (Kd.C_below Hl0.out HB.out)
  replace Hl1 := Aside0.mk (Kd.C_below Hl1.out HB.out)
  clear hHeld
  go_wp2_with (first
        | (go_at_call 10; with_reducible refine (braidworklaw06_shaped.calls 200 A0 c0 l0 (X.length : Int) (cols : Int) X _ Hl0.out Cl0.out FX.out).mono ?_; rintro e w2 ⟨v_, rfl, ho_, hb⟩; obtain ⟨AX, cX, rfl⟩ := Kd.S_slice ho_; have HX := Aside0.mk (Kd.S_reads' ho_).2.2; have CX := Aside0.mk (Kd.S_reads' ho_).2.1; clear ho_; replace Hl1 := Aside0.mk (Kd.C_below Hl1.out hb); replace HB := Aside0.mk (HB.out.trans (hb.mono HB.out.size)); clear hb)
        | (go_at_call 10; with_reducible refine (braidworklaw06_shaped.calls 200 A1 c1 l1 (X.length : Int) (cols : Int) Y _ Hl1.out Cl1.out FY.out).mono ?_; rintro e w3 ⟨v_, rfl, ho_, hb⟩; obtain ⟨AY, cY, rfl⟩ := Kd.S_slice ho_; have HY := Aside0.mk (Kd.S_reads' ho_).2.2; have CY := Aside0.mk (Kd.S_reads' ho_).2.1; clear ho_; replace HX := Aside0.mk (Kd.C_below HX.out hb); replace HB := Aside0.mk (HB.out.trans (hb.mono HB.out.size)); clear hb))
  go_loopg [14, 13] X.length (fun kq v14 v13 w' => ∃ i : Nat, v14 = .int .i64 (i : Int) ∧ Aside0 (kq + i = X.length) ∧ Aside0 (Kd.N rowK 22 w' w3.heap.size (fun _ => True) v13 ((sumRows X Y).take i)) ∧ Aside0 (Below w3.heap.size w3 w'))
  case atStart => exact ⟨0, rfl, ⟨by omega⟩, ⟨by rw [List.take_zero]; exact Kd.N_nil _ _ _ _ _⟩, ⟨Below.refl _ _⟩⟩
  case round =>
    obtain ⟨i, rfl, HI, HN, HW⟩ := hrel
    by_cases hi : i < X.length
    · have hi' : i < Y.length := by have := K6.out; omega
      have q1 : decide ((i : Int) < (X.length : Int)) = true := decide_eq_true (by omega)
      have p0 : (0 : Int) ≤ (i : Int) := by omega
      have p1 : (i : Int) < (X.length : Int) := by omega
      have p2 : (i : Int) < (Y.length : Int) := by omega
      obtain ⟨ad, Ai, ci, e1, hx1, hl1, hi1⟩ := at_R HX.out (i : Int) p0 p1
      cases e1
      obtain ⟨bd, Bi, di, e2, hx2, hl2, hi2⟩ := at_R HY.out (i : Int) p0 p2
      cases e2
      have er : rdR X (i : Int) = X.getD i [] := by unfold rdR; rw [Int.toNat_natCast]
      have er' : rdR Y (i : Int) = Y.getD i [] := by unfold rdR; rw [Int.toNat_natCast]
      rw [er] at hx1 hl1 hi1
      rw [er'] at hx2 hl2 hi2
      rw [Int.toNat_natCast] at hx1 hx2
      replace hx1 := (HW.out.cell (World.block_lt_of_cell? _ _ hx1)).trans hx1
      replace hx2 := (HW.out.cell (World.block_lt_of_cell? _ _ hx2)).trans hx2
      have Hi1 := Aside0.mk (Kd.C_below hi1 HW.out)
      have Hi2 := Aside0.mk (Kd.C_below hi2 HW.out)
      have Hl1_ := Aside0.mk hl1
      have Hl2_ := Aside0.mk hl2
      have a1 := getD_fits XF.out hi
      have a2 := getD_fits YF.out hi'
      have HA := Aside0.mk (add_f (a := X.getD i []) (b := Y.getD i []) (by omega) (by unfold vN; have := K6.out; omega))
      have HS := Aside0.mk (sumRows_at (K6.out.2.2.1).symm hi)
      have HSL := Aside0.mk (sumRows_length (K6.out.2.2.1).symm)
      have hi9 : (i : Int) ≤ 1000000000 := by have := K6.out; omega
      have hi8 := p0
      have q4 := eq_true p0
      have q5 := eq_true p1
      have q6 := eq_true hi
      have q7 := eq_true p2
      have q8 := eq_true hi'
      have Hi := Aside0.mk hi
      generalize X.getD i [] = x at *
      generalize Y.getD i [] = y at *
      clear p0 p1 p2 hi hi' er er' hi1 hl1 hi2 hl2 a1 a2
      go_wp2
      refine start_ (n := 14) (S := fun w' => w'.cell? (ad.add i) = some (.slice Ai x.length ci) ∧ w'.cell? (bd.add i) = some (.slice Bi y.length di)) (ds := []) #[false, false, false, false, false, false, false, false, false, false, false, false, false, false] (by kernel_rfl) rfl rfl ⟨(by simpa using hx1), (by simpa using hx2)⟩ (fun hHeld => ?_)
      have HN4 := Aside0.mk (Kd.N_below HN.out (below_drew (Below.refl wr.heap.size wr)))
      have HW4 := Aside0.mk (below_drew HW.out)
      replace Hi1 := Aside0.mk (Kd.C_below Hi1.out (below_drew (Below.refl wr.heap.size wr)))
      replace Hi2 := Aside0.mk (Kd.C_below Hi2.out (below_drew (Below.refl wr.heap.size wr)))
      clear HN HW hx1 hx2
      generalize wr.drew = w4 at HN4 HW4 Hi1 Hi2 hHeld ⊢
      refine pure_ (i := 0) (N := some 52) (v := ?_) (a' := ?_) #[true, false, false, false, false, false, false, false, false, false, false, false, false, false] rfl rfl (by kernel_rfl) (fun _ _ _ h => h) (Or.inl ⟨by rfl, ?_⟩) ?_ ?_
      rotate_left
      · intro w'
        go_simp
        with_reducible rfl
      rotate_left
      · simp only [Act.put, List.setIfInBounds_toArray, List.set_cons_zero, List.set_cons_succ, i64_w, i32_w]
        rfl
      refine pure_ (i := 1) (N := some 53) (v := ?_) (a' := ?_) #[true, true, false, false, false, false, false, false, false, false, false, false, false, false] rfl rfl (by kernel_rfl) (fun _ _ _ h => h) (Or.inl ⟨by rfl, ?_⟩) ?_ ?_
      rotate_left
      · intro w'
        go_simp
        with_reducible rfl
      rotate_left
      · simp only [Act.put, List.setIfInBounds_toArray, List.set_cons_zero, List.set_cons_succ, i64_w, i32_w]
        rfl
      refine pure_ (i := 2) (N := some 54) (v := ?_) (a' := ?_) #[true, true, true, false, false, false, false, false, false, false, false, false, false, false] rfl rfl (by kernel_rfl) (fun _ _ _ h => h) (Or.inl ⟨by rfl, ?_⟩) ?_ ?_
      rotate_left
      · intro w'
        go_simp
        with_reducible rfl
      rotate_left
      · simp only [Act.put, List.setIfInBounds_toArray, List.set_cons_zero, List.set_cons_succ, i64_w, i32_w]
        rfl
      refine pure_ (i := 4) (N := some 56) (v := ?_) (a' := ?_) #[true, true, true, false, true, false, false, false, false, false, false, false, false, false] rfl rfl (by kernel_rfl) (fun _ _ _ h => h) (Or.inl ⟨by rfl, ?_⟩) ?_ ?_
      rotate_left
      · intro w'
        go_simp
        with_reducible rfl
      rotate_left
      · simp only [Act.put, List.setIfInBounds_toArray, List.set_cons_zero, List.set_cons_succ, i64_w, i32_w]
        rfl
      refine pure_ (i := 5) (N := some 57) (v := ?_) (a' := ?_) #[true, true, true, false, true, true, false, false, false, false, false, false, false, false] rfl rfl (by kernel_rfl) (fun _ _ _ h => h) (Or.inl ⟨by rfl, ?_⟩) ?_ ?_
      rotate_left
      · intro w'
        go_simp
        with_reducible rfl
      rotate_left
      · simp only [Act.put, List.setIfInBounds_toArray, List.set_cons_zero, List.set_cons_succ, i64_w, i32_w]
        rfl
      refine pure_ (i := 6) (N := some 58) (v := ?_) (a' := ?_) #[true, true, true, false, true, true, true, false, false, false, false, false, false, false] rfl rfl (by kernel_rfl) (fun _ _ _ h => h) (Or.inl ⟨by rfl, ?_⟩) ?_ ?_
      rotate_left
      · intro w'
        go_simp
        with_reducible rfl
      rotate_left
      · simp only [Act.put, List.setIfInBounds_toArray, List.set_cons_zero, List.set_cons_succ, i64_w, i32_w]
        rfl
      refine take_ (i := 3) (N := some 55) (v := ?_) (a' := ?_) #[true, true, true, true, true, true, true, false, false, false, false, false, false, false] rfl rfl (by kernel_rfl) (fun _ _ _ h => h) (Or.inl ⟨by rfl, ?_⟩) hHeld ?_ ?_
      rotate_left
      · rintro w' ⟨s0, s1⟩
        go_simp
        with_reducible rfl
      rotate_left
      · simp only [Act.put, List.setIfInBounds_toArray, List.set_cons_zero, List.set_cons_succ, i64_w, i32_w]
        rfl
      refine take_ (i := 7) (N := some 59) (v := ?_) (a' := ?_) #[true, true, true, true, true, true, true, true, false, false, false, false, false, false] rfl rfl (by kernel_rfl) (fun _ _ _ h => h) (Or.inl ⟨by rfl, ?_⟩) hHeld ?_ ?_
      rotate_left
      · rintro w' ⟨s0, s1⟩
        go_simp
        with_reducible rfl
      rotate_left
      · simp only [Act.put, List.setIfInBounds_toArray, List.set_cons_zero, List.set_cons_succ, i64_w, i32_w]
        rfl
      refine one_ (i := 8) (N := some 60) #[true, true, true, true, true, true, true, true, true, false, false, false, false, false] rfl rfl (by kernel_rfl) (by decide) (fun K hK => ?_)
      refine goes_ Try.func18 (by kernel_rfl) rfl #[.slice Ai x.length ci, .slice Bi y.length di] (by rfl) rfl rfl (by simp only [List.map_toArray, List.map_cons, List.map_nil]; rfl) ?_
      with_reducible refine (vector_Add.calls Ai ci x Bi di y (List.zipWith xr x y) 0 _ Hi1.out Hl1_.out Hi2.out Hl2_.out HA.out).mono ?_
      rintro e w5 ⟨v0, rfl, hR, hb⟩
      refine ⟨_, rfl, ?_⟩
      have HLT := Aside0.mk (Kd.N_lt HN4.out)
      have H45 := Aside0.mk hb.size
      have HN := Aside0.mk (Kd.N_below HN4.out hb)
      have HW := Aside0.mk (HW4.out.trans (hb.mono HW4.out.size))
      obtain ⟨As, cs, rfl⟩ := Kd.R_slice hR
      have Hs := Aside0.mk (Kd.R_mono (ok' := fun k_ => some k_ ≠ u13.ownBlock) (Kd.R_bound hR) (fun k_ hk e_ => by have := HLT.out _ e_.symm; have := hk.2.1; omega))
      have Cs := Aside0.mk (Kd.R_reads' hR).2.1
      clear HN4 HW4 hR
      refine hK.out _ _ ⟨((hb.cell (World.block_lt_of_cell? _ _ hHeld.1)).trans hHeld.1), ((hb.cell (World.block_lt_of_cell? _ _ hHeld.2)).trans hHeld.2)⟩ (fun hHeld => ?_)
      clear hK K
      refine norm_ (a' := ?_) ?_ ?_
      rotate_left
      · show Act.put _ (some 60) _ = _
        simp only [Act.put, List.setIfInBounds_toArray, List.set_cons_zero, List.set_cons_succ, i64_w, i32_w]
        rfl
      refine pure_ (i := 9) (N := some 51) (v := ?_) (a' := ?_) #[true, true, true, true, true, true, true, true, true, true, false, false, false, false] rfl rfl (by kernel_rfl) (fun _ _ _ h => h) (Or.inl ⟨by rfl, ?_⟩) ?_ ?_
      rotate_left
      · intro w'
        go_simp
        with_reducible rfl
      rotate_left
      · simp only [Act.put, List.setIfInBounds_toArray, List.set_cons_zero, List.set_cons_succ, i64_w, i32_w]
        rfl
      refine pure_ (i := 10) (N := some 61) (v := ?_) (a' := ?_) #[true, true, true, true, true, true, true, true, true, true, true, false, false, false] rfl rfl (by kernel_rfl) (fun _ _ _ h => h) (Or.inl ⟨by rfl, ?_⟩) ?_ ?_
      rotate_left
      · intro w'
        go_simp
        with_reducible rfl
      rotate_left
      · simp only [Act.put, List.setIfInBounds_toArray, List.set_cons_zero, List.set_cons_succ, i64_w, i32_w]
        rfl
      refine pure_ (i := 11) (N := some 62) (v := ?_) (a' := ?_) #[true, true, true, true, true, true, true, true, true, true, true, true, false, false] rfl rfl (by kernel_rfl) (fun _ _ _ h => h) (Or.inl ⟨by rfl, ?_⟩) ?_ ?_
      rotate_left
      · intro w'
        go_simp
        with_reducible rfl
      rotate_left
      · simp only [Act.put, List.setIfInBounds_toArray, List.set_cons_zero, List.set_cons_succ, i64_w, i32_w]
        rfl
      refine pure_ (i := 12) (N := some 15) (v := ?_) (a' := ?_) #[true, true, true, true, true, true, true, true, true, true, true, true, true, false] rfl rfl (by kernel_rfl) (fun _ _ _ h => h) (Or.inl ⟨by rfl, ?_⟩) ?_ ?_
      rotate_left
      · intro w'
        go_simp
        with_reducible rfl
      rotate_left
      · simp only [Act.put, List.setIfInBounds_toArray, List.set_cons_zero, List.set_cons_succ, i64_w, i32_w]
        rfl
      refine pure_ (i := 13) (N := some 16) (v := ?_) (a' := ?_) #[true, true, true, true, true, true, true, true, true, true, true, true, true, true] rfl rfl (by kernel_rfl) (fun _ _ _ h => h) (Or.inl ⟨by rfl, ?_⟩) ?_ ?_
      rotate_left
      · intro w'
        go_simp
        with_reducible rfl
      rotate_left
      · simp only [Act.put, List.setIfInBounds_toArray, List.set_cons_zero, List.set_cons_succ, i64_w, i32_w]
        rfl
      refine done_ (by kernel_rfl) ?_
      clear hHeld
      go_wp2_with (first
        | ((with_reducible refine gate_dst (N := 65) rfl ?_); refine Kd.N_lit rowK _ 22 ?hg (N' := 65) ?hd (xs := [List.zipWith xr x y]) (inner := [.slice As (List.zipWith xr x y).length cs]) (ok := fun k_ => some k_ ≠ u13.ownBlock) (okp := fun k_ => some k_ ≠ u13.ownBlock) ?hr (Reps.one (show Kd.FK rowK _ _ (List.zipWith xr x y) [.slice As (List.zipWith xr x y).length cs] from Kd.FK_slice_mk Cs.out (Kd.R_F Hs.out)) (Reps.none _ _)) (fun _ h => h) (fun e_ => by have := HLT.out _ e_.symm; have := H45.out; omega) (Below.refl _ _) (Nat.le_refl _) (by simp) ?_; (case hd => rfl); (case hg => rfl); (case hr => first | (go_simp; done) | (go_simp; rfl)); intro v_ w6 ho_ hb _ _; obtain ⟨At, ct, rfl⟩ := Kd.N_slice ho_; have HT := Aside0.mk (Kd.N_F ho_); replace HN := Aside0.mk (Kd.N_below HN.out hb); replace HW := Aside0.mk (HW.out.trans (hb.mono HW.out.size)); clear ho_ hb)
        | ((with_reducible refine gate_builtin (b := .append) (xs := #[.tmp 63, .tmp 65]) rfl ?_); at_builtin; refine Kd.N_append_rows rowK (w0 := w3) w3.heap.size rfl (.tmp 63) (.tmp 65) 23 22 (.slice none 0 0) 24 rfl Try.underlying23 infoRows rfl (show 0 < 1 by decide) (by decide) u13 ((sumRows X Y).take i) [List.zipWith xr x y] _ _ _ (fun _ => True) (fun k_ => some k_ ≠ u13.ownBlock) rfl rfl HN.out HT.out (fun k hk => ⟨trivial, hk⟩) (fun _ _ => trivial) HW.out HW.out.size (by have := K6.out; have := HSL.out; simp; omega) ?_; intro v7 w7 hN hb _ _; have HN7 := Aside0.mk hN; have HW7 := Aside0.mk hb; clear hN hb))
      cases gk with
      | zero => exact absurd HI.out (by have := Hi.out; omega)
      | succ k1 =>
        go_roundg k1
        case measure => omega
        case rel => exact ⟨i + 1, by go_num, ⟨by have := HI.out; omega⟩, ⟨by
          have e : (sumRows X Y).take (i + 1) = (sumRows X Y).take i ++ [List.zipWith xr x y] := by
            have hlt : i < (sumRows X Y).length := by rw [HSL.out]; exact Hi.out
            rw [List.take_add_one, List.getElem?_eq_getElem hlt, Option.toList_some, ← HS.out, List.getD_eq_getElem?_getD, List.getElem?_eq_getElem hlt, Option.getD_some]
          rw [e]; exact HN7.out⟩, HW7⟩
    · have q1 : decide ((i : Int) < (X.length : Int)) = false := decide_eq_false (by omega)
      have e : i = X.length := by have := HI.out; omega
      subst e
      rw [show (sumRows X Y).take X.length = sumRows X Y from by rw [← sumRows_length (K6.out.2.2.1).symm]; exact List.take_length] at HN
      obtain ⟨Am, cm, rfl⟩ := Kd.N_slice HN.out
      replace HX := Aside0.mk (Kd.C_below HX.out HW.out)
      replace HY := Aside0.mk (Kd.C_below HY.out HW.out)
      have Hm := Aside0.mk (Kd.N_reads' HN.out).2.2
      have Cm := Aside0.mk (Kd.N_reads' HN.out).2.1
      replace HB := Aside0.mk (HB.out.trans (HW.out.mono HB.out.size))
      clear HN hi HW
      go_wp2_with (first
        | (go_at_call 17; with_reducible refine (matrix_Rank.calls AX cX X p 0 _ HX.out CX.out Rp.out).mono ?_; rintro e w8 ⟨rfl, hb⟩; replace HX := Aside0.mk (Kd.C_below HX.out hb); replace HY := Aside0.mk (Kd.C_below HY.out hb); replace Hm := Aside0.mk (Kd.C_below Hm.out hb); replace HB := Aside0.mk (HB.out.trans (hb.mono HB.out.size)); clear hb)
        | (go_at_call 17; with_reducible refine (matrix_Rank.calls AY cY Y q 0 _ HY.out CY.out Rq.out).mono ?_; rintro e w9 ⟨rfl, hb⟩; replace HX := Aside0.mk (Kd.C_below HX.out hb); replace HY := Aside0.mk (Kd.C_below HY.out hb); replace Hm := Aside0.mk (Kd.C_below Hm.out hb); replace HB := Aside0.mk (HB.out.trans (hb.mono HB.out.size)); clear hb)
        | ((with_reducible refine gate_builtin (b := .append) (xs := #[.const (.slice none 0 0), .tmp 78]) rfl ?_); at_builtin; refine Kd.N_append_rows rowK (w0 := w9) w9.heap.size rfl (.const (.slice none 0 0)) (.tmp 78) 23 22 (.slice none 0 0) 24 rfl Try.underlying23 infoRows rfl (show 0 < 1 by decide) (by decide) (.slice none 0 0) [] X _ _ _ (fun _ => True) (fun k_ => k_ < w9.heap.size) rfl rfl (Kd.N_nil _ _ _ _ _) (Kd.C_F (Kd.heap_slice _ (Kd.heap_int _)) HX.out) (fun k hk => ⟨trivial, by simp [Value.ownBlock]⟩) (fun _ _ => trivial) (Below.refl _ _) (Nat.le_refl _) (len10 X K6.out.2.1) ?_; intro v10 w10 hN hb _ _; rw [List.nil_append] at hN; have HN10 := Aside0.mk hN; have H910 := Aside0.mk hb; clear hN hb)
        | ((with_reducible refine gate_builtin (b := .append) (xs := #[.tmp 79, .tmp 80]) rfl ?_); at_builtin; refine Kd.N_append_rows rowK (w0 := w9) w9.heap.size rfl (.tmp 79) (.tmp 80) 23 22 (.slice none 0 0) 24 rfl Try.underlying23 infoRows rfl (show 0 < 1 by decide) (by decide) v10 X Y _ _ _ (fun _ => True) (fun k_ => k_ < w9.heap.size) rfl rfl HN10.out (Kd.F_step (Kd.C_F (Kd.heap_slice _ (Kd.heap_int _)) HY.out) (fun k hk _ => H910.out.block k hk)) (fun j_ hj_ => ⟨trivial, fun e_ => absurd (Kd.N_base HN10.out j_ e_.symm) (Nat.not_le.2 hj_)⟩) (fun _ _ => trivial) H910.out H910.out.size (len11 X Y K6.out.2.1 K6.out.2.2.1) ?_; intro v11 w11 hN hb _ _; obtain ⟨Ab, cb, rfl⟩ := Kd.N_slice hN; have Hb := Aside0.mk (Kd.N_reads' hN).2.2; have Cb := Aside0.mk (Kd.N_reads' hN).2.1; clear hN HN10 H910; replace HX := Aside0.mk (Kd.C_below HX.out hb); replace HY := Aside0.mk (Kd.C_below HY.out hb); replace Hm := Aside0.mk (Kd.C_below Hm.out hb); replace HB := Aside0.mk (HB.out.trans (hb.mono HB.out.size)); clear hb; have HRb := Aside0.mk (matrix_Rank.calls Ab cb (X ++ Y) b 0 w11 Hb.out Cb.out Rb.out); rw [List.length_append] at HRb)
        | (go_at_call 17; with_reducible refine (HRb.out).mono ?_; rintro e w12 ⟨rfl, hb⟩; replace HX := Aside0.mk (Kd.C_below HX.out hb); replace HY := Aside0.mk (Kd.C_below HY.out hb); replace Hm := Aside0.mk (Kd.C_below Hm.out hb); replace HB := Aside0.mk (HB.out.trans (hb.mono HB.out.size)); clear hb)
        | (go_at_call 17; with_reducible refine (matrix_Rank.calls Am cm (sumRows X Y) s 0 _ Hm.out Cm.out Rs.out).mono ?_; rintro e w13 ⟨rfl, hb⟩; replace HX := Aside0.mk (Kd.C_below HX.out hb); replace HB := Aside0.mk (HB.out.trans (hb.mono HB.out.size)); clear hb))
      have hcut1 := cut_to (P := Try.prog) 23 22 .i64 Try.underlying23 hinfo AX X.length cX (k : Int) (Int.natCast_nonneg _) (Int.ofNat_le.2 (Nat.le_of_lt K6.out.1)) CX.out
      have hcut2 := cut_from (P := Try.prog) 23 22 .i64 Try.underlying23 hinfo 1 hsz AX X.length cX ((k : Int) + 1) (Int.le_add_one (Int.natCast_nonneg _)) (Int.ofNat_lt.2 K6.out.1)
      rw [Int.toNat_natCast] at hcut1
      rw [show ((k : Int) + 1).toNat = k + 1 from rfl] at hcut2
      obtain ⟨Aq, hAq⟩ : ∃ Aq, (if cX = k + 1 then AX else Option.map (fun x => x.add ((k + 1) * 1)) AX) = Aq := ⟨_, rfl⟩
      rw [hAq] at hcut2
      have HAq := Aside0.mk hAq
      have hk1 : wrap64 ((k : Int) + 1) = (k : Int) + 1 := knext k (Nat.le_trans (Nat.le_of_lt K6.out.1) K6.out.2.1)
      clear hAq
      refine start_ (n := 15) (S := fun w' => True) (ds := []) #[false, false, false, false, false, false, false, false, false, false, false, false, false, false, false] (by kernel_rfl) rfl rfl trivial (fun hHeld => ?_)
      have HX14 := Aside0.mk (Kd.C_below HX.out (below_drew (Below.refl w13.heap.size w13)))
      have HB14 := Aside0.mk (below_drew HB.out)
      clear HX HB
      generalize w13.drew = w14 at HX14 HB14 hHeld ⊢
      refine pure_ (i := 0) (N := some 95) (v := ?_) (a' := ?_) #[true, false, false, false, false, false, false, false, false, false, false, false, false, false, false] rfl rfl (by kernel_rfl) (fun _ _ _ h => h) (Or.inl ⟨by rfl, ?_⟩) ?_ ?_
      rotate_left
      · intro w'
        go_simp
        with_reducible rfl
      rotate_left
      · simp only [Act.put, List.setIfInBounds_toArray, List.set_cons_zero, List.set_cons_succ, i64_w, i32_w]
        rfl
      refine pure_ (i := 1) (N := some 96) (v := ?_) (a' := ?_) #[true, true, false, false, false, false, false, false, false, false, false, false, false, false, false] rfl rfl (by kernel_rfl) (fun _ _ _ h => h) (Or.inl ⟨by rfl, ?_⟩) ?_ ?_
      rotate_left
      · intro w'
        go_simp
        with_reducible rfl
      rotate_left
      · simp only [Act.put, List.setIfInBounds_toArray, List.set_cons_zero, List.set_cons_succ, i64_w, i32_w]
        rfl
      refine pure_ (i := 2) (N := some 97) (v := ?_) (a' := ?_) #[true, true, true, false, false, false, false, false, false, false, false, false, false, false, false] rfl rfl (by kernel_rfl) (fun _ _ _ h => h) (Or.inl ⟨by rfl, ?_⟩) ?_ ?_
      rotate_left
      · intro w'
        go_simp
        with_reducible rfl
      rotate_left
      · simp only [Act.put, List.setIfInBounds_toArray, List.set_cons_zero, List.set_cons_succ, i64_w, i32_w]
        rfl
      refine pure_ (i := 4) (N := some 99) (v := ?_) (a' := ?_) #[true, true, true, false, true, false, false, false, false, false, false, false, false, false, false] rfl rfl (by kernel_rfl) (fun _ _ _ h => h) (Or.inl ⟨by rfl, ?_⟩) ?_ ?_
      rotate_left
      · intro w'
        go_simp
        with_reducible rfl
      rotate_left
      · simp only [Act.put, List.setIfInBounds_toArray, List.set_cons_zero, List.set_cons_succ, i64_w, i32_w]
        rfl
      refine pure_ (i := 5) (N := some 100) (v := ?_) (a' := ?_) #[true, true, true, false, true, true, false, false, false, false, false, false, false, false, false] rfl rfl (by kernel_rfl) (fun _ _ _ h => h) (Or.inl ⟨by rfl, ?_⟩) ?_ ?_
      rotate_left
      · intro w'
        go_simp
        with_reducible rfl
      rotate_left
      · simp only [Act.put, List.setIfInBounds_toArray, List.set_cons_zero, List.set_cons_succ, i64_w, i32_w]
        rfl
      refine pure_ (i := 6) (N := some 101) (v := ?_) (a' := ?_) #[true, true, true, false, true, true, true, false, false, false, false, false, false, false, false] rfl rfl (by kernel_rfl) (fun _ _ _ h => h) (Or.inl ⟨by rfl, ?_⟩) ?_ ?_
      rotate_left
      · intro w'
        go_simp
        with_reducible rfl
      rotate_left
      · simp only [Act.put, List.setIfInBounds_toArray, List.set_cons_zero, List.set_cons_succ, i64_w, i32_w]
        rfl
      refine pure_ (i := 7) (N := some 102) (v := ?_) (a' := ?_) #[true, true, true, false, true, true, true, true, false, false, false, false, false, false, false] rfl rfl (by kernel_rfl) (fun _ _ _ h => h) (Or.inl ⟨by rfl, ?_⟩) ?_ ?_
      rotate_left
      · intro w'
        go_simp
        with_reducible rfl
      rotate_left
      · simp only [Act.put, List.setIfInBounds_toArray, List.set_cons_zero, List.set_cons_succ, i64_w, i32_w]
        rfl
      refine one_ (i := 3) (N := some 98) #[true, true, true, true, true, true, true, true, false, false, false, false, false, false, false] rfl rfl (by kernel_rfl) (by decide) (fun K hK => ?_)
      have hF1 := Kd.F_take (m := k) (Kd.C_F (Kd.heap_slice _ (Kd.heap_int _)) HX14.out) (Nat.le_of_lt K6.out.1)
      rw [List.length_take, Nat.min_eq_left (Nat.le_of_lt K6.out.1)] at hF1
      have HF1 := Aside0.mk hF1
      clear hF1
      refine Kd.N_append_rows_step rowK (w0 := w14) w14.heap.size (by rfl) (.const (.slice none 0 0)) (.tmp 97) 23 22 (.slice none 0 0) 24 rfl Try.underlying23 infoRows rfl (show 0 < 1 by decide) (by decide) (.slice none 0 0) [] (X.take k) AX (k) (cX) (fun _ => True) (fun k_ => k_ < w14.heap.size) rfl rfl (Kd.N_nil _ _ _ _ _) HF1.out (fun k hk => ⟨trivial, by simp [Value.ownBlock]⟩) (fun _ _ => trivial) (Below.refl _ _) (Nat.le_refl _) (len3 k (Nat.le_trans (Nat.le_of_lt K6.out.1) K6.out.2.1)) ?_
      intro v15 w15 hN hb _ _
      rw [List.nil_append] at hN
      have HN15 := Aside0.mk hN
      have HW15 := Aside0.mk hb
      clear hN hb
      refine hK.out _ _ trivial (fun hHeld => ?_)
      clear hK K
      refine norm_ (a' := ?_) ?_ ?_
      rotate_left
      · show Act.put _ (some 98) _ = _
        simp only [Act.put, List.setIfInBounds_toArray, List.set_cons_zero, List.set_cons_succ, i64_w, i32_w]
        rfl
      refine one_ (i := 8) (N := some 103) #[true, true, true, true, true, true, true, true, true, false, false, false, false, false, false] rfl rfl (by kernel_rfl) (by decide) (fun K hK => ?_)
      have LEN8 := Aside0.mk (len8 X k K6.out.1 K6.out.2.1)
      have hF2 := Kd.F_cut (m := k + 1) (c := cX) (Kd.C_F (Kd.heap_slice _ (Kd.heap_int _)) HX14.out) K6.out.1 CX.out
      rw [show (rowK).sz = 1 from rfl, HAq.out, List.length_drop] at hF2
      have HF2 := Aside0.mk (Kd.F_step hF2 (fun k hk _ => HW15.out.block k hk))
      clear hF2
      refine Kd.N_append_rows_step rowK (w0 := w14) w14.heap.size (by rfl) (.tmp 98) (.tmp 102) 23 22 (.slice none 0 0) 24 rfl Try.underlying23 infoRows rfl (show 0 < 1 by decide) (by decide) v15 (X.take k) (X.drop (k + 1)) Aq (X.length - (k + 1)) (cX - (k + 1)) (fun _ => True) (fun k_ => k_ < w14.heap.size) rfl rfl HN15.out HF2.out (fun j_ hj_ => ⟨trivial, fun e_ => absurd (Kd.N_base HN15.out j_ e_.symm) (Nat.not_le.2 hj_)⟩) (fun _ _ => trivial) HW15.out HW15.out.size LEN8.out ?_
      intro v16 w16 hN hb _ _
      obtain ⟨Av, cv, rfl⟩ := Kd.N_slice hN
      have Hv := Aside0.mk (Kd.N_reads' hN).2.2
      have Cv := Aside0.mk (Kd.N_reads' hN).2.1
      have HB16 := Aside0.mk (HB14.out.trans (hb.mono HB14.out.size))
      clear hN hb HN15 HW15
      refine hK.out _ _ trivial (fun hHeld => ?_)
      clear hK K
      refine norm_ (a' := ?_) ?_ ?_
      rotate_left
      · show Act.put _ (some 103) _ = _
        simp only [Act.put, List.setIfInBounds_toArray, List.set_cons_zero, List.set_cons_succ, i64_w, i32_w]
        rfl
      refine one_ (i := 9) (N := some 104) #[true, true, true, true, true, true, true, true, true, true, false, false, false, false, false] rfl rfl (by kernel_rfl) (by decide) (fun K hK => ?_)
      have Rl2 := Aside0.mk (show matrix_Rank.f (X.take k ++ X.drop (k + 1)) = some (l, 0) from Rl.out)
      refine goes_ Try.func17 (by kernel_rfl) rfl #[.slice Av (X.take k ++ X.drop (k + 1)).length cv] (by rfl) rfl rfl (by simp only [List.map_toArray, List.map_cons, List.map_nil]; rfl) ?_
      with_reducible refine (matrix_Rank.calls Av cv (X.take k ++ X.drop (k + 1)) l 0 _ Hv.out Cv.out Rl2.out).mono ?_
      rintro e w17 ⟨rfl, hb⟩
      refine ⟨_, rfl, ?_⟩
      have HB := Aside0.mk (HB16.out.trans (hb.mono HB16.out.size))
      clear hb
      refine hK.out _ _ trivial (fun hHeld => ?_)
      clear hK K
      refine norm_ (a' := ?_) ?_ ?_
      rotate_left
      · show Act.put _ (some 104) _ = _
        simp only [Act.put, List.setIfInBounds_toArray, List.set_cons_zero, List.set_cons_succ, i64_w, i32_w]
        rfl
      refine pure_ (i := 10) (N := some 94) (v := ?_) (a' := ?_) #[true, true, true, true, true, true, true, true, true, true, true, false, false, false, false] rfl rfl (by kernel_rfl) (fun _ _ _ h => h) (Or.inl ⟨by rfl, ?_⟩) ?_ ?_
      rotate_left
      · intro w'
        go_simp
        with_reducible rfl
      rotate_left
      · simp only [Act.put, List.setIfInBounds_toArray, List.set_cons_zero, List.set_cons_succ, i64_w, i32_w]
        rfl
      refine pure_ (i := 11) (N := some 105) (v := ?_) (a' := ?_) #[true, true, true, true, true, true, true, true, true, true, true, true, false, false, false] rfl rfl (by kernel_rfl) (fun _ _ _ h => h) (Or.inl ⟨by rfl, ?_⟩) ?_ ?_
      rotate_left
      · intro w'
        go_simp
        with_reducible rfl
      rotate_left
      · simp only [Act.put, List.setIfInBounds_toArray, List.set_cons_zero, List.set_cons_succ, i64_w, i32_w]
        rfl
      refine pure_ (i := 12) (N := some 106) (v := ?_) (a' := ?_) #[true, true, true, true, true, true, true, true, true, true, true, true, true, false, false] rfl rfl (by kernel_rfl) (fun _ _ _ h => h) (Or.inl ⟨by rfl, ?_⟩) ?_ ?_
      rotate_left
      · intro w'
        go_simp
        with_reducible rfl
      rotate_left
      · simp only [Act.put, List.setIfInBounds_toArray, List.set_cons_zero, List.set_cons_succ, i64_w, i32_w]
        rfl
      refine pure_ (i := 13) (N := some 26) (v := ?_) (a' := ?_) #[true, true, true, true, true, true, true, true, true, true, true, true, true, true, false] rfl rfl (by kernel_rfl) (fun _ _ _ h => h) (Or.inl ⟨by rfl, ?_⟩) ?_ ?_
      rotate_left
      · intro w'
        go_simp
        with_reducible rfl
      rotate_left
      · simp only [Act.put, List.setIfInBounds_toArray, List.set_cons_zero, List.set_cons_succ, i64_w, i32_w]
        rfl
      refine pure_ (i := 14) (N := some 27) (v := ?_) (a' := ?_) #[true, true, true, true, true, true, true, true, true, true, true, true, true, true, true] rfl rfl (by kernel_rfl) (fun _ _ _ h => h) (Or.inl ⟨by rfl, ?_⟩) ?_ ?_
      rotate_left
      · intro w'
        go_simp
        with_reducible rfl
      rotate_left
      · simp only [Act.put, List.setIfInBounds_toArray, List.set_cons_zero, List.set_cons_succ, i64_w, i32_w]
        rfl
      refine done_ (by kernel_rfl) ?_
      clear hHeld
      go_wp2_with (first
        | (go_at_call 12; with_reducible refine (braidworklaw06_wakes.calls 200 true _ (wakes_ok 192)).mono ?_; rintro e w' ⟨rfl, hb⟩; replace HB := Aside0.mk (HB.out.trans (hb.mono HB.out.size)); clear hb))
      go_ret
      exact ⟨rfl, HB.out⟩
theorem ranks_fin (A0 : Option Addr) (c0 : Nat) (l0 : List Int) (A1 : Option Addr) (c1 : Nat) (l1 : List Int) (s0 s1 a3 : Int) (w : World) (hr0 : Kd.C (Kd.int .u8) w A0 l0.length l0) (hc0 : l0.length ≤ c0) (hr1 : Kd.C (Kd.int .u8) w A1 l1.length l1) (hc1 : l1.length ≤ c1) (cols k : Nat) (X Y : List (List Int))
    (hr : wrap64 (1 + (wrap64 (Int.tmod s0 6))) = (X.length : Int)) (hc : wrap64 (1 + (wrap64 (Int.tmod s1 6))) = (cols : Int)) (hk : Int.tmod (wrap64 a3) (X.length : Int) = (k : Int)) (hkl : k < X.length) (r6 : X.length ≤ 6) (y2 : Y.length = X.length) (k6 : cols ≤ 6)
    (x1 : braidworklaw06_shaped.f 200 l0 X.length cols = some X) (y1 : braidworklaw06_shaped.f 200 l1 X.length cols = some Y) (x3 : Fits cols X) (y3 : Fits cols Y) (p q b s l : Nat)
    (f1 : matrix_Rank.f X = some ((p : Int), 0)) (f2 : matrix_Rank.f Y = some ((q : Int), 0)) (f3 : matrix_Rank.f (X ++ Y) = some ((b : Int), 0)) (f4 : matrix_Rank.f (sumRows X Y) = some ((s : Int), 0)) (f5 : matrix_Rank.f (lessRow X k) = some ((l : Int), 0)) (p6 : p ≤ 6) (q6 : q ≤ 6)
    (g1 : b ≤ p + q) (g2 : p ≤ b) (g3 : q ≤ b) (g4 : s ≤ p + q) (g5 : l ≤ p) (g6 : p ≤ l + 1) :
    Calls Try.prog 5 #[.slice A0 l0.length c0, .slice A1 l1.length c1, .agg #[.int .u8 s0, .int .u8 s1], .int .u8 a3] w fun e w' => e = .returned (.bool true) ∧ Below w.heap.size w w' :=
  ranks_walk A0 c0 l0 A1 c1 l1 s0 s1 a3 w ⟨hr0⟩ ⟨hc0⟩ ⟨hr1⟩ ⟨hc1⟩ cols k X Y hr hc hk ⟨hkl, r6, y2, k6⟩ ⟨x1⟩ ⟨y1⟩ ⟨x3⟩ ⟨y3⟩ p q b s l (p + q) ((p : Int) - 1) _ ⟨f1⟩ ⟨f2⟩ ⟨f3⟩ ⟨f4⟩ ⟨f5⟩ (by unfold wrap64; omega) (by unfold wrap64; omega) rfl
    (eq_true (by omega)) (eq_true (by split <;> omega)) (eq_true (by omega)) (eq_true (by omega)) (eq_true (by omega))
theorem ranks_calls (A0 : Option Addr) (c0 : Nat) (l0 : List Int) (A1 : Option Addr) (c1 : Nat) (l1 : List Int) (l2 : List Int) (a3 : Int) (w : World) (hr0 : Kd.C (Kd.int .u8) w A0 l0.length l0) (hc0 : l0.length ≤ c0) (hr1 : Kd.C (Kd.int .u8) w A1 l1.length l1) (hc1 : l1.length ≤ c1)
    (w0 : ∀ y ∈ l0, (Lit.int .u8 y).wf = true) (w1 : ∀ y ∈ l1, (Lit.int .u8 y).wf = true) (h2 : l2.length = 2) (w2 : ∀ y ∈ l2, (Lit.int .u8 y).wf = true) (w3 : (Lit.int .u8 a3).wf = true) :
    Calls Try.prog 5 #[.slice A0 l0.length c0, .slice A1 l1.length c1, .agg (l2.map (Value.int .u8)).toArray, .int .u8 a3] w fun e w' => e = .returned (.bool true) ∧ Below w.heap.size w w' := by
  match l2, h2 with
  | [s0, s1], _ =>
    have b0 := nonneg_of_wf (w2 s0 (by simp))
    have b1 := nonneg_of_wf (w2 s1 (by simp))
    have b3 := nonneg_of_wf w3
    obtain ⟨rows, r1, r6, hr⟩ := size_six s0 b0.1
    obtain ⟨cols, k1, k6, hc⟩ := size_six s1 b1.1
    obtain ⟨X, x1, x2, x3⟩ := shaped_f l0 (areB_of_wf w0) rows cols r6 k6 200 (by omega)
    obtain ⟨Y, y1, y2, y3⟩ := shaped_f l1 (areB_of_wf w1) rows cols r6 k6 200 (by omega)
    obtain ⟨k, hk, hkl⟩ : ∃ k : Nat, Int.tmod (wrap64 a3) (rows : Int) = (k : Int) ∧ k < rows := by
      have e : wrap64 a3 = a3 := by have := b3.1; have := b3.2; unfold wrap64; omega
      refine ⟨(a3 % (rows : Int)).toNat, ?_, ?_⟩
      · rw [e, Int.tmod_eq_emod_of_nonneg b3.1, Int.toNat_of_nonneg (Int.emod_nonneg _ (by omega))]
      · have h1 := Int.emod_nonneg a3 (show (rows : Int) ≠ 0 by omega)
        have h2 := Int.emod_lt_of_pos a3 (show (0 : Int) < (rows : Int) by omega)
        omega
    subst x2
    have hxy : X.length = Y.length := y2.symm
    obtain ⟨p1, p2, p3, p4, p5, p6⟩ := ranks_plain hxy x3 y3 k hkl
    have cb : cols < 140737488355328 := by omega
    have f1 := rank_f x3 (by omega) cb
    have f2 := rank_f y3 (by omega) cb
    have f3 := rank_f (L := X ++ Y) (n := cols) (fun r hr => (List.mem_append.1 hr).elim (x3 r) (y3 r)) (by simp; omega) cb
    have f4 := rank_f (sumRows_fits hxy x3 y3) (by rw [sumRows_length hxy]; omega) cb
    have f5 := rank_f (L := lessRow X k) (n := cols) (fun r hr => (List.mem_append.1 hr).elim (fun q => x3 r (List.mem_of_mem_take q)) (fun q => x3 r (List.mem_of_mem_drop q))) (by unfold lessRow; simp; omega) cb
    have m1 := rk_le_length (vecs_supp x3)
    have m2 := rk_le_length (vecs_supp y3)
    rw [vecs_length] at m1 m2
    exact ranks_fin A0 c0 l0 A1 c1 l1 s0 s1 a3 w hr0 hc0 hr1 hc1 cols k X Y hr hc hk hkl r6 y2 k6 x1 y1 x3 y3 _ _ _ _ _ f1 f2 f3 f4 f5 (by omega) (by omega) p1 p2 p3 p4 p5 p6
end Go.Proofs.Ythlgmmgdaciinaa.Plain
