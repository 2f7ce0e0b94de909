/- The walk of the law MatrixForm (under way). -/
import Derived.Test.YthlgmmgdaciinaaPlForm
import Derived.Test.YthlgmmgdaciinaaP3
set_option linter.unusedVariables false
set_option linter.unusedSimpArgs false
namespace Go.Proofs.Ythlgmmgdaciinaa.Plain
open Go.Proofs.Ythlgmmgdaciinaa.Hand Go.Proofs.Ythlgmmgdaciinaa.GF Go.Proofs.Ythlgmmgdaciinaa.LA Go.RowKit Go.Proofs.Ythlgmmgdaciinaa.P Go.Proofs.YthlgmmgdaciinaaW.PrintWords Go.Proofs.YthlgmmgdaciinaaW.PrintLast Go.Proofs.YthlgmmgdaciinaaW.PrintMore
attribute [local go_sem] max2_int min2_int max_two min_two
/-- the place of the last lead, -1 at the beginning -/
def lastOf (P : Nat → Nat) : Nat → Int | 0 => -1 | i + 1 => (P i : Int)
theorem lastOf_lt {P : Nat → Nat} {m i : Nat} (h : ∀ i j, i < j → j < m → P i < P j) (hi : i < m) : lastOf P i < (P i : Int) := by
  cases i with
  | zero => show (-1 : Int) < _; omega
  | succ i => exact Int.ofNat_lt.2 (h i (i + 1) (Nat.lt_succ_self i) hi)
theorem len30 (X : List (List Int)) (k : Nat) (h : k < X.length) (h6 : X.length ≤ 6) : (([] : List (List Int)).length + (X.length - k)) * 24 ≤ 140737488355328 := by simp only [List.length_nil]; omega
theorem len31 (X : List (List Int)) (k : Nat) (h : k < X.length) (h6 : X.length ≤ 6) : ((X.drop k).length + k) * 24 ≤ 140737488355328 := by rw [List.length_drop]; omega
theorem small_next (k : Nat) (h : k ≤ 6) : wrap64 ((k : Int) + 1) = ((k + 1 : Nat) : Int) := by unfold wrap64; omega
theorem len10 (X : List (List Int)) (h : X.length ≤ 6) : (([] : List (List Int)).length + X.length) * 24 ≤ 140737488355328 := by simp only [List.length_nil]; omega
theorem len12 (X : List (List Int)) (x : List Int) (h : X.length ≤ 6) : (X.length + [x].length) * 24 ≤ 140737488355328 := by simp only [List.length_cons, List.length_nil]; omega
theorem len13 (X R : List (List Int)) (h : X.length ≤ 6) (h2 : R.length ≤ X.length) : (R.length + X.length) * 24 ≤ 140737488355328 := by omega
theorem len14 (X R : List (List Int)) (h : X.length ≤ 6) (h2 : R.length ≤ X.length) : (([] : List (List Int)).length + R.length) * 24 ≤ 140737488355328 := by simp only [List.length_nil]; omega
/-- a row of rows of one's own: one row -/
theorem N_cell {W : World} {base g n cap : Nat} {ok : Nat → Prop} {xs : List (List Int)} (h : Kd.N rowK 22 W base ok (.slice (some ⟨g, 0, none⟩) n cap) xs) (i : Nat) (hi : i < n) :
    ∃ A c, W.cell? ⟨g, i, none⟩ = some (.slice A (xs.getD i []).length c) ∧ W.frozen? ⟨g, i, none⟩ = false ∧ (xs.getD i []).length ≤ c ∧ Kd.C (Kd.int .u8) W A (xs.getD i []).length (xs.getD i []) := by
  obtain ⟨c, hcl, hK, hcc, hfr⟩ := Kd.N_elem h [] (i : Int) (by omega) (by omega)
  obtain ⟨A, cc, rfl, hl, hF⟩ := Kd.FK_slice_open hK
  have h0 := hcc 0 _ rfl
  have h1 := hfr 0
  simp only [Int.toNat_natCast, show (rowK).sz = 1 from rfl, Nat.mul_one, Nat.add_zero] at h0 h1
  rw [Int.toNat_natCast] at hl hF
  exact ⟨A, cc, h0, h1, hl, Kd.F_now hF⟩
/-- .. one put -/
theorem N_put {W : World} {base g n cap : Nat} {xs : List (List Int)} (h : Kd.N rowK 22 W base (fun _ => True) (.slice (some ⟨g, 0, none⟩) n cap) xs) (i : Nat) (hi : i < n) {A : Option Addr} {c : Nat} {x : List Int} (hx : x.length ≤ c)
    (hF : Kd.F (Kd.int .u8) W (fun k => k ≠ g) A x.length x) : Kd.N rowK 22 (W.setCell ⟨g, i, none⟩ (.slice A x.length c)) base (fun _ => True) (.slice (some ⟨g, 0, none⟩) n cap) (xs.set i x) := by
  obtain ⟨A0, c0, h0, _, _⟩ := N_cell h i hi
  obtain ⟨h2, _⟩ := Kd.N_seg h (i : Int) (by omega) (by omega) (c := [.slice A0 (xs.getD i []).length c0]) (seg := [.slice A x.length c]) (j := 0) (x' := x) (okp := fun k => k ≠ g) rfl
    (fun j u hu => by
      cases j with
      | zero =>
        have : Value.slice A0 (xs.getD i []).length c0 = u := by simpa using hu
        subst this
        simpa [rowK, Kd.slice] using h0
      | succ j => simp at hu) (Nat.le_refl 1)
    (show Kd.FK rowK W _ x [.slice A x.length c] from Kd.FK_slice_mk hx hF) (fun k hk => ⟨trivial, hk⟩)
  have e : W.setCells g ((i : Int).toNat * (rowK).sz + 0) [.slice A x.length c] = W.setCell ⟨g, i, none⟩ (.slice A x.length c) := by
    simp [World.setCells, rowK, Kd.slice]
  rw [e, Int.toNat_natCast] at h2
  exact h2
/-- a new row is none of an elder block -/
theorem row_new {W W' : World} {e g : Nat} {v : Value} {x : List Int} (hg : g < W.heap.size) (hr : Kd.R (Kd.int .u8) e W' W.heap.size (fun _ => True) v x) : ∃ A c, v = .slice A x.length c ∧ x.length ≤ c ∧ Kd.F (Kd.int .u8) W' (fun k => k ≠ g) A x.length x := by
  obtain ⟨A, c, rfl, hl, _⟩ := Kd.R_reads hr
  exact ⟨A, c, rfl, hl, Kd.R_F (Kd.R_mono (Kd.R_bound hr) fun k hk => by omega)⟩
theorem N_as {W : World} {base : Nat} {ok : Nat → Prop} {v : Value} {xs ys : List (List Int)} (e : xs = ys) (h : Kd.N rowK 22 W base ok v xs) : Kd.N rowK 22 W base ok v ys := e ▸ h
theorem N_glt {W : World} {base g n cap : Nat} {xs : List (List Int)} (h : Kd.N rowK 22 W base (fun _ => True) (.slice (some ⟨g, 0, none⟩) n cap) xs) : g < W.heap.size := Kd.N_lt h g (by simp [Value.ownBlock])
theorem idx4_0 (A B C D : Option Addr) (a a' b b' c c' d d' : Nat) (W : World) : (Instr.index 44 (.agg #[.slice A a a', .slice B b b', .slice C c c', .slice D d d']) (.int .i64 0)).run Try.prog W = .ok (.slice A a a') W := by simp [Instr.index, asIntOf, part]
theorem idx4_1 (A B C D : Option Addr) (a a' b b' c c' d d' : Nat) (W : World) : (Instr.index 44 (.agg #[.slice A a a', .slice B b b', .slice C c c', .slice D d d']) (.int .i64 1)).run Try.prog W = .ok (.slice B b b') W := by simp [Instr.index, asIntOf, part]
theorem idx4_2 (A B C D : Option Addr) (a a' b b' c c' d d' : Nat) (W : World) : (Instr.index 44 (.agg #[.slice A a a', .slice B b b', .slice C c c', .slice D d d']) (.int .i64 2)).run Try.prog W = .ok (.slice C c c') W := by simp [Instr.index, asIntOf, part]
theorem idx4_3 (A B C D : Option Addr) (a a' b b' c c' d d' : Nat) (W : World) : (Instr.index 44 (.agg #[.slice A a a', .slice B b b', .slice C c c', .slice D d d']) (.int .i64 3)).run Try.prog W = .ok (.slice D d d') W := by simp [Instr.index, asIntOf, part]
set_option maxHeartbeats 4000000 in
set_option maxRecDepth 100000 in
theorem form_walk (A0 : Option Addr) (c0 : Nat) (l0 : List Int) (s0 s1 a2 a3 : Int) (w : World) (Hl0 : Aside0 (Kd.C (Kd.int .u8) w A0 l0.length l0)) (Cl0 : Aside0 (l0.length ≤ c0))
    (cols kk : Nat) (X Rr : List (List Int)) (hk : Int.tmod (wrap64 a2) (X.length : Int) = (kk : Int)) (KK : Aside0 (kk < X.length)) (hr : wrap64 (1 + (wrap64 (Int.tmod s0 6))) = (X.length : Int)) (hc : wrap64 (1 + (wrap64 (Int.tmod s1 6))) = (cols : Int)) (K6 : Aside0 (X.length ≤ 6 ∧ cols ≤ 6 ∧ Rr.length ≤ X.length))
    (FX : Aside0 (braidworklaw06_shaped.f 200 l0 X.length cols = some X)) (XF : Aside0 (Fits cols X)) (RF : Aside0 (Fits cols Rr)) (FR : Aside0 (matrix_Reduce.f X = some (Rr, 0))) (mn : Int) (hmn : (if (cols : Int) < (X.length : Int) then (cols : Int) else (X.length : Int)) = mn) (hmn2 : (if cols < X.length then (cols : Int) else (X.length : Int)) = mn) (d0 : ((Rr.length : Int) > mn) = False) (d0' : (mn < (Rr.length : Int)) = False) (d0'' : decide ((Rr.length : Int) > mn) = false)
    (P : Nat → Nat) (HPi : Aside0 (∀ i j, i < j → j < Rr.length → P i < P j)) (HPl : Aside0 (∀ i, i < Rr.length → P i < cols ∧ leadN (Rr.getD i []) = ((P i : Nat) : Int) ∧ ∀ k, k < Rr.length → (Rr.getD k []).getD (P i) 0 = if k = i then 1 else 0)) (LZ : Aside0 (∀ i, i < X.length → ∀ z, z ∈ leftL Rr (X.getD i []) Rr.length → z = 0))
    (k2 : Nat) (xk xj y z0 s : List Int) (T D Z1 Z : List (List Int)) (HXK : Aside0 (X.getD kk [] = xk)) (HXJ : Aside0 (X.getD k2 [] = xj)) (hk2 : Int.tmod (wrap64 ((kk : Int) + 1)) (X.length : Int) = (k2 : Int)) (K2 : Aside0 (k2 < X.length)) (hT : Aside0 (X.drop kk ++ X.take kk = T)) (hD : Aside0 (X ++ [xk] = D))
    (FAS : Aside0 (vector_AddScaled.f xk xj a3 = some (y, 0))) (hZ1 : Aside0 (Z1 = if 1 < X.length then X.set kk y else X)) (HZ0 : Aside0 (Z1.getD 0 [] = z0)) (FS : Aside0 (vector_Scale.f z0 a3 = some s)) (hZ : Aside0 (Z = if a3 = 0 then Z1 else Z1.set 0 s)) (ZL : Aside0 (Z.length = X.length))
    (FT : Aside0 (matrix_Reduce.f T = some (Rr, 0))) (FD : Aside0 (matrix_Reduce.f D = some (Rr, 0))) (FZ : Aside0 (matrix_Reduce.f Z = some (Rr, 0))) (FRR : Aside0 (matrix_Reduce.f Rr = some (Rr, 0))) (FSame : Aside0 (matrix_Same.f Rr Rr = some true)) (FRank : Aside0 (matrix_Rank.f (Rr ++ X) = some ((Rr.length : Int), 0))) :
    Calls Try.prog 6 #[.slice A0 l0.length c0, .agg #[.int .u8 s0, .int .u8 s1], .int .u8 a2, .int .u8 a3] w fun e w' => e = .returned (.bool true) ∧ Below w.heap.size w w' := by
  have HB := Aside0.mk (below_drew (below_alloc (Below.refl w.heap.size w) (.cells #[.int .u8 s0, .int .u8 s1] 37)))
  have z1 : ((X.length : Int) == 0) = false := by have := KK.out; simp; intro e; rw [e] at this; simp at this
  have z2 : ((X.length : Int) = 0) = False := eq_false (by have := KK.out; omega)
  have z3 : (X.length = 0) = False := eq_false (by have := KK.out; omega)
  have z4 : (X = []) = False := eq_false (by intro e; have := KK.out; rw [e] at this; simp at this)
  go_enter Try.func6, Try.ntmps6
  go_wp2
  refine start_ (n := 12) (S := fun w' => w'.cell? ⟨w.heap.size, 0, none⟩ = some (.int .u8 s0) ∧ w'.cell? ⟨w.heap.size, 1, none⟩ = some (.int .u8 s1)) (ds := []) #[false, false, false, false, false, false, false, false, false, false, false, false] (by kernel_rfl) rfl rfl ⟨(by simp), (by simp)⟩ (fun hHeld => ?_)
  generalize (World.drew _) = w1 at HB hHeld ⊢
  refine pure_ (i := 0) (N := some 31) (v := ?_) (a' := ?_) #[true, false, false, false, false, false, false, false, false, false, false, false] rfl rfl (by kernel_rfl) (fun _ _ _ h => h) (Or.inl ⟨by rfl, ?_⟩) ?_ ?_
  rotate_left
  · intro w'
    go_simp
    with_reducible rfl
  rotate_left
  · simp only [Act.put, List.setIfInBounds_toArray, List.set_cons_zero, List.set_cons_succ, i64_w, i32_w]
    rfl
  refine pure_ (i := 5) (N := some 36) (v := ?_) (a' := ?_) #[true, false, false, false, false, true, false, false, false, false, false, false] rfl rfl (by kernel_rfl) (fun _ _ _ h => h) (Or.inl ⟨by rfl, ?_⟩) ?_ ?_
  rotate_left
  · intro w'
    go_simp
    with_reducible rfl
  rotate_left
  · simp only [Act.put, List.setIfInBounds_toArray, List.set_cons_zero, List.set_cons_succ, i64_w, i32_w]
    rfl
  refine take_ (i := 1) (N := some 32) (v := ?_) (a' := ?_) #[true, true, false, false, false, true, false, false, false, false, false, false] rfl rfl (by kernel_rfl) (fun _ _ _ h => h) (Or.inl ⟨by rfl, ?_⟩) hHeld ?_ ?_
  rotate_left
  · rintro w' ⟨s0, s1⟩
    go_simp
    with_reducible rfl
  rotate_left
  · simp only [Act.put, List.setIfInBounds_toArray, List.set_cons_zero, List.set_cons_succ, i64_w, i32_w]
    rfl
  refine pure_ (i := 2) (N := some 33) (v := ?_) (a' := ?_) #[true, true, true, false, false, true, false, false, false, false, false, false] rfl rfl (by kernel_rfl) (fun _ _ _ h => h) (Or.inl ⟨by rfl, ?_⟩) ?_ ?_
  rotate_left
  · intro w'
    go_simp
    with_reducible rfl
  rotate_left
  · simp only [Act.put, List.setIfInBounds_toArray, List.set_cons_zero, List.set_cons_succ, i64_w, i32_w]
    rfl
  refine take_ (i := 3) (N := some 34) (v := ?_) (a' := ?_) #[true, true, true, true, false, true, false, false, false, false, false, false] rfl rfl (by kernel_rfl) (fun _ _ _ h => h) (Or.inl ⟨by rfl, ?_⟩) hHeld ?_ ?_
  rotate_left
  · rintro w' ⟨s0, s1⟩
    go_simp
    with_reducible rfl
  rotate_left
  · simp only [Act.put, List.setIfInBounds_toArray, List.set_cons_zero, List.set_cons_succ, i64_w, i32_w]
    rfl
  refine pure_ (i := 4) (N := some 35) (v := ?_) (a' := ?_) #[true, true, true, true, true, true, false, false, false, false, false, false] rfl rfl (by kernel_rfl) (fun _ _ _ h => h) (Or.inl ⟨by rfl, ?_⟩) ?_ ?_
  rotate_left
  · intro w'
    go_simp
    with_reducible rfl
  rotate_left
  · simp only [Act.put, List.setIfInBounds_toArray, List.set_cons_zero, List.set_cons_succ, i64_w, i32_w]
    rfl
  refine pure_ (i := 10) (N := some 9) (v := ?_) (a' := ?_) #[true, true, true, true, true, true, false, false, false, false, true, false] rfl rfl (by kernel_rfl) (fun _ _ _ h => h) (Or.inl ⟨by rfl, ?_⟩) ?_ ?_
  rotate_left
  · intro w'
    go_simp
    with_reducible rfl
  rotate_left
  · simp only [Act.put, List.setIfInBounds_toArray, List.set_cons_zero, List.set_cons_succ, i64_w, i32_w]
    rfl
  refine take_ (i := 6) (N := some 37) (v := ?_) (a' := ?_) #[true, true, true, true, true, true, true, false, false, false, true, false] rfl rfl (by kernel_rfl) (fun _ _ _ h => h) (Or.inl ⟨by rfl, ?_⟩) hHeld ?_ ?_
  rotate_left
  · rintro w' ⟨s0, s1⟩
    go_simp
    with_reducible rfl
  rotate_left
  · simp only [Act.put, List.setIfInBounds_toArray, List.set_cons_zero, List.set_cons_succ, i64_w, i32_w]
    rfl
  refine pure_ (i := 7) (N := some 38) (v := ?_) (a' := ?_) #[true, true, true, true, true, true, true, true, false, false, true, false] rfl rfl (by kernel_rfl) (fun _ _ _ h => h) (Or.inl ⟨by rfl, ?_⟩) ?_ ?_
  rotate_left
  · intro w'
    go_simp
    with_reducible rfl
  rotate_left
  · simp only [Act.put, List.setIfInBounds_toArray, List.set_cons_zero, List.set_cons_succ, i64_w, i32_w]
    rfl
  refine take_ (i := 8) (N := some 39) (v := ?_) (a' := ?_) #[true, true, true, true, true, true, true, true, true, false, true, false] rfl rfl (by kernel_rfl) (fun _ _ _ h => h) (Or.inl ⟨by rfl, ?_⟩) hHeld ?_ ?_
  rotate_left
  · rintro w' ⟨s0, s1⟩
    go_simp
    with_reducible rfl
  rotate_left
  · simp only [Act.put, List.setIfInBounds_toArray, List.set_cons_zero, List.set_cons_succ, i64_w, i32_w]
    rfl
  refine pure_ (i := 9) (N := some 40) (v := ?_) (a' := ?_) #[true, true, true, true, true, true, true, true, true, true, true, false] rfl rfl (by kernel_rfl) (fun _ _ _ h => h) (Or.inl ⟨by rfl, ?_⟩) ?_ ?_
  rotate_left
  · intro w'
    go_simp
    with_reducible rfl
  rotate_left
  · simp only [Act.put, List.setIfInBounds_toArray, List.set_cons_zero, List.set_cons_succ, i64_w, i32_w]
    rfl
  refine pure_ (i := 11) (N := some 10) (v := ?_) (a' := ?_) #[true, true, true, true, true, true, true, true, true, true, true, true] rfl rfl (by kernel_rfl) (fun _ _ _ h => h) (Or.inl ⟨by rfl, ?_⟩) ?_ ?_
  rotate_left
  · intro w'
    go_simp
    with_reducible rfl
  rotate_left
  · simp only [Act.put, List.setIfInBounds_toArray, List.set_cons_zero, List.set_cons_succ, i64_w, i32_w]
    rfl
  refine done_ (by kernel_rfl) ?_
  replace Hl0 := Aside0.mk (Kd.C_below Hl0.out HB.out)
  clear hHeld
  go_upto_region 4 with (first
        | (go_at_call 10; with_reducible refine (braidworklaw06_shaped.calls 200 A0 c0 l0 (X.length : Int) (cols : Int) X _ Hl0.out Cl0.out FX.out).mono ?_; rintro e w2 ⟨v_, rfl, ho_, hb⟩; obtain ⟨AX, cX, rfl⟩ := Kd.S_slice ho_; have HX := Aside0.mk (Kd.S_reads' ho_).2.2; have CX := Aside0.mk (Kd.S_reads' ho_).2.1; clear ho_; replace HB := Aside0.mk (HB.out.trans (hb.mono HB.out.size)); clear hb)
        | (go_at_call 19; with_reducible refine (matrix_Reduce.calls AX cX X Rr 0 _ HX.out CX.out FR.out).mono ?_; rintro e w3 ⟨v_, rfl, ho_, hb⟩; obtain ⟨AR, cR, rfl⟩ := Kd.S_slice ho_; have HR := Aside0.mk (Kd.S_reads' ho_).2.2; have CR := Aside0.mk (Kd.S_reads' ho_).2.1; clear ho_; replace HX := Aside0.mk (Kd.C_below HX.out hb); replace HB := Aside0.mk (HB.out.trans (hb.mono HB.out.size)); clear hb))
  go_wp2
  go_loopg [15, 14] Rr.length (fun kq v15 v14 w' => ∃ i : Nat, v15 = .int .i64 (i : Int) ∧ v14 = .int .i64 (lastOf P i) ∧ Aside0 (kq + i = Rr.length) ∧ Aside0 (Below w3.heap.size w3 w'))
  case atStart => exact ⟨0, rfl, rfl, ⟨by omega⟩, ⟨Below.refl _ _⟩⟩
  case round =>
    obtain ⟨i, rfl, rfl, HI, HW⟩ := hrel
    by_cases hi : i < Rr.length
    · have p0 : (0 : Int) ≤ (i : Int) := Int.natCast_nonneg _
      have p1 : (i : Int) < (Rr.length : Int) := Int.ofNat_lt.2 hi
      have q1 : decide ((i : Int) < (Rr.length : Int)) = true := decide_eq_true p1
      obtain ⟨ad, Ai, ci, e1, hx1, hl1, hi1⟩ := at_R HR.out (i : Int) p0 p1
      cases e1
      have er : rdR Rr (i : Int) = Rr.getD i [] := by unfold rdR; rw [Int.toNat_natCast]
      rw [er] at hx1 hl1 hi1
      rw [Int.toNat_natCast] at hx1
      replace hx1 := (HW.out.cell (World.block_lt_of_cell? _ _ hx1)).trans hx1
      have Hi1 := Aside0.mk (Kd.C_below hi1 HW.out)
      have Hl1_ := Aside0.mk hl1
      have ri := getD_fits RF.out hi
      obtain ⟨b1, b2, b3⟩ := HPl.out i hi
      have HLead := Aside0.mk (show vector_Lead.f (Rr.getD i []) = some ((P i : Nat) : Int) from by
        unfold vector_Lead.f; rw [if_pos (by have := K6.out; omega), b2])
      have hnx := small_next i (by have := K6.out; omega)
      have hlt := lastOf_lt HPi.out hi
      have t1 : decide (((P i : Nat) : Int) ≤ lastOf P i) = false := decide_eq_false (by omega)
      have t2 : (((P i : Nat) : Int) ≤ lastOf P i) = False := eq_false (by omega)
      have B3 := Aside0.mk b3
      have B1 := Aside0.mk b1
      have q4 := eq_true p0
      have q5 := eq_true p1
      have q6 := eq_true hi
      have Hi := Aside0.mk hi
      have pl0 : (0 : Int) ≤ ((P i : Nat) : Int) := Int.natCast_nonneg _
      have pl1 : ((P i : Nat) : Int) < ((Rr.getD i []).length : Int) := by rw [ri.1]; exact Int.ofNat_lt.2 b1
      obtain ⟨adi, ei, hxi⟩ := Kd.at_int Hi1.out ((P i : Nat) : Int) pl0 pl1
      cases ei
      rw [Int.toNat_natCast] at hxi
      have ev : rd (Rr.getD i []) ((P i : Nat) : Int) = 1 := by unfold rd; rw [Int.toNat_natCast, b3 i hi, if_pos rfl]
      rw [ev] at hxi
      have Hxi := Aside0.mk hxi
      have Hx1 := Aside0.mk hx1
      have PL := Aside0.mk (And.intro pl0 pl1)
      clear p0 p1 hi er hi1 hl1 ri b1 b2 b3 hlt hxi pl0 pl1 ev
      generalize Rr.getD i [] = x at *
      go_upto_region 11 with (go_at_call 20; with_reducible refine (vector_Lead.calls _ _ x ((P i : Nat) : Int) _ Hi1.out Hl1_.out HLead.out).mono ?_; rintro e w4 ⟨rfl, hd⟩; have hb := drawn_below hd; replace HW := Aside0.mk (HW.out.trans (hb.mono HW.out.size)); replace hx1 := (hb.cell (World.block_lt_of_cell? _ _ Hx1.out)).trans Hx1.out; have hxi := (hb.cell (World.block_lt_of_cell? _ _ Hxi.out)).trans Hxi.out; clear hb hd)
      have q7 := eq_true PL.out.1
      have q8 := eq_true PL.out.2
      cases gk with
      | zero => exact absurd HI.out (by have := Hi.out; omega)
      | succ k1 =>
      go_wp2
      clear hx1 hxi t1 t2 q7 q8 q1 q4 q5 q6
      go_loopg [17] Rr.length (fun kq v17 w' => ∃ k : Nat, v17 = .int .i64 (k : Int) ∧ Aside0 (kq + k = Rr.length) ∧ Aside0 (Below w3.heap.size w3 w'))
      case atStart => exact ⟨0, rfl, ⟨by omega⟩, HW⟩
      case round =>
        clear HW
        obtain ⟨k, rfl, HK, HW⟩ := hrel
        by_cases hk : k < Rr.length
        · have p0 : (0 : Int) ≤ (k : Int) := Int.natCast_nonneg _
          have p1 : (k : Int) < (Rr.length : Int) := Int.ofNat_lt.2 hk
          have q1 : decide ((k : Int) < (Rr.length : Int)) = true := decide_eq_true p1
          obtain ⟨bd, Bk, ck, e2, hx2, hl2, hi2⟩ := at_R HR.out (k : Int) p0 p1
          injection e2 with e2
          subst e2
          have er : rdR Rr (k : Int) = Rr.getD k [] := by unfold rdR; rw [Int.toNat_natCast]
          rw [er] at hx2 hl2 hi2
          rw [Int.toNat_natCast] at hx2
          replace hx2 := (HW.out.cell (World.block_lt_of_cell? _ _ hx2)).trans hx2
          have ry := getD_fits RF.out hk
          have hval := B3.out k hk
          have hnk := small_next k (by have := K6.out; omega)
          have q4 := eq_true p0
          have q5 := eq_true p1
          have q6 := eq_true hk
          have Hk := Aside0.mk hk
          have pl0 : (0 : Int) ≤ ((P i : Nat) : Int) := PL.out.1
          have pl1 : ((P i : Nat) : Int) < ((Rr.getD k []).length : Int) := by rw [ry.1]; exact Int.ofNat_lt.2 B1.out
          obtain ⟨bdi, ei, hxi⟩ := Kd.at_int (Kd.C_below hi2 HW.out) ((P i : Nat) : Int) pl0 pl1
          cases ei
          rw [Int.toNat_natCast] at hxi
          have ev : rd (Rr.getD k []) ((P i : Nat) : Int) = if k = i then 1 else 0 := by unfold rd; rw [Int.toNat_natCast]; exact hval
          rw [ev] at hxi
          have q7 := eq_true pl0
          have q8 := eq_true pl1
          clear p0 p1 hk er hi2 hl2 ry hval pl0 pl1 ev
          generalize Rr.getD k [] = y at *
          cases gk with
          | zero => exact absurd HK.out (by have := Hk.out; omega)
          | succ k2 =>
          by_cases e : k = i
          · have r1 : ((k : Int) != (i : Int)) = false := by simp [e]
            have E := Aside0.mk e
            clear hx2 hxi e
            go_wp2
            go_roundg k2
            case measure => omega
            case rel => exact ⟨k + 1, by first | rfl | rw [hnk] | rw [hnx, E.out], ⟨by have := HK.out; omega⟩, HW⟩
          · rw [if_neg e] at hxi
            have r1 : ((k : Int) != (i : Int)) = true := by simp; omega
            have r2 : (k = i) = False := eq_false e
            have r3 : (k != i) = true := by simpa using e
            clear e
            go_wp2
            go_roundg k2
            case measure => omega
            case rel => exact ⟨k + 1, by first | rfl | rw [hnk], ⟨by have := HK.out; omega⟩, HW⟩
        · have q1 : decide ((k : Int) < (Rr.length : Int)) = false := decide_eq_false (by omega)
          have q2 : decide (k < Rr.length) = false := decide_eq_false hk
          have q3 := eq_false hk
          clear hk HK
          go_wp2
          go_roundg k1
          case measure => omega
          case rel => exact ⟨i + 1, by first | rfl | rw [hnx], rfl, ⟨by have := HI.out; omega⟩, HW⟩
    · have q1 : decide ((i : Int) < (Rr.length : Int)) = false := decide_eq_false (by omega)
      have q2 : decide (i < Rr.length) = false := decide_eq_false hi
      have q3 := eq_false hi
      clear hi HI
      go_wp2
      clear q1 q2 q3
      go_loopg [18] X.length (fun kq v18 w' => ∃ i : Nat, v18 = .int .i64 (i : Int) ∧ Aside0 (kq + i = X.length) ∧ Aside0 (Below w3.heap.size w3 w'))
      case atStart => exact ⟨0, rfl, ⟨by omega⟩, HW⟩
      case round =>
        clear HW
        obtain ⟨i, rfl, HI, HW⟩ := hrel
        by_cases hi : i < X.length
        · have p0 : (0 : Int) ≤ (i : Int) := Int.natCast_nonneg _
          have p1 : (i : Int) < (X.length : Int) := Int.ofNat_lt.2 hi
          have q1 : decide ((i : Int) < (X.length : Int)) = true := decide_eq_true p1
          obtain ⟨ad, Ai, ci, e1, hx1, hl1, hi1⟩ := at_R HX.out (i : Int) p0 p1
          cases e1
          have er : rdR X (i : Int) = X.getD i [] := by unfold rdR; rw [Int.toNat_natCast]
          rw [er] at hx1 hl1 hi1
          rw [Int.toNat_natCast] at hx1
          replace hx1 := (HW.out.cell (World.block_lt_of_cell? _ _ hx1)).trans hx1
          have HC := Aside0.mk (Kd.C_below hi1 HW.out)
          have Hl1_ := Aside0.mk hl1
          have HXi := Aside0.mk (getD_fits XF.out hi)
          have HZ := Aside0.mk (LZ.out i hi)
          have hnx := small_next i (by have := K6.out; omega)
          have q4 := eq_true p0
          have q5 := eq_true p1
          have q6 := eq_true hi
          have Hi := Aside0.mk hi
          obtain ⟨x, hx⟩ : ∃ x, x = X.getD i [] := ⟨_, rfl⟩
          rw [← hx] at hx1 HC Hl1_ HXi HZ
          clear p0 p1 hi er hi1 hl1 hx
          cases gk with
          | zero => exact absurd HI.out (by have := Hi.out; omega)
          | succ k1 =>
          go_wp2
          clear hx1 q1 q4 q5 q6
          go_loopg [20, 19] Rr.length (fun kq v20 v19 w' => ∃ (k : Nat) (A : Option Addr) (c : Nat) (l : List Int), v20 = .int .i64 (k : Int) ∧ v19 = .slice A l.length c ∧ Aside0 (kq + k = Rr.length) ∧ Aside0 (l = leftL Rr x k) ∧ Aside0 (l.length ≤ c) ∧ Aside0 (Kd.C (Kd.int .u8) w' A l.length l) ∧ Aside0 (Below w3.heap.size w3 w'))
          case atStart => exact ⟨0, _, _, x, rfl, rfl, ⟨by omega⟩, ⟨rfl⟩, Hl1_, HC, HW⟩
          case round =>
            clear HW HC Hl1_
            obtain ⟨k, Al, cl, l, rfl, rfl, HK, HL, HLC, HC, HW⟩ := hrel
            by_cases hk : k < Rr.length
            · have p0 : (0 : Int) ≤ (k : Int) := Int.natCast_nonneg _
              have p1 : (k : Int) < (Rr.length : Int) := Int.ofNat_lt.2 hk
              have q1 : decide ((k : Int) < (Rr.length : Int)) = true := decide_eq_true p1
              obtain ⟨bd, Bk, ck, e2, hx2, hl2, hi2⟩ := at_R HR.out (k : Int) p0 p1
              cases e2
              have er : rdR Rr (k : Int) = Rr.getD k [] := by unfold rdR; rw [Int.toNat_natCast]
              rw [er] at hx2 hl2 hi2
              rw [Int.toNat_natCast] at hx2
              replace hx2 := (HW.out.cell (World.block_lt_of_cell? _ _ hx2)).trans hx2
              have HY := Aside0.mk (Kd.C_below hi2 HW.out)
              have Hl2_ := Aside0.mk hl2
              have ry := getD_fits RF.out hk
              obtain ⟨b1, b2, b3⟩ := HPl.out k hk
              have hll := leftL_fits RF.out HXi.out k (Nat.le_of_lt hk)
              rw [← HL.out] at hll
              have HLead := Aside0.mk (show vector_Lead.f (Rr.getD k []) = some ((P k : Nat) : Int) from by
                unfold vector_Lead.f; rw [if_pos (by have := K6.out; omega), b2])
              have HNext := Aside0.mk (show addS l (Rr.getD k []) (rd l ((P k : Nat) : Int)) = leftL Rr x (k + 1) from by
                show _ = addS (leftL Rr x k) (Rr.getD k []) ((leftL Rr x k).getD (leadN (Rr.getD k [])).toNat 0)
                rw [b2, Int.toNat_natCast, ← HL.out]; unfold rd; rw [Int.toNat_natCast])
              have HAS := Aside0.mk (show vector_AddScaled.f l (Rr.getD k []) (rd l ((P k : Nat) : Int)) = some (addS l (Rr.getD k []) (rd l ((P k : Nat) : Int)), 0) from by
                unfold vector_AddScaled.f
                rw [if_pos (by rw [hll.1, ry.1]), if_pos ⟨by unfold vN; have := K6.out; omega, ry.2, rd_B hll.2 _⟩]; rfl)
              have hnk := small_next k (by have := K6.out; omega)
              have pl0 : (0 : Int) ≤ ((P k : Nat) : Int) := Int.natCast_nonneg _
              have pl1 : ((P k : Nat) : Int) < (l.length : Int) := by rw [hll.1]; exact Int.ofNat_lt.2 b1
              obtain ⟨adl, ei, hxl⟩ := Kd.at_int HC.out ((P k : Nat) : Int) pl0 pl1
              cases ei
              rw [Int.toNat_natCast] at hxl
              have HLen := Aside0.mk (show (addS l (Rr.getD k []) (rd l ((P k : Nat) : Int))).length = l.length from by unfold addS; rw [List.length_zipWith, hll.1, ry.1, Nat.min_self])
              have q4 := eq_true p0
              have q5 := eq_true p1
              have q6 := eq_true hk
              have q7 := eq_true pl0
              have q8 := eq_true pl1
              have Hk := Aside0.mk hk
              clear p0 p1 hk er hi2 hl2 ry b1 b2 b3 hll pl0 pl1
              generalize Rr.getD k [] = y at *
              generalize rd l ((P k : Nat) : Int) = xl at *
              cases gk with
              | zero => exact absurd HK.out (by have := Hk.out; omega)
              | succ k2 =>
              go_wp2
              refine start_ (n := 18) (S := fun w' => w'.cell? (bd.add k) = some (.slice Bk y.length ck) ∧ w'.cell? (adl.add (P k)) = some (.int .u8 xl)) (ds := []) #[false, false, false, false, false, false, false, false, false, false, false, false, false, false, false, false, false, false] (by kernel_rfl) rfl rfl ⟨(by simpa using hx2), (by simpa using hxl)⟩ (fun hHeld => ?_)
              replace HC := Aside0.mk (Kd.C_below HC.out (below_drew (Below.refl wr.heap.size wr)))
              replace HY := Aside0.mk (Kd.C_below HY.out (below_drew (Below.refl wr.heap.size wr)))
              replace HW := Aside0.mk (below_drew HW.out)
              clear hx2 hxl
              generalize wr.drew = w4 at HC HY HW hHeld ⊢
              refine pure_ (i := 0) (N := some 120) (v := ?_) (a' := ?_) #[true, false, false, false, false, false, false, false, false, false, false, false, false, false, false, false, false, false] rfl rfl (by kernel_rfl) (fun _ _ _ h => h) (Or.inl ⟨by rfl, ?_⟩) ?_ ?_
              rotate_left
              · intro w'
                go_simp
                with_reducible rfl
              rotate_left
              · simp only [Act.put, List.setIfInBounds_toArray, List.set_cons_zero, List.set_cons_succ, i64_w, i32_w]
                rfl
              refine pure_ (i := 1) (N := some 121) (v := ?_) (a' := ?_) #[true, true, false, false, false, false, false, false, false, false, false, false, false, false, false, false, false, false] rfl rfl (by kernel_rfl) (fun _ _ _ h => h) (Or.inl ⟨by rfl, ?_⟩) ?_ ?_
              rotate_left
              · intro w'
                go_simp
                with_reducible rfl
              rotate_left
              · simp only [Act.put, List.setIfInBounds_toArray, List.set_cons_zero, List.set_cons_succ, i64_w, i32_w]
                rfl
              refine pure_ (i := 2) (N := some 122) (v := ?_) (a' := ?_) #[true, true, true, false, false, false, false, false, false, false, false, false, false, false, false, false, false, false] rfl rfl (by kernel_rfl) (fun _ _ _ h => h) (Or.inl ⟨by rfl, ?_⟩) ?_ ?_
              rotate_left
              · intro w'
                go_simp
                with_reducible rfl
              rotate_left
              · simp only [Act.put, List.setIfInBounds_toArray, List.set_cons_zero, List.set_cons_succ, i64_w, i32_w]
                rfl
              refine pure_ (i := 3) (N := some 123) (v := ?_) (a' := ?_) #[true, true, true, true, false, false, false, false, false, false, false, false, false, false, false, false, false, false] rfl rfl (by kernel_rfl) (fun _ _ _ h => h) (Or.inl ⟨by rfl, ?_⟩) ?_ ?_
              rotate_left
              · intro w'
                go_simp
                with_reducible rfl
              rotate_left
              · simp only [Act.put, List.setIfInBounds_toArray, List.set_cons_zero, List.set_cons_succ, i64_w, i32_w]
                rfl
              refine pure_ (i := 5) (N := some 125) (v := ?_) (a' := ?_) #[true, true, true, true, false, true, false, false, false, false, false, false, false, false, false, false, false, false] rfl rfl (by kernel_rfl) (fun _ _ _ h => h) (Or.inl ⟨by rfl, ?_⟩) ?_ ?_
              rotate_left
              · intro w'
                go_simp
                with_reducible rfl
              rotate_left
              · simp only [Act.put, List.setIfInBounds_toArray, List.set_cons_zero, List.set_cons_succ, i64_w, i32_w]
                rfl
              refine pure_ (i := 6) (N := some 126) (v := ?_) (a' := ?_) #[true, true, true, true, false, true, true, false, false, false, false, false, false, false, false, false, false, false] rfl rfl (by kernel_rfl) (fun _ _ _ h => h) (Or.inl ⟨by rfl, ?_⟩) ?_ ?_
              rotate_left
              · intro w'
                go_simp
                with_reducible rfl
              rotate_left
              · simp only [Act.put, List.setIfInBounds_toArray, List.set_cons_zero, List.set_cons_succ, i64_w, i32_w]
                rfl
              refine pure_ (i := 7) (N := some 127) (v := ?_) (a' := ?_) #[true, true, true, true, false, true, true, true, false, false, false, false, false, false, false, false, false, false] rfl rfl (by kernel_rfl) (fun _ _ _ h => h) (Or.inl ⟨by rfl, ?_⟩) ?_ ?_
              rotate_left
              · intro w'
                go_simp
                with_reducible rfl
              rotate_left
              · simp only [Act.put, List.setIfInBounds_toArray, List.set_cons_zero, List.set_cons_succ, i64_w, i32_w]
                rfl
              refine pure_ (i := 8) (N := some 128) (v := ?_) (a' := ?_) #[true, true, true, true, false, true, true, true, true, false, false, false, false, false, false, false, false, false] rfl rfl (by kernel_rfl) (fun _ _ _ h => h) (Or.inl ⟨by rfl, ?_⟩) ?_ ?_
              rotate_left
              · intro w'
                go_simp
                with_reducible rfl
              rotate_left
              · simp only [Act.put, List.setIfInBounds_toArray, List.set_cons_zero, List.set_cons_succ, i64_w, i32_w]
                rfl
              refine take_ (i := 4) (N := some 124) (v := ?_) (a' := ?_) #[true, true, true, true, true, true, true, true, true, false, false, false, false, false, false, false, false, false] rfl rfl (by kernel_rfl) (fun _ _ _ h => h) (Or.inl ⟨by rfl, ?_⟩) hHeld ?_ ?_
              rotate_left
              · rintro w' ⟨s0, s1⟩
                go_simp
                with_reducible rfl
              rotate_left
              · simp only [Act.put, List.setIfInBounds_toArray, List.set_cons_zero, List.set_cons_succ, i64_w, i32_w]
                rfl
              refine take_ (i := 9) (N := some 129) (v := ?_) (a' := ?_) #[true, true, true, true, true, true, true, true, true, true, false, false, false, false, false, false, false, false] rfl rfl (by kernel_rfl) (fun _ _ _ h => h) (Or.inl ⟨by rfl, ?_⟩) hHeld ?_ ?_
              rotate_left
              · rintro w' ⟨s0, s1⟩
                go_simp
                with_reducible rfl
              rotate_left
              · simp only [Act.put, List.setIfInBounds_toArray, List.set_cons_zero, List.set_cons_succ, i64_w, i32_w]
                rfl
              refine one_ (i := 10) (N := some 130) #[true, true, true, true, true, true, true, true, true, true, true, false, false, false, false, false, false, false] rfl rfl (by kernel_rfl) (by decide) (fun K hK => ?_)
              refine goes_ Try.func20 (by kernel_rfl) rfl #[.slice Bk y.length ck] (by rfl) rfl rfl (by simp only [List.map_toArray, List.map_cons, List.map_nil]; rfl) ?_
              with_reducible refine (vector_Lead.calls Bk ck y ((P k : Nat) : Int) _ HY.out Hl2_.out HLead.out).mono ?_
              rintro e w5 ⟨rfl, hd⟩
              have hb := drawn_below hd
              refine ⟨_, rfl, ?_⟩
              replace HC := Aside0.mk (Kd.C_below HC.out hb)
              replace HY := Aside0.mk (Kd.C_below HY.out hb)
              replace HW := Aside0.mk (HW.out.trans (hb.mono HW.out.size))
              refine hK.out _ _ ⟨((hb.cell (World.block_lt_of_cell? _ _ hHeld.1)).trans hHeld.1), ((hb.cell (World.block_lt_of_cell? _ _ hHeld.2)).trans hHeld.2)⟩ (fun hHeld => ?_)
              clear hK K
              refine norm_ (a' := ?_) ?_ ?_
              rotate_left
              · show Act.put _ (some 130) _ = _
                simp only [Act.put, List.setIfInBounds_toArray, List.set_cons_zero, List.set_cons_succ, i64_w, i32_w]
                rfl
              refine pure_ (i := 11) (N := some 131) (v := ?_) (a' := ?_) #[true, true, true, true, true, true, true, true, true, true, true, true, false, false, false, false, false, false] rfl rfl (by kernel_rfl) (fun _ _ _ h => h) (Or.inl ⟨by rfl, ?_⟩) ?_ ?_
              rotate_left
              · intro w'
                go_simp
                with_reducible rfl
              rotate_left
              · simp only [Act.put, List.setIfInBounds_toArray, List.set_cons_zero, List.set_cons_succ, i64_w, i32_w]
                rfl
              refine take_ (i := 12) (N := some 132) (v := ?_) (a' := ?_) #[true, true, true, true, true, true, true, true, true, true, true, true, true, false, false, false, false, false] rfl rfl (by kernel_rfl) (fun _ _ _ h => h) (Or.inl ⟨by rfl, ?_⟩) hHeld ?_ ?_
              rotate_left
              · rintro w' ⟨s0, s1⟩
                go_simp
                with_reducible rfl
              rotate_left
              · simp only [Act.put, List.setIfInBounds_toArray, List.set_cons_zero, List.set_cons_succ, i64_w, i32_w]
                rfl
              refine one_ (i := 13) (N := some 133) #[true, true, true, true, true, true, true, true, true, true, true, true, true, true, false, false, false, false] rfl rfl (by kernel_rfl) (by decide) (fun K hK => ?_)
              refine goes_ Try.func21 (by kernel_rfl) rfl #[.slice (some adl) l.length cl, .slice Bk y.length ck, .int .u8 xl] (by rfl) rfl rfl (by simp only [List.map_toArray, List.map_cons, List.map_nil]; rfl) ?_
              with_reducible refine (vector_AddScaled.calls (some adl) cl l Bk ck y xl (addS l y xl) 0 _ HC.out HLC.out HY.out Hl2_.out HAS.out).mono ?_
              rintro e w6 ⟨v0, rfl, hR, hb⟩
              refine ⟨_, rfl, ?_⟩
              obtain ⟨An, cn, rfl⟩ := Kd.R_slice hR
              have Hn := Aside0.mk (Kd.R_reads' hR).2.2
              have Cn := Aside0.mk (Kd.R_reads' hR).2.1
              replace HC := Aside0.mk (Kd.C_below HC.out hb)
              replace HY := Aside0.mk (Kd.C_below HY.out hb)
              replace HW := Aside0.mk (HW.out.trans (hb.mono HW.out.size))
              refine hK.out _ _ ⟨((hb.cell (World.block_lt_of_cell? _ _ hHeld.1)).trans hHeld.1), ((hb.cell (World.block_lt_of_cell? _ _ hHeld.2)).trans hHeld.2)⟩ (fun hHeld => ?_)
              clear hK K
              refine norm_ (a' := ?_) ?_ ?_
              rotate_left
              · show Act.put _ (some 133) _ = _
                simp only [Act.put, List.setIfInBounds_toArray, List.set_cons_zero, List.set_cons_succ, i64_w, i32_w]
                rfl
              refine pure_ (i := 14) (N := some 119) (v := ?_) (a' := ?_) #[true, true, true, true, true, true, true, true, true, true, true, true, true, true, true, false, false, false] rfl rfl (by kernel_rfl) (fun _ _ _ h => h) (Or.inl ⟨by rfl, ?_⟩) ?_ ?_
              rotate_left
              · intro w'
                go_simp
                with_reducible rfl
              rotate_left
              · simp only [Act.put, List.setIfInBounds_toArray, List.set_cons_zero, List.set_cons_succ, i64_w, i32_w]
                rfl
              refine pure_ (i := 15) (N := some 134) (v := ?_) (a' := ?_) #[true, true, true, true, true, true, true, true, true, true, true, true, true, true, true, true, false, false] rfl rfl (by kernel_rfl) (fun _ _ _ h => h) (Or.inl ⟨by rfl, ?_⟩) ?_ ?_
              rotate_left
              · intro w'
                go_simp
                with_reducible rfl
              rotate_left
              · simp only [Act.put, List.setIfInBounds_toArray, List.set_cons_zero, List.set_cons_succ, i64_w, i32_w]
                rfl
              refine pure_ (i := 16) (N := some 135) (v := ?_) (a' := ?_) #[true, true, true, true, true, true, true, true, true, true, true, true, true, true, true, true, true, false] rfl rfl (by kernel_rfl) (fun _ _ _ h => h) (Or.inl ⟨by rfl, ?_⟩) ?_ ?_
              rotate_left
              · intro w'
                go_simp
                with_reducible rfl
              rotate_left
              · simp only [Act.put, List.setIfInBounds_toArray, List.set_cons_zero, List.set_cons_succ, i64_w, i32_w]
                rfl
              refine pure_ (i := 17) (N := some 19) (v := ?_) (a' := ?_) #[true, true, true, true, true, true, true, true, true, true, true, true, true, true, true, true, true, true] rfl rfl (by kernel_rfl) (fun _ _ _ h => h) (Or.inl ⟨by rfl, ?_⟩) ?_ ?_
              rotate_left
              · intro w'
                go_simp
                with_reducible rfl
              rotate_left
              · simp only [Act.put, List.setIfInBounds_toArray, List.set_cons_zero, List.set_cons_succ, i64_w, i32_w]
                rfl
              refine done_ (by kernel_rfl) ?_
              go_wp2
              go_roundg k2
              case measure => omega
              case rel => exact ⟨k + 1, An, cn, _, by first | rfl | rw [hnk], by first | rfl | (rw [HLen.out]), ⟨by have := HK.out; omega⟩, HNext, Cn, Hn, HW⟩
            · have q1 : decide ((k : Int) < (Rr.length : Int)) = false := decide_eq_false (by omega)
              have q2 : decide (k < Rr.length) = false := decide_eq_false hk
              have q3 := eq_false hk
              have ek : k = Rr.length := by have := HK.out; omega
              have hll := leftL_fits RF.out HXi.out k (by omega)
              rw [← HL.out] at hll
              have HIZ := Aside0.mk (show vector_IsZero.f l = some true from by
                unfold vector_IsZero.f vector_Lead.f
                rw [if_pos (by have := K6.out; omega), Option.bind_some, leadN_neg (fun z hz => HZ.out z (by rw [HL.out, ek] at hz; exact hz))]; rfl)
              clear hk HK ek hll
              go_wp2_with (go_at_call 22; with_reducible refine (vector_IsZero.calls Al cl l true _ HC.out HLC.out HIZ.out).mono ?_; rintro e w5 ⟨rfl, hd⟩; have hb := drawn_below hd; replace HW := Aside0.mk (HW.out.trans (hb.mono HW.out.size)); clear hb hd)
              go_roundg k1
              case measure => omega
              case rel => exact ⟨i + 1, by first | rfl | rw [hnx], ⟨by have := HI.out; omega⟩, HW⟩
        · have q1 : decide ((i : Int) < (X.length : Int)) = false := decide_eq_false (by omega)
          have q2 : decide (i < X.length) = false := decide_eq_false hi
          have q3 := eq_false hi
          clear hi HI
          go_wp2
          clear q1 q2 q3
          obtain ⟨info, hinfo, hi2⟩ := Option.map_eq_some_iff.1 infoRows
          have hsz : info.size = 1 := by simp only [Prod.mk.injEq] at hi2; exact hi2.2.1
          clear hi2
          have hcut1 := cut_from (P := Try.prog) 23 22 .i64 Try.underlying23 hinfo 1 hsz AX X.length cX (kk : Int) (Int.natCast_nonneg _) (Int.ofNat_le.2 (Nat.le_of_lt KK.out))
          have hcut2 := cut_to (P := Try.prog) 23 22 .i64 Try.underlying23 hinfo AX X.length cX (kk : Int) (Int.natCast_nonneg _) (Int.ofNat_le.2 (Nat.le_of_lt KK.out)) CX.out
          rw [Int.toNat_natCast] at hcut1 hcut2
          obtain ⟨Aq, hAq⟩ : ∃ Aq, (if cX = kk then AX else Option.map (fun x => x.add (kk * 1)) AX) = Aq := ⟨_, rfl⟩
          rw [hAq] at hcut1
          have HAq := Aside0.mk hAq
          clear hAq
          refine start_ (n := 9) (S := fun w' => True) (ds := []) #[false, false, false, false, false, false, false, false, false] (by kernel_rfl) rfl rfl trivial (fun hHeld => ?_)
          have HX14 := Aside0.mk (Kd.C_below HX.out (below_drew HW.out))
          have HW14 := Aside0.mk (below_drew HW.out)
          clear HW
          generalize wr.drew = w14 at HX14 HW14 hHeld ⊢
          refine pure_ (i := 0) (N := some 143) (v := ?_) (a' := ?_) #[true, false, false, false, false, false, false, false, false] rfl rfl (by kernel_rfl) (fun _ _ _ h => h) (Or.inl ⟨by rfl, ?_⟩) ?_ ?_
          rotate_left
          · intro w'
            go_simp
            with_reducible rfl
          rotate_left
          · simp only [Act.put, List.setIfInBounds_toArray, List.set_cons_zero, List.set_cons_succ, i64_w, i32_w]
            rfl
          refine pure_ (i := 1) (N := some 144) (v := ?_) (a' := ?_) #[true, true, false, false, false, false, false, false, false] rfl rfl (by kernel_rfl) (fun _ _ _ h => h) (Or.inl ⟨by rfl, ?_⟩) ?_ ?_
          rotate_left
          · intro w'
            go_simp
            with_reducible rfl
          rotate_left
          · simp only [Act.put, List.setIfInBounds_toArray, List.set_cons_zero, List.set_cons_succ, i64_w, i32_w]
            rfl
          refine pure_ (i := 2) (N := some 145) (v := ?_) (a' := ?_) #[true, true, true, false, false, false, false, false, false] rfl rfl (by kernel_rfl) (fun _ _ _ h => h) (Or.inl ⟨by rfl, ?_⟩) ?_ ?_
          rotate_left
          · intro w'
            go_simp
            with_reducible rfl
          rotate_left
          · simp only [Act.put, List.setIfInBounds_toArray, List.set_cons_zero, List.set_cons_succ, i64_w, i32_w]
            rfl
          refine pure_ (i := 4) (N := some 147) (v := ?_) (a' := ?_) #[true, true, true, false, true, false, false, false, false] rfl rfl (by kernel_rfl) (fun _ _ _ h => h) (Or.inl ⟨by rfl, ?_⟩) ?_ ?_
          rotate_left
          · intro w'
            go_simp
            with_reducible rfl
          rotate_left
          · simp only [Act.put, List.setIfInBounds_toArray, List.set_cons_zero, List.set_cons_succ, i64_w, i32_w]
            rfl
          refine pure_ (i := 5) (N := some 148) (v := ?_) (a' := ?_) #[true, true, true, false, true, true, false, false, false] rfl rfl (by kernel_rfl) (fun _ _ _ h => h) (Or.inl ⟨by rfl, ?_⟩) ?_ ?_
          rotate_left
          · intro w'
            go_simp
            with_reducible rfl
          rotate_left
          · simp only [Act.put, List.setIfInBounds_toArray, List.set_cons_zero, List.set_cons_succ, i64_w, i32_w]
            rfl
          refine pure_ (i := 6) (N := some 149) (v := ?_) (a' := ?_) #[true, true, true, false, true, true, true, false, false] rfl rfl (by kernel_rfl) (fun _ _ _ h => h) (Or.inl ⟨by rfl, ?_⟩) ?_ ?_
          rotate_left
          · intro w'
            go_simp
            with_reducible rfl
          rotate_left
          · simp only [Act.put, List.setIfInBounds_toArray, List.set_cons_zero, List.set_cons_succ, i64_w, i32_w]
            rfl
          refine one_ (i := 3) (N := some 146) #[true, true, true, true, true, true, true, false, false] rfl rfl (by kernel_rfl) (by decide) (fun K hK => ?_)
          have hF1 := Kd.F_cut (m := kk) (c := cX) (Kd.C_F (Kd.heap_slice _ (Kd.heap_int _)) HX14.out) (Nat.le_of_lt KK.out) CX.out
          rw [show (rowK).sz = 1 from rfl, HAq.out, List.length_drop] at hF1
          have HF1 := Aside0.mk hF1
          clear hF1
          refine Kd.N_append_rows_step rowK (w0 := w14) w14.heap.size (by rfl) (.const (.slice none 0 0)) (.tmp 145) 23 22 (.slice none 0 0) 24 rfl Try.underlying23 infoRows rfl (show 0 < 1 by decide) (by decide) (.slice none 0 0) [] (X.drop kk) (Aq) (X.length - kk) (cX - kk) (fun _ => True) (fun k_ => k_ < w14.heap.size) rfl rfl (Kd.N_nil _ _ _ _ _) HF1.out (fun j_ hj_ => ⟨trivial, by simp [Value.ownBlock]⟩) (fun _ _ => trivial) (Below.refl _ _) (Nat.le_refl _) (len30 X kk KK.out K6.out.1) ?_
          intro v15 w15 hN hb _ _
          rw [List.nil_append] at hN
          have HN15 := Aside0.mk hN
          have HW15 := Aside0.mk hb
          clear hN hb
          refine hK.out _ _ trivial (fun hHeld => ?_)
          clear hK K
          refine norm_ (a' := ?_) ?_ ?_
          rotate_left
          · show Act.put _ (some 146) _ = _
            simp only [Act.put, List.setIfInBounds_toArray, List.set_cons_zero, List.set_cons_succ, i64_w, i32_w]
            rfl
          refine one_ (i := 7) (N := some 150) #[true, true, true, true, true, true, true, true, false] rfl rfl (by kernel_rfl) (by decide) (fun K hK => ?_)
          have hF2 := Kd.F_take (m := kk) (Kd.C_F (Kd.heap_slice _ (Kd.heap_int _)) HX14.out) (Nat.le_of_lt KK.out)
          rw [List.length_take, Nat.min_eq_left (Nat.le_of_lt KK.out)] at hF2
          have HF2 := Aside0.mk (Kd.F_step hF2 (fun j_ hj_ _ => HW15.out.block j_ hj_))
          clear hF2
          refine Kd.N_append_rows_step rowK (w0 := w14) w14.heap.size (by rfl) (.tmp 146) (.tmp 149) 23 22 (.slice none 0 0) 24 rfl Try.underlying23 infoRows rfl (show 0 < 1 by decide) (by decide) v15 (X.drop kk) (X.take kk) (AX) (kk) (cX) (fun _ => True) (fun k_ => k_ < w14.heap.size) rfl rfl HN15.out HF2.out (fun j_ hj_ => ⟨trivial, fun e_ => absurd (Kd.N_base HN15.out j_ e_.symm) (Nat.not_le.2 hj_)⟩) (fun _ _ => trivial) HW15.out HW15.out.size (len31 X kk KK.out K6.out.1) ?_
          intro v16 w16 hN hb _ _
          rw [hT.out] at hN
          obtain ⟨AT, cT, rfl⟩ := Kd.N_slice hN
          have HT := Aside0.mk hN
          have HW := Aside0.mk (HW14.out.trans (hb.mono HW14.out.size))
          clear hN hb HN15 HW15
          refine hK.out _ _ trivial (fun hHeld => ?_)
          clear hK K
          refine norm_ (a' := ?_) ?_ ?_
          rotate_left
          · show Act.put _ (some 150) _ = _
            simp only [Act.put, List.setIfInBounds_toArray, List.set_cons_zero, List.set_cons_succ, i64_w, i32_w]
            rfl
          refine pure_ (i := 8) (N := some 22) (v := ?_) (a' := ?_) #[true, true, true, true, true, true, true, true, true] rfl rfl (by kernel_rfl) (fun _ _ _ h => h) (Or.inl ⟨by rfl, ?_⟩) ?_ ?_
          rotate_left
          · intro w'
            go_simp
            with_reducible rfl
          rotate_left
          · simp only [Act.put, List.setIfInBounds_toArray, List.set_cons_zero, List.set_cons_succ, i64_w, i32_w]
            rfl
          refine done_ (by kernel_rfl) ?_
          clear hHeld HF1 HF2 HAq hcut1 hcut2 HX14 HW14 hinfo hsz
          obtain ⟨ad, Ak, ck, e1, hx1, hl1, hi1⟩ := at_R HX.out (kk : Int) (Int.natCast_nonneg _) (Int.ofNat_lt.2 KK.out)
          cases e1
          rw [show rdR X (kk : Int) = xk from by unfold rdR; rw [Int.toNat_natCast]; exact HXK.out] at hx1 hl1 hi1
          rw [Int.toNat_natCast] at hx1
          replace hx1 := (HW.out.cell (World.block_lt_of_cell? _ _ hx1)).trans hx1
          have Clk := Aside0.mk hl1
          have HIK := Aside0.mk (Kd.C_below hi1 HW.out)
          have KIN := And.intro (eq_true (show (0 : Int) ≤ (kk : Int) from Int.natCast_nonneg _)) (And.intro (eq_true (show (kk : Int) < (X.length : Int) from Int.ofNat_lt.2 KK.out)) (eq_true KK.out))
          obtain ⟨k5, k6, k7⟩ := KIN
          clear hl1 hi1
          go_wp2
          refine start_ (n := 9) (S := fun w' => w'.cell? (ad.add kk) = some (.slice Ak xk.length ck)) (ds := []) #[false, false, false, false, false, false, false, false, false] (by kernel_rfl) rfl rfl (by simpa using hx1) (fun hHeld => ?_)
          have HX17 := Aside0.mk (Kd.C_below HX.out (below_drew HW.out))
          have HK17 := Aside0.mk (Kd.C_below HIK.out (below_drew (Below.refl w16.heap.size w16)))
          have HW17 := Aside0.mk (below_drew HW.out)
          have HT17 := Aside0.mk (Kd.C_below (Kd.N_reads' HT.out).2.2 (below_drew (Below.refl w16.heap.size w16)))
          have CT := Aside0.mk (Kd.N_reads' HT.out).2.1
          have HC17 := Aside0.mk hHeld
          clear HW hx1 HIK HT
          generalize w16.drew = w17 at HX17 HK17 HW17 HT17 HC17 hHeld ⊢
          refine pure_ (i := 0) (N := some 151) (v := ?_) (a' := ?_) #[true, false, false, false, false, false, false, false, false] rfl rfl (by kernel_rfl) (fun _ _ _ h => h) (Or.inl ⟨by rfl, ?_⟩) ?_ ?_
          rotate_left
          · intro w'
            go_simp
            with_reducible rfl
          rotate_left
          · simp only [Act.put, List.setIfInBounds_toArray, List.set_cons_zero, List.set_cons_succ, i64_w, i32_w]
            rfl
          refine pure_ (i := 2) (N := some 153) (v := ?_) (a' := ?_) #[true, false, true, false, false, false, false, false, false] rfl rfl (by kernel_rfl) (fun _ _ _ h => h) (Or.inl ⟨by rfl, ?_⟩) ?_ ?_
          rotate_left
          · intro w'
            go_simp
            with_reducible rfl
          rotate_left
          · simp only [Act.put, List.setIfInBounds_toArray, List.set_cons_zero, List.set_cons_succ, i64_w, i32_w]
            rfl
          refine pure_ (i := 3) (N := some 154) (v := ?_) (a' := ?_) #[true, false, true, true, false, false, false, false, false] rfl rfl (by kernel_rfl) (fun _ _ _ h => h) (Or.inl ⟨by rfl, ?_⟩) ?_ ?_
          rotate_left
          · intro w'
            go_simp
            with_reducible rfl
          rotate_left
          · simp only [Act.put, List.setIfInBounds_toArray, List.set_cons_zero, List.set_cons_succ, i64_w, i32_w]
            rfl
          refine pure_ (i := 4) (N := some 155) (v := ?_) (a' := ?_) #[true, false, true, true, true, false, false, false, false] rfl rfl (by kernel_rfl) (fun _ _ _ h => h) (Or.inl ⟨by rfl, ?_⟩) ?_ ?_
          rotate_left
          · intro w'
            go_simp
            with_reducible rfl
          rotate_left
          · simp only [Act.put, List.setIfInBounds_toArray, List.set_cons_zero, List.set_cons_succ, i64_w, i32_w]
            rfl
          refine take_ (i := 5) (N := some 156) (v := ?_) (a' := ?_) #[true, false, true, true, true, true, false, false, false] rfl rfl (by kernel_rfl) (fun _ _ _ h => h) (Or.inl ⟨by rfl, ?_⟩) hHeld ?_ ?_
          rotate_left
          · intro w' s0
            go_simp
            with_reducible rfl
          rotate_left
          · simp only [Act.put, List.setIfInBounds_toArray, List.set_cons_zero, List.set_cons_succ, i64_w, i32_w]
            rfl
          refine join_ (σ := Value × Value) 2 #[true, true, true, true, true, true, true, false, false] (fun s => [(152, s.1), (157, s.2)]) (fun s w' => Kd.N rowK 22 w' w17.heap.size (fun _ => True) s.1 X ∧ Below w17.heap.size w17 w' ∧ ∃ Al cl, s.2 = .slice Al [xk].length cl ∧ Kd.F rowK w' (fun k_ => some k_ ≠ s.1.ownBlock) Al [xk].length [xk]) ?_ ?_
          rotate_left
          · intro hCont
            refine two_ (i := 1) (j := 6) (Ni := some 152) (Nj := some 157) #[true, true, true, true, true, true, false, false, false] #[true, false, true, true, true, true, true, false, false] rfl rfl rfl rfl (by kernel_rfl) (by decide) (by decide) (fun K hK => ?_) (fun K hK => ?_)
            · skip
              refine Kd.N_append_rows_step rowK (w0 := w17) w17.heap.size (by rfl) (.const (.slice none 0 0)) (.tmp 151) 23 22 (.slice none 0 0) 24 rfl Try.underlying23 infoRows rfl (show 0 < 1 by decide) (by decide) (.slice none 0 0) [] X (some ad) X.length cX (fun _ => True) (fun k_ => k_ < w17.heap.size) rfl rfl (Kd.N_nil _ _ _ _ _) (Kd.C_F (Kd.heap_slice _ (Kd.heap_int _)) HX17.out) (fun j_ hj_ => ⟨trivial, by simp [Value.ownBlock]⟩) (fun _ _ => trivial) (Below.refl _ _) (Nat.le_refl _) (len10 X K6.out.1) ?_
              intro v18 w18 hN hb _ _
              rw [List.nil_append] at hN
              have HN18 := Aside0.mk hN
              have HW18 := Aside0.mk hb
              clear hN
              refine hK.out _ _ ((hb.cell (World.block_lt_of_cell? _ _ HC17.out)).trans HC17.out) (fun hHeld => ?_)
              clear hK K
              refine norm_ (a' := ?_) ?_ ?_
              rotate_left
              · show Act.put _ (some 152) _ = _
                simp only [Act.put, List.setIfInBounds_toArray, List.set_cons_zero, List.set_cons_succ, i64_w, i32_w]
                rfl
              refine one_ (i := 6) (N := some 157) #[true, true, true, true, true, true, true, false, false] rfl rfl (by kernel_rfl) (by decide) (fun K hK => ?_)
              refine Kd.N_lit_step rowK (w0 := w18) w18.heap.size 22 (by rfl) (N' := 157) rfl (xs := [xk]) (inner := [.slice Ak xk.length ck]) (ok := fun k_ => k_ < w17.heap.size ∨ w18.heap.size ≤ k_) (okp := fun k_ => k_ < w17.heap.size) ?hr (Reps.one (show Kd.FK rowK _ _ xk [.slice Ak xk.length ck] from Kd.FK_slice_mk Clk.out (Kd.F_step (Kd.C_F (Kd.heap_int _) HK17.out) (fun j_ hj_ _ => HW18.out.block j_ hj_))) (Reps.none _ _)) (fun _ h => Or.inl h) (Or.inr (Nat.le_refl _)) (Below.refl _ _) (Nat.le_refl _) (by simp) ?_
              case hr => first | (go_simp; done) | (go_simp; rfl)
              intro v19 w19 hN hb9 _ _
              obtain ⟨Al, cl, rfl⟩ := Kd.N_slice hN
              have HN19 := Aside0.mk hN
              have HLT := Aside0.mk (Kd.N_lt HN18.out)
              have HM18 := Aside0.mk (Kd.N_below HN18.out hb9)
              have hb := HW18.out.trans (hb9.mono HW18.out.size)
              have HW19 := Aside0.mk hb
              clear hN hb9
              refine hK.out _ _ ((hb.cell (World.block_lt_of_cell? _ _ HC17.out)).trans HC17.out) (fun hHeld => ?_)
              clear hK K
              refine norm_ (a' := ?_) ?_ ?_
              rotate_left
              · show Act.put _ (some 157) _ = _
                simp only [Act.put, List.setIfInBounds_toArray, List.set_cons_zero, List.set_cons_succ, i64_w, i32_w]
                rfl
              exact norm_ (by first | (simp only [putAll, Act.put, List.setIfInBounds_toArray, List.set_cons_zero, List.set_cons_succ]; done) | (simp only [putAll, Act.put, List.setIfInBounds_toArray, List.set_cons_zero, List.set_cons_succ]; rfl)) (hCont (v18, .slice Al [xk].length cl) _ ⟨HM18.out, HW19.out, Al, cl, rfl, Kd.F_mono (Kd.N_F HN19.out) (fun j_ hj_ e_ => hj_.elim (fun q => absurd (Kd.N_base HN18.out j_ e_.symm) (Nat.not_le.2 q)) (fun q => absurd (HLT.out j_ e_.symm) (Nat.not_lt.2 q)))⟩)
            · skip
              refine Kd.N_lit_step rowK (w0 := w17) w17.heap.size 22 (by rfl) (N' := 157) rfl (xs := [xk]) (inner := [.slice Ak xk.length ck]) (ok := fun _ => True) (okp := fun k_ => k_ < w17.heap.size) ?hr (Reps.one (show Kd.FK rowK _ _ xk [.slice Ak xk.length ck] from Kd.FK_slice_mk Clk.out (Kd.C_F (Kd.heap_int _) HK17.out)) (Reps.none _ _)) (fun _ _ => trivial) trivial (Below.refl _ _) (Nat.le_refl _) (by simp) ?_
              case hr => first | (go_simp; done) | (go_simp; rfl)
              intro v18 w18 hN hb _ _
              obtain ⟨Al, cl, rfl⟩ := Kd.N_slice hN
              have HF18 := Aside0.mk (Kd.N_F (Kd.N_bound hN))
              have HW18 := Aside0.mk hb
              clear hN
              refine hK.out _ _ ((hb.cell (World.block_lt_of_cell? _ _ HC17.out)).trans HC17.out) (fun hHeld => ?_)
              clear hK K
              refine norm_ (a' := ?_) ?_ ?_
              rotate_left
              · show Act.put _ (some 157) _ = _
                simp only [Act.put, List.setIfInBounds_toArray, List.set_cons_zero, List.set_cons_succ, i64_w, i32_w]
                rfl
              refine one_ (i := 1) (N := some 152) #[true, true, true, true, true, true, true, false, false] rfl rfl (by kernel_rfl) (by decide) (fun K hK => ?_)
              refine Kd.N_append_rows_step rowK (w0 := w18) w18.heap.size (by rfl) (.const (.slice none 0 0)) (.tmp 151) 23 22 (.slice none 0 0) 24 rfl Try.underlying23 infoRows rfl (show 0 < 1 by decide) (by decide) (.slice none 0 0) [] X (some ad) X.length cX (fun _ => True) (fun k_ => k_ < w17.heap.size) rfl rfl (Kd.N_nil _ _ _ _ _) (Kd.F_step (Kd.C_F (Kd.heap_slice _ (Kd.heap_int _)) HX17.out) (fun j_ hj_ _ => HW18.out.block j_ hj_)) (fun j_ hj_ => ⟨trivial, by simp [Value.ownBlock]⟩) (fun _ _ => trivial) (Below.refl _ _) (Nat.le_refl _) (len10 X K6.out.1) ?_
              intro v19 w19 hN hb9 _ _
              rw [List.nil_append] at hN
              have hb := HW18.out.trans (hb9.mono HW18.out.size)
              refine hK.out _ _ ((hb.cell (World.block_lt_of_cell? _ _ HC17.out)).trans HC17.out) (fun hHeld => ?_)
              clear hK K
              refine norm_ (a' := ?_) ?_ ?_
              rotate_left
              · show Act.put _ (some 152) _ = _
                simp only [Act.put, List.setIfInBounds_toArray, List.set_cons_zero, List.set_cons_succ, i64_w, i32_w]
                rfl
              exact norm_ (by first | (simp only [putAll, Act.put, List.setIfInBounds_toArray, List.set_cons_zero, List.set_cons_succ]; done) | (simp only [putAll, Act.put, List.setIfInBounds_toArray, List.set_cons_zero, List.set_cons_succ]; rfl)) (hCont (v19, .slice Al [xk].length cl) _ ⟨Kd.N_lower hN HW18.out.size, hb, Al, cl, rfl, Kd.F_mono (Kd.F_step HF18.out (fun j_ hj_ _ => hb9.block j_ hj_.2)) (fun j_ hj_ e_ => absurd (Kd.N_base hN j_ e_.symm) (Nat.not_le.2 hj_.2))⟩)
          rintro ⟨v18, v19⟩ w19 hJ
          dsimp only at hJ
          obtain ⟨hN, hb, Al, cl, rfl, hF⟩ := hJ
          have HM18 := Aside0.mk hN
          have HW19 := Aside0.mk hb
          have HF19 := Aside0.mk hF
          have hHeld := ((hb.cell (World.block_lt_of_cell? _ _ HC17.out)).trans HC17.out)
          clear hN hb hF
          refine norm_ (a' := ?_) ?_ ?_
          rotate_left
          · simp only [putAll, Act.put, List.setIfInBounds_toArray, List.set_cons_zero, List.set_cons_succ]
            rfl
          refine one_ (i := 7) (N := some 158) #[true, true, true, true, true, true, true, true, false] rfl rfl (by kernel_rfl) (by decide) (fun K hK => ?_)
          refine Kd.N_append_rows_step rowK (w0 := w17) w17.heap.size (by rfl) (.tmp 152) (.tmp 157) 23 22 (.slice none 0 0) 24 rfl Try.underlying23 infoRows rfl (show 0 < 1 by decide) (by decide) v18 X [xk] Al [xk].length cl (fun _ => True) (fun k_ => some k_ ≠ v18.ownBlock) rfl rfl HM18.out HF19.out (fun j_ hj_ => ⟨trivial, hj_⟩) (fun _ _ => trivial) HW19.out HW19.out.size (len12 X xk K6.out.1) ?_
          intro v20 w20 hN hb _ _
          rw [hD.out] at hN
          obtain ⟨AD, cD, rfl⟩ := Kd.N_slice hN
          have HD20 := Aside0.mk (Kd.N_reads' hN).2.2
          have CD := Aside0.mk (Kd.N_reads' hN).2.1
          have HX20 := Aside0.mk (Kd.C_below HX17.out hb)
          have HT20 := Aside0.mk (Kd.C_below HT17.out hb)
          have HR20 := Aside0.mk (Kd.C_below HR.out (HW17.out.trans (hb.mono HW17.out.size)))
          replace HB := Aside0.mk (HB.out.trans ((HW17.out.trans (hb.mono HW17.out.size)).mono HB.out.size))
          clear hN
          refine hK.out _ _ ((hb.cell (World.block_lt_of_cell? _ _ HC17.out)).trans HC17.out) (fun hHeld => ?_)
          clear hK K
          refine norm_ (a' := ?_) ?_ ?_
          rotate_left
          · show Act.put _ (some 158) _ = _
            simp only [Act.put, List.setIfInBounds_toArray, List.set_cons_zero, List.set_cons_succ, i64_w, i32_w]
            rfl
          refine pure_ (i := 8) (N := some 23) (v := ?_) (a' := ?_) #[true, true, true, true, true, true, true, true, true] rfl rfl (by kernel_rfl) (fun _ _ _ h => h) (Or.inl ⟨by rfl, ?_⟩) ?_ ?_
          rotate_left
          · intro w'
            go_simp
            with_reducible rfl
          rotate_left
          · simp only [Act.put, List.setIfInBounds_toArray, List.set_cons_zero, List.set_cons_succ, i64_w, i32_w]
            rfl
          refine done_ (by kernel_rfl) ?_
          clear hHeld HX HR HX17 HK17 HT17 HW17 HM18 HW19 HF19 HC17
          have HW := Aside0.mk (Below.refl w20.heap.size w20)
          have KP := Aside0.mk (show 0 < X.length from by have := KK.out; omega)
          go_upto_region 33 with ((with_reducible refine gate_builtin (b := .append) (xs := #[.const (.slice none 0 0), .tmp 159]) rfl ?_); at_builtin; refine Kd.N_append_rows rowK (w0 := w20) w20.heap.size rfl (.const (.slice none 0 0)) (.tmp 159) 23 22 (.slice none 0 0) 24 rfl Try.underlying23 infoRows rfl (show 0 < 1 by decide) (by decide) (.slice none 0 0) [] X _ _ _ (fun _ => True) (fun k_ => k_ < w20.heap.size) rfl rfl (Kd.N_nil _ _ _ _ _) (Kd.C_F (Kd.heap_slice _ (Kd.heap_int _)) HX20.out) (fun k hk => ⟨trivial, by simp [Value.ownBlock]⟩) (fun _ _ => trivial) (Below.refl _ _) (Nat.le_refl _) (len10 X K6.out.1) ?_; intro v21 w21 hN hb _ _; rw [List.nil_append] at hN; obtain ⟨g, cap, rfl, hg, _⟩ := Kd.N_form hN KP.out; have HN := Aside0.mk hN; replace HW := Aside0.mk hb; have HG := Aside0.mk hg; clear hN hb hg)
          have hbr : (Aside0 (1 < X.length ∧ X.set kk y = Z1)) ∨ (Aside0 (¬ 1 < X.length ∧ X = Z1)) := by
            by_cases b : 1 < X.length
            · exact Or.inl ⟨b, by rw [hZ1.out, if_pos b]⟩
            · exact Or.inr ⟨b, by rw [hZ1.out, if_neg b]⟩
          rcases hbr with HB1 | HB1
          · have b1 : decide ((X.length : Int) > 1) = true := decide_eq_true (by have := HB1.out.1; omega)
            have b2 : ((1 : Int) < (X.length : Int)) = True := eq_true (by have := HB1.out.1; omega)
            have b3 : (1 < X.length) = True := eq_true HB1.out.1
            obtain ⟨_, Ak, ck, e1, hx1, hl1, hi1⟩ := at_R HX20.out (kk : Int) (Int.natCast_nonneg _) (Int.ofNat_lt.2 KK.out)
            injection e1 with e1
            subst e1
            obtain ⟨_, Aj, cj, e1, hx2, hl2, hi2⟩ := at_R HX20.out (k2 : Int) (Int.natCast_nonneg _) (Int.ofNat_lt.2 K2.out)
            injection e1 with e1
            subst e1
            rw [show rdR X (kk : Int) = xk from by unfold rdR; rw [Int.toNat_natCast]; exact HXK.out] at hx1 hl1 hi1
            rw [show rdR X (k2 : Int) = xj from by unfold rdR; rw [Int.toNat_natCast]; exact HXJ.out] at hx2 hl2 hi2
            rw [Int.toNat_natCast] at hx1 hx2
            replace hx1 := (HW.out.cell (World.block_lt_of_cell? _ _ hx1)).trans hx1
            replace hx2 := (HW.out.cell (World.block_lt_of_cell? _ _ hx2)).trans hx2
            have Hl1 := Aside0.mk hl1
            have Hl2 := Aside0.mk hl2
            have HI1 := Aside0.mk (Kd.C_below hi1 HW.out)
            have HI2 := Aside0.mk (Kd.C_below hi2 HW.out)
            have k8 := eq_true (show (0 : Int) ≤ (k2 : Int) from Int.natCast_nonneg _)
            have k9 := eq_true (show (k2 : Int) < (X.length : Int) from Int.ofNat_lt.2 K2.out)
            have k10 := eq_true K2.out
            clear hl1 hl2 hi1 hi2
            go_upto_region 34 with fail
            refine start_ (n := 20) (S := fun w' => w'.cell? (ad.add kk) = some (.slice Ak xk.length ck) ∧ w'.cell? (ad.add k2) = some (.slice Aj xj.length cj)) (ds := [19]) #[false, false, false, false, false, false, false, false, false, false, false, false, false, false, false, false, false, false, false, false] (by kernel_rfl) rfl rfl ⟨(by simpa using hx1), (by simpa using hx2)⟩ (fun hHeld => ?_)
            replace HI1 := Aside0.mk (Kd.C_below HI1.out (below_drew (Below.refl w21.heap.size w21)))
            replace HI2 := Aside0.mk (Kd.C_below HI2.out (below_drew (Below.refl w21.heap.size w21)))
            have HW22 := Aside0.mk (below_drew HW.out)
            have HN22 := Aside0.mk (Kd.N_drew HN.out)
            clear HW HN hx1 hx2
            generalize w21.drew = w22 at HI1 HI2 HW22 HN22 hHeld ⊢
            refine pure_ (i := 0) (N := some 164) (v := ?_) (a' := ?_) #[true, false, false, false, false, false, false, false, false, false, false, false, false, false, false, false, false, false, false, false] rfl rfl (by kernel_rfl) (fun _ _ _ h => h) (Or.inl ⟨by rfl, ?_⟩) ?_ ?_
            rotate_left
            · intro w'
              go_simp
              with_reducible rfl
            rotate_left
            · simp only [Act.put, List.setIfInBounds_toArray, List.set_cons_zero, List.set_cons_succ, i64_w, i32_w]
              rfl
            refine pure_ (i := 1) (N := some 165) (v := ?_) (a' := ?_) #[true, true, false, false, false, false, false, false, false, false, false, false, false, false, false, false, false, false, false, false] rfl rfl (by kernel_rfl) (fun _ _ _ h => h) (Or.inl ⟨by rfl, ?_⟩) ?_ ?_
            rotate_left
            · intro w'
              go_simp
              with_reducible rfl
            rotate_left
            · simp only [Act.put, List.setIfInBounds_toArray, List.set_cons_zero, List.set_cons_succ, i64_w, i32_w]
              rfl
            refine pure_ (i := 2) (N := some 166) (v := ?_) (a' := ?_) #[true, true, true, false, false, false, false, false, false, false, false, false, false, false, false, false, false, false, false, false] rfl rfl (by kernel_rfl) (fun _ _ _ h => h) (Or.inl ⟨by rfl, ?_⟩) ?_ ?_
            rotate_left
            · intro w'
              go_simp
              with_reducible rfl
            rotate_left
            · simp only [Act.put, List.setIfInBounds_toArray, List.set_cons_zero, List.set_cons_succ, i64_w, i32_w]
              rfl
            refine pure_ (i := 3) (N := some 167) (v := ?_) (a' := ?_) #[true, true, true, true, false, false, false, false, false, false, false, false, false, false, false, false, false, false, false, false] rfl rfl (by kernel_rfl) (fun _ _ _ h => h) (Or.inl ⟨by rfl, ?_⟩) ?_ ?_
            rotate_left
            · intro w'
              go_simp
              with_reducible rfl
            rotate_left
            · simp only [Act.put, List.setIfInBounds_toArray, List.set_cons_zero, List.set_cons_succ, i64_w, i32_w]
              rfl
            refine pure_ (i := 4) (N := some 168) (v := ?_) (a' := ?_) #[true, true, true, true, true, false, false, false, false, false, false, false, false, false, false, false, false, false, false, false] rfl rfl (by kernel_rfl) (fun _ _ _ h => h) (Or.inl ⟨by rfl, ?_⟩) ?_ ?_
            rotate_left
            · intro w'
              go_simp
              with_reducible rfl
            rotate_left
            · simp only [Act.put, List.setIfInBounds_toArray, List.set_cons_zero, List.set_cons_succ, i64_w, i32_w]
              rfl
            refine pure_ (i := 6) (N := some 170) (v := ?_) (a' := ?_) #[true, true, true, true, true, false, true, false, false, false, false, false, false, false, false, false, false, false, false, false] rfl rfl (by kernel_rfl) (fun _ _ _ h => h) (Or.inl ⟨by rfl, ?_⟩) ?_ ?_
            rotate_left
            · intro w'
              go_simp
              with_reducible rfl
            rotate_left
            · simp only [Act.put, List.setIfInBounds_toArray, List.set_cons_zero, List.set_cons_succ, i64_w, i32_w]
              rfl
            refine pure_ (i := 7) (N := some 171) (v := ?_) (a' := ?_) #[true, true, true, true, true, false, true, true, false, false, false, false, false, false, false, false, false, false, false, false] rfl rfl (by kernel_rfl) (fun _ _ _ h => h) (Or.inl ⟨by rfl, ?_⟩) ?_ ?_
            rotate_left
            · intro w'
              go_simp
              with_reducible rfl
            rotate_left
            · simp only [Act.put, List.setIfInBounds_toArray, List.set_cons_zero, List.set_cons_succ, i64_w, i32_w]
              rfl
            refine pure_ (i := 8) (N := some 172) (v := ?_) (a' := ?_) #[true, true, true, true, true, false, true, true, true, false, false, false, false, false, false, false, false, false, false, false] rfl rfl (by kernel_rfl) (fun _ _ _ h => h) (Or.inl ⟨by rfl, ?_⟩) ?_ ?_
            rotate_left
            · intro w'
              go_simp
              with_reducible rfl
            rotate_left
            · simp only [Act.put, List.setIfInBounds_toArray, List.set_cons_zero, List.set_cons_succ, i64_w, i32_w]
              rfl
            refine pure_ (i := 9) (N := some 173) (v := ?_) (a' := ?_) #[true, true, true, true, true, false, true, true, true, true, false, false, false, false, false, false, false, false, false, false] rfl rfl (by kernel_rfl) (fun _ _ _ h => h) (Or.inl ⟨by rfl, ?_⟩) ?_ ?_
            rotate_left
            · intro w'
              go_simp
              with_reducible rfl
            rotate_left
            · simp only [Act.put, List.setIfInBounds_toArray, List.set_cons_zero, List.set_cons_succ, i64_w, i32_w]
              rfl
            refine pure_ (i := 10) (N := some 174) (v := ?_) (a' := ?_) #[true, true, true, true, true, false, true, true, true, true, true, false, false, false, false, false, false, false, false, false] rfl rfl (by kernel_rfl) (fun _ _ _ h => h) (Or.inl ⟨by rfl, ?_⟩) ?_ ?_
            rotate_left
            · intro w'
              go_simp
              with_reducible rfl
            rotate_left
            · simp only [Act.put, List.setIfInBounds_toArray, List.set_cons_zero, List.set_cons_succ, i64_w, i32_w]
              rfl
            refine pure_ (i := 11) (N := some 175) (v := ?_) (a' := ?_) #[true, true, true, true, true, false, true, true, true, true, true, true, false, false, false, false, false, false, false, false] rfl rfl (by kernel_rfl) (fun _ _ _ h => h) (Or.inl ⟨by rfl, ?_⟩) ?_ ?_
            rotate_left
            · intro w'
              go_simp
              with_reducible rfl
            rotate_left
            · simp only [Act.put, List.setIfInBounds_toArray, List.set_cons_zero, List.set_cons_succ, i64_w, i32_w]
              rfl
            refine pure_ (i := 13) (N := some 177) (v := ?_) (a' := ?_) #[true, true, true, true, true, false, true, true, true, true, true, true, false, true, false, false, false, false, false, false] rfl rfl (by kernel_rfl) (fun _ _ _ h => h) (Or.inl ⟨by rfl, ?_⟩) ?_ ?_
            rotate_left
            · intro w'
              go_simp
              with_reducible rfl
            rotate_left
            · simp only [Act.put, List.setIfInBounds_toArray, List.set_cons_zero, List.set_cons_succ, i64_w, i32_w]
              rfl
            refine take_ (i := 5) (N := some 169) (v := ?_) (a' := ?_) #[true, true, true, true, true, true, true, true, true, true, true, true, false, true, false, false, false, false, false, false] rfl rfl (by kernel_rfl) (fun _ _ _ h => h) (Or.inl ⟨by rfl, ?_⟩) hHeld ?_ ?_
            rotate_left
            · rintro w' ⟨s0, s1⟩
              go_simp
              with_reducible rfl
            rotate_left
            · simp only [Act.put, List.setIfInBounds_toArray, List.set_cons_zero, List.set_cons_succ, i64_w, i32_w]
              rfl
            refine take_ (i := 12) (N := some 176) (v := ?_) (a' := ?_) #[true, true, true, true, true, true, true, true, true, true, true, true, true, true, false, false, false, false, false, false] rfl rfl (by kernel_rfl) (fun _ _ _ h => h) (Or.inl ⟨by rfl, ?_⟩) hHeld ?_ ?_
            rotate_left
            · rintro w' ⟨s0, s1⟩
              go_simp
              with_reducible rfl
            rotate_left
            · simp only [Act.put, List.setIfInBounds_toArray, List.set_cons_zero, List.set_cons_succ, i64_w, i32_w]
              rfl
            refine one_ (i := 14) (N := some 178) #[true, true, true, true, true, true, true, true, true, true, true, true, true, true, true, false, false, false, false, false] rfl rfl (by kernel_rfl) (by decide) (fun K hK => ?_)
            refine goes_ Try.func21 (by kernel_rfl) rfl #[.slice Ak xk.length ck, .slice Aj xj.length cj, .int .u8 a3] (by rfl) rfl rfl (by simp only [List.map_toArray, List.map_cons, List.map_nil]; rfl) ?_
            with_reducible refine (vector_AddScaled.calls Ak ck xk Aj cj xj a3 y 0 _ HI1.out Hl1.out HI2.out Hl2.out FAS.out).mono ?_
            rintro e w23 ⟨v0, rfl, hR, hb⟩
            refine ⟨_, rfl, ?_⟩
            obtain ⟨Ay, cy, rfl, hcy, hFy⟩ := row_new (N_glt HN22.out) hR
            have CY := Aside0.mk hcy
            have HY := Aside0.mk hFy
            have HN23 := Aside0.mk (Kd.N_below HN22.out hb)
            have HW23 := Aside0.mk (HW22.out.trans (hb.mono HW22.out.size))
            clear hR hcy hFy HN22 HW22 HI1 HI2
            refine hK.out _ _ ⟨((hb.cell (World.block_lt_of_cell? _ _ hHeld.1)).trans hHeld.1), ((hb.cell (World.block_lt_of_cell? _ _ hHeld.2)).trans hHeld.2)⟩ (fun hHeld => ?_)
            clear hK K
            refine norm_ (a' := ?_) ?_ ?_
            rotate_left
            · show Act.put _ (some 178) _ = _
              simp only [Act.put, List.setIfInBounds_toArray, List.set_cons_zero, List.set_cons_succ, i64_w, i32_w]
              rfl
            refine pure_ (i := 15) (N := some 163) (v := ?_) (a' := ?_) #[true, true, true, true, true, true, true, true, true, true, true, true, true, true, true, true, false, false, false, false] rfl rfl (by kernel_rfl) (fun _ _ _ h => h) (Or.inl ⟨by rfl, ?_⟩) ?_ ?_
            rotate_left
            · intro w'
              go_simp
              with_reducible rfl
            rotate_left
            · simp only [Act.put, List.setIfInBounds_toArray, List.set_cons_zero, List.set_cons_succ, i64_w, i32_w]
              rfl
            refine pure_ (i := 16) (N := some 179) (v := ?_) (a' := ?_) #[true, true, true, true, true, true, true, true, true, true, true, true, true, true, true, true, true, false, false, false] rfl rfl (by kernel_rfl) (fun _ _ _ h => h) (Or.inl ⟨by rfl, ?_⟩) ?_ ?_
            rotate_left
            · intro w'
              go_simp
              with_reducible rfl
            rotate_left
            · simp only [Act.put, List.setIfInBounds_toArray, List.set_cons_zero, List.set_cons_succ, i64_w, i32_w]
              rfl
            refine pure_ (i := 17) (N := some 180) (v := ?_) (a' := ?_) #[true, true, true, true, true, true, true, true, true, true, true, true, true, true, true, true, true, true, false, false] rfl rfl (by kernel_rfl) (fun _ _ _ h => h) (Or.inl ⟨by rfl, ?_⟩) ?_ ?_
            rotate_left
            · intro w'
              go_simp
              with_reducible rfl
            rotate_left
            · simp only [Act.put, List.setIfInBounds_toArray, List.set_cons_zero, List.set_cons_succ, i64_w, i32_w]
              rfl
            refine pure_ (i := 18) (N := some 181) (v := ?_) (a' := ?_) #[true, true, true, true, true, true, true, true, true, true, true, true, true, true, true, true, true, true, true, false] rfl rfl (by kernel_rfl) (fun _ _ _ h => h) (Or.inl ⟨by rfl, ?_⟩) ?_ ?_
            rotate_left
            · intro w'
              go_simp
              with_reducible rfl
            rotate_left
            · simp only [Act.put, List.setIfInBounds_toArray, List.set_cons_zero, List.set_cons_succ, i64_w, i32_w]
              rfl
            obtain ⟨Az, cz, hz0, hz1, _⟩ := N_cell HN23.out kk KK.out
            refine last_ (i := 19) (N := none) #[true, true, true, true, true, true, true, true, true, true, true, true, true, true, true, true, true, true, true, true] rfl rfl (by kernel_rfl) (by decide) (fun K hK => ?_)
            refine skip_ (w1 := ?_) (by rfl) rfl ?_ ?_
            rotate_left
            · go_simp
              rfl
            refine hK.out _ _ ?_
            clear hK K
            refine done_ (by kernel_rfl) ?_
            have HN := Aside0.mk (N_put HN23.out kk KK.out CY.out HY.out)
            have HW := Aside0.mk (HW23.out.setCell (p := ⟨g, kk, none⟩) HG.out (.slice Ay y.length cy))
            obtain ⟨w24, hw24⟩ : ∃ w', w' = w23.setCell ⟨g, kk, none⟩ (.slice Ay y.length cy) := ⟨_, rfl⟩
            rw [← hw24] at HN HW ⊢
            clear hw24
            replace HN := Aside0.mk (N_as HB1.out.2 HN.out)
            clear hHeld b1 b2 b3 k8 k9 k10 HB1 HN23 HW23 HY CY hz0 hz1
            go_upto_region 35 with fail
            have hbs : (Aside0 (a3 = 0 ∧ Z1 = Z)) ∨ (Aside0 (a3 ≠ 0 ∧ Z1.set 0 s = Z)) := by
              by_cases b : a3 = 0
              · exact Or.inl ⟨b, by rw [hZ.out, if_pos b]⟩
              · exact Or.inr ⟨b, by rw [hZ.out, if_neg b]⟩
            rcases hbs with HB2 | HB2
            · have c1 : (a3 != 0) = false := by simp [HB2.out.1]
              have c2 : (a3 = 0) = True := eq_true HB2.out.1
              go_upto_region 37 with fail
              replace HN := Aside0.mk (N_as HB2.out.2 HN.out)
              clear c1 c2 HB2
              generalize w24 = w26 at HN HW ⊢
              have HZC := Aside0.mk (show Kd.C rowK w26 (some ⟨g, 0, none⟩) X.length Z from by have := (Kd.N_reads' HN.out).2.2; rw [ZL.out] at this; exact this)
              have CZ := Aside0.mk (show Z.length ≤ cap from by rw [ZL.out]; exact (Kd.N_reads' HN.out).2.1)
              have RZ := fun W hW => matrix_Reduce.calls (some ⟨g, 0, none⟩) cap Z Rr 0 W hW CZ.out FZ.out
              simp only [ZL.out] at RZ
              replace RZ := Aside0.mk RZ
              have HTe := Aside0.mk (Kd.C_below HT20.out HW.out)
              have HDe := Aside0.mk (Kd.C_below HD20.out HW.out)
              have HRe := Aside0.mk (Kd.C_below HR20.out HW.out)
              have HXe := Aside0.mk (Kd.C_below HX20.out HW.out)
              replace HB := Aside0.mk (HB.out.trans (HW.out.mono HB.out.size))
              clear HN HT20 HD20 HR20 HX20 HW
              go_wp2
              go_loopg [196] 4 (fun kq v196 w' => ∃ j : Nat, v196 = .int .i64 (j : Int) ∧ Aside0 (kq + j = 4) ∧ Aside0 (Below w26.heap.size w26 w'))
              case atStart => exact ⟨0, rfl, ⟨rfl⟩, ⟨Below.refl _ _⟩⟩
              case round =>
                obtain ⟨j, rfl, HJ, HL⟩ := hrel
                have HRo := Aside0.mk (Kd.C_below HRe.out HL.out)
                by_cases hj : j < 4
                · have : j = 0 ∨ j = 1 ∨ j = 2 ∨ j = 3 := by omega
                  clear hj
                  rcases this with rfl | rfl | rfl | rfl
                  · have hix := idx4_0 AT AD (some ⟨g, 0, none⟩) AR T.length cT D.length cD X.length cap Rr.length cR wr
                    have HO := Aside0.mk (Kd.C_below HTe.out HL.out)
                    cases gk with
                    | zero => exact absurd HJ.out (by decide)
                    | succ k2_ =>
                      go_wp2_with (first | (go_at_call 19; with_reducible refine (matrix_Reduce.calls AT cT T Rr 0 _ HO.out CT.out FT.out).mono ?_; rintro e w27 ⟨v_, rfl, ho_, hb⟩; obtain ⟨AQ, cQ, rfl⟩ := Kd.S_slice ho_; have HQ := Aside0.mk (Kd.S_reads' ho_).2.2; have CQ := Aside0.mk (Kd.S_reads' ho_).2.1; clear ho_; replace HRo := Aside0.mk (Kd.C_below HRo.out hb); replace HL := Aside0.mk (HL.out.trans (hb.mono HL.out.size)); clear hb) | (go_at_call 15; with_reducible refine (matrix_Same.calls AQ cQ Rr AR cR Rr true _ HQ.out CQ.out HRo.out CR.out FSame.out).mono ?_; rintro e w28 ⟨rfl, hd⟩; have hb := hd.below; clear hd; replace HL := Aside0.mk (HL.out.trans (hb.mono HL.out.size)); clear hb))
                      go_roundg k2_
                      case measure => omega
                      case rel => exact ⟨0 + 1, rfl, ⟨by have := HJ.out; omega⟩, HL⟩
                  · have hix := idx4_1 AT AD (some ⟨g, 0, none⟩) AR T.length cT D.length cD X.length cap Rr.length cR wr
                    have HO := Aside0.mk (Kd.C_below HDe.out HL.out)
                    cases gk with
                    | zero => exact absurd HJ.out (by decide)
                    | succ k2_ =>
                      go_wp2_with (first | (go_at_call 19; with_reducible refine (matrix_Reduce.calls AD cD D Rr 0 _ HO.out CD.out FD.out).mono ?_; rintro e w27 ⟨v_, rfl, ho_, hb⟩; obtain ⟨AQ, cQ, rfl⟩ := Kd.S_slice ho_; have HQ := Aside0.mk (Kd.S_reads' ho_).2.2; have CQ := Aside0.mk (Kd.S_reads' ho_).2.1; clear ho_; replace HRo := Aside0.mk (Kd.C_below HRo.out hb); replace HL := Aside0.mk (HL.out.trans (hb.mono HL.out.size)); clear hb) | (go_at_call 15; with_reducible refine (matrix_Same.calls AQ cQ Rr AR cR Rr true _ HQ.out CQ.out HRo.out CR.out FSame.out).mono ?_; rintro e w28 ⟨rfl, hd⟩; have hb := hd.below; clear hd; replace HL := Aside0.mk (HL.out.trans (hb.mono HL.out.size)); clear hb))
                      go_roundg k2_
                      case measure => omega
                      case rel => exact ⟨1 + 1, rfl, ⟨by have := HJ.out; omega⟩, HL⟩
                  · have hix := idx4_2 AT AD (some ⟨g, 0, none⟩) AR T.length cT D.length cD X.length cap Rr.length cR wr
                    have HO := Aside0.mk (Kd.C_below HZC.out HL.out)
                    cases gk with
                    | zero => exact absurd HJ.out (by decide)
                    | succ k2_ =>
                      go_wp2_with (first | (go_at_call 19; with_reducible refine (RZ.out _ HO.out).mono ?_; rintro e w27 ⟨v_, rfl, ho_, hb⟩; obtain ⟨AQ, cQ, rfl⟩ := Kd.S_slice ho_; have HQ := Aside0.mk (Kd.S_reads' ho_).2.2; have CQ := Aside0.mk (Kd.S_reads' ho_).2.1; clear ho_; replace HRo := Aside0.mk (Kd.C_below HRo.out hb); replace HL := Aside0.mk (HL.out.trans (hb.mono HL.out.size)); clear hb) | (go_at_call 15; with_reducible refine (matrix_Same.calls AQ cQ Rr AR cR Rr true _ HQ.out CQ.out HRo.out CR.out FSame.out).mono ?_; rintro e w28 ⟨rfl, hd⟩; have hb := hd.below; clear hd; replace HL := Aside0.mk (HL.out.trans (hb.mono HL.out.size)); clear hb))
                      go_roundg k2_
                      case measure => omega
                      case rel => exact ⟨2 + 1, rfl, ⟨by have := HJ.out; omega⟩, HL⟩
                  · have hix := idx4_3 AT AD (some ⟨g, 0, none⟩) AR T.length cT D.length cD X.length cap Rr.length cR wr
                    have HO := Aside0.mk (Kd.C_below HRe.out HL.out)
                    cases gk with
                    | zero => exact absurd HJ.out (by decide)
                    | succ k2_ =>
                      go_wp2_with (first | (go_at_call 19; with_reducible refine (matrix_Reduce.calls AR cR Rr Rr 0 _ HO.out CR.out FRR.out).mono ?_; rintro e w27 ⟨v_, rfl, ho_, hb⟩; obtain ⟨AQ, cQ, rfl⟩ := Kd.S_slice ho_; have HQ := Aside0.mk (Kd.S_reads' ho_).2.2; have CQ := Aside0.mk (Kd.S_reads' ho_).2.1; clear ho_; replace HRo := Aside0.mk (Kd.C_below HRo.out hb); replace HL := Aside0.mk (HL.out.trans (hb.mono HL.out.size)); clear hb) | (go_at_call 15; with_reducible refine (matrix_Same.calls AQ cQ Rr AR cR Rr true _ HQ.out CQ.out HRo.out CR.out FSame.out).mono ?_; rintro e w28 ⟨rfl, hd⟩; have hb := hd.below; clear hd; replace HL := Aside0.mk (HL.out.trans (hb.mono HL.out.size)); clear hb))
                      go_roundg k2_
                      case measure => omega
                      case rel => exact ⟨3 + 1, rfl, ⟨by have := HJ.out; omega⟩, HL⟩
                · have ej : j = 4 := by have := HJ.out; omega
                  subst ej
                  clear hj HJ
                  replace HXe := Aside0.mk (Kd.C_below HXe.out HL.out)
                  replace HB := Aside0.mk (HB.out.trans (HL.out.mono HB.out.size))
                  clear HL RZ HZC HTe HDe HRe
                  go_wp2_with (first
                    | ((with_reducible refine gate_builtin (b := .append) (xs := #[.const (.slice none 0 0), .tmp 214]) rfl ?_); at_builtin; refine Kd.N_append_rows rowK (w0 := wr) wr.heap.size rfl (.const (.slice none 0 0)) (.tmp 214) 23 22 (.slice none 0 0) 24 rfl Try.underlying23 infoRows rfl (show 0 < 1 by decide) (by decide) (.slice none 0 0) [] Rr _ _ _ (fun _ => True) (fun k_ => k_ < wr.heap.size) rfl rfl (Kd.N_nil _ _ _ _ _) (Kd.C_F (Kd.heap_slice _ (Kd.heap_int _)) HRo.out) (fun k hk => ⟨trivial, by simp [Value.ownBlock]⟩) (fun _ _ => trivial) (Below.refl _ _) (Nat.le_refl _) (len14 X Rr K6.out.1 K6.out.2.2) ?_; intro v30 w30 hN hb _ _; rw [List.nil_append] at hN; have HN30 := Aside0.mk hN; have H30 := Aside0.mk hb; clear hN hb)
                    | ((with_reducible refine gate_builtin (b := .append) (xs := #[.tmp 215, .tmp 216]) rfl ?_); at_builtin; refine Kd.N_append_rows rowK (w0 := wr) wr.heap.size rfl (.tmp 215) (.tmp 216) 23 22 (.slice none 0 0) 24 rfl Try.underlying23 infoRows rfl (show 0 < 1 by decide) (by decide) v30 Rr X _ _ _ (fun _ => True) (fun k_ => k_ < wr.heap.size) rfl rfl HN30.out (Kd.F_step (Kd.C_F (Kd.heap_slice _ (Kd.heap_int _)) HXe.out) (fun k hk _ => H30.out.block k hk)) (fun j_ hj_ => ⟨trivial, fun e_ => absurd (Kd.N_base HN30.out j_ e_.symm) (Nat.not_le.2 hj_)⟩) (fun _ _ => trivial) H30.out H30.out.size (len13 X Rr K6.out.1 K6.out.2.2) ?_; intro v31 w31 hN hb _ _; obtain ⟨Ab, cb, rfl⟩ := Kd.N_slice hN; have Hb := Aside0.mk (Kd.N_reads' hN).2.2; have Cb := Aside0.mk (Kd.N_reads' hN).2.1; clear hN HN30 H30; replace HB := Aside0.mk (HB.out.trans (hb.mono HB.out.size)); clear hb; have HRb := Aside0.mk (matrix_Rank.calls Ab cb (Rr ++ X) (Rr.length : Int) 0 w31 Hb.out Cb.out FRank.out); rw [List.length_append] at HRb)
                    | (go_at_call 17; with_reducible refine (HRb.out).mono ?_; rintro e w32 ⟨rfl, hb⟩; replace HB := Aside0.mk (HB.out.trans (hb.mono HB.out.size)); clear hb)
                    | (go_at_call 12; with_reducible refine (braidworklaw06_wakes.calls 200 true _ (wakes_ok 192)).mono ?_; rintro e w33 ⟨rfl, hb⟩; replace HB := Aside0.mk (HB.out.trans (hb.mono HB.out.size)); clear hb))
                  go_ret
                  exact ⟨rfl, HB.out⟩
            · have c1 : (a3 != 0) = true := by simpa using HB2.out.1
              have c2 : (a3 = 0) = False := eq_false HB2.out.1
              obtain ⟨Az, cz, hz0, hz1, hzl, hzc⟩ := N_cell HN.out 0 KP.out
              rw [HZ0.out] at hz0 hzl hzc
              have HZL := Aside0.mk hzl
              have HZC := Aside0.mk hzc
              have k8 : ((0 : Int) < (X.length : Int)) = True := eq_true (Int.ofNat_lt.2 KP.out)
              have k9 := eq_true KP.out
              clear hz1 hzl hzc
              go_upto_region 37 with (first | (go_at_call 23; with_reducible refine (vector_Scale.calls Az cz z0 a3 s _ HZC.out HZL.out FS.out).mono ?_; rintro e w25 ⟨v0, rfl, hR, hb⟩; obtain ⟨Ay, cy, rfl, hcy, hFy⟩ := row_new (N_glt HN.out) hR; have CY := Aside0.mk hcy; have HY := Aside0.mk hFy; replace HN := Aside0.mk (Kd.N_below HN.out hb); replace HW := Aside0.mk (HW.out.trans (hb.mono HW.out.size)); clear hR hb hcy hFy hz0 HZC HZL; obtain ⟨Az2, cz2, hz0, hz1, _⟩ := N_cell HN.out 0 KP.out))
              clear hz0 hz1
              replace HN := Aside0.mk (N_put HN.out 0 KP.out CY.out HY.out)
              replace HW := Aside0.mk (HW.out.setCell (p := ⟨g, 0, none⟩) HG.out (.slice Ay s.length cy))
              obtain ⟨w26, hw26⟩ : ∃ w', w' = w25.setCell ⟨g, 0, none⟩ (.slice Ay s.length cy) := ⟨_, rfl⟩
              rw [← hw26] at HN HW ⊢
              clear hw26 c1 c2 k8 k9 CY HY
              replace HN := Aside0.mk (N_as HB2.out.2 HN.out)
              clear HB2
              have HZC := Aside0.mk (show Kd.C rowK w26 (some ⟨g, 0, none⟩) X.length Z from by have := (Kd.N_reads' HN.out).2.2; rw [ZL.out] at this; exact this)
              have CZ := Aside0.mk (show Z.length ≤ cap from by rw [ZL.out]; exact (Kd.N_reads' HN.out).2.1)
              have RZ := fun W hW => matrix_Reduce.calls (some ⟨g, 0, none⟩) cap Z Rr 0 W hW CZ.out FZ.out
              simp only [ZL.out] at RZ
              replace RZ := Aside0.mk RZ
              have HTe := Aside0.mk (Kd.C_below HT20.out HW.out)
              have HDe := Aside0.mk (Kd.C_below HD20.out HW.out)
              have HRe := Aside0.mk (Kd.C_below HR20.out HW.out)
              have HXe := Aside0.mk (Kd.C_below HX20.out HW.out)
              replace HB := Aside0.mk (HB.out.trans (HW.out.mono HB.out.size))
              clear HN HT20 HD20 HR20 HX20 HW
              go_wp2
              go_loopg [196] 4 (fun kq v196 w' => ∃ j : Nat, v196 = .int .i64 (j : Int) ∧ Aside0 (kq + j = 4) ∧ Aside0 (Below w26.heap.size w26 w'))
              case atStart => exact ⟨0, rfl, ⟨rfl⟩, ⟨Below.refl _ _⟩⟩
              case round =>
                obtain ⟨j, rfl, HJ, HL⟩ := hrel
                have HRo := Aside0.mk (Kd.C_below HRe.out HL.out)
                by_cases hj : j < 4
                · have : j = 0 ∨ j = 1 ∨ j = 2 ∨ j = 3 := by omega
                  clear hj
                  rcases this with rfl | rfl | rfl | rfl
                  · have hix := idx4_0 AT AD (some ⟨g, 0, none⟩) AR T.length cT D.length cD X.length cap Rr.length cR wr
                    have HO := Aside0.mk (Kd.C_below HTe.out HL.out)
                    cases gk with
                    | zero => exact absurd HJ.out (by decide)
                    | succ k2_ =>
                      go_wp2_with (first | (go_at_call 19; with_reducible refine (matrix_Reduce.calls AT cT T Rr 0 _ HO.out CT.out FT.out).mono ?_; rintro e w27 ⟨v_, rfl, ho_, hb⟩; obtain ⟨AQ, cQ, rfl⟩ := Kd.S_slice ho_; have HQ := Aside0.mk (Kd.S_reads' ho_).2.2; have CQ := Aside0.mk (Kd.S_reads' ho_).2.1; clear ho_; replace HRo := Aside0.mk (Kd.C_below HRo.out hb); replace HL := Aside0.mk (HL.out.trans (hb.mono HL.out.size)); clear hb) | (go_at_call 15; with_reducible refine (matrix_Same.calls AQ cQ Rr AR cR Rr true _ HQ.out CQ.out HRo.out CR.out FSame.out).mono ?_; rintro e w28 ⟨rfl, hd⟩; have hb := hd.below; clear hd; replace HL := Aside0.mk (HL.out.trans (hb.mono HL.out.size)); clear hb))
                      go_roundg k2_
                      case measure => omega
                      case rel => exact ⟨0 + 1, rfl, ⟨by have := HJ.out; omega⟩, HL⟩
                  · have hix := idx4_1 AT AD (some ⟨g, 0, none⟩) AR T.length cT D.length cD X.length cap Rr.length cR wr
                    have HO := Aside0.mk (Kd.C_below HDe.out HL.out)
                    cases gk with
                    | zero => exact absurd HJ.out (by decide)
                    | succ k2_ =>
                      go_wp2_with (first | (go_at_call 19; with_reducible refine (matrix_Reduce.calls AD cD D Rr 0 _ HO.out CD.out FD.out).mono ?_; rintro e w27 ⟨v_, rfl, ho_, hb⟩; obtain ⟨AQ, cQ, rfl⟩ := Kd.S_slice ho_; have HQ := Aside0.mk (Kd.S_reads' ho_).2.2; have CQ := Aside0.mk (Kd.S_reads' ho_).2.1; clear ho_; replace HRo := Aside0.mk (Kd.C_below HRo.out hb); replace HL := Aside0.mk (HL.out.trans (hb.mono HL.out.size)); clear hb) | (go_at_call 15; with_reducible refine (matrix_Same.calls AQ cQ Rr AR cR Rr true _ HQ.out CQ.out HRo.out CR.out FSame.out).mono ?_; rintro e w28 ⟨rfl, hd⟩; have hb := hd.below; clear hd; replace HL := Aside0.mk (HL.out.trans (hb.mono HL.out.size)); clear hb))
                      go_roundg k2_
                      case measure => omega
                      case rel => exact ⟨1 + 1, rfl, ⟨by have := HJ.out; omega⟩, HL⟩
                  · have hix := idx4_2 AT AD (some ⟨g, 0, none⟩) AR T.length cT D.length cD X.length cap Rr.length cR wr
                    have HO := Aside0.mk (Kd.C_below HZC.out HL.out)
                    cases gk with
                    | zero => exact absurd HJ.out (by decide)
                    | succ k2_ =>
                      go_wp2_with (first | (go_at_call 19; with_reducible refine (RZ.out _ HO.out).mono ?_; rintro e w27 ⟨v_, rfl, ho_, hb⟩; obtain ⟨AQ, cQ, rfl⟩ := Kd.S_slice ho_; have HQ := Aside0.mk (Kd.S_reads' ho_).2.2; have CQ := Aside0.mk (Kd.S_reads' ho_).2.1; clear ho_; replace HRo := Aside0.mk (Kd.C_below HRo.out hb); replace HL := Aside0.mk (HL.out.trans (hb.mono HL.out.size)); clear hb) | (go_at_call 15; with_reducible refine (matrix_Same.calls AQ cQ Rr AR cR Rr true _ HQ.out CQ.out HRo.out CR.out FSame.out).mono ?_; rintro e w28 ⟨rfl, hd⟩; have hb := hd.below; clear hd; replace HL := Aside0.mk (HL.out.trans (hb.mono HL.out.size)); clear hb))
                      go_roundg k2_
                      case measure => omega
                      case rel => exact ⟨2 + 1, rfl, ⟨by have := HJ.out; omega⟩, HL⟩
                  · have hix := idx4_3 AT AD (some ⟨g, 0, none⟩) AR T.length cT D.length cD X.length cap Rr.length cR wr
                    have HO := Aside0.mk (Kd.C_below HRe.out HL.out)
                    cases gk with
                    | zero => exact absurd HJ.out (by decide)
                    | succ k2_ =>
                      go_wp2_with (first | (go_at_call 19; with_reducible refine (matrix_Reduce.calls AR cR Rr Rr 0 _ HO.out CR.out FRR.out).mono ?_; rintro e w27 ⟨v_, rfl, ho_, hb⟩; obtain ⟨AQ, cQ, rfl⟩ := Kd.S_slice ho_; have HQ := Aside0.mk (Kd.S_reads' ho_).2.2; have CQ := Aside0.mk (Kd.S_reads' ho_).2.1; clear ho_; replace HRo := Aside0.mk (Kd.C_below HRo.out hb); replace HL := Aside0.mk (HL.out.trans (hb.mono HL.out.size)); clear hb) | (go_at_call 15; with_reducible refine (matrix_Same.calls AQ cQ Rr AR cR Rr true _ HQ.out CQ.out HRo.out CR.out FSame.out).mono ?_; rintro e w28 ⟨rfl, hd⟩; have hb := hd.below; clear hd; replace HL := Aside0.mk (HL.out.trans (hb.mono HL.out.size)); clear hb))
                      go_roundg k2_
                      case measure => omega
                      case rel => exact ⟨3 + 1, rfl, ⟨by have := HJ.out; omega⟩, HL⟩
                · have ej : j = 4 := by have := HJ.out; omega
                  subst ej
                  clear hj HJ
                  replace HXe := Aside0.mk (Kd.C_below HXe.out HL.out)
                  replace HB := Aside0.mk (HB.out.trans (HL.out.mono HB.out.size))
                  clear HL RZ HZC HTe HDe HRe
                  go_wp2_with (first
                    | ((with_reducible refine gate_builtin (b := .append) (xs := #[.const (.slice none 0 0), .tmp 214]) rfl ?_); at_builtin; refine Kd.N_append_rows rowK (w0 := wr) wr.heap.size rfl (.const (.slice none 0 0)) (.tmp 214) 23 22 (.slice none 0 0) 24 rfl Try.underlying23 infoRows rfl (show 0 < 1 by decide) (by decide) (.slice none 0 0) [] Rr _ _ _ (fun _ => True) (fun k_ => k_ < wr.heap.size) rfl rfl (Kd.N_nil _ _ _ _ _) (Kd.C_F (Kd.heap_slice _ (Kd.heap_int _)) HRo.out) (fun k hk => ⟨trivial, by simp [Value.ownBlock]⟩) (fun _ _ => trivial) (Below.refl _ _) (Nat.le_refl _) (len14 X Rr K6.out.1 K6.out.2.2) ?_; intro v30 w30 hN hb _ _; rw [List.nil_append] at hN; have HN30 := Aside0.mk hN; have H30 := Aside0.mk hb; clear hN hb)
                    | ((with_reducible refine gate_builtin (b := .append) (xs := #[.tmp 215, .tmp 216]) rfl ?_); at_builtin; refine Kd.N_append_rows rowK (w0 := wr) wr.heap.size rfl (.tmp 215) (.tmp 216) 23 22 (.slice none 0 0) 24 rfl Try.underlying23 infoRows rfl (show 0 < 1 by decide) (by decide) v30 Rr X _ _ _ (fun _ => True) (fun k_ => k_ < wr.heap.size) rfl rfl HN30.out (Kd.F_step (Kd.C_F (Kd.heap_slice _ (Kd.heap_int _)) HXe.out) (fun k hk _ => H30.out.block k hk)) (fun j_ hj_ => ⟨trivial, fun e_ => absurd (Kd.N_base HN30.out j_ e_.symm) (Nat.not_le.2 hj_)⟩) (fun _ _ => trivial) H30.out H30.out.size (len13 X Rr K6.out.1 K6.out.2.2) ?_; intro v31 w31 hN hb _ _; obtain ⟨Ab, cb, rfl⟩ := Kd.N_slice hN; have Hb := Aside0.mk (Kd.N_reads' hN).2.2; have Cb := Aside0.mk (Kd.N_reads' hN).2.1; clear hN HN30 H30; replace HB := Aside0.mk (HB.out.trans (hb.mono HB.out.size)); clear hb; have HRb := Aside0.mk (matrix_Rank.calls Ab cb (Rr ++ X) (Rr.length : Int) 0 w31 Hb.out Cb.out FRank.out); rw [List.length_append] at HRb)
                    | (go_at_call 17; with_reducible refine (HRb.out).mono ?_; rintro e w32 ⟨rfl, hb⟩; replace HB := Aside0.mk (HB.out.trans (hb.mono HB.out.size)); clear hb)
                    | (go_at_call 12; with_reducible refine (braidworklaw06_wakes.calls 200 true _ (wakes_ok 192)).mono ?_; rintro e w33 ⟨rfl, hb⟩; replace HB := Aside0.mk (HB.out.trans (hb.mono HB.out.size)); clear hb))
                  go_ret
                  exact ⟨rfl, HB.out⟩
          · have b1 : decide ((X.length : Int) > 1) = false := decide_eq_false (by have := HB1.out.1; omega)
            have b2 : ((1 : Int) < (X.length : Int)) = False := eq_false (by have := HB1.out.1; omega)
            have b3 : (1 < X.length) = False := eq_false HB1.out.1
            go_upto_region 35 with fail
            clear b1 b2 b3
            replace HN := Aside0.mk (N_as HB1.out.2 HN.out)
            clear HB1
            generalize w21 = w24 at HN HW ⊢
            have hbs : (Aside0 (a3 = 0 ∧ Z1 = Z)) ∨ (Aside0 (a3 ≠ 0 ∧ Z1.set 0 s = Z)) := by
              by_cases b : a3 = 0
              · exact Or.inl ⟨b, by rw [hZ.out, if_pos b]⟩
              · exact Or.inr ⟨b, by rw [hZ.out, if_neg b]⟩
            rcases hbs with HB2 | HB2
            · have c1 : (a3 != 0) = false := by simp [HB2.out.1]
              have c2 : (a3 = 0) = True := eq_true HB2.out.1
              go_upto_region 37 with fail
              replace HN := Aside0.mk (N_as HB2.out.2 HN.out)
              clear c1 c2 HB2
              generalize w24 = w26 at HN HW ⊢
              have HZC := Aside0.mk (show Kd.C rowK w26 (some ⟨g, 0, none⟩) X.length Z from by have := (Kd.N_reads' HN.out).2.2; rw [ZL.out] at this; exact this)
              have CZ := Aside0.mk (show Z.length ≤ cap from by rw [ZL.out]; exact (Kd.N_reads' HN.out).2.1)
              have RZ := fun W hW => matrix_Reduce.calls (some ⟨g, 0, none⟩) cap Z Rr 0 W hW CZ.out FZ.out
              simp only [ZL.out] at RZ
              replace RZ := Aside0.mk RZ
              have HTe := Aside0.mk (Kd.C_below HT20.out HW.out)
              have HDe := Aside0.mk (Kd.C_below HD20.out HW.out)
              have HRe := Aside0.mk (Kd.C_below HR20.out HW.out)
              have HXe := Aside0.mk (Kd.C_below HX20.out HW.out)
              replace HB := Aside0.mk (HB.out.trans (HW.out.mono HB.out.size))
              clear HN HT20 HD20 HR20 HX20 HW
              go_wp2
              go_loopg [196] 4 (fun kq v196 w' => ∃ j : Nat, v196 = .int .i64 (j : Int) ∧ Aside0 (kq + j = 4) ∧ Aside0 (Below w26.heap.size w26 w'))
              case atStart => exact ⟨0, rfl, ⟨rfl⟩, ⟨Below.refl _ _⟩⟩
              case round =>
                obtain ⟨j, rfl, HJ, HL⟩ := hrel
                have HRo := Aside0.mk (Kd.C_below HRe.out HL.out)
                by_cases hj : j < 4
                · have : j = 0 ∨ j = 1 ∨ j = 2 ∨ j = 3 := by omega
                  clear hj
                  rcases this with rfl | rfl | rfl | rfl
                  · have hix := idx4_0 AT AD (some ⟨g, 0, none⟩) AR T.length cT D.length cD X.length cap Rr.length cR wr
                    have HO := Aside0.mk (Kd.C_below HTe.out HL.out)
                    cases gk with
                    | zero => exact absurd HJ.out (by decide)
                    | succ k2_ =>
                      go_wp2_with (first | (go_at_call 19; with_reducible refine (matrix_Reduce.calls AT cT T Rr 0 _ HO.out CT.out FT.out).mono ?_; rintro e w27 ⟨v_, rfl, ho_, hb⟩; obtain ⟨AQ, cQ, rfl⟩ := Kd.S_slice ho_; have HQ := Aside0.mk (Kd.S_reads' ho_).2.2; have CQ := Aside0.mk (Kd.S_reads' ho_).2.1; clear ho_; replace HRo := Aside0.mk (Kd.C_below HRo.out hb); replace HL := Aside0.mk (HL.out.trans (hb.mono HL.out.size)); clear hb) | (go_at_call 15; with_reducible refine (matrix_Same.calls AQ cQ Rr AR cR Rr true _ HQ.out CQ.out HRo.out CR.out FSame.out).mono ?_; rintro e w28 ⟨rfl, hd⟩; have hb := hd.below; clear hd; replace HL := Aside0.mk (HL.out.trans (hb.mono HL.out.size)); clear hb))
                      go_roundg k2_
                      case measure => omega
                      case rel => exact ⟨0 + 1, rfl, ⟨by have := HJ.out; omega⟩, HL⟩
                  · have hix := idx4_1 AT AD (some ⟨g, 0, none⟩) AR T.length cT D.length cD X.length cap Rr.length cR wr
                    have HO := Aside0.mk (Kd.C_below HDe.out HL.out)
                    cases gk with
                    | zero => exact absurd HJ.out (by decide)
                    | succ k2_ =>
                      go_wp2_with (first | (go_at_call 19; with_reducible refine (matrix_Reduce.calls AD cD D Rr 0 _ HO.out CD.out FD.out).mono ?_; rintro e w27 ⟨v_, rfl, ho_, hb⟩; obtain ⟨AQ, cQ, rfl⟩ := Kd.S_slice ho_; have HQ := Aside0.mk (Kd.S_reads' ho_).2.2; have CQ := Aside0.mk (Kd.S_reads' ho_).2.1; clear ho_; replace HRo := Aside0.mk (Kd.C_below HRo.out hb); replace HL := Aside0.mk (HL.out.trans (hb.mono HL.out.size)); clear hb) | (go_at_call 15; with_reducible refine (matrix_Same.calls AQ cQ Rr AR cR Rr true _ HQ.out CQ.out HRo.out CR.out FSame.out).mono ?_; rintro e w28 ⟨rfl, hd⟩; have hb := hd.below; clear hd; replace HL := Aside0.mk (HL.out.trans (hb.mono HL.out.size)); clear hb))
                      go_roundg k2_
                      case measure => omega
                      case rel => exact ⟨1 + 1, rfl, ⟨by have := HJ.out; omega⟩, HL⟩
                  · have hix := idx4_2 AT AD (some ⟨g, 0, none⟩) AR T.length cT D.length cD X.length cap Rr.length cR wr
                    have HO := Aside0.mk (Kd.C_below HZC.out HL.out)
                    cases gk with
                    | zero => exact absurd HJ.out (by decide)
                    | succ k2_ =>
                      go_wp2_with (first | (go_at_call 19; with_reducible refine (RZ.out _ HO.out).mono ?_; rintro e w27 ⟨v_, rfl, ho_, hb⟩; obtain ⟨AQ, cQ, rfl⟩ := Kd.S_slice ho_; have HQ := Aside0.mk (Kd.S_reads' ho_).2.2; have CQ := Aside0.mk (Kd.S_reads' ho_).2.1; clear ho_; replace HRo := Aside0.mk (Kd.C_below HRo.out hb); replace HL := Aside0.mk (HL.out.trans (hb.mono HL.out.size)); clear hb) | (go_at_call 15; with_reducible refine (matrix_Same.calls AQ cQ Rr AR cR Rr true _ HQ.out CQ.out HRo.out CR.out FSame.out).mono ?_; rintro e w28 ⟨rfl, hd⟩; have hb := hd.below; clear hd; replace HL := Aside0.mk (HL.out.trans (hb.mono HL.out.size)); clear hb))
                      go_roundg k2_
                      case measure => omega
                      case rel => exact ⟨2 + 1, rfl, ⟨by have := HJ.out; omega⟩, HL⟩
                  · have hix := idx4_3 AT AD (some ⟨g, 0, none⟩) AR T.length cT D.length cD X.length cap Rr.length cR wr
                    have HO := Aside0.mk (Kd.C_below HRe.out HL.out)
                    cases gk with
                    | zero => exact absurd HJ.out (by decide)
                    | succ k2_ =>
                      go_wp2_with (first | (go_at_call 19; with_reducible refine (matrix_Reduce.calls AR cR Rr Rr 0 _ HO.out CR.out FRR.out).mono ?_; rintro e w27 ⟨v_, rfl, ho_, hb⟩; obtain ⟨AQ, cQ, rfl⟩ := Kd.S_slice ho_; have HQ := Aside0.mk (Kd.S_reads' ho_).2.2; have CQ := Aside0.mk (Kd.S_reads' ho_).2.1; clear ho_; replace HRo := Aside0.mk (Kd.C_below HRo.out hb); replace HL := Aside0.mk (HL.out.trans (hb.mono HL.out.size)); clear hb) | (go_at_call 15; with_reducible refine (matrix_Same.calls AQ cQ Rr AR cR Rr true _ HQ.out CQ.out HRo.out CR.out FSame.out).mono ?_; rintro e w28 ⟨rfl, hd⟩; have hb := hd.below; clear hd; replace HL := Aside0.mk (HL.out.trans (hb.mono HL.out.size)); clear hb))
                      go_roundg k2_
                      case measure => omega
                      case rel => exact ⟨3 + 1, rfl, ⟨by have := HJ.out; omega⟩, HL⟩
                · have ej : j = 4 := by have := HJ.out; omega
                  subst ej
                  clear hj HJ
                  replace HXe := Aside0.mk (Kd.C_below HXe.out HL.out)
                  replace HB := Aside0.mk (HB.out.trans (HL.out.mono HB.out.size))
                  clear HL RZ HZC HTe HDe HRe
                  go_wp2_with (first
                    | ((with_reducible refine gate_builtin (b := .append) (xs := #[.const (.slice none 0 0), .tmp 214]) rfl ?_); at_builtin; refine Kd.N_append_rows rowK (w0 := wr) wr.heap.size rfl (.const (.slice none 0 0)) (.tmp 214) 23 22 (.slice none 0 0) 24 rfl Try.underlying23 infoRows rfl (show 0 < 1 by decide) (by decide) (.slice none 0 0) [] Rr _ _ _ (fun _ => True) (fun k_ => k_ < wr.heap.size) rfl rfl (Kd.N_nil _ _ _ _ _) (Kd.C_F (Kd.heap_slice _ (Kd.heap_int _)) HRo.out) (fun k hk => ⟨trivial, by simp [Value.ownBlock]⟩) (fun _ _ => trivial) (Below.refl _ _) (Nat.le_refl _) (len14 X Rr K6.out.1 K6.out.2.2) ?_; intro v30 w30 hN hb _ _; rw [List.nil_append] at hN; have HN30 := Aside0.mk hN; have H30 := Aside0.mk hb; clear hN hb)
                    | ((with_reducible refine gate_builtin (b := .append) (xs := #[.tmp 215, .tmp 216]) rfl ?_); at_builtin; refine Kd.N_append_rows rowK (w0 := wr) wr.heap.size rfl (.tmp 215) (.tmp 216) 23 22 (.slice none 0 0) 24 rfl Try.underlying23 infoRows rfl (show 0 < 1 by decide) (by decide) v30 Rr X _ _ _ (fun _ => True) (fun k_ => k_ < wr.heap.size) rfl rfl HN30.out (Kd.F_step (Kd.C_F (Kd.heap_slice _ (Kd.heap_int _)) HXe.out) (fun k hk _ => H30.out.block k hk)) (fun j_ hj_ => ⟨trivial, fun e_ => absurd (Kd.N_base HN30.out j_ e_.symm) (Nat.not_le.2 hj_)⟩) (fun _ _ => trivial) H30.out H30.out.size (len13 X Rr K6.out.1 K6.out.2.2) ?_; intro v31 w31 hN hb _ _; obtain ⟨Ab, cb, rfl⟩ := Kd.N_slice hN; have Hb := Aside0.mk (Kd.N_reads' hN).2.2; have Cb := Aside0.mk (Kd.N_reads' hN).2.1; clear hN HN30 H30; replace HB := Aside0.mk (HB.out.trans (hb.mono HB.out.size)); clear hb; have HRb := Aside0.mk (matrix_Rank.calls Ab cb (Rr ++ X) (Rr.length : Int) 0 w31 Hb.out Cb.out FRank.out); rw [List.length_append] at HRb)
                    | (go_at_call 17; with_reducible refine (HRb.out).mono ?_; rintro e w32 ⟨rfl, hb⟩; replace HB := Aside0.mk (HB.out.trans (hb.mono HB.out.size)); clear hb)
                    | (go_at_call 12; with_reducible refine (braidworklaw06_wakes.calls 200 true _ (wakes_ok 192)).mono ?_; rintro e w33 ⟨rfl, hb⟩; replace HB := Aside0.mk (HB.out.trans (hb.mono HB.out.size)); clear hb))
                  go_ret
                  exact ⟨rfl, HB.out⟩
            · have c1 : (a3 != 0) = true := by simpa using HB2.out.1
              have c2 : (a3 = 0) = False := eq_false HB2.out.1
              obtain ⟨Az, cz, hz0, hz1, hzl, hzc⟩ := N_cell HN.out 0 KP.out
              rw [HZ0.out] at hz0 hzl hzc
              have HZL := Aside0.mk hzl
              have HZC := Aside0.mk hzc
              have k8 : ((0 : Int) < (X.length : Int)) = True := eq_true (Int.ofNat_lt.2 KP.out)
              have k9 := eq_true KP.out
              clear hz1 hzl hzc
              go_upto_region 37 with (first | (go_at_call 23; with_reducible refine (vector_Scale.calls Az cz z0 a3 s _ HZC.out HZL.out FS.out).mono ?_; rintro e w25 ⟨v0, rfl, hR, hb⟩; obtain ⟨Ay, cy, rfl, hcy, hFy⟩ := row_new (N_glt HN.out) hR; have CY := Aside0.mk hcy; have HY := Aside0.mk hFy; replace HN := Aside0.mk (Kd.N_below HN.out hb); replace HW := Aside0.mk (HW.out.trans (hb.mono HW.out.size)); clear hR hb hcy hFy hz0 HZC HZL; obtain ⟨Az2, cz2, hz0, hz1, _⟩ := N_cell HN.out 0 KP.out))
              clear hz0 hz1
              replace HN := Aside0.mk (N_put HN.out 0 KP.out CY.out HY.out)
              replace HW := Aside0.mk (HW.out.setCell (p := ⟨g, 0, none⟩) HG.out (.slice Ay s.length cy))
              obtain ⟨w26, hw26⟩ : ∃ w', w' = w25.setCell ⟨g, 0, none⟩ (.slice Ay s.length cy) := ⟨_, rfl⟩
              rw [← hw26] at HN HW ⊢
              clear hw26 c1 c2 k8 k9 CY HY
              replace HN := Aside0.mk (N_as HB2.out.2 HN.out)
              clear HB2
              have HZC := Aside0.mk (show Kd.C rowK w26 (some ⟨g, 0, none⟩) X.length Z from by have := (Kd.N_reads' HN.out).2.2; rw [ZL.out] at this; exact this)
              have CZ := Aside0.mk (show Z.length ≤ cap from by rw [ZL.out]; exact (Kd.N_reads' HN.out).2.1)
              have RZ := fun W hW => matrix_Reduce.calls (some ⟨g, 0, none⟩) cap Z Rr 0 W hW CZ.out FZ.out
              simp only [ZL.out] at RZ
              replace RZ := Aside0.mk RZ
              have HTe := Aside0.mk (Kd.C_below HT20.out HW.out)
              have HDe := Aside0.mk (Kd.C_below HD20.out HW.out)
              have HRe := Aside0.mk (Kd.C_below HR20.out HW.out)
              have HXe := Aside0.mk (Kd.C_below HX20.out HW.out)
              replace HB := Aside0.mk (HB.out.trans (HW.out.mono HB.out.size))
              clear HN HT20 HD20 HR20 HX20 HW
              go_wp2
              go_loopg [196] 4 (fun kq v196 w' => ∃ j : Nat, v196 = .int .i64 (j : Int) ∧ Aside0 (kq + j = 4) ∧ Aside0 (Below w26.heap.size w26 w'))
              case atStart => exact ⟨0, rfl, ⟨rfl⟩, ⟨Below.refl _ _⟩⟩
              case round =>
                obtain ⟨j, rfl, HJ, HL⟩ := hrel
                have HRo := Aside0.mk (Kd.C_below HRe.out HL.out)
                by_cases hj : j < 4
                · have : j = 0 ∨ j = 1 ∨ j = 2 ∨ j = 3 := by omega
                  clear hj
                  rcases this with rfl | rfl | rfl | rfl
                  · have hix := idx4_0 AT AD (some ⟨g, 0, none⟩) AR T.length cT D.length cD X.length cap Rr.length cR wr
                    have HO := Aside0.mk (Kd.C_below HTe.out HL.out)
                    cases gk with
                    | zero => exact absurd HJ.out (by decide)
                    | succ k2_ =>
                      go_wp2_with (first | (go_at_call 19; with_reducible refine (matrix_Reduce.calls AT cT T Rr 0 _ HO.out CT.out FT.out).mono ?_; rintro e w27 ⟨v_, rfl, ho_, hb⟩; obtain ⟨AQ, cQ, rfl⟩ := Kd.S_slice ho_; have HQ := Aside0.mk (Kd.S_reads' ho_).2.2; have CQ := Aside0.mk (Kd.S_reads' ho_).2.1; clear ho_; replace HRo := Aside0.mk (Kd.C_below HRo.out hb); replace HL := Aside0.mk (HL.out.trans (hb.mono HL.out.size)); clear hb) | (go_at_call 15; with_reducible refine (matrix_Same.calls AQ cQ Rr AR cR Rr true _ HQ.out CQ.out HRo.out CR.out FSame.out).mono ?_; rintro e w28 ⟨rfl, hd⟩; have hb := hd.below; clear hd; replace HL := Aside0.mk (HL.out.trans (hb.mono HL.out.size)); clear hb))
                      go_roundg k2_
                      case measure => omega
                      case rel => exact ⟨0 + 1, rfl, ⟨by have := HJ.out; omega⟩, HL⟩
                  · have hix := idx4_1 AT AD (some ⟨g, 0, none⟩) AR T.length cT D.length cD X.length cap Rr.length cR wr
                    have HO := Aside0.mk (Kd.C_below HDe.out HL.out)
                    cases gk with
                    | zero => exact absurd HJ.out (by decide)
                    | succ k2_ =>
                      go_wp2_with (first | (go_at_call 19; with_reducible refine (matrix_Reduce.calls AD cD D Rr 0 _ HO.out CD.out FD.out).mono ?_; rintro e w27 ⟨v_, rfl, ho_, hb⟩; obtain ⟨AQ, cQ, rfl⟩ := Kd.S_slice ho_; have HQ := Aside0.mk (Kd.S_reads' ho_).2.2; have CQ := Aside0.mk (Kd.S_reads' ho_).2.1; clear ho_; replace HRo := Aside0.mk (Kd.C_below HRo.out hb); replace HL := Aside0.mk (HL.out.trans (hb.mono HL.out.size)); clear hb) | (go_at_call 15; with_reducible refine (matrix_Same.calls AQ cQ Rr AR cR Rr true _ HQ.out CQ.out HRo.out CR.out FSame.out).mono ?_; rintro e w28 ⟨rfl, hd⟩; have hb := hd.below; clear hd; replace HL := Aside0.mk (HL.out.trans (hb.mono HL.out.size)); clear hb))
                      go_roundg k2_
                      case measure => omega
                      case rel => exact ⟨1 + 1, rfl, ⟨by have := HJ.out; omega⟩, HL⟩
                  · have hix := idx4_2 AT AD (some ⟨g, 0, none⟩) AR T.length cT D.length cD X.length cap Rr.length cR wr
                    have HO := Aside0.mk (Kd.C_below HZC.out HL.out)
                    cases gk with
                    | zero => exact absurd HJ.out (by decide)
                    | succ k2_ =>
                      go_wp2_with (first | (go_at_call 19; with_reducible refine (RZ.out _ HO.out).mono ?_; rintro e w27 ⟨v_, rfl, ho_, hb⟩; obtain ⟨AQ, cQ, rfl⟩ := Kd.S_slice ho_; have HQ := Aside0.mk (Kd.S_reads' ho_).2.2; have CQ := Aside0.mk (Kd.S_reads' ho_).2.1; clear ho_; replace HRo := Aside0.mk (Kd.C_below HRo.out hb); replace HL := Aside0.mk (HL.out.trans (hb.mono HL.out.size)); clear hb) | (go_at_call 15; with_reducible refine (matrix_Same.calls AQ cQ Rr AR cR Rr true _ HQ.out CQ.out HRo.out CR.out FSame.out).mono ?_; rintro e w28 ⟨rfl, hd⟩; have hb := hd.below; clear hd; replace HL := Aside0.mk (HL.out.trans (hb.mono HL.out.size)); clear hb))
                      go_roundg k2_
                      case measure => omega
                      case rel => exact ⟨2 + 1, rfl, ⟨by have := HJ.out; omega⟩, HL⟩
                  · have hix := idx4_3 AT AD (some ⟨g, 0, none⟩) AR T.length cT D.length cD X.length cap Rr.length cR wr
                    have HO := Aside0.mk (Kd.C_below HRe.out HL.out)
                    cases gk with
                    | zero => exact absurd HJ.out (by decide)
                    | succ k2_ =>
                      go_wp2_with (first | (go_at_call 19; with_reducible refine (matrix_Reduce.calls AR cR Rr Rr 0 _ HO.out CR.out FRR.out).mono ?_; rintro e w27 ⟨v_, rfl, ho_, hb⟩; obtain ⟨AQ, cQ, rfl⟩ := Kd.S_slice ho_; have HQ := Aside0.mk (Kd.S_reads' ho_).2.2; have CQ := Aside0.mk (Kd.S_reads' ho_).2.1; clear ho_; replace HRo := Aside0.mk (Kd.C_below HRo.out hb); replace HL := Aside0.mk (HL.out.trans (hb.mono HL.out.size)); clear hb) | (go_at_call 15; with_reducible refine (matrix_Same.calls AQ cQ Rr AR cR Rr true _ HQ.out CQ.out HRo.out CR.out FSame.out).mono ?_; rintro e w28 ⟨rfl, hd⟩; have hb := hd.below; clear hd; replace HL := Aside0.mk (HL.out.trans (hb.mono HL.out.size)); clear hb))
                      go_roundg k2_
                      case measure => omega
                      case rel => exact ⟨3 + 1, rfl, ⟨by have := HJ.out; omega⟩, HL⟩
                · have ej : j = 4 := by have := HJ.out; omega
                  subst ej
                  clear hj HJ
                  replace HXe := Aside0.mk (Kd.C_below HXe.out HL.out)
                  replace HB := Aside0.mk (HB.out.trans (HL.out.mono HB.out.size))
                  clear HL RZ HZC HTe HDe HRe
                  go_wp2_with (first
                    | ((with_reducible refine gate_builtin (b := .append) (xs := #[.const (.slice none 0 0), .tmp 214]) rfl ?_); at_builtin; refine Kd.N_append_rows rowK (w0 := wr) wr.heap.size rfl (.const (.slice none 0 0)) (.tmp 214) 23 22 (.slice none 0 0) 24 rfl Try.underlying23 infoRows rfl (show 0 < 1 by decide) (by decide) (.slice none 0 0) [] Rr _ _ _ (fun _ => True) (fun k_ => k_ < wr.heap.size) rfl rfl (Kd.N_nil _ _ _ _ _) (Kd.C_F (Kd.heap_slice _ (Kd.heap_int _)) HRo.out) (fun k hk => ⟨trivial, by simp [Value.ownBlock]⟩) (fun _ _ => trivial) (Below.refl _ _) (Nat.le_refl _) (len14 X Rr K6.out.1 K6.out.2.2) ?_; intro v30 w30 hN hb _ _; rw [List.nil_append] at hN; have HN30 := Aside0.mk hN; have H30 := Aside0.mk hb; clear hN hb)
                    | ((with_reducible refine gate_builtin (b := .append) (xs := #[.tmp 215, .tmp 216]) rfl ?_); at_builtin; refine Kd.N_append_rows rowK (w0 := wr) wr.heap.size rfl (.tmp 215) (.tmp 216) 23 22 (.slice none 0 0) 24 rfl Try.underlying23 infoRows rfl (show 0 < 1 by decide) (by decide) v30 Rr X _ _ _ (fun _ => True) (fun k_ => k_ < wr.heap.size) rfl rfl HN30.out (Kd.F_step (Kd.C_F (Kd.heap_slice _ (Kd.heap_int _)) HXe.out) (fun k hk _ => H30.out.block k hk)) (fun j_ hj_ => ⟨trivial, fun e_ => absurd (Kd.N_base HN30.out j_ e_.symm) (Nat.not_le.2 hj_)⟩) (fun _ _ => trivial) H30.out H30.out.size (len13 X Rr K6.out.1 K6.out.2.2) ?_; intro v31 w31 hN hb _ _; obtain ⟨Ab, cb, rfl⟩ := Kd.N_slice hN; have Hb := Aside0.mk (Kd.N_reads' hN).2.2; have Cb := Aside0.mk (Kd.N_reads' hN).2.1; clear hN HN30 H30; replace HB := Aside0.mk (HB.out.trans (hb.mono HB.out.size)); clear hb; have HRb := Aside0.mk (matrix_Rank.calls Ab cb (Rr ++ X) (Rr.length : Int) 0 w31 Hb.out Cb.out FRank.out); rw [List.length_append] at HRb)
                    | (go_at_call 17; with_reducible refine (HRb.out).mono ?_; rintro e w32 ⟨rfl, hb⟩; replace HB := Aside0.mk (HB.out.trans (hb.mono HB.out.size)); clear hb)
                    | (go_at_call 12; with_reducible refine (braidworklaw06_wakes.calls 200 true _ (wakes_ok 192)).mono ?_; rintro e w33 ⟨rfl, hb⟩; replace HB := Aside0.mk (HB.out.trans (hb.mono HB.out.size)); clear hb))
                  go_ret
                  exact ⟨rfl, HB.out⟩
theorem tmod_lt {a : Int} {n : Nat} (h : 0 ≤ a) (hn : 0 < n) : ∃ k : Nat, Int.tmod a (n : Int) = (k : Int) ∧ k < n ∧ k = a.toNat % n := by
  refine ⟨(a % (n : Int)).toNat, ?_, ?_, ?_⟩
  · rw [Int.tmod_eq_emod_of_nonneg h, Int.toNat_of_nonneg (Int.emod_nonneg _ (by omega))]
  · have h1 := Int.emod_nonneg a (show (n : Int) ≠ 0 by omega)
    have h2 := Int.emod_lt_of_pos a (show (0 : Int) < (n : Int) by omega)
    omega
  · obtain ⟨m, rfl⟩ := Int.eq_ofNat_of_zero_le h
    simp only [Int.ofNat_eq_natCast, Int.toNat_natCast]
    rw [← Int.natCast_emod, Int.toNat_natCast]
theorem wrap_small {a : Int} (h : 0 ≤ a) (h2 : a < 256) : wrap64 a = a := by unfold wrap64; omega
theorem wrap_next {k : Nat} (h : k < 6) : wrap64 ((k : Int) + 1) = ((k + 1 : Nat) : Int) := by unfold wrap64; omega
theorem next_ne {k n : Nat} (hk : k < n) (h1 : 1 < n) : (k + 1) % n ≠ k := by
  rcases Nat.lt_or_ge (k + 1) n with h | h
  · rw [Nat.mod_eq_of_lt h]; omega
  · have e : k + 1 = n := by omega
    rw [e, Nat.mod_self]; omega
/-- the plain part: what the walk asks -/
theorem form_plain {n : Nat} {X : List (List Int)} (hX : Fits n X) (h6 : X.length ≤ 6) (hn : n ≤ 6) {kk k2 : Nat} (hk : kk < X.length) (hk2 : k2 < X.length) (hne : 1 < X.length → k2 ≠ kk) {c : Int} (hc : isB c) :
    ∃ (Rr : List (List Int)) (P : Nat → Nat) (y s : List Int) (Z1 Z : List (List Int)), matrix_Reduce.f X = some (Rr, 0) ∧ Fits n Rr ∧ Rr.length ≤ X.length ∧ Rr.length ≤ n ∧ (∀ i j, i < j → j < Rr.length → P i < P j) ∧
      (∀ i, i < Rr.length → P i < n ∧ leadN (Rr.getD i []) = ((P i : Nat) : Int) ∧ ∀ k, k < Rr.length → (Rr.getD k []).getD (P i) 0 = if k = i then 1 else 0) ∧ (∀ i, i < X.length → ∀ z, z ∈ leftL Rr (X.getD i []) Rr.length → z = 0) ∧
      vector_AddScaled.f (X.getD kk []) (X.getD k2 []) c = some (y, 0) ∧ (Z1 = if 1 < X.length then X.set kk y else X) ∧ vector_Scale.f (Z1.getD 0 []) c = some s ∧ (Z = if c = 0 then Z1 else Z1.set 0 s) ∧ Z.length = X.length ∧
      matrix_Reduce.f (X.drop kk ++ X.take kk) = some (Rr, 0) ∧ matrix_Reduce.f (X ++ [X.getD kk []]) = some (Rr, 0) ∧ matrix_Reduce.f Z = some (Rr, 0) ∧ matrix_Reduce.f Rr = some (Rr, 0) ∧ matrix_Same.f Rr Rr = some true ∧ matrix_Rank.f (Rr ++ X) = some ((Rr.length : Int), 0) := by
  obtain ⟨p, r1, r2, r3, r4⟩ := redRows_spec hX
  have cb : n < 140737488355328 := by omega
  have red : ∀ {L : List (List Int)}, Fits n L → L.length ≤ 12 → redRows L n = redRows X n → matrix_Reduce.f L = some (redRows X n, 0) := fun hL hl e => by
    rw [reduce_f hL (by omega) cb, e]
  have hgd : ∀ {i : Nat} (h : i < X.length), X.getD i [] = X[i] := fun h => by rw [List.getD_eq_getElem?_getD, List.getElem?_eq_getElem h, Option.getD_some]
  have hkX := hX _ (List.getElem_mem hk)
  have hjX := hX _ (List.getElem_mem hk2)
  have vb : (140737488355328 : Nat) ≤ vN ∨ 6 ≤ vN := Or.inr (by unfold vN; omega)
  have v6 : ∀ m, m ≤ 6 → m ≤ vN := fun m h => by unfold vN; omega
  have hy : vector_AddScaled.f (X.getD kk []) (X.getD k2 []) c = some (addS X[kk] X[k2] c, 0) := by
    rw [hgd hk, hgd hk2]
    unfold vector_AddScaled.f
    rw [if_pos (by rw [hkX.1, hjX.1]), if_pos ⟨v6 _ (by rw [hkX.1]; exact hn), hjX.2, hc⟩]; rfl
  obtain ⟨Z1, hZ1⟩ : ∃ Z1, Z1 = if 1 < X.length then X.set kk (addS X[kk] X[k2] c) else X := ⟨_, rfl⟩
  have hz : Fits n Z1 ∧ redRows Z1 n = redRows X n ∧ Z1.length = X.length := by
    rw [hZ1]
    by_cases b : 1 < X.length
    · rw [if_pos b]
      have := red_set_add hX hk hk2 (hne b) c
      exact ⟨this.1, this.2, List.length_set⟩
    · rw [if_neg b]; exact ⟨hX, rfl, rfl⟩
  have h0 : 0 < Z1.length := by rw [hz.2.2]; omega
  have hz0 : Z1.getD 0 [] = Z1[0] := by rw [List.getD_eq_getElem?_getD, List.getElem?_eq_getElem h0, Option.getD_some]
  have hzX := hz.1 _ (List.getElem_mem h0)
  have hs : vector_Scale.f (Z1.getD 0 []) c = some (Z1[0].map fun x => gm x c) := by
    rw [hz0]; unfold vector_Scale.f
    rw [if_pos ⟨v6 _ (by rw [hzX.1]; exact hn), hzX.2, hc⟩]
  obtain ⟨Z, hZ⟩ : ∃ Z, Z = if c = 0 then Z1 else Z1.set 0 (Z1[0].map fun x => gm x c) := ⟨_, rfl⟩
  have hzz : Fits n Z ∧ redRows Z n = redRows X n ∧ Z.length = X.length := by
    rw [hZ]
    by_cases b : c = 0
    · rw [if_pos b]; exact hz
    · rw [if_neg b]
      have := red_set_scale hz.1 h0 hc b
      exact ⟨this.1, this.2.trans hz.2.1, by rw [List.length_set]; exact hz.2.2⟩
  have hl0 := redRows_rank hX
  have hl1 := rk_le_cols (vecs_supp hX)
  have hkm : X.getD kk [] ∈ X := by rw [hgd hk]; exact List.getElem_mem hk
  refine ⟨redRows X n, fun i => p.getD i 0, _, _, Z1, Z, reduce_f hX (by omega) cb, r3, r4, by omega, fun i j hij hj => pget r1.inc hij (by rw [← r1.len, vecs_length]; exact hj), fun i hi => red_lead r3 r1 hi, fun i hi => ?_, hy, hZ1, hs, hZ, hzz.2.2, ?_, ?_, red hzz.1 (by omega) hzz.2.1, red r3 (by omega) (red_self hX), ?_, ?_⟩
  · rw [hgd hi]
    exact left_zero r3 r1 (hX _ (List.getElem_mem hi)) (r2.le _ (sp_of_mem (List.getElem_mem hi)))
  · exact red (fun r hr => (List.mem_append.1 hr).elim (fun q => hX r (List.mem_of_mem_drop q)) (fun q => hX r (List.mem_of_mem_take q))) (by simp; omega) (red_turned hX kk)
  · exact red (fun r hr => (List.mem_append.1 hr).elim (hX r) (fun q => by rw [List.mem_singleton.1 q]; exact hX _ hkm)) (by simp; omega) (red_twice hX hkm)
  · rw [same_f r3 r3 (by omega), decide_eq_true rfl]
  · rw [rank_f (n := n) (fun r hr => (List.mem_append.1 hr).elim (r3 r) (hX r)) (by simp; omega) cb, red_rank_both hX]
theorem form_calls (A0 : Option Addr) (c0 : Nat) (l0 : List Int) (l2 : List Int) (a2 a3 : Int) (w : World) (hr0 : Kd.C (Kd.int .u8) w A0 l0.length l0) (hc0 : l0.length ≤ c0)
    (w0 : ∀ y ∈ l0, (Lit.int .u8 y).wf = true) (h2 : l2.length = 2) (w2 : ∀ y ∈ l2, (Lit.int .u8 y).wf = true) (w3 : (Lit.int .u8 a2).wf = true) (w4 : (Lit.int .u8 a3).wf = true) :
    Calls Try.prog 6 #[.slice A0 l0.length c0, .agg (l2.map (Value.int .u8)).toArray, .int .u8 a2, .int .u8 a3] w fun e w' => e = .returned (.bool true) ∧ Below w.heap.size w w' := by
  match l2, h2 with
  | [s0, s1], _ =>
    have b0 := nonneg_of_wf (w2 s0 (by simp))
    have b1 := nonneg_of_wf (w2 s1 (by simp))
    have b2 := nonneg_of_wf w3
    have b3 := nonneg_of_wf w4
    obtain ⟨rows, r1, r6, hr⟩ := size_six s0 b0.1
    obtain ⟨cols, k1, k6, hc⟩ := size_six s1 b1.1
    obtain ⟨X, x1, x2, x3⟩ := shaped_f l0 (areB_of_wf w0) rows cols r6 k6 200 (by omega)
    subst x2
    obtain ⟨kk, hk, hkl, _⟩ := tmod_lt (n := X.length) b2.1 (by omega)
    rw [← wrap_small b2.1 b2.2] at hk
    have hwn := wrap_next (show kk < 6 by omega)
    obtain ⟨k2, hk2, hkl2, e2⟩ := tmod_lt (a := ((kk + 1 : Nat) : Int)) (n := X.length) (Int.natCast_nonneg _) (by omega)
    rw [← hwn] at hk2
    rw [Int.toNat_natCast] at e2
    obtain ⟨Rr, P, y, s, Z1, Z, f1, f2, f3, f4, f5, f6, f7, f8, f9, f10, f11, f12, f13, f14, f15, f16, f17, f18⟩ := form_plain x3 r6 k6 hkl hkl2 (fun b => by rw [e2]; exact next_ne hkl b) b3
    have g1 : ((Rr.length : Int) ≤ if (cols : Int) < (X.length : Int) then (cols : Int) else (X.length : Int)) := by split <;> omega
    have g2 : (if cols < X.length then (cols : Int) else (X.length : Int)) = if (cols : Int) < (X.length : Int) then (cols : Int) else (X.length : Int) := by
      by_cases q : cols < X.length
      · rw [if_pos q, if_pos (Int.ofNat_lt.2 q)]
      · rw [if_neg q, if_neg (by omega)]
    exact form_walk A0 c0 l0 s0 s1 a2 a3 w ⟨hr0⟩ ⟨hc0⟩ cols kk X Rr hk ⟨hkl⟩ hr hc ⟨r6, k6, f3⟩ ⟨x1⟩ ⟨x3⟩ ⟨f2⟩ ⟨f1⟩ _ rfl g2 (eq_false (by omega)) (eq_false (by omega)) (decide_eq_false (by omega)) P ⟨f5⟩ ⟨f6⟩ ⟨f7⟩
      k2 _ _ y _ s _ _ Z1 Z ⟨rfl⟩ ⟨rfl⟩ hk2 ⟨hkl2⟩ ⟨rfl⟩ ⟨rfl⟩ ⟨f8⟩ ⟨f9⟩ ⟨rfl⟩ ⟨f10⟩ ⟨f11⟩ ⟨f12⟩ ⟨f13⟩ ⟨f14⟩ ⟨f15⟩ ⟨f16⟩ ⟨f17⟩ ⟨f18⟩
end Go.Proofs.Ythlgmmgdaciinaa.Plain
