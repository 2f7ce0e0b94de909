/- QTB, part 17: HBasB HBasC HBasD. -/
import Derived.Test.YtpfaaljmefgpbaaQTB16
import Derived.WalkMore

section
set_option linter.unusedVariables false
set_option linter.unusedSimpArgs false
namespace Go.Proofs.Ytpfaaljmefgpbaa.Hand
open Go.RowKit Go.Proofs.YtpfaaljmefgpbaaW.PrintWords Go.Proofs.YtpfaaljmefgpbaaW.PrintLast Go.Proofs.YtpfaaljmefgpbaaW.PrintMore
set_option maxHeartbeats 4000000 in
set_option maxRecDepth 100000 in
theorem own_calls (A1 : Option Addr) (c1 : Nat) (a1 : List Int) (A2 : Option Addr) (c2 : Nat) (a2 : List Int) (w : World)
    (H1 : Aside0 (Kd.C (Kd.int .u8) w A1 a1.length a1)) (C1 : Aside0 (a1.length ≤ c1)) (H2 : Aside0 (Kd.C (Kd.int .u8) w A2 a2.length a2)) (C2 : Aside0 (a2.length ≤ c2)) (L1 : Aside0 (a1.length < 140737488355328)) (L2 : Aside0 (a2.length < 140737488355328)) :
    Calls Try.prog 25 #[.agg #[.slice A1 a1.length c1, .slice A2 a2.length c2]] w fun e w' => ∃ (A5 : Option Addr) (c5 : Nat) (A6 : Option Addr) (c6 : Nat), e = .returned (.agg #[.slice A5 a1.length c5, .slice A6 a2.length c6]) ∧ a1.length ≤ c5 ∧ a2.length ≤ c6 ∧ Kd.F (Kd.int .u8) w' (fun j => w.heap.size ≤ j) A5 a1.length a1 ∧ Kd.F (Kd.int .u8) w' (fun j => w.heap.size ≤ j) A6 a2.length a2 ∧ Below w.heap.size w w' := by
  go_enter Try.func25, Try.ntmps25
  go_upto_region 1 with fail
  have HB := Aside0.mk (show Below w.heap.size w ((w.alloc (.cells #[.slice A1 a1.length c1, .slice A2 a2.length c2] 35)).alloc (.cells #[.slice none 0 0, .slice none 0 0] 35)) from below_alloc (below_alloc (Below.refl _ _) _) _)
  have K1 := Aside0.mk (alloc_old (alloc_at w #[.slice A1 a1.length c1, .slice A2 a2.length c2] 35 rfl) (.cells #[.slice none 0 0, .slice none 0 0] 35))
  have K3 := Aside0.mk (alloc_at (w.alloc (.cells #[.slice A1 a1.length c1, .slice A2 a2.length c2] 35)) #[.slice none 0 0, .slice none 0 0] 35 (n := w.heap.size + 1) (by rw [alloc_size]))
  generalize (w.alloc (.cells #[.slice A1 a1.length c1, .slice A2 a2.length c2] 35)).alloc (.cells #[.slice none 0 0, .slice none 0 0] 35) = w1 at HB K1 K3 ⊢
  have HS := Aside0.mk (show w.heap.size + 1 < w1.heap.size from WorkIs.heap_lt' K3.out)
  have HB1 := Aside0.mk (Below.refl w1.heap.size w1)
  replace H1 := Aside0.mk (Kd.C_below H1.out HB.out)
  replace H2 := Aside0.mk (Kd.C_below H2.out HB.out)
  have x1 := box0 K1.out
  have x2 := box1 K1.out
  clear K1
  refine start_ (n := 8) (S := fun w' => w'.cell? ⟨w.heap.size, 0, none⟩ = some (.slice A1 a1.length c1) ∧ w'.cell? ⟨w.heap.size, 1, none⟩ = some (.slice A2 a2.length c2)) (ds := [7]) #[false, false, false, false, false, false, false, false] (by kernel_rfl) rfl rfl ⟨(by simpa using x1), (by simpa using x2)⟩ (fun hHeld => ?_)
  have hb := below_drew (Below.refl w1.heap.size w1)
  replace H1 := Aside0.mk (Kd.C_below H1.out hb)
  replace H2 := Aside0.mk (Kd.C_below H2.out hb)
  replace K3 := box_step K3 hb
  replace HB1 := Aside0.mk hb
  clear hb x1 x2
  generalize w1.drew = wd at H1 H2 K3 HB1 hHeld ⊢
  refine pure_ (i := 0) (N := some 3) (v := ?_) (a' := ?_) #[true, false, false, false, false, false, false, false] rfl rfl (by kernel_rfl) (fun _ _ _ h => h) (Or.inl ⟨by rfl, ?_⟩) ?_ ?_
  rotate_left
  · intro w'
    go_simp
    with_reducible rfl
  rotate_left
  · simp only [Act.put, List.setIfInBounds_toArray, List.set_cons_zero, List.set_cons_succ, i64_w, i32_w]
    rfl
  refine pure_ (i := 3) (N := some 6) (v := ?_) (a' := ?_) #[true, false, false, true, false, false, false, false] rfl rfl (by kernel_rfl) (fun _ _ _ h => h) (Or.inl ⟨by rfl, ?_⟩) ?_ ?_
  rotate_left
  · intro w'
    go_simp
    with_reducible rfl
  rotate_left
  · simp only [Act.put, List.setIfInBounds_toArray, List.set_cons_zero, List.set_cons_succ, i64_w, i32_w]
    rfl
  refine take_ (i := 1) (N := some 4) (v := ?_) (a' := ?_) #[true, true, false, true, false, false, false, false] rfl rfl (by kernel_rfl) (fun _ _ _ h => h) (Or.inl ⟨by rfl, ?_⟩) hHeld ?_ ?_
  rotate_left
  · rintro w' ⟨s0, s1⟩
    go_simp
    with_reducible rfl
  rotate_left
  · simp only [Act.put, List.setIfInBounds_toArray, List.set_cons_zero, List.set_cons_succ, i64_w, i32_w]
    rfl
  refine take_ (i := 4) (N := some 7) (v := ?_) (a' := ?_) #[true, true, false, true, true, false, false, false] rfl rfl (by kernel_rfl) (fun _ _ _ h => h) (Or.inl ⟨by rfl, ?_⟩) hHeld ?_ ?_
  rotate_left
  · rintro w' ⟨s0, s1⟩
    go_simp
    with_reducible rfl
  rotate_left
  · simp only [Act.put, List.setIfInBounds_toArray, List.set_cons_zero, List.set_cons_succ, i64_w, i32_w]
    rfl
  refine one_ (i := 2) (N := some 5) #[true, true, true, true, true, false, false, false] rfl rfl (by kernel_rfl) (by decide) (fun K hK => ?_)
  refine goes_ Try.func36 (by kernel_rfl) rfl #[.slice A1 a1.length c1] (by rfl) rfl rfl (by simp only [List.map_toArray, List.map_cons, List.map_nil]; rfl) ?_
  with_reducible refine (bytes_Clone.calls A1 c1 a1 a1 _ H1.out C1.out (by unfold bytes_Clone.f; rw [if_pos L1.out])).mono ?_
  rintro e w2 ⟨v_, rfl, hR, hb⟩
  refine ⟨_, rfl, ?_⟩
  obtain ⟨A5, c5, rfl, hl, hf⟩ := new_F hR
  have L5 := Aside0.mk hl
  have F5 := Aside0.mk (Kd.F_mono hf (fun j hj => Nat.le_trans HB1.out.size hj))
  clear hl hf hR
  replace H2 := Aside0.mk (Kd.C_below H2.out hb)
  replace HB1 := Aside0.mk (HB1.out.trans (hb.mono HB1.out.size))
  replace K3 := box_step K3 hb
  refine hK.out _ _ ⟨((hb.cell (World.block_lt_of_cell? _ _ hHeld.1)).trans hHeld.1), ((hb.cell (World.block_lt_of_cell? _ _ hHeld.2)).trans hHeld.2)⟩ (fun hHeld => ?_)
  clear hK K
  refine norm_ (a' := ?_) ?_ ?_
  rotate_left
  · show Act.put _ (some 5) _ = _
    simp only [Act.put, List.setIfInBounds_toArray, List.set_cons_zero, List.set_cons_succ, i64_w, i32_w]
    rfl
  refine one_ (i := 5) (N := some 8) #[true, true, true, true, true, true, false, false] rfl rfl (by kernel_rfl) (by decide) (fun K hK => ?_)
  refine goes_ Try.func36 (by kernel_rfl) rfl #[.slice A2 a2.length c2] (by rfl) rfl rfl (by simp only [List.map_toArray, List.map_cons, List.map_nil]; rfl) ?_
  with_reducible refine (bytes_Clone.calls A2 c2 a2 a2 _ H2.out C2.out (by unfold bytes_Clone.f; rw [if_pos L2.out])).mono ?_
  rintro e w3 ⟨v_, rfl, hR, hb⟩
  refine ⟨_, rfl, ?_⟩
  obtain ⟨A6, c6, rfl, hl, hf⟩ := new_F hR
  have L6 := Aside0.mk hl
  have F6 := Aside0.mk (Kd.F_mono hf (fun j hj => Nat.le_trans HB1.out.size hj))
  clear hl hf hR
  replace F5 := Aside0.mk (Kd.F_below F5.out hb)
  replace HB1 := Aside0.mk (HB1.out.trans (hb.mono HB1.out.size))
  replace K3 := box_step K3 hb
  refine hK.out _ _ ⟨((hb.cell (World.block_lt_of_cell? _ _ hHeld.1)).trans hHeld.1), ((hb.cell (World.block_lt_of_cell? _ _ hHeld.2)).trans hHeld.2)⟩ (fun hHeld => ?_)
  clear hK K
  refine norm_ (a' := ?_) ?_ ?_
  rotate_left
  · show Act.put _ (some 8) _ = _
    simp only [Act.put, List.setIfInBounds_toArray, List.set_cons_zero, List.set_cons_succ, i64_w, i32_w]
    rfl
  refine pure_ (i := 6) (N := some 9) (v := ?_) (a' := ?_) #[true, true, true, true, true, true, true, false] rfl rfl (by kernel_rfl) (fun _ _ _ h => h) (Or.inl ⟨by rfl, ?_⟩) ?_ ?_
  rotate_left
  · intro w'
    go_simp
    with_reducible rfl
  rotate_left
  · simp only [Act.put, List.setIfInBounds_toArray, List.set_cons_zero, List.set_cons_succ, i64_w, i32_w]
    rfl
  have y0 := box0 K3.out
  have y1 := box1 K3.out
  have z0 := boxF K3.out 0
  have z1 := boxF K3.out 1
  refine last_ (i := 7) (N := none) #[true, true, true, true, true, true, true, true] rfl rfl (by kernel_rfl) (by decide) (fun K hK => ?_)
  refine skip_ (w1 := ?_) (by rfl) rfl ?_ ?_
  rotate_left
  · go_simp
    rfl
  refine hK.out _ _ ?_
  clear hK K
  refine done_ (by kernel_rfl) ?_
  clear y0 y1 z0 z1
  have hfar : ∀ j, w1.heap.size ≤ j → j ≠ w.heap.size + 1 := fun j hj => by have := HS.out; omega
  replace F5 := Aside0.mk (Kd.F_far (Kd.F_far F5.out (p := ⟨w.heap.size + 1, 0, none⟩) hfar (.slice A5 a1.length c5)) (p := ⟨w.heap.size + 1, 1, none⟩) hfar (.slice A6 a2.length c6))
  replace F6 := Aside0.mk (Kd.F_far (Kd.F_far F6.out (p := ⟨w.heap.size + 1, 0, none⟩) hfar (.slice A5 a1.length c5)) (p := ⟨w.heap.size + 1, 1, none⟩) hfar (.slice A6 a2.length c6))
  replace K3 := Aside0.mk (box_set (u' := .slice A5 a1.length c5) (v' := .slice A6 a2.length c6) K3.out)
  replace HB := Aside0.mk (((HB.out.trans (HB1.out.mono HB.out.size)).setCell (p := ⟨w.heap.size + 1, 0, none⟩) (show w.heap.size ≤ w.heap.size + 1 by omega) (.slice A5 a1.length c5)).setCell (p := ⟨w.heap.size + 1, 1, none⟩) (show w.heap.size ≤ w.heap.size + 1 by omega) (.slice A6 a2.length c6))
  generalize ((w3.setCell ⟨w.heap.size + 1, 0, none⟩ (.slice A5 a1.length c5)).setCell ⟨w.heap.size + 1, 1, none⟩ (.slice A6 a2.length c6)) = w4 at F5 F6 K3 HB ⊢
  have hmo : ∀ j, w1.heap.size ≤ j → w.heap.size ≤ j := fun j hj => by have := HS.out; omega
  go_wp2
  (try simp only [Exit.inBlock, Exit.then])
  refine bodyPost_ret (results_cell_row rfl _ _ (w.heap.size + 1) 35 #[.slice A5 a1.length c5, .slice A6 a2.length c6] (0, 0) _ rfl K3.out Try.underlying35 rfl infoBS) rfl ?_
  exact ⟨A5, c5, A6, c6, rfl, L5.out, L6.out, Kd.F_mono F5.out hmo, Kd.F_mono F6.out hmo, HB.out⟩
set_option maxHeartbeats 4000000 in
set_option maxRecDepth 100000 in
theorem step_calls (B : Nat) (ad : Addr) (c1 : Nat) (a1 : List Int) (A2 : Option Addr) (c2 : Nat) (a2 : List Int) (A3 : Option Addr) (c3 : Nat) (b1 : List Int) (A4 : Option Addr) (c4 : Nat) (b2 : List Int) (i : Nat) (k : Int) (r1 r2 : List Int) (w : World)
    (KB : Aside0 (w.heap[B]? = some (.cells #[.slice (some ad) a1.length c1, .slice A2 a2.length c2] 35 (0, 0))))
    (H1 : Aside0 (Kd.C (Kd.int .u8) w (some ad) a1.length a1)) (C1 : Aside0 (a1.length ≤ c1)) (H2 : Aside0 (Kd.C (Kd.int .u8) w A2 a2.length a2)) (C2 : Aside0 (a2.length ≤ c2)) (H3 : Aside0 (Kd.C (Kd.int .u8) w A3 b1.length b1)) (C3 : Aside0 (b1.length ≤ c3)) (H4 : Aside0 (Kd.C (Kd.int .u8) w A4 b2.length b2)) (C4 : Aside0 (b2.length ≤ c4))
    (EL : Aside0 (vector_Lead.f b1 = some (i : Int))) (hi : i < a1.length) (hx : w.cell? (ad.add i) = some (.int .u8 k)) (E1 : Aside0 (vector_AddScaled.f a1 b1 k = some (r1, 0))) (E2 : Aside0 (vector_AddScaled.f a2 b2 k = some (r2, 0))) :
    Calls Try.prog 48 #[.agg #[.slice A3 b1.length c3, .slice A4 b2.length c4], .pointer (some ⟨B, 0, none⟩)] w fun e w' => ∃ (A5 : Option Addr) (c5 : Nat) (A6 : Option Addr) (c6 : Nat), e = .returned (.tuple #[]) ∧ w'.heap[B]? = some (.cells #[.slice A5 r1.length c5, .slice A6 r2.length c6] 35 (0, 0)) ∧ r1.length ≤ c5 ∧ r2.length ≤ c6 ∧ Kd.F (Kd.int .u8) w' (fun j => w.heap.size ≤ j) A5 r1.length r1 ∧ Kd.F (Kd.int .u8) w' (fun j => w.heap.size ≤ j) A6 r2.length r2 ∧ (∀ base, base ≤ B → Below base w w') ∧ ∀ k, k < w.heap.size → k ≠ B → w'.heap[k]? = w.heap[k]? := by
  have hBlt := WorkIs.heap_lt' KB.out
  have p4 := eq_true (Int.natCast_nonneg i)
  have p5 := eq_true (Int.ofNat_lt.2 hi)
  have p6 := eq_true hi
  go_enter Try.func48, Try.ntmps48
  go_upto_region 1 with fail
  have HB := Aside0.mk (show Below w.heap.size w (w.alloc (.cells #[.slice A3 b1.length c3, .slice A4 b2.length c4] 35)) from below_alloc (Below.refl _ _) _)
  have K2 := Aside0.mk (alloc_at w #[.slice A3 b1.length c3, .slice A4 b2.length c4] 35 rfl)
  generalize w.alloc (.cells #[.slice A3 b1.length c3, .slice A4 b2.length c4] 35) = w1 at HB K2 ⊢
  have HB1 := Aside0.mk (Below.refl w1.heap.size w1)
  have x5 := (HB.out.cell (World.block_lt_of_cell? _ _ hx)).trans hx
  replace H1 := Aside0.mk (Kd.C_below H1.out HB.out)
  replace H2 := Aside0.mk (Kd.C_below H2.out HB.out)
  replace H3 := Aside0.mk (Kd.C_below H3.out HB.out)
  replace H4 := Aside0.mk (Kd.C_below H4.out HB.out)
  replace KB := box_step KB HB.out
  have x1 := box0 KB.out
  have x2 := box1 KB.out
  have x3 := box0 K2.out
  have x4 := box1 K2.out
  clear K2 hx hi
  refine start_ (n := 11) (S := fun w' => w'.cell? ⟨B, 0, none⟩ = some (.slice (some ad) a1.length c1) ∧ w'.cell? ⟨B, 1, none⟩ = some (.slice A2 a2.length c2) ∧ w'.cell? ⟨w.heap.size, 0, none⟩ = some (.slice A3 b1.length c3) ∧ w'.cell? ⟨w.heap.size, 1, none⟩ = some (.slice A4 b2.length c4) ∧ w'.cell? (ad.add i) = some (.int .u8 k)) (ds := [10]) #[false, false, false, false, false, false, false, false, false, false, false] (by kernel_rfl) rfl rfl ⟨(by simpa using x1), (by simpa using x2), (by simpa using x3), (by simpa using x4), (by simpa using x5)⟩ (fun hHeld => ?_)
  have hb := below_drew (Below.refl w1.heap.size w1)
  replace H1 := Aside0.mk (Kd.C_below H1.out hb)
  replace H2 := Aside0.mk (Kd.C_below H2.out hb)
  replace H3 := Aside0.mk (Kd.C_below H3.out hb)
  replace H4 := Aside0.mk (Kd.C_below H4.out hb)
  replace KB := box_step KB hb
  replace HB1 := Aside0.mk hb
  clear hb x1 x2 x3 x4
  generalize w1.drew = wd at H1 H2 H3 H4 KB HB1 hHeld ⊢
  refine pure_ (i := 2) (N := some 5) (v := ?_) (a' := ?_) #[false, false, true, false, false, false, false, false, false, false, false] rfl rfl (by kernel_rfl) (fun _ _ _ h => h) (Or.inl ⟨by rfl, ?_⟩) ?_ ?_
  rotate_left
  · intro w'
    go_simp
    with_reducible rfl
  rotate_left
  · simp only [Act.put, List.setIfInBounds_toArray, List.set_cons_zero, List.set_cons_succ, i64_w, i32_w]
    rfl
  refine pure_ (i := 4) (N := some 7) (v := ?_) (a' := ?_) #[false, false, true, false, true, false, false, false, false, false, false] rfl rfl (by kernel_rfl) (fun _ _ _ h => h) (Or.inl ⟨by rfl, ?_⟩) ?_ ?_
  rotate_left
  · intro w'
    go_simp
    with_reducible rfl
  rotate_left
  · simp only [Act.put, List.setIfInBounds_toArray, List.set_cons_zero, List.set_cons_succ, i64_w, i32_w]
    rfl
  refine take_ (i := 0) (N := some 3) (v := ?_) (a' := ?_) #[true, false, true, false, true, false, false, false, false, false, false] rfl rfl (by kernel_rfl) (fun _ _ _ h => h) (Or.inl ⟨by rfl, ?_⟩) hHeld ?_ ?_
  rotate_left
  · rintro w' ⟨s0, s1, s2, s3, s4⟩
    go_simp
    with_reducible rfl
  rotate_left
  · simp only [Act.put, List.setIfInBounds_toArray, List.set_cons_zero, List.set_cons_succ, i64_w, i32_w]
    rfl
  refine take_ (i := 1) (N := some 4) (v := ?_) (a' := ?_) #[true, true, true, false, true, false, false, false, false, false, false] rfl rfl (by kernel_rfl) (fun _ _ _ h => h) (Or.inl ⟨by rfl, ?_⟩) hHeld ?_ ?_
  rotate_left
  · rintro w' ⟨s0, s1, s2, s3, s4⟩
    go_simp
    with_reducible rfl
  rotate_left
  · simp only [Act.put, List.setIfInBounds_toArray, List.set_cons_zero, List.set_cons_succ, i64_w, i32_w]
    rfl
  refine take_ (i := 3) (N := some 6) (v := ?_) (a' := ?_) #[true, true, true, true, true, false, false, false, false, false, false] rfl rfl (by kernel_rfl) (fun _ _ _ h => h) (Or.inl ⟨by rfl, ?_⟩) hHeld ?_ ?_
  rotate_left
  · rintro w' ⟨s0, s1, s2, s3, s4⟩
    go_simp
    with_reducible rfl
  rotate_left
  · simp only [Act.put, List.setIfInBounds_toArray, List.set_cons_zero, List.set_cons_succ, i64_w, i32_w]
    rfl
  refine take_ (i := 5) (N := some 8) (v := ?_) (a' := ?_) #[true, true, true, true, true, true, false, false, false, false, false] rfl rfl (by kernel_rfl) (fun _ _ _ h => h) (Or.inl ⟨by rfl, ?_⟩) hHeld ?_ ?_
  rotate_left
  · rintro w' ⟨s0, s1, s2, s3, s4⟩
    go_simp
    with_reducible rfl
  rotate_left
  · simp only [Act.put, List.setIfInBounds_toArray, List.set_cons_zero, List.set_cons_succ, i64_w, i32_w]
    rfl
  refine one_ (i := 6) (N := some 9) #[true, true, true, true, true, true, true, false, false, false, false] rfl rfl (by kernel_rfl) (by decide) (fun K hK => ?_)
  refine goes_ Try.func21 (by kernel_rfl) rfl #[.slice A3 b1.length c3] (by rfl) rfl rfl (by simp only [List.map_toArray, List.map_cons, List.map_nil]; rfl) ?_
  with_reducible refine (vector_Lead.calls A3 c3 b1 (i : Int) _ H3.out C3.out EL.out).mono ?_
  rintro e w2 ⟨rfl, hd⟩
  have hb := drawn_below hd
  refine ⟨_, rfl, ?_⟩
  clear hd
  replace H1 := Aside0.mk (Kd.C_below H1.out hb)
  replace H2 := Aside0.mk (Kd.C_below H2.out hb)
  replace H3 := Aside0.mk (Kd.C_below H3.out hb)
  replace H4 := Aside0.mk (Kd.C_below H4.out hb)
  replace KB := box_step KB hb
  replace HB1 := Aside0.mk (HB1.out.trans (hb.mono HB1.out.size))
  refine hK.out _ _ ⟨((hb.cell (World.block_lt_of_cell? _ _ hHeld.1)).trans hHeld.1), ((hb.cell (World.block_lt_of_cell? _ _ hHeld.2.1)).trans hHeld.2.1), ((hb.cell (World.block_lt_of_cell? _ _ hHeld.2.2.1)).trans hHeld.2.2.1), ((hb.cell (World.block_lt_of_cell? _ _ hHeld.2.2.2.1)).trans hHeld.2.2.2.1), ((hb.cell (World.block_lt_of_cell? _ _ hHeld.2.2.2.2)).trans hHeld.2.2.2.2)⟩ (fun hHeld => ?_)
  clear hK K
  refine norm_ (a' := ?_) ?_ ?_
  rotate_left
  · show Act.put _ (some 9) _ = _
    simp only [Act.put, List.setIfInBounds_toArray, List.set_cons_zero, List.set_cons_succ, i64_w, i32_w]
    rfl
  refine pure_ (i := 7) (N := some 10) (v := ?_) (a' := ?_) #[true, true, true, true, true, true, true, true, false, false, false] rfl rfl (by kernel_rfl) (fun _ _ _ h => h) (Or.inl ⟨by rfl, ?_⟩) ?_ ?_
  rotate_left
  · intro w'
    go_simp
    with_reducible rfl
  rotate_left
  · simp only [Act.put, List.setIfInBounds_toArray, List.set_cons_zero, List.set_cons_succ, i64_w, i32_w]
    rfl
  refine take_ (i := 8) (N := some 11) (v := ?_) (a' := ?_) #[true, true, true, true, true, true, true, true, true, false, false] rfl rfl (by kernel_rfl) (fun _ _ _ h => h) (Or.inl ⟨by rfl, ?_⟩) hHeld ?_ ?_
  rotate_left
  · rintro w' ⟨s0, s1, s2, s3, s4⟩
    go_simp
    with_reducible rfl
  rotate_left
  · simp only [Act.put, List.setIfInBounds_toArray, List.set_cons_zero, List.set_cons_succ, i64_w, i32_w]
    rfl
  refine one_ (i := 9) (N := some 12) #[true, true, true, true, true, true, true, true, true, true, false] rfl rfl (by kernel_rfl) (by decide) (fun K hK => ?_)
  refine goes_ Try.func29 (by kernel_rfl) rfl #[.agg #[.slice (some ad) a1.length c1, .slice A2 a2.length c2], .agg #[.slice A3 b1.length c3, .slice A4 b2.length c4], .int .u8 k] (by rfl) rfl rfl (by simp only [List.map_toArray, List.map_cons, List.map_nil]; rfl) ?_
  with_reducible refine (plus_calls (some ad) c1 a1 A2 c2 a2 A3 c3 b1 A4 c4 b2 k r1 r2 _ H1 C1 H2 C2 H3 C3 H4 C4 E1 E2).mono ?_
  rintro e w3 ⟨A5, c5, A6, c6, rfl, hl5, hl6, hf5, hf6, hb⟩
  refine ⟨_, rfl, ?_⟩
  have L5 := Aside0.mk hl5
  have L6 := Aside0.mk hl6
  have F5 := Aside0.mk (Kd.F_mono hf5 (fun j hj => Nat.le_trans HB1.out.size hj))
  have F6 := Aside0.mk (Kd.F_mono hf6 (fun j hj => Nat.le_trans HB1.out.size hj))
  clear hl5 hl6 hf5 hf6
  replace KB := box_step KB hb
  replace HB1 := Aside0.mk (HB1.out.trans (hb.mono HB1.out.size))
  refine hK.out _ _ ⟨((hb.cell (World.block_lt_of_cell? _ _ hHeld.1)).trans hHeld.1), ((hb.cell (World.block_lt_of_cell? _ _ hHeld.2.1)).trans hHeld.2.1), ((hb.cell (World.block_lt_of_cell? _ _ hHeld.2.2.1)).trans hHeld.2.2.1), ((hb.cell (World.block_lt_of_cell? _ _ hHeld.2.2.2.1)).trans hHeld.2.2.2.1), ((hb.cell (World.block_lt_of_cell? _ _ hHeld.2.2.2.2)).trans hHeld.2.2.2.2)⟩ (fun hHeld => ?_)
  clear hK K
  refine norm_ (a' := ?_) ?_ ?_
  rotate_left
  · show Act.put _ (some 12) _ = _
    simp only [Act.put, List.setIfInBounds_toArray, List.set_cons_zero, List.set_cons_succ, i64_w, i32_w]
    rfl
  have y0 := box0 KB.out
  have y1 := box1 KB.out
  have z0 := boxF KB.out 0
  have z1 := boxF KB.out 1
  refine last_ (i := 10) (N := none) #[true, true, true, true, true, true, true, true, true, true, true] rfl rfl (by kernel_rfl) (by decide) (fun K hK => ?_)
  refine skip_ (w1 := ?_) (by rfl) rfl ?_ ?_
  rotate_left
  · go_simp
    rfl
  refine hK.out _ _ ?_
  clear hK K
  refine done_ (by kernel_rfl) ?_
  clear y0 y1 z0 z1
  have hfar : ∀ j, w1.heap.size ≤ j → j ≠ B := fun j hj => by have := HB.out.size; omega
  replace F5 := Aside0.mk (Kd.F_far (Kd.F_far F5.out (p := ⟨B, 0, none⟩) hfar (.slice A5 r1.length c5)) (p := ⟨B, 1, none⟩) hfar (.slice A6 r2.length c6))
  replace F6 := Aside0.mk (Kd.F_far (Kd.F_far F6.out (p := ⟨B, 0, none⟩) hfar (.slice A5 r1.length c5)) (p := ⟨B, 1, none⟩) hfar (.slice A6 r2.length c6))
  replace KB := Aside0.mk (box_set (u' := .slice A5 r1.length c5) (v' := .slice A6 r2.length c6) KB.out)
  have HA := Aside0.mk (show ∀ base, base ≤ B → Below base w ((w3.setCell ⟨B, 0, none⟩ (.slice A5 r1.length c5)).setCell ⟨B, 1, none⟩ (.slice A6 r2.length c6)) from fun base hb => ((((HB.out.trans (HB1.out.mono HB.out.size))).mono (by omega)).setCell (p := ⟨B, 0, none⟩) hb (.slice A5 r1.length c5)).setCell (p := ⟨B, 1, none⟩) hb (.slice A6 r2.length c6))
  have HO := Aside0.mk (show ∀ k, k < w.heap.size → k ≠ B → ((w3.setCell ⟨B, 0, none⟩ (.slice A5 r1.length c5)).setCell ⟨B, 1, none⟩ (.slice A6 r2.length c6)).heap[k]? = w.heap[k]? from fun k hk hne => (Below.heap_setCell _ ⟨B, 1, none⟩ _ k hne).trans ((Below.heap_setCell _ ⟨B, 0, none⟩ _ k hne).trans ((HB.out.trans (HB1.out.mono HB.out.size)).block k hk)))
  generalize ((w3.setCell ⟨B, 0, none⟩ (.slice A5 r1.length c5)).setCell ⟨B, 1, none⟩ (.slice A6 r2.length c6)) = w4 at F5 F6 KB HA HO ⊢
  have hmo : ∀ j, w1.heap.size ≤ j → w.heap.size ≤ j := fun j hj => Nat.le_trans HB.out.size hj
  go_wp2
  go_end0
  exact ⟨A5, c5, A6, c6, rfl, KB.out, L5.out, L6.out, Kd.F_mono F5.out hmo, Kd.F_mono F6.out hmo, HA.out, HO.out⟩
end Go.Proofs.Ytpfaaljmefgpbaa.Hand
end

section
set_option linter.unusedVariables false
set_option linter.unusedSimpArgs false
namespace Go.Proofs.Ytpfaaljmefgpbaa.Hand
open Go.RowKit Go.Proofs.YtpfaaljmefgpbaaW.PrintWords Go.Proofs.YtpfaaljmefgpbaaW.PrintLast Go.Proofs.YtpfaaljmefgpbaaW.PrintMore
structure BasisIs (W : World) (B : Nat) (g s : Nat) (A : Option Addr) (c : Nat) (R : List (List Int × List Int)) : Prop where
  blk : W.heap[B]? = some (.cells #[.int .i64 (g : Int), .int .i64 (s : Int), .slice A R.length c] 51 (0, 0))
  cap : R.length ≤ c
  rows : Kd.F brK W (fun k => k ≠ B) A R.length R
  at0 : 0 < R.length → ∃ g, A = some ⟨g, 0, none⟩
theorem BasisIs.step {W W' : World} {B g s c : Nat} {A : Option Addr} {R : List (List Int × List Int)} (h : BasisIs W B g s A c R) (hb : Below W.heap.size W W') : BasisIs W' B g s A c R :=
  ⟨(hb.block B (WorkIs.heap_lt' h.blk)).trans h.blk, h.cap, Kd.F_below h.rows hb, h.at0⟩
theorem BasisIs.c0 {W : World} {B g s c : Nat} {A : Option Addr} {R : List (List Int × List Int)} (h : BasisIs W B g s A c R) : W.cell? ⟨B, 0, none⟩ = some (.int .i64 (g : Int)) := by simp [World.cell?, h.blk]
theorem BasisIs.c1 {W : World} {B g s c : Nat} {A : Option Addr} {R : List (List Int × List Int)} (h : BasisIs W B g s A c R) : W.cell? ⟨B, 1, none⟩ = some (.int .i64 (s : Int)) := by simp [World.cell?, h.blk]
theorem BasisIs.c2 {W : World} {B g s c : Nat} {A : Option Addr} {R : List (List Int × List Int)} (h : BasisIs W B g s A c R) : W.cell? ⟨B, 2, none⟩ = some (.slice A R.length c) := by simp [World.cell?, h.blk]
theorem BasisIs.row {W : World} {B g s c : Nat} {A : Option Addr} {R : List (List Int × List Int)} (h : BasisIs W B g s A c R) {i : Nat} (hi : i < R.length) : ∃ (gb : Nat) (A1 : Option Addr) (c1 : Nat) (A2 : Option Addr) (c2 : Nat), A = some ⟨gb, 0, none⟩ ∧ W.cell? ⟨gb, i * 2, none⟩ = some (.slice A1 R[i].1.length c1) ∧ W.cell? ⟨gb, i * 2 + 1, none⟩ = some (.slice A2 R[i].2.length c2) ∧ R[i].1.length ≤ c1 ∧ R[i].2.length ≤ c2 ∧ Kd.F (Kd.int .u8) W (fun k => k ≠ B) A1 R[i].1.length R[i].1 ∧ Kd.F (Kd.int .u8) W (fun k => k ≠ B) A2 R[i].2.length R[i].2 := by
  obtain ⟨gb, hgb⟩ := h.at0 (by omega)
  obtain ⟨ad, hA, hc⟩ := (Kd.F_rows h.rows).2.2 (by omega)
  rw [hgb] at hA
  injection hA with hA
  subst hA
  obtain ⟨cs, h1, h2, h3⟩ := hc i R[i] (List.getElem?_eq_getElem hi)
  obtain ⟨A1, c1, A2, c2, rfl, k1, k2, f1, f2⟩ := br_open h2
  refine ⟨gb, A1, c1, A2, c2, hgb, ?_, ?_, k1, k2, f1, f2⟩
  · have := h3 0 _ rfl
    rw [Addr.add_lit, show brK.sz = 2 from rfl, Nat.zero_add, Nat.add_zero] at this
    exact this
  · have := h3 1 _ rfl
    rw [Addr.add_lit, show brK.sz = 2 from rfl, Nat.zero_add] at this
    exact this
def redP (R : List (List Int × List Int)) (r : List Int × List Int) : Nat → List Int × List Int
  | 0 => r
  | k + 1 => (addS (redP R r k).1 (R.getD k ([], [])).1 ((redP R r k).1.getD (leadN (R.getD k ([], [])).1).toNat 0), addS (redP R r k).2 (R.getD k ([], [])).2 ((redP R r k).1.getD (leadN (R.getD k ([], [])).1).toNat 0))
theorem as_f {a b : List Int} {c : Int} (hl : a.length = b.length) (hn : a.length ≤ vN) (hb : areB b) (hc : isB c) : vector_AddScaled.f a b c = some (addS a b c, 0) := by
  unfold vector_AddScaled.f
  rw [if_pos hl, if_pos ⟨hn, hb, hc⟩]
  rfl
def RowsOk (n m : Nat) (R : List (List Int × List Int)) : Prop := ∀ x ∈ R, (x.1.length = n ∧ areB x.1) ∧ (x.2.length = m ∧ areB x.2) ∧ ∃ p : Nat, p < n ∧ leadN x.1 = (p : Int)
theorem redP_ok {n m : Nat} {R : List (List Int × List Int)} (hR : RowsOk n m R) {r : List Int × List Int} (h1 : r.1.length = n ∧ areB r.1) (h2 : r.2.length = m ∧ areB r.2) : ∀ k, k ≤ R.length → ((redP R r k).1.length = n ∧ areB (redP R r k).1) ∧ ((redP R r k).2.length = m ∧ areB (redP R r k).2)
  | 0, _ => ⟨h1, h2⟩
  | k + 1, h => by
    obtain ⟨k1, k2⟩ := redP_ok hR h1 h2 k (by omega)
    have hm := hR _ (List.getElem_mem (show k < R.length by omega))
    have e : R.getD k ([], []) = R[k] := by rw [List.getD_eq_getElem?_getD, List.getElem?_eq_getElem (show k < R.length by omega)]; rfl
    show (((addS _ _ _).length = n ∧ _) ∧ _)
    rw [← e] at hm
    exact ⟨addS_fits k1.1 hm.1.1 _, addS_fits k2.1 hm.2.1.1 _⟩
set_option maxHeartbeats 4000000 in
set_option maxRecDepth 100000 in
theorem madeB_calls (W : World) (B g s : Nat) (A : Option Addr) (c : Nat) (R : List (List Int × List Int)) (h : BasisIs W B g s A c R) (hg : 0 < g) :
    Calls Try.prog 23 #[.pointer (some ⟨B, 0, none⟩)] W fun e W' => e = .returned (.bool true) ∧ W' = W := by
  have x0 := h.c0
  have q1 : decide ((0 : Int) < (g : Int)) = true := decide_eq_true (by omega)
  go_enter Try.func23, Try.ntmps23
  go_wp2
  go_ret
  exact ⟨rfl, rfl⟩
set_option maxHeartbeats 4000000 in
set_option maxRecDepth 100000 in
theorem rankB_calls (W : World) (B g s : Nat) (A : Option Addr) (c : Nat) (R : List (List Int × List Int)) (h : BasisIs W B g s A c R) (hg : 0 < g) :
    Calls Try.prog 12 #[.pointer (some ⟨B, 0, none⟩)] W fun e W' => e = .returned (.int .i64 (R.length : Int)) ∧ W' = W := by
  have x2 := h.c2
  have HM := Aside0.mk (madeB_calls W B g s A c R h hg)
  go_enter Try.func12, Try.ntmps12
  go_wp2_with (go_at_call 23; with_reducible refine HM.out.mono ?_; rintro e w1 ⟨rfl, rfl⟩)
  go_ret
  exact ⟨rfl, rfl⟩
theorem bas_next (k : Nat) (h : k ≤ 1000000000) : wrap64 ((k : Int) + 1) = ((k + 1 : Nat) : Int) := by unfold wrap64; omega
set_option maxHeartbeats 4000000 in
set_option maxRecDepth 100000 in
theorem place_calls (W : World) (B g s : Nat) (A : Option Addr) (c : Nat) (R : List (List Int × List Int)) (H : Aside0 (BasisIs W B g s A c R)) (n m : Nat) (HR : Aside0 (RowsOk n m R)) (hn : n < 1000) (hRl : Aside0 (R.length < 1000)) (lead : Int) :
    Calls Try.prog 31 #[.pointer (some ⟨B, 0, none⟩), .int .i64 lead] W fun e W' => e = .returned (.int .i64 ((R.findIdx (fun x => decide (leadN x.1 > lead)) : Nat) : Int)) ∧ Below W.heap.size W W' := by
  go_enter Try.func31, Try.ntmps31
  go_wp2
  go_step3
  go_wp2
  go_step3
  go_wp2
  go_loopg [5] R.length (fun kq v5 w' => ∃ i : Nat, v5 = .int .i64 (i : Int) ∧ Aside0 (kq + i = R.length) ∧ Aside0 (∀ j (q : j < R.length), j < i → ¬ leadN R[j].1 > lead) ∧ Aside0 (Below W.heap.size W w'))
  case atStart => exact ⟨0, rfl, ⟨by omega⟩, ⟨fun j q hj => absurd hj (Nat.not_lt_zero _)⟩, ⟨Below.refl _ _⟩⟩
  case round =>
    obtain ⟨i, rfl, HI, HP, HW⟩ := hrel
    have H2 := Aside0.mk (H.out.step HW.out)
    have x2 := H2.out.c2
    by_cases hi : i < R.length
    · have p1 : (i : Int) < (R.length : Int) := Int.ofNat_lt.2 hi
      have q1 : decide ((i : Int) < (R.length : Int)) = true := decide_eq_true p1
      have q4 := eq_true (Int.natCast_nonneg i)
      have q5 := eq_true p1
      have q6 := eq_true hi
      obtain ⟨ad, A1, c1, A2, c2, hA, hx1, hx2, k1, k2, f1, f2⟩ := H2.out.row hi
      have HM := Aside0.mk (HR.out _ (List.getElem_mem hi))
      have F1 := Aside0.mk (Kd.F_now f1)
      have K1 := Aside0.mk k1
      have hnx := bas_next i (by have := hRl.out; omega)
      have Hi := Aside0.mk hi
      have hcm : R[i].1.length < 9223372036854775807 := by rw [HM.out.1.1]; omega
      obtain ⟨x, hxe⟩ : ∃ x, x = R[i]'(Hi.out) := ⟨_, rfl⟩
      have HXE := Aside0.mk hxe
      rw [← hxe] at hx1 F1 K1 hcm
      have EL := Aside0.mk (show vector_Lead.f x.1 = some (leadN x.1) from by unfold vector_Lead.f; rw [if_pos hcm])
      obtain ⟨z, hz⟩ : ∃ z, z = leadN x.1 := ⟨_, rfl⟩
      rw [← hz] at EL
      have HZ := Aside0.mk hz
      subst hA
      clear hx2 k1 k2 f1 f2 p1 HM hi hcm hxe hz
      cases gk with
      | zero => exact absurd HI.out (by have := Hi.out; omega)
      | succ k1 =>
      by_cases hg : z > lead
      · have r1 : decide (z > lead) = true := decide_eq_true hg
        have r2 := eq_true hg
        have HE := Aside0.mk (show R.findIdx (fun x => decide (leadN x.1 > lead)) = i from (List.findIdx_eq Hi.out).2 ⟨by rw [← HXE.out, ← HZ.out]; exact r1, fun j hj => decide_eq_false (HP.out j (by have := Hi.out; omega) hj)⟩)
        clear hg
        go_wp2_with (go_at_call 21; with_reducible refine (vector_Lead.calls A1 c1 x.1 z _ F1.out K1.out EL.out).mono ?_; rintro e w2 ⟨rfl, hd⟩; have hb := drawn_below hd; replace HW := Aside0.mk (HW.out.trans (hb.mono HW.out.size)); clear hd hb hx1 x2)
        (try rw [Exit.noGoto_ret])
        go_ret
        exact ⟨by rw [HE.out]; rfl, HW.out⟩
      · have r1 : decide (z > lead) = false := decide_eq_false hg
        have r2 := eq_false hg
        have HG := Aside0.mk hg
        clear hg
        go_wp2_with (go_at_call 21; with_reducible refine (vector_Lead.calls A1 c1 x.1 z _ F1.out K1.out EL.out).mono ?_; rintro e w2 ⟨rfl, hd⟩; have hb := drawn_below hd; replace HW := Aside0.mk (HW.out.trans (hb.mono HW.out.size)); clear hd hb hx1 x2)
        go_roundg k1
        case measure => omega
        case rel => exact ⟨i + 1, by first | rfl | rw [hnx], ⟨by have := HI.out; omega⟩, ⟨fun j q hj => by
          by_cases e : j = i
          · subst e; rw [← HXE.out, ← HZ.out]; exact HG.out
          · exact HP.out j q (by omega)⟩, HW⟩
    · have q1 : decide ((i : Int) < (R.length : Int)) = false := decide_eq_false (by omega)
      have q2 := eq_false hi
      have HE := Aside0.mk (show R.findIdx (fun x => decide (leadN x.1 > lead)) = i from by
        have e : i = R.length := by have := HI.out; omega
        rw [e]
        exact List.findIdx_eq_length.2 fun x hx => by
          obtain ⟨j, hj, rfl⟩ := List.getElem_of_mem hx
          exact decide_eq_false (HP.out j hj (by omega)))
      clear hi
      go_wp2
      (try rw [Exit.noGoto_ret])
      go_ret
      exact ⟨by rw [HE.out]; rfl, HW.out⟩
end Go.Proofs.Ytpfaaljmefgpbaa.Hand
end

section
set_option linter.unusedVariables false
set_option linter.unusedSimpArgs false
namespace Go.Proofs.Ytpfaaljmefgpbaa.Hand
open Go.RowKit Go.Proofs.YtpfaaljmefgpbaaW.PrintWords Go.Proofs.YtpfaaljmefgpbaaW.PrintLast Go.Proofs.YtpfaaljmefgpbaaW.PrintMore
theorem redP_succ (R : List (List Int × List Int)) (r : List Int × List Int) {i : Nat} (hi : i < R.length) {x : List Int × List Int} (hx : x = R[i]) {p : Nat} (hp : leadN x.1 = (p : Int)) : redP R r (i + 1) = (addS (redP R r i).1 x.1 ((redP R r i).1.getD p 0), addS (redP R r i).2 x.2 ((redP R r i).1.getD p 0)) := by
  have e : R.getD i ([], []) = x := by rw [hx, List.getD_eq_getElem?_getD, List.getElem?_eq_getElem hi]; rfl
  show (_, _) = _
  rw [e, hp, Int.toNat_natCast]
theorem getD_isB {l : List Int} (h : areB l) (p : Nat) : isB (l.getD p 0) := by
  rw [List.getD_eq_getElem?_getD]
  cases e : l[p]? with
  | none => exact ⟨by decide, by decide⟩
  | some x => exact h x (List.mem_of_getElem? e)
set_option maxHeartbeats 4000000 in
set_option maxRecDepth 100000 in
theorem redB_calls (W : World) (B g s : Nat) (A : Option Addr) (c : Nat) (R : List (List Int × List Int)) (H : Aside0 (BasisIs W B g s A c R)) (n m : Nat) (HR : Aside0 (RowsOk n m R)) (hn : n < 1000) (hm : m < 1000) (hRl : Aside0 (R.length < 1000))
    (ok1 : Nat → Prop) (A1 : Option Addr) (c1 : Nat) (a1 : List Int) (A2 : Option Addr) (c2 : Nat) (a2 : List Int) (F1 : Aside0 (Kd.F (Kd.int .u8) W ok1 A1 a1.length a1)) (C1 : Aside0 (a1.length ≤ c1)) (F2 : Aside0 (Kd.F (Kd.int .u8) W ok1 A2 a2.length a2)) (C2 : Aside0 (a2.length ≤ c2)) (L1 : Aside0 (a1.length = n ∧ areB a1)) (L2 : Aside0 (a2.length = m ∧ areB a2)) :
    Calls Try.prog 24 #[.pointer (some ⟨B, 0, none⟩), .agg #[.slice A1 a1.length c1, .slice A2 a2.length c2]] W fun e w' => ∃ (A5 : Option Addr) (c5 : Nat) (A6 : Option Addr) (c6 : Nat), e = .returned (.agg #[.slice A5 (redP R (a1, a2) R.length).1.length c5, .slice A6 (redP R (a1, a2) R.length).2.length c6]) ∧ (redP R (a1, a2) R.length).1.length ≤ c5 ∧ (redP R (a1, a2) R.length).2.length ≤ c6 ∧ Kd.F (Kd.int .u8) w' (fun j => (ok1 j ∧ j < W.heap.size) ∨ W.heap.size ≤ j) A5 (redP R (a1, a2) R.length).1.length (redP R (a1, a2) R.length).1 ∧ Kd.F (Kd.int .u8) w' (fun j => (ok1 j ∧ j < W.heap.size) ∨ W.heap.size ≤ j) A6 (redP R (a1, a2) R.length).2.length (redP R (a1, a2) R.length).2 ∧ Below W.heap.size W w' := by
  go_enter Try.func24, Try.ntmps24
  go_upto_region 1 with fail
  have HW := Aside0.mk (show Below W.heap.size W ((W.alloc (.cells #[.slice A1 a1.length c1, .slice A2 a2.length c2] 35)).alloc (.cells #[.slice none 0 0, .slice none 0 0] 35)) from below_alloc (below_alloc (Below.refl _ _) _) _)
  have K1 := Aside0.mk (alloc_old (alloc_at W #[.slice A1 a1.length c1, .slice A2 a2.length c2] 35 rfl) (.cells #[.slice none 0 0, .slice none 0 0] 35))
  have K3 := Aside0.mk (alloc_at (W.alloc (.cells #[.slice A1 a1.length c1, .slice A2 a2.length c2] 35)) #[.slice none 0 0, .slice none 0 0] 35 (n := W.heap.size + 1) (by rw [alloc_size]))
  generalize (W.alloc (.cells #[.slice A1 a1.length c1, .slice A2 a2.length c2] 35)).alloc (.cells #[.slice none 0 0, .slice none 0 0] 35) = w1 at HW K1 K3 ⊢
  obtain ⟨N, hN⟩ : ∃ N, N = W.heap.size := ⟨_, rfl⟩
  have x2 := (H.out.step HW.out).c2
  go_wp2
  go_loopg [14] R.length (fun kq v14 w' => ∃ i : Nat, v14 = .int .i64 (i : Int) ∧ Aside0 (kq + i = R.length) ∧ ∃ (Ax : Option Addr) (cx : Nat) (Ay : Option Addr) (cy : Nat), Aside0 (w'.heap[W.heap.size]? = some (.cells #[.slice Ax (redP R (a1, a2) i).1.length cx, .slice Ay (redP R (a1, a2) i).2.length cy] 35 (0, 0))) ∧ Aside0 ((redP R (a1, a2) i).1.length ≤ cx) ∧ Aside0 ((redP R (a1, a2) i).2.length ≤ cy) ∧ Aside0 (Kd.F (Kd.int .u8) w' (fun j => (ok1 j ∧ j < W.heap.size) ∨ W.heap.size + 1 < j) Ax (redP R (a1, a2) i).1.length (redP R (a1, a2) i).1) ∧ Aside0 (Kd.F (Kd.int .u8) w' (fun j => (ok1 j ∧ j < W.heap.size) ∨ W.heap.size + 1 < j) Ay (redP R (a1, a2) i).2.length (redP R (a1, a2) i).2) ∧ Aside0 (w'.heap[W.heap.size + 1]? = some (.cells #[.slice none 0 0, .slice none 0 0] 35 (0, 0))) ∧ Aside0 (Below W.heap.size W w'))
  case atStart => exact ⟨0, rfl, ⟨by omega⟩, A1, c1, A2, c2, K1, C1, C2, ⟨Kd.F_mono (Kd.F_below (Kd.F_bound F1.out) HW.out) (fun j hj => Or.inl hj)⟩, ⟨Kd.F_mono (Kd.F_below (Kd.F_bound F2.out) HW.out) (fun j hj => Or.inl hj)⟩, K3, HW⟩
  case round =>
    clear K1 K3 HW x2
    obtain ⟨i, rfl, HI, Ax, cx, Ay, cy, KB, LX, LY, FX, FY, K3, HW⟩ := hrel
    have H2 := Aside0.mk (H.out.step HW.out)
    by_cases hi : i < R.length
    · have p1 : (i : Int) < (R.length : Int) := Int.ofNat_lt.2 hi
      have q1 : decide ((i : Int) < (R.length : Int)) = true := decide_eq_true p1
      have q4 := eq_true (Int.natCast_nonneg i)
      have q5 := eq_true p1
      have q6 := eq_true hi
      obtain ⟨ad, D1, d1, D2, d2, hA, hx1, hx2, k1, k2, f1, f2⟩ := H2.out.row hi
      have HM := HR.out _ (List.getElem_mem hi)
      have Hi := Aside0.mk hi
      obtain ⟨x, hxe⟩ : ∃ x, x = R[i]'(Hi.out) := ⟨_, rfl⟩
      rw [← hxe] at hx1 hx2 k1 k2 f1 f2 HM
      obtain ⟨⟨m1, m2⟩, ⟨m3, m4⟩, p, hp, hlead⟩ := HM
      obtain ⟨⟨o1, o2⟩, ⟨o3, o4⟩⟩ := redP_ok HR.out (r := (a1, a2)) L1.out L2.out i (by omega)
      have hs := redP_succ R (a1, a2) hi hxe hlead
      have hnx := bas_next i (by have := hRl.out; omega)
      obtain ⟨q, hq⟩ : ∃ q, q = redP R (a1, a2) i := ⟨_, rfl⟩
      rw [← hq] at KB LX LY FX FY o1 o2 o3 o4 hs
      have HS := Aside0.mk hs
      obtain ⟨adx, hax, hcell⟩ := Kd.at_int (Kd.F_now FX.out) (p : Int) (by omega) (by omega)
      rw [Int.toNat_natCast] at hcell
      have hrd : rd q.1 (p : Int) = q.1.getD p 0 := by unfold rd; rw [Int.toNat_natCast]
      rw [hrd] at hcell
      obtain ⟨z, hz⟩ : ∃ z, z = q.1.getD p 0 := ⟨_, rfl⟩
      have hzB : isB z := by rw [hz]; exact getD_isB o2 p
      rw [← hz] at hcell hs
      have HS := Aside0.mk hs
      have EL := Aside0.mk (show vector_Lead.f x.1 = some (p : Int) from by unfold vector_Lead.f; rw [if_pos (by omega), hlead])
      have E1 := Aside0.mk (as_f (a := q.1) (b := x.1) (c := z) (by omega) (by unfold vN; omega) m2 hzB)
      have E2 := Aside0.mk (as_f (a := q.2) (b := x.2) (c := z) (by omega) (by unfold vN; omega) m4 hzB)
      have PL := Aside0.mk (show p < q.1.length from by omega)
      have HC := Aside0.mk hcell
      have G1 := Aside0.mk f1
      have G2 := Aside0.mk f2
      have KA1 := Aside0.mk k1
      have KA2 := Aside0.mk k2
      subst hA hax
      clear p1 hi hxe m1 m2 m3 m4 o1 o2 o3 o4 hs hrd hz hzB hq hcell f1 f2 k1 k2 hp hlead
      cases gk with
      | zero => exact absurd HI.out (by have := Hi.out; omega)
      | succ k1 =>
      have hb := below_alloc (Below.refl wr.heap.size wr) (.cells #[.slice D1 x.1.length d1, .slice D2 x.2.length d2] 35)
      have hsz : wr.heap.size < (wr.alloc (.cells #[.slice D1 x.1.length d1, .slice D2 x.2.length d2] 35)).heap.size := by rw [alloc_size]; omega
      have HSZ := Aside0.mk hsz
      have N3 := Aside0.mk (WorkIs.heap_lt' K3.out)
      replace KB := box_step KB hb
      replace K3 := box_step K3 hb
      replace FX := Aside0.mk (Kd.F_below FX.out hb)
      replace FY := Aside0.mk (Kd.F_below FY.out hb)
      replace G1 := Aside0.mk (Kd.F_below G1.out hb)
      replace G2 := Aside0.mk (Kd.F_below G2.out hb)
      replace HC := Aside0.mk ((hb.cell (World.block_lt_of_cell? _ _ HC.out)).trans HC.out)
      have HW2 := Aside0.mk (below_alloc HW.out (.cells #[.slice D1 x.1.length d1, .slice D2 x.2.length d2] 35))
      clear hb hsz H2
      go_wp2_with (go_at_call 48; with_reducible refine (step_calls W.heap.size adx cx q.1 Ay cy q.2 D1 d1 x.1 D2 d2 x.2 p z (addS q.1 x.1 z) (addS q.2 x.2 z) _ KB ⟨Kd.F_now FX.out⟩ LX ⟨Kd.F_now FY.out⟩ LY ⟨Kd.F_now G1.out⟩ KA1 ⟨Kd.F_now G2.out⟩ KA2 EL PL.out HC.out E1 E2).mono ?_; rintro e w3 ⟨A5, c5, A6, c6, rfl, hB, hl5, hl6, hf5, hf6, hbel, hoth⟩; replace KB := Aside0.mk hB; have L5 := Aside0.mk hl5; have L6 := Aside0.mk hl6; replace FX := Aside0.mk (Kd.F_mono hf5 (ok' := fun j => (ok1 j ∧ j < W.heap.size) ∨ W.heap.size + 1 < j) (fun j hj => Or.inr (by have := HSZ.out; have := N3.out; omega))); replace FY := Aside0.mk (Kd.F_mono hf6 (ok' := fun j => (ok1 j ∧ j < W.heap.size) ∨ W.heap.size + 1 < j) (fun j hj => Or.inr (by have := HSZ.out; have := N3.out; omega))); replace K3 := Aside0.mk ((hoth (W.heap.size + 1) (WorkIs.heap_lt' K3.out) (by omega)).trans K3.out); replace HW := Aside0.mk (HW2.out.trans (hbel W.heap.size (Nat.le_refl _))); clear hB hl5 hl6 hf5 hf6 hbel hoth hx1 hx2)
      go_roundg k1
      case measure => omega
      case rel => exact ⟨i + 1, by first | rfl | rw [hnx], ⟨by have := HI.out; omega⟩, A5, c5, A6, c6, by rw [HS.out]; exact KB, by rw [HS.out]; exact L5, by rw [HS.out]; exact L6, by rw [HS.out]; exact FX, by rw [HS.out]; exact FY, K3, HW⟩
    · have q1 : decide ((i : Int) < (R.length : Int)) = false := decide_eq_false (by omega)
      have q2 := eq_false hi
      have e : i = R.length := by have := HI.out; omega
      subst e
      obtain ⟨q, hq⟩ : ∃ q, q = redP R (a1, a2) R.length := ⟨_, rfl⟩
      rw [← hq] at KB LX LY FX FY
      have HQ := Aside0.mk hq
      have y0 := box0 KB.out
      have y1 := box1 KB.out
      have t0 := box0 K3.out
      have t1 := box1 K3.out
      have z0 := boxF K3.out 0
      have z1 := boxF K3.out 1
      clear hi hq
      go_wp2
      clear y0 y1 t0 t1 z0 z1
      have hfar : ∀ j, ((ok1 j ∧ j < W.heap.size) ∨ W.heap.size + 1 < j) → j ≠ W.heap.size + 1 := fun j hj => by omega
      replace FX := Aside0.mk (Kd.F_far (Kd.F_far FX.out (p := ⟨W.heap.size + 1, 0, none⟩) hfar (.slice Ax q.1.length cx)) (p := ⟨W.heap.size + 1, 1, none⟩) hfar (.slice Ay q.2.length cy))
      replace FY := Aside0.mk (Kd.F_far (Kd.F_far FY.out (p := ⟨W.heap.size + 1, 0, none⟩) hfar (.slice Ax q.1.length cx)) (p := ⟨W.heap.size + 1, 1, none⟩) hfar (.slice Ay q.2.length cy))
      replace K3 := Aside0.mk (box_set (u' := .slice Ax q.1.length cx) (v' := .slice Ay q.2.length cy) K3.out)
      replace HW := Aside0.mk ((HW.out.setCell (p := ⟨W.heap.size + 1, 0, none⟩) (show W.heap.size ≤ W.heap.size + 1 by omega) (.slice Ax q.1.length cx)).setCell (p := ⟨W.heap.size + 1, 1, none⟩) (show W.heap.size ≤ W.heap.size + 1 by omega) (.slice Ay q.2.length cy))
      generalize ((wr.setCell ⟨W.heap.size + 1, 0, none⟩ (.slice Ax q.1.length cx)).setCell ⟨W.heap.size + 1, 1, none⟩ (.slice Ay q.2.length cy)) = w4 at FX FY K3 HW ⊢
      (try simp only [Exit.inBlock, Exit.then])
      refine bodyPost_ret (results_cell_row rfl _ _ (W.heap.size + 1) 35 #[.slice Ax q.1.length cx, .slice Ay q.2.length cy] (0, 0) _ rfl K3.out Try.underlying35 rfl infoBS) rfl ?_
      rw [← HQ.out]
      exact ⟨Ax, cx, Ay, cy, rfl, LX.out, LY.out, Kd.F_mono FX.out (fun j hj => by rcases hj with h | h; exact Or.inl h; exact Or.inr (by omega)), Kd.F_mono FY.out (fun j hj => by rcases hj with h | h; exact Or.inl h; exact Or.inr (by omega)), HW.out⟩
end Go.Proofs.Ytpfaaljmefgpbaa.Hand
end
