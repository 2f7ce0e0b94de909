/- The walk of the law SpanOrder. -/
import Derived.Test.YthgpmneplpdeiaaPlSpan
set_option linter.unusedVariables false
set_option linter.unusedSimpArgs false
namespace Go.Proofs.Ythgpmneplpdeiaa.Plain
open Go.Proofs.Ythgpmneplpdeiaa.Hand Go.Proofs.Ythgpmneplpdeiaa.GF Go.Proofs.Ythgpmneplpdeiaa.LA Go.RowKit Go.Proofs.Ythgpmneplpdeiaa.P Go.Proofs.YthgpmneplpdeiaaW.PrintWords Go.Proofs.YthgpmneplpdeiaaW.PrintLast Go.Proofs.YthgpmneplpdeiaaW.PrintMore

set_option maxHeartbeats 8000000 in
set_option maxRecDepth 100000 in
theorem order_walk (A0 : Option Addr) (c0 : Nat) (l0 : List Int) (A1 : Option Addr) (c1 : Nat) (l1 : List Int) (A2 : Option Addr) (c2 : Nat) (l2 : List Int) (s0 s1 s2 s3 : Int) (w : World) (Hl0 : Aside0 (Kd.C (Kd.int .u8) w A0 l0.length l0)) (Cl0 : Aside0 (l0.length ≤ c0)) (Hl1 : Aside0 (Kd.C (Kd.int .u8) w A1 l1.length l1)) (Cl1 : Aside0 (l1.length ≤ c1)) (Hl2 : Aside0 (Kd.C (Kd.int .u8) w A2 l2.length l2)) (Cl2 : Aside0 (l2.length ≤ c2))
    (cols : Nat) (X Y Z : List (List Int)) (h0 : wrap64 (Int.tmod s0 6) = (X.length : Int)) (h1 : wrap64 (Int.tmod s1 6) = (Y.length : Int)) (h2 : wrap64 (Int.tmod s2 6) = (Z.length : Int)) (hc : wrap64 (1 + (wrap64 (Int.tmod s3 6))) = (cols : Int))
    (FX : Aside0 (braidworklaw08_shaped.f 200 l0 X.length cols = some X)) (FY : Aside0 (braidworklaw08_shaped.f 200 l1 Y.length cols = some Y)) (FZ : Aside0 (braidworklaw08_shaped.f 200 l2 Z.length cols = some Z))
    (rx ry : List (List Int)) (cxy cyx cyz cxz : Bool) (F1 : Aside0 (matrix_Reduce.f X = some (rx, 0))) (F2 : Aside0 (matrix_Reduce.f Y = some (ry, 0))) (F3 : Aside0 (span_Same.f X Y = some (cxy && cyx, 0))) (F4 : Aside0 (braidworklaw08_contains.f X X = some true)) (F5 : Aside0 (braidworklaw08_contains.f X [] = some true)) (F6 : Aside0 (matrix_Same.f rx ry = some (cxy && cyx))) (F7 : Aside0 (braidworklaw08_contains.f X Y = some cxy)) (F8 : Aside0 (braidworklaw08_contains.f Y X = some cyx)) (F9 : Aside0 (braidworklaw08_contains.f Y Z = some cyz)) (F10 : Aside0 (braidworklaw08_contains.f X Z = some cxz)) (himp : cxy = true → cyz = true → cxz = true) :
    Calls Try.prog 8 #[.slice A0 l0.length c0, .slice A1 l1.length c1, .slice A2 l2.length c2, .agg #[.int .u8 s0, .int .u8 s1, .int .u8 s2, .int .u8 s3]] w fun e w' => e = .returned (.bool true) ∧ Below w.heap.size w w' := by
  have HB := Aside0.mk (below_drew (below_alloc (Below.refl w.heap.size w) (.cells #[.int .u8 s0, .int .u8 s1, .int .u8 s2, .int .u8 s3] 46)))
  go_enter Try.func8, Try.ntmps8
  go_wp2
  refine start_ (n := 24) (S := fun w' => w'.cell? ⟨w.heap.size, 0, none⟩ = some (.int .u8 s0) ∧ w'.cell? ⟨w.heap.size, 1, none⟩ = some (.int .u8 s1) ∧ w'.cell? ⟨w.heap.size, 2, none⟩ = some (.int .u8 s2)) (ds := []) #[false, false, false, false, false, false, false, false, false, false, false, false, false, false, false, false, false, false, false, false, false, false, false, false] (by kernel_rfl) rfl rfl ⟨(by simp), (by simp), (by simp)⟩ (fun hHeld => ?_)
  generalize (World.drew _) = w1 at HB hHeld ⊢
  replace Hl0 := Aside0.mk (Kd.C_below Hl0.out HB.out)
  replace Hl1 := Aside0.mk (Kd.C_below Hl1.out HB.out)
  replace Hl2 := Aside0.mk (Kd.C_below Hl2.out HB.out)
  refine pure_ (i := 0) (N := some 24) (v := ?_) (a' := ?_) #[true, false, false, false, false, false, false, false, false, false, false, false, false, false, false, false, false, false, false, false, false, false, false, false] rfl rfl (by kernel_rfl) (fun _ _ _ h => h) (Or.inl ⟨by rfl, ?_⟩) ?_ ?_
  rotate_left
  · intro w'
    go_simp
    with_reducible rfl
  rotate_left
  · simp only [Act.put, List.setIfInBounds_toArray, List.set_cons_zero, List.set_cons_succ, i64_w, i32_w]
    rfl
  refine pure_ (i := 1) (N := some 25) (v := ?_) (a' := ?_) #[true, true, false, false, false, false, false, false, false, false, false, false, false, false, false, false, false, false, false, false, false, false, false, false] rfl rfl (by kernel_rfl) (fun _ _ _ h => h) (Or.inl ⟨by rfl, ?_⟩) ?_ ?_
  rotate_left
  · intro w'
    go_simp
    with_reducible rfl
  rotate_left
  · simp only [Act.put, List.setIfInBounds_toArray, List.set_cons_zero, List.set_cons_succ, i64_w, i32_w]
    rfl
  refine pure_ (i := 5) (N := some 29) (v := ?_) (a' := ?_) #[true, true, false, false, false, true, false, false, false, false, false, false, false, false, false, false, false, false, false, false, false, false, false, false] rfl rfl (by kernel_rfl) (fun _ _ _ h => h) (Or.inl ⟨by rfl, ?_⟩) ?_ ?_
  rotate_left
  · intro w'
    go_simp
    with_reducible rfl
  rotate_left
  · simp only [Act.put, List.setIfInBounds_toArray, List.set_cons_zero, List.set_cons_succ, i64_w, i32_w]
    rfl
  refine pure_ (i := 7) (N := some 31) (v := ?_) (a' := ?_) #[true, true, false, false, false, true, false, true, false, false, false, false, false, false, false, false, false, false, false, false, false, false, false, false] rfl rfl (by kernel_rfl) (fun _ _ _ h => h) (Or.inl ⟨by rfl, ?_⟩) ?_ ?_
  rotate_left
  · intro w'
    go_simp
    with_reducible rfl
  rotate_left
  · simp only [Act.put, List.setIfInBounds_toArray, List.set_cons_zero, List.set_cons_succ, i64_w, i32_w]
    rfl
  refine pure_ (i := 8) (N := some 32) (v := ?_) (a' := ?_) #[true, true, false, false, false, true, false, true, true, false, false, false, false, false, false, false, false, false, false, false, false, false, false, false] rfl rfl (by kernel_rfl) (fun _ _ _ h => h) (Or.inl ⟨by rfl, ?_⟩) ?_ ?_
  rotate_left
  · intro w'
    go_simp
    with_reducible rfl
  rotate_left
  · simp only [Act.put, List.setIfInBounds_toArray, List.set_cons_zero, List.set_cons_succ, i64_w, i32_w]
    rfl
  refine pure_ (i := 12) (N := some 36) (v := ?_) (a' := ?_) #[true, true, false, false, false, true, false, true, true, false, false, false, true, false, false, false, false, false, false, false, false, false, false, false] rfl rfl (by kernel_rfl) (fun _ _ _ h => h) (Or.inl ⟨by rfl, ?_⟩) ?_ ?_
  rotate_left
  · intro w'
    go_simp
    with_reducible rfl
  rotate_left
  · simp only [Act.put, List.setIfInBounds_toArray, List.set_cons_zero, List.set_cons_succ, i64_w, i32_w]
    rfl
  refine pure_ (i := 14) (N := some 38) (v := ?_) (a' := ?_) #[true, true, false, false, false, true, false, true, true, false, false, false, true, false, true, false, false, false, false, false, false, false, false, false] rfl rfl (by kernel_rfl) (fun _ _ _ h => h) (Or.inl ⟨by rfl, ?_⟩) ?_ ?_
  rotate_left
  · intro w'
    go_simp
    with_reducible rfl
  rotate_left
  · simp only [Act.put, List.setIfInBounds_toArray, List.set_cons_zero, List.set_cons_succ, i64_w, i32_w]
    rfl
  refine pure_ (i := 15) (N := some 39) (v := ?_) (a' := ?_) #[true, true, false, false, false, true, false, true, true, false, false, false, true, false, true, true, false, false, false, false, false, false, false, false] rfl rfl (by kernel_rfl) (fun _ _ _ h => h) (Or.inl ⟨by rfl, ?_⟩) ?_ ?_
  rotate_left
  · intro w'
    go_simp
    with_reducible rfl
  rotate_left
  · simp only [Act.put, List.setIfInBounds_toArray, List.set_cons_zero, List.set_cons_succ, i64_w, i32_w]
    rfl
  refine pure_ (i := 19) (N := some 43) (v := ?_) (a' := ?_) #[true, true, false, false, false, true, false, true, true, false, false, false, true, false, true, true, false, false, false, true, false, false, false, false] rfl rfl (by kernel_rfl) (fun _ _ _ h => h) (Or.inl ⟨by rfl, ?_⟩) ?_ ?_
  rotate_left
  · intro w'
    go_simp
    with_reducible rfl
  rotate_left
  · simp only [Act.put, List.setIfInBounds_toArray, List.set_cons_zero, List.set_cons_succ, i64_w, i32_w]
    rfl
  refine take_ (i := 2) (N := some 26) (v := ?_) (a' := ?_) #[true, true, true, false, false, true, false, true, true, false, false, false, true, false, true, true, false, false, false, true, false, false, false, false] rfl rfl (by kernel_rfl) (fun _ _ _ h => h) (Or.inl ⟨by rfl, ?_⟩) hHeld ?_ ?_
  rotate_left
  · rintro w' ⟨s0, s1, s2⟩
    go_simp
    with_reducible rfl
  rotate_left
  · simp only [Act.put, List.setIfInBounds_toArray, List.set_cons_zero, List.set_cons_succ, i64_w, i32_w]
    rfl
  refine pure_ (i := 3) (N := some 27) (v := ?_) (a' := ?_) #[true, true, true, true, false, true, false, true, true, false, false, false, true, false, true, true, false, false, false, true, false, false, false, false] rfl rfl (by kernel_rfl) (fun _ _ _ h => h) (Or.inl ⟨by rfl, ?_⟩) ?_ ?_
  rotate_left
  · intro w'
    go_simp
    with_reducible rfl
  rotate_left
  · simp only [Act.put, List.setIfInBounds_toArray, List.set_cons_zero, List.set_cons_succ, i64_w, i32_w]
    rfl
  refine take_ (i := 4) (N := some 28) (v := ?_) (a' := ?_) #[true, true, true, true, true, true, false, true, true, false, false, false, true, false, true, true, false, false, false, true, false, false, false, false] rfl rfl (by kernel_rfl) (fun _ _ _ h => h) (Or.inl ⟨by rfl, ?_⟩) hHeld ?_ ?_
  rotate_left
  · rintro w' ⟨s0, s1, s2⟩
    go_simp
    with_reducible rfl
  rotate_left
  · simp only [Act.put, List.setIfInBounds_toArray, List.set_cons_zero, List.set_cons_succ, i64_w, i32_w]
    rfl
  refine take_ (i := 9) (N := some 33) (v := ?_) (a' := ?_) #[true, true, true, true, true, true, false, true, true, true, false, false, true, false, true, true, false, false, false, true, false, false, false, false] rfl rfl (by kernel_rfl) (fun _ _ _ h => h) (Or.inl ⟨by rfl, ?_⟩) hHeld ?_ ?_
  rotate_left
  · rintro w' ⟨s0, s1, s2⟩
    go_simp
    with_reducible rfl
  rotate_left
  · simp only [Act.put, List.setIfInBounds_toArray, List.set_cons_zero, List.set_cons_succ, i64_w, i32_w]
    rfl
  refine pure_ (i := 10) (N := some 34) (v := ?_) (a' := ?_) #[true, true, true, true, true, true, false, true, true, true, true, false, true, false, true, true, false, false, false, true, false, false, false, false] rfl rfl (by kernel_rfl) (fun _ _ _ h => h) (Or.inl ⟨by rfl, ?_⟩) ?_ ?_
  rotate_left
  · intro w'
    go_simp
    with_reducible rfl
  rotate_left
  · simp only [Act.put, List.setIfInBounds_toArray, List.set_cons_zero, List.set_cons_succ, i64_w, i32_w]
    rfl
  refine take_ (i := 11) (N := some 35) (v := ?_) (a' := ?_) #[true, true, true, true, true, true, false, true, true, true, true, true, true, false, true, true, false, false, false, true, false, false, false, false] rfl rfl (by kernel_rfl) (fun _ _ _ h => h) (Or.inl ⟨by rfl, ?_⟩) hHeld ?_ ?_
  rotate_left
  · rintro w' ⟨s0, s1, s2⟩
    go_simp
    with_reducible rfl
  rotate_left
  · simp only [Act.put, List.setIfInBounds_toArray, List.set_cons_zero, List.set_cons_succ, i64_w, i32_w]
    rfl
  refine take_ (i := 16) (N := some 40) (v := ?_) (a' := ?_) #[true, true, true, true, true, true, false, true, true, true, true, true, true, false, true, true, true, false, false, true, false, false, false, false] rfl rfl (by kernel_rfl) (fun _ _ _ h => h) (Or.inl ⟨by rfl, ?_⟩) hHeld ?_ ?_
  rotate_left
  · rintro w' ⟨s0, s1, s2⟩
    go_simp
    with_reducible rfl
  rotate_left
  · simp only [Act.put, List.setIfInBounds_toArray, List.set_cons_zero, List.set_cons_succ, i64_w, i32_w]
    rfl
  refine pure_ (i := 17) (N := some 41) (v := ?_) (a' := ?_) #[true, true, true, true, true, true, false, true, true, true, true, true, true, false, true, true, true, true, false, true, false, false, false, false] rfl rfl (by kernel_rfl) (fun _ _ _ h => h) (Or.inl ⟨by rfl, ?_⟩) ?_ ?_
  rotate_left
  · intro w'
    go_simp
    with_reducible rfl
  rotate_left
  · simp only [Act.put, List.setIfInBounds_toArray, List.set_cons_zero, List.set_cons_succ, i64_w, i32_w]
    rfl
  refine take_ (i := 18) (N := some 42) (v := ?_) (a' := ?_) #[true, true, true, true, true, true, false, true, true, true, true, true, true, false, true, true, true, true, true, true, false, false, false, false] rfl rfl (by kernel_rfl) (fun _ _ _ h => h) (Or.inl ⟨by rfl, ?_⟩) hHeld ?_ ?_
  rotate_left
  · rintro w' ⟨s0, s1, s2⟩
    go_simp
    with_reducible rfl
  rotate_left
  · simp only [Act.put, List.setIfInBounds_toArray, List.set_cons_zero, List.set_cons_succ, i64_w, i32_w]
    rfl
  refine one_ (i := 6) (N := some 30) #[true, true, true, true, true, true, true, true, true, true, true, true, true, false, true, true, true, true, true, true, false, false, false, false] rfl rfl (by kernel_rfl) (by decide) (fun K hK => ?_)
  refine goes_ Try.func27 (by kernel_rfl) rfl #[.slice A0 l0.length c0, .int .i64 (wrap64 (Int.tmod s0 6)), .int .i64 (cols : Int)] (by rfl) rfl rfl (by simp only [List.map_toArray, List.map_cons, List.map_nil]; rfl) ?_
  with_reducible refine (braidworklaw08_shaped.calls 200 A0 c0 l0 (wrap64 (Int.tmod s0 6)) (cols : Int) X _ Hl0.out Cl0.out (by rw [h0]; exact FX.out)).mono ?_
  rintro e w' ⟨v_, rfl, ho_, hb⟩
  refine ⟨_, rfl, ?_⟩
  obtain ⟨AX, cX, rfl⟩ := Kd.S_slice ho_
  have HX := Aside0.mk (Kd.S_reads' ho_).2.2
  have CX := Aside0.mk (Kd.S_reads' ho_).2.1
  clear ho_
  replace Hl1 := Aside0.mk (Kd.C_below Hl1.out hb)
  replace Hl2 := Aside0.mk (Kd.C_below Hl2.out hb)
  replace HB := Aside0.mk (HB.out.trans (hb.mono HB.out.size))
  refine hK.out _ _ ⟨((hb.cell (World.block_lt_of_cell? _ _ hHeld.1)).trans hHeld.1), ((hb.cell (World.block_lt_of_cell? _ _ hHeld.2.1)).trans hHeld.2.1), ((hb.cell (World.block_lt_of_cell? _ _ hHeld.2.2)).trans hHeld.2.2)⟩ (fun hHeld => ?_)
  clear hK K
  refine norm_ (a' := ?_) ?_ ?_
  rotate_left
  · show Act.put _ (some 30) _ = _
    simp only [Act.put, List.setIfInBounds_toArray, List.set_cons_zero, List.set_cons_succ, i64_w, i32_w]
    rfl
  refine one_ (i := 13) (N := some 37) #[true, true, true, true, true, true, true, true, true, true, true, true, true, true, true, true, true, true, true, true, false, false, false, false] rfl rfl (by kernel_rfl) (by decide) (fun K hK => ?_)
  refine goes_ Try.func27 (by kernel_rfl) rfl #[.slice A1 l1.length c1, .int .i64 (wrap64 (Int.tmod s1 6)), .int .i64 (cols : Int)] (by rfl) rfl rfl (by simp only [List.map_toArray, List.map_cons, List.map_nil]; rfl) ?_
  with_reducible refine (braidworklaw08_shaped.calls 200 A1 c1 l1 (wrap64 (Int.tmod s1 6)) (cols : Int) Y _ Hl1.out Cl1.out (by rw [h1]; exact FY.out)).mono ?_
  rintro e w' ⟨v_, rfl, ho_, hb⟩
  refine ⟨_, rfl, ?_⟩
  obtain ⟨AY, cY, rfl⟩ := Kd.S_slice ho_
  have HY := Aside0.mk (Kd.S_reads' ho_).2.2
  have CY := Aside0.mk (Kd.S_reads' ho_).2.1
  clear ho_
  replace HX := Aside0.mk (Kd.C_below HX.out hb)
  replace Hl2 := Aside0.mk (Kd.C_below Hl2.out hb)
  replace HB := Aside0.mk (HB.out.trans (hb.mono HB.out.size))
  refine hK.out _ _ ⟨((hb.cell (World.block_lt_of_cell? _ _ hHeld.1)).trans hHeld.1), ((hb.cell (World.block_lt_of_cell? _ _ hHeld.2.1)).trans hHeld.2.1), ((hb.cell (World.block_lt_of_cell? _ _ hHeld.2.2)).trans hHeld.2.2)⟩ (fun hHeld => ?_)
  clear hK K
  refine norm_ (a' := ?_) ?_ ?_
  rotate_left
  · show Act.put _ (some 37) _ = _
    simp only [Act.put, List.setIfInBounds_toArray, List.set_cons_zero, List.set_cons_succ, i64_w, i32_w]
    rfl
  refine one_ (i := 20) (N := some 44) #[true, true, true, true, true, true, true, true, true, true, true, true, true, true, true, true, true, true, true, true, true, false, false, false] rfl rfl (by kernel_rfl) (by decide) (fun K hK => ?_)
  refine goes_ Try.func27 (by kernel_rfl) rfl #[.slice A2 l2.length c2, .int .i64 (wrap64 (Int.tmod s2 6)), .int .i64 (cols : Int)] (by rfl) rfl rfl (by simp only [List.map_toArray, List.map_cons, List.map_nil]; rfl) ?_
  with_reducible refine (braidworklaw08_shaped.calls 200 A2 c2 l2 (wrap64 (Int.tmod s2 6)) (cols : Int) Z _ Hl2.out Cl2.out (by rw [h2]; exact FZ.out)).mono ?_
  rintro e w' ⟨v_, rfl, ho_, hb⟩
  refine ⟨_, rfl, ?_⟩
  obtain ⟨AZ, cZ, rfl⟩ := Kd.S_slice ho_
  have HZ := Aside0.mk (Kd.S_reads' ho_).2.2
  have CZ := Aside0.mk (Kd.S_reads' ho_).2.1
  clear ho_
  replace HX := Aside0.mk (Kd.C_below HX.out hb)
  replace HY := Aside0.mk (Kd.C_below HY.out hb)
  replace HB := Aside0.mk (HB.out.trans (hb.mono HB.out.size))
  refine hK.out _ _ ⟨((hb.cell (World.block_lt_of_cell? _ _ hHeld.1)).trans hHeld.1), ((hb.cell (World.block_lt_of_cell? _ _ hHeld.2.1)).trans hHeld.2.1), ((hb.cell (World.block_lt_of_cell? _ _ hHeld.2.2)).trans hHeld.2.2)⟩ (fun hHeld => ?_)
  clear hK K
  refine norm_ (a' := ?_) ?_ ?_
  rotate_left
  · show Act.put _ (some 44) _ = _
    simp only [Act.put, List.setIfInBounds_toArray, List.set_cons_zero, List.set_cons_succ, i64_w, i32_w]
    rfl
  refine pure_ (i := 21) (N := some 10) (v := ?_) (a' := ?_) #[true, true, true, true, true, true, true, true, true, true, true, true, true, true, true, true, true, true, true, true, true, true, false, false] rfl rfl (by kernel_rfl) (fun _ _ _ h => h) (Or.inl ⟨by rfl, ?_⟩) ?_ ?_
  rotate_left
  · intro w'
    go_simp
    with_reducible rfl
  rotate_left
  · simp only [Act.put, List.setIfInBounds_toArray, List.set_cons_zero, List.set_cons_succ, i64_w, i32_w]
    rfl
  refine pure_ (i := 22) (N := some 11) (v := ?_) (a' := ?_) #[true, true, true, true, true, true, true, true, true, true, true, true, true, true, true, true, true, true, true, true, true, true, true, false] rfl rfl (by kernel_rfl) (fun _ _ _ h => h) (Or.inl ⟨by rfl, ?_⟩) ?_ ?_
  rotate_left
  · intro w'
    go_simp
    with_reducible rfl
  rotate_left
  · simp only [Act.put, List.setIfInBounds_toArray, List.set_cons_zero, List.set_cons_succ, i64_w, i32_w]
    rfl
  refine pure_ (i := 23) (N := some 12) (v := ?_) (a' := ?_) #[true, true, true, true, true, true, true, true, true, true, true, true, true, true, true, true, true, true, true, true, true, true, true, true] rfl rfl (by kernel_rfl) (fun _ _ _ h => h) (Or.inl ⟨by rfl, ?_⟩) ?_ ?_
  rotate_left
  · intro w'
    go_simp
    with_reducible rfl
  rotate_left
  · simp only [Act.put, List.setIfInBounds_toArray, List.set_cons_zero, List.set_cons_succ, i64_w, i32_w]
    rfl
  refine done_ (by kernel_rfl) ?_
  clear hHeld h0 h1 h2 hc Hl0 Hl1 Hl2
  cases cxy with
  | false =>
    go_wp2_with (first
      | (go_at_call 32; with_reducible refine (matrix_Reduce.calls AX cX X rx 0 _ HX.out CX.out F1.out).mono ?_; rintro e w' ⟨v_, rfl, ho_, hb⟩; obtain ⟨AR, cR, rfl⟩ := Kd.S_slice ho_; have HR := Aside0.mk (Kd.S_reads' ho_).2.2; have CR := Aside0.mk (Kd.S_reads' ho_).2.1; clear ho_; (try (replace HX := Aside0.mk (Kd.C_below HX.out hb))); (try (replace HY := Aside0.mk (Kd.C_below HY.out hb))); (try (replace HZ := Aside0.mk (Kd.C_below HZ.out hb))); (try (replace HS := Aside0.mk (Kd.C_below HS.out hb))); (try (replace HM := Aside0.mk (Kd.C_below HM.out hb))); (try (replace HP := Aside0.mk (Kd.C_below HP.out hb))); (try (replace HQ := Aside0.mk (Kd.C_below HQ.out hb))); (try (replace HT := Aside0.mk (Kd.C_below HT.out hb))); (try (replace HU := Aside0.mk (Kd.C_below HU.out hb))); replace HB := Aside0.mk (HB.out.trans (hb.mono HB.out.size)); clear hb)
      | (go_at_call 32; with_reducible refine (matrix_Reduce.calls AY cY Y ry 0 _ HY.out CY.out F2.out).mono ?_; rintro e w' ⟨v_, rfl, ho_, hb⟩; obtain ⟨AQ, cQ, rfl⟩ := Kd.S_slice ho_; have HQ := Aside0.mk (Kd.S_reads' ho_).2.2; have CQ := Aside0.mk (Kd.S_reads' ho_).2.1; clear ho_; (try (replace HX := Aside0.mk (Kd.C_below HX.out hb))); (try (replace HY := Aside0.mk (Kd.C_below HY.out hb))); (try (replace HZ := Aside0.mk (Kd.C_below HZ.out hb))); (try (replace HS := Aside0.mk (Kd.C_below HS.out hb))); (try (replace HM := Aside0.mk (Kd.C_below HM.out hb))); (try (replace HP := Aside0.mk (Kd.C_below HP.out hb))); (try (replace HR := Aside0.mk (Kd.C_below HR.out hb))); (try (replace HT := Aside0.mk (Kd.C_below HT.out hb))); (try (replace HU := Aside0.mk (Kd.C_below HU.out hb))); replace HB := Aside0.mk (HB.out.trans (hb.mono HB.out.size)); clear hb)
      | (go_at_call 18; with_reducible refine (span_Same.calls AX cX X AY cY Y _ 0 _ HX.out CX.out HY.out CY.out F3.out).mono ?_; rintro e w' ⟨rfl, hb⟩; (try (replace HX := Aside0.mk (Kd.C_below HX.out hb))); (try (replace HY := Aside0.mk (Kd.C_below HY.out hb))); (try (replace HZ := Aside0.mk (Kd.C_below HZ.out hb))); (try (replace HS := Aside0.mk (Kd.C_below HS.out hb))); (try (replace HM := Aside0.mk (Kd.C_below HM.out hb))); (try (replace HP := Aside0.mk (Kd.C_below HP.out hb))); (try (replace HQ := Aside0.mk (Kd.C_below HQ.out hb))); (try (replace HR := Aside0.mk (Kd.C_below HR.out hb))); (try (replace HT := Aside0.mk (Kd.C_below HT.out hb))); (try (replace HU := Aside0.mk (Kd.C_below HU.out hb))); replace HB := Aside0.mk (HB.out.trans (hb.mono HB.out.size)); clear hb)
      | (go_at_call 29; with_reducible refine (con_nil AX cX X _ _ HX.out CX.out F5.out).mono ?_; rintro e w' ⟨rfl, hb⟩; (try (replace HX := Aside0.mk (Kd.C_below HX.out hb))); (try (replace HY := Aside0.mk (Kd.C_below HY.out hb))); (try (replace HZ := Aside0.mk (Kd.C_below HZ.out hb))); (try (replace HS := Aside0.mk (Kd.C_below HS.out hb))); (try (replace HM := Aside0.mk (Kd.C_below HM.out hb))); (try (replace HP := Aside0.mk (Kd.C_below HP.out hb))); (try (replace HQ := Aside0.mk (Kd.C_below HQ.out hb))); (try (replace HR := Aside0.mk (Kd.C_below HR.out hb))); (try (replace HT := Aside0.mk (Kd.C_below HT.out hb))); (try (replace HU := Aside0.mk (Kd.C_below HU.out hb))); replace HB := Aside0.mk (HB.out.trans (hb.mono HB.out.size)); clear hb)
      | (go_at_call 29; with_reducible refine (braidworklaw08_contains.calls AX cX X AX cX X _ _ HX.out CX.out HX.out CX.out F4.out).mono ?_; rintro e w' ⟨rfl, hb⟩; (try (replace HX := Aside0.mk (Kd.C_below HX.out hb))); (try (replace HY := Aside0.mk (Kd.C_below HY.out hb))); (try (replace HZ := Aside0.mk (Kd.C_below HZ.out hb))); (try (replace HS := Aside0.mk (Kd.C_below HS.out hb))); (try (replace HM := Aside0.mk (Kd.C_below HM.out hb))); (try (replace HP := Aside0.mk (Kd.C_below HP.out hb))); (try (replace HQ := Aside0.mk (Kd.C_below HQ.out hb))); (try (replace HR := Aside0.mk (Kd.C_below HR.out hb))); (try (replace HT := Aside0.mk (Kd.C_below HT.out hb))); (try (replace HU := Aside0.mk (Kd.C_below HU.out hb))); replace HB := Aside0.mk (HB.out.trans (hb.mono HB.out.size)); clear hb)
      | (go_at_call 28; with_reducible refine (matrix_Same.calls AR cR rx AQ cQ ry _ _ HR.out CR.out HQ.out CQ.out F6.out).mono ?_; rintro e w' ⟨rfl, hd⟩; have hb := hd.below; clear hd; (try (replace HX := Aside0.mk (Kd.C_below HX.out hb))); (try (replace HY := Aside0.mk (Kd.C_below HY.out hb))); (try (replace HZ := Aside0.mk (Kd.C_below HZ.out hb))); (try (replace HS := Aside0.mk (Kd.C_below HS.out hb))); (try (replace HM := Aside0.mk (Kd.C_below HM.out hb))); (try (replace HP := Aside0.mk (Kd.C_below HP.out hb))); (try (replace HQ := Aside0.mk (Kd.C_below HQ.out hb))); (try (replace HR := Aside0.mk (Kd.C_below HR.out hb))); (try (replace HT := Aside0.mk (Kd.C_below HT.out hb))); (try (replace HU := Aside0.mk (Kd.C_below HU.out hb))); replace HB := Aside0.mk (HB.out.trans (hb.mono HB.out.size)); clear hb)
      | (go_at_call 29; with_reducible refine (braidworklaw08_contains.calls AX cX X AY cY Y _ _ HX.out CX.out HY.out CY.out F7.out).mono ?_; rintro e w' ⟨rfl, hb⟩; (try (replace HX := Aside0.mk (Kd.C_below HX.out hb))); (try (replace HY := Aside0.mk (Kd.C_below HY.out hb))); (try (replace HZ := Aside0.mk (Kd.C_below HZ.out hb))); (try (replace HS := Aside0.mk (Kd.C_below HS.out hb))); (try (replace HM := Aside0.mk (Kd.C_below HM.out hb))); (try (replace HP := Aside0.mk (Kd.C_below HP.out hb))); (try (replace HQ := Aside0.mk (Kd.C_below HQ.out hb))); (try (replace HR := Aside0.mk (Kd.C_below HR.out hb))); (try (replace HT := Aside0.mk (Kd.C_below HT.out hb))); (try (replace HU := Aside0.mk (Kd.C_below HU.out hb))); replace HB := Aside0.mk (HB.out.trans (hb.mono HB.out.size)); clear hb)
      | (go_at_call 29; with_reducible refine (braidworklaw08_contains.calls AY cY Y AX cX X _ _ HY.out CY.out HX.out CX.out F8.out).mono ?_; rintro e w' ⟨rfl, hb⟩; (try (replace HX := Aside0.mk (Kd.C_below HX.out hb))); (try (replace HY := Aside0.mk (Kd.C_below HY.out hb))); (try (replace HZ := Aside0.mk (Kd.C_below HZ.out hb))); (try (replace HS := Aside0.mk (Kd.C_below HS.out hb))); (try (replace HM := Aside0.mk (Kd.C_below HM.out hb))); (try (replace HP := Aside0.mk (Kd.C_below HP.out hb))); (try (replace HQ := Aside0.mk (Kd.C_below HQ.out hb))); (try (replace HR := Aside0.mk (Kd.C_below HR.out hb))); (try (replace HT := Aside0.mk (Kd.C_below HT.out hb))); (try (replace HU := Aside0.mk (Kd.C_below HU.out hb))); replace HB := Aside0.mk (HB.out.trans (hb.mono HB.out.size)); clear hb)
      | (go_at_call 29; with_reducible refine (braidworklaw08_contains.calls AY cY Y AZ cZ Z _ _ HY.out CY.out HZ.out CZ.out F9.out).mono ?_; rintro e w' ⟨rfl, hb⟩; (try (replace HX := Aside0.mk (Kd.C_below HX.out hb))); (try (replace HY := Aside0.mk (Kd.C_below HY.out hb))); (try (replace HZ := Aside0.mk (Kd.C_below HZ.out hb))); (try (replace HS := Aside0.mk (Kd.C_below HS.out hb))); (try (replace HM := Aside0.mk (Kd.C_below HM.out hb))); (try (replace HP := Aside0.mk (Kd.C_below HP.out hb))); (try (replace HQ := Aside0.mk (Kd.C_below HQ.out hb))); (try (replace HR := Aside0.mk (Kd.C_below HR.out hb))); (try (replace HT := Aside0.mk (Kd.C_below HT.out hb))); (try (replace HU := Aside0.mk (Kd.C_below HU.out hb))); replace HB := Aside0.mk (HB.out.trans (hb.mono HB.out.size)); clear hb)
      | (go_at_call 29; with_reducible refine (braidworklaw08_contains.calls AX cX X AZ cZ Z _ _ HX.out CX.out HZ.out CZ.out F10.out).mono ?_; rintro e w' ⟨rfl, hb⟩; (try (replace HX := Aside0.mk (Kd.C_below HX.out hb))); (try (replace HY := Aside0.mk (Kd.C_below HY.out hb))); (try (replace HZ := Aside0.mk (Kd.C_below HZ.out hb))); (try (replace HS := Aside0.mk (Kd.C_below HS.out hb))); (try (replace HM := Aside0.mk (Kd.C_below HM.out hb))); (try (replace HP := Aside0.mk (Kd.C_below HP.out hb))); (try (replace HQ := Aside0.mk (Kd.C_below HQ.out hb))); (try (replace HR := Aside0.mk (Kd.C_below HR.out hb))); (try (replace HT := Aside0.mk (Kd.C_below HT.out hb))); (try (replace HU := Aside0.mk (Kd.C_below HU.out hb))); replace HB := Aside0.mk (HB.out.trans (hb.mono HB.out.size)); clear hb)
      | (go_at_call 26; with_reducible refine (braidworklaw08_wakes.calls true _ wakes_ok).mono ?_; rintro e w' ⟨rfl, hb⟩; (try (replace HX := Aside0.mk (Kd.C_below HX.out hb))); (try (replace HY := Aside0.mk (Kd.C_below HY.out hb))); (try (replace HZ := Aside0.mk (Kd.C_below HZ.out hb))); (try (replace HS := Aside0.mk (Kd.C_below HS.out hb))); (try (replace HM := Aside0.mk (Kd.C_below HM.out hb))); (try (replace HP := Aside0.mk (Kd.C_below HP.out hb))); (try (replace HQ := Aside0.mk (Kd.C_below HQ.out hb))); (try (replace HR := Aside0.mk (Kd.C_below HR.out hb))); (try (replace HT := Aside0.mk (Kd.C_below HT.out hb))); (try (replace HU := Aside0.mk (Kd.C_below HU.out hb))); replace HB := Aside0.mk (HB.out.trans (hb.mono HB.out.size)); clear hb))
    go_ret
    exact ⟨rfl, HB.out⟩
  | true =>
    cases cyx with
    | false =>
      cases cyz with
      | false =>
        go_wp2_with (first
          | (go_at_call 32; with_reducible refine (matrix_Reduce.calls AX cX X rx 0 _ HX.out CX.out F1.out).mono ?_; rintro e w' ⟨v_, rfl, ho_, hb⟩; obtain ⟨AR, cR, rfl⟩ := Kd.S_slice ho_; have HR := Aside0.mk (Kd.S_reads' ho_).2.2; have CR := Aside0.mk (Kd.S_reads' ho_).2.1; clear ho_; (try (replace HX := Aside0.mk (Kd.C_below HX.out hb))); (try (replace HY := Aside0.mk (Kd.C_below HY.out hb))); (try (replace HZ := Aside0.mk (Kd.C_below HZ.out hb))); (try (replace HS := Aside0.mk (Kd.C_below HS.out hb))); (try (replace HM := Aside0.mk (Kd.C_below HM.out hb))); (try (replace HP := Aside0.mk (Kd.C_below HP.out hb))); (try (replace HQ := Aside0.mk (Kd.C_below HQ.out hb))); (try (replace HT := Aside0.mk (Kd.C_below HT.out hb))); (try (replace HU := Aside0.mk (Kd.C_below HU.out hb))); replace HB := Aside0.mk (HB.out.trans (hb.mono HB.out.size)); clear hb)
          | (go_at_call 32; with_reducible refine (matrix_Reduce.calls AY cY Y ry 0 _ HY.out CY.out F2.out).mono ?_; rintro e w' ⟨v_, rfl, ho_, hb⟩; obtain ⟨AQ, cQ, rfl⟩ := Kd.S_slice ho_; have HQ := Aside0.mk (Kd.S_reads' ho_).2.2; have CQ := Aside0.mk (Kd.S_reads' ho_).2.1; clear ho_; (try (replace HX := Aside0.mk (Kd.C_below HX.out hb))); (try (replace HY := Aside0.mk (Kd.C_below HY.out hb))); (try (replace HZ := Aside0.mk (Kd.C_below HZ.out hb))); (try (replace HS := Aside0.mk (Kd.C_below HS.out hb))); (try (replace HM := Aside0.mk (Kd.C_below HM.out hb))); (try (replace HP := Aside0.mk (Kd.C_below HP.out hb))); (try (replace HR := Aside0.mk (Kd.C_below HR.out hb))); (try (replace HT := Aside0.mk (Kd.C_below HT.out hb))); (try (replace HU := Aside0.mk (Kd.C_below HU.out hb))); replace HB := Aside0.mk (HB.out.trans (hb.mono HB.out.size)); clear hb)
          | (go_at_call 18; with_reducible refine (span_Same.calls AX cX X AY cY Y _ 0 _ HX.out CX.out HY.out CY.out F3.out).mono ?_; rintro e w' ⟨rfl, hb⟩; (try (replace HX := Aside0.mk (Kd.C_below HX.out hb))); (try (replace HY := Aside0.mk (Kd.C_below HY.out hb))); (try (replace HZ := Aside0.mk (Kd.C_below HZ.out hb))); (try (replace HS := Aside0.mk (Kd.C_below HS.out hb))); (try (replace HM := Aside0.mk (Kd.C_below HM.out hb))); (try (replace HP := Aside0.mk (Kd.C_below HP.out hb))); (try (replace HQ := Aside0.mk (Kd.C_below HQ.out hb))); (try (replace HR := Aside0.mk (Kd.C_below HR.out hb))); (try (replace HT := Aside0.mk (Kd.C_below HT.out hb))); (try (replace HU := Aside0.mk (Kd.C_below HU.out hb))); replace HB := Aside0.mk (HB.out.trans (hb.mono HB.out.size)); clear hb)
          | (go_at_call 29; with_reducible refine (con_nil AX cX X _ _ HX.out CX.out F5.out).mono ?_; rintro e w' ⟨rfl, hb⟩; (try (replace HX := Aside0.mk (Kd.C_below HX.out hb))); (try (replace HY := Aside0.mk (Kd.C_below HY.out hb))); (try (replace HZ := Aside0.mk (Kd.C_below HZ.out hb))); (try (replace HS := Aside0.mk (Kd.C_below HS.out hb))); (try (replace HM := Aside0.mk (Kd.C_below HM.out hb))); (try (replace HP := Aside0.mk (Kd.C_below HP.out hb))); (try (replace HQ := Aside0.mk (Kd.C_below HQ.out hb))); (try (replace HR := Aside0.mk (Kd.C_below HR.out hb))); (try (replace HT := Aside0.mk (Kd.C_below HT.out hb))); (try (replace HU := Aside0.mk (Kd.C_below HU.out hb))); replace HB := Aside0.mk (HB.out.trans (hb.mono HB.out.size)); clear hb)
          | (go_at_call 29; with_reducible refine (braidworklaw08_contains.calls AX cX X AX cX X _ _ HX.out CX.out HX.out CX.out F4.out).mono ?_; rintro e w' ⟨rfl, hb⟩; (try (replace HX := Aside0.mk (Kd.C_below HX.out hb))); (try (replace HY := Aside0.mk (Kd.C_below HY.out hb))); (try (replace HZ := Aside0.mk (Kd.C_below HZ.out hb))); (try (replace HS := Aside0.mk (Kd.C_below HS.out hb))); (try (replace HM := Aside0.mk (Kd.C_below HM.out hb))); (try (replace HP := Aside0.mk (Kd.C_below HP.out hb))); (try (replace HQ := Aside0.mk (Kd.C_below HQ.out hb))); (try (replace HR := Aside0.mk (Kd.C_below HR.out hb))); (try (replace HT := Aside0.mk (Kd.C_below HT.out hb))); (try (replace HU := Aside0.mk (Kd.C_below HU.out hb))); replace HB := Aside0.mk (HB.out.trans (hb.mono HB.out.size)); clear hb)
          | (go_at_call 28; with_reducible refine (matrix_Same.calls AR cR rx AQ cQ ry _ _ HR.out CR.out HQ.out CQ.out F6.out).mono ?_; rintro e w' ⟨rfl, hd⟩; have hb := hd.below; clear hd; (try (replace HX := Aside0.mk (Kd.C_below HX.out hb))); (try (replace HY := Aside0.mk (Kd.C_below HY.out hb))); (try (replace HZ := Aside0.mk (Kd.C_below HZ.out hb))); (try (replace HS := Aside0.mk (Kd.C_below HS.out hb))); (try (replace HM := Aside0.mk (Kd.C_below HM.out hb))); (try (replace HP := Aside0.mk (Kd.C_below HP.out hb))); (try (replace HQ := Aside0.mk (Kd.C_below HQ.out hb))); (try (replace HR := Aside0.mk (Kd.C_below HR.out hb))); (try (replace HT := Aside0.mk (Kd.C_below HT.out hb))); (try (replace HU := Aside0.mk (Kd.C_below HU.out hb))); replace HB := Aside0.mk (HB.out.trans (hb.mono HB.out.size)); clear hb)
          | (go_at_call 29; with_reducible refine (braidworklaw08_contains.calls AX cX X AY cY Y _ _ HX.out CX.out HY.out CY.out F7.out).mono ?_; rintro e w' ⟨rfl, hb⟩; (try (replace HX := Aside0.mk (Kd.C_below HX.out hb))); (try (replace HY := Aside0.mk (Kd.C_below HY.out hb))); (try (replace HZ := Aside0.mk (Kd.C_below HZ.out hb))); (try (replace HS := Aside0.mk (Kd.C_below HS.out hb))); (try (replace HM := Aside0.mk (Kd.C_below HM.out hb))); (try (replace HP := Aside0.mk (Kd.C_below HP.out hb))); (try (replace HQ := Aside0.mk (Kd.C_below HQ.out hb))); (try (replace HR := Aside0.mk (Kd.C_below HR.out hb))); (try (replace HT := Aside0.mk (Kd.C_below HT.out hb))); (try (replace HU := Aside0.mk (Kd.C_below HU.out hb))); replace HB := Aside0.mk (HB.out.trans (hb.mono HB.out.size)); clear hb)
          | (go_at_call 29; with_reducible refine (braidworklaw08_contains.calls AY cY Y AX cX X _ _ HY.out CY.out HX.out CX.out F8.out).mono ?_; rintro e w' ⟨rfl, hb⟩; (try (replace HX := Aside0.mk (Kd.C_below HX.out hb))); (try (replace HY := Aside0.mk (Kd.C_below HY.out hb))); (try (replace HZ := Aside0.mk (Kd.C_below HZ.out hb))); (try (replace HS := Aside0.mk (Kd.C_below HS.out hb))); (try (replace HM := Aside0.mk (Kd.C_below HM.out hb))); (try (replace HP := Aside0.mk (Kd.C_below HP.out hb))); (try (replace HQ := Aside0.mk (Kd.C_below HQ.out hb))); (try (replace HR := Aside0.mk (Kd.C_below HR.out hb))); (try (replace HT := Aside0.mk (Kd.C_below HT.out hb))); (try (replace HU := Aside0.mk (Kd.C_below HU.out hb))); replace HB := Aside0.mk (HB.out.trans (hb.mono HB.out.size)); clear hb)
          | (go_at_call 29; with_reducible refine (braidworklaw08_contains.calls AY cY Y AZ cZ Z _ _ HY.out CY.out HZ.out CZ.out F9.out).mono ?_; rintro e w' ⟨rfl, hb⟩; (try (replace HX := Aside0.mk (Kd.C_below HX.out hb))); (try (replace HY := Aside0.mk (Kd.C_below HY.out hb))); (try (replace HZ := Aside0.mk (Kd.C_below HZ.out hb))); (try (replace HS := Aside0.mk (Kd.C_below HS.out hb))); (try (replace HM := Aside0.mk (Kd.C_below HM.out hb))); (try (replace HP := Aside0.mk (Kd.C_below HP.out hb))); (try (replace HQ := Aside0.mk (Kd.C_below HQ.out hb))); (try (replace HR := Aside0.mk (Kd.C_below HR.out hb))); (try (replace HT := Aside0.mk (Kd.C_below HT.out hb))); (try (replace HU := Aside0.mk (Kd.C_below HU.out hb))); replace HB := Aside0.mk (HB.out.trans (hb.mono HB.out.size)); clear hb)
          | (go_at_call 29; with_reducible refine (braidworklaw08_contains.calls AX cX X AZ cZ Z _ _ HX.out CX.out HZ.out CZ.out F10.out).mono ?_; rintro e w' ⟨rfl, hb⟩; (try (replace HX := Aside0.mk (Kd.C_below HX.out hb))); (try (replace HY := Aside0.mk (Kd.C_below HY.out hb))); (try (replace HZ := Aside0.mk (Kd.C_below HZ.out hb))); (try (replace HS := Aside0.mk (Kd.C_below HS.out hb))); (try (replace HM := Aside0.mk (Kd.C_below HM.out hb))); (try (replace HP := Aside0.mk (Kd.C_below HP.out hb))); (try (replace HQ := Aside0.mk (Kd.C_below HQ.out hb))); (try (replace HR := Aside0.mk (Kd.C_below HR.out hb))); (try (replace HT := Aside0.mk (Kd.C_below HT.out hb))); (try (replace HU := Aside0.mk (Kd.C_below HU.out hb))); replace HB := Aside0.mk (HB.out.trans (hb.mono HB.out.size)); clear hb)
          | (go_at_call 26; with_reducible refine (braidworklaw08_wakes.calls true _ wakes_ok).mono ?_; rintro e w' ⟨rfl, hb⟩; (try (replace HX := Aside0.mk (Kd.C_below HX.out hb))); (try (replace HY := Aside0.mk (Kd.C_below HY.out hb))); (try (replace HZ := Aside0.mk (Kd.C_below HZ.out hb))); (try (replace HS := Aside0.mk (Kd.C_below HS.out hb))); (try (replace HM := Aside0.mk (Kd.C_below HM.out hb))); (try (replace HP := Aside0.mk (Kd.C_below HP.out hb))); (try (replace HQ := Aside0.mk (Kd.C_below HQ.out hb))); (try (replace HR := Aside0.mk (Kd.C_below HR.out hb))); (try (replace HT := Aside0.mk (Kd.C_below HT.out hb))); (try (replace HU := Aside0.mk (Kd.C_below HU.out hb))); replace HB := Aside0.mk (HB.out.trans (hb.mono HB.out.size)); clear hb))
        go_ret
        exact ⟨rfl, HB.out⟩
      | true =>
        obtain rfl := himp rfl rfl
        go_wp2_with (first
          | (go_at_call 32; with_reducible refine (matrix_Reduce.calls AX cX X rx 0 _ HX.out CX.out F1.out).mono ?_; rintro e w' ⟨v_, rfl, ho_, hb⟩; obtain ⟨AR, cR, rfl⟩ := Kd.S_slice ho_; have HR := Aside0.mk (Kd.S_reads' ho_).2.2; have CR := Aside0.mk (Kd.S_reads' ho_).2.1; clear ho_; (try (replace HX := Aside0.mk (Kd.C_below HX.out hb))); (try (replace HY := Aside0.mk (Kd.C_below HY.out hb))); (try (replace HZ := Aside0.mk (Kd.C_below HZ.out hb))); (try (replace HS := Aside0.mk (Kd.C_below HS.out hb))); (try (replace HM := Aside0.mk (Kd.C_below HM.out hb))); (try (replace HP := Aside0.mk (Kd.C_below HP.out hb))); (try (replace HQ := Aside0.mk (Kd.C_below HQ.out hb))); (try (replace HT := Aside0.mk (Kd.C_below HT.out hb))); (try (replace HU := Aside0.mk (Kd.C_below HU.out hb))); replace HB := Aside0.mk (HB.out.trans (hb.mono HB.out.size)); clear hb)
          | (go_at_call 32; with_reducible refine (matrix_Reduce.calls AY cY Y ry 0 _ HY.out CY.out F2.out).mono ?_; rintro e w' ⟨v_, rfl, ho_, hb⟩; obtain ⟨AQ, cQ, rfl⟩ := Kd.S_slice ho_; have HQ := Aside0.mk (Kd.S_reads' ho_).2.2; have CQ := Aside0.mk (Kd.S_reads' ho_).2.1; clear ho_; (try (replace HX := Aside0.mk (Kd.C_below HX.out hb))); (try (replace HY := Aside0.mk (Kd.C_below HY.out hb))); (try (replace HZ := Aside0.mk (Kd.C_below HZ.out hb))); (try (replace HS := Aside0.mk (Kd.C_below HS.out hb))); (try (replace HM := Aside0.mk (Kd.C_below HM.out hb))); (try (replace HP := Aside0.mk (Kd.C_below HP.out hb))); (try (replace HR := Aside0.mk (Kd.C_below HR.out hb))); (try (replace HT := Aside0.mk (Kd.C_below HT.out hb))); (try (replace HU := Aside0.mk (Kd.C_below HU.out hb))); replace HB := Aside0.mk (HB.out.trans (hb.mono HB.out.size)); clear hb)
          | (go_at_call 18; with_reducible refine (span_Same.calls AX cX X AY cY Y _ 0 _ HX.out CX.out HY.out CY.out F3.out).mono ?_; rintro e w' ⟨rfl, hb⟩; (try (replace HX := Aside0.mk (Kd.C_below HX.out hb))); (try (replace HY := Aside0.mk (Kd.C_below HY.out hb))); (try (replace HZ := Aside0.mk (Kd.C_below HZ.out hb))); (try (replace HS := Aside0.mk (Kd.C_below HS.out hb))); (try (replace HM := Aside0.mk (Kd.C_below HM.out hb))); (try (replace HP := Aside0.mk (Kd.C_below HP.out hb))); (try (replace HQ := Aside0.mk (Kd.C_below HQ.out hb))); (try (replace HR := Aside0.mk (Kd.C_below HR.out hb))); (try (replace HT := Aside0.mk (Kd.C_below HT.out hb))); (try (replace HU := Aside0.mk (Kd.C_below HU.out hb))); replace HB := Aside0.mk (HB.out.trans (hb.mono HB.out.size)); clear hb)
          | (go_at_call 29; with_reducible refine (con_nil AX cX X _ _ HX.out CX.out F5.out).mono ?_; rintro e w' ⟨rfl, hb⟩; (try (replace HX := Aside0.mk (Kd.C_below HX.out hb))); (try (replace HY := Aside0.mk (Kd.C_below HY.out hb))); (try (replace HZ := Aside0.mk (Kd.C_below HZ.out hb))); (try (replace HS := Aside0.mk (Kd.C_below HS.out hb))); (try (replace HM := Aside0.mk (Kd.C_below HM.out hb))); (try (replace HP := Aside0.mk (Kd.C_below HP.out hb))); (try (replace HQ := Aside0.mk (Kd.C_below HQ.out hb))); (try (replace HR := Aside0.mk (Kd.C_below HR.out hb))); (try (replace HT := Aside0.mk (Kd.C_below HT.out hb))); (try (replace HU := Aside0.mk (Kd.C_below HU.out hb))); replace HB := Aside0.mk (HB.out.trans (hb.mono HB.out.size)); clear hb)
          | (go_at_call 29; with_reducible refine (braidworklaw08_contains.calls AX cX X AX cX X _ _ HX.out CX.out HX.out CX.out F4.out).mono ?_; rintro e w' ⟨rfl, hb⟩; (try (replace HX := Aside0.mk (Kd.C_below HX.out hb))); (try (replace HY := Aside0.mk (Kd.C_below HY.out hb))); (try (replace HZ := Aside0.mk (Kd.C_below HZ.out hb))); (try (replace HS := Aside0.mk (Kd.C_below HS.out hb))); (try (replace HM := Aside0.mk (Kd.C_below HM.out hb))); (try (replace HP := Aside0.mk (Kd.C_below HP.out hb))); (try (replace HQ := Aside0.mk (Kd.C_below HQ.out hb))); (try (replace HR := Aside0.mk (Kd.C_below HR.out hb))); (try (replace HT := Aside0.mk (Kd.C_below HT.out hb))); (try (replace HU := Aside0.mk (Kd.C_below HU.out hb))); replace HB := Aside0.mk (HB.out.trans (hb.mono HB.out.size)); clear hb)
          | (go_at_call 28; with_reducible refine (matrix_Same.calls AR cR rx AQ cQ ry _ _ HR.out CR.out HQ.out CQ.out F6.out).mono ?_; rintro e w' ⟨rfl, hd⟩; have hb := hd.below; clear hd; (try (replace HX := Aside0.mk (Kd.C_below HX.out hb))); (try (replace HY := Aside0.mk (Kd.C_below HY.out hb))); (try (replace HZ := Aside0.mk (Kd.C_below HZ.out hb))); (try (replace HS := Aside0.mk (Kd.C_below HS.out hb))); (try (replace HM := Aside0.mk (Kd.C_below HM.out hb))); (try (replace HP := Aside0.mk (Kd.C_below HP.out hb))); (try (replace HQ := Aside0.mk (Kd.C_below HQ.out hb))); (try (replace HR := Aside0.mk (Kd.C_below HR.out hb))); (try (replace HT := Aside0.mk (Kd.C_below HT.out hb))); (try (replace HU := Aside0.mk (Kd.C_below HU.out hb))); replace HB := Aside0.mk (HB.out.trans (hb.mono HB.out.size)); clear hb)
          | (go_at_call 29; with_reducible refine (braidworklaw08_contains.calls AX cX X AY cY Y _ _ HX.out CX.out HY.out CY.out F7.out).mono ?_; rintro e w' ⟨rfl, hb⟩; (try (replace HX := Aside0.mk (Kd.C_below HX.out hb))); (try (replace HY := Aside0.mk (Kd.C_below HY.out hb))); (try (replace HZ := Aside0.mk (Kd.C_below HZ.out hb))); (try (replace HS := Aside0.mk (Kd.C_below HS.out hb))); (try (replace HM := Aside0.mk (Kd.C_below HM.out hb))); (try (replace HP := Aside0.mk (Kd.C_below HP.out hb))); (try (replace HQ := Aside0.mk (Kd.C_below HQ.out hb))); (try (replace HR := Aside0.mk (Kd.C_below HR.out hb))); (try (replace HT := Aside0.mk (Kd.C_below HT.out hb))); (try (replace HU := Aside0.mk (Kd.C_below HU.out hb))); replace HB := Aside0.mk (HB.out.trans (hb.mono HB.out.size)); clear hb)
          | (go_at_call 29; with_reducible refine (braidworklaw08_contains.calls AY cY Y AX cX X _ _ HY.out CY.out HX.out CX.out F8.out).mono ?_; rintro e w' ⟨rfl, hb⟩; (try (replace HX := Aside0.mk (Kd.C_below HX.out hb))); (try (replace HY := Aside0.mk (Kd.C_below HY.out hb))); (try (replace HZ := Aside0.mk (Kd.C_below HZ.out hb))); (try (replace HS := Aside0.mk (Kd.C_below HS.out hb))); (try (replace HM := Aside0.mk (Kd.C_below HM.out hb))); (try (replace HP := Aside0.mk (Kd.C_below HP.out hb))); (try (replace HQ := Aside0.mk (Kd.C_below HQ.out hb))); (try (replace HR := Aside0.mk (Kd.C_below HR.out hb))); (try (replace HT := Aside0.mk (Kd.C_below HT.out hb))); (try (replace HU := Aside0.mk (Kd.C_below HU.out hb))); replace HB := Aside0.mk (HB.out.trans (hb.mono HB.out.size)); clear hb)
          | (go_at_call 29; with_reducible refine (braidworklaw08_contains.calls AY cY Y AZ cZ Z _ _ HY.out CY.out HZ.out CZ.out F9.out).mono ?_; rintro e w' ⟨rfl, hb⟩; (try (replace HX := Aside0.mk (Kd.C_below HX.out hb))); (try (replace HY := Aside0.mk (Kd.C_below HY.out hb))); (try (replace HZ := Aside0.mk (Kd.C_below HZ.out hb))); (try (replace HS := Aside0.mk (Kd.C_below HS.out hb))); (try (replace HM := Aside0.mk (Kd.C_below HM.out hb))); (try (replace HP := Aside0.mk (Kd.C_below HP.out hb))); (try (replace HQ := Aside0.mk (Kd.C_below HQ.out hb))); (try (replace HR := Aside0.mk (Kd.C_below HR.out hb))); (try (replace HT := Aside0.mk (Kd.C_below HT.out hb))); (try (replace HU := Aside0.mk (Kd.C_below HU.out hb))); replace HB := Aside0.mk (HB.out.trans (hb.mono HB.out.size)); clear hb)
          | (go_at_call 29; with_reducible refine (braidworklaw08_contains.calls AX cX X AZ cZ Z _ _ HX.out CX.out HZ.out CZ.out F10.out).mono ?_; rintro e w' ⟨rfl, hb⟩; (try (replace HX := Aside0.mk (Kd.C_below HX.out hb))); (try (replace HY := Aside0.mk (Kd.C_below HY.out hb))); (try (replace HZ := Aside0.mk (Kd.C_below HZ.out hb))); (try (replace HS := Aside0.mk (Kd.C_below HS.out hb))); (try (replace HM := Aside0.mk (Kd.C_below HM.out hb))); (try (replace HP := Aside0.mk (Kd.C_below HP.out hb))); (try (replace HQ := Aside0.mk (Kd.C_below HQ.out hb))); (try (replace HR := Aside0.mk (Kd.C_below HR.out hb))); (try (replace HT := Aside0.mk (Kd.C_below HT.out hb))); (try (replace HU := Aside0.mk (Kd.C_below HU.out hb))); replace HB := Aside0.mk (HB.out.trans (hb.mono HB.out.size)); clear hb)
          | (go_at_call 26; with_reducible refine (braidworklaw08_wakes.calls true _ wakes_ok).mono ?_; rintro e w' ⟨rfl, hb⟩; (try (replace HX := Aside0.mk (Kd.C_below HX.out hb))); (try (replace HY := Aside0.mk (Kd.C_below HY.out hb))); (try (replace HZ := Aside0.mk (Kd.C_below HZ.out hb))); (try (replace HS := Aside0.mk (Kd.C_below HS.out hb))); (try (replace HM := Aside0.mk (Kd.C_below HM.out hb))); (try (replace HP := Aside0.mk (Kd.C_below HP.out hb))); (try (replace HQ := Aside0.mk (Kd.C_below HQ.out hb))); (try (replace HR := Aside0.mk (Kd.C_below HR.out hb))); (try (replace HT := Aside0.mk (Kd.C_below HT.out hb))); (try (replace HU := Aside0.mk (Kd.C_below HU.out hb))); replace HB := Aside0.mk (HB.out.trans (hb.mono HB.out.size)); clear hb))
        go_ret
        exact ⟨rfl, HB.out⟩
    | true =>
      cases cyz with
      | false =>
        go_wp2_with (first
          | (go_at_call 32; with_reducible refine (matrix_Reduce.calls AX cX X rx 0 _ HX.out CX.out F1.out).mono ?_; rintro e w' ⟨v_, rfl, ho_, hb⟩; obtain ⟨AR, cR, rfl⟩ := Kd.S_slice ho_; have HR := Aside0.mk (Kd.S_reads' ho_).2.2; have CR := Aside0.mk (Kd.S_reads' ho_).2.1; clear ho_; (try (replace HX := Aside0.mk (Kd.C_below HX.out hb))); (try (replace HY := Aside0.mk (Kd.C_below HY.out hb))); (try (replace HZ := Aside0.mk (Kd.C_below HZ.out hb))); (try (replace HS := Aside0.mk (Kd.C_below HS.out hb))); (try (replace HM := Aside0.mk (Kd.C_below HM.out hb))); (try (replace HP := Aside0.mk (Kd.C_below HP.out hb))); (try (replace HQ := Aside0.mk (Kd.C_below HQ.out hb))); (try (replace HT := Aside0.mk (Kd.C_below HT.out hb))); (try (replace HU := Aside0.mk (Kd.C_below HU.out hb))); replace HB := Aside0.mk (HB.out.trans (hb.mono HB.out.size)); clear hb)
          | (go_at_call 32; with_reducible refine (matrix_Reduce.calls AY cY Y ry 0 _ HY.out CY.out F2.out).mono ?_; rintro e w' ⟨v_, rfl, ho_, hb⟩; obtain ⟨AQ, cQ, rfl⟩ := Kd.S_slice ho_; have HQ := Aside0.mk (Kd.S_reads' ho_).2.2; have CQ := Aside0.mk (Kd.S_reads' ho_).2.1; clear ho_; (try (replace HX := Aside0.mk (Kd.C_below HX.out hb))); (try (replace HY := Aside0.mk (Kd.C_below HY.out hb))); (try (replace HZ := Aside0.mk (Kd.C_below HZ.out hb))); (try (replace HS := Aside0.mk (Kd.C_below HS.out hb))); (try (replace HM := Aside0.mk (Kd.C_below HM.out hb))); (try (replace HP := Aside0.mk (Kd.C_below HP.out hb))); (try (replace HR := Aside0.mk (Kd.C_below HR.out hb))); (try (replace HT := Aside0.mk (Kd.C_below HT.out hb))); (try (replace HU := Aside0.mk (Kd.C_below HU.out hb))); replace HB := Aside0.mk (HB.out.trans (hb.mono HB.out.size)); clear hb)
          | (go_at_call 18; with_reducible refine (span_Same.calls AX cX X AY cY Y _ 0 _ HX.out CX.out HY.out CY.out F3.out).mono ?_; rintro e w' ⟨rfl, hb⟩; (try (replace HX := Aside0.mk (Kd.C_below HX.out hb))); (try (replace HY := Aside0.mk (Kd.C_below HY.out hb))); (try (replace HZ := Aside0.mk (Kd.C_below HZ.out hb))); (try (replace HS := Aside0.mk (Kd.C_below HS.out hb))); (try (replace HM := Aside0.mk (Kd.C_below HM.out hb))); (try (replace HP := Aside0.mk (Kd.C_below HP.out hb))); (try (replace HQ := Aside0.mk (Kd.C_below HQ.out hb))); (try (replace HR := Aside0.mk (Kd.C_below HR.out hb))); (try (replace HT := Aside0.mk (Kd.C_below HT.out hb))); (try (replace HU := Aside0.mk (Kd.C_below HU.out hb))); replace HB := Aside0.mk (HB.out.trans (hb.mono HB.out.size)); clear hb)
          | (go_at_call 29; with_reducible refine (con_nil AX cX X _ _ HX.out CX.out F5.out).mono ?_; rintro e w' ⟨rfl, hb⟩; (try (replace HX := Aside0.mk (Kd.C_below HX.out hb))); (try (replace HY := Aside0.mk (Kd.C_below HY.out hb))); (try (replace HZ := Aside0.mk (Kd.C_below HZ.out hb))); (try (replace HS := Aside0.mk (Kd.C_below HS.out hb))); (try (replace HM := Aside0.mk (Kd.C_below HM.out hb))); (try (replace HP := Aside0.mk (Kd.C_below HP.out hb))); (try (replace HQ := Aside0.mk (Kd.C_below HQ.out hb))); (try (replace HR := Aside0.mk (Kd.C_below HR.out hb))); (try (replace HT := Aside0.mk (Kd.C_below HT.out hb))); (try (replace HU := Aside0.mk (Kd.C_below HU.out hb))); replace HB := Aside0.mk (HB.out.trans (hb.mono HB.out.size)); clear hb)
          | (go_at_call 29; with_reducible refine (braidworklaw08_contains.calls AX cX X AX cX X _ _ HX.out CX.out HX.out CX.out F4.out).mono ?_; rintro e w' ⟨rfl, hb⟩; (try (replace HX := Aside0.mk (Kd.C_below HX.out hb))); (try (replace HY := Aside0.mk (Kd.C_below HY.out hb))); (try (replace HZ := Aside0.mk (Kd.C_below HZ.out hb))); (try (replace HS := Aside0.mk (Kd.C_below HS.out hb))); (try (replace HM := Aside0.mk (Kd.C_below HM.out hb))); (try (replace HP := Aside0.mk (Kd.C_below HP.out hb))); (try (replace HQ := Aside0.mk (Kd.C_below HQ.out hb))); (try (replace HR := Aside0.mk (Kd.C_below HR.out hb))); (try (replace HT := Aside0.mk (Kd.C_below HT.out hb))); (try (replace HU := Aside0.mk (Kd.C_below HU.out hb))); replace HB := Aside0.mk (HB.out.trans (hb.mono HB.out.size)); clear hb)
          | (go_at_call 28; with_reducible refine (matrix_Same.calls AR cR rx AQ cQ ry _ _ HR.out CR.out HQ.out CQ.out F6.out).mono ?_; rintro e w' ⟨rfl, hd⟩; have hb := hd.below; clear hd; (try (replace HX := Aside0.mk (Kd.C_below HX.out hb))); (try (replace HY := Aside0.mk (Kd.C_below HY.out hb))); (try (replace HZ := Aside0.mk (Kd.C_below HZ.out hb))); (try (replace HS := Aside0.mk (Kd.C_below HS.out hb))); (try (replace HM := Aside0.mk (Kd.C_below HM.out hb))); (try (replace HP := Aside0.mk (Kd.C_below HP.out hb))); (try (replace HQ := Aside0.mk (Kd.C_below HQ.out hb))); (try (replace HR := Aside0.mk (Kd.C_below HR.out hb))); (try (replace HT := Aside0.mk (Kd.C_below HT.out hb))); (try (replace HU := Aside0.mk (Kd.C_below HU.out hb))); replace HB := Aside0.mk (HB.out.trans (hb.mono HB.out.size)); clear hb)
          | (go_at_call 29; with_reducible refine (braidworklaw08_contains.calls AX cX X AY cY Y _ _ HX.out CX.out HY.out CY.out F7.out).mono ?_; rintro e w' ⟨rfl, hb⟩; (try (replace HX := Aside0.mk (Kd.C_below HX.out hb))); (try (replace HY := Aside0.mk (Kd.C_below HY.out hb))); (try (replace HZ := Aside0.mk (Kd.C_below HZ.out hb))); (try (replace HS := Aside0.mk (Kd.C_below HS.out hb))); (try (replace HM := Aside0.mk (Kd.C_below HM.out hb))); (try (replace HP := Aside0.mk (Kd.C_below HP.out hb))); (try (replace HQ := Aside0.mk (Kd.C_below HQ.out hb))); (try (replace HR := Aside0.mk (Kd.C_below HR.out hb))); (try (replace HT := Aside0.mk (Kd.C_below HT.out hb))); (try (replace HU := Aside0.mk (Kd.C_below HU.out hb))); replace HB := Aside0.mk (HB.out.trans (hb.mono HB.out.size)); clear hb)
          | (go_at_call 29; with_reducible refine (braidworklaw08_contains.calls AY cY Y AX cX X _ _ HY.out CY.out HX.out CX.out F8.out).mono ?_; rintro e w' ⟨rfl, hb⟩; (try (replace HX := Aside0.mk (Kd.C_below HX.out hb))); (try (replace HY := Aside0.mk (Kd.C_below HY.out hb))); (try (replace HZ := Aside0.mk (Kd.C_below HZ.out hb))); (try (replace HS := Aside0.mk (Kd.C_below HS.out hb))); (try (replace HM := Aside0.mk (Kd.C_below HM.out hb))); (try (replace HP := Aside0.mk (Kd.C_below HP.out hb))); (try (replace HQ := Aside0.mk (Kd.C_below HQ.out hb))); (try (replace HR := Aside0.mk (Kd.C_below HR.out hb))); (try (replace HT := Aside0.mk (Kd.C_below HT.out hb))); (try (replace HU := Aside0.mk (Kd.C_below HU.out hb))); replace HB := Aside0.mk (HB.out.trans (hb.mono HB.out.size)); clear hb)
          | (go_at_call 29; with_reducible refine (braidworklaw08_contains.calls AY cY Y AZ cZ Z _ _ HY.out CY.out HZ.out CZ.out F9.out).mono ?_; rintro e w' ⟨rfl, hb⟩; (try (replace HX := Aside0.mk (Kd.C_below HX.out hb))); (try (replace HY := Aside0.mk (Kd.C_below HY.out hb))); (try (replace HZ := Aside0.mk (Kd.C_below HZ.out hb))); (try (replace HS := Aside0.mk (Kd.C_below HS.out hb))); (try (replace HM := Aside0.mk (Kd.C_below HM.out hb))); (try (replace HP := Aside0.mk (Kd.C_below HP.out hb))); (try (replace HQ := Aside0.mk (Kd.C_below HQ.out hb))); (try (replace HR := Aside0.mk (Kd.C_below HR.out hb))); (try (replace HT := Aside0.mk (Kd.C_below HT.out hb))); (try (replace HU := Aside0.mk (Kd.C_below HU.out hb))); replace HB := Aside0.mk (HB.out.trans (hb.mono HB.out.size)); clear hb)
          | (go_at_call 29; with_reducible refine (braidworklaw08_contains.calls AX cX X AZ cZ Z _ _ HX.out CX.out HZ.out CZ.out F10.out).mono ?_; rintro e w' ⟨rfl, hb⟩; (try (replace HX := Aside0.mk (Kd.C_below HX.out hb))); (try (replace HY := Aside0.mk (Kd.C_below HY.out hb))); (try (replace HZ := Aside0.mk (Kd.C_below HZ.out hb))); (try (replace HS := Aside0.mk (Kd.C_below HS.out hb))); (try (replace HM := Aside0.mk (Kd.C_below HM.out hb))); (try (replace HP := Aside0.mk (Kd.C_below HP.out hb))); (try (replace HQ := Aside0.mk (Kd.C_below HQ.out hb))); (try (replace HR := Aside0.mk (Kd.C_below HR.out hb))); (try (replace HT := Aside0.mk (Kd.C_below HT.out hb))); (try (replace HU := Aside0.mk (Kd.C_below HU.out hb))); replace HB := Aside0.mk (HB.out.trans (hb.mono HB.out.size)); clear hb)
          | (go_at_call 26; with_reducible refine (braidworklaw08_wakes.calls true _ wakes_ok).mono ?_; rintro e w' ⟨rfl, hb⟩; (try (replace HX := Aside0.mk (Kd.C_below HX.out hb))); (try (replace HY := Aside0.mk (Kd.C_below HY.out hb))); (try (replace HZ := Aside0.mk (Kd.C_below HZ.out hb))); (try (replace HS := Aside0.mk (Kd.C_below HS.out hb))); (try (replace HM := Aside0.mk (Kd.C_below HM.out hb))); (try (replace HP := Aside0.mk (Kd.C_below HP.out hb))); (try (replace HQ := Aside0.mk (Kd.C_below HQ.out hb))); (try (replace HR := Aside0.mk (Kd.C_below HR.out hb))); (try (replace HT := Aside0.mk (Kd.C_below HT.out hb))); (try (replace HU := Aside0.mk (Kd.C_below HU.out hb))); replace HB := Aside0.mk (HB.out.trans (hb.mono HB.out.size)); clear hb))
        go_ret
        exact ⟨rfl, HB.out⟩
      | true =>
        obtain rfl := himp rfl rfl
        go_wp2_with (first
          | (go_at_call 32; with_reducible refine (matrix_Reduce.calls AX cX X rx 0 _ HX.out CX.out F1.out).mono ?_; rintro e w' ⟨v_, rfl, ho_, hb⟩; obtain ⟨AR, cR, rfl⟩ := Kd.S_slice ho_; have HR := Aside0.mk (Kd.S_reads' ho_).2.2; have CR := Aside0.mk (Kd.S_reads' ho_).2.1; clear ho_; (try (replace HX := Aside0.mk (Kd.C_below HX.out hb))); (try (replace HY := Aside0.mk (Kd.C_below HY.out hb))); (try (replace HZ := Aside0.mk (Kd.C_below HZ.out hb))); (try (replace HS := Aside0.mk (Kd.C_below HS.out hb))); (try (replace HM := Aside0.mk (Kd.C_below HM.out hb))); (try (replace HP := Aside0.mk (Kd.C_below HP.out hb))); (try (replace HQ := Aside0.mk (Kd.C_below HQ.out hb))); (try (replace HT := Aside0.mk (Kd.C_below HT.out hb))); (try (replace HU := Aside0.mk (Kd.C_below HU.out hb))); replace HB := Aside0.mk (HB.out.trans (hb.mono HB.out.size)); clear hb)
          | (go_at_call 32; with_reducible refine (matrix_Reduce.calls AY cY Y ry 0 _ HY.out CY.out F2.out).mono ?_; rintro e w' ⟨v_, rfl, ho_, hb⟩; obtain ⟨AQ, cQ, rfl⟩ := Kd.S_slice ho_; have HQ := Aside0.mk (Kd.S_reads' ho_).2.2; have CQ := Aside0.mk (Kd.S_reads' ho_).2.1; clear ho_; (try (replace HX := Aside0.mk (Kd.C_below HX.out hb))); (try (replace HY := Aside0.mk (Kd.C_below HY.out hb))); (try (replace HZ := Aside0.mk (Kd.C_below HZ.out hb))); (try (replace HS := Aside0.mk (Kd.C_below HS.out hb))); (try (replace HM := Aside0.mk (Kd.C_below HM.out hb))); (try (replace HP := Aside0.mk (Kd.C_below HP.out hb))); (try (replace HR := Aside0.mk (Kd.C_below HR.out hb))); (try (replace HT := Aside0.mk (Kd.C_below HT.out hb))); (try (replace HU := Aside0.mk (Kd.C_below HU.out hb))); replace HB := Aside0.mk (HB.out.trans (hb.mono HB.out.size)); clear hb)
          | (go_at_call 18; with_reducible refine (span_Same.calls AX cX X AY cY Y _ 0 _ HX.out CX.out HY.out CY.out F3.out).mono ?_; rintro e w' ⟨rfl, hb⟩; (try (replace HX := Aside0.mk (Kd.C_below HX.out hb))); (try (replace HY := Aside0.mk (Kd.C_below HY.out hb))); (try (replace HZ := Aside0.mk (Kd.C_below HZ.out hb))); (try (replace HS := Aside0.mk (Kd.C_below HS.out hb))); (try (replace HM := Aside0.mk (Kd.C_below HM.out hb))); (try (replace HP := Aside0.mk (Kd.C_below HP.out hb))); (try (replace HQ := Aside0.mk (Kd.C_below HQ.out hb))); (try (replace HR := Aside0.mk (Kd.C_below HR.out hb))); (try (replace HT := Aside0.mk (Kd.C_below HT.out hb))); (try (replace HU := Aside0.mk (Kd.C_below HU.out hb))); replace HB := Aside0.mk (HB.out.trans (hb.mono HB.out.size)); clear hb)
          | (go_at_call 29; with_reducible refine (con_nil AX cX X _ _ HX.out CX.out F5.out).mono ?_; rintro e w' ⟨rfl, hb⟩; (try (replace HX := Aside0.mk (Kd.C_below HX.out hb))); (try (replace HY := Aside0.mk (Kd.C_below HY.out hb))); (try (replace HZ := Aside0.mk (Kd.C_below HZ.out hb))); (try (replace HS := Aside0.mk (Kd.C_below HS.out hb))); (try (replace HM := Aside0.mk (Kd.C_below HM.out hb))); (try (replace HP := Aside0.mk (Kd.C_below HP.out hb))); (try (replace HQ := Aside0.mk (Kd.C_below HQ.out hb))); (try (replace HR := Aside0.mk (Kd.C_below HR.out hb))); (try (replace HT := Aside0.mk (Kd.C_below HT.out hb))); (try (replace HU := Aside0.mk (Kd.C_below HU.out hb))); replace HB := Aside0.mk (HB.out.trans (hb.mono HB.out.size)); clear hb)
          | (go_at_call 29; with_reducible refine (braidworklaw08_contains.calls AX cX X AX cX X _ _ HX.out CX.out HX.out CX.out F4.out).mono ?_; rintro e w' ⟨rfl, hb⟩; (try (replace HX := Aside0.mk (Kd.C_below HX.out hb))); (try (replace HY := Aside0.mk (Kd.C_below HY.out hb))); (try (replace HZ := Aside0.mk (Kd.C_below HZ.out hb))); (try (replace HS := Aside0.mk (Kd.C_below HS.out hb))); (try (replace HM := Aside0.mk (Kd.C_below HM.out hb))); (try (replace HP := Aside0.mk (Kd.C_below HP.out hb))); (try (replace HQ := Aside0.mk (Kd.C_below HQ.out hb))); (try (replace HR := Aside0.mk (Kd.C_below HR.out hb))); (try (replace HT := Aside0.mk (Kd.C_below HT.out hb))); (try (replace HU := Aside0.mk (Kd.C_below HU.out hb))); replace HB := Aside0.mk (HB.out.trans (hb.mono HB.out.size)); clear hb)
          | (go_at_call 28; with_reducible refine (matrix_Same.calls AR cR rx AQ cQ ry _ _ HR.out CR.out HQ.out CQ.out F6.out).mono ?_; rintro e w' ⟨rfl, hd⟩; have hb := hd.below; clear hd; (try (replace HX := Aside0.mk (Kd.C_below HX.out hb))); (try (replace HY := Aside0.mk (Kd.C_below HY.out hb))); (try (replace HZ := Aside0.mk (Kd.C_below HZ.out hb))); (try (replace HS := Aside0.mk (Kd.C_below HS.out hb))); (try (replace HM := Aside0.mk (Kd.C_below HM.out hb))); (try (replace HP := Aside0.mk (Kd.C_below HP.out hb))); (try (replace HQ := Aside0.mk (Kd.C_below HQ.out hb))); (try (replace HR := Aside0.mk (Kd.C_below HR.out hb))); (try (replace HT := Aside0.mk (Kd.C_below HT.out hb))); (try (replace HU := Aside0.mk (Kd.C_below HU.out hb))); replace HB := Aside0.mk (HB.out.trans (hb.mono HB.out.size)); clear hb)
          | (go_at_call 29; with_reducible refine (braidworklaw08_contains.calls AX cX X AY cY Y _ _ HX.out CX.out HY.out CY.out F7.out).mono ?_; rintro e w' ⟨rfl, hb⟩; (try (replace HX := Aside0.mk (Kd.C_below HX.out hb))); (try (replace HY := Aside0.mk (Kd.C_below HY.out hb))); (try (replace HZ := Aside0.mk (Kd.C_below HZ.out hb))); (try (replace HS := Aside0.mk (Kd.C_below HS.out hb))); (try (replace HM := Aside0.mk (Kd.C_below HM.out hb))); (try (replace HP := Aside0.mk (Kd.C_below HP.out hb))); (try (replace HQ := Aside0.mk (Kd.C_below HQ.out hb))); (try (replace HR := Aside0.mk (Kd.C_below HR.out hb))); (try (replace HT := Aside0.mk (Kd.C_below HT.out hb))); (try (replace HU := Aside0.mk (Kd.C_below HU.out hb))); replace HB := Aside0.mk (HB.out.trans (hb.mono HB.out.size)); clear hb)
          | (go_at_call 29; with_reducible refine (braidworklaw08_contains.calls AY cY Y AX cX X _ _ HY.out CY.out HX.out CX.out F8.out).mono ?_; rintro e w' ⟨rfl, hb⟩; (try (replace HX := Aside0.mk (Kd.C_below HX.out hb))); (try (replace HY := Aside0.mk (Kd.C_below HY.out hb))); (try (replace HZ := Aside0.mk (Kd.C_below HZ.out hb))); (try (replace HS := Aside0.mk (Kd.C_below HS.out hb))); (try (replace HM := Aside0.mk (Kd.C_below HM.out hb))); (try (replace HP := Aside0.mk (Kd.C_below HP.out hb))); (try (replace HQ := Aside0.mk (Kd.C_below HQ.out hb))); (try (replace HR := Aside0.mk (Kd.C_below HR.out hb))); (try (replace HT := Aside0.mk (Kd.C_below HT.out hb))); (try (replace HU := Aside0.mk (Kd.C_below HU.out hb))); replace HB := Aside0.mk (HB.out.trans (hb.mono HB.out.size)); clear hb)
          | (go_at_call 29; with_reducible refine (braidworklaw08_contains.calls AY cY Y AZ cZ Z _ _ HY.out CY.out HZ.out CZ.out F9.out).mono ?_; rintro e w' ⟨rfl, hb⟩; (try (replace HX := Aside0.mk (Kd.C_below HX.out hb))); (try (replace HY := Aside0.mk (Kd.C_below HY.out hb))); (try (replace HZ := Aside0.mk (Kd.C_below HZ.out hb))); (try (replace HS := Aside0.mk (Kd.C_below HS.out hb))); (try (replace HM := Aside0.mk (Kd.C_below HM.out hb))); (try (replace HP := Aside0.mk (Kd.C_below HP.out hb))); (try (replace HQ := Aside0.mk (Kd.C_below HQ.out hb))); (try (replace HR := Aside0.mk (Kd.C_below HR.out hb))); (try (replace HT := Aside0.mk (Kd.C_below HT.out hb))); (try (replace HU := Aside0.mk (Kd.C_below HU.out hb))); replace HB := Aside0.mk (HB.out.trans (hb.mono HB.out.size)); clear hb)
          | (go_at_call 29; with_reducible refine (braidworklaw08_contains.calls AX cX X AZ cZ Z _ _ HX.out CX.out HZ.out CZ.out F10.out).mono ?_; rintro e w' ⟨rfl, hb⟩; (try (replace HX := Aside0.mk (Kd.C_below HX.out hb))); (try (replace HY := Aside0.mk (Kd.C_below HY.out hb))); (try (replace HZ := Aside0.mk (Kd.C_below HZ.out hb))); (try (replace HS := Aside0.mk (Kd.C_below HS.out hb))); (try (replace HM := Aside0.mk (Kd.C_below HM.out hb))); (try (replace HP := Aside0.mk (Kd.C_below HP.out hb))); (try (replace HQ := Aside0.mk (Kd.C_below HQ.out hb))); (try (replace HR := Aside0.mk (Kd.C_below HR.out hb))); (try (replace HT := Aside0.mk (Kd.C_below HT.out hb))); (try (replace HU := Aside0.mk (Kd.C_below HU.out hb))); replace HB := Aside0.mk (HB.out.trans (hb.mono HB.out.size)); clear hb)
          | (go_at_call 26; with_reducible refine (braidworklaw08_wakes.calls true _ wakes_ok).mono ?_; rintro e w' ⟨rfl, hb⟩; (try (replace HX := Aside0.mk (Kd.C_below HX.out hb))); (try (replace HY := Aside0.mk (Kd.C_below HY.out hb))); (try (replace HZ := Aside0.mk (Kd.C_below HZ.out hb))); (try (replace HS := Aside0.mk (Kd.C_below HS.out hb))); (try (replace HM := Aside0.mk (Kd.C_below HM.out hb))); (try (replace HP := Aside0.mk (Kd.C_below HP.out hb))); (try (replace HQ := Aside0.mk (Kd.C_below HQ.out hb))); (try (replace HR := Aside0.mk (Kd.C_below HR.out hb))); (try (replace HT := Aside0.mk (Kd.C_below HT.out hb))); (try (replace HU := Aside0.mk (Kd.C_below HU.out hb))); replace HB := Aside0.mk (HB.out.trans (hb.mono HB.out.size)); clear hb))
        go_ret
        exact ⟨rfl, HB.out⟩
theorem order_calls (A0 : Option Addr) (c0 : Nat) (l0 : List Int) (A1 : Option Addr) (c1 : Nat) (l1 : List Int) (A2 : Option Addr) (c2 : Nat) (l2 : List Int) (l3 : List Int) (w : World) (hr0 : Kd.C (Kd.int .u8) w A0 l0.length l0) (hc0 : l0.length ≤ c0) (hr1 : Kd.C (Kd.int .u8) w A1 l1.length l1) (hc1 : l1.length ≤ c1) (hr2 : Kd.C (Kd.int .u8) w A2 l2.length l2) (hc2 : l2.length ≤ c2)
    (w0 : ∀ y ∈ l0, (Lit.int .u8 y).wf = true) (w1 : ∀ y ∈ l1, (Lit.int .u8 y).wf = true) (w2 : ∀ y ∈ l2, (Lit.int .u8 y).wf = true) (h3 : l3.length = 4) (w3 : ∀ y ∈ l3, (Lit.int .u8 y).wf = true) :
    Calls Try.prog 8 #[.slice A0 l0.length c0, .slice A1 l1.length c1, .slice A2 l2.length c2, .agg (l3.map (Value.int .u8)).toArray] w fun e w' => e = .returned (.bool true) ∧ Below w.heap.size w w' := by
  match l3, h3 with
  | [s0, s1, s2, s3], _ =>
    have b0 := nonneg_of_wf (w3 s0 (by simp))
    have b1 := nonneg_of_wf (w3 s1 (by simp))
    have b2 := nonneg_of_wf (w3 s2 (by simp))
    have b3 := nonneg_of_wf (w3 s3 (by simp))
    obtain ⟨n0, k0, h0⟩ := size_five s0 b0.1
    obtain ⟨n1, k1, h1⟩ := size_five s1 b1.1
    obtain ⟨n2, k2, h2⟩ := size_five s2 b2.1
    obtain ⟨cols, c1_, c6, hc⟩ := size_six s3 b3.1
    obtain ⟨X, x1, x2, x3⟩ := shaped_f l0 (areB_of_wf w0) n0 cols (by omega) c6 200 (by omega)
    obtain ⟨Y, y1, y2, y3⟩ := shaped_f l1 (areB_of_wf w1) n1 cols (by omega) c6 200 (by omega)
    obtain ⟨Z, z1, z2, z3⟩ := shaped_f l2 (areB_of_wf w2) n2 cols (by omega) c6 200 (by omega)
    subst x2 y2 z2
    have hX : Small cols X := ⟨x3, by omega⟩
    have hY : Small cols Y := ⟨y3, by omega⟩
    have hZ : Small cols Z := ⟨z3, by omega⟩
    have hn : cols < 1000 := by omega
    have hr := Small.red x3 hn
    exact order_walk A0 c0 l0 A1 c1 l1 A2 c2 l2 s0 s1 s2 s3 w ⟨hr0⟩ ⟨hc0⟩ ⟨hr1⟩ ⟨hc1⟩ ⟨hr2⟩ ⟨hc2⟩ cols X Y Z h0 h1 h2 hc ⟨x1⟩ ⟨y1⟩ ⟨z1⟩ _ _ _ _ _ _ ⟨reduce_f x3 (by omega) (by omega)⟩ ⟨reduce_f y3 (by omega) (by omega)⟩ ⟨Same_f hX hY hn⟩ ⟨by rw [contains_f hX hX hn, con_self x3]⟩ ⟨by rw [contains_f hX (Small.nil cols) hn]; rfl⟩ ⟨by rw [same_f hr.fits (Small.red y3 hn).fits (by have := hr.few; omega), same_iff x3 y3]⟩ ⟨contains_f hX hY hn⟩ ⟨contains_f hY hX hn⟩ ⟨contains_f hY hZ hn⟩ ⟨contains_f hX hZ hn⟩
      (fun e1 e2 => (conB_iff x3 z3).2 (((conB_iff y3 z3).1 e2).trans ((conB_iff x3 y3).1 e1)))
end Go.Proofs.Ythgpmneplpdeiaa.Plain
