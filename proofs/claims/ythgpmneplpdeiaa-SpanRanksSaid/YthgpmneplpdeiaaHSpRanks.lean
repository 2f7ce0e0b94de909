/- The walk of the law SpanRanks. -/
import Derived.Test.YthgpmneplpdeiaaPlSpan
set_option linter.unusedVariables false
set_option linter.unusedSimpArgs false
namespace Go.Proofs.Ythgpmneplpdeiaa.Plain
open Go.Proofs.Ythgpmneplpdeiaa.Hand Go.Proofs.Ythgpmneplpdeiaa.GF Go.Proofs.Ythgpmneplpdeiaa.LA Go.RowKit Go.Proofs.Ythgpmneplpdeiaa.P Go.Proofs.YthgpmneplpdeiaaW.PrintWords Go.Proofs.YthgpmneplpdeiaaW.PrintLast Go.Proofs.YthgpmneplpdeiaaW.PrintMore

set_option maxHeartbeats 8000000 in
set_option maxRecDepth 100000 in
theorem spRanks_walk (A0 : Option Addr) (c0 : Nat) (l0 : List Int) (A1 : Option Addr) (c1 : Nat) (l1 : List Int) (A2 : Option Addr) (c2 : Nat) (l2 : List Int) (s0 s1 s2 s3 : Int) (w : World) (Hl0 : Aside0 (Kd.C (Kd.int .u8) w A0 l0.length l0)) (Cl0 : Aside0 (l0.length ≤ c0)) (Hl1 : Aside0 (Kd.C (Kd.int .u8) w A1 l1.length l1)) (Cl1 : Aside0 (l1.length ≤ c1)) (Hl2 : Aside0 (Kd.C (Kd.int .u8) w A2 l2.length l2)) (Cl2 : Aside0 (l2.length ≤ c2))
    (cols : Nat) (X Y Z : List (List Int)) (h0 : wrap64 (Int.tmod s0 6) = (X.length : Int)) (h1 : wrap64 (Int.tmod s1 6) = (Y.length : Int)) (h2 : wrap64 (Int.tmod s2 6) = (Z.length : Int)) (hc : wrap64 (1 + (wrap64 (Int.tmod s3 6))) = (cols : Int))
    (FX : Aside0 (braidworklaw08_shaped.f 200 l0 X.length cols = some X)) (FY : Aside0 (braidworklaw08_shaped.f 200 l1 Y.length cols = some Y)) (FZ : Aside0 (braidworklaw08_shaped.f 200 l2 Z.length cols = some Z))
    (s m rx : List (List Int)) (p q T : Int) (czx czy czs cxz cyz cmz cxy : Bool) (hsum1 : wrap64 ((s.length : Int) + (m.length : Int)) = T) (hsum2 : wrap64 (p + q) = T) (F1 : Aside0 (span_Sum.f X Y = some (s, 0))) (F2 : Aside0 (span_Meet.f X Y = some (m, 0))) (F3 : Aside0 (matrix_Rank.f X = some (p, 0))) (F4 : Aside0 (matrix_Rank.f Y = some (q, 0))) (F5 : Aside0 (span_Sum.f Y X = some (s, 0))) (F6 : Aside0 (span_Meet.f Y X = some (m, 0))) (F7 : Aside0 (matrix_Same.f s s = some true)) (F8 : Aside0 (matrix_Same.f m m = some true)) (F9 : Aside0 (matrix_Reduce.f X = some (rx, 0))) (G1 : Aside0 (braidworklaw08_contains.f s X = some true)) (G2 : Aside0 (braidworklaw08_contains.f s Y = some true)) (G3 : Aside0 (braidworklaw08_contains.f X m = some true)) (G4 : Aside0 (braidworklaw08_contains.f Y m = some true)) (G5 : Aside0 (braidworklaw08_contains.f Z X = some czx)) (G6 : Aside0 (braidworklaw08_contains.f Z Y = some czy)) (G7 : Aside0 (braidworklaw08_contains.f Z s = some czs)) (G8 : Aside0 (braidworklaw08_contains.f X Z = some cxz)) (G9 : Aside0 (braidworklaw08_contains.f Y Z = some cyz)) (G10 : Aside0 (braidworklaw08_contains.f m Z = some cmz)) (G11 : Aside0 (braidworklaw08_contains.f X Y = some cxy)) (hh1 : czx = true → czy = czs) (hh2 : cxz = true → cyz = cmz) (hx : cxy = true → matrix_Same.f s rx = some true ∧ (m.length : Int) = q) :
    Calls Try.prog 7 #[.slice A0 l0.length c0, .slice A1 l1.length c1, .slice A2 l2.length c2, .agg #[.int .u8 s0, .int .u8 s1, .int .u8 s2, .int .u8 s3]] w fun e w' => e = .returned (.bool true) ∧ Below w.heap.size w w' := by
  have HB := Aside0.mk (below_drew (below_alloc (Below.refl w.heap.size w) (.cells #[.int .u8 s0, .int .u8 s1, .int .u8 s2, .int .u8 s3] 46)))
  go_enter Try.func7, Try.ntmps7
  go_wp2
  refine start_ (n := 24) (S := fun w' => w'.cell? ⟨w.heap.size, 0, none⟩ = some (.int .u8 s0) ∧ w'.cell? ⟨w.heap.size, 1, none⟩ = some (.int .u8 s1) ∧ w'.cell? ⟨w.heap.size, 2, none⟩ = some (.int .u8 s2)) (ds := []) #[false, false, false, false, false, false, false, false, false, false, false, false, false, false, false, false, false, false, false, false, false, false, false, false] (by kernel_rfl) rfl rfl ⟨(by simp), (by simp), (by simp)⟩ (fun hHeld => ?_)
  generalize (World.drew _) = w1 at HB hHeld ⊢
  replace Hl0 := Aside0.mk (Kd.C_below Hl0.out HB.out)
  replace Hl1 := Aside0.mk (Kd.C_below Hl1.out HB.out)
  replace Hl2 := Aside0.mk (Kd.C_below Hl2.out HB.out)
  refine pure_ (i := 0) (N := some 32) (v := ?_) (a' := ?_) #[true, false, false, false, false, false, false, false, false, false, false, false, false, false, false, false, false, false, false, false, false, false, false, false] rfl rfl (by kernel_rfl) (fun _ _ _ h => h) (Or.inl ⟨by rfl, ?_⟩) ?_ ?_
  rotate_left
  · intro w'
    go_simp
    with_reducible rfl
  rotate_left
  · simp only [Act.put, List.setIfInBounds_toArray, List.set_cons_zero, List.set_cons_succ, i64_w, i32_w]
    rfl
  refine pure_ (i := 1) (N := some 33) (v := ?_) (a' := ?_) #[true, true, false, false, false, false, false, false, false, false, false, false, false, false, false, false, false, false, false, false, false, false, false, false] rfl rfl (by kernel_rfl) (fun _ _ _ h => h) (Or.inl ⟨by rfl, ?_⟩) ?_ ?_
  rotate_left
  · intro w'
    go_simp
    with_reducible rfl
  rotate_left
  · simp only [Act.put, List.setIfInBounds_toArray, List.set_cons_zero, List.set_cons_succ, i64_w, i32_w]
    rfl
  refine pure_ (i := 5) (N := some 37) (v := ?_) (a' := ?_) #[true, true, false, false, false, true, false, false, false, false, false, false, false, false, false, false, false, false, false, false, false, false, false, false] rfl rfl (by kernel_rfl) (fun _ _ _ h => h) (Or.inl ⟨by rfl, ?_⟩) ?_ ?_
  rotate_left
  · intro w'
    go_simp
    with_reducible rfl
  rotate_left
  · simp only [Act.put, List.setIfInBounds_toArray, List.set_cons_zero, List.set_cons_succ, i64_w, i32_w]
    rfl
  refine pure_ (i := 7) (N := some 39) (v := ?_) (a' := ?_) #[true, true, false, false, false, true, false, true, false, false, false, false, false, false, false, false, false, false, false, false, false, false, false, false] rfl rfl (by kernel_rfl) (fun _ _ _ h => h) (Or.inl ⟨by rfl, ?_⟩) ?_ ?_
  rotate_left
  · intro w'
    go_simp
    with_reducible rfl
  rotate_left
  · simp only [Act.put, List.setIfInBounds_toArray, List.set_cons_zero, List.set_cons_succ, i64_w, i32_w]
    rfl
  refine pure_ (i := 8) (N := some 40) (v := ?_) (a' := ?_) #[true, true, false, false, false, true, false, true, true, false, false, false, false, false, false, false, false, false, false, false, false, false, false, false] rfl rfl (by kernel_rfl) (fun _ _ _ h => h) (Or.inl ⟨by rfl, ?_⟩) ?_ ?_
  rotate_left
  · intro w'
    go_simp
    with_reducible rfl
  rotate_left
  · simp only [Act.put, List.setIfInBounds_toArray, List.set_cons_zero, List.set_cons_succ, i64_w, i32_w]
    rfl
  refine pure_ (i := 12) (N := some 44) (v := ?_) (a' := ?_) #[true, true, false, false, false, true, false, true, true, false, false, false, true, false, false, false, false, false, false, false, false, false, false, false] rfl rfl (by kernel_rfl) (fun _ _ _ h => h) (Or.inl ⟨by rfl, ?_⟩) ?_ ?_
  rotate_left
  · intro w'
    go_simp
    with_reducible rfl
  rotate_left
  · simp only [Act.put, List.setIfInBounds_toArray, List.set_cons_zero, List.set_cons_succ, i64_w, i32_w]
    rfl
  refine pure_ (i := 14) (N := some 46) (v := ?_) (a' := ?_) #[true, true, false, false, false, true, false, true, true, false, false, false, true, false, true, false, false, false, false, false, false, false, false, false] rfl rfl (by kernel_rfl) (fun _ _ _ h => h) (Or.inl ⟨by rfl, ?_⟩) ?_ ?_
  rotate_left
  · intro w'
    go_simp
    with_reducible rfl
  rotate_left
  · simp only [Act.put, List.setIfInBounds_toArray, List.set_cons_zero, List.set_cons_succ, i64_w, i32_w]
    rfl
  refine pure_ (i := 15) (N := some 47) (v := ?_) (a' := ?_) #[true, true, false, false, false, true, false, true, true, false, false, false, true, false, true, true, false, false, false, false, false, false, false, false] rfl rfl (by kernel_rfl) (fun _ _ _ h => h) (Or.inl ⟨by rfl, ?_⟩) ?_ ?_
  rotate_left
  · intro w'
    go_simp
    with_reducible rfl
  rotate_left
  · simp only [Act.put, List.setIfInBounds_toArray, List.set_cons_zero, List.set_cons_succ, i64_w, i32_w]
    rfl
  refine pure_ (i := 19) (N := some 51) (v := ?_) (a' := ?_) #[true, true, false, false, false, true, false, true, true, false, false, false, true, false, true, true, false, false, false, true, false, false, false, false] rfl rfl (by kernel_rfl) (fun _ _ _ h => h) (Or.inl ⟨by rfl, ?_⟩) ?_ ?_
  rotate_left
  · intro w'
    go_simp
    with_reducible rfl
  rotate_left
  · simp only [Act.put, List.setIfInBounds_toArray, List.set_cons_zero, List.set_cons_succ, i64_w, i32_w]
    rfl
  refine take_ (i := 2) (N := some 34) (v := ?_) (a' := ?_) #[true, true, true, false, false, true, false, true, true, false, false, false, true, false, true, true, false, false, false, true, false, false, false, false] rfl rfl (by kernel_rfl) (fun _ _ _ h => h) (Or.inl ⟨by rfl, ?_⟩) hHeld ?_ ?_
  rotate_left
  · rintro w' ⟨s0, s1, s2⟩
    go_simp
    with_reducible rfl
  rotate_left
  · simp only [Act.put, List.setIfInBounds_toArray, List.set_cons_zero, List.set_cons_succ, i64_w, i32_w]
    rfl
  refine pure_ (i := 3) (N := some 35) (v := ?_) (a' := ?_) #[true, true, true, true, false, true, false, true, true, false, false, false, true, false, true, true, false, false, false, true, false, false, false, false] rfl rfl (by kernel_rfl) (fun _ _ _ h => h) (Or.inl ⟨by rfl, ?_⟩) ?_ ?_
  rotate_left
  · intro w'
    go_simp
    with_reducible rfl
  rotate_left
  · simp only [Act.put, List.setIfInBounds_toArray, List.set_cons_zero, List.set_cons_succ, i64_w, i32_w]
    rfl
  refine take_ (i := 4) (N := some 36) (v := ?_) (a' := ?_) #[true, true, true, true, true, true, false, true, true, false, false, false, true, false, true, true, false, false, false, true, false, false, false, false] rfl rfl (by kernel_rfl) (fun _ _ _ h => h) (Or.inl ⟨by rfl, ?_⟩) hHeld ?_ ?_
  rotate_left
  · rintro w' ⟨s0, s1, s2⟩
    go_simp
    with_reducible rfl
  rotate_left
  · simp only [Act.put, List.setIfInBounds_toArray, List.set_cons_zero, List.set_cons_succ, i64_w, i32_w]
    rfl
  refine take_ (i := 9) (N := some 41) (v := ?_) (a' := ?_) #[true, true, true, true, true, true, false, true, true, true, false, false, true, false, true, true, false, false, false, true, false, false, false, false] rfl rfl (by kernel_rfl) (fun _ _ _ h => h) (Or.inl ⟨by rfl, ?_⟩) hHeld ?_ ?_
  rotate_left
  · rintro w' ⟨s0, s1, s2⟩
    go_simp
    with_reducible rfl
  rotate_left
  · simp only [Act.put, List.setIfInBounds_toArray, List.set_cons_zero, List.set_cons_succ, i64_w, i32_w]
    rfl
  refine pure_ (i := 10) (N := some 42) (v := ?_) (a' := ?_) #[true, true, true, true, true, true, false, true, true, true, true, false, true, false, true, true, false, false, false, true, false, false, false, false] rfl rfl (by kernel_rfl) (fun _ _ _ h => h) (Or.inl ⟨by rfl, ?_⟩) ?_ ?_
  rotate_left
  · intro w'
    go_simp
    with_reducible rfl
  rotate_left
  · simp only [Act.put, List.setIfInBounds_toArray, List.set_cons_zero, List.set_cons_succ, i64_w, i32_w]
    rfl
  refine take_ (i := 11) (N := some 43) (v := ?_) (a' := ?_) #[true, true, true, true, true, true, false, true, true, true, true, true, true, false, true, true, false, false, false, true, false, false, false, false] rfl rfl (by kernel_rfl) (fun _ _ _ h => h) (Or.inl ⟨by rfl, ?_⟩) hHeld ?_ ?_
  rotate_left
  · rintro w' ⟨s0, s1, s2⟩
    go_simp
    with_reducible rfl
  rotate_left
  · simp only [Act.put, List.setIfInBounds_toArray, List.set_cons_zero, List.set_cons_succ, i64_w, i32_w]
    rfl
  refine take_ (i := 16) (N := some 48) (v := ?_) (a' := ?_) #[true, true, true, true, true, true, false, true, true, true, true, true, true, false, true, true, true, false, false, true, false, false, false, false] rfl rfl (by kernel_rfl) (fun _ _ _ h => h) (Or.inl ⟨by rfl, ?_⟩) hHeld ?_ ?_
  rotate_left
  · rintro w' ⟨s0, s1, s2⟩
    go_simp
    with_reducible rfl
  rotate_left
  · simp only [Act.put, List.setIfInBounds_toArray, List.set_cons_zero, List.set_cons_succ, i64_w, i32_w]
    rfl
  refine pure_ (i := 17) (N := some 49) (v := ?_) (a' := ?_) #[true, true, true, true, true, true, false, true, true, true, true, true, true, false, true, true, true, true, false, true, false, false, false, false] rfl rfl (by kernel_rfl) (fun _ _ _ h => h) (Or.inl ⟨by rfl, ?_⟩) ?_ ?_
  rotate_left
  · intro w'
    go_simp
    with_reducible rfl
  rotate_left
  · simp only [Act.put, List.setIfInBounds_toArray, List.set_cons_zero, List.set_cons_succ, i64_w, i32_w]
    rfl
  refine take_ (i := 18) (N := some 50) (v := ?_) (a' := ?_) #[true, true, true, true, true, true, false, true, true, true, true, true, true, false, true, true, true, true, true, true, false, false, false, false] rfl rfl (by kernel_rfl) (fun _ _ _ h => h) (Or.inl ⟨by rfl, ?_⟩) hHeld ?_ ?_
  rotate_left
  · rintro w' ⟨s0, s1, s2⟩
    go_simp
    with_reducible rfl
  rotate_left
  · simp only [Act.put, List.setIfInBounds_toArray, List.set_cons_zero, List.set_cons_succ, i64_w, i32_w]
    rfl
  refine one_ (i := 6) (N := some 38) #[true, true, true, true, true, true, true, true, true, true, true, true, true, false, true, true, true, true, true, true, false, false, false, false] rfl rfl (by kernel_rfl) (by decide) (fun K hK => ?_)
  refine goes_ Try.func27 (by kernel_rfl) rfl #[.slice A0 l0.length c0, .int .i64 (wrap64 (Int.tmod s0 6)), .int .i64 (cols : Int)] (by rfl) rfl rfl (by simp only [List.map_toArray, List.map_cons, List.map_nil]; rfl) ?_
  with_reducible refine (braidworklaw08_shaped.calls 200 A0 c0 l0 (wrap64 (Int.tmod s0 6)) (cols : Int) X _ Hl0.out Cl0.out (by rw [h0]; exact FX.out)).mono ?_
  rintro e w' ⟨v_, rfl, ho_, hb⟩
  refine ⟨_, rfl, ?_⟩
  obtain ⟨AX, cX, rfl⟩ := Kd.S_slice ho_
  have HX := Aside0.mk (Kd.S_reads' ho_).2.2
  have CX := Aside0.mk (Kd.S_reads' ho_).2.1
  clear ho_
  replace Hl1 := Aside0.mk (Kd.C_below Hl1.out hb)
  replace Hl2 := Aside0.mk (Kd.C_below Hl2.out hb)
  replace HB := Aside0.mk (HB.out.trans (hb.mono HB.out.size))
  refine hK.out _ _ ⟨((hb.cell (World.block_lt_of_cell? _ _ hHeld.1)).trans hHeld.1), ((hb.cell (World.block_lt_of_cell? _ _ hHeld.2.1)).trans hHeld.2.1), ((hb.cell (World.block_lt_of_cell? _ _ hHeld.2.2)).trans hHeld.2.2)⟩ (fun hHeld => ?_)
  clear hK K
  refine norm_ (a' := ?_) ?_ ?_
  rotate_left
  · show Act.put _ (some 38) _ = _
    simp only [Act.put, List.setIfInBounds_toArray, List.set_cons_zero, List.set_cons_succ, i64_w, i32_w]
    rfl
  refine one_ (i := 13) (N := some 45) #[true, true, true, true, true, true, true, true, true, true, true, true, true, true, true, true, true, true, true, true, false, false, false, false] rfl rfl (by kernel_rfl) (by decide) (fun K hK => ?_)
  refine goes_ Try.func27 (by kernel_rfl) rfl #[.slice A1 l1.length c1, .int .i64 (wrap64 (Int.tmod s1 6)), .int .i64 (cols : Int)] (by rfl) rfl rfl (by simp only [List.map_toArray, List.map_cons, List.map_nil]; rfl) ?_
  with_reducible refine (braidworklaw08_shaped.calls 200 A1 c1 l1 (wrap64 (Int.tmod s1 6)) (cols : Int) Y _ Hl1.out Cl1.out (by rw [h1]; exact FY.out)).mono ?_
  rintro e w' ⟨v_, rfl, ho_, hb⟩
  refine ⟨_, rfl, ?_⟩
  obtain ⟨AY, cY, rfl⟩ := Kd.S_slice ho_
  have HY := Aside0.mk (Kd.S_reads' ho_).2.2
  have CY := Aside0.mk (Kd.S_reads' ho_).2.1
  clear ho_
  replace HX := Aside0.mk (Kd.C_below HX.out hb)
  replace Hl2 := Aside0.mk (Kd.C_below Hl2.out hb)
  replace HB := Aside0.mk (HB.out.trans (hb.mono HB.out.size))
  refine hK.out _ _ ⟨((hb.cell (World.block_lt_of_cell? _ _ hHeld.1)).trans hHeld.1), ((hb.cell (World.block_lt_of_cell? _ _ hHeld.2.1)).trans hHeld.2.1), ((hb.cell (World.block_lt_of_cell? _ _ hHeld.2.2)).trans hHeld.2.2)⟩ (fun hHeld => ?_)
  clear hK K
  refine norm_ (a' := ?_) ?_ ?_
  rotate_left
  · show Act.put _ (some 45) _ = _
    simp only [Act.put, List.setIfInBounds_toArray, List.set_cons_zero, List.set_cons_succ, i64_w, i32_w]
    rfl
  refine one_ (i := 20) (N := some 52) #[true, true, true, true, true, true, true, true, true, true, true, true, true, true, true, true, true, true, true, true, true, false, false, false] rfl rfl (by kernel_rfl) (by decide) (fun K hK => ?_)
  refine goes_ Try.func27 (by kernel_rfl) rfl #[.slice A2 l2.length c2, .int .i64 (wrap64 (Int.tmod s2 6)), .int .i64 (cols : Int)] (by rfl) rfl rfl (by simp only [List.map_toArray, List.map_cons, List.map_nil]; rfl) ?_
  with_reducible refine (braidworklaw08_shaped.calls 200 A2 c2 l2 (wrap64 (Int.tmod s2 6)) (cols : Int) Z _ Hl2.out Cl2.out (by rw [h2]; exact FZ.out)).mono ?_
  rintro e w' ⟨v_, rfl, ho_, hb⟩
  refine ⟨_, rfl, ?_⟩
  obtain ⟨AZ, cZ, rfl⟩ := Kd.S_slice ho_
  have HZ := Aside0.mk (Kd.S_reads' ho_).2.2
  have CZ := Aside0.mk (Kd.S_reads' ho_).2.1
  clear ho_
  replace HX := Aside0.mk (Kd.C_below HX.out hb)
  replace HY := Aside0.mk (Kd.C_below HY.out hb)
  replace HB := Aside0.mk (HB.out.trans (hb.mono HB.out.size))
  refine hK.out _ _ ⟨((hb.cell (World.block_lt_of_cell? _ _ hHeld.1)).trans hHeld.1), ((hb.cell (World.block_lt_of_cell? _ _ hHeld.2.1)).trans hHeld.2.1), ((hb.cell (World.block_lt_of_cell? _ _ hHeld.2.2)).trans hHeld.2.2)⟩ (fun hHeld => ?_)
  clear hK K
  refine norm_ (a' := ?_) ?_ ?_
  rotate_left
  · show Act.put _ (some 52) _ = _
    simp only [Act.put, List.setIfInBounds_toArray, List.set_cons_zero, List.set_cons_succ, i64_w, i32_w]
    rfl
  refine pure_ (i := 21) (N := some 10) (v := ?_) (a' := ?_) #[true, true, true, true, true, true, true, true, true, true, true, true, true, true, true, true, true, true, true, true, true, true, false, false] rfl rfl (by kernel_rfl) (fun _ _ _ h => h) (Or.inl ⟨by rfl, ?_⟩) ?_ ?_
  rotate_left
  · intro w'
    go_simp
    with_reducible rfl
  rotate_left
  · simp only [Act.put, List.setIfInBounds_toArray, List.set_cons_zero, List.set_cons_succ, i64_w, i32_w]
    rfl
  refine pure_ (i := 22) (N := some 11) (v := ?_) (a' := ?_) #[true, true, true, true, true, true, true, true, true, true, true, true, true, true, true, true, true, true, true, true, true, true, true, false] rfl rfl (by kernel_rfl) (fun _ _ _ h => h) (Or.inl ⟨by rfl, ?_⟩) ?_ ?_
  rotate_left
  · intro w'
    go_simp
    with_reducible rfl
  rotate_left
  · simp only [Act.put, List.setIfInBounds_toArray, List.set_cons_zero, List.set_cons_succ, i64_w, i32_w]
    rfl
  refine pure_ (i := 23) (N := some 12) (v := ?_) (a' := ?_) #[true, true, true, true, true, true, true, true, true, true, true, true, true, true, true, true, true, true, true, true, true, true, true, true] rfl rfl (by kernel_rfl) (fun _ _ _ h => h) (Or.inl ⟨by rfl, ?_⟩) ?_ ?_
  rotate_left
  · intro w'
    go_simp
    with_reducible rfl
  rotate_left
  · simp only [Act.put, List.setIfInBounds_toArray, List.set_cons_zero, List.set_cons_succ, i64_w, i32_w]
    rfl
  refine done_ (by kernel_rfl) ?_
  clear hHeld h0 h1 h2 hc Hl0 Hl1 Hl2
  go_upto_region 9 with (first
    | (go_at_call 20; with_reducible refine (span_Sum.calls AX cX X AY cY Y s 0 _ HX.out CX.out HY.out CY.out F1.out).mono ?_; rintro e w' ⟨v_, rfl, ho_, hb⟩; obtain ⟨AS, cS, rfl⟩ := Kd.S_slice ho_; have HS := Aside0.mk (Kd.S_reads' ho_).2.2; have CS := Aside0.mk (Kd.S_reads' ho_).2.1; clear ho_; (try (replace HX := Aside0.mk (Kd.C_below HX.out hb))); (try (replace HY := Aside0.mk (Kd.C_below HY.out hb))); (try (replace HZ := Aside0.mk (Kd.C_below HZ.out hb))); (try (replace HM := Aside0.mk (Kd.C_below HM.out hb))); (try (replace HP := Aside0.mk (Kd.C_below HP.out hb))); (try (replace HQ := Aside0.mk (Kd.C_below HQ.out hb))); (try (replace HR := Aside0.mk (Kd.C_below HR.out hb))); (try (replace HT := Aside0.mk (Kd.C_below HT.out hb))); (try (replace HU := Aside0.mk (Kd.C_below HU.out hb))); replace HB := Aside0.mk (HB.out.trans (hb.mono HB.out.size)); clear hb)
    | (go_at_call 22; with_reducible refine (span_Meet.calls AX cX X AY cY Y m 0 _ HX.out CX.out HY.out CY.out F2.out).mono ?_; rintro e w' ⟨v_, rfl, ho_, hb⟩; obtain ⟨AM, cM, rfl⟩ := Kd.S_slice ho_; have HM := Aside0.mk (Kd.S_reads' ho_).2.2; have CM := Aside0.mk (Kd.S_reads' ho_).2.1; clear ho_; (try (replace HX := Aside0.mk (Kd.C_below HX.out hb))); (try (replace HY := Aside0.mk (Kd.C_below HY.out hb))); (try (replace HZ := Aside0.mk (Kd.C_below HZ.out hb))); (try (replace HS := Aside0.mk (Kd.C_below HS.out hb))); (try (replace HP := Aside0.mk (Kd.C_below HP.out hb))); (try (replace HQ := Aside0.mk (Kd.C_below HQ.out hb))); (try (replace HR := Aside0.mk (Kd.C_below HR.out hb))); (try (replace HT := Aside0.mk (Kd.C_below HT.out hb))); (try (replace HU := Aside0.mk (Kd.C_below HU.out hb))); replace HB := Aside0.mk (HB.out.trans (hb.mono HB.out.size)); clear hb)
    | (go_at_call 31; with_reducible refine (matrix_Rank.calls AX cX X p 0 _ HX.out CX.out F3.out).mono ?_; rintro e w' ⟨rfl, hb⟩; (try (replace HX := Aside0.mk (Kd.C_below HX.out hb))); (try (replace HY := Aside0.mk (Kd.C_below HY.out hb))); (try (replace HZ := Aside0.mk (Kd.C_below HZ.out hb))); (try (replace HS := Aside0.mk (Kd.C_below HS.out hb))); (try (replace HM := Aside0.mk (Kd.C_below HM.out hb))); (try (replace HP := Aside0.mk (Kd.C_below HP.out hb))); (try (replace HQ := Aside0.mk (Kd.C_below HQ.out hb))); (try (replace HR := Aside0.mk (Kd.C_below HR.out hb))); (try (replace HT := Aside0.mk (Kd.C_below HT.out hb))); (try (replace HU := Aside0.mk (Kd.C_below HU.out hb))); replace HB := Aside0.mk (HB.out.trans (hb.mono HB.out.size)); clear hb)
    | (go_at_call 31; with_reducible refine (matrix_Rank.calls AY cY Y q 0 _ HY.out CY.out F4.out).mono ?_; rintro e w' ⟨rfl, hb⟩; (try (replace HX := Aside0.mk (Kd.C_below HX.out hb))); (try (replace HY := Aside0.mk (Kd.C_below HY.out hb))); (try (replace HZ := Aside0.mk (Kd.C_below HZ.out hb))); (try (replace HS := Aside0.mk (Kd.C_below HS.out hb))); (try (replace HM := Aside0.mk (Kd.C_below HM.out hb))); (try (replace HP := Aside0.mk (Kd.C_below HP.out hb))); (try (replace HQ := Aside0.mk (Kd.C_below HQ.out hb))); (try (replace HR := Aside0.mk (Kd.C_below HR.out hb))); (try (replace HT := Aside0.mk (Kd.C_below HT.out hb))); (try (replace HU := Aside0.mk (Kd.C_below HU.out hb))); replace HB := Aside0.mk (HB.out.trans (hb.mono HB.out.size)); clear hb)
    | (go_at_call 29; with_reducible refine (braidworklaw08_contains.calls AS cS s AX cX X _ _ HS.out CS.out HX.out CX.out G1.out).mono ?_; rintro e w' ⟨rfl, hb⟩; (try (replace HX := Aside0.mk (Kd.C_below HX.out hb))); (try (replace HY := Aside0.mk (Kd.C_below HY.out hb))); (try (replace HZ := Aside0.mk (Kd.C_below HZ.out hb))); (try (replace HS := Aside0.mk (Kd.C_below HS.out hb))); (try (replace HM := Aside0.mk (Kd.C_below HM.out hb))); (try (replace HP := Aside0.mk (Kd.C_below HP.out hb))); (try (replace HQ := Aside0.mk (Kd.C_below HQ.out hb))); (try (replace HR := Aside0.mk (Kd.C_below HR.out hb))); (try (replace HT := Aside0.mk (Kd.C_below HT.out hb))); (try (replace HU := Aside0.mk (Kd.C_below HU.out hb))); replace HB := Aside0.mk (HB.out.trans (hb.mono HB.out.size)); clear hb)
    | (go_at_call 29; with_reducible refine (braidworklaw08_contains.calls AS cS s AY cY Y _ _ HS.out CS.out HY.out CY.out G2.out).mono ?_; rintro e w' ⟨rfl, hb⟩; (try (replace HX := Aside0.mk (Kd.C_below HX.out hb))); (try (replace HY := Aside0.mk (Kd.C_below HY.out hb))); (try (replace HZ := Aside0.mk (Kd.C_below HZ.out hb))); (try (replace HS := Aside0.mk (Kd.C_below HS.out hb))); (try (replace HM := Aside0.mk (Kd.C_below HM.out hb))); (try (replace HP := Aside0.mk (Kd.C_below HP.out hb))); (try (replace HQ := Aside0.mk (Kd.C_below HQ.out hb))); (try (replace HR := Aside0.mk (Kd.C_below HR.out hb))); (try (replace HT := Aside0.mk (Kd.C_below HT.out hb))); (try (replace HU := Aside0.mk (Kd.C_below HU.out hb))); replace HB := Aside0.mk (HB.out.trans (hb.mono HB.out.size)); clear hb)
    | (go_at_call 29; with_reducible refine (braidworklaw08_contains.calls AX cX X AM cM m _ _ HX.out CX.out HM.out CM.out G3.out).mono ?_; rintro e w' ⟨rfl, hb⟩; (try (replace HX := Aside0.mk (Kd.C_below HX.out hb))); (try (replace HY := Aside0.mk (Kd.C_below HY.out hb))); (try (replace HZ := Aside0.mk (Kd.C_below HZ.out hb))); (try (replace HS := Aside0.mk (Kd.C_below HS.out hb))); (try (replace HM := Aside0.mk (Kd.C_below HM.out hb))); (try (replace HP := Aside0.mk (Kd.C_below HP.out hb))); (try (replace HQ := Aside0.mk (Kd.C_below HQ.out hb))); (try (replace HR := Aside0.mk (Kd.C_below HR.out hb))); (try (replace HT := Aside0.mk (Kd.C_below HT.out hb))); (try (replace HU := Aside0.mk (Kd.C_below HU.out hb))); replace HB := Aside0.mk (HB.out.trans (hb.mono HB.out.size)); clear hb)
    | (go_at_call 29; with_reducible refine (braidworklaw08_contains.calls AY cY Y AM cM m _ _ HY.out CY.out HM.out CM.out G4.out).mono ?_; rintro e w' ⟨rfl, hb⟩; (try (replace HX := Aside0.mk (Kd.C_below HX.out hb))); (try (replace HY := Aside0.mk (Kd.C_below HY.out hb))); (try (replace HZ := Aside0.mk (Kd.C_below HZ.out hb))); (try (replace HS := Aside0.mk (Kd.C_below HS.out hb))); (try (replace HM := Aside0.mk (Kd.C_below HM.out hb))); (try (replace HP := Aside0.mk (Kd.C_below HP.out hb))); (try (replace HQ := Aside0.mk (Kd.C_below HQ.out hb))); (try (replace HR := Aside0.mk (Kd.C_below HR.out hb))); (try (replace HT := Aside0.mk (Kd.C_below HT.out hb))); (try (replace HU := Aside0.mk (Kd.C_below HU.out hb))); replace HB := Aside0.mk (HB.out.trans (hb.mono HB.out.size)); clear hb))
  clear hsum1 hsum2
  cases czx with
  | false =>
    cases cxz with
    | false =>
      go_upto_region 16 with (first
        | (go_at_call 29; with_reducible refine (braidworklaw08_contains.calls AZ cZ Z AX cX X _ _ HZ.out CZ.out HX.out CX.out G5.out).mono ?_; rintro e w' ⟨rfl, hb⟩; (try (replace HX := Aside0.mk (Kd.C_below HX.out hb))); (try (replace HY := Aside0.mk (Kd.C_below HY.out hb))); (try (replace HZ := Aside0.mk (Kd.C_below HZ.out hb))); (try (replace HS := Aside0.mk (Kd.C_below HS.out hb))); (try (replace HM := Aside0.mk (Kd.C_below HM.out hb))); (try (replace HP := Aside0.mk (Kd.C_below HP.out hb))); (try (replace HQ := Aside0.mk (Kd.C_below HQ.out hb))); (try (replace HR := Aside0.mk (Kd.C_below HR.out hb))); (try (replace HT := Aside0.mk (Kd.C_below HT.out hb))); (try (replace HU := Aside0.mk (Kd.C_below HU.out hb))); replace HB := Aside0.mk (HB.out.trans (hb.mono HB.out.size)); clear hb)
        | (go_at_call 29; with_reducible refine (braidworklaw08_contains.calls AZ cZ Z AY cY Y _ _ HZ.out CZ.out HY.out CY.out G6.out).mono ?_; rintro e w' ⟨rfl, hb⟩; (try (replace HX := Aside0.mk (Kd.C_below HX.out hb))); (try (replace HY := Aside0.mk (Kd.C_below HY.out hb))); (try (replace HZ := Aside0.mk (Kd.C_below HZ.out hb))); (try (replace HS := Aside0.mk (Kd.C_below HS.out hb))); (try (replace HM := Aside0.mk (Kd.C_below HM.out hb))); (try (replace HP := Aside0.mk (Kd.C_below HP.out hb))); (try (replace HQ := Aside0.mk (Kd.C_below HQ.out hb))); (try (replace HR := Aside0.mk (Kd.C_below HR.out hb))); (try (replace HT := Aside0.mk (Kd.C_below HT.out hb))); (try (replace HU := Aside0.mk (Kd.C_below HU.out hb))); replace HB := Aside0.mk (HB.out.trans (hb.mono HB.out.size)); clear hb)
        | (go_at_call 29; with_reducible refine (braidworklaw08_contains.calls AZ cZ Z AS cS s _ _ HZ.out CZ.out HS.out CS.out G7.out).mono ?_; rintro e w' ⟨rfl, hb⟩; (try (replace HX := Aside0.mk (Kd.C_below HX.out hb))); (try (replace HY := Aside0.mk (Kd.C_below HY.out hb))); (try (replace HZ := Aside0.mk (Kd.C_below HZ.out hb))); (try (replace HS := Aside0.mk (Kd.C_below HS.out hb))); (try (replace HM := Aside0.mk (Kd.C_below HM.out hb))); (try (replace HP := Aside0.mk (Kd.C_below HP.out hb))); (try (replace HQ := Aside0.mk (Kd.C_below HQ.out hb))); (try (replace HR := Aside0.mk (Kd.C_below HR.out hb))); (try (replace HT := Aside0.mk (Kd.C_below HT.out hb))); (try (replace HU := Aside0.mk (Kd.C_below HU.out hb))); replace HB := Aside0.mk (HB.out.trans (hb.mono HB.out.size)); clear hb)
        | (go_at_call 29; with_reducible refine (braidworklaw08_contains.calls AX cX X AZ cZ Z _ _ HX.out CX.out HZ.out CZ.out G8.out).mono ?_; rintro e w' ⟨rfl, hb⟩; (try (replace HX := Aside0.mk (Kd.C_below HX.out hb))); (try (replace HY := Aside0.mk (Kd.C_below HY.out hb))); (try (replace HZ := Aside0.mk (Kd.C_below HZ.out hb))); (try (replace HS := Aside0.mk (Kd.C_below HS.out hb))); (try (replace HM := Aside0.mk (Kd.C_below HM.out hb))); (try (replace HP := Aside0.mk (Kd.C_below HP.out hb))); (try (replace HQ := Aside0.mk (Kd.C_below HQ.out hb))); (try (replace HR := Aside0.mk (Kd.C_below HR.out hb))); (try (replace HT := Aside0.mk (Kd.C_below HT.out hb))); (try (replace HU := Aside0.mk (Kd.C_below HU.out hb))); replace HB := Aside0.mk (HB.out.trans (hb.mono HB.out.size)); clear hb)
        | (go_at_call 29; with_reducible refine (braidworklaw08_contains.calls AY cY Y AZ cZ Z _ _ HY.out CY.out HZ.out CZ.out G9.out).mono ?_; rintro e w' ⟨rfl, hb⟩; (try (replace HX := Aside0.mk (Kd.C_below HX.out hb))); (try (replace HY := Aside0.mk (Kd.C_below HY.out hb))); (try (replace HZ := Aside0.mk (Kd.C_below HZ.out hb))); (try (replace HS := Aside0.mk (Kd.C_below HS.out hb))); (try (replace HM := Aside0.mk (Kd.C_below HM.out hb))); (try (replace HP := Aside0.mk (Kd.C_below HP.out hb))); (try (replace HQ := Aside0.mk (Kd.C_below HQ.out hb))); (try (replace HR := Aside0.mk (Kd.C_below HR.out hb))); (try (replace HT := Aside0.mk (Kd.C_below HT.out hb))); (try (replace HU := Aside0.mk (Kd.C_below HU.out hb))); replace HB := Aside0.mk (HB.out.trans (hb.mono HB.out.size)); clear hb)
        | (go_at_call 29; with_reducible refine (braidworklaw08_contains.calls AM cM m AZ cZ Z _ _ HM.out CM.out HZ.out CZ.out G10.out).mono ?_; rintro e w' ⟨rfl, hb⟩; (try (replace HX := Aside0.mk (Kd.C_below HX.out hb))); (try (replace HY := Aside0.mk (Kd.C_below HY.out hb))); (try (replace HZ := Aside0.mk (Kd.C_below HZ.out hb))); (try (replace HS := Aside0.mk (Kd.C_below HS.out hb))); (try (replace HM := Aside0.mk (Kd.C_below HM.out hb))); (try (replace HP := Aside0.mk (Kd.C_below HP.out hb))); (try (replace HQ := Aside0.mk (Kd.C_below HQ.out hb))); (try (replace HR := Aside0.mk (Kd.C_below HR.out hb))); (try (replace HT := Aside0.mk (Kd.C_below HT.out hb))); (try (replace HU := Aside0.mk (Kd.C_below HU.out hb))); replace HB := Aside0.mk (HB.out.trans (hb.mono HB.out.size)); clear hb)
        | (go_at_call 20; with_reducible refine (span_Sum.calls AY cY Y AX cX X s 0 _ HY.out CY.out HX.out CX.out F5.out).mono ?_; rintro e w' ⟨v_, rfl, ho_, hb⟩; obtain ⟨AT, cT, rfl⟩ := Kd.S_slice ho_; have HT := Aside0.mk (Kd.S_reads' ho_).2.2; have CT := Aside0.mk (Kd.S_reads' ho_).2.1; clear ho_; (try (replace HX := Aside0.mk (Kd.C_below HX.out hb))); (try (replace HY := Aside0.mk (Kd.C_below HY.out hb))); (try (replace HZ := Aside0.mk (Kd.C_below HZ.out hb))); (try (replace HS := Aside0.mk (Kd.C_below HS.out hb))); (try (replace HM := Aside0.mk (Kd.C_below HM.out hb))); (try (replace HP := Aside0.mk (Kd.C_below HP.out hb))); (try (replace HQ := Aside0.mk (Kd.C_below HQ.out hb))); (try (replace HR := Aside0.mk (Kd.C_below HR.out hb))); (try (replace HU := Aside0.mk (Kd.C_below HU.out hb))); replace HB := Aside0.mk (HB.out.trans (hb.mono HB.out.size)); clear hb)
        | (go_at_call 22; with_reducible refine (span_Meet.calls AY cY Y AX cX X m 0 _ HY.out CY.out HX.out CX.out F6.out).mono ?_; rintro e w' ⟨v_, rfl, ho_, hb⟩; obtain ⟨AU, cU, rfl⟩ := Kd.S_slice ho_; have HU := Aside0.mk (Kd.S_reads' ho_).2.2; have CU := Aside0.mk (Kd.S_reads' ho_).2.1; clear ho_; (try (replace HX := Aside0.mk (Kd.C_below HX.out hb))); (try (replace HY := Aside0.mk (Kd.C_below HY.out hb))); (try (replace HZ := Aside0.mk (Kd.C_below HZ.out hb))); (try (replace HS := Aside0.mk (Kd.C_below HS.out hb))); (try (replace HM := Aside0.mk (Kd.C_below HM.out hb))); (try (replace HP := Aside0.mk (Kd.C_below HP.out hb))); (try (replace HQ := Aside0.mk (Kd.C_below HQ.out hb))); (try (replace HR := Aside0.mk (Kd.C_below HR.out hb))); (try (replace HT := Aside0.mk (Kd.C_below HT.out hb))); replace HB := Aside0.mk (HB.out.trans (hb.mono HB.out.size)); clear hb)
        | (go_at_call 28; with_reducible refine (matrix_Same.calls AT cT s AS cS s _ _ HT.out CT.out HS.out CS.out F7.out).mono ?_; rintro e w' ⟨rfl, hd⟩; have hb := hd.below; clear hd; (try (replace HX := Aside0.mk (Kd.C_below HX.out hb))); (try (replace HY := Aside0.mk (Kd.C_below HY.out hb))); (try (replace HZ := Aside0.mk (Kd.C_below HZ.out hb))); (try (replace HS := Aside0.mk (Kd.C_below HS.out hb))); (try (replace HM := Aside0.mk (Kd.C_below HM.out hb))); (try (replace HP := Aside0.mk (Kd.C_below HP.out hb))); (try (replace HQ := Aside0.mk (Kd.C_below HQ.out hb))); (try (replace HR := Aside0.mk (Kd.C_below HR.out hb))); (try (replace HT := Aside0.mk (Kd.C_below HT.out hb))); (try (replace HU := Aside0.mk (Kd.C_below HU.out hb))); replace HB := Aside0.mk (HB.out.trans (hb.mono HB.out.size)); clear hb)
        | (go_at_call 28; with_reducible refine (matrix_Same.calls AU cU m AM cM m _ _ HU.out CU.out HM.out CM.out F8.out).mono ?_; rintro e w' ⟨rfl, hd⟩; have hb := hd.below; clear hd; (try (replace HX := Aside0.mk (Kd.C_below HX.out hb))); (try (replace HY := Aside0.mk (Kd.C_below HY.out hb))); (try (replace HZ := Aside0.mk (Kd.C_below HZ.out hb))); (try (replace HS := Aside0.mk (Kd.C_below HS.out hb))); (try (replace HM := Aside0.mk (Kd.C_below HM.out hb))); (try (replace HP := Aside0.mk (Kd.C_below HP.out hb))); (try (replace HQ := Aside0.mk (Kd.C_below HQ.out hb))); (try (replace HR := Aside0.mk (Kd.C_below HR.out hb))); (try (replace HT := Aside0.mk (Kd.C_below HT.out hb))); (try (replace HU := Aside0.mk (Kd.C_below HU.out hb))); replace HB := Aside0.mk (HB.out.trans (hb.mono HB.out.size)); clear hb)
        | (go_at_call 32; with_reducible refine (matrix_Reduce.calls AX cX X rx 0 _ HX.out CX.out F9.out).mono ?_; rintro e w' ⟨v_, rfl, ho_, hb⟩; obtain ⟨AR, cR, rfl⟩ := Kd.S_slice ho_; have HR := Aside0.mk (Kd.S_reads' ho_).2.2; have CR := Aside0.mk (Kd.S_reads' ho_).2.1; clear ho_; (try (replace HX := Aside0.mk (Kd.C_below HX.out hb))); (try (replace HY := Aside0.mk (Kd.C_below HY.out hb))); (try (replace HZ := Aside0.mk (Kd.C_below HZ.out hb))); (try (replace HS := Aside0.mk (Kd.C_below HS.out hb))); (try (replace HM := Aside0.mk (Kd.C_below HM.out hb))); (try (replace HP := Aside0.mk (Kd.C_below HP.out hb))); (try (replace HQ := Aside0.mk (Kd.C_below HQ.out hb))); (try (replace HT := Aside0.mk (Kd.C_below HT.out hb))); (try (replace HU := Aside0.mk (Kd.C_below HU.out hb))); replace HB := Aside0.mk (HB.out.trans (hb.mono HB.out.size)); clear hb))
      cases cxy with
      | false =>
        go_wp2_with (first
          | (go_at_call 29; with_reducible refine (braidworklaw08_contains.calls AX cX X AY cY Y _ _ HX.out CX.out HY.out CY.out G11.out).mono ?_; rintro e w' ⟨rfl, hb⟩; (try (replace HX := Aside0.mk (Kd.C_below HX.out hb))); (try (replace HY := Aside0.mk (Kd.C_below HY.out hb))); (try (replace HZ := Aside0.mk (Kd.C_below HZ.out hb))); (try (replace HS := Aside0.mk (Kd.C_below HS.out hb))); (try (replace HM := Aside0.mk (Kd.C_below HM.out hb))); (try (replace HP := Aside0.mk (Kd.C_below HP.out hb))); (try (replace HQ := Aside0.mk (Kd.C_below HQ.out hb))); (try (replace HR := Aside0.mk (Kd.C_below HR.out hb))); (try (replace HT := Aside0.mk (Kd.C_below HT.out hb))); (try (replace HU := Aside0.mk (Kd.C_below HU.out hb))); replace HB := Aside0.mk (HB.out.trans (hb.mono HB.out.size)); clear hb)
          | (go_at_call 28; with_reducible refine (matrix_Same.calls AS cS s AR cR rx _ _ HS.out CS.out HR.out CR.out F10.out).mono ?_; rintro e w' ⟨rfl, hd⟩; have hb := hd.below; clear hd; (try (replace HX := Aside0.mk (Kd.C_below HX.out hb))); (try (replace HY := Aside0.mk (Kd.C_below HY.out hb))); (try (replace HZ := Aside0.mk (Kd.C_below HZ.out hb))); (try (replace HS := Aside0.mk (Kd.C_below HS.out hb))); (try (replace HM := Aside0.mk (Kd.C_below HM.out hb))); (try (replace HP := Aside0.mk (Kd.C_below HP.out hb))); (try (replace HQ := Aside0.mk (Kd.C_below HQ.out hb))); (try (replace HR := Aside0.mk (Kd.C_below HR.out hb))); (try (replace HT := Aside0.mk (Kd.C_below HT.out hb))); (try (replace HU := Aside0.mk (Kd.C_below HU.out hb))); replace HB := Aside0.mk (HB.out.trans (hb.mono HB.out.size)); clear hb)
          | (go_at_call 26; with_reducible refine (braidworklaw08_wakes.calls true _ wakes_ok).mono ?_; rintro e w' ⟨rfl, hb⟩; (try (replace HX := Aside0.mk (Kd.C_below HX.out hb))); (try (replace HY := Aside0.mk (Kd.C_below HY.out hb))); (try (replace HZ := Aside0.mk (Kd.C_below HZ.out hb))); (try (replace HS := Aside0.mk (Kd.C_below HS.out hb))); (try (replace HM := Aside0.mk (Kd.C_below HM.out hb))); (try (replace HP := Aside0.mk (Kd.C_below HP.out hb))); (try (replace HQ := Aside0.mk (Kd.C_below HQ.out hb))); (try (replace HR := Aside0.mk (Kd.C_below HR.out hb))); (try (replace HT := Aside0.mk (Kd.C_below HT.out hb))); (try (replace HU := Aside0.mk (Kd.C_below HU.out hb))); replace HB := Aside0.mk (HB.out.trans (hb.mono HB.out.size)); clear hb))
        go_ret
        exact ⟨rfl, HB.out⟩
      | true =>
        obtain ⟨hx1, hx2⟩ := hx rfl
        have F10 := Aside0.mk hx1
        clear hx1
        go_wp2_with (first
          | (go_at_call 29; with_reducible refine (braidworklaw08_contains.calls AX cX X AY cY Y _ _ HX.out CX.out HY.out CY.out G11.out).mono ?_; rintro e w' ⟨rfl, hb⟩; (try (replace HX := Aside0.mk (Kd.C_below HX.out hb))); (try (replace HY := Aside0.mk (Kd.C_below HY.out hb))); (try (replace HZ := Aside0.mk (Kd.C_below HZ.out hb))); (try (replace HS := Aside0.mk (Kd.C_below HS.out hb))); (try (replace HM := Aside0.mk (Kd.C_below HM.out hb))); (try (replace HP := Aside0.mk (Kd.C_below HP.out hb))); (try (replace HQ := Aside0.mk (Kd.C_below HQ.out hb))); (try (replace HR := Aside0.mk (Kd.C_below HR.out hb))); (try (replace HT := Aside0.mk (Kd.C_below HT.out hb))); (try (replace HU := Aside0.mk (Kd.C_below HU.out hb))); replace HB := Aside0.mk (HB.out.trans (hb.mono HB.out.size)); clear hb)
          | (go_at_call 28; with_reducible refine (matrix_Same.calls AS cS s AR cR rx _ _ HS.out CS.out HR.out CR.out F10.out).mono ?_; rintro e w' ⟨rfl, hd⟩; have hb := hd.below; clear hd; (try (replace HX := Aside0.mk (Kd.C_below HX.out hb))); (try (replace HY := Aside0.mk (Kd.C_below HY.out hb))); (try (replace HZ := Aside0.mk (Kd.C_below HZ.out hb))); (try (replace HS := Aside0.mk (Kd.C_below HS.out hb))); (try (replace HM := Aside0.mk (Kd.C_below HM.out hb))); (try (replace HP := Aside0.mk (Kd.C_below HP.out hb))); (try (replace HQ := Aside0.mk (Kd.C_below HQ.out hb))); (try (replace HR := Aside0.mk (Kd.C_below HR.out hb))); (try (replace HT := Aside0.mk (Kd.C_below HT.out hb))); (try (replace HU := Aside0.mk (Kd.C_below HU.out hb))); replace HB := Aside0.mk (HB.out.trans (hb.mono HB.out.size)); clear hb)
          | (go_at_call 26; with_reducible refine (braidworklaw08_wakes.calls true _ wakes_ok).mono ?_; rintro e w' ⟨rfl, hb⟩; (try (replace HX := Aside0.mk (Kd.C_below HX.out hb))); (try (replace HY := Aside0.mk (Kd.C_below HY.out hb))); (try (replace HZ := Aside0.mk (Kd.C_below HZ.out hb))); (try (replace HS := Aside0.mk (Kd.C_below HS.out hb))); (try (replace HM := Aside0.mk (Kd.C_below HM.out hb))); (try (replace HP := Aside0.mk (Kd.C_below HP.out hb))); (try (replace HQ := Aside0.mk (Kd.C_below HQ.out hb))); (try (replace HR := Aside0.mk (Kd.C_below HR.out hb))); (try (replace HT := Aside0.mk (Kd.C_below HT.out hb))); (try (replace HU := Aside0.mk (Kd.C_below HU.out hb))); replace HB := Aside0.mk (HB.out.trans (hb.mono HB.out.size)); clear hb))
        go_ret
        exact ⟨rfl, HB.out⟩
    | true =>
      obtain rfl := hh2 rfl
      have e2 : (cyz != cyz) = false := by simp
      go_upto_region 16 with (first
        | (go_at_call 29; with_reducible refine (braidworklaw08_contains.calls AZ cZ Z AX cX X _ _ HZ.out CZ.out HX.out CX.out G5.out).mono ?_; rintro e w' ⟨rfl, hb⟩; (try (replace HX := Aside0.mk (Kd.C_below HX.out hb))); (try (replace HY := Aside0.mk (Kd.C_below HY.out hb))); (try (replace HZ := Aside0.mk (Kd.C_below HZ.out hb))); (try (replace HS := Aside0.mk (Kd.C_below HS.out hb))); (try (replace HM := Aside0.mk (Kd.C_below HM.out hb))); (try (replace HP := Aside0.mk (Kd.C_below HP.out hb))); (try (replace HQ := Aside0.mk (Kd.C_below HQ.out hb))); (try (replace HR := Aside0.mk (Kd.C_below HR.out hb))); (try (replace HT := Aside0.mk (Kd.C_below HT.out hb))); (try (replace HU := Aside0.mk (Kd.C_below HU.out hb))); replace HB := Aside0.mk (HB.out.trans (hb.mono HB.out.size)); clear hb)
        | (go_at_call 29; with_reducible refine (braidworklaw08_contains.calls AZ cZ Z AY cY Y _ _ HZ.out CZ.out HY.out CY.out G6.out).mono ?_; rintro e w' ⟨rfl, hb⟩; (try (replace HX := Aside0.mk (Kd.C_below HX.out hb))); (try (replace HY := Aside0.mk (Kd.C_below HY.out hb))); (try (replace HZ := Aside0.mk (Kd.C_below HZ.out hb))); (try (replace HS := Aside0.mk (Kd.C_below HS.out hb))); (try (replace HM := Aside0.mk (Kd.C_below HM.out hb))); (try (replace HP := Aside0.mk (Kd.C_below HP.out hb))); (try (replace HQ := Aside0.mk (Kd.C_below HQ.out hb))); (try (replace HR := Aside0.mk (Kd.C_below HR.out hb))); (try (replace HT := Aside0.mk (Kd.C_below HT.out hb))); (try (replace HU := Aside0.mk (Kd.C_below HU.out hb))); replace HB := Aside0.mk (HB.out.trans (hb.mono HB.out.size)); clear hb)
        | (go_at_call 29; with_reducible refine (braidworklaw08_contains.calls AZ cZ Z AS cS s _ _ HZ.out CZ.out HS.out CS.out G7.out).mono ?_; rintro e w' ⟨rfl, hb⟩; (try (replace HX := Aside0.mk (Kd.C_below HX.out hb))); (try (replace HY := Aside0.mk (Kd.C_below HY.out hb))); (try (replace HZ := Aside0.mk (Kd.C_below HZ.out hb))); (try (replace HS := Aside0.mk (Kd.C_below HS.out hb))); (try (replace HM := Aside0.mk (Kd.C_below HM.out hb))); (try (replace HP := Aside0.mk (Kd.C_below HP.out hb))); (try (replace HQ := Aside0.mk (Kd.C_below HQ.out hb))); (try (replace HR := Aside0.mk (Kd.C_below HR.out hb))); (try (replace HT := Aside0.mk (Kd.C_below HT.out hb))); (try (replace HU := Aside0.mk (Kd.C_below HU.out hb))); replace HB := Aside0.mk (HB.out.trans (hb.mono HB.out.size)); clear hb)
        | (go_at_call 29; with_reducible refine (braidworklaw08_contains.calls AX cX X AZ cZ Z _ _ HX.out CX.out HZ.out CZ.out G8.out).mono ?_; rintro e w' ⟨rfl, hb⟩; (try (replace HX := Aside0.mk (Kd.C_below HX.out hb))); (try (replace HY := Aside0.mk (Kd.C_below HY.out hb))); (try (replace HZ := Aside0.mk (Kd.C_below HZ.out hb))); (try (replace HS := Aside0.mk (Kd.C_below HS.out hb))); (try (replace HM := Aside0.mk (Kd.C_below HM.out hb))); (try (replace HP := Aside0.mk (Kd.C_below HP.out hb))); (try (replace HQ := Aside0.mk (Kd.C_below HQ.out hb))); (try (replace HR := Aside0.mk (Kd.C_below HR.out hb))); (try (replace HT := Aside0.mk (Kd.C_below HT.out hb))); (try (replace HU := Aside0.mk (Kd.C_below HU.out hb))); replace HB := Aside0.mk (HB.out.trans (hb.mono HB.out.size)); clear hb)
        | (go_at_call 29; with_reducible refine (braidworklaw08_contains.calls AY cY Y AZ cZ Z _ _ HY.out CY.out HZ.out CZ.out G9.out).mono ?_; rintro e w' ⟨rfl, hb⟩; (try (replace HX := Aside0.mk (Kd.C_below HX.out hb))); (try (replace HY := Aside0.mk (Kd.C_below HY.out hb))); (try (replace HZ := Aside0.mk (Kd.C_below HZ.out hb))); (try (replace HS := Aside0.mk (Kd.C_below HS.out hb))); (try (replace HM := Aside0.mk (Kd.C_below HM.out hb))); (try (replace HP := Aside0.mk (Kd.C_below HP.out hb))); (try (replace HQ := Aside0.mk (Kd.C_below HQ.out hb))); (try (replace HR := Aside0.mk (Kd.C_below HR.out hb))); (try (replace HT := Aside0.mk (Kd.C_below HT.out hb))); (try (replace HU := Aside0.mk (Kd.C_below HU.out hb))); replace HB := Aside0.mk (HB.out.trans (hb.mono HB.out.size)); clear hb)
        | (go_at_call 29; with_reducible refine (braidworklaw08_contains.calls AM cM m AZ cZ Z _ _ HM.out CM.out HZ.out CZ.out G10.out).mono ?_; rintro e w' ⟨rfl, hb⟩; (try (replace HX := Aside0.mk (Kd.C_below HX.out hb))); (try (replace HY := Aside0.mk (Kd.C_below HY.out hb))); (try (replace HZ := Aside0.mk (Kd.C_below HZ.out hb))); (try (replace HS := Aside0.mk (Kd.C_below HS.out hb))); (try (replace HM := Aside0.mk (Kd.C_below HM.out hb))); (try (replace HP := Aside0.mk (Kd.C_below HP.out hb))); (try (replace HQ := Aside0.mk (Kd.C_below HQ.out hb))); (try (replace HR := Aside0.mk (Kd.C_below HR.out hb))); (try (replace HT := Aside0.mk (Kd.C_below HT.out hb))); (try (replace HU := Aside0.mk (Kd.C_below HU.out hb))); replace HB := Aside0.mk (HB.out.trans (hb.mono HB.out.size)); clear hb)
        | (go_at_call 20; with_reducible refine (span_Sum.calls AY cY Y AX cX X s 0 _ HY.out CY.out HX.out CX.out F5.out).mono ?_; rintro e w' ⟨v_, rfl, ho_, hb⟩; obtain ⟨AT, cT, rfl⟩ := Kd.S_slice ho_; have HT := Aside0.mk (Kd.S_reads' ho_).2.2; have CT := Aside0.mk (Kd.S_reads' ho_).2.1; clear ho_; (try (replace HX := Aside0.mk (Kd.C_below HX.out hb))); (try (replace HY := Aside0.mk (Kd.C_below HY.out hb))); (try (replace HZ := Aside0.mk (Kd.C_below HZ.out hb))); (try (replace HS := Aside0.mk (Kd.C_below HS.out hb))); (try (replace HM := Aside0.mk (Kd.C_below HM.out hb))); (try (replace HP := Aside0.mk (Kd.C_below HP.out hb))); (try (replace HQ := Aside0.mk (Kd.C_below HQ.out hb))); (try (replace HR := Aside0.mk (Kd.C_below HR.out hb))); (try (replace HU := Aside0.mk (Kd.C_below HU.out hb))); replace HB := Aside0.mk (HB.out.trans (hb.mono HB.out.size)); clear hb)
        | (go_at_call 22; with_reducible refine (span_Meet.calls AY cY Y AX cX X m 0 _ HY.out CY.out HX.out CX.out F6.out).mono ?_; rintro e w' ⟨v_, rfl, ho_, hb⟩; obtain ⟨AU, cU, rfl⟩ := Kd.S_slice ho_; have HU := Aside0.mk (Kd.S_reads' ho_).2.2; have CU := Aside0.mk (Kd.S_reads' ho_).2.1; clear ho_; (try (replace HX := Aside0.mk (Kd.C_below HX.out hb))); (try (replace HY := Aside0.mk (Kd.C_below HY.out hb))); (try (replace HZ := Aside0.mk (Kd.C_below HZ.out hb))); (try (replace HS := Aside0.mk (Kd.C_below HS.out hb))); (try (replace HM := Aside0.mk (Kd.C_below HM.out hb))); (try (replace HP := Aside0.mk (Kd.C_below HP.out hb))); (try (replace HQ := Aside0.mk (Kd.C_below HQ.out hb))); (try (replace HR := Aside0.mk (Kd.C_below HR.out hb))); (try (replace HT := Aside0.mk (Kd.C_below HT.out hb))); replace HB := Aside0.mk (HB.out.trans (hb.mono HB.out.size)); clear hb)
        | (go_at_call 28; with_reducible refine (matrix_Same.calls AT cT s AS cS s _ _ HT.out CT.out HS.out CS.out F7.out).mono ?_; rintro e w' ⟨rfl, hd⟩; have hb := hd.below; clear hd; (try (replace HX := Aside0.mk (Kd.C_below HX.out hb))); (try (replace HY := Aside0.mk (Kd.C_below HY.out hb))); (try (replace HZ := Aside0.mk (Kd.C_below HZ.out hb))); (try (replace HS := Aside0.mk (Kd.C_below HS.out hb))); (try (replace HM := Aside0.mk (Kd.C_below HM.out hb))); (try (replace HP := Aside0.mk (Kd.C_below HP.out hb))); (try (replace HQ := Aside0.mk (Kd.C_below HQ.out hb))); (try (replace HR := Aside0.mk (Kd.C_below HR.out hb))); (try (replace HT := Aside0.mk (Kd.C_below HT.out hb))); (try (replace HU := Aside0.mk (Kd.C_below HU.out hb))); replace HB := Aside0.mk (HB.out.trans (hb.mono HB.out.size)); clear hb)
        | (go_at_call 28; with_reducible refine (matrix_Same.calls AU cU m AM cM m _ _ HU.out CU.out HM.out CM.out F8.out).mono ?_; rintro e w' ⟨rfl, hd⟩; have hb := hd.below; clear hd; (try (replace HX := Aside0.mk (Kd.C_below HX.out hb))); (try (replace HY := Aside0.mk (Kd.C_below HY.out hb))); (try (replace HZ := Aside0.mk (Kd.C_below HZ.out hb))); (try (replace HS := Aside0.mk (Kd.C_below HS.out hb))); (try (replace HM := Aside0.mk (Kd.C_below HM.out hb))); (try (replace HP := Aside0.mk (Kd.C_below HP.out hb))); (try (replace HQ := Aside0.mk (Kd.C_below HQ.out hb))); (try (replace HR := Aside0.mk (Kd.C_below HR.out hb))); (try (replace HT := Aside0.mk (Kd.C_below HT.out hb))); (try (replace HU := Aside0.mk (Kd.C_below HU.out hb))); replace HB := Aside0.mk (HB.out.trans (hb.mono HB.out.size)); clear hb)
        | (go_at_call 32; with_reducible refine (matrix_Reduce.calls AX cX X rx 0 _ HX.out CX.out F9.out).mono ?_; rintro e w' ⟨v_, rfl, ho_, hb⟩; obtain ⟨AR, cR, rfl⟩ := Kd.S_slice ho_; have HR := Aside0.mk (Kd.S_reads' ho_).2.2; have CR := Aside0.mk (Kd.S_reads' ho_).2.1; clear ho_; (try (replace HX := Aside0.mk (Kd.C_below HX.out hb))); (try (replace HY := Aside0.mk (Kd.C_below HY.out hb))); (try (replace HZ := Aside0.mk (Kd.C_below HZ.out hb))); (try (replace HS := Aside0.mk (Kd.C_below HS.out hb))); (try (replace HM := Aside0.mk (Kd.C_below HM.out hb))); (try (replace HP := Aside0.mk (Kd.C_below HP.out hb))); (try (replace HQ := Aside0.mk (Kd.C_below HQ.out hb))); (try (replace HT := Aside0.mk (Kd.C_below HT.out hb))); (try (replace HU := Aside0.mk (Kd.C_below HU.out hb))); replace HB := Aside0.mk (HB.out.trans (hb.mono HB.out.size)); clear hb))
      cases cxy with
      | false =>
        go_wp2_with (first
          | (go_at_call 29; with_reducible refine (braidworklaw08_contains.calls AX cX X AY cY Y _ _ HX.out CX.out HY.out CY.out G11.out).mono ?_; rintro e w' ⟨rfl, hb⟩; (try (replace HX := Aside0.mk (Kd.C_below HX.out hb))); (try (replace HY := Aside0.mk (Kd.C_below HY.out hb))); (try (replace HZ := Aside0.mk (Kd.C_below HZ.out hb))); (try (replace HS := Aside0.mk (Kd.C_below HS.out hb))); (try (replace HM := Aside0.mk (Kd.C_below HM.out hb))); (try (replace HP := Aside0.mk (Kd.C_below HP.out hb))); (try (replace HQ := Aside0.mk (Kd.C_below HQ.out hb))); (try (replace HR := Aside0.mk (Kd.C_below HR.out hb))); (try (replace HT := Aside0.mk (Kd.C_below HT.out hb))); (try (replace HU := Aside0.mk (Kd.C_below HU.out hb))); replace HB := Aside0.mk (HB.out.trans (hb.mono HB.out.size)); clear hb)
          | (go_at_call 28; with_reducible refine (matrix_Same.calls AS cS s AR cR rx _ _ HS.out CS.out HR.out CR.out F10.out).mono ?_; rintro e w' ⟨rfl, hd⟩; have hb := hd.below; clear hd; (try (replace HX := Aside0.mk (Kd.C_below HX.out hb))); (try (replace HY := Aside0.mk (Kd.C_below HY.out hb))); (try (replace HZ := Aside0.mk (Kd.C_below HZ.out hb))); (try (replace HS := Aside0.mk (Kd.C_below HS.out hb))); (try (replace HM := Aside0.mk (Kd.C_below HM.out hb))); (try (replace HP := Aside0.mk (Kd.C_below HP.out hb))); (try (replace HQ := Aside0.mk (Kd.C_below HQ.out hb))); (try (replace HR := Aside0.mk (Kd.C_below HR.out hb))); (try (replace HT := Aside0.mk (Kd.C_below HT.out hb))); (try (replace HU := Aside0.mk (Kd.C_below HU.out hb))); replace HB := Aside0.mk (HB.out.trans (hb.mono HB.out.size)); clear hb)
          | (go_at_call 26; with_reducible refine (braidworklaw08_wakes.calls true _ wakes_ok).mono ?_; rintro e w' ⟨rfl, hb⟩; (try (replace HX := Aside0.mk (Kd.C_below HX.out hb))); (try (replace HY := Aside0.mk (Kd.C_below HY.out hb))); (try (replace HZ := Aside0.mk (Kd.C_below HZ.out hb))); (try (replace HS := Aside0.mk (Kd.C_below HS.out hb))); (try (replace HM := Aside0.mk (Kd.C_below HM.out hb))); (try (replace HP := Aside0.mk (Kd.C_below HP.out hb))); (try (replace HQ := Aside0.mk (Kd.C_below HQ.out hb))); (try (replace HR := Aside0.mk (Kd.C_below HR.out hb))); (try (replace HT := Aside0.mk (Kd.C_below HT.out hb))); (try (replace HU := Aside0.mk (Kd.C_below HU.out hb))); replace HB := Aside0.mk (HB.out.trans (hb.mono HB.out.size)); clear hb))
        go_ret
        exact ⟨rfl, HB.out⟩
      | true =>
        obtain ⟨hx1, hx2⟩ := hx rfl
        have F10 := Aside0.mk hx1
        clear hx1
        go_wp2_with (first
          | (go_at_call 29; with_reducible refine (braidworklaw08_contains.calls AX cX X AY cY Y _ _ HX.out CX.out HY.out CY.out G11.out).mono ?_; rintro e w' ⟨rfl, hb⟩; (try (replace HX := Aside0.mk (Kd.C_below HX.out hb))); (try (replace HY := Aside0.mk (Kd.C_below HY.out hb))); (try (replace HZ := Aside0.mk (Kd.C_below HZ.out hb))); (try (replace HS := Aside0.mk (Kd.C_below HS.out hb))); (try (replace HM := Aside0.mk (Kd.C_below HM.out hb))); (try (replace HP := Aside0.mk (Kd.C_below HP.out hb))); (try (replace HQ := Aside0.mk (Kd.C_below HQ.out hb))); (try (replace HR := Aside0.mk (Kd.C_below HR.out hb))); (try (replace HT := Aside0.mk (Kd.C_below HT.out hb))); (try (replace HU := Aside0.mk (Kd.C_below HU.out hb))); replace HB := Aside0.mk (HB.out.trans (hb.mono HB.out.size)); clear hb)
          | (go_at_call 28; with_reducible refine (matrix_Same.calls AS cS s AR cR rx _ _ HS.out CS.out HR.out CR.out F10.out).mono ?_; rintro e w' ⟨rfl, hd⟩; have hb := hd.below; clear hd; (try (replace HX := Aside0.mk (Kd.C_below HX.out hb))); (try (replace HY := Aside0.mk (Kd.C_below HY.out hb))); (try (replace HZ := Aside0.mk (Kd.C_below HZ.out hb))); (try (replace HS := Aside0.mk (Kd.C_below HS.out hb))); (try (replace HM := Aside0.mk (Kd.C_below HM.out hb))); (try (replace HP := Aside0.mk (Kd.C_below HP.out hb))); (try (replace HQ := Aside0.mk (Kd.C_below HQ.out hb))); (try (replace HR := Aside0.mk (Kd.C_below HR.out hb))); (try (replace HT := Aside0.mk (Kd.C_below HT.out hb))); (try (replace HU := Aside0.mk (Kd.C_below HU.out hb))); replace HB := Aside0.mk (HB.out.trans (hb.mono HB.out.size)); clear hb)
          | (go_at_call 26; with_reducible refine (braidworklaw08_wakes.calls true _ wakes_ok).mono ?_; rintro e w' ⟨rfl, hb⟩; (try (replace HX := Aside0.mk (Kd.C_below HX.out hb))); (try (replace HY := Aside0.mk (Kd.C_below HY.out hb))); (try (replace HZ := Aside0.mk (Kd.C_below HZ.out hb))); (try (replace HS := Aside0.mk (Kd.C_below HS.out hb))); (try (replace HM := Aside0.mk (Kd.C_below HM.out hb))); (try (replace HP := Aside0.mk (Kd.C_below HP.out hb))); (try (replace HQ := Aside0.mk (Kd.C_below HQ.out hb))); (try (replace HR := Aside0.mk (Kd.C_below HR.out hb))); (try (replace HT := Aside0.mk (Kd.C_below HT.out hb))); (try (replace HU := Aside0.mk (Kd.C_below HU.out hb))); replace HB := Aside0.mk (HB.out.trans (hb.mono HB.out.size)); clear hb))
        go_ret
        exact ⟨rfl, HB.out⟩
  | true =>
    obtain rfl := hh1 rfl
    have e1 : (czy != czy) = false := by simp
    cases cxz with
    | false =>
      go_upto_region 16 with (first
        | (go_at_call 29; with_reducible refine (braidworklaw08_contains.calls AZ cZ Z AX cX X _ _ HZ.out CZ.out HX.out CX.out G5.out).mono ?_; rintro e w' ⟨rfl, hb⟩; (try (replace HX := Aside0.mk (Kd.C_below HX.out hb))); (try (replace HY := Aside0.mk (Kd.C_below HY.out hb))); (try (replace HZ := Aside0.mk (Kd.C_below HZ.out hb))); (try (replace HS := Aside0.mk (Kd.C_below HS.out hb))); (try (replace HM := Aside0.mk (Kd.C_below HM.out hb))); (try (replace HP := Aside0.mk (Kd.C_below HP.out hb))); (try (replace HQ := Aside0.mk (Kd.C_below HQ.out hb))); (try (replace HR := Aside0.mk (Kd.C_below HR.out hb))); (try (replace HT := Aside0.mk (Kd.C_below HT.out hb))); (try (replace HU := Aside0.mk (Kd.C_below HU.out hb))); replace HB := Aside0.mk (HB.out.trans (hb.mono HB.out.size)); clear hb)
        | (go_at_call 29; with_reducible refine (braidworklaw08_contains.calls AZ cZ Z AY cY Y _ _ HZ.out CZ.out HY.out CY.out G6.out).mono ?_; rintro e w' ⟨rfl, hb⟩; (try (replace HX := Aside0.mk (Kd.C_below HX.out hb))); (try (replace HY := Aside0.mk (Kd.C_below HY.out hb))); (try (replace HZ := Aside0.mk (Kd.C_below HZ.out hb))); (try (replace HS := Aside0.mk (Kd.C_below HS.out hb))); (try (replace HM := Aside0.mk (Kd.C_below HM.out hb))); (try (replace HP := Aside0.mk (Kd.C_below HP.out hb))); (try (replace HQ := Aside0.mk (Kd.C_below HQ.out hb))); (try (replace HR := Aside0.mk (Kd.C_below HR.out hb))); (try (replace HT := Aside0.mk (Kd.C_below HT.out hb))); (try (replace HU := Aside0.mk (Kd.C_below HU.out hb))); replace HB := Aside0.mk (HB.out.trans (hb.mono HB.out.size)); clear hb)
        | (go_at_call 29; with_reducible refine (braidworklaw08_contains.calls AZ cZ Z AS cS s _ _ HZ.out CZ.out HS.out CS.out G7.out).mono ?_; rintro e w' ⟨rfl, hb⟩; (try (replace HX := Aside0.mk (Kd.C_below HX.out hb))); (try (replace HY := Aside0.mk (Kd.C_below HY.out hb))); (try (replace HZ := Aside0.mk (Kd.C_below HZ.out hb))); (try (replace HS := Aside0.mk (Kd.C_below HS.out hb))); (try (replace HM := Aside0.mk (Kd.C_below HM.out hb))); (try (replace HP := Aside0.mk (Kd.C_below HP.out hb))); (try (replace HQ := Aside0.mk (Kd.C_below HQ.out hb))); (try (replace HR := Aside0.mk (Kd.C_below HR.out hb))); (try (replace HT := Aside0.mk (Kd.C_below HT.out hb))); (try (replace HU := Aside0.mk (Kd.C_below HU.out hb))); replace HB := Aside0.mk (HB.out.trans (hb.mono HB.out.size)); clear hb)
        | (go_at_call 29; with_reducible refine (braidworklaw08_contains.calls AX cX X AZ cZ Z _ _ HX.out CX.out HZ.out CZ.out G8.out).mono ?_; rintro e w' ⟨rfl, hb⟩; (try (replace HX := Aside0.mk (Kd.C_below HX.out hb))); (try (replace HY := Aside0.mk (Kd.C_below HY.out hb))); (try (replace HZ := Aside0.mk (Kd.C_below HZ.out hb))); (try (replace HS := Aside0.mk (Kd.C_below HS.out hb))); (try (replace HM := Aside0.mk (Kd.C_below HM.out hb))); (try (replace HP := Aside0.mk (Kd.C_below HP.out hb))); (try (replace HQ := Aside0.mk (Kd.C_below HQ.out hb))); (try (replace HR := Aside0.mk (Kd.C_below HR.out hb))); (try (replace HT := Aside0.mk (Kd.C_below HT.out hb))); (try (replace HU := Aside0.mk (Kd.C_below HU.out hb))); replace HB := Aside0.mk (HB.out.trans (hb.mono HB.out.size)); clear hb)
        | (go_at_call 29; with_reducible refine (braidworklaw08_contains.calls AY cY Y AZ cZ Z _ _ HY.out CY.out HZ.out CZ.out G9.out).mono ?_; rintro e w' ⟨rfl, hb⟩; (try (replace HX := Aside0.mk (Kd.C_below HX.out hb))); (try (replace HY := Aside0.mk (Kd.C_below HY.out hb))); (try (replace HZ := Aside0.mk (Kd.C_below HZ.out hb))); (try (replace HS := Aside0.mk (Kd.C_below HS.out hb))); (try (replace HM := Aside0.mk (Kd.C_below HM.out hb))); (try (replace HP := Aside0.mk (Kd.C_below HP.out hb))); (try (replace HQ := Aside0.mk (Kd.C_below HQ.out hb))); (try (replace HR := Aside0.mk (Kd.C_below HR.out hb))); (try (replace HT := Aside0.mk (Kd.C_below HT.out hb))); (try (replace HU := Aside0.mk (Kd.C_below HU.out hb))); replace HB := Aside0.mk (HB.out.trans (hb.mono HB.out.size)); clear hb)
        | (go_at_call 29; with_reducible refine (braidworklaw08_contains.calls AM cM m AZ cZ Z _ _ HM.out CM.out HZ.out CZ.out G10.out).mono ?_; rintro e w' ⟨rfl, hb⟩; (try (replace HX := Aside0.mk (Kd.C_below HX.out hb))); (try (replace HY := Aside0.mk (Kd.C_below HY.out hb))); (try (replace HZ := Aside0.mk (Kd.C_below HZ.out hb))); (try (replace HS := Aside0.mk (Kd.C_below HS.out hb))); (try (replace HM := Aside0.mk (Kd.C_below HM.out hb))); (try (replace HP := Aside0.mk (Kd.C_below HP.out hb))); (try (replace HQ := Aside0.mk (Kd.C_below HQ.out hb))); (try (replace HR := Aside0.mk (Kd.C_below HR.out hb))); (try (replace HT := Aside0.mk (Kd.C_below HT.out hb))); (try (replace HU := Aside0.mk (Kd.C_below HU.out hb))); replace HB := Aside0.mk (HB.out.trans (hb.mono HB.out.size)); clear hb)
        | (go_at_call 20; with_reducible refine (span_Sum.calls AY cY Y AX cX X s 0 _ HY.out CY.out HX.out CX.out F5.out).mono ?_; rintro e w' ⟨v_, rfl, ho_, hb⟩; obtain ⟨AT, cT, rfl⟩ := Kd.S_slice ho_; have HT := Aside0.mk (Kd.S_reads' ho_).2.2; have CT := Aside0.mk (Kd.S_reads' ho_).2.1; clear ho_; (try (replace HX := Aside0.mk (Kd.C_below HX.out hb))); (try (replace HY := Aside0.mk (Kd.C_below HY.out hb))); (try (replace HZ := Aside0.mk (Kd.C_below HZ.out hb))); (try (replace HS := Aside0.mk (Kd.C_below HS.out hb))); (try (replace HM := Aside0.mk (Kd.C_below HM.out hb))); (try (replace HP := Aside0.mk (Kd.C_below HP.out hb))); (try (replace HQ := Aside0.mk (Kd.C_below HQ.out hb))); (try (replace HR := Aside0.mk (Kd.C_below HR.out hb))); (try (replace HU := Aside0.mk (Kd.C_below HU.out hb))); replace HB := Aside0.mk (HB.out.trans (hb.mono HB.out.size)); clear hb)
        | (go_at_call 22; with_reducible refine (span_Meet.calls AY cY Y AX cX X m 0 _ HY.out CY.out HX.out CX.out F6.out).mono ?_; rintro e w' ⟨v_, rfl, ho_, hb⟩; obtain ⟨AU, cU, rfl⟩ := Kd.S_slice ho_; have HU := Aside0.mk (Kd.S_reads' ho_).2.2; have CU := Aside0.mk (Kd.S_reads' ho_).2.1; clear ho_; (try (replace HX := Aside0.mk (Kd.C_below HX.out hb))); (try (replace HY := Aside0.mk (Kd.C_below HY.out hb))); (try (replace HZ := Aside0.mk (Kd.C_below HZ.out hb))); (try (replace HS := Aside0.mk (Kd.C_below HS.out hb))); (try (replace HM := Aside0.mk (Kd.C_below HM.out hb))); (try (replace HP := Aside0.mk (Kd.C_below HP.out hb))); (try (replace HQ := Aside0.mk (Kd.C_below HQ.out hb))); (try (replace HR := Aside0.mk (Kd.C_below HR.out hb))); (try (replace HT := Aside0.mk (Kd.C_below HT.out hb))); replace HB := Aside0.mk (HB.out.trans (hb.mono HB.out.size)); clear hb)
        | (go_at_call 28; with_reducible refine (matrix_Same.calls AT cT s AS cS s _ _ HT.out CT.out HS.out CS.out F7.out).mono ?_; rintro e w' ⟨rfl, hd⟩; have hb := hd.below; clear hd; (try (replace HX := Aside0.mk (Kd.C_below HX.out hb))); (try (replace HY := Aside0.mk (Kd.C_below HY.out hb))); (try (replace HZ := Aside0.mk (Kd.C_below HZ.out hb))); (try (replace HS := Aside0.mk (Kd.C_below HS.out hb))); (try (replace HM := Aside0.mk (Kd.C_below HM.out hb))); (try (replace HP := Aside0.mk (Kd.C_below HP.out hb))); (try (replace HQ := Aside0.mk (Kd.C_below HQ.out hb))); (try (replace HR := Aside0.mk (Kd.C_below HR.out hb))); (try (replace HT := Aside0.mk (Kd.C_below HT.out hb))); (try (replace HU := Aside0.mk (Kd.C_below HU.out hb))); replace HB := Aside0.mk (HB.out.trans (hb.mono HB.out.size)); clear hb)
        | (go_at_call 28; with_reducible refine (matrix_Same.calls AU cU m AM cM m _ _ HU.out CU.out HM.out CM.out F8.out).mono ?_; rintro e w' ⟨rfl, hd⟩; have hb := hd.below; clear hd; (try (replace HX := Aside0.mk (Kd.C_below HX.out hb))); (try (replace HY := Aside0.mk (Kd.C_below HY.out hb))); (try (replace HZ := Aside0.mk (Kd.C_below HZ.out hb))); (try (replace HS := Aside0.mk (Kd.C_below HS.out hb))); (try (replace HM := Aside0.mk (Kd.C_below HM.out hb))); (try (replace HP := Aside0.mk (Kd.C_below HP.out hb))); (try (replace HQ := Aside0.mk (Kd.C_below HQ.out hb))); (try (replace HR := Aside0.mk (Kd.C_below HR.out hb))); (try (replace HT := Aside0.mk (Kd.C_below HT.out hb))); (try (replace HU := Aside0.mk (Kd.C_below HU.out hb))); replace HB := Aside0.mk (HB.out.trans (hb.mono HB.out.size)); clear hb)
        | (go_at_call 32; with_reducible refine (matrix_Reduce.calls AX cX X rx 0 _ HX.out CX.out F9.out).mono ?_; rintro e w' ⟨v_, rfl, ho_, hb⟩; obtain ⟨AR, cR, rfl⟩ := Kd.S_slice ho_; have HR := Aside0.mk (Kd.S_reads' ho_).2.2; have CR := Aside0.mk (Kd.S_reads' ho_).2.1; clear ho_; (try (replace HX := Aside0.mk (Kd.C_below HX.out hb))); (try (replace HY := Aside0.mk (Kd.C_below HY.out hb))); (try (replace HZ := Aside0.mk (Kd.C_below HZ.out hb))); (try (replace HS := Aside0.mk (Kd.C_below HS.out hb))); (try (replace HM := Aside0.mk (Kd.C_below HM.out hb))); (try (replace HP := Aside0.mk (Kd.C_below HP.out hb))); (try (replace HQ := Aside0.mk (Kd.C_below HQ.out hb))); (try (replace HT := Aside0.mk (Kd.C_below HT.out hb))); (try (replace HU := Aside0.mk (Kd.C_below HU.out hb))); replace HB := Aside0.mk (HB.out.trans (hb.mono HB.out.size)); clear hb))
      cases cxy with
      | false =>
        go_wp2_with (first
          | (go_at_call 29; with_reducible refine (braidworklaw08_contains.calls AX cX X AY cY Y _ _ HX.out CX.out HY.out CY.out G11.out).mono ?_; rintro e w' ⟨rfl, hb⟩; (try (replace HX := Aside0.mk (Kd.C_below HX.out hb))); (try (replace HY := Aside0.mk (Kd.C_below HY.out hb))); (try (replace HZ := Aside0.mk (Kd.C_below HZ.out hb))); (try (replace HS := Aside0.mk (Kd.C_below HS.out hb))); (try (replace HM := Aside0.mk (Kd.C_below HM.out hb))); (try (replace HP := Aside0.mk (Kd.C_below HP.out hb))); (try (replace HQ := Aside0.mk (Kd.C_below HQ.out hb))); (try (replace HR := Aside0.mk (Kd.C_below HR.out hb))); (try (replace HT := Aside0.mk (Kd.C_below HT.out hb))); (try (replace HU := Aside0.mk (Kd.C_below HU.out hb))); replace HB := Aside0.mk (HB.out.trans (hb.mono HB.out.size)); clear hb)
          | (go_at_call 28; with_reducible refine (matrix_Same.calls AS cS s AR cR rx _ _ HS.out CS.out HR.out CR.out F10.out).mono ?_; rintro e w' ⟨rfl, hd⟩; have hb := hd.below; clear hd; (try (replace HX := Aside0.mk (Kd.C_below HX.out hb))); (try (replace HY := Aside0.mk (Kd.C_below HY.out hb))); (try (replace HZ := Aside0.mk (Kd.C_below HZ.out hb))); (try (replace HS := Aside0.mk (Kd.C_below HS.out hb))); (try (replace HM := Aside0.mk (Kd.C_below HM.out hb))); (try (replace HP := Aside0.mk (Kd.C_below HP.out hb))); (try (replace HQ := Aside0.mk (Kd.C_below HQ.out hb))); (try (replace HR := Aside0.mk (Kd.C_below HR.out hb))); (try (replace HT := Aside0.mk (Kd.C_below HT.out hb))); (try (replace HU := Aside0.mk (Kd.C_below HU.out hb))); replace HB := Aside0.mk (HB.out.trans (hb.mono HB.out.size)); clear hb)
          | (go_at_call 26; with_reducible refine (braidworklaw08_wakes.calls true _ wakes_ok).mono ?_; rintro e w' ⟨rfl, hb⟩; (try (replace HX := Aside0.mk (Kd.C_below HX.out hb))); (try (replace HY := Aside0.mk (Kd.C_below HY.out hb))); (try (replace HZ := Aside0.mk (Kd.C_below HZ.out hb))); (try (replace HS := Aside0.mk (Kd.C_below HS.out hb))); (try (replace HM := Aside0.mk (Kd.C_below HM.out hb))); (try (replace HP := Aside0.mk (Kd.C_below HP.out hb))); (try (replace HQ := Aside0.mk (Kd.C_below HQ.out hb))); (try (replace HR := Aside0.mk (Kd.C_below HR.out hb))); (try (replace HT := Aside0.mk (Kd.C_below HT.out hb))); (try (replace HU := Aside0.mk (Kd.C_below HU.out hb))); replace HB := Aside0.mk (HB.out.trans (hb.mono HB.out.size)); clear hb))
        go_ret
        exact ⟨rfl, HB.out⟩
      | true =>
        obtain ⟨hx1, hx2⟩ := hx rfl
        have F10 := Aside0.mk hx1
        clear hx1
        go_wp2_with (first
          | (go_at_call 29; with_reducible refine (braidworklaw08_contains.calls AX cX X AY cY Y _ _ HX.out CX.out HY.out CY.out G11.out).mono ?_; rintro e w' ⟨rfl, hb⟩; (try (replace HX := Aside0.mk (Kd.C_below HX.out hb))); (try (replace HY := Aside0.mk (Kd.C_below HY.out hb))); (try (replace HZ := Aside0.mk (Kd.C_below HZ.out hb))); (try (replace HS := Aside0.mk (Kd.C_below HS.out hb))); (try (replace HM := Aside0.mk (Kd.C_below HM.out hb))); (try (replace HP := Aside0.mk (Kd.C_below HP.out hb))); (try (replace HQ := Aside0.mk (Kd.C_below HQ.out hb))); (try (replace HR := Aside0.mk (Kd.C_below HR.out hb))); (try (replace HT := Aside0.mk (Kd.C_below HT.out hb))); (try (replace HU := Aside0.mk (Kd.C_below HU.out hb))); replace HB := Aside0.mk (HB.out.trans (hb.mono HB.out.size)); clear hb)
          | (go_at_call 28; with_reducible refine (matrix_Same.calls AS cS s AR cR rx _ _ HS.out CS.out HR.out CR.out F10.out).mono ?_; rintro e w' ⟨rfl, hd⟩; have hb := hd.below; clear hd; (try (replace HX := Aside0.mk (Kd.C_below HX.out hb))); (try (replace HY := Aside0.mk (Kd.C_below HY.out hb))); (try (replace HZ := Aside0.mk (Kd.C_below HZ.out hb))); (try (replace HS := Aside0.mk (Kd.C_below HS.out hb))); (try (replace HM := Aside0.mk (Kd.C_below HM.out hb))); (try (replace HP := Aside0.mk (Kd.C_below HP.out hb))); (try (replace HQ := Aside0.mk (Kd.C_below HQ.out hb))); (try (replace HR := Aside0.mk (Kd.C_below HR.out hb))); (try (replace HT := Aside0.mk (Kd.C_below HT.out hb))); (try (replace HU := Aside0.mk (Kd.C_below HU.out hb))); replace HB := Aside0.mk (HB.out.trans (hb.mono HB.out.size)); clear hb)
          | (go_at_call 26; with_reducible refine (braidworklaw08_wakes.calls true _ wakes_ok).mono ?_; rintro e w' ⟨rfl, hb⟩; (try (replace HX := Aside0.mk (Kd.C_below HX.out hb))); (try (replace HY := Aside0.mk (Kd.C_below HY.out hb))); (try (replace HZ := Aside0.mk (Kd.C_below HZ.out hb))); (try (replace HS := Aside0.mk (Kd.C_below HS.out hb))); (try (replace HM := Aside0.mk (Kd.C_below HM.out hb))); (try (replace HP := Aside0.mk (Kd.C_below HP.out hb))); (try (replace HQ := Aside0.mk (Kd.C_below HQ.out hb))); (try (replace HR := Aside0.mk (Kd.C_below HR.out hb))); (try (replace HT := Aside0.mk (Kd.C_below HT.out hb))); (try (replace HU := Aside0.mk (Kd.C_below HU.out hb))); replace HB := Aside0.mk (HB.out.trans (hb.mono HB.out.size)); clear hb))
        go_ret
        exact ⟨rfl, HB.out⟩
    | true =>
      obtain rfl := hh2 rfl
      have e2 : (cyz != cyz) = false := by simp
      go_upto_region 16 with (first
        | (go_at_call 29; with_reducible refine (braidworklaw08_contains.calls AZ cZ Z AX cX X _ _ HZ.out CZ.out HX.out CX.out G5.out).mono ?_; rintro e w' ⟨rfl, hb⟩; (try (replace HX := Aside0.mk (Kd.C_below HX.out hb))); (try (replace HY := Aside0.mk (Kd.C_below HY.out hb))); (try (replace HZ := Aside0.mk (Kd.C_below HZ.out hb))); (try (replace HS := Aside0.mk (Kd.C_below HS.out hb))); (try (replace HM := Aside0.mk (Kd.C_below HM.out hb))); (try (replace HP := Aside0.mk (Kd.C_below HP.out hb))); (try (replace HQ := Aside0.mk (Kd.C_below HQ.out hb))); (try (replace HR := Aside0.mk (Kd.C_below HR.out hb))); (try (replace HT := Aside0.mk (Kd.C_below HT.out hb))); (try (replace HU := Aside0.mk (Kd.C_below HU.out hb))); replace HB := Aside0.mk (HB.out.trans (hb.mono HB.out.size)); clear hb)
        | (go_at_call 29; with_reducible refine (braidworklaw08_contains.calls AZ cZ Z AY cY Y _ _ HZ.out CZ.out HY.out CY.out G6.out).mono ?_; rintro e w' ⟨rfl, hb⟩; (try (replace HX := Aside0.mk (Kd.C_below HX.out hb))); (try (replace HY := Aside0.mk (Kd.C_below HY.out hb))); (try (replace HZ := Aside0.mk (Kd.C_below HZ.out hb))); (try (replace HS := Aside0.mk (Kd.C_below HS.out hb))); (try (replace HM := Aside0.mk (Kd.C_below HM.out hb))); (try (replace HP := Aside0.mk (Kd.C_below HP.out hb))); (try (replace HQ := Aside0.mk (Kd.C_below HQ.out hb))); (try (replace HR := Aside0.mk (Kd.C_below HR.out hb))); (try (replace HT := Aside0.mk (Kd.C_below HT.out hb))); (try (replace HU := Aside0.mk (Kd.C_below HU.out hb))); replace HB := Aside0.mk (HB.out.trans (hb.mono HB.out.size)); clear hb)
        | (go_at_call 29; with_reducible refine (braidworklaw08_contains.calls AZ cZ Z AS cS s _ _ HZ.out CZ.out HS.out CS.out G7.out).mono ?_; rintro e w' ⟨rfl, hb⟩; (try (replace HX := Aside0.mk (Kd.C_below HX.out hb))); (try (replace HY := Aside0.mk (Kd.C_below HY.out hb))); (try (replace HZ := Aside0.mk (Kd.C_below HZ.out hb))); (try (replace HS := Aside0.mk (Kd.C_below HS.out hb))); (try (replace HM := Aside0.mk (Kd.C_below HM.out hb))); (try (replace HP := Aside0.mk (Kd.C_below HP.out hb))); (try (replace HQ := Aside0.mk (Kd.C_below HQ.out hb))); (try (replace HR := Aside0.mk (Kd.C_below HR.out hb))); (try (replace HT := Aside0.mk (Kd.C_below HT.out hb))); (try (replace HU := Aside0.mk (Kd.C_below HU.out hb))); replace HB := Aside0.mk (HB.out.trans (hb.mono HB.out.size)); clear hb)
        | (go_at_call 29; with_reducible refine (braidworklaw08_contains.calls AX cX X AZ cZ Z _ _ HX.out CX.out HZ.out CZ.out G8.out).mono ?_; rintro e w' ⟨rfl, hb⟩; (try (replace HX := Aside0.mk (Kd.C_below HX.out hb))); (try (replace HY := Aside0.mk (Kd.C_below HY.out hb))); (try (replace HZ := Aside0.mk (Kd.C_below HZ.out hb))); (try (replace HS := Aside0.mk (Kd.C_below HS.out hb))); (try (replace HM := Aside0.mk (Kd.C_below HM.out hb))); (try (replace HP := Aside0.mk (Kd.C_below HP.out hb))); (try (replace HQ := Aside0.mk (Kd.C_below HQ.out hb))); (try (replace HR := Aside0.mk (Kd.C_below HR.out hb))); (try (replace HT := Aside0.mk (Kd.C_below HT.out hb))); (try (replace HU := Aside0.mk (Kd.C_below HU.out hb))); replace HB := Aside0.mk (HB.out.trans (hb.mono HB.out.size)); clear hb)
        | (go_at_call 29; with_reducible refine (braidworklaw08_contains.calls AY cY Y AZ cZ Z _ _ HY.out CY.out HZ.out CZ.out G9.out).mono ?_; rintro e w' ⟨rfl, hb⟩; (try (replace HX := Aside0.mk (Kd.C_below HX.out hb))); (try (replace HY := Aside0.mk (Kd.C_below HY.out hb))); (try (replace HZ := Aside0.mk (Kd.C_below HZ.out hb))); (try (replace HS := Aside0.mk (Kd.C_below HS.out hb))); (try (replace HM := Aside0.mk (Kd.C_below HM.out hb))); (try (replace HP := Aside0.mk (Kd.C_below HP.out hb))); (try (replace HQ := Aside0.mk (Kd.C_below HQ.out hb))); (try (replace HR := Aside0.mk (Kd.C_below HR.out hb))); (try (replace HT := Aside0.mk (Kd.C_below HT.out hb))); (try (replace HU := Aside0.mk (Kd.C_below HU.out hb))); replace HB := Aside0.mk (HB.out.trans (hb.mono HB.out.size)); clear hb)
        | (go_at_call 29; with_reducible refine (braidworklaw08_contains.calls AM cM m AZ cZ Z _ _ HM.out CM.out HZ.out CZ.out G10.out).mono ?_; rintro e w' ⟨rfl, hb⟩; (try (replace HX := Aside0.mk (Kd.C_below HX.out hb))); (try (replace HY := Aside0.mk (Kd.C_below HY.out hb))); (try (replace HZ := Aside0.mk (Kd.C_below HZ.out hb))); (try (replace HS := Aside0.mk (Kd.C_below HS.out hb))); (try (replace HM := Aside0.mk (Kd.C_below HM.out hb))); (try (replace HP := Aside0.mk (Kd.C_below HP.out hb))); (try (replace HQ := Aside0.mk (Kd.C_below HQ.out hb))); (try (replace HR := Aside0.mk (Kd.C_below HR.out hb))); (try (replace HT := Aside0.mk (Kd.C_below HT.out hb))); (try (replace HU := Aside0.mk (Kd.C_below HU.out hb))); replace HB := Aside0.mk (HB.out.trans (hb.mono HB.out.size)); clear hb)
        | (go_at_call 20; with_reducible refine (span_Sum.calls AY cY Y AX cX X s 0 _ HY.out CY.out HX.out CX.out F5.out).mono ?_; rintro e w' ⟨v_, rfl, ho_, hb⟩; obtain ⟨AT, cT, rfl⟩ := Kd.S_slice ho_; have HT := Aside0.mk (Kd.S_reads' ho_).2.2; have CT := Aside0.mk (Kd.S_reads' ho_).2.1; clear ho_; (try (replace HX := Aside0.mk (Kd.C_below HX.out hb))); (try (replace HY := Aside0.mk (Kd.C_below HY.out hb))); (try (replace HZ := Aside0.mk (Kd.C_below HZ.out hb))); (try (replace HS := Aside0.mk (Kd.C_below HS.out hb))); (try (replace HM := Aside0.mk (Kd.C_below HM.out hb))); (try (replace HP := Aside0.mk (Kd.C_below HP.out hb))); (try (replace HQ := Aside0.mk (Kd.C_below HQ.out hb))); (try (replace HR := Aside0.mk (Kd.C_below HR.out hb))); (try (replace HU := Aside0.mk (Kd.C_below HU.out hb))); replace HB := Aside0.mk (HB.out.trans (hb.mono HB.out.size)); clear hb)
        | (go_at_call 22; with_reducible refine (span_Meet.calls AY cY Y AX cX X m 0 _ HY.out CY.out HX.out CX.out F6.out).mono ?_; rintro e w' ⟨v_, rfl, ho_, hb⟩; obtain ⟨AU, cU, rfl⟩ := Kd.S_slice ho_; have HU := Aside0.mk (Kd.S_reads' ho_).2.2; have CU := Aside0.mk (Kd.S_reads' ho_).2.1; clear ho_; (try (replace HX := Aside0.mk (Kd.C_below HX.out hb))); (try (replace HY := Aside0.mk (Kd.C_below HY.out hb))); (try (replace HZ := Aside0.mk (Kd.C_below HZ.out hb))); (try (replace HS := Aside0.mk (Kd.C_below HS.out hb))); (try (replace HM := Aside0.mk (Kd.C_below HM.out hb))); (try (replace HP := Aside0.mk (Kd.C_below HP.out hb))); (try (replace HQ := Aside0.mk (Kd.C_below HQ.out hb))); (try (replace HR := Aside0.mk (Kd.C_below HR.out hb))); (try (replace HT := Aside0.mk (Kd.C_below HT.out hb))); replace HB := Aside0.mk (HB.out.trans (hb.mono HB.out.size)); clear hb)
        | (go_at_call 28; with_reducible refine (matrix_Same.calls AT cT s AS cS s _ _ HT.out CT.out HS.out CS.out F7.out).mono ?_; rintro e w' ⟨rfl, hd⟩; have hb := hd.below; clear hd; (try (replace HX := Aside0.mk (Kd.C_below HX.out hb))); (try (replace HY := Aside0.mk (Kd.C_below HY.out hb))); (try (replace HZ := Aside0.mk (Kd.C_below HZ.out hb))); (try (replace HS := Aside0.mk (Kd.C_below HS.out hb))); (try (replace HM := Aside0.mk (Kd.C_below HM.out hb))); (try (replace HP := Aside0.mk (Kd.C_below HP.out hb))); (try (replace HQ := Aside0.mk (Kd.C_below HQ.out hb))); (try (replace HR := Aside0.mk (Kd.C_below HR.out hb))); (try (replace HT := Aside0.mk (Kd.C_below HT.out hb))); (try (replace HU := Aside0.mk (Kd.C_below HU.out hb))); replace HB := Aside0.mk (HB.out.trans (hb.mono HB.out.size)); clear hb)
        | (go_at_call 28; with_reducible refine (matrix_Same.calls AU cU m AM cM m _ _ HU.out CU.out HM.out CM.out F8.out).mono ?_; rintro e w' ⟨rfl, hd⟩; have hb := hd.below; clear hd; (try (replace HX := Aside0.mk (Kd.C_below HX.out hb))); (try (replace HY := Aside0.mk (Kd.C_below HY.out hb))); (try (replace HZ := Aside0.mk (Kd.C_below HZ.out hb))); (try (replace HS := Aside0.mk (Kd.C_below HS.out hb))); (try (replace HM := Aside0.mk (Kd.C_below HM.out hb))); (try (replace HP := Aside0.mk (Kd.C_below HP.out hb))); (try (replace HQ := Aside0.mk (Kd.C_below HQ.out hb))); (try (replace HR := Aside0.mk (Kd.C_below HR.out hb))); (try (replace HT := Aside0.mk (Kd.C_below HT.out hb))); (try (replace HU := Aside0.mk (Kd.C_below HU.out hb))); replace HB := Aside0.mk (HB.out.trans (hb.mono HB.out.size)); clear hb)
        | (go_at_call 32; with_reducible refine (matrix_Reduce.calls AX cX X rx 0 _ HX.out CX.out F9.out).mono ?_; rintro e w' ⟨v_, rfl, ho_, hb⟩; obtain ⟨AR, cR, rfl⟩ := Kd.S_slice ho_; have HR := Aside0.mk (Kd.S_reads' ho_).2.2; have CR := Aside0.mk (Kd.S_reads' ho_).2.1; clear ho_; (try (replace HX := Aside0.mk (Kd.C_below HX.out hb))); (try (replace HY := Aside0.mk (Kd.C_below HY.out hb))); (try (replace HZ := Aside0.mk (Kd.C_below HZ.out hb))); (try (replace HS := Aside0.mk (Kd.C_below HS.out hb))); (try (replace HM := Aside0.mk (Kd.C_below HM.out hb))); (try (replace HP := Aside0.mk (Kd.C_below HP.out hb))); (try (replace HQ := Aside0.mk (Kd.C_below HQ.out hb))); (try (replace HT := Aside0.mk (Kd.C_below HT.out hb))); (try (replace HU := Aside0.mk (Kd.C_below HU.out hb))); replace HB := Aside0.mk (HB.out.trans (hb.mono HB.out.size)); clear hb))
      cases cxy with
      | false =>
        go_wp2_with (first
          | (go_at_call 29; with_reducible refine (braidworklaw08_contains.calls AX cX X AY cY Y _ _ HX.out CX.out HY.out CY.out G11.out).mono ?_; rintro e w' ⟨rfl, hb⟩; (try (replace HX := Aside0.mk (Kd.C_below HX.out hb))); (try (replace HY := Aside0.mk (Kd.C_below HY.out hb))); (try (replace HZ := Aside0.mk (Kd.C_below HZ.out hb))); (try (replace HS := Aside0.mk (Kd.C_below HS.out hb))); (try (replace HM := Aside0.mk (Kd.C_below HM.out hb))); (try (replace HP := Aside0.mk (Kd.C_below HP.out hb))); (try (replace HQ := Aside0.mk (Kd.C_below HQ.out hb))); (try (replace HR := Aside0.mk (Kd.C_below HR.out hb))); (try (replace HT := Aside0.mk (Kd.C_below HT.out hb))); (try (replace HU := Aside0.mk (Kd.C_below HU.out hb))); replace HB := Aside0.mk (HB.out.trans (hb.mono HB.out.size)); clear hb)
          | (go_at_call 28; with_reducible refine (matrix_Same.calls AS cS s AR cR rx _ _ HS.out CS.out HR.out CR.out F10.out).mono ?_; rintro e w' ⟨rfl, hd⟩; have hb := hd.below; clear hd; (try (replace HX := Aside0.mk (Kd.C_below HX.out hb))); (try (replace HY := Aside0.mk (Kd.C_below HY.out hb))); (try (replace HZ := Aside0.mk (Kd.C_below HZ.out hb))); (try (replace HS := Aside0.mk (Kd.C_below HS.out hb))); (try (replace HM := Aside0.mk (Kd.C_below HM.out hb))); (try (replace HP := Aside0.mk (Kd.C_below HP.out hb))); (try (replace HQ := Aside0.mk (Kd.C_below HQ.out hb))); (try (replace HR := Aside0.mk (Kd.C_below HR.out hb))); (try (replace HT := Aside0.mk (Kd.C_below HT.out hb))); (try (replace HU := Aside0.mk (Kd.C_below HU.out hb))); replace HB := Aside0.mk (HB.out.trans (hb.mono HB.out.size)); clear hb)
          | (go_at_call 26; with_reducible refine (braidworklaw08_wakes.calls true _ wakes_ok).mono ?_; rintro e w' ⟨rfl, hb⟩; (try (replace HX := Aside0.mk (Kd.C_below HX.out hb))); (try (replace HY := Aside0.mk (Kd.C_below HY.out hb))); (try (replace HZ := Aside0.mk (Kd.C_below HZ.out hb))); (try (replace HS := Aside0.mk (Kd.C_below HS.out hb))); (try (replace HM := Aside0.mk (Kd.C_below HM.out hb))); (try (replace HP := Aside0.mk (Kd.C_below HP.out hb))); (try (replace HQ := Aside0.mk (Kd.C_below HQ.out hb))); (try (replace HR := Aside0.mk (Kd.C_below HR.out hb))); (try (replace HT := Aside0.mk (Kd.C_below HT.out hb))); (try (replace HU := Aside0.mk (Kd.C_below HU.out hb))); replace HB := Aside0.mk (HB.out.trans (hb.mono HB.out.size)); clear hb))
        go_ret
        exact ⟨rfl, HB.out⟩
      | true =>
        obtain ⟨hx1, hx2⟩ := hx rfl
        have F10 := Aside0.mk hx1
        clear hx1
        go_wp2_with (first
          | (go_at_call 29; with_reducible refine (braidworklaw08_contains.calls AX cX X AY cY Y _ _ HX.out CX.out HY.out CY.out G11.out).mono ?_; rintro e w' ⟨rfl, hb⟩; (try (replace HX := Aside0.mk (Kd.C_below HX.out hb))); (try (replace HY := Aside0.mk (Kd.C_below HY.out hb))); (try (replace HZ := Aside0.mk (Kd.C_below HZ.out hb))); (try (replace HS := Aside0.mk (Kd.C_below HS.out hb))); (try (replace HM := Aside0.mk (Kd.C_below HM.out hb))); (try (replace HP := Aside0.mk (Kd.C_below HP.out hb))); (try (replace HQ := Aside0.mk (Kd.C_below HQ.out hb))); (try (replace HR := Aside0.mk (Kd.C_below HR.out hb))); (try (replace HT := Aside0.mk (Kd.C_below HT.out hb))); (try (replace HU := Aside0.mk (Kd.C_below HU.out hb))); replace HB := Aside0.mk (HB.out.trans (hb.mono HB.out.size)); clear hb)
          | (go_at_call 28; with_reducible refine (matrix_Same.calls AS cS s AR cR rx _ _ HS.out CS.out HR.out CR.out F10.out).mono ?_; rintro e w' ⟨rfl, hd⟩; have hb := hd.below; clear hd; (try (replace HX := Aside0.mk (Kd.C_below HX.out hb))); (try (replace HY := Aside0.mk (Kd.C_below HY.out hb))); (try (replace HZ := Aside0.mk (Kd.C_below HZ.out hb))); (try (replace HS := Aside0.mk (Kd.C_below HS.out hb))); (try (replace HM := Aside0.mk (Kd.C_below HM.out hb))); (try (replace HP := Aside0.mk (Kd.C_below HP.out hb))); (try (replace HQ := Aside0.mk (Kd.C_below HQ.out hb))); (try (replace HR := Aside0.mk (Kd.C_below HR.out hb))); (try (replace HT := Aside0.mk (Kd.C_below HT.out hb))); (try (replace HU := Aside0.mk (Kd.C_below HU.out hb))); replace HB := Aside0.mk (HB.out.trans (hb.mono HB.out.size)); clear hb)
          | (go_at_call 26; with_reducible refine (braidworklaw08_wakes.calls true _ wakes_ok).mono ?_; rintro e w' ⟨rfl, hb⟩; (try (replace HX := Aside0.mk (Kd.C_below HX.out hb))); (try (replace HY := Aside0.mk (Kd.C_below HY.out hb))); (try (replace HZ := Aside0.mk (Kd.C_below HZ.out hb))); (try (replace HS := Aside0.mk (Kd.C_below HS.out hb))); (try (replace HM := Aside0.mk (Kd.C_below HM.out hb))); (try (replace HP := Aside0.mk (Kd.C_below HP.out hb))); (try (replace HQ := Aside0.mk (Kd.C_below HQ.out hb))); (try (replace HR := Aside0.mk (Kd.C_below HR.out hb))); (try (replace HT := Aside0.mk (Kd.C_below HT.out hb))); (try (replace HU := Aside0.mk (Kd.C_below HU.out hb))); replace HB := Aside0.mk (HB.out.trans (hb.mono HB.out.size)); clear hb))
        go_ret
        exact ⟨rfl, HB.out⟩
theorem spRanks_calls (A0 : Option Addr) (c0 : Nat) (l0 : List Int) (A1 : Option Addr) (c1 : Nat) (l1 : List Int) (A2 : Option Addr) (c2 : Nat) (l2 : List Int) (l3 : List Int) (w : World) (hr0 : Kd.C (Kd.int .u8) w A0 l0.length l0) (hc0 : l0.length ≤ c0) (hr1 : Kd.C (Kd.int .u8) w A1 l1.length l1) (hc1 : l1.length ≤ c1) (hr2 : Kd.C (Kd.int .u8) w A2 l2.length l2) (hc2 : l2.length ≤ c2)
    (w0 : ∀ y ∈ l0, (Lit.int .u8 y).wf = true) (w1 : ∀ y ∈ l1, (Lit.int .u8 y).wf = true) (w2 : ∀ y ∈ l2, (Lit.int .u8 y).wf = true) (h3 : l3.length = 4) (w3 : ∀ y ∈ l3, (Lit.int .u8 y).wf = true) :
    Calls Try.prog 7 #[.slice A0 l0.length c0, .slice A1 l1.length c1, .slice A2 l2.length c2, .agg (l3.map (Value.int .u8)).toArray] w fun e w' => e = .returned (.bool true) ∧ Below w.heap.size w w' := by
  match l3, h3 with
  | [s0, s1, s2, s3], _ =>
    have b0 := nonneg_of_wf (w3 s0 (by simp))
    have b1 := nonneg_of_wf (w3 s1 (by simp))
    have b2 := nonneg_of_wf (w3 s2 (by simp))
    have b3 := nonneg_of_wf (w3 s3 (by simp))
    obtain ⟨n0, k0, h0⟩ := size_five s0 b0.1
    obtain ⟨n1, k1, h1⟩ := size_five s1 b1.1
    obtain ⟨n2, k2, h2⟩ := size_five s2 b2.1
    obtain ⟨cols, c1_, c6, hc⟩ := size_six s3 b3.1
    obtain ⟨X, x1, x2, x3⟩ := shaped_f l0 (areB_of_wf w0) n0 cols (by omega) c6 200 (by omega)
    obtain ⟨Y, y1, y2, y3⟩ := shaped_f l1 (areB_of_wf w1) n1 cols (by omega) c6 200 (by omega)
    obtain ⟨Z, z1, z2, z3⟩ := shaped_f l2 (areB_of_wf w2) n2 cols (by omega) c6 200 (by omega)
    subst x2 y2 z2
    have hX : Small cols X := ⟨x3, by omega⟩
    have hY : Small cols Y := ⟨y3, by omega⟩
    have hZ : Small cols Z := ⟨z3, by omega⟩
    have hn : cols < 1000 := by omega
    have xy := Small.append x3 y3
    have hS := Small.red xy hn
    have hM := meet_small x3 y3 hn
    have hS2 := red_span xy
    obtain ⟨m1, ⟨pm, m2⟩, m3, m4⟩ := meet_spec x3 y3
    obtain ⟨o1, ⟨po, o2⟩, o3, _⟩ := meet_spec y3 x3
    have e1 : redRows (Y ++ X) cols = redRows (X ++ Y) cols := redRows_eq (Small.append y3 x3) xy (by rw [vecs_append, vecs_append]; exact SpEq.of_same fun v => by simp only [List.mem_append]; exact Or.comm)
    have e2 : meetL Y X cols = meetL X Y cols := vecs_inj o1 m1 (o2.unique m2 fun v => by rw [o3 v, m3 v]; exact And.comm)
    rw [redRows_rank x3, redRows_rank y3] at m4
    have lp := rk_le_cols (vecs_supp x3)
    have lq := rk_le_cols (vecs_supp y3)
    have leS : ∀ {c : List (List Int)}, Fits cols c → (SpLe (vecs (redRows (X ++ Y) cols)) (vecs c) ↔ SpLe (vecs X) (vecs c) ∧ SpLe (vecs Y) (vecs c)) := fun hc_ => by
      constructor
      · intro h
        have h2_ := hS2.le.trans h
        rw [vecs_append] at h2_
        exact ⟨(SpLe.left _ _).trans h2_, (SpLe.right _ _).trans h2_⟩
      · rintro ⟨a, b⟩
        refine hS2.ge.trans ?_
        rw [vecs_append]
        exact SpLe.append a b
    have leSelf := (leS hS.fits).1 (fun _ h => h)
    exact spRanks_walk A0 c0 l0 A1 c1 l1 A2 c2 l2 s0 s1 s2 s3 w ⟨hr0⟩ ⟨hc0⟩ ⟨hr1⟩ ⟨hc1⟩ ⟨hr2⟩ ⟨hc2⟩ cols X Y Z h0 h1 h2 hc ⟨x1⟩ ⟨y1⟩ ⟨z1⟩ _ _ _ _ _ ((rk cols (vecs X) : Nat) + (rk cols (vecs Y) : Nat)) _ _ _ _ _ _ _ (by unfold wrap64; omega) (by unfold wrap64; omega) ⟨Sum_f hX hY hn⟩ ⟨Meet_f hX hY hn⟩ ⟨rank_f x3 (by omega) (by omega)⟩ ⟨rank_f y3 (by omega) (by omega)⟩ ⟨by rw [Sum_f hY hX hn, e1]⟩ ⟨by rw [Meet_f hY hX hn, e2]⟩ ⟨same_true hS⟩ ⟨same_true hM⟩ ⟨reduce_f x3 (by omega) (by omega)⟩
      ⟨by rw [contains_f hS hX hn, (conB_iff hS.fits x3).2 leSelf.1]⟩ ⟨by rw [contains_f hS hY hn, (conB_iff hS.fits y3).2 leSelf.2]⟩ ⟨by rw [contains_f hX hM hn, (conB_iff x3 m1).2 (fun v hv => ((m3 v).1 hv).1)]⟩ ⟨by rw [contains_f hY hM hn, (conB_iff y3 m1).2 (fun v hv => ((m3 v).1 hv).2)]⟩
      ⟨contains_f hZ hX hn⟩ ⟨contains_f hZ hY hn⟩ ⟨contains_f hZ hS hn⟩ ⟨contains_f hX hZ hn⟩ ⟨contains_f hY hZ hn⟩ ⟨contains_f hM hZ hn⟩ ⟨contains_f hX hY hn⟩
      (fun c => by
        have c1 := (conB_iff z3 x3).1 c
        rw [Bool.eq_iff_iff, conB_iff z3 y3, conB_iff z3 hS.fits, leS z3]
        exact ⟨fun h => ⟨c1, h⟩, fun h => h.2⟩)
      (fun c => by
        have c1 := (conB_iff x3 z3).1 c
        rw [Bool.eq_iff_iff, conB_iff y3 z3, conB_iff m1 z3]
        exact ⟨fun h v hv => (m3 v).2 ⟨c1 v hv, h v hv⟩, fun h v hv => ((m3 v).1 (h v hv)).2⟩)
      (fun c => by
        have c1 := (conB_iff x3 y3).1 c
        have e3 : redRows (X ++ Y) cols = redRows X cols := redRows_eq xy x3 (by rw [vecs_append]; exact (SpLe.append (fun _ h => h) c1).eq (SpLe.left _ _))
        refine ⟨by rw [e3]; exact same_true (Small.red x3 hn), ?_⟩
        have := rk_eq (vecs_supp y3) m2 (fun v => by rw [m3 v]; exact ⟨fun h => ⟨c1 v h, h⟩, fun h => h.2⟩)
        rw [vecs_length] at this
        rw [this])
end Go.Proofs.Ythgpmneplpdeiaa.Plain
