/- The walk of the law SpanWitness. -/
import Derived.Test.YthgpmneplpdeiaaPlWit
set_option linter.unusedVariables false
set_option linter.unusedSimpArgs false
namespace Go.Proofs.Ythgpmneplpdeiaa.Plain
open Go.Proofs.Ythgpmneplpdeiaa.Hand Go.Proofs.Ythgpmneplpdeiaa.GF Go.Proofs.Ythgpmneplpdeiaa.LA Go.RowKit Go.Proofs.Ythgpmneplpdeiaa.P Go.Proofs.YthgpmneplpdeiaaW.PrintWords Go.Proofs.YthgpmneplpdeiaaW.PrintLast Go.Proofs.YthgpmneplpdeiaaW.PrintMore
theorem infoS_ : (Try.prog.info? 5).map (·.size) = some 1 := by kernel_rfl
theorem len10 (X : List (List Int)) (h : X.length ≤ 6) : (([] : List (List Int)).length + X.length) * 24 ≤ 140737488355328 := by simp only [List.length_nil]; omega
theorem len12 (X : List (List Int)) (x : List Int) (h : X.length ≤ 6) : (X.length + [x].length) * 24 ≤ 140737488355328 := by simp only [List.length_cons, List.length_nil]; omega
theorem combine_at (k : Nat) (A0 : Option Addr) (c0 : Nat) (l0 : List (List Int)) (A1 : Option Addr) (c1 : Nat) (l1 : List Int) (m : Nat) (r1 : List Int) (r2 : Int) (w : World) (hr0 : Kd.C (Kd.slice 5 (Kd.int .u8)) w A0 l0.length l0) (hc0 : l0.length ≤ c0) (hr1 : Kd.C (Kd.int .u8) w A1 m l1) (hc1 : m ≤ c1) (hm : l1.length = m) (h : vector_Combine.f k l0 l1 = some (r1, r2)) :
    Calls Try.prog 30 #[.slice A0 l0.length c0, .slice A1 m c1] w fun e w' => ∃ v0_ : Value, e = .returned (.tuple #[v0_, .int .i64 r2]) ∧ Kd.R (Kd.int .u8) 5 w' w.heap.size (fun _ => True) v0_ r1 ∧ Below w.heap.size w w' := by
  subst hm
  exact vector_Combine.calls k A0 c0 l0 A1 c1 l1 r1 r2 w hr0 hc0 hr1 hc1 h
set_option maxHeartbeats 8000000 in
set_option maxRecDepth 100000 in
theorem wit_none (A0 : Option Addr) (c0 : Nat) (l0 : List Int) (A1 : Option Addr) (c1 : Nat) (l1 : List Int) (A2 : Option Addr) (c2 : Nat) (l2 : List Int) (s0 s1 s2 : Int) (w : World) (Hl0 : Aside0 (Kd.C (Kd.int .u8) w A0 l0.length l0)) (Cl0 : Aside0 (l0.length ≤ c0)) (Hl1 : Aside0 (Kd.C (Kd.int .u8) w A1 l1.length l1)) (Cl1 : Aside0 (l1.length ≤ c1)) (Hl2 : Aside0 (Kd.C (Kd.int .u8) w A2 l2.length l2)) (Cl2 : Aside0 (l2.length ≤ c2))
    (cols : Nat) (X Y : List (List Int)) (h0 : wrap64 (Int.tmod s0 6) = (X.length : Int)) (h1 : wrap64 (Int.tmod s1 6) = (Y.length : Int)) (hc : wrap64 (1 + (wrap64 (Int.tmod s2 6))) = (cols : Int)) (H6 : Aside0 (X.length ≤ 6 ∧ Y.length ≤ 6))
    (FX : Aside0 (braidworklaw08_shaped.f 200 l0 X.length cols = some X)) (FY : Aside0 (braidworklaw08_shaped.f 200 l1 Y.length cols = some Y)) (d : List Int) (F1 : Aside0 (span_Witness.f X Y = some (d, false, 0))) (F2 : Aside0 (braidworklaw08_contains.f Y X = some true)) (z1 : ((X.length : Int) == 0) = true) (z2 : ((X.length : Int) = 0) = True) (z3 : (X.length = 0) = True) (z4 : (X = []) = True) (d1 : decide ((d.length : Int) > 0) = false) (d2 : ((0 : Int) < (d.length : Int)) = False) (d3 : (0 < d.length) = False) (d4 : (d = []) = True) :
    Calls Try.prog 6 #[.slice A0 l0.length c0, .slice A1 l1.length c1, .slice A2 l2.length c2, .agg #[.int .u8 s0, .int .u8 s1, .int .u8 s2]] w fun e w' => e = .returned (.bool true) ∧ Below w.heap.size w w' := by
  have HB := Aside0.mk (below_drew (below_alloc (Below.refl w.heap.size w) (.cells #[.int .u8 s0, .int .u8 s1, .int .u8 s2] 49)))
  go_enter Try.func6, Try.ntmps6
  go_wp2
  refine start_ (n := 16) (S := fun w' => w'.cell? ⟨w.heap.size, 0, none⟩ = some (.int .u8 s0) ∧ w'.cell? ⟨w.heap.size, 1, none⟩ = some (.int .u8 s1)) (ds := []) #[false, false, false, false, false, false, false, false, false, false, false, false, false, false, false, false] (by kernel_rfl) rfl rfl ⟨(by simp), (by simp)⟩ (fun hHeld => ?_)
  generalize (World.drew _) = w1 at HB hHeld ⊢
  replace Hl0 := Aside0.mk (Kd.C_below Hl0.out HB.out)
  replace Hl1 := Aside0.mk (Kd.C_below Hl1.out HB.out)
  replace Hl2 := Aside0.mk (Kd.C_below Hl2.out HB.out)
  refine pure_ (i := 0) (N := some 35) (v := ?_) (a' := ?_) #[true, false, false, false, false, false, false, false, false, false, false, false, false, false, false, false] rfl rfl (by kernel_rfl) (fun _ _ _ h => h) (Or.inl ⟨by rfl, ?_⟩) ?_ ?_
  rotate_left
  · intro w'
    go_simp
    with_reducible rfl
  rotate_left
  · simp only [Act.put, List.setIfInBounds_toArray, List.set_cons_zero, List.set_cons_succ, i64_w, i32_w]
    rfl
  refine pure_ (i := 1) (N := some 36) (v := ?_) (a' := ?_) #[true, true, false, false, false, false, false, false, false, false, false, false, false, false, false, false] rfl rfl (by kernel_rfl) (fun _ _ _ h => h) (Or.inl ⟨by rfl, ?_⟩) ?_ ?_
  rotate_left
  · intro w'
    go_simp
    with_reducible rfl
  rotate_left
  · simp only [Act.put, List.setIfInBounds_toArray, List.set_cons_zero, List.set_cons_succ, i64_w, i32_w]
    rfl
  refine pure_ (i := 5) (N := some 40) (v := ?_) (a' := ?_) #[true, true, false, false, false, true, false, false, false, false, false, false, false, false, false, false] rfl rfl (by kernel_rfl) (fun _ _ _ h => h) (Or.inl ⟨by rfl, ?_⟩) ?_ ?_
  rotate_left
  · intro w'
    go_simp
    with_reducible rfl
  rotate_left
  · simp only [Act.put, List.setIfInBounds_toArray, List.set_cons_zero, List.set_cons_succ, i64_w, i32_w]
    rfl
  refine pure_ (i := 7) (N := some 42) (v := ?_) (a' := ?_) #[true, true, false, false, false, true, false, true, false, false, false, false, false, false, false, false] rfl rfl (by kernel_rfl) (fun _ _ _ h => h) (Or.inl ⟨by rfl, ?_⟩) ?_ ?_
  rotate_left
  · intro w'
    go_simp
    with_reducible rfl
  rotate_left
  · simp only [Act.put, List.setIfInBounds_toArray, List.set_cons_zero, List.set_cons_succ, i64_w, i32_w]
    rfl
  refine pure_ (i := 8) (N := some 43) (v := ?_) (a' := ?_) #[true, true, false, false, false, true, false, true, true, false, false, false, false, false, false, false] rfl rfl (by kernel_rfl) (fun _ _ _ h => h) (Or.inl ⟨by rfl, ?_⟩) ?_ ?_
  rotate_left
  · intro w'
    go_simp
    with_reducible rfl
  rotate_left
  · simp only [Act.put, List.setIfInBounds_toArray, List.set_cons_zero, List.set_cons_succ, i64_w, i32_w]
    rfl
  refine pure_ (i := 12) (N := some 47) (v := ?_) (a' := ?_) #[true, true, false, false, false, true, false, true, true, false, false, false, true, false, false, false] rfl rfl (by kernel_rfl) (fun _ _ _ h => h) (Or.inl ⟨by rfl, ?_⟩) ?_ ?_
  rotate_left
  · intro w'
    go_simp
    with_reducible rfl
  rotate_left
  · simp only [Act.put, List.setIfInBounds_toArray, List.set_cons_zero, List.set_cons_succ, i64_w, i32_w]
    rfl
  refine take_ (i := 2) (N := some 37) (v := ?_) (a' := ?_) #[true, true, true, false, false, true, false, true, true, false, false, false, true, false, false, false] rfl rfl (by kernel_rfl) (fun _ _ _ h => h) (Or.inl ⟨by rfl, ?_⟩) hHeld ?_ ?_
  rotate_left
  · rintro w' ⟨s0, s1⟩
    go_simp
    with_reducible rfl
  rotate_left
  · simp only [Act.put, List.setIfInBounds_toArray, List.set_cons_zero, List.set_cons_succ, i64_w, i32_w]
    rfl
  refine pure_ (i := 3) (N := some 38) (v := ?_) (a' := ?_) #[true, true, true, true, false, true, false, true, true, false, false, false, true, false, false, false] rfl rfl (by kernel_rfl) (fun _ _ _ h => h) (Or.inl ⟨by rfl, ?_⟩) ?_ ?_
  rotate_left
  · intro w'
    go_simp
    with_reducible rfl
  rotate_left
  · simp only [Act.put, List.setIfInBounds_toArray, List.set_cons_zero, List.set_cons_succ, i64_w, i32_w]
    rfl
  refine take_ (i := 4) (N := some 39) (v := ?_) (a' := ?_) #[true, true, true, true, true, true, false, true, true, false, false, false, true, false, false, false] rfl rfl (by kernel_rfl) (fun _ _ _ h => h) (Or.inl ⟨by rfl, ?_⟩) hHeld ?_ ?_
  rotate_left
  · rintro w' ⟨s0, s1⟩
    go_simp
    with_reducible rfl
  rotate_left
  · simp only [Act.put, List.setIfInBounds_toArray, List.set_cons_zero, List.set_cons_succ, i64_w, i32_w]
    rfl
  refine take_ (i := 9) (N := some 44) (v := ?_) (a' := ?_) #[true, true, true, true, true, true, false, true, true, true, false, false, true, false, false, false] rfl rfl (by kernel_rfl) (fun _ _ _ h => h) (Or.inl ⟨by rfl, ?_⟩) hHeld ?_ ?_
  rotate_left
  · rintro w' ⟨s0, s1⟩
    go_simp
    with_reducible rfl
  rotate_left
  · simp only [Act.put, List.setIfInBounds_toArray, List.set_cons_zero, List.set_cons_succ, i64_w, i32_w]
    rfl
  refine pure_ (i := 10) (N := some 45) (v := ?_) (a' := ?_) #[true, true, true, true, true, true, false, true, true, true, true, false, true, false, false, false] rfl rfl (by kernel_rfl) (fun _ _ _ h => h) (Or.inl ⟨by rfl, ?_⟩) ?_ ?_
  rotate_left
  · intro w'
    go_simp
    with_reducible rfl
  rotate_left
  · simp only [Act.put, List.setIfInBounds_toArray, List.set_cons_zero, List.set_cons_succ, i64_w, i32_w]
    rfl
  refine take_ (i := 11) (N := some 46) (v := ?_) (a' := ?_) #[true, true, true, true, true, true, false, true, true, true, true, true, true, false, false, false] rfl rfl (by kernel_rfl) (fun _ _ _ h => h) (Or.inl ⟨by rfl, ?_⟩) hHeld ?_ ?_
  rotate_left
  · rintro w' ⟨s0, s1⟩
    go_simp
    with_reducible rfl
  rotate_left
  · simp only [Act.put, List.setIfInBounds_toArray, List.set_cons_zero, List.set_cons_succ, i64_w, i32_w]
    rfl
  refine one_ (i := 6) (N := some 41) #[true, true, true, true, true, true, true, true, true, true, true, true, true, false, false, false] rfl rfl (by kernel_rfl) (by decide) (fun K hK => ?_)
  refine goes_ Try.func27 (by kernel_rfl) rfl #[.slice A0 l0.length c0, .int .i64 (wrap64 (Int.tmod s0 6)), .int .i64 (cols : Int)] (by rfl) rfl rfl (by simp only [List.map_toArray, List.map_cons, List.map_nil]; rfl) ?_
  with_reducible refine (braidworklaw08_shaped.calls 200 A0 c0 l0 (wrap64 (Int.tmod s0 6)) (cols : Int) X _ Hl0.out Cl0.out (by rw [h0]; exact FX.out)).mono ?_
  rintro e w' ⟨v_, rfl, ho_, hb⟩
  refine ⟨_, rfl, ?_⟩
  obtain ⟨AX, cX, rfl⟩ := Kd.S_slice ho_
  have HX := Aside0.mk (Kd.S_reads' ho_).2.2
  have CX := Aside0.mk (Kd.S_reads' ho_).2.1
  clear ho_
  replace Hl1 := Aside0.mk (Kd.C_below Hl1.out hb)
  replace Hl2 := Aside0.mk (Kd.C_below Hl2.out hb)
  replace HB := Aside0.mk (HB.out.trans (hb.mono HB.out.size))
  refine hK.out _ _ ⟨((hb.cell (World.block_lt_of_cell? _ _ hHeld.1)).trans hHeld.1), ((hb.cell (World.block_lt_of_cell? _ _ hHeld.2)).trans hHeld.2)⟩ (fun hHeld => ?_)
  clear hK K
  refine norm_ (a' := ?_) ?_ ?_
  rotate_left
  · show Act.put _ (some 41) _ = _
    simp only [Act.put, List.setIfInBounds_toArray, List.set_cons_zero, List.set_cons_succ, i64_w, i32_w]
    rfl
  refine one_ (i := 13) (N := some 48) #[true, true, true, true, true, true, true, true, true, true, true, true, true, true, false, false] rfl rfl (by kernel_rfl) (by decide) (fun K hK => ?_)
  refine goes_ Try.func27 (by kernel_rfl) rfl #[.slice A1 l1.length c1, .int .i64 (wrap64 (Int.tmod s1 6)), .int .i64 (cols : Int)] (by rfl) rfl rfl (by simp only [List.map_toArray, List.map_cons, List.map_nil]; rfl) ?_
  with_reducible refine (braidworklaw08_shaped.calls 200 A1 c1 l1 (wrap64 (Int.tmod s1 6)) (cols : Int) Y _ Hl1.out Cl1.out (by rw [h1]; exact FY.out)).mono ?_
  rintro e w' ⟨v_, rfl, ho_, hb⟩
  refine ⟨_, rfl, ?_⟩
  obtain ⟨AY, cY, rfl⟩ := Kd.S_slice ho_
  have HY := Aside0.mk (Kd.S_reads' ho_).2.2
  have CY := Aside0.mk (Kd.S_reads' ho_).2.1
  clear ho_
  replace HX := Aside0.mk (Kd.C_below HX.out hb)
  replace Hl2 := Aside0.mk (Kd.C_below Hl2.out hb)
  replace HB := Aside0.mk (HB.out.trans (hb.mono HB.out.size))
  refine hK.out _ _ ⟨((hb.cell (World.block_lt_of_cell? _ _ hHeld.1)).trans hHeld.1), ((hb.cell (World.block_lt_of_cell? _ _ hHeld.2)).trans hHeld.2)⟩ (fun hHeld => ?_)
  clear hK K
  refine norm_ (a' := ?_) ?_ ?_
  rotate_left
  · show Act.put _ (some 48) _ = _
    simp only [Act.put, List.setIfInBounds_toArray, List.set_cons_zero, List.set_cons_succ, i64_w, i32_w]
    rfl
  refine pure_ (i := 14) (N := some 10) (v := ?_) (a' := ?_) #[true, true, true, true, true, true, true, true, true, true, true, true, true, true, true, false] rfl rfl (by kernel_rfl) (fun _ _ _ h => h) (Or.inl ⟨by rfl, ?_⟩) ?_ ?_
  rotate_left
  · intro w'
    go_simp
    with_reducible rfl
  rotate_left
  · simp only [Act.put, List.setIfInBounds_toArray, List.set_cons_zero, List.set_cons_succ, i64_w, i32_w]
    rfl
  refine pure_ (i := 15) (N := some 11) (v := ?_) (a' := ?_) #[true, true, true, true, true, true, true, true, true, true, true, true, true, true, true, true] rfl rfl (by kernel_rfl) (fun _ _ _ h => h) (Or.inl ⟨by rfl, ?_⟩) ?_ ?_
  rotate_left
  · intro w'
    go_simp
    with_reducible rfl
  rotate_left
  · simp only [Act.put, List.setIfInBounds_toArray, List.set_cons_zero, List.set_cons_succ, i64_w, i32_w]
    rfl
  refine done_ (by kernel_rfl) ?_
  clear hHeld h0 h1 hc Hl0 Hl1
  go_upto_region 4 with (first
    | (go_at_call 24; with_reducible refine (span_Witness.calls AX cX X AY cY Y d _ 0 _ HX.out CX.out HY.out CY.out F1.out).mono ?_; rintro e w4 ⟨v_, rfl, ho_, hb⟩; obtain ⟨AT, cT, rfl⟩ := Kd.R_slice ho_; have HT := Aside0.mk (Kd.R_reads' ho_).2.2; have CT := Aside0.mk (Kd.R_reads' ho_).2.1; clear ho_; (try (replace HX := Aside0.mk (Kd.C_below HX.out hb))); (try (replace HY := Aside0.mk (Kd.C_below HY.out hb))); (try (replace Hl2 := Aside0.mk (Kd.C_below Hl2.out hb))); (try (replace HP := Aside0.mk (Kd.C_below HP.out hb))); (try (replace HQ := Aside0.mk (Kd.C_below HQ.out hb))); (try (replace HR := Aside0.mk (Kd.C_below HR.out hb))); replace HB := Aside0.mk (HB.out.trans (hb.mono HB.out.size)); clear hb))
  go_upto_region 6 with (first
    | (go_at_call 29; with_reducible refine (braidworklaw08_contains.calls AY cY Y AX cX X _ _ HY.out CY.out HX.out CX.out F2.out).mono ?_; rintro e w' ⟨rfl, hb⟩; (try (replace HX := Aside0.mk (Kd.C_below HX.out hb))); (try (replace HY := Aside0.mk (Kd.C_below HY.out hb))); (try (replace Hl2 := Aside0.mk (Kd.C_below Hl2.out hb))); (try (replace HT := Aside0.mk (Kd.C_below HT.out hb))); (try (replace HP := Aside0.mk (Kd.C_below HP.out hb))); (try (replace HQ := Aside0.mk (Kd.C_below HQ.out hb))); (try (replace HR := Aside0.mk (Kd.C_below HR.out hb))); replace HB := Aside0.mk (HB.out.trans (hb.mono HB.out.size)); clear hb))
  go_wp2_with (first
    | (go_at_call 26; with_reducible refine (braidworklaw08_wakes.calls true _ wakes_ok).mono ?_; rintro e w' ⟨rfl, hb⟩; (try (replace HX := Aside0.mk (Kd.C_below HX.out hb))); (try (replace HY := Aside0.mk (Kd.C_below HY.out hb))); (try (replace HZ := Aside0.mk (Kd.C_below HZ.out hb))); (try (replace HS := Aside0.mk (Kd.C_below HS.out hb))); (try (replace HM := Aside0.mk (Kd.C_below HM.out hb))); (try (replace HP := Aside0.mk (Kd.C_below HP.out hb))); (try (replace HQ := Aside0.mk (Kd.C_below HQ.out hb))); (try (replace HR := Aside0.mk (Kd.C_below HR.out hb))); (try (replace HT := Aside0.mk (Kd.C_below HT.out hb))); (try (replace HU := Aside0.mk (Kd.C_below HU.out hb))); replace HB := Aside0.mk (HB.out.trans (hb.mono HB.out.size)); clear hb))
  go_ret
  exact ⟨rfl, HB.out⟩
set_option maxHeartbeats 8000000 in
set_option maxRecDepth 100000 in
theorem wit_old (A0 : Option Addr) (c0 : Nat) (l0 : List Int) (A1 : Option Addr) (c1 : Nat) (l1 : List Int) (A2 : Option Addr) (c2 : Nat) (l2 : List Int) (s0 s1 s2 : Int) (w : World) (Hl0 : Aside0 (Kd.C (Kd.int .u8) w A0 l0.length l0)) (Cl0 : Aside0 (l0.length ≤ c0)) (Hl1 : Aside0 (Kd.C (Kd.int .u8) w A1 l1.length l1)) (Cl1 : Aside0 (l1.length ≤ c1)) (Hl2 : Aside0 (Kd.C (Kd.int .u8) w A2 l2.length l2)) (Cl2 : Aside0 (l2.length ≤ c2))
    (cols : Nat) (X Y : List (List Int)) (h0 : wrap64 (Int.tmod s0 6) = (X.length : Int)) (h1 : wrap64 (Int.tmod s1 6) = (Y.length : Int)) (hc : wrap64 (1 + (wrap64 (Int.tmod s2 6))) = (cols : Int)) (H6 : Aside0 (X.length ≤ 6 ∧ Y.length ≤ 6))
    (FX : Aside0 (braidworklaw08_shaped.f 200 l0 X.length cols = some X)) (FY : Aside0 (braidworklaw08_shaped.f 200 l1 Y.length cols = some Y)) (d : List Int) (F1 : Aside0 (span_Witness.f X Y = some (d, false, 0))) (F2 : Aside0 (braidworklaw08_contains.f Y X = some true)) (z1 : ((X.length : Int) == 0) = false) (z2 : ((X.length : Int) = 0) = False) (z3 : (X.length = 0) = False) (z4 : (X = []) = False) (d1 : decide ((d.length : Int) > 0) = false) (d2 : ((0 : Int) < (d.length : Int)) = False) (d3 : (0 < d.length) = False) (d4 : (d = []) = True) (draw any : List Int)  (hdraw : Aside0 (filled l2 X.length = draw)) (hdl : Aside0 (draw.length = X.length)) (F3 : Aside0 (vector_Combine.f 2000 X draw = some (any, 0))) (F4 : Aside0 (span_Has.f X any = some (true, 0))) (F5 : Aside0 (span_Has.f Y any = some (true, 0))) :
    Calls Try.prog 6 #[.slice A0 l0.length c0, .slice A1 l1.length c1, .slice A2 l2.length c2, .agg #[.int .u8 s0, .int .u8 s1, .int .u8 s2]] w fun e w' => e = .returned (.bool true) ∧ Below w.heap.size w w' := by
  have HB := Aside0.mk (below_drew (below_alloc (Below.refl w.heap.size w) (.cells #[.int .u8 s0, .int .u8 s1, .int .u8 s2] 49)))
  go_enter Try.func6, Try.ntmps6
  go_wp2
  refine start_ (n := 16) (S := fun w' => w'.cell? ⟨w.heap.size, 0, none⟩ = some (.int .u8 s0) ∧ w'.cell? ⟨w.heap.size, 1, none⟩ = some (.int .u8 s1)) (ds := []) #[false, false, false, false, false, false, false, false, false, false, false, false, false, false, false, false] (by kernel_rfl) rfl rfl ⟨(by simp), (by simp)⟩ (fun hHeld => ?_)
  generalize (World.drew _) = w1 at HB hHeld ⊢
  replace Hl0 := Aside0.mk (Kd.C_below Hl0.out HB.out)
  replace Hl1 := Aside0.mk (Kd.C_below Hl1.out HB.out)
  replace Hl2 := Aside0.mk (Kd.C_below Hl2.out HB.out)
  refine pure_ (i := 0) (N := some 35) (v := ?_) (a' := ?_) #[true, false, false, false, false, false, false, false, false, false, false, false, false, false, false, false] rfl rfl (by kernel_rfl) (fun _ _ _ h => h) (Or.inl ⟨by rfl, ?_⟩) ?_ ?_
  rotate_left
  · intro w'
    go_simp
    with_reducible rfl
  rotate_left
  · simp only [Act.put, List.setIfInBounds_toArray, List.set_cons_zero, List.set_cons_succ, i64_w, i32_w]
    rfl
  refine pure_ (i := 1) (N := some 36) (v := ?_) (a' := ?_) #[true, true, false, false, false, false, false, false, false, false, false, false, false, false, false, false] rfl rfl (by kernel_rfl) (fun _ _ _ h => h) (Or.inl ⟨by rfl, ?_⟩) ?_ ?_
  rotate_left
  · intro w'
    go_simp
    with_reducible rfl
  rotate_left
  · simp only [Act.put, List.setIfInBounds_toArray, List.set_cons_zero, List.set_cons_succ, i64_w, i32_w]
    rfl
  refine pure_ (i := 5) (N := some 40) (v := ?_) (a' := ?_) #[true, true, false, false, false, true, false, false, false, false, false, false, false, false, false, false] rfl rfl (by kernel_rfl) (fun _ _ _ h => h) (Or.inl ⟨by rfl, ?_⟩) ?_ ?_
  rotate_left
  · intro w'
    go_simp
    with_reducible rfl
  rotate_left
  · simp only [Act.put, List.setIfInBounds_toArray, List.set_cons_zero, List.set_cons_succ, i64_w, i32_w]
    rfl
  refine pure_ (i := 7) (N := some 42) (v := ?_) (a' := ?_) #[true, true, false, false, false, true, false, true, false, false, false, false, false, false, false, false] rfl rfl (by kernel_rfl) (fun _ _ _ h => h) (Or.inl ⟨by rfl, ?_⟩) ?_ ?_
  rotate_left
  · intro w'
    go_simp
    with_reducible rfl
  rotate_left
  · simp only [Act.put, List.setIfInBounds_toArray, List.set_cons_zero, List.set_cons_succ, i64_w, i32_w]
    rfl
  refine pure_ (i := 8) (N := some 43) (v := ?_) (a' := ?_) #[true, true, false, false, false, true, false, true, true, false, false, false, false, false, false, false] rfl rfl (by kernel_rfl) (fun _ _ _ h => h) (Or.inl ⟨by rfl, ?_⟩) ?_ ?_
  rotate_left
  · intro w'
    go_simp
    with_reducible rfl
  rotate_left
  · simp only [Act.put, List.setIfInBounds_toArray, List.set_cons_zero, List.set_cons_succ, i64_w, i32_w]
    rfl
  refine pure_ (i := 12) (N := some 47) (v := ?_) (a' := ?_) #[true, true, false, false, false, true, false, true, true, false, false, false, true, false, false, false] rfl rfl (by kernel_rfl) (fun _ _ _ h => h) (Or.inl ⟨by rfl, ?_⟩) ?_ ?_
  rotate_left
  · intro w'
    go_simp
    with_reducible rfl
  rotate_left
  · simp only [Act.put, List.setIfInBounds_toArray, List.set_cons_zero, List.set_cons_succ, i64_w, i32_w]
    rfl
  refine take_ (i := 2) (N := some 37) (v := ?_) (a' := ?_) #[true, true, true, false, false, true, false, true, true, false, false, false, true, false, false, false] rfl rfl (by kernel_rfl) (fun _ _ _ h => h) (Or.inl ⟨by rfl, ?_⟩) hHeld ?_ ?_
  rotate_left
  · rintro w' ⟨s0, s1⟩
    go_simp
    with_reducible rfl
  rotate_left
  · simp only [Act.put, List.setIfInBounds_toArray, List.set_cons_zero, List.set_cons_succ, i64_w, i32_w]
    rfl
  refine pure_ (i := 3) (N := some 38) (v := ?_) (a' := ?_) #[true, true, true, true, false, true, false, true, true, false, false, false, true, false, false, false] rfl rfl (by kernel_rfl) (fun _ _ _ h => h) (Or.inl ⟨by rfl, ?_⟩) ?_ ?_
  rotate_left
  · intro w'
    go_simp
    with_reducible rfl
  rotate_left
  · simp only [Act.put, List.setIfInBounds_toArray, List.set_cons_zero, List.set_cons_succ, i64_w, i32_w]
    rfl
  refine take_ (i := 4) (N := some 39) (v := ?_) (a' := ?_) #[true, true, true, true, true, true, false, true, true, false, false, false, true, false, false, false] rfl rfl (by kernel_rfl) (fun _ _ _ h => h) (Or.inl ⟨by rfl, ?_⟩) hHeld ?_ ?_
  rotate_left
  · rintro w' ⟨s0, s1⟩
    go_simp
    with_reducible rfl
  rotate_left
  · simp only [Act.put, List.setIfInBounds_toArray, List.set_cons_zero, List.set_cons_succ, i64_w, i32_w]
    rfl
  refine take_ (i := 9) (N := some 44) (v := ?_) (a' := ?_) #[true, true, true, true, true, true, false, true, true, true, false, false, true, false, false, false] rfl rfl (by kernel_rfl) (fun _ _ _ h => h) (Or.inl ⟨by rfl, ?_⟩) hHeld ?_ ?_
  rotate_left
  · rintro w' ⟨s0, s1⟩
    go_simp
    with_reducible rfl
  rotate_left
  · simp only [Act.put, List.setIfInBounds_toArray, List.set_cons_zero, List.set_cons_succ, i64_w, i32_w]
    rfl
  refine pure_ (i := 10) (N := some 45) (v := ?_) (a' := ?_) #[true, true, true, true, true, true, false, true, true, true, true, false, true, false, false, false] rfl rfl (by kernel_rfl) (fun _ _ _ h => h) (Or.inl ⟨by rfl, ?_⟩) ?_ ?_
  rotate_left
  · intro w'
    go_simp
    with_reducible rfl
  rotate_left
  · simp only [Act.put, List.setIfInBounds_toArray, List.set_cons_zero, List.set_cons_succ, i64_w, i32_w]
    rfl
  refine take_ (i := 11) (N := some 46) (v := ?_) (a' := ?_) #[true, true, true, true, true, true, false, true, true, true, true, true, true, false, false, false] rfl rfl (by kernel_rfl) (fun _ _ _ h => h) (Or.inl ⟨by rfl, ?_⟩) hHeld ?_ ?_
  rotate_left
  · rintro w' ⟨s0, s1⟩
    go_simp
    with_reducible rfl
  rotate_left
  · simp only [Act.put, List.setIfInBounds_toArray, List.set_cons_zero, List.set_cons_succ, i64_w, i32_w]
    rfl
  refine one_ (i := 6) (N := some 41) #[true, true, true, true, true, true, true, true, true, true, true, true, true, false, false, false] rfl rfl (by kernel_rfl) (by decide) (fun K hK => ?_)
  refine goes_ Try.func27 (by kernel_rfl) rfl #[.slice A0 l0.length c0, .int .i64 (wrap64 (Int.tmod s0 6)), .int .i64 (cols : Int)] (by rfl) rfl rfl (by simp only [List.map_toArray, List.map_cons, List.map_nil]; rfl) ?_
  with_reducible refine (braidworklaw08_shaped.calls 200 A0 c0 l0 (wrap64 (Int.tmod s0 6)) (cols : Int) X _ Hl0.out Cl0.out (by rw [h0]; exact FX.out)).mono ?_
  rintro e w' ⟨v_, rfl, ho_, hb⟩
  refine ⟨_, rfl, ?_⟩
  obtain ⟨AX, cX, rfl⟩ := Kd.S_slice ho_
  have HX := Aside0.mk (Kd.S_reads' ho_).2.2
  have CX := Aside0.mk (Kd.S_reads' ho_).2.1
  clear ho_
  replace Hl1 := Aside0.mk (Kd.C_below Hl1.out hb)
  replace Hl2 := Aside0.mk (Kd.C_below Hl2.out hb)
  replace HB := Aside0.mk (HB.out.trans (hb.mono HB.out.size))
  refine hK.out _ _ ⟨((hb.cell (World.block_lt_of_cell? _ _ hHeld.1)).trans hHeld.1), ((hb.cell (World.block_lt_of_cell? _ _ hHeld.2)).trans hHeld.2)⟩ (fun hHeld => ?_)
  clear hK K
  refine norm_ (a' := ?_) ?_ ?_
  rotate_left
  · show Act.put _ (some 41) _ = _
    simp only [Act.put, List.setIfInBounds_toArray, List.set_cons_zero, List.set_cons_succ, i64_w, i32_w]
    rfl
  refine one_ (i := 13) (N := some 48) #[true, true, true, true, true, true, true, true, true, true, true, true, true, true, false, false] rfl rfl (by kernel_rfl) (by decide) (fun K hK => ?_)
  refine goes_ Try.func27 (by kernel_rfl) rfl #[.slice A1 l1.length c1, .int .i64 (wrap64 (Int.tmod s1 6)), .int .i64 (cols : Int)] (by rfl) rfl rfl (by simp only [List.map_toArray, List.map_cons, List.map_nil]; rfl) ?_
  with_reducible refine (braidworklaw08_shaped.calls 200 A1 c1 l1 (wrap64 (Int.tmod s1 6)) (cols : Int) Y _ Hl1.out Cl1.out (by rw [h1]; exact FY.out)).mono ?_
  rintro e w' ⟨v_, rfl, ho_, hb⟩
  refine ⟨_, rfl, ?_⟩
  obtain ⟨AY, cY, rfl⟩ := Kd.S_slice ho_
  have HY := Aside0.mk (Kd.S_reads' ho_).2.2
  have CY := Aside0.mk (Kd.S_reads' ho_).2.1
  clear ho_
  replace HX := Aside0.mk (Kd.C_below HX.out hb)
  replace Hl2 := Aside0.mk (Kd.C_below Hl2.out hb)
  replace HB := Aside0.mk (HB.out.trans (hb.mono HB.out.size))
  refine hK.out _ _ ⟨((hb.cell (World.block_lt_of_cell? _ _ hHeld.1)).trans hHeld.1), ((hb.cell (World.block_lt_of_cell? _ _ hHeld.2)).trans hHeld.2)⟩ (fun hHeld => ?_)
  clear hK K
  refine norm_ (a' := ?_) ?_ ?_
  rotate_left
  · show Act.put _ (some 48) _ = _
    simp only [Act.put, List.setIfInBounds_toArray, List.set_cons_zero, List.set_cons_succ, i64_w, i32_w]
    rfl
  refine pure_ (i := 14) (N := some 10) (v := ?_) (a' := ?_) #[true, true, true, true, true, true, true, true, true, true, true, true, true, true, true, false] rfl rfl (by kernel_rfl) (fun _ _ _ h => h) (Or.inl ⟨by rfl, ?_⟩) ?_ ?_
  rotate_left
  · intro w'
    go_simp
    with_reducible rfl
  rotate_left
  · simp only [Act.put, List.setIfInBounds_toArray, List.set_cons_zero, List.set_cons_succ, i64_w, i32_w]
    rfl
  refine pure_ (i := 15) (N := some 11) (v := ?_) (a' := ?_) #[true, true, true, true, true, true, true, true, true, true, true, true, true, true, true, true] rfl rfl (by kernel_rfl) (fun _ _ _ h => h) (Or.inl ⟨by rfl, ?_⟩) ?_ ?_
  rotate_left
  · intro w'
    go_simp
    with_reducible rfl
  rotate_left
  · simp only [Act.put, List.setIfInBounds_toArray, List.set_cons_zero, List.set_cons_succ, i64_w, i32_w]
    rfl
  refine done_ (by kernel_rfl) ?_
  clear hHeld h0 h1 hc Hl0 Hl1
  go_upto_region 4 with (first
    | (go_at_call 24; with_reducible refine (span_Witness.calls AX cX X AY cY Y d _ 0 _ HX.out CX.out HY.out CY.out F1.out).mono ?_; rintro e w4 ⟨v_, rfl, ho_, hb⟩; obtain ⟨AT, cT, rfl⟩ := Kd.R_slice ho_; have HT := Aside0.mk (Kd.R_reads' ho_).2.2; have CT := Aside0.mk (Kd.R_reads' ho_).2.1; clear ho_; (try (replace HX := Aside0.mk (Kd.C_below HX.out hb))); (try (replace HY := Aside0.mk (Kd.C_below HY.out hb))); (try (replace Hl2 := Aside0.mk (Kd.C_below Hl2.out hb))); (try (replace HP := Aside0.mk (Kd.C_below HP.out hb))); (try (replace HQ := Aside0.mk (Kd.C_below HQ.out hb))); (try (replace HR := Aside0.mk (Kd.C_below HR.out hb))); replace HB := Aside0.mk (HB.out.trans (hb.mono HB.out.size)); clear hb))
  go_upto_region 6 with (first
    | (go_at_call 29; with_reducible refine (braidworklaw08_contains.calls AY cY Y AX cX X _ _ HY.out CY.out HX.out CX.out F2.out).mono ?_; rintro e w5 ⟨rfl, hb⟩; (try (replace HX := Aside0.mk (Kd.C_below HX.out hb))); (try (replace HY := Aside0.mk (Kd.C_below HY.out hb))); (try (replace Hl2 := Aside0.mk (Kd.C_below Hl2.out hb))); (try (replace HT := Aside0.mk (Kd.C_below HT.out hb))); (try (replace HP := Aside0.mk (Kd.C_below HP.out hb))); (try (replace HQ := Aside0.mk (Kd.C_below HQ.out hb))); (try (replace HR := Aside0.mk (Kd.C_below HR.out hb))); replace HB := Aside0.mk (HB.out.trans (hb.mono HB.out.size)); clear hb))
  clear F1 F2
  go_upto_region 8 with fail
  have infoS := Aside0.mk infoS_
  have HX5 := HX
  have HY5 := HY
  have HT5 := HT
  have HB5 := HB
  go_upto_region 10 with (first
    | ((with_reducible refine gate_dst (N := 85) rfl ?_); refine Kd.R_make (Kd.int .u8) _ 5 rfl (N := 85) rfl 23 _ _ rfl (X.length : Int) rfl rfl Try.underlying23 (.int .u8 0) 1 infoT5 rfl (by decide) (by decide) 0 (ok := fun _ => True) (okp := fun _ => True) rfl (fun _ h => h) trivial (Int.natCast_nonneg _) (by have := H6.out; rw [Int.toNat_natCast]; omega) (Below.refl _ _) (Nat.le_refl _) ?_; intro v2 w6 hR2 hb _ _; rw [Int.toNat_natCast] at hR2; obtain ⟨AP, cP, hv2⟩ := Kd.R_slice hR2; rw [List.length_replicate] at hv2; subst hv2; have HR2 := Aside0.mk hR2; have HB2 := Aside0.mk hb; clear hR2; (try (replace HX := Aside0.mk (Kd.C_below HX.out hb))); (try (replace HY := Aside0.mk (Kd.C_below HY.out hb))); (try (replace Hl2 := Aside0.mk (Kd.C_below Hl2.out hb))); (try (replace HT := Aside0.mk (Kd.C_below HT.out hb))); (try (replace HP := Aside0.mk (Kd.C_below HP.out hb))); (try (replace HQ := Aside0.mk (Kd.C_below HQ.out hb))); (try (replace HR := Aside0.mk (Kd.C_below HR.out hb))); replace HB := Aside0.mk (HB.out.trans (hb.mono HB.out.size)); clear hb)
    | ((with_reducible refine gate_builtin (b := .copy) (xs := #[.tmp 86, .tmp 87]) rfl ?_); refine Kd.R_copy (enc := Value.int .u8) (0 : Int) (w0 := w5) w5.heap.size rfl (.tmp 86) (.tmp 87) 23 23 5 rfl Try.underlying23 infoS.out (.slice AP X.length cP) (List.replicate X.length (0 : Int)) l2 A2 l2.length c2 (fun _ => True) rfl rfl HR2.out Hl2.out HB2.out HB2.out.size ?_; intro w7 hR3 hb _; rw [List.length_replicate] at hR3; rw [show l2.take (min l2.length X.length) ++ (List.replicate X.length (0 : Int)).drop (min l2.length X.length) = draw from hdraw.out] at hR3; have HP := Aside0.mk (show Kd.C (Kd.int .u8) w7 AP X.length draw from by have := (Kd.R_reads' hR3).2.2; rw [hdl.out] at this; exact this); have CP := Aside0.mk (Kd.R_reads' hR3).2.1; clear hR3 HR2; replace HX := Aside0.mk (Kd.C_below HX5.out hb); replace HY := Aside0.mk (Kd.C_below HY5.out hb); replace HT := Aside0.mk (Kd.C_below HT5.out hb); replace HB := Aside0.mk (HB5.out.trans (hb.mono HB5.out.size)); clear hb Hl2))
  clear HX5 HY5 HT5 HB5 HB2 infoS
  go_upto_region 11 with (first
    | (go_at_call 30; with_reducible refine (combine_at 2000 AX cX X AP cP draw X.length any 0 _ HX.out CX.out HP.out CP.out hdl.out F3.out).mono ?_; rintro e w' ⟨v_, rfl, ho_, hb⟩; obtain ⟨AQ, cQ, rfl⟩ := Kd.R_slice ho_; have HQ := Aside0.mk (Kd.R_reads' ho_).2.2; have CQ := Aside0.mk (Kd.R_reads' ho_).2.1; clear ho_; (try (replace HX := Aside0.mk (Kd.C_below HX.out hb))); (try (replace HY := Aside0.mk (Kd.C_below HY.out hb))); (try (replace Hl2 := Aside0.mk (Kd.C_below Hl2.out hb))); (try (replace HT := Aside0.mk (Kd.C_below HT.out hb))); (try (replace HP := Aside0.mk (Kd.C_below HP.out hb))); (try (replace HR := Aside0.mk (Kd.C_below HR.out hb))); replace HB := Aside0.mk (HB.out.trans (hb.mono HB.out.size)); clear hb))
  go_upto_region 13 with (first
    | (go_at_call 14; with_reducible refine (span_Has.calls AX cX X AQ cQ any _ 0 _ HX.out CX.out HQ.out CQ.out F4.out).mono ?_; rintro e w' ⟨rfl, hb⟩; (try (replace HX := Aside0.mk (Kd.C_below HX.out hb))); (try (replace HY := Aside0.mk (Kd.C_below HY.out hb))); (try (replace Hl2 := Aside0.mk (Kd.C_below Hl2.out hb))); (try (replace HT := Aside0.mk (Kd.C_below HT.out hb))); (try (replace HP := Aside0.mk (Kd.C_below HP.out hb))); (try (replace HQ := Aside0.mk (Kd.C_below HQ.out hb))); (try (replace HR := Aside0.mk (Kd.C_below HR.out hb))); replace HB := Aside0.mk (HB.out.trans (hb.mono HB.out.size)); clear hb)
    | (go_at_call 14; with_reducible refine (span_Has.calls AY cY Y AQ cQ any _ 0 _ HY.out CY.out HQ.out CQ.out F5.out).mono ?_; rintro e w' ⟨rfl, hb⟩; (try (replace HX := Aside0.mk (Kd.C_below HX.out hb))); (try (replace HY := Aside0.mk (Kd.C_below HY.out hb))); (try (replace Hl2 := Aside0.mk (Kd.C_below Hl2.out hb))); (try (replace HT := Aside0.mk (Kd.C_below HT.out hb))); (try (replace HP := Aside0.mk (Kd.C_below HP.out hb))); (try (replace HQ := Aside0.mk (Kd.C_below HQ.out hb))); (try (replace HR := Aside0.mk (Kd.C_below HR.out hb))); replace HB := Aside0.mk (HB.out.trans (hb.mono HB.out.size)); clear hb))
  go_wp2_with (first
    | (go_at_call 26; with_reducible refine (braidworklaw08_wakes.calls true _ wakes_ok).mono ?_; rintro e w' ⟨rfl, hb⟩; (try (replace HX := Aside0.mk (Kd.C_below HX.out hb))); (try (replace HY := Aside0.mk (Kd.C_below HY.out hb))); (try (replace HZ := Aside0.mk (Kd.C_below HZ.out hb))); (try (replace HS := Aside0.mk (Kd.C_below HS.out hb))); (try (replace HM := Aside0.mk (Kd.C_below HM.out hb))); (try (replace HP := Aside0.mk (Kd.C_below HP.out hb))); (try (replace HQ := Aside0.mk (Kd.C_below HQ.out hb))); (try (replace HR := Aside0.mk (Kd.C_below HR.out hb))); (try (replace HT := Aside0.mk (Kd.C_below HT.out hb))); (try (replace HU := Aside0.mk (Kd.C_below HU.out hb))); replace HB := Aside0.mk (HB.out.trans (hb.mono HB.out.size)); clear hb))
  go_ret
  exact ⟨rfl, HB.out⟩
set_option maxHeartbeats 8000000 in
set_option maxRecDepth 100000 in
theorem wit_new_walk (A0 : Option Addr) (c0 : Nat) (l0 : List Int) (A1 : Option Addr) (c1 : Nat) (l1 : List Int) (A2 : Option Addr) (c2 : Nat) (l2 : List Int) (s0 s1 s2 : Int) (w : World) (Hl0 : Aside0 (Kd.C (Kd.int .u8) w A0 l0.length l0)) (Cl0 : Aside0 (l0.length ≤ c0)) (Hl1 : Aside0 (Kd.C (Kd.int .u8) w A1 l1.length l1)) (Cl1 : Aside0 (l1.length ≤ c1)) (Hl2 : Aside0 (Kd.C (Kd.int .u8) w A2 l2.length l2)) (Cl2 : Aside0 (l2.length ≤ c2))
    (cols : Nat) (X Y : List (List Int)) (h0 : wrap64 (Int.tmod s0 6) = (X.length : Int)) (h1 : wrap64 (Int.tmod s1 6) = (Y.length : Int)) (hc : wrap64 (1 + (wrap64 (Int.tmod s2 6))) = (cols : Int)) (H6 : Aside0 (X.length ≤ 6 ∧ Y.length ≤ 6))
    (FX : Aside0 (braidworklaw08_shaped.f 200 l0 X.length cols = some X)) (FY : Aside0 (braidworklaw08_shaped.f 200 l1 Y.length cols = some Y)) (d : List Int) (F1 : Aside0 (span_Witness.f X Y = some (d, true, 0))) (F2 : Aside0 (braidworklaw08_contains.f Y X = some false)) (z1 : ((X.length : Int) == 0) = false) (z2 : ((X.length : Int) = 0) = False) (z3 : (X.length = 0) = False) (z4 : (X = []) = False) (draw any : List Int) (r : Bool) (hdraw : Aside0 (filled l2 X.length = draw)) (hdl : Aside0 (draw.length = X.length)) (F3 : Aside0 (vector_Combine.f 2000 X draw = some (any, 0))) (F4 : Aside0 (span_Has.f X any = some (true, 0))) (F5 : Aside0 (span_Has.f Y any = some (r, 0))) (v : List Int) (n m : Int) (D : List (List Int)) (hD : Aside0 (Y ++ [v] = D)) (F6 : Aside0 (vector_Combine.f 2000 X d = some (v, 0))) (G1 : Aside0 (span_Has.f Y v = some (false, 0))) (F7 : Aside0 (matrix_Rank.f Y = some (n, 0))) (F8 : Aside0 (matrix_Rank.f D = some (m, 0))) (hm : wrap64 (n + 1) = m) :
    Calls Try.prog 6 #[.slice A0 l0.length c0, .slice A1 l1.length c1, .slice A2 l2.length c2, .agg #[.int .u8 s0, .int .u8 s1, .int .u8 s2]] w fun e w' => e = .returned (.bool true) ∧ Below w.heap.size w w' := by
  have HB := Aside0.mk (below_drew (below_alloc (Below.refl w.heap.size w) (.cells #[.int .u8 s0, .int .u8 s1, .int .u8 s2] 49)))
  go_enter Try.func6, Try.ntmps6
  go_wp2
  refine start_ (n := 16) (S := fun w' => w'.cell? ⟨w.heap.size, 0, none⟩ = some (.int .u8 s0) ∧ w'.cell? ⟨w.heap.size, 1, none⟩ = some (.int .u8 s1)) (ds := []) #[false, false, false, false, false, false, false, false, false, false, false, false, false, false, false, false] (by kernel_rfl) rfl rfl ⟨(by simp), (by simp)⟩ (fun hHeld => ?_)
  generalize (World.drew _) = w1 at HB hHeld ⊢
  replace Hl0 := Aside0.mk (Kd.C_below Hl0.out HB.out)
  replace Hl1 := Aside0.mk (Kd.C_below Hl1.out HB.out)
  replace Hl2 := Aside0.mk (Kd.C_below Hl2.out HB.out)
  refine pure_ (i := 0) (N := some 35) (v := ?_) (a' := ?_) #[true, false, false, false, false, false, false, false, false, false, false, false, false, false, false, false] rfl rfl (by kernel_rfl) (fun _ _ _ h => h) (Or.inl ⟨by rfl, ?_⟩) ?_ ?_
  rotate_left
  · intro w'
    go_simp
    with_reducible rfl
  rotate_left
  · simp only [Act.put, List.setIfInBounds_toArray, List.set_cons_zero, List.set_cons_succ, i64_w, i32_w]
    rfl
  refine pure_ (i := 1) (N := some 36) (v := ?_) (a' := ?_) #[true, true, false, false, false, false, false, false, false, false, false, false, false, false, false, false] rfl rfl (by kernel_rfl) (fun _ _ _ h => h) (Or.inl ⟨by rfl, ?_⟩) ?_ ?_
  rotate_left
  · intro w'
    go_simp
    with_reducible rfl
  rotate_left
  · simp only [Act.put, List.setIfInBounds_toArray, List.set_cons_zero, List.set_cons_succ, i64_w, i32_w]
    rfl
  refine pure_ (i := 5) (N := some 40) (v := ?_) (a' := ?_) #[true, true, false, false, false, true, false, false, false, false, false, false, false, false, false, false] rfl rfl (by kernel_rfl) (fun _ _ _ h => h) (Or.inl ⟨by rfl, ?_⟩) ?_ ?_
  rotate_left
  · intro w'
    go_simp
    with_reducible rfl
  rotate_left
  · simp only [Act.put, List.setIfInBounds_toArray, List.set_cons_zero, List.set_cons_succ, i64_w, i32_w]
    rfl
  refine pure_ (i := 7) (N := some 42) (v := ?_) (a' := ?_) #[true, true, false, false, false, true, false, true, false, false, false, false, false, false, false, false] rfl rfl (by kernel_rfl) (fun _ _ _ h => h) (Or.inl ⟨by rfl, ?_⟩) ?_ ?_
  rotate_left
  · intro w'
    go_simp
    with_reducible rfl
  rotate_left
  · simp only [Act.put, List.setIfInBounds_toArray, List.set_cons_zero, List.set_cons_succ, i64_w, i32_w]
    rfl
  refine pure_ (i := 8) (N := some 43) (v := ?_) (a' := ?_) #[true, true, false, false, false, true, false, true, true, false, false, false, false, false, false, false] rfl rfl (by kernel_rfl) (fun _ _ _ h => h) (Or.inl ⟨by rfl, ?_⟩) ?_ ?_
  rotate_left
  · intro w'
    go_simp
    with_reducible rfl
  rotate_left
  · simp only [Act.put, List.setIfInBounds_toArray, List.set_cons_zero, List.set_cons_succ, i64_w, i32_w]
    rfl
  refine pure_ (i := 12) (N := some 47) (v := ?_) (a' := ?_) #[true, true, false, false, false, true, false, true, true, false, false, false, true, false, false, false] rfl rfl (by kernel_rfl) (fun _ _ _ h => h) (Or.inl ⟨by rfl, ?_⟩) ?_ ?_
  rotate_left
  · intro w'
    go_simp
    with_reducible rfl
  rotate_left
  · simp only [Act.put, List.setIfInBounds_toArray, List.set_cons_zero, List.set_cons_succ, i64_w, i32_w]
    rfl
  refine take_ (i := 2) (N := some 37) (v := ?_) (a' := ?_) #[true, true, true, false, false, true, false, true, true, false, false, false, true, false, false, false] rfl rfl (by kernel_rfl) (fun _ _ _ h => h) (Or.inl ⟨by rfl, ?_⟩) hHeld ?_ ?_
  rotate_left
  · rintro w' ⟨s0, s1⟩
    go_simp
    with_reducible rfl
  rotate_left
  · simp only [Act.put, List.setIfInBounds_toArray, List.set_cons_zero, List.set_cons_succ, i64_w, i32_w]
    rfl
  refine pure_ (i := 3) (N := some 38) (v := ?_) (a' := ?_) #[true, true, true, true, false, true, false, true, true, false, false, false, true, false, false, false] rfl rfl (by kernel_rfl) (fun _ _ _ h => h) (Or.inl ⟨by rfl, ?_⟩) ?_ ?_
  rotate_left
  · intro w'
    go_simp
    with_reducible rfl
  rotate_left
  · simp only [Act.put, List.setIfInBounds_toArray, List.set_cons_zero, List.set_cons_succ, i64_w, i32_w]
    rfl
  refine take_ (i := 4) (N := some 39) (v := ?_) (a' := ?_) #[true, true, true, true, true, true, false, true, true, false, false, false, true, false, false, false] rfl rfl (by kernel_rfl) (fun _ _ _ h => h) (Or.inl ⟨by rfl, ?_⟩) hHeld ?_ ?_
  rotate_left
  · rintro w' ⟨s0, s1⟩
    go_simp
    with_reducible rfl
  rotate_left
  · simp only [Act.put, List.setIfInBounds_toArray, List.set_cons_zero, List.set_cons_succ, i64_w, i32_w]
    rfl
  refine take_ (i := 9) (N := some 44) (v := ?_) (a' := ?_) #[true, true, true, true, true, true, false, true, true, true, false, false, true, false, false, false] rfl rfl (by kernel_rfl) (fun _ _ _ h => h) (Or.inl ⟨by rfl, ?_⟩) hHeld ?_ ?_
  rotate_left
  · rintro w' ⟨s0, s1⟩
    go_simp
    with_reducible rfl
  rotate_left
  · simp only [Act.put, List.setIfInBounds_toArray, List.set_cons_zero, List.set_cons_succ, i64_w, i32_w]
    rfl
  refine pure_ (i := 10) (N := some 45) (v := ?_) (a' := ?_) #[true, true, true, true, true, true, false, true, true, true, true, false, true, false, false, false] rfl rfl (by kernel_rfl) (fun _ _ _ h => h) (Or.inl ⟨by rfl, ?_⟩) ?_ ?_
  rotate_left
  · intro w'
    go_simp
    with_reducible rfl
  rotate_left
  · simp only [Act.put, List.setIfInBounds_toArray, List.set_cons_zero, List.set_cons_succ, i64_w, i32_w]
    rfl
  refine take_ (i := 11) (N := some 46) (v := ?_) (a' := ?_) #[true, true, true, true, true, true, false, true, true, true, true, true, true, false, false, false] rfl rfl (by kernel_rfl) (fun _ _ _ h => h) (Or.inl ⟨by rfl, ?_⟩) hHeld ?_ ?_
  rotate_left
  · rintro w' ⟨s0, s1⟩
    go_simp
    with_reducible rfl
  rotate_left
  · simp only [Act.put, List.setIfInBounds_toArray, List.set_cons_zero, List.set_cons_succ, i64_w, i32_w]
    rfl
  refine one_ (i := 6) (N := some 41) #[true, true, true, true, true, true, true, true, true, true, true, true, true, false, false, false] rfl rfl (by kernel_rfl) (by decide) (fun K hK => ?_)
  refine goes_ Try.func27 (by kernel_rfl) rfl #[.slice A0 l0.length c0, .int .i64 (wrap64 (Int.tmod s0 6)), .int .i64 (cols : Int)] (by rfl) rfl rfl (by simp only [List.map_toArray, List.map_cons, List.map_nil]; rfl) ?_
  with_reducible refine (braidworklaw08_shaped.calls 200 A0 c0 l0 (wrap64 (Int.tmod s0 6)) (cols : Int) X _ Hl0.out Cl0.out (by rw [h0]; exact FX.out)).mono ?_
  rintro e w' ⟨v_, rfl, ho_, hb⟩
  refine ⟨_, rfl, ?_⟩
  obtain ⟨AX, cX, rfl⟩ := Kd.S_slice ho_
  have HX := Aside0.mk (Kd.S_reads' ho_).2.2
  have CX := Aside0.mk (Kd.S_reads' ho_).2.1
  clear ho_
  replace Hl1 := Aside0.mk (Kd.C_below Hl1.out hb)
  replace Hl2 := Aside0.mk (Kd.C_below Hl2.out hb)
  replace HB := Aside0.mk (HB.out.trans (hb.mono HB.out.size))
  refine hK.out _ _ ⟨((hb.cell (World.block_lt_of_cell? _ _ hHeld.1)).trans hHeld.1), ((hb.cell (World.block_lt_of_cell? _ _ hHeld.2)).trans hHeld.2)⟩ (fun hHeld => ?_)
  clear hK K
  refine norm_ (a' := ?_) ?_ ?_
  rotate_left
  · show Act.put _ (some 41) _ = _
    simp only [Act.put, List.setIfInBounds_toArray, List.set_cons_zero, List.set_cons_succ, i64_w, i32_w]
    rfl
  refine one_ (i := 13) (N := some 48) #[true, true, true, true, true, true, true, true, true, true, true, true, true, true, false, false] rfl rfl (by kernel_rfl) (by decide) (fun K hK => ?_)
  refine goes_ Try.func27 (by kernel_rfl) rfl #[.slice A1 l1.length c1, .int .i64 (wrap64 (Int.tmod s1 6)), .int .i64 (cols : Int)] (by rfl) rfl rfl (by simp only [List.map_toArray, List.map_cons, List.map_nil]; rfl) ?_
  with_reducible refine (braidworklaw08_shaped.calls 200 A1 c1 l1 (wrap64 (Int.tmod s1 6)) (cols : Int) Y _ Hl1.out Cl1.out (by rw [h1]; exact FY.out)).mono ?_
  rintro e w' ⟨v_, rfl, ho_, hb⟩
  refine ⟨_, rfl, ?_⟩
  obtain ⟨AY, cY, rfl⟩ := Kd.S_slice ho_
  have HY := Aside0.mk (Kd.S_reads' ho_).2.2
  have CY := Aside0.mk (Kd.S_reads' ho_).2.1
  clear ho_
  replace HX := Aside0.mk (Kd.C_below HX.out hb)
  replace Hl2 := Aside0.mk (Kd.C_below Hl2.out hb)
  replace HB := Aside0.mk (HB.out.trans (hb.mono HB.out.size))
  refine hK.out _ _ ⟨((hb.cell (World.block_lt_of_cell? _ _ hHeld.1)).trans hHeld.1), ((hb.cell (World.block_lt_of_cell? _ _ hHeld.2)).trans hHeld.2)⟩ (fun hHeld => ?_)
  clear hK K
  refine norm_ (a' := ?_) ?_ ?_
  rotate_left
  · show Act.put _ (some 48) _ = _
    simp only [Act.put, List.setIfInBounds_toArray, List.set_cons_zero, List.set_cons_succ, i64_w, i32_w]
    rfl
  refine pure_ (i := 14) (N := some 10) (v := ?_) (a' := ?_) #[true, true, true, true, true, true, true, true, true, true, true, true, true, true, true, false] rfl rfl (by kernel_rfl) (fun _ _ _ h => h) (Or.inl ⟨by rfl, ?_⟩) ?_ ?_
  rotate_left
  · intro w'
    go_simp
    with_reducible rfl
  rotate_left
  · simp only [Act.put, List.setIfInBounds_toArray, List.set_cons_zero, List.set_cons_succ, i64_w, i32_w]
    rfl
  refine pure_ (i := 15) (N := some 11) (v := ?_) (a' := ?_) #[true, true, true, true, true, true, true, true, true, true, true, true, true, true, true, true] rfl rfl (by kernel_rfl) (fun _ _ _ h => h) (Or.inl ⟨by rfl, ?_⟩) ?_ ?_
  rotate_left
  · intro w'
    go_simp
    with_reducible rfl
  rotate_left
  · simp only [Act.put, List.setIfInBounds_toArray, List.set_cons_zero, List.set_cons_succ, i64_w, i32_w]
    rfl
  refine done_ (by kernel_rfl) ?_
  clear hHeld h0 h1 hc Hl0 Hl1
  go_upto_region 4 with (first
    | (go_at_call 24; with_reducible refine (span_Witness.calls AX cX X AY cY Y d _ 0 _ HX.out CX.out HY.out CY.out F1.out).mono ?_; rintro e w4 ⟨v_, rfl, ho_, hb⟩; obtain ⟨AT, cT, rfl⟩ := Kd.R_slice ho_; have HT := Aside0.mk (Kd.R_reads' ho_).2.2; have CT := Aside0.mk (Kd.R_reads' ho_).2.1; clear ho_; (try (replace HX := Aside0.mk (Kd.C_below HX.out hb))); (try (replace HY := Aside0.mk (Kd.C_below HY.out hb))); (try (replace Hl2 := Aside0.mk (Kd.C_below Hl2.out hb))); (try (replace HP := Aside0.mk (Kd.C_below HP.out hb))); (try (replace HQ := Aside0.mk (Kd.C_below HQ.out hb))); (try (replace HR := Aside0.mk (Kd.C_below HR.out hb))); replace HB := Aside0.mk (HB.out.trans (hb.mono HB.out.size)); clear hb))
  go_upto_region 6 with (first
    | (go_at_call 29; with_reducible refine (braidworklaw08_contains.calls AY cY Y AX cX X _ _ HY.out CY.out HX.out CX.out F2.out).mono ?_; rintro e w5 ⟨rfl, hb⟩; (try (replace HX := Aside0.mk (Kd.C_below HX.out hb))); (try (replace HY := Aside0.mk (Kd.C_below HY.out hb))); (try (replace Hl2 := Aside0.mk (Kd.C_below Hl2.out hb))); (try (replace HT := Aside0.mk (Kd.C_below HT.out hb))); (try (replace HP := Aside0.mk (Kd.C_below HP.out hb))); (try (replace HQ := Aside0.mk (Kd.C_below HQ.out hb))); (try (replace HR := Aside0.mk (Kd.C_below HR.out hb))); replace HB := Aside0.mk (HB.out.trans (hb.mono HB.out.size)); clear hb))
  clear F1 F2
  go_upto_region 8 with fail
  have infoS := Aside0.mk infoS_
  have HX5 := HX
  have HY5 := HY
  have HT5 := HT
  have HB5 := HB
  go_upto_region 10 with (first
    | ((with_reducible refine gate_dst (N := 85) rfl ?_); refine Kd.R_make (Kd.int .u8) _ 5 rfl (N := 85) rfl 23 _ _ rfl (X.length : Int) rfl rfl Try.underlying23 (.int .u8 0) 1 infoT5 rfl (by decide) (by decide) 0 (ok := fun _ => True) (okp := fun _ => True) rfl (fun _ h => h) trivial (Int.natCast_nonneg _) (by have := H6.out; rw [Int.toNat_natCast]; omega) (Below.refl _ _) (Nat.le_refl _) ?_; intro v2 w6 hR2 hb _ _; rw [Int.toNat_natCast] at hR2; obtain ⟨AP, cP, hv2⟩ := Kd.R_slice hR2; rw [List.length_replicate] at hv2; subst hv2; have HR2 := Aside0.mk hR2; have HB2 := Aside0.mk hb; clear hR2; (try (replace HX := Aside0.mk (Kd.C_below HX.out hb))); (try (replace HY := Aside0.mk (Kd.C_below HY.out hb))); (try (replace Hl2 := Aside0.mk (Kd.C_below Hl2.out hb))); (try (replace HT := Aside0.mk (Kd.C_below HT.out hb))); (try (replace HP := Aside0.mk (Kd.C_below HP.out hb))); (try (replace HQ := Aside0.mk (Kd.C_below HQ.out hb))); (try (replace HR := Aside0.mk (Kd.C_below HR.out hb))); replace HB := Aside0.mk (HB.out.trans (hb.mono HB.out.size)); clear hb)
    | ((with_reducible refine gate_builtin (b := .copy) (xs := #[.tmp 86, .tmp 87]) rfl ?_); refine Kd.R_copy (enc := Value.int .u8) (0 : Int) (w0 := w5) w5.heap.size rfl (.tmp 86) (.tmp 87) 23 23 5 rfl Try.underlying23 infoS.out (.slice AP X.length cP) (List.replicate X.length (0 : Int)) l2 A2 l2.length c2 (fun _ => True) rfl rfl HR2.out Hl2.out HB2.out HB2.out.size ?_; intro w7 hR3 hb _; rw [List.length_replicate] at hR3; rw [show l2.take (min l2.length X.length) ++ (List.replicate X.length (0 : Int)).drop (min l2.length X.length) = draw from hdraw.out] at hR3; have HP := Aside0.mk (show Kd.C (Kd.int .u8) w7 AP X.length draw from by have := (Kd.R_reads' hR3).2.2; rw [hdl.out] at this; exact this); have CP := Aside0.mk (Kd.R_reads' hR3).2.1; clear hR3 HR2; replace HX := Aside0.mk (Kd.C_below HX5.out hb); replace HY := Aside0.mk (Kd.C_below HY5.out hb); replace HT := Aside0.mk (Kd.C_below HT5.out hb); replace HB := Aside0.mk (HB5.out.trans (hb.mono HB5.out.size)); clear hb Hl2))
  clear HX5 HY5 HT5 HB5 HB2 infoS
  go_upto_region 11 with (first
    | (go_at_call 30; with_reducible refine (combine_at 2000 AX cX X AP cP draw X.length any 0 _ HX.out CX.out HP.out CP.out hdl.out F3.out).mono ?_; rintro e w' ⟨v_, rfl, ho_, hb⟩; obtain ⟨AQ, cQ, rfl⟩ := Kd.R_slice ho_; have HQ := Aside0.mk (Kd.R_reads' ho_).2.2; have CQ := Aside0.mk (Kd.R_reads' ho_).2.1; clear ho_; (try (replace HX := Aside0.mk (Kd.C_below HX.out hb))); (try (replace HY := Aside0.mk (Kd.C_below HY.out hb))); (try (replace Hl2 := Aside0.mk (Kd.C_below Hl2.out hb))); (try (replace HT := Aside0.mk (Kd.C_below HT.out hb))); (try (replace HP := Aside0.mk (Kd.C_below HP.out hb))); (try (replace HR := Aside0.mk (Kd.C_below HR.out hb))); replace HB := Aside0.mk (HB.out.trans (hb.mono HB.out.size)); clear hb))
  go_upto_region 13 with (first
    | (go_at_call 14; with_reducible refine (span_Has.calls AX cX X AQ cQ any _ 0 _ HX.out CX.out HQ.out CQ.out F4.out).mono ?_; rintro e w' ⟨rfl, hb⟩; (try (replace HX := Aside0.mk (Kd.C_below HX.out hb))); (try (replace HY := Aside0.mk (Kd.C_below HY.out hb))); (try (replace Hl2 := Aside0.mk (Kd.C_below Hl2.out hb))); (try (replace HT := Aside0.mk (Kd.C_below HT.out hb))); (try (replace HP := Aside0.mk (Kd.C_below HP.out hb))); (try (replace HQ := Aside0.mk (Kd.C_below HQ.out hb))); (try (replace HR := Aside0.mk (Kd.C_below HR.out hb))); replace HB := Aside0.mk (HB.out.trans (hb.mono HB.out.size)); clear hb)
    | (go_at_call 14; with_reducible refine (span_Has.calls AY cY Y AQ cQ any _ 0 _ HY.out CY.out HQ.out CQ.out F5.out).mono ?_; rintro e w' ⟨rfl, hb⟩; (try (replace HX := Aside0.mk (Kd.C_below HX.out hb))); (try (replace HY := Aside0.mk (Kd.C_below HY.out hb))); (try (replace Hl2 := Aside0.mk (Kd.C_below Hl2.out hb))); (try (replace HT := Aside0.mk (Kd.C_below HT.out hb))); (try (replace HP := Aside0.mk (Kd.C_below HP.out hb))); (try (replace HQ := Aside0.mk (Kd.C_below HQ.out hb))); (try (replace HR := Aside0.mk (Kd.C_below HR.out hb))); replace HB := Aside0.mk (HB.out.trans (hb.mono HB.out.size)); clear hb))
  go_upto_region 18 with (first
    | (go_at_call 30; with_reducible refine (vector_Combine.calls 2000 AX cX X AT cT d v 0 _ HX.out CX.out HT.out CT.out F6.out).mono ?_; rintro e w' ⟨v_, rfl, ho_, hb⟩; obtain ⟨AR, cR, rfl⟩ := Kd.R_slice ho_; have HR := Aside0.mk (Kd.R_reads' ho_).2.2; have CR := Aside0.mk (Kd.R_reads' ho_).2.1; clear ho_; (try (replace HX := Aside0.mk (Kd.C_below HX.out hb))); (try (replace HY := Aside0.mk (Kd.C_below HY.out hb))); (try (replace Hl2 := Aside0.mk (Kd.C_below Hl2.out hb))); (try (replace HT := Aside0.mk (Kd.C_below HT.out hb))); (try (replace HP := Aside0.mk (Kd.C_below HP.out hb))); (try (replace HQ := Aside0.mk (Kd.C_below HQ.out hb))); replace HB := Aside0.mk (HB.out.trans (hb.mono HB.out.size)); clear hb))
  go_upto_region 20 with (first
    | (go_at_call 14; with_reducible refine (span_Has.calls AY cY Y AR cR v _ 0 _ HY.out CY.out HR.out CR.out G1.out).mono ?_; rintro e w' ⟨rfl, hb⟩; (try (replace HX := Aside0.mk (Kd.C_below HX.out hb))); (try (replace HY := Aside0.mk (Kd.C_below HY.out hb))); (try (replace Hl2 := Aside0.mk (Kd.C_below Hl2.out hb))); (try (replace HT := Aside0.mk (Kd.C_below HT.out hb))); (try (replace HP := Aside0.mk (Kd.C_below HP.out hb))); (try (replace HQ := Aside0.mk (Kd.C_below HQ.out hb))); (try (replace HR := Aside0.mk (Kd.C_below HR.out hb))); replace HB := Aside0.mk (HB.out.trans (hb.mono HB.out.size)); clear hb)
    | (go_at_call 31; with_reducible refine (matrix_Rank.calls AY cY Y n 0 _ HY.out CY.out F7.out).mono ?_; rintro e w20 ⟨rfl, hb⟩; (try (replace HX := Aside0.mk (Kd.C_below HX.out hb))); (try (replace HY := Aside0.mk (Kd.C_below HY.out hb))); (try (replace Hl2 := Aside0.mk (Kd.C_below Hl2.out hb))); (try (replace HT := Aside0.mk (Kd.C_below HT.out hb))); (try (replace HP := Aside0.mk (Kd.C_below HP.out hb))); (try (replace HQ := Aside0.mk (Kd.C_below HQ.out hb))); (try (replace HR := Aside0.mk (Kd.C_below HR.out hb))); replace HB := Aside0.mk (HB.out.trans (hb.mono HB.out.size)); clear hb))
  go_upto_region 21 with (first
    | ((with_reducible refine gate_builtin (b := .append) (xs := #[.const (.slice none 0 0), .tmp 138]) rfl ?_); at_builtin; refine Kd.N_append_rows rowK (w0 := w20) w20.heap.size rfl (.const (.slice none 0 0)) (.tmp 138) 22 23 (.slice none 0 0) 24 rfl Try.underlying22 infoRows rfl (show 0 < 1 by decide) (by decide) (.slice none 0 0) [] Y _ _ _ (fun _ => True) (fun k_ => k_ < w20.heap.size) rfl rfl (Kd.N_nil _ _ _ _ _) (Kd.C_F (Kd.heap_slice _ (Kd.heap_int _)) HY.out) (fun k hk => ⟨trivial, by simp [Value.ownBlock]⟩) (fun _ _ => trivial) (Below.refl _ _) (Nat.le_refl _) (len10 Y H6.out.2) ?_; intro v30 w30 hN hb _ _; rw [List.nil_append] at hN; have HN30 := Aside0.mk hN; have H30 := Aside0.mk hb; clear hN hb)
    | ((with_reducible refine gate_dst (N := 141) rfl ?_); refine Kd.N_lit rowK (w0 := w30) w30.heap.size 23 ?hg (N' := 141) ?hd (xs := [v]) (inner := [.slice AR v.length cR]) (ok := fun k_ => k_ < w20.heap.size ∨ w30.heap.size ≤ k_) (okp := fun k_ => k_ < w20.heap.size) ?hr (Reps.one (show Kd.FK rowK _ _ v [.slice AR v.length cR] from Kd.FK_slice_mk CR.out (Kd.F_step (Kd.C_F (Kd.heap_int _) HR.out) (fun j_ hj_ _ => H30.out.block j_ hj_))) (Reps.none _ _)) (fun _ h => Or.inl h) (Or.inr (Nat.le_refl _)) (Below.refl _ _) (Nat.le_refl _) (by simp) ?_; (case hd => rfl); (case hg => rfl); (case hr => first | (go_simp; done) | (go_simp; rfl)); intro v_ w31 ho_ hb _ _; obtain ⟨AL, cL, rfl⟩ := Kd.N_slice ho_; have HNL := Aside0.mk (Kd.N_F ho_); have HLT := Aside0.mk (Kd.N_lt HN30.out); have HM30 := Aside0.mk (Kd.N_below HN30.out hb); have H31 := Aside0.mk (H30.out.trans (hb.mono H30.out.size)); clear ho_ hb)
    | ((with_reducible refine gate_builtin (b := .append) (xs := #[.tmp 139, .tmp 141]) rfl ?_); at_builtin; refine Kd.N_append_rows rowK (w0 := w20) w20.heap.size rfl (.tmp 139) (.tmp 141) 22 23 (.slice none 0 0) 24 rfl Try.underlying22 infoRows rfl (show 0 < 1 by decide) (by decide) v30 Y [v] _ _ _ (fun _ => True) (fun k_ => k_ < w20.heap.size ∨ w30.heap.size ≤ k_) rfl rfl HM30.out HNL.out (fun j_ hj_ => ⟨trivial, fun e_ => hj_.elim (fun q => absurd (Kd.N_base HN30.out j_ e_.symm) (Nat.not_le.2 q)) (fun q => absurd (HLT.out j_ e_.symm) (Nat.not_lt.2 q))⟩) (fun _ _ => trivial) H31.out H31.out.size (len12 Y v H6.out.2) ?_; intro v32 w32 hN hb _ _; rw [hD.out] at hN; obtain ⟨AQ, cQ, rfl⟩ := Kd.N_slice hN; have HQ := Aside0.mk (Kd.N_reads' hN).2.2; have CQ := Aside0.mk (Kd.N_reads' hN).2.1; replace HB := Aside0.mk (HB.out.trans (hb.mono HB.out.size)); clear hN hb)
    | (go_at_call 31; with_reducible refine (matrix_Rank.calls AQ cQ D m 0 _ HQ.out CQ.out F8.out).mono ?_; rintro e w33 ⟨rfl, hb⟩; (try (replace HX := Aside0.mk (Kd.C_below HX.out hb))); (try (replace HY := Aside0.mk (Kd.C_below HY.out hb))); (try (replace Hl2 := Aside0.mk (Kd.C_below Hl2.out hb))); (try (replace HT := Aside0.mk (Kd.C_below HT.out hb))); (try (replace HP := Aside0.mk (Kd.C_below HP.out hb))); (try (replace HQ := Aside0.mk (Kd.C_below HQ.out hb))); (try (replace HR := Aside0.mk (Kd.C_below HR.out hb))); replace HB := Aside0.mk (HB.out.trans (hb.mono HB.out.size)); clear hb))
  go_wp2_with (first
    | (go_at_call 26; with_reducible refine (braidworklaw08_wakes.calls true _ wakes_ok).mono ?_; rintro e w' ⟨rfl, hb⟩; (try (replace HX := Aside0.mk (Kd.C_below HX.out hb))); (try (replace HY := Aside0.mk (Kd.C_below HY.out hb))); (try (replace HZ := Aside0.mk (Kd.C_below HZ.out hb))); (try (replace HS := Aside0.mk (Kd.C_below HS.out hb))); (try (replace HM := Aside0.mk (Kd.C_below HM.out hb))); (try (replace HP := Aside0.mk (Kd.C_below HP.out hb))); (try (replace HQ := Aside0.mk (Kd.C_below HQ.out hb))); (try (replace HR := Aside0.mk (Kd.C_below HR.out hb))); (try (replace HT := Aside0.mk (Kd.C_below HT.out hb))); (try (replace HU := Aside0.mk (Kd.C_below HU.out hb))); replace HB := Aside0.mk (HB.out.trans (hb.mono HB.out.size)); clear hb))
  go_ret
  exact ⟨rfl, HB.out⟩
theorem witness_calls (A0 : Option Addr) (c0 : Nat) (l0 : List Int) (A1 : Option Addr) (c1 : Nat) (l1 : List Int) (A2 : Option Addr) (c2 : Nat) (l2 : List Int) (l3 : List Int) (w : World) (hr0 : Kd.C (Kd.int .u8) w A0 l0.length l0) (hc0 : l0.length ≤ c0) (hr1 : Kd.C (Kd.int .u8) w A1 l1.length l1) (hc1 : l1.length ≤ c1) (hr2 : Kd.C (Kd.int .u8) w A2 l2.length l2) (hc2 : l2.length ≤ c2)
    (w0 : ∀ y ∈ l0, (Lit.int .u8 y).wf = true) (w1 : ∀ y ∈ l1, (Lit.int .u8 y).wf = true) (w2 : ∀ y ∈ l2, (Lit.int .u8 y).wf = true) (h3 : l3.length = 3) (w3 : ∀ y ∈ l3, (Lit.int .u8 y).wf = true) :
    Calls Try.prog 6 #[.slice A0 l0.length c0, .slice A1 l1.length c1, .slice A2 l2.length c2, .agg (l3.map (Value.int .u8)).toArray] w fun e w' => e = .returned (.bool true) ∧ Below w.heap.size w w' := by
  match l3, h3 with
  | [s0, s1, s2], _ =>
    have b0 := nonneg_of_wf (w3 s0 (by simp))
    have b1 := nonneg_of_wf (w3 s1 (by simp))
    have b2 := nonneg_of_wf (w3 s2 (by simp))
    obtain ⟨n0, k0, h0⟩ := size_five s0 b0.1
    obtain ⟨n1, k1, h1⟩ := size_five s1 b1.1
    obtain ⟨cols, c1_, c6, hc⟩ := size_six s2 b2.1
    obtain ⟨X, x1, x2, x3⟩ := shaped_f l0 (areB_of_wf w0) n0 cols (by omega) c6 200 (by omega)
    obtain ⟨Y, y1, y2, y3⟩ := shaped_f l1 (areB_of_wf w1) n1 cols (by omega) c6 200 (by omega)
    subst x2 y2
    have hX : Small cols X := ⟨x3, by omega⟩
    have hY : Small cols Y := ⟨y3, by omega⟩
    have hn : cols < 1000 := by omega
    have H6 : Aside0 (X.length ≤ 6 ∧ Y.length ≤ 6) := ⟨by omega, by omega⟩
    by_cases hz : X.length = 0
    · have e : X = [] := List.length_eq_zero_iff.1 hz
      rcases witness_f hX hY hn with ⟨q1, q2⟩ | ⟨_, i, hi, _⟩
      · exact wit_none A0 c0 l0 A1 c1 l1 A2 c2 l2 s0 s1 s2 w ⟨hr0⟩ ⟨hc0⟩ ⟨hr1⟩ ⟨hc1⟩ ⟨hr2⟩ ⟨hc2⟩ cols X Y h0 h1 hc H6 ⟨x1⟩ ⟨y1⟩ [] ⟨q2⟩ ⟨by rw [contains_f hY hX hn, q1]⟩ (by rw [hz]; rfl) (eq_true (by omega)) (eq_true hz) (eq_true e) (by decide) (eq_false (by decide)) (eq_false (by decide)) (eq_true rfl)
      · omega
    · have hp : 0 < X.length := by omega
      have z1 : ((X.length : Int) == 0) = false := by simp; exact fun q => hz (by rw [q]; rfl)
      have z4 : (X = []) = False := eq_false fun q => hz (by rw [q]; rfl)
      obtain ⟨draw, hdr⟩ : ∃ draw, filled l2 X.length = draw := ⟨_, rfl⟩
      have hdl : draw.length = X.length := by rw [← hdr]; exact filled_length _ _
      have hdB : areB draw := by rw [← hdr]; exact filled_B (areB_of_wf w2) _
      obtain ⟨any, g1, g2, g3, g4, g5, r, g6⟩ := wit_plain hX hY hn hp hdl hdB
      rcases witness_f hX hY hn with ⟨q1, q2⟩ | ⟨q1, i, hi, q2, q3⟩
      · exact wit_old A0 c0 l0 A1 c1 l1 A2 c2 l2 s0 s1 s2 w ⟨hr0⟩ ⟨hc0⟩ ⟨hr1⟩ ⟨hc1⟩ ⟨hr2⟩ ⟨hc2⟩ cols X Y h0 h1 hc H6 ⟨x1⟩ ⟨y1⟩ [] ⟨q2⟩ ⟨by rw [contains_f hY hX hn, q1]⟩ z1 (eq_false (by omega)) (eq_false hz) z4 (by decide) (eq_false (by decide)) (eq_false (by decide)) (eq_true rfl) draw any ⟨hdr⟩ ⟨hdl⟩ ⟨g1⟩ ⟨g4⟩ ⟨g5 q1⟩
      · obtain ⟨v, k1, k2, k3, k4, k5, k6, k7⟩ := wit_new hX hY hn hi q3
        exact wit_new_walk A0 c0 l0 A1 c1 l1 A2 c2 l2 s0 s1 s2 w ⟨hr0⟩ ⟨hc0⟩ ⟨hr1⟩ ⟨hc1⟩ ⟨hr2⟩ ⟨hc2⟩ cols X Y h0 h1 hc H6 ⟨x1⟩ ⟨y1⟩ _ ⟨q2⟩ ⟨by rw [contains_f hY hX hn, q1]⟩ z1 (eq_false (by omega)) (eq_false hz) z4 draw any r ⟨hdr⟩ ⟨hdl⟩ ⟨g1⟩ ⟨g4⟩ ⟨g6⟩ v _ _ _ ⟨rfl⟩ ⟨k1⟩ ⟨k4⟩ ⟨k5⟩ ⟨k6⟩ (by unfold wrap64; omega)
end Go.Proofs.Ythgpmneplpdeiaa.Plain
