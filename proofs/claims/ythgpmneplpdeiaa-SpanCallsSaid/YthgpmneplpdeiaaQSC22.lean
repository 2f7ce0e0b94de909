/- QSC, part 22: HIns. -/
import Derived.Test.YthgpmneplpdeiaaQSC20
import Derived.Test.YthgpmneplpdeiaaQSC21

section
set_option linter.unusedVariables false
set_option linter.unusedSimpArgs false
namespace Go.Proofs.Ythgpmneplpdeiaa.Plain
open Go.Proofs.Ythgpmneplpdeiaa.Hand Go.Proofs.Ythgpmneplpdeiaa.GF Go.Proofs.Ythgpmneplpdeiaa.LA Go.RowKit Go.Proofs.Ythgpmneplpdeiaa.P Go.Proofs.YthgpmneplpdeiaaW.PrintWords Go.Proofs.YthgpmneplpdeiaaW.PrintLast Go.Proofs.YthgpmneplpdeiaaW.PrintMore
theorem snext (k : Nat) (h : k ≤ 1000000000) : wrap64 ((k : Int) + 1) = ((k + 1 : Nat) : Int) := by unfold wrap64; omega
def layW (M : List (List Int)) (s : List Int) (t : Nat) (cl : List Int → List Int) (i : Nat) : List (List Int) := if i ≤ t then (M.take i).map cl else (M.take t).map cl ++ [s] ++ ((M.take i).drop t).map cl
theorem layW_len (M : List (List Int)) (s : List Int) (t : Nat) (cl : List Int → List Int) (i : Nat) : (layW M s t cl i).length ≤ M.length + 1 := by
  unfold layW
  split
  · rw [List.length_map, List.length_take]; omega
  · simp only [List.length_append, List.length_map, List.length_take, List.length_drop, List.length_singleton]; omega
theorem layW_low (M : List (List Int)) (s : List Int) (t : Nat) (cl : List Int → List Int) {i : Nat} (h : i < M.length) (ht : i < t) : layW M s t cl (i + 1) = layW M s t cl i ++ [cl (M.getD i [])] := by
  unfold layW
  rw [if_pos (by omega), if_pos (by omega), List.take_add_one, List.getElem?_eq_getElem h, Option.toList_some, List.map_append, List.getD_eq_getElem?_getD, List.getElem?_eq_getElem h]; rfl
theorem layW_at (M : List (List Int)) (s : List Int) (t : Nat) (cl : List Int → List Int) (h : t < M.length) : layW M s t cl (t + 1) = layW M s t cl t ++ [s] ++ [cl (M.getD t [])] := by
  unfold layW
  rw [if_neg (by omega), if_pos (Nat.le_refl _)]
  congr 1
  rw [List.drop_take, show t + 1 - t = 1 from by omega, List.getD_eq_getElem?_getD, List.getElem?_eq_getElem h, Option.getD_some, List.drop_eq_getElem_cons h]; rfl
theorem layW_high (M : List (List Int)) (s : List Int) (t : Nat) (cl : List Int → List Int) {i : Nat} (h : i < M.length) (ht : t < i) : layW M s t cl (i + 1) = layW M s t cl i ++ [cl (M.getD i [])] := by
  unfold layW
  rw [if_neg (by omega), if_neg (by omega), List.append_assoc _ _ [cl _]]
  congr 1
  rw [List.take_add_one, List.getElem?_eq_getElem h, Option.toList_some, List.drop_append_of_le_length (by rw [List.length_take]; omega), List.map_append, List.getD_eq_getElem?_getD, List.getElem?_eq_getElem h]; rfl
theorem layW_end (M : List (List Int)) (s : List Int) (t : Nat) (cl : List Int → List Int) (ht : t ≤ M.length) : (M.take t).map cl ++ [s] ++ (M.drop t).map cl = if t < M.length then layW M s t cl M.length else layW M s t cl M.length ++ [s] := by
  unfold layW
  by_cases h : t < M.length
  · rw [if_pos h, if_neg (by omega), List.take_length]
  · have e : t = M.length := by omega
    rw [if_neg h, if_pos (by omega), e, List.drop_length]; simp
theorem lenO {o : List (List Int)} {m : Nat} (z : List Int) (h : o.length ≤ m + 1) (hm : m < 1000000) : (o.length + [z].length) * 24 ≤ 140737488355328 := by rw [List.length_singleton]; omega
set_option maxHeartbeats 8000000 in
set_option maxRecDepth 100000 in
theorem ins_walk (A0 : Option Addr) (c0 : Nat) (M : List (List Int)) (A1 : Option Addr) (c1 : Nat) (r : List Int) (w : World) (Hl : Aside0 (Kd.C rowK w A0 M.length M)) (Cl : Aside0 (M.length ≤ c0)) (Hv : Aside0 (Kd.C (Kd.int .u8) w A1 r.length r)) (Cv : Aside0 (r.length ≤ c1))
    (n : Nat) (P : Nat → Nat) (MF : Aside0 (Fits n M)) (VF : Aside0 (r.length = n ∧ areB r)) (K6 : Aside0 (n < 1000 ∧ M.length < 1000)) (HPl : Aside0 (∀ i, i < M.length → P i < n ∧ leadN (M.getD i []) = ((P i : Nat) : Int))) :
    Calls Try.prog 60 #[.slice A0 M.length c0, .slice A1 r.length c1] w fun e w' => ∃ (A : Option Addr) (c : Nat), e = .returned (.slice A (insL M r).length c) ∧ (insL M r).length ≤ c ∧ Kd.C rowK w' A (insL M r).length (insL M r) ∧ Below w.heap.size w w' := by
  go_enter Try.func60, Try.ntmps60
  go_wp2
  go_loopg [5, 1] M.length (fun kq v5 v1 w' => ∃ (k : Nat) (A : Option Addr) (c : Nat) (l : List Int), v5 = .int .i64 (k : Int) ∧ v1 = .slice A l.length c ∧ Aside0 (kq + k = M.length) ∧ Aside0 (l = leftL M r k) ∧ Aside0 (l.length ≤ c) ∧ Aside0 (Kd.C (Kd.int .u8) w' A l.length l) ∧ Aside0 (Below w.heap.size w w'))
  case atStart => exact ⟨0, A1, c1, r, rfl, rfl, ⟨by omega⟩, ⟨rfl⟩, Cv, Hv, ⟨Below.refl _ _⟩⟩
  case round =>
    clear Hv Cv
    obtain ⟨k, Al, cl, l, rfl, rfl, HK, HL, HLC, HC, HW⟩ := hrel
    by_cases hk : k < M.length
    · have p0 : (0 : Int) ≤ (k : Int) := Int.natCast_nonneg _
      have p1 : (k : Int) < (M.length : Int) := Int.ofNat_lt.2 hk
      have q1 : decide ((k : Int) < (M.length : Int)) = true := decide_eq_true p1
      obtain ⟨bd, Bk, ck, e2, hx2, hl2, hi2⟩ := at_R Hl.out (k : Int) p0 p1
      cases e2
      have er : rdR M (k : Int) = M.getD k [] := by unfold rdR; rw [Int.toNat_natCast]
      rw [er] at hx2 hl2 hi2
      rw [Int.toNat_natCast] at hx2
      replace hx2 := (HW.out.cell (World.block_lt_of_cell? _ _ hx2)).trans hx2
      have HY := Aside0.mk (Kd.C_below hi2 HW.out)
      have Hl2_ := Aside0.mk hl2
      have ry := getD_fits MF.out hk
      obtain ⟨b1, b2⟩ := HPl.out k hk
      have hll := leftL_fits MF.out VF.out k (Nat.le_of_lt hk)
      rw [← HL.out] at hll
      have HLead := Aside0.mk (ref_lead (M.getD k []) ((P k : Nat) : Int) (by have := K6.out; omega) b2)
      have HNext := Aside0.mk (show addS l (M.getD k []) (rd l ((P k : Nat) : Int)) = leftL M r (k + 1) from by
        show _ = addS (leftL M r k) (M.getD k []) ((leftL M r k).getD (leadN (M.getD k [])).toNat 0)
        rw [b2, Int.toNat_natCast, ← HL.out]; unfold rd; rw [Int.toNat_natCast])
      have HAS := Aside0.mk (ref_addS (l := l) (r := M.getD k []) (c := rd l ((P k : Nat) : Int)) (by rw [hll.1, ry.1]) ry.2 (rd_B hll.2 _) (by have := K6.out; omega))
      have hnk := snext k (by have := K6.out; omega)
      have pl0 : (0 : Int) ≤ ((P k : Nat) : Int) := Int.natCast_nonneg _
      have pl1 : ((P k : Nat) : Int) < (l.length : Int) := by rw [hll.1]; exact Int.ofNat_lt.2 b1
      obtain ⟨adl, ei, hxl⟩ := Kd.at_int HC.out ((P k : Nat) : Int) pl0 pl1
      cases ei
      rw [Int.toNat_natCast] at hxl
      have HLen := Aside0.mk (show (addS l (M.getD k []) (rd l ((P k : Nat) : Int))).length = l.length from by unfold addS; rw [List.length_zipWith, hll.1, ry.1, Nat.min_self])
      have q4 := eq_true p0
      have q5 := eq_true p1
      have q6 := eq_true hk
      have q7 := eq_true pl0
      have q8 := eq_true pl1
      have q9 := eq_true (Int.ofNat_lt.1 pl1)
      have Hk := Aside0.mk hk
      clear p0 p1 hk er hi2 hl2 ry b1 b2 hll pl0 pl1
      generalize M.getD k [] = y at *
      generalize rd l ((P k : Nat) : Int) = xl at *
      cases gk with
      | zero => exact absurd HK.out (by have := Hk.out; omega)
      | succ k2 =>
      go_wp2
      refine start_ (n := 18) (S := fun w' => w'.cell? (bd.add k) = some (.slice Bk y.length ck) ∧ w'.cell? (adl.add (P k)) = some (.int .u8 xl)) (ds := []) #[false, false, false, false, false, false, false, false, false, false, false, false, false, false, false, false, false, false] (by kernel_rfl) rfl rfl ⟨(by simpa using hx2), (by simpa using hxl)⟩ (fun hHeld => ?_)
      replace HC := Aside0.mk (Kd.C_below HC.out (below_drew (Below.refl wr.heap.size wr)))
      replace HY := Aside0.mk (Kd.C_below HY.out (below_drew (Below.refl wr.heap.size wr)))
      replace HW := Aside0.mk (below_drew HW.out)
      clear hx2 hxl
      generalize wr.drew = w4 at HC HY HW hHeld ⊢
      refine pure_ (i := 0) (N := some 19) (v := ?_) (a' := ?_) #[true, false, false, false, false, false, false, false, false, false, false, false, false, false, false, false, false, false] rfl rfl (by kernel_rfl) (fun _ _ _ h => h) (Or.inl ⟨by rfl, ?_⟩) ?_ ?_
      rotate_left
      · intro w'
        go_simp
        with_reducible rfl
      rotate_left
      · simp only [Act.put, List.setIfInBounds_toArray, List.set_cons_zero, List.set_cons_succ, i64_w, i32_w]
        rfl
      refine pure_ (i := 1) (N := some 20) (v := ?_) (a' := ?_) #[true, true, false, false, false, false, false, false, false, false, false, false, false, false, false, false, false, false] rfl rfl (by kernel_rfl) (fun _ _ _ h => h) (Or.inl ⟨by rfl, ?_⟩) ?_ ?_
      rotate_left
      · intro w'
        go_simp
        with_reducible rfl
      rotate_left
      · simp only [Act.put, List.setIfInBounds_toArray, List.set_cons_zero, List.set_cons_succ, i64_w, i32_w]
        rfl
      refine pure_ (i := 2) (N := some 21) (v := ?_) (a' := ?_) #[true, true, true, false, false, false, false, false, false, false, false, false, false, false, false, false, false, false] rfl rfl (by kernel_rfl) (fun _ _ _ h => h) (Or.inl ⟨by rfl, ?_⟩) ?_ ?_
      rotate_left
      · intro w'
        go_simp
        with_reducible rfl
      rotate_left
      · simp only [Act.put, List.setIfInBounds_toArray, List.set_cons_zero, List.set_cons_succ, i64_w, i32_w]
        rfl
      refine pure_ (i := 3) (N := some 22) (v := ?_) (a' := ?_) #[true, true, true, true, false, false, false, false, false, false, false, false, false, false, false, false, false, false] rfl rfl (by kernel_rfl) (fun _ _ _ h => h) (Or.inl ⟨by rfl, ?_⟩) ?_ ?_
      rotate_left
      · intro w'
        go_simp
        with_reducible rfl
      rotate_left
      · simp only [Act.put, List.setIfInBounds_toArray, List.set_cons_zero, List.set_cons_succ, i64_w, i32_w]
        rfl
      refine pure_ (i := 5) (N := some 24) (v := ?_) (a' := ?_) #[true, true, true, true, false, true, false, false, false, false, false, false, false, false, false, false, false, false] rfl rfl (by kernel_rfl) (fun _ _ _ h => h) (Or.inl ⟨by rfl, ?_⟩) ?_ ?_
      rotate_left
      · intro w'
        go_simp
        with_reducible rfl
      rotate_left
      · simp only [Act.put, List.setIfInBounds_toArray, List.set_cons_zero, List.set_cons_succ, i64_w, i32_w]
        rfl
      refine pure_ (i := 6) (N := some 25) (v := ?_) (a' := ?_) #[true, true, true, true, false, true, true, false, false, false, false, false, false, false, false, false, false, false] rfl rfl (by kernel_rfl) (fun _ _ _ h => h) (Or.inl ⟨by rfl, ?_⟩) ?_ ?_
      rotate_left
      · intro w'
        go_simp
        with_reducible rfl
      rotate_left
      · simp only [Act.put, List.setIfInBounds_toArray, List.set_cons_zero, List.set_cons_succ, i64_w, i32_w]
        rfl
      refine pure_ (i := 7) (N := some 26) (v := ?_) (a' := ?_) #[true, true, true, true, false, true, true, true, false, false, false, false, false, false, false, false, false, false] rfl rfl (by kernel_rfl) (fun _ _ _ h => h) (Or.inl ⟨by rfl, ?_⟩) ?_ ?_
      rotate_left
      · intro w'
        go_simp
        with_reducible rfl
      rotate_left
      · simp only [Act.put, List.setIfInBounds_toArray, List.set_cons_zero, List.set_cons_succ, i64_w, i32_w]
        rfl
      refine pure_ (i := 8) (N := some 27) (v := ?_) (a' := ?_) #[true, true, true, true, false, true, true, true, true, false, false, false, false, false, false, false, false, false] rfl rfl (by kernel_rfl) (fun _ _ _ h => h) (Or.inl ⟨by rfl, ?_⟩) ?_ ?_
      rotate_left
      · intro w'
        go_simp
        with_reducible rfl
      rotate_left
      · simp only [Act.put, List.setIfInBounds_toArray, List.set_cons_zero, List.set_cons_succ, i64_w, i32_w]
        rfl
      refine take_ (i := 4) (N := some 23) (v := ?_) (a' := ?_) #[true, true, true, true, true, true, true, true, true, false, false, false, false, false, false, false, false, false] rfl rfl (by kernel_rfl) (fun _ _ _ h => h) (Or.inl ⟨by rfl, ?_⟩) hHeld ?_ ?_
      rotate_left
      · rintro w' ⟨s0, s1⟩
        go_simp
        with_reducible rfl
      rotate_left
      · simp only [Act.put, List.setIfInBounds_toArray, List.set_cons_zero, List.set_cons_succ, i64_w, i32_w]
        rfl
      refine take_ (i := 9) (N := some 28) (v := ?_) (a' := ?_) #[true, true, true, true, true, true, true, true, true, true, false, false, false, false, false, false, false, false] rfl rfl (by kernel_rfl) (fun _ _ _ h => h) (Or.inl ⟨by rfl, ?_⟩) hHeld ?_ ?_
      rotate_left
      · rintro w' ⟨s0, s1⟩
        go_simp
        with_reducible rfl
      rotate_left
      · simp only [Act.put, List.setIfInBounds_toArray, List.set_cons_zero, List.set_cons_succ, i64_w, i32_w]
        rfl
      refine one_ (i := 10) (N := some 29) #[true, true, true, true, true, true, true, true, true, true, true, false, false, false, false, false, false, false] rfl rfl (by kernel_rfl) (by decide) (fun K hK => ?_)
      refine goes_ Try.func70 (by kernel_rfl) rfl #[.slice Bk y.length ck] (by rfl) rfl rfl (by simp only [List.map_toArray, List.map_cons, List.map_nil]; rfl) ?_
      with_reducible refine (braidworkref02_Lead.calls 2000 Bk ck y ((P k : Nat) : Int) _ HY.out Hl2_.out HLead.out).mono ?_
      rintro e w5 ⟨rfl, hd⟩
      have hb := drawn_below hd
      refine ⟨_, rfl, ?_⟩
      replace HC := Aside0.mk (Kd.C_below HC.out hb)
      replace HY := Aside0.mk (Kd.C_below HY.out hb)
      replace HW := Aside0.mk (HW.out.trans (hb.mono HW.out.size))
      refine hK.out _ _ ⟨((hb.cell (World.block_lt_of_cell? _ _ hHeld.1)).trans hHeld.1), ((hb.cell (World.block_lt_of_cell? _ _ hHeld.2)).trans hHeld.2)⟩ (fun hHeld => ?_)
      clear hK K
      refine norm_ (a' := ?_) ?_ ?_
      rotate_left
      · show Act.put _ (some 29) _ = _
        simp only [Act.put, List.setIfInBounds_toArray, List.set_cons_zero, List.set_cons_succ, i64_w, i32_w]
        rfl
      refine pure_ (i := 11) (N := some 30) (v := ?_) (a' := ?_) #[true, true, true, true, true, true, true, true, true, true, true, true, false, false, false, false, false, false] rfl rfl (by kernel_rfl) (fun _ _ _ h => h) (Or.inl ⟨by rfl, ?_⟩) ?_ ?_
      rotate_left
      · intro w'
        go_simp
        with_reducible rfl
      rotate_left
      · simp only [Act.put, List.setIfInBounds_toArray, List.set_cons_zero, List.set_cons_succ, i64_w, i32_w]
        rfl
      refine take_ (i := 12) (N := some 31) (v := ?_) (a' := ?_) #[true, true, true, true, true, true, true, true, true, true, true, true, true, false, false, false, false, false] rfl rfl (by kernel_rfl) (fun _ _ _ h => h) (Or.inl ⟨by rfl, ?_⟩) hHeld ?_ ?_
      rotate_left
      · rintro w' ⟨s0, s1⟩
        go_simp
        with_reducible rfl
      rotate_left
      · simp only [Act.put, List.setIfInBounds_toArray, List.set_cons_zero, List.set_cons_succ, i64_w, i32_w]
        rfl
      refine one_ (i := 13) (N := some 32) #[true, true, true, true, true, true, true, true, true, true, true, true, true, true, false, false, false, false] rfl rfl (by kernel_rfl) (by decide) (fun K hK => ?_)
      refine goes_ Try.func69 (by kernel_rfl) rfl #[.slice (some adl) l.length cl, .slice Bk y.length ck, .int .u8 xl] (by rfl) rfl rfl (by simp only [List.map_toArray, List.map_cons, List.map_nil]; rfl) ?_
      with_reducible refine (braidworkref02_AddScaled.calls 2000 (some adl) cl l Bk ck y xl (addS l y xl) 0 _ HC.out HLC.out HY.out Hl2_.out HAS.out).mono ?_
      rintro e w6 ⟨v0, rfl, hR, hb⟩
      refine ⟨_, rfl, ?_⟩
      obtain ⟨An, cn, rfl⟩ := Kd.R_slice hR
      have Hn := Aside0.mk (Kd.R_reads' hR).2.2
      have Cn := Aside0.mk (Kd.R_reads' hR).2.1
      replace HC := Aside0.mk (Kd.C_below HC.out hb)
      replace HY := Aside0.mk (Kd.C_below HY.out hb)
      replace HW := Aside0.mk (HW.out.trans (hb.mono HW.out.size))
      refine hK.out _ _ ⟨((hb.cell (World.block_lt_of_cell? _ _ hHeld.1)).trans hHeld.1), ((hb.cell (World.block_lt_of_cell? _ _ hHeld.2)).trans hHeld.2)⟩ (fun hHeld => ?_)
      clear hK K
      refine norm_ (a' := ?_) ?_ ?_
      rotate_left
      · show Act.put _ (some 32) _ = _
        simp only [Act.put, List.setIfInBounds_toArray, List.set_cons_zero, List.set_cons_succ, i64_w, i32_w]
        rfl
      refine pure_ (i := 14) (N := some 18) (v := ?_) (a' := ?_) #[true, true, true, true, true, true, true, true, true, true, true, true, true, true, true, false, false, false] rfl rfl (by kernel_rfl) (fun _ _ _ h => h) (Or.inl ⟨by rfl, ?_⟩) ?_ ?_
      rotate_left
      · intro w'
        go_simp
        with_reducible rfl
      rotate_left
      · simp only [Act.put, List.setIfInBounds_toArray, List.set_cons_zero, List.set_cons_succ, i64_w, i32_w]
        rfl
      refine pure_ (i := 15) (N := some 33) (v := ?_) (a' := ?_) #[true, true, true, true, true, true, true, true, true, true, true, true, true, true, true, true, false, false] rfl rfl (by kernel_rfl) (fun _ _ _ h => h) (Or.inl ⟨by rfl, ?_⟩) ?_ ?_
      rotate_left
      · intro w'
        go_simp
        with_reducible rfl
      rotate_left
      · simp only [Act.put, List.setIfInBounds_toArray, List.set_cons_zero, List.set_cons_succ, i64_w, i32_w]
        rfl
      refine pure_ (i := 16) (N := some 34) (v := ?_) (a' := ?_) #[true, true, true, true, true, true, true, true, true, true, true, true, true, true, true, true, true, false] rfl rfl (by kernel_rfl) (fun _ _ _ h => h) (Or.inl ⟨by rfl, ?_⟩) ?_ ?_
      rotate_left
      · intro w'
        go_simp
        with_reducible rfl
      rotate_left
      · simp only [Act.put, List.setIfInBounds_toArray, List.set_cons_zero, List.set_cons_succ, i64_w, i32_w]
        rfl
      refine pure_ (i := 17) (N := some 1) (v := ?_) (a' := ?_) #[true, true, true, true, true, true, true, true, true, true, true, true, true, true, true, true, true, true] rfl rfl (by kernel_rfl) (fun _ _ _ h => h) (Or.inl ⟨by rfl, ?_⟩) ?_ ?_
      rotate_left
      · intro w'
        go_simp
        with_reducible rfl
      rotate_left
      · simp only [Act.put, List.setIfInBounds_toArray, List.set_cons_zero, List.set_cons_succ, i64_w, i32_w]
        rfl
      refine done_ (by kernel_rfl) ?_
      clear hHeld
      go_wp2
      go_roundg k2
      case measure => omega
      case rel => exact ⟨k + 1, An, cn, _, by first | rfl | rw [hnk], by first | rfl | (rw [HLen.out]), ⟨by have := HK.out; omega⟩, HNext, Cn, Hn, HW⟩
    · have q1 : decide ((k : Int) < (M.length : Int)) = false := decide_eq_false (by omega)
      have q2 : decide (k < M.length) = false := decide_eq_false hk
      have q3 := eq_false hk
      have ek : k = M.length := by have := HK.out; omega
      have hll := leftL_fits MF.out VF.out k (by omega)
      rw [← HL.out] at hll
      have HE := Aside0.mk (show leftL M r M.length = l from by rw [HL.out, ek])
      have LF := Aside0.mk hll
      have HLead := Aside0.mk (ref_lead l (leadN l) (by have := K6.out; omega) rfl)
      have LN := Aside0.mk (leadN_spec l)
      have K6' := K6
      have MB := Aside0.mk (Below.refl w.heap.size w)
      clear hk HK ek hll HL MB K6'
      have hins : insL M r = insW M l := by unfold insL; rw [HE.out]
      have HINS := Aside0.mk hins
      clear hins HE
      rcases LN.out with ⟨e, hz⟩ | ⟨kk, hkl, e, hne, hlow⟩
      · have hI := Aside0.mk (show insL M r = M from by rw [HINS.out]; unfold insW; rw [if_pos (by omega)])
        rw [e] at HLead
        clear e hz LN
        go_wp2_with (first
          | (go_at_call 70; with_reducible refine (braidworkref02_Lead.calls 2000 Al cl l (-1) _ HC.out HLC.out HLead.out).mono ?_; rintro e w6 ⟨rfl, hd⟩; have hb := drawn_below hd; clear hd; replace HW := Aside0.mk (HW.out.trans (hb.mono HW.out.size));  clear hb))
        go_ret
        exact ⟨A0, c0, by rw [hI.out]; rfl, by rw [hI.out]; exact Cl.out, by rw [hI.out]; exact Kd.C_below Hl.out HW.out, HW.out⟩
      · obtain ⟨t, ht⟩ : ∃ t, t = M.findIdx fun x => decide (leadN x > leadN l) := ⟨_, rfl⟩
        have htl : t ≤ M.length := by rw [ht]; exact List.findIdx_le_length
        have HLT := Aside0.mk (show ∀ i, i < M.length → ((P i : Int) > (kk : Int) ↔ t ≤ i) ∨ t < i from fun i hi => by
          by_cases c : t < i
          · exact Or.inr c
          · refine Or.inl ?_
            have hPi := (HPl.out i hi).2
            rw [List.getD_eq_getElem?_getD, List.getElem?_eq_getElem hi, Option.getD_some] at hPi
            constructor
            · intro h
              rcases Nat.lt_or_ge i t with q | q
              · have := List.not_of_lt_findIdx (show i < M.findIdx (fun x => decide (leadN x > leadN l)) by omega)
                have h4 : ¬ leadN M[i] > leadN l := by simpa using this
                rw [hPi, e] at h4
                exact absurd h h4
              · exact q
            · intro h
              have hi2 : i = t := by omega
              subst hi2
              have q := List.findIdx_getElem (xs := M) (p := fun x => decide (leadN x > leadN l)) (w := by rw [← ht]; exact hi)
              simp only [← ht, decide_eq_true_eq] at q
              rw [hPi, e] at q
              exact q)
        have hk1 : (leadN l).toNat = kk := by rw [e]; rfl
        have hgd : l.getD kk 0 = l[kk] := by rw [List.getD_eq_getElem?_getD, List.getElem?_eq_getElem hkl, Option.getD_some]
        have hxB := LF.out.2 _ (List.getElem_mem hkl)
        obtain ⟨s, hs⟩ : ∃ s, s = one1 l := ⟨_, rfl⟩
        have hs2 : l.map (fun x => gm x (gi l[kk])) = s := by rw [hs]; unfold one1; rw [hk1, hgd]
        have HSC := Aside0.mk (show braidworkref02_Scale.f 2000 l (gi l[kk]) = some s from by rw [ref_scale l _ LF.out.2 (gi_spec hxB hne).1 (by have := K6.out; have := LF.out.1; omega), hs2])
        have HIV := Aside0.mk (ref_inv hxB hne)
        have SF := Aside0.mk (show s.length = n ∧ areB s from ⟨by rw [← hs2, List.length_map]; exact LF.out.1, by rw [← hs2]; exact areB_map _ (fun x => gm_B x _) _⟩)
        have pl0 : (0 : Int) ≤ (kk : Int) := Int.natCast_nonneg _
        have pl1 : (kk : Int) < (l.length : Int) := Int.ofNat_lt.2 hkl
        obtain ⟨adl, ei, hxl⟩ := Kd.at_int HC.out (kk : Int) pl0 pl1
        cases ei
        rw [show rd l (kk : Int) = l[kk] from by unfold rd; rw [Int.toNat_natCast, hgd], Int.toNat_natCast] at hxl
        have hI := Aside0.mk (show insL M r = (M.take t).map (fun x => addS x s (x.getD kk 0)) ++ [s] ++ (M.drop t).map (fun x => addS x s (x.getD kk 0)) from by
          rw [HINS.out]; unfold insW; rw [if_neg (by omega), hk1, ← ht, ← hs])
        have KN := Aside0.mk (show kk < n from by rw [← LF.out.1]; exact hkl)
        rw [e] at HLead
        have hkl' := Aside0.mk hkl
        have HT := Aside0.mk htl
        have q7 := eq_true pl0
        have q8 := eq_true pl1
        have q9 := eq_true hkl
        have z0 : decide ((kk : Int) < 0) = false := decide_eq_false (by omega)
        have Hxl := Aside0.mk hxl
        clear e hlow LN hk1 hgd hs hs2 pl0 pl1 htl HINS hxl
        generalize hX : l[kk] = xv at *
        clear hX hne hxB ht
        go_upto_region 9 with (first
          | (go_at_call 70; with_reducible refine (braidworkref02_Lead.calls 2000 (some adl) cl l (kk : Int) _ HC.out HLC.out HLead.out).mono ?_; rintro e w6 ⟨rfl, hd⟩; have hb := drawn_below hd; clear hd; replace HW := Aside0.mk (HW.out.trans (hb.mono HW.out.size)); replace HC := Aside0.mk (Kd.C_below HC.out hb); have hxl := (hb.cell (World.block_lt_of_cell? _ _ Hxl.out)).trans Hxl.out;  clear hb)
          | (go_at_call 72; with_reducible refine (braidworkref06_inv.calls 2000 xv (gi xv) _ HIV.out).mono ?_; rintro e w8 ⟨rfl, hd⟩; have hb := drawn_below hd; clear hd hxl; replace HW := Aside0.mk (HW.out.trans (hb.mono HW.out.size)); replace HC := Aside0.mk (Kd.C_below HC.out hb); clear hb)
          | (go_at_call 71; with_reducible refine (braidworkref02_Scale.calls 2000 (some adl) cl l (gi xv) s _ HC.out HLC.out HSC.out).mono ?_; rintro e w7 ⟨v0, rfl, hR, hb⟩; obtain ⟨As, cs, rfl⟩ := Kd.R_slice hR; have Hs := Aside0.mk (Kd.R_reads' hR).2.2; have Cs := Aside0.mk (Kd.R_reads' hR).2.1; replace HW := Aside0.mk (HW.out.trans (hb.mono HW.out.size)); clear hR hb))
        clear q7 q8 q9 z0 hkl hkl' HLead HSC HIV HC HLC LF
        go_wp2
        have HW5 := HW
        clear HW
        go_loopg [9, 8, 7] M.length (fun kq v9 v8 v7 w' => ∃ (i : Nat) (pb : Bool), v9 = .int .i64 (i : Int) ∧ v8 = .bool pb ∧ Aside0 (pb = decide (t < i)) ∧ Aside0 (kq + i = M.length) ∧ Aside0 (Kd.N rowK 23 w' w7.heap.size (fun _ => True) v7 (layW M s t (fun x => addS x s (x.getD kk 0)) i)) ∧ Aside0 (Below w7.heap.size w7 w'))
        case atStart => exact ⟨0, false, rfl, rfl, ⟨by simp⟩, ⟨by omega⟩, ⟨by unfold layW; rw [if_pos (Nat.zero_le _), List.take_zero]; exact Kd.N_nil _ _ _ _ _⟩, ⟨Below.refl _ _⟩⟩
        case round =>
          obtain ⟨i, pb, rfl, rfl, HP, HI, HN, HW⟩ := hrel
          by_cases hi : i < M.length
          · have p0 : (0 : Int) ≤ (i : Int) := Int.natCast_nonneg _
            have p1 : (i : Int) < (M.length : Int) := Int.ofNat_lt.2 hi
            have q1 : decide ((i : Int) < (M.length : Int)) = true := decide_eq_true p1
            obtain ⟨bd, Bk, ck, e2, hx2, hl2, hi2⟩ := at_R Hl.out (i : Int) p0 p1
            cases e2
            have er : rdR M (i : Int) = M.getD i [] := by unfold rdR; rw [Int.toNat_natCast]
            rw [er] at hx2 hl2 hi2
            rw [Int.toNat_natCast] at hx2
            have HWW := HW5.out.trans (HW.out.mono HW5.out.size)
            have HX20 := Aside0.mk hx2
            have HY0 := Aside0.mk hi2
            replace hx2 := (HWW.cell (World.block_lt_of_cell? _ _ hx2)).trans hx2
            have HY := Aside0.mk (Kd.C_below hi2 HWW)
            have Hl2_ := Aside0.mk hl2
            have ry := getD_fits MF.out hi
            have b2 := (HPl.out i hi).2
            have hlt := HLT.out i hi
            have HLead := Aside0.mk (ref_lead (M.getD i []) ((P i : Nat) : Int) (by have := K6.out; omega) b2)
            have hlow := fun (q : i < t) => layW_low M s t (fun x => addS x s (x.getD kk 0)) hi q
            have hhigh := fun (q : t < i) => layW_high M s t (fun x => addS x s (x.getD kk 0)) hi q
            have hat := fun (q : t = i) => (show layW M s t (fun x => addS x s (x.getD kk 0)) (i + 1) = layW M s t (fun x => addS x s (x.getD kk 0)) i ++ [s] ++ [(fun x => addS x s (x.getD kk 0)) (M.getD i [])] from by have h := layW_at M s t (fun x => addS x s (x.getD kk 0)) (by rw [q]; exact hi); rw [q] at h ⊢; exact h)
            have LEN := Aside0.mk (lenO (o := layW M s t (fun x => addS x s (x.getD kk 0)) i) (m := M.length) ((fun x => addS x s (x.getD kk 0)) (M.getD i [])) (layW_len _ _ _ _ _) (by have := K6.out; omega))
            have LEN2 := Aside0.mk (lenO (o := layW M s t (fun x => addS x s (x.getD kk 0)) i) (m := M.length) s (layW_len _ _ _ _ _) (by have := K6.out; omega))
            have LEN3 := Aside0.mk (lenO (o := layW M s t (fun x => addS x s (x.getD kk 0)) i ++ [s]) (m := M.length + 1) ((fun x => addS x s (x.getD kk 0)) (M.getD i [])) (by have := layW_len M s t (fun x => addS x s (x.getD kk 0)) i; rw [List.length_append, List.length_singleton]; omega) (by have := K6.out; omega))
            obtain ⟨z, hz⟩ : ∃ z, z = addS (M.getD i []) s ((M.getD i []).getD kk 0) := ⟨_, rfl⟩
            dsimp only at hlow hhigh hat LEN LEN3
            have hnk := snext i (by have := K6.out; omega)
            have pl0 : (0 : Int) ≤ (kk : Int) := Int.natCast_nonneg _
            have pl1 : (kk : Int) < ((M.getD i []).length : Int) := by rw [ry.1]; exact Int.ofNat_lt.2 KN.out
            obtain ⟨adl, ei, hxl⟩ := Kd.at_int HY0.out (kk : Int) pl0 pl1
            cases ei
            rw [Int.toNat_natCast] at hxl
            have HXL0 := Aside0.mk hxl
            replace hxl := (HWW.cell (World.block_lt_of_cell? _ _ hxl)).trans hxl
            have HAS := Aside0.mk (show braidworkref02_AddScaled.f 2000 (M.getD i []) s (rd (M.getD i []) (kk : Int)) = some (z, 0) from by
              rw [ref_addS (by rw [ry.1, SF.out.1]) SF.out.2 (rd_B ry.2 _) (by have := K6.out; omega), hz]; unfold rd; rw [Int.toNat_natCast])
            rw [← hz] at hlow hhigh hat LEN LEN3
            have q4 := eq_true p0
            have q5 := eq_true p1
            have q6 := eq_true hi
            have q7 := eq_true pl0
            have q8 := eq_true pl1
            have q9 := eq_true (Int.ofNat_lt.1 pl1)
            have Hi := Aside0.mk hi
            have Hxl := Aside0.mk hxl
            have Hx2 := Aside0.mk hx2
            clear p0 p1 hi er hi2 hl2 ry b2 pl0 pl1 hz hxl hx2 HWW
            generalize M.getD i [] = y at *
            generalize rd y (kk : Int) = xw at *
            cases gk with
            | zero => exact absurd HI.out (by have := Hi.out; omega)
            | succ k2 =>
            rcases Nat.lt_trichotomy i t with c | c | c
            · obtain rfl : pb = false := by rw [HP.out]; exact decide_eq_false (by omega)
              have e3 : decide (((P i : Nat) : Int) > (kk : Int)) = false := decide_eq_false (by rcases hlt with q | q <;> omega)
              have e5 : (kk < P i) = False := eq_false (by rcases hlt with q | q <;> omega)
              have HS := Aside0.mk (hlow c)
              have C := Aside0.mk c
              clear hlow hhigh hat hlt c
              have hx2 := Hx2.out
              go_upto_region 17 with (first
          | (go_at_call 70; with_reducible refine (braidworkref02_Lead.calls 2000 (some adl) ck y ((P i : Nat) : Int) _ HY.out Hl2_.out HLead.out).mono ?_; rintro e w6 ⟨rfl, hd⟩; have hb := drawn_below hd; clear hd; replace HN := Aside0.mk (Kd.N_below HN.out hb); replace HW := Aside0.mk (HW.out.trans (hb.mono HW.out.size)); replace HY := Aside0.mk (Kd.C_below HY.out hb); replace Hxl := Aside0.mk ((hb.cell (World.block_lt_of_cell? _ _ Hxl.out)).trans Hxl.out); replace Hx2 := Aside0.mk ((hb.cell (World.block_lt_of_cell? _ _ Hx2.out)).trans Hx2.out);  clear hb))
              clear e3 e5 hx2
              refine start_ (n := 18) (S := fun w' => w'.cell? (bd.add i) = some (.slice (some adl) y.length ck) ∧ w'.cell? (adl.add kk) = some (.int .u8 xw)) (ds := []) #[false, false, false, false, false, false, false, false, false, false, false, false, false, false, false, false, false, false] (by kernel_rfl) rfl rfl ⟨(by simpa using Hx2.out), (by simpa using Hxl.out)⟩ (fun hHeld => ?_)
              have hxl := Hxl.out
              have hx2 := Hx2.out
              replace HY := Aside0.mk (Kd.C_below HY.out (below_drew (Below.refl w6.heap.size w6)))
              replace HN := Aside0.mk (Kd.N_drew HN.out)
              replace HW := Aside0.mk (below_drew HW.out)
              clear hx2 hxl Hx2 Hxl
              generalize w6.drew = w12 at HY HN HW hHeld ⊢
              refine pure_ (i := 0) (N := some 69) (v := ?_) (a' := ?_) #[true, false, false, false, false, false, false, false, false, false, false, false, false, false, false, false, false, false] rfl rfl (by kernel_rfl) (fun _ _ _ h => h) (Or.inl ⟨by rfl, ?_⟩) ?_ ?_
              rotate_left
              · intro w'
                go_simp
                with_reducible rfl
              rotate_left
              · simp only [Act.put, List.setIfInBounds_toArray, List.set_cons_zero, List.set_cons_succ, i64_w, i32_w]
                rfl
              refine pure_ (i := 1) (N := some 70) (v := ?_) (a' := ?_) #[true, true, false, false, false, false, false, false, false, false, false, false, false, false, false, false, false, false] rfl rfl (by kernel_rfl) (fun _ _ _ h => h) (Or.inl ⟨by rfl, ?_⟩) ?_ ?_
              rotate_left
              · intro w'
                go_simp
                with_reducible rfl
              rotate_left
              · simp only [Act.put, List.setIfInBounds_toArray, List.set_cons_zero, List.set_cons_succ, i64_w, i32_w]
                rfl
              refine pure_ (i := 2) (N := some 71) (v := ?_) (a' := ?_) #[true, true, true, false, false, false, false, false, false, false, false, false, false, false, false, false, false, false] rfl rfl (by kernel_rfl) (fun _ _ _ h => h) (Or.inl ⟨by rfl, ?_⟩) ?_ ?_
              rotate_left
              · intro w'
                go_simp
                with_reducible rfl
              rotate_left
              · simp only [Act.put, List.setIfInBounds_toArray, List.set_cons_zero, List.set_cons_succ, i64_w, i32_w]
                rfl
              refine pure_ (i := 4) (N := some 73) (v := ?_) (a' := ?_) #[true, true, true, false, true, false, false, false, false, false, false, false, false, false, false, false, false, false] rfl rfl (by kernel_rfl) (fun _ _ _ h => h) (Or.inl ⟨by rfl, ?_⟩) ?_ ?_
              rotate_left
              · intro w'
                go_simp
                with_reducible rfl
              rotate_left
              · simp only [Act.put, List.setIfInBounds_toArray, List.set_cons_zero, List.set_cons_succ, i64_w, i32_w]
                rfl
              refine pure_ (i := 5) (N := some 74) (v := ?_) (a' := ?_) #[true, true, true, false, true, true, false, false, false, false, false, false, false, false, false, false, false, false] rfl rfl (by kernel_rfl) (fun _ _ _ h => h) (Or.inl ⟨by rfl, ?_⟩) ?_ ?_
              rotate_left
              · intro w'
                go_simp
                with_reducible rfl
              rotate_left
              · simp only [Act.put, List.setIfInBounds_toArray, List.set_cons_zero, List.set_cons_succ, i64_w, i32_w]
                rfl
              refine pure_ (i := 6) (N := some 75) (v := ?_) (a' := ?_) #[true, true, true, false, true, true, true, false, false, false, false, false, false, false, false, false, false, false] rfl rfl (by kernel_rfl) (fun _ _ _ h => h) (Or.inl ⟨by rfl, ?_⟩) ?_ ?_
              rotate_left
              · intro w'
                go_simp
                with_reducible rfl
              rotate_left
              · simp only [Act.put, List.setIfInBounds_toArray, List.set_cons_zero, List.set_cons_succ, i64_w, i32_w]
                rfl
              refine pure_ (i := 7) (N := some 76) (v := ?_) (a' := ?_) #[true, true, true, false, true, true, true, true, false, false, false, false, false, false, false, false, false, false] rfl rfl (by kernel_rfl) (fun _ _ _ h => h) (Or.inl ⟨by rfl, ?_⟩) ?_ ?_
              rotate_left
              · intro w'
                go_simp
                with_reducible rfl
              rotate_left
              · simp only [Act.put, List.setIfInBounds_toArray, List.set_cons_zero, List.set_cons_succ, i64_w, i32_w]
                rfl
              refine pure_ (i := 9) (N := some 78) (v := ?_) (a' := ?_) #[true, true, true, false, true, true, true, true, false, true, false, false, false, false, false, false, false, false] rfl rfl (by kernel_rfl) (fun _ _ _ h => h) (Or.inl ⟨by rfl, ?_⟩) ?_ ?_
              rotate_left
              · intro w'
                go_simp
                with_reducible rfl
              rotate_left
              · simp only [Act.put, List.setIfInBounds_toArray, List.set_cons_zero, List.set_cons_succ, i64_w, i32_w]
                rfl
              refine take_ (i := 3) (N := some 72) (v := ?_) (a' := ?_) #[true, true, true, true, true, true, true, true, false, true, false, false, false, false, false, false, false, false] rfl rfl (by kernel_rfl) (fun _ _ _ h => h) (Or.inl ⟨by rfl, ?_⟩) hHeld ?_ ?_
              rotate_left
              · rintro w' ⟨s0, s1⟩
                go_simp
                with_reducible rfl
              rotate_left
              · simp only [Act.put, List.setIfInBounds_toArray, List.set_cons_zero, List.set_cons_succ, i64_w, i32_w]
                rfl
              refine take_ (i := 8) (N := some 77) (v := ?_) (a' := ?_) #[true, true, true, true, true, true, true, true, true, true, false, false, false, false, false, false, false, false] rfl rfl (by kernel_rfl) (fun _ _ _ h => h) (Or.inl ⟨by rfl, ?_⟩) hHeld ?_ ?_
              rotate_left
              · rintro w' ⟨s0, s1⟩
                go_simp
                with_reducible rfl
              rotate_left
              · simp only [Act.put, List.setIfInBounds_toArray, List.set_cons_zero, List.set_cons_succ, i64_w, i32_w]
                rfl
              refine pure_ (i := 10) (N := some 79) (v := ?_) (a' := ?_) #[true, true, true, true, true, true, true, true, true, true, true, false, false, false, false, false, false, false] rfl rfl (by kernel_rfl) (fun _ _ _ h => h) (Or.inl ⟨by rfl, ?_⟩) ?_ ?_
              rotate_left
              · intro w'
                go_simp
                with_reducible rfl
              rotate_left
              · simp only [Act.put, List.setIfInBounds_toArray, List.set_cons_zero, List.set_cons_succ, i64_w, i32_w]
                rfl
              refine take_ (i := 11) (N := some 80) (v := ?_) (a' := ?_) #[true, true, true, true, true, true, true, true, true, true, true, true, false, false, false, false, false, false] rfl rfl (by kernel_rfl) (fun _ _ _ h => h) (Or.inl ⟨by rfl, ?_⟩) hHeld ?_ ?_
              rotate_left
              · rintro w' ⟨s0, s1⟩
                go_simp
                with_reducible rfl
              rotate_left
              · simp only [Act.put, List.setIfInBounds_toArray, List.set_cons_zero, List.set_cons_succ, i64_w, i32_w]
                rfl
              refine one_ (i := 12) (N := some 81) #[true, true, true, true, true, true, true, true, true, true, true, true, true, false, false, false, false, false] rfl rfl (by kernel_rfl) (by decide) (fun K hK => ?_)
              refine goes_ Try.func69 (by kernel_rfl) rfl #[.slice (some adl) y.length ck, .slice As s.length cs, .int .u8 xw] (by rfl) rfl rfl (by simp only [List.map_toArray, List.map_cons, List.map_nil]; rfl) ?_
              with_reducible refine (braidworkref02_AddScaled.calls 2000 (some adl) ck y As cs s xw z 0 _ HY.out Hl2_.out (Kd.C_below Hs.out HW.out) Cs.out HAS.out).mono ?_
              rintro e w13 ⟨v0, rfl, hR, hb⟩
              refine ⟨_, rfl, ?_⟩
              have HLT2 := Aside0.mk (Kd.N_lt HN.out)
              have H45 := Aside0.mk hb.size
              obtain ⟨Az, cz, rfl⟩ := Kd.R_slice hR
              have Hz := Aside0.mk (Kd.R_mono (ok' := fun k_ => some k_ ≠ u7.ownBlock) (Kd.R_bound hR) (fun k_ hk e_ => by have := HLT2.out _ e_.symm; have := hk.2.1; omega))
              have Cz := Aside0.mk (Kd.R_reads' hR).2.1
              clear hR
              replace HN := Aside0.mk (Kd.N_below HN.out hb)
              replace HW := Aside0.mk (HW.out.trans (hb.mono HW.out.size))
              refine hK.out _ _ ⟨((hb.cell (World.block_lt_of_cell? _ _ hHeld.1)).trans hHeld.1), ((hb.cell (World.block_lt_of_cell? _ _ hHeld.2)).trans hHeld.2)⟩ (fun hHeld => ?_)
              clear hK K
              refine norm_ (a' := ?_) ?_ ?_
              rotate_left
              · show Act.put _ (some 81) _ = _
                simp only [Act.put, List.setIfInBounds_toArray, List.set_cons_zero, List.set_cons_succ, i64_w, i32_w]
                rfl
              refine pure_ (i := 13) (N := some 68) (v := ?_) (a' := ?_) #[true, true, true, true, true, true, true, true, true, true, true, true, true, true, false, false, false, false] rfl rfl (by kernel_rfl) (fun _ _ _ h => h) (Or.inl ⟨by rfl, ?_⟩) ?_ ?_
              rotate_left
              · intro w'
                go_simp
                with_reducible rfl
              rotate_left
              · simp only [Act.put, List.setIfInBounds_toArray, List.set_cons_zero, List.set_cons_succ, i64_w, i32_w]
                rfl
              refine pure_ (i := 14) (N := some 82) (v := ?_) (a' := ?_) #[true, true, true, true, true, true, true, true, true, true, true, true, true, true, true, false, false, false] rfl rfl (by kernel_rfl) (fun _ _ _ h => h) (Or.inl ⟨by rfl, ?_⟩) ?_ ?_
              rotate_left
              · intro w'
                go_simp
                with_reducible rfl
              rotate_left
              · simp only [Act.put, List.setIfInBounds_toArray, List.set_cons_zero, List.set_cons_succ, i64_w, i32_w]
                rfl
              refine pure_ (i := 15) (N := some 83) (v := ?_) (a' := ?_) #[true, true, true, true, true, true, true, true, true, true, true, true, true, true, true, true, false, false] rfl rfl (by kernel_rfl) (fun _ _ _ h => h) (Or.inl ⟨by rfl, ?_⟩) ?_ ?_
              rotate_left
              · intro w'
                go_simp
                with_reducible rfl
              rotate_left
              · simp only [Act.put, List.setIfInBounds_toArray, List.set_cons_zero, List.set_cons_succ, i64_w, i32_w]
                rfl
              refine pure_ (i := 16) (N := some 10) (v := ?_) (a' := ?_) #[true, true, true, true, true, true, true, true, true, true, true, true, true, true, true, true, true, false] rfl rfl (by kernel_rfl) (fun _ _ _ h => h) (Or.inl ⟨by rfl, ?_⟩) ?_ ?_
              rotate_left
              · intro w'
                go_simp
                with_reducible rfl
              rotate_left
              · simp only [Act.put, List.setIfInBounds_toArray, List.set_cons_zero, List.set_cons_succ, i64_w, i32_w]
                rfl
              refine pure_ (i := 17) (N := some 11) (v := ?_) (a' := ?_) #[true, true, true, true, true, true, true, true, true, true, true, true, true, true, true, true, true, true] rfl rfl (by kernel_rfl) (fun _ _ _ h => h) (Or.inl ⟨by rfl, ?_⟩) ?_ ?_
              rotate_left
              · intro w'
                go_simp
                with_reducible rfl
              rotate_left
              · simp only [Act.put, List.setIfInBounds_toArray, List.set_cons_zero, List.set_cons_succ, i64_w, i32_w]
                rfl
              refine done_ (by kernel_rfl) ?_
              clear hHeld
              go_wp2_with (first
          | ((with_reducible refine gate_dst (N := 86) rfl ?_); refine Kd.N_lit rowK _ 23 ?hg (N' := 86) ?hd (xs := [z]) (inner := [.slice Az z.length cz]) (ok := fun k_ => some k_ ≠ u7.ownBlock) (okp := fun k_ => some k_ ≠ u7.ownBlock) ?hr (Reps.one (show Kd.FK rowK _ _ z [.slice Az z.length cz] from Kd.FK_slice_mk Cz.out (Kd.R_F Hz.out)) (Reps.none _ _)) (fun _ h => h) (fun e_ => by have := HLT2.out _ e_.symm; have := H45.out; omega) (Below.refl _ _) (Nat.le_refl _) (by simp) ?_; (case hd => rfl); (case hg => rfl); (case hr => first | (go_simp; done) | (go_simp; rfl)); intro v_ w14 ho_ hb _ _; obtain ⟨At, ct, rfl⟩ := Kd.N_slice ho_; have HTT := Aside0.mk (Kd.N_F ho_); clear ho_; replace HN := Aside0.mk (Kd.N_below HN.out hb); replace HW := Aside0.mk (HW.out.trans (hb.mono HW.out.size)); clear hb)
          | ((with_reducible refine gate_builtin (b := .append) (xs := #[.tmp 84, .tmp 86]) rfl ?_); at_builtin; refine Kd.N_append_rows rowK (w0 := w7) w7.heap.size rfl (.tmp 84) (.tmp 86) 22 23 (.slice none 0 0) 24 rfl Try.underlying22 infoRows rfl (show 0 < 1 by decide) (by decide) u7 (layW M s t (fun x => addS x s (x.getD kk 0)) i) [z] _ _ _ (fun _ => True) (fun k_ => some k_ ≠ u7.ownBlock) rfl rfl HN.out HTT.out (fun k hk => ⟨trivial, hk⟩) (fun _ _ => trivial) HW.out HW.out.size LEN.out ?_; intro v9 w9 hN hb hg_ hat_; have HN9 := Aside0.mk hN; have HW9 := Aside0.mk hb; clear hN hb hg_ hat_))
              go_roundg k2
              case measure => omega
              case rel => exact ⟨i + 1, false, by first | rfl | rw [hnk], rfl, ⟨by rw [decide_eq_false (by have := C.out; omega)]⟩, ⟨by have := HI.out; omega⟩, ⟨by rw [HS.out]; exact HN9.out⟩, HW9⟩
            · obtain rfl : pb = false := by rw [HP.out]; exact decide_eq_false (by omega)
              have e3 : decide (((P i : Nat) : Int) > (kk : Int)) = true := decide_eq_true (by rcases hlt with q | q <;> omega)
              have e5 : (kk < P i) = True := eq_true (by rcases hlt with q | q <;> omega)
              have HS := Aside0.mk (hat c.symm)
              have C := Aside0.mk c
              clear hlow hhigh hat hlt c
              have hx2 := Hx2.out
              go_upto_region 17 with (first
          | (go_at_call 70; with_reducible refine (braidworkref02_Lead.calls 2000 (some adl) ck y ((P i : Nat) : Int) _ HY.out Hl2_.out HLead.out).mono ?_; rintro e w6 ⟨rfl, hd⟩; have hb := drawn_below hd; clear hd; replace HN := Aside0.mk (Kd.N_below HN.out hb); replace HW := Aside0.mk (HW.out.trans (hb.mono HW.out.size)); replace HY := Aside0.mk (Kd.C_below HY.out hb); replace Hxl := Aside0.mk ((hb.cell (World.block_lt_of_cell? _ _ Hxl.out)).trans Hxl.out); replace Hx2 := Aside0.mk ((hb.cell (World.block_lt_of_cell? _ _ Hx2.out)).trans Hx2.out);  clear hb)
          | ((with_reducible refine gate_dst (N := 66) rfl ?_); refine Kd.N_lit rowK _ 23 ?hg (N' := 66) ?hd (xs := [s]) (inner := [.slice As s.length cs]) (ok := fun k_ => some k_ ≠ u7.ownBlock) (okp := fun k_ => some k_ ≠ u7.ownBlock) ?hr (Reps.one (show Kd.FK rowK _ _ s [.slice As s.length cs] from Kd.FK_slice_mk Cs.out (Kd.F_mono (Kd.F_step (Kd.C_F (Kd.heap_int _) Hs.out) (fun j_ hj_ _ => HW.out.block j_ hj_)) (fun k_ hk_ e_ => absurd (Kd.N_base HN.out k_ e_.symm) (Nat.not_le.2 hk_)))) (Reps.none _ _)) (fun _ h => h) (fun e_ => absurd (Kd.N_lt HN.out _ e_.symm) (Nat.lt_irrefl _)) (Below.refl _ _) (Nat.le_refl _) (by simp) ?_; (case hd => rfl); (case hg => rfl); (case hr => first | (go_simp; done) | (go_simp; rfl)); intro v_ w10 ho_ hb _ _; obtain ⟨At, ct, rfl⟩ := Kd.N_slice ho_; have HTT := Aside0.mk (Kd.N_F ho_); clear ho_; replace HN := Aside0.mk (Kd.N_below HN.out hb); (try (replace HY := Aside0.mk (Kd.C_below HY.out hb))); (try (replace Hxl := Aside0.mk ((hb.cell (World.block_lt_of_cell? _ _ Hxl.out)).trans Hxl.out))); (try (replace Hx2 := Aside0.mk ((hb.cell (World.block_lt_of_cell? _ _ Hx2.out)).trans Hx2.out))); replace HW := Aside0.mk (HW.out.trans (hb.mono HW.out.size)); clear hb)
          | ((with_reducible refine gate_builtin (b := .append) (xs := #[.tmp 64, .tmp 66]) rfl ?_); at_builtin; refine Kd.N_append_rows rowK (w0 := w7) w7.heap.size rfl (.tmp 64) (.tmp 66) 22 23 (.slice none 0 0) 24 rfl Try.underlying22 infoRows rfl (show 0 < 1 by decide) (by decide) u7 (layW M s t (fun x => addS x s (x.getD kk 0)) i) [s] _ _ _ (fun _ => True) (fun k_ => some k_ ≠ u7.ownBlock) rfl rfl HN.out HTT.out (fun k hk => ⟨trivial, hk⟩) (fun _ _ => trivial) HW.out HW.out.size LEN2.out ?_; intro v11 w11 hN hb hg_ hat_; have HWN := HW5.out.trans (hb.mono HW5.out.size); replace HY := Aside0.mk (Kd.C_below HY0.out HWN); replace Hxl := Aside0.mk ((HWN.cell (World.block_lt_of_cell? _ _ HXL0.out)).trans HXL0.out); replace Hx2 := Aside0.mk ((HWN.cell (World.block_lt_of_cell? _ _ HX20.out)).trans HX20.out); replace HN := Aside0.mk hN; replace HW := Aside0.mk hb; clear hN hb hg_ hat_ HWN HTT))
              clear e3 e5 hx2
              refine start_ (n := 18) (S := fun w' => w'.cell? (bd.add i) = some (.slice (some adl) y.length ck) ∧ w'.cell? (adl.add kk) = some (.int .u8 xw)) (ds := []) #[false, false, false, false, false, false, false, false, false, false, false, false, false, false, false, false, false, false] (by kernel_rfl) rfl rfl ⟨(by simpa using Hx2.out), (by simpa using Hxl.out)⟩ (fun hHeld => ?_)
              have hxl := Hxl.out
              have hx2 := Hx2.out
              replace HY := Aside0.mk (Kd.C_below HY.out (below_drew (Below.refl w11.heap.size w11)))
              replace HN := Aside0.mk (Kd.N_drew HN.out)
              replace HW := Aside0.mk (below_drew HW.out)
              clear hx2 hxl Hx2 Hxl
              generalize w11.drew = w12 at HY HN HW hHeld ⊢
              refine pure_ (i := 0) (N := some 69) (v := ?_) (a' := ?_) #[true, false, false, false, false, false, false, false, false, false, false, false, false, false, false, false, false, false] rfl rfl (by kernel_rfl) (fun _ _ _ h => h) (Or.inl ⟨by rfl, ?_⟩) ?_ ?_
              rotate_left
              · intro w'
                go_simp
                with_reducible rfl
              rotate_left
              · simp only [Act.put, List.setIfInBounds_toArray, List.set_cons_zero, List.set_cons_succ, i64_w, i32_w]
                rfl
              refine pure_ (i := 1) (N := some 70) (v := ?_) (a' := ?_) #[true, true, false, false, false, false, false, false, false, false, false, false, false, false, false, false, false, false] rfl rfl (by kernel_rfl) (fun _ _ _ h => h) (Or.inl ⟨by rfl, ?_⟩) ?_ ?_
              rotate_left
              · intro w'
                go_simp
                with_reducible rfl
              rotate_left
              · simp only [Act.put, List.setIfInBounds_toArray, List.set_cons_zero, List.set_cons_succ, i64_w, i32_w]
                rfl
              refine pure_ (i := 2) (N := some 71) (v := ?_) (a' := ?_) #[true, true, true, false, false, false, false, false, false, false, false, false, false, false, false, false, false, false] rfl rfl (by kernel_rfl) (fun _ _ _ h => h) (Or.inl ⟨by rfl, ?_⟩) ?_ ?_
              rotate_left
              · intro w'
                go_simp
                with_reducible rfl
              rotate_left
              · simp only [Act.put, List.setIfInBounds_toArray, List.set_cons_zero, List.set_cons_succ, i64_w, i32_w]
                rfl
              refine pure_ (i := 4) (N := some 73) (v := ?_) (a' := ?_) #[true, true, true, false, true, false, false, false, false, false, false, false, false, false, false, false, false, false] rfl rfl (by kernel_rfl) (fun _ _ _ h => h) (Or.inl ⟨by rfl, ?_⟩) ?_ ?_
              rotate_left
              · intro w'
                go_simp
                with_reducible rfl
              rotate_left
              · simp only [Act.put, List.setIfInBounds_toArray, List.set_cons_zero, List.set_cons_succ, i64_w, i32_w]
                rfl
              refine pure_ (i := 5) (N := some 74) (v := ?_) (a' := ?_) #[true, true, true, false, true, true, false, false, false, false, false, false, false, false, false, false, false, false] rfl rfl (by kernel_rfl) (fun _ _ _ h => h) (Or.inl ⟨by rfl, ?_⟩) ?_ ?_
              rotate_left
              · intro w'
                go_simp
                with_reducible rfl
              rotate_left
              · simp only [Act.put, List.setIfInBounds_toArray, List.set_cons_zero, List.set_cons_succ, i64_w, i32_w]
                rfl
              refine pure_ (i := 6) (N := some 75) (v := ?_) (a' := ?_) #[true, true, true, false, true, true, true, false, false, false, false, false, false, false, false, false, false, false] rfl rfl (by kernel_rfl) (fun _ _ _ h => h) (Or.inl ⟨by rfl, ?_⟩) ?_ ?_
              rotate_left
              · intro w'
                go_simp
                with_reducible rfl
              rotate_left
              · simp only [Act.put, List.setIfInBounds_toArray, List.set_cons_zero, List.set_cons_succ, i64_w, i32_w]
                rfl
              refine pure_ (i := 7) (N := some 76) (v := ?_) (a' := ?_) #[true, true, true, false, true, true, true, true, false, false, false, false, false, false, false, false, false, false] rfl rfl (by kernel_rfl) (fun _ _ _ h => h) (Or.inl ⟨by rfl, ?_⟩) ?_ ?_
              rotate_left
              · intro w'
                go_simp
                with_reducible rfl
              rotate_left
              · simp only [Act.put, List.setIfInBounds_toArray, List.set_cons_zero, List.set_cons_succ, i64_w, i32_w]
                rfl
              refine pure_ (i := 9) (N := some 78) (v := ?_) (a' := ?_) #[true, true, true, false, true, true, true, true, false, true, false, false, false, false, false, false, false, false] rfl rfl (by kernel_rfl) (fun _ _ _ h => h) (Or.inl ⟨by rfl, ?_⟩) ?_ ?_
              rotate_left
              · intro w'
                go_simp
                with_reducible rfl
              rotate_left
              · simp only [Act.put, List.setIfInBounds_toArray, List.set_cons_zero, List.set_cons_succ, i64_w, i32_w]
                rfl
              refine take_ (i := 3) (N := some 72) (v := ?_) (a' := ?_) #[true, true, true, true, true, true, true, true, false, true, false, false, false, false, false, false, false, false] rfl rfl (by kernel_rfl) (fun _ _ _ h => h) (Or.inl ⟨by rfl, ?_⟩) hHeld ?_ ?_
              rotate_left
              · rintro w' ⟨s0, s1⟩
                go_simp
                with_reducible rfl
              rotate_left
              · simp only [Act.put, List.setIfInBounds_toArray, List.set_cons_zero, List.set_cons_succ, i64_w, i32_w]
                rfl
              refine take_ (i := 8) (N := some 77) (v := ?_) (a' := ?_) #[true, true, true, true, true, true, true, true, true, true, false, false, false, false, false, false, false, false] rfl rfl (by kernel_rfl) (fun _ _ _ h => h) (Or.inl ⟨by rfl, ?_⟩) hHeld ?_ ?_
              rotate_left
              · rintro w' ⟨s0, s1⟩
                go_simp
                with_reducible rfl
              rotate_left
              · simp only [Act.put, List.setIfInBounds_toArray, List.set_cons_zero, List.set_cons_succ, i64_w, i32_w]
                rfl
              refine pure_ (i := 10) (N := some 79) (v := ?_) (a' := ?_) #[true, true, true, true, true, true, true, true, true, true, true, false, false, false, false, false, false, false] rfl rfl (by kernel_rfl) (fun _ _ _ h => h) (Or.inl ⟨by rfl, ?_⟩) ?_ ?_
              rotate_left
              · intro w'
                go_simp
                with_reducible rfl
              rotate_left
              · simp only [Act.put, List.setIfInBounds_toArray, List.set_cons_zero, List.set_cons_succ, i64_w, i32_w]
                rfl
              refine take_ (i := 11) (N := some 80) (v := ?_) (a' := ?_) #[true, true, true, true, true, true, true, true, true, true, true, true, false, false, false, false, false, false] rfl rfl (by kernel_rfl) (fun _ _ _ h => h) (Or.inl ⟨by rfl, ?_⟩) hHeld ?_ ?_
              rotate_left
              · rintro w' ⟨s0, s1⟩
                go_simp
                with_reducible rfl
              rotate_left
              · simp only [Act.put, List.setIfInBounds_toArray, List.set_cons_zero, List.set_cons_succ, i64_w, i32_w]
                rfl
              refine one_ (i := 12) (N := some 81) #[true, true, true, true, true, true, true, true, true, true, true, true, true, false, false, false, false, false] rfl rfl (by kernel_rfl) (by decide) (fun K hK => ?_)
              refine goes_ Try.func69 (by kernel_rfl) rfl #[.slice (some adl) y.length ck, .slice As s.length cs, .int .u8 xw] (by rfl) rfl rfl (by simp only [List.map_toArray, List.map_cons, List.map_nil]; rfl) ?_
              with_reducible refine (braidworkref02_AddScaled.calls 2000 (some adl) ck y As cs s xw z 0 _ HY.out Hl2_.out (Kd.C_below Hs.out HW.out) Cs.out HAS.out).mono ?_
              rintro e w13 ⟨v0, rfl, hR, hb⟩
              refine ⟨_, rfl, ?_⟩
              have HLT2 := Aside0.mk (Kd.N_lt HN.out)
              have H45 := Aside0.mk hb.size
              obtain ⟨Az, cz, rfl⟩ := Kd.R_slice hR
              have Hz := Aside0.mk (Kd.R_mono (ok' := fun k_ => some k_ ≠ v11.ownBlock) (Kd.R_bound hR) (fun k_ hk e_ => by have := HLT2.out _ e_.symm; have := hk.2.1; omega))
              have Cz := Aside0.mk (Kd.R_reads' hR).2.1
              clear hR
              replace HN := Aside0.mk (Kd.N_below HN.out hb)
              replace HW := Aside0.mk (HW.out.trans (hb.mono HW.out.size))
              refine hK.out _ _ ⟨((hb.cell (World.block_lt_of_cell? _ _ hHeld.1)).trans hHeld.1), ((hb.cell (World.block_lt_of_cell? _ _ hHeld.2)).trans hHeld.2)⟩ (fun hHeld => ?_)
              clear hK K
              refine norm_ (a' := ?_) ?_ ?_
              rotate_left
              · show Act.put _ (some 81) _ = _
                simp only [Act.put, List.setIfInBounds_toArray, List.set_cons_zero, List.set_cons_succ, i64_w, i32_w]
                rfl
              refine pure_ (i := 13) (N := some 68) (v := ?_) (a' := ?_) #[true, true, true, true, true, true, true, true, true, true, true, true, true, true, false, false, false, false] rfl rfl (by kernel_rfl) (fun _ _ _ h => h) (Or.inl ⟨by rfl, ?_⟩) ?_ ?_
              rotate_left
              · intro w'
                go_simp
                with_reducible rfl
              rotate_left
              · simp only [Act.put, List.setIfInBounds_toArray, List.set_cons_zero, List.set_cons_succ, i64_w, i32_w]
                rfl
              refine pure_ (i := 14) (N := some 82) (v := ?_) (a' := ?_) #[true, true, true, true, true, true, true, true, true, true, true, true, true, true, true, false, false, false] rfl rfl (by kernel_rfl) (fun _ _ _ h => h) (Or.inl ⟨by rfl, ?_⟩) ?_ ?_
              rotate_left
              · intro w'
                go_simp
                with_reducible rfl
              rotate_left
              · simp only [Act.put, List.setIfInBounds_toArray, List.set_cons_zero, List.set_cons_succ, i64_w, i32_w]
                rfl
              refine pure_ (i := 15) (N := some 83) (v := ?_) (a' := ?_) #[true, true, true, true, true, true, true, true, true, true, true, true, true, true, true, true, false, false] rfl rfl (by kernel_rfl) (fun _ _ _ h => h) (Or.inl ⟨by rfl, ?_⟩) ?_ ?_
              rotate_left
              · intro w'
                go_simp
                with_reducible rfl
              rotate_left
              · simp only [Act.put, List.setIfInBounds_toArray, List.set_cons_zero, List.set_cons_succ, i64_w, i32_w]
                rfl
              refine pure_ (i := 16) (N := some 10) (v := ?_) (a' := ?_) #[true, true, true, true, true, true, true, true, true, true, true, true, true, true, true, true, true, false] rfl rfl (by kernel_rfl) (fun _ _ _ h => h) (Or.inl ⟨by rfl, ?_⟩) ?_ ?_
              rotate_left
              · intro w'
                go_simp
                with_reducible rfl
              rotate_left
              · simp only [Act.put, List.setIfInBounds_toArray, List.set_cons_zero, List.set_cons_succ, i64_w, i32_w]
                rfl
              refine pure_ (i := 17) (N := some 11) (v := ?_) (a' := ?_) #[true, true, true, true, true, true, true, true, true, true, true, true, true, true, true, true, true, true] rfl rfl (by kernel_rfl) (fun _ _ _ h => h) (Or.inl ⟨by rfl, ?_⟩) ?_ ?_
              rotate_left
              · intro w'
                go_simp
                with_reducible rfl
              rotate_left
              · simp only [Act.put, List.setIfInBounds_toArray, List.set_cons_zero, List.set_cons_succ, i64_w, i32_w]
                rfl
              refine done_ (by kernel_rfl) ?_
              clear hHeld
              go_wp2_with (first
          | ((with_reducible refine gate_dst (N := 86) rfl ?_); refine Kd.N_lit rowK _ 23 ?hg (N' := 86) ?hd (xs := [z]) (inner := [.slice Az z.length cz]) (ok := fun k_ => some k_ ≠ v11.ownBlock) (okp := fun k_ => some k_ ≠ v11.ownBlock) ?hr (Reps.one (show Kd.FK rowK _ _ z [.slice Az z.length cz] from Kd.FK_slice_mk Cz.out (Kd.R_F Hz.out)) (Reps.none _ _)) (fun _ h => h) (fun e_ => by have := HLT2.out _ e_.symm; have := H45.out; omega) (Below.refl _ _) (Nat.le_refl _) (by simp) ?_; (case hd => rfl); (case hg => rfl); (case hr => first | (go_simp; done) | (go_simp; rfl)); intro v_ w14 ho_ hb _ _; obtain ⟨At, ct, rfl⟩ := Kd.N_slice ho_; have HTT := Aside0.mk (Kd.N_F ho_); clear ho_; replace HN := Aside0.mk (Kd.N_below HN.out hb); replace HW := Aside0.mk (HW.out.trans (hb.mono HW.out.size)); clear hb)
          | ((with_reducible refine gate_builtin (b := .append) (xs := #[.tmp 84, .tmp 86]) rfl ?_); at_builtin; refine Kd.N_append_rows rowK (w0 := w7) w7.heap.size rfl (.tmp 84) (.tmp 86) 22 23 (.slice none 0 0) 24 rfl Try.underlying22 infoRows rfl (show 0 < 1 by decide) (by decide) v11 (layW M s t (fun x => addS x s (x.getD kk 0)) i ++ [s]) [z] _ _ _ (fun _ => True) (fun k_ => some k_ ≠ v11.ownBlock) rfl rfl HN.out HTT.out (fun k hk => ⟨trivial, hk⟩) (fun _ _ => trivial) HW.out HW.out.size LEN3.out ?_; intro v9 w9 hN hb hg_ hat_; have HN9 := Aside0.mk hN; have HW9 := Aside0.mk hb; clear hN hb hg_ hat_))
              go_roundg k2
              case measure => omega
              case rel => exact ⟨i + 1, true, by first | rfl | rw [hnk], rfl, ⟨by rw [decide_eq_true (by have := C.out; omega)]⟩, ⟨by have := HI.out; omega⟩, ⟨by rw [HS.out]; exact HN9.out⟩, HW9⟩
            · obtain rfl : pb = true := by rw [HP.out]; exact decide_eq_true c
              have HS := Aside0.mk (hhigh c)
              have C := Aside0.mk c
              clear hlow hhigh hat hlt c
              have hx2 := Hx2.out
              go_upto_region 17 with fail
              clear hx2
              refine start_ (n := 18) (S := fun w' => w'.cell? (bd.add i) = some (.slice (some adl) y.length ck) ∧ w'.cell? (adl.add kk) = some (.int .u8 xw)) (ds := []) #[false, false, false, false, false, false, false, false, false, false, false, false, false, false, false, false, false, false] (by kernel_rfl) rfl rfl ⟨(by simpa using Hx2.out), (by simpa using Hxl.out)⟩ (fun hHeld => ?_)
              have hxl := Hxl.out
              have hx2 := Hx2.out
              replace HY := Aside0.mk (Kd.C_below HY.out (below_drew (Below.refl wr.heap.size wr)))
              replace HN := Aside0.mk (Kd.N_drew HN.out)
              replace HW := Aside0.mk (below_drew HW.out)
              clear hx2 hxl Hx2 Hxl
              generalize wr.drew = w12 at HY HN HW hHeld ⊢
              refine pure_ (i := 0) (N := some 69) (v := ?_) (a' := ?_) #[true, false, false, false, false, false, false, false, false, false, false, false, false, false, false, false, false, false] rfl rfl (by kernel_rfl) (fun _ _ _ h => h) (Or.inl ⟨by rfl, ?_⟩) ?_ ?_
              rotate_left
              · intro w'
                go_simp
                with_reducible rfl
              rotate_left
              · simp only [Act.put, List.setIfInBounds_toArray, List.set_cons_zero, List.set_cons_succ, i64_w, i32_w]
                rfl
              refine pure_ (i := 1) (N := some 70) (v := ?_) (a' := ?_) #[true, true, false, false, false, false, false, false, false, false, false, false, false, false, false, false, false, false] rfl rfl (by kernel_rfl) (fun _ _ _ h => h) (Or.inl ⟨by rfl, ?_⟩) ?_ ?_
              rotate_left
              · intro w'
                go_simp
                with_reducible rfl
              rotate_left
              · simp only [Act.put, List.setIfInBounds_toArray, List.set_cons_zero, List.set_cons_succ, i64_w, i32_w]
                rfl
              refine pure_ (i := 2) (N := some 71) (v := ?_) (a' := ?_) #[true, true, true, false, false, false, false, false, false, false, false, false, false, false, false, false, false, false] rfl rfl (by kernel_rfl) (fun _ _ _ h => h) (Or.inl ⟨by rfl, ?_⟩) ?_ ?_
              rotate_left
              · intro w'
                go_simp
                with_reducible rfl
              rotate_left
              · simp only [Act.put, List.setIfInBounds_toArray, List.set_cons_zero, List.set_cons_succ, i64_w, i32_w]
                rfl
              refine pure_ (i := 4) (N := some 73) (v := ?_) (a' := ?_) #[true, true, true, false, true, false, false, false, false, false, false, false, false, false, false, false, false, false] rfl rfl (by kernel_rfl) (fun _ _ _ h => h) (Or.inl ⟨by rfl, ?_⟩) ?_ ?_
              rotate_left
              · intro w'
                go_simp
                with_reducible rfl
              rotate_left
              · simp only [Act.put, List.setIfInBounds_toArray, List.set_cons_zero, List.set_cons_succ, i64_w, i32_w]
                rfl
              refine pure_ (i := 5) (N := some 74) (v := ?_) (a' := ?_) #[true, true, true, false, true, true, false, false, false, false, false, false, false, false, false, false, false, false] rfl rfl (by kernel_rfl) (fun _ _ _ h => h) (Or.inl ⟨by rfl, ?_⟩) ?_ ?_
              rotate_left
              · intro w'
                go_simp
                with_reducible rfl
              rotate_left
              · simp only [Act.put, List.setIfInBounds_toArray, List.set_cons_zero, List.set_cons_succ, i64_w, i32_w]
                rfl
              refine pure_ (i := 6) (N := some 75) (v := ?_) (a' := ?_) #[true, true, true, false, true, true, true, false, false, false, false, false, false, false, false, false, false, false] rfl rfl (by kernel_rfl) (fun _ _ _ h => h) (Or.inl ⟨by rfl, ?_⟩) ?_ ?_
              rotate_left
              · intro w'
                go_simp
                with_reducible rfl
              rotate_left
              · simp only [Act.put, List.setIfInBounds_toArray, List.set_cons_zero, List.set_cons_succ, i64_w, i32_w]
                rfl
              refine pure_ (i := 7) (N := some 76) (v := ?_) (a' := ?_) #[true, true, true, false, true, true, true, true, false, false, false, false, false, false, false, false, false, false] rfl rfl (by kernel_rfl) (fun _ _ _ h => h) (Or.inl ⟨by rfl, ?_⟩) ?_ ?_
              rotate_left
              · intro w'
                go_simp
                with_reducible rfl
              rotate_left
              · simp only [Act.put, List.setIfInBounds_toArray, List.set_cons_zero, List.set_cons_succ, i64_w, i32_w]
                rfl
              refine pure_ (i := 9) (N := some 78) (v := ?_) (a' := ?_) #[true, true, true, false, true, true, true, true, false, true, false, false, false, false, false, false, false, false] rfl rfl (by kernel_rfl) (fun _ _ _ h => h) (Or.inl ⟨by rfl, ?_⟩) ?_ ?_
              rotate_left
              · intro w'
                go_simp
                with_reducible rfl
              rotate_left
              · simp only [Act.put, List.setIfInBounds_toArray, List.set_cons_zero, List.set_cons_succ, i64_w, i32_w]
                rfl
              refine take_ (i := 3) (N := some 72) (v := ?_) (a' := ?_) #[true, true, true, true, true, true, true, true, false, true, false, false, false, false, false, false, false, false] rfl rfl (by kernel_rfl) (fun _ _ _ h => h) (Or.inl ⟨by rfl, ?_⟩) hHeld ?_ ?_
              rotate_left
              · rintro w' ⟨s0, s1⟩
                go_simp
                with_reducible rfl
              rotate_left
              · simp only [Act.put, List.setIfInBounds_toArray, List.set_cons_zero, List.set_cons_succ, i64_w, i32_w]
                rfl
              refine take_ (i := 8) (N := some 77) (v := ?_) (a' := ?_) #[true, true, true, true, true, true, true, true, true, true, false, false, false, false, false, false, false, false] rfl rfl (by kernel_rfl) (fun _ _ _ h => h) (Or.inl ⟨by rfl, ?_⟩) hHeld ?_ ?_
              rotate_left
              · rintro w' ⟨s0, s1⟩
                go_simp
                with_reducible rfl
              rotate_left
              · simp only [Act.put, List.setIfInBounds_toArray, List.set_cons_zero, List.set_cons_succ, i64_w, i32_w]
                rfl
              refine pure_ (i := 10) (N := some 79) (v := ?_) (a' := ?_) #[true, true, true, true, true, true, true, true, true, true, true, false, false, false, false, false, false, false] rfl rfl (by kernel_rfl) (fun _ _ _ h => h) (Or.inl ⟨by rfl, ?_⟩) ?_ ?_
              rotate_left
              · intro w'
                go_simp
                with_reducible rfl
              rotate_left
              · simp only [Act.put, List.setIfInBounds_toArray, List.set_cons_zero, List.set_cons_succ, i64_w, i32_w]
                rfl
              refine take_ (i := 11) (N := some 80) (v := ?_) (a' := ?_) #[true, true, true, true, true, true, true, true, true, true, true, true, false, false, false, false, false, false] rfl rfl (by kernel_rfl) (fun _ _ _ h => h) (Or.inl ⟨by rfl, ?_⟩) hHeld ?_ ?_
              rotate_left
              · rintro w' ⟨s0, s1⟩
                go_simp
                with_reducible rfl
              rotate_left
              · simp only [Act.put, List.setIfInBounds_toArray, List.set_cons_zero, List.set_cons_succ, i64_w, i32_w]
                rfl
              refine one_ (i := 12) (N := some 81) #[true, true, true, true, true, true, true, true, true, true, true, true, true, false, false, false, false, false] rfl rfl (by kernel_rfl) (by decide) (fun K hK => ?_)
              refine goes_ Try.func69 (by kernel_rfl) rfl #[.slice (some adl) y.length ck, .slice As s.length cs, .int .u8 xw] (by rfl) rfl rfl (by simp only [List.map_toArray, List.map_cons, List.map_nil]; rfl) ?_
              with_reducible refine (braidworkref02_AddScaled.calls 2000 (some adl) ck y As cs s xw z 0 _ HY.out Hl2_.out (Kd.C_below Hs.out HW.out) Cs.out HAS.out).mono ?_
              rintro e w13 ⟨v0, rfl, hR, hb⟩
              refine ⟨_, rfl, ?_⟩
              have HLT2 := Aside0.mk (Kd.N_lt HN.out)
              have H45 := Aside0.mk hb.size
              obtain ⟨Az, cz, rfl⟩ := Kd.R_slice hR
              have Hz := Aside0.mk (Kd.R_mono (ok' := fun k_ => some k_ ≠ u7.ownBlock) (Kd.R_bound hR) (fun k_ hk e_ => by have := HLT2.out _ e_.symm; have := hk.2.1; omega))
              have Cz := Aside0.mk (Kd.R_reads' hR).2.1
              clear hR
              replace HN := Aside0.mk (Kd.N_below HN.out hb)
              replace HW := Aside0.mk (HW.out.trans (hb.mono HW.out.size))
              refine hK.out _ _ ⟨((hb.cell (World.block_lt_of_cell? _ _ hHeld.1)).trans hHeld.1), ((hb.cell (World.block_lt_of_cell? _ _ hHeld.2)).trans hHeld.2)⟩ (fun hHeld => ?_)
              clear hK K
              refine norm_ (a' := ?_) ?_ ?_
              rotate_left
              · show Act.put _ (some 81) _ = _
                simp only [Act.put, List.setIfInBounds_toArray, List.set_cons_zero, List.set_cons_succ, i64_w, i32_w]
                rfl
              refine pure_ (i := 13) (N := some 68) (v := ?_) (a' := ?_) #[true, true, true, true, true, true, true, true, true, true, true, true, true, true, false, false, false, false] rfl rfl (by kernel_rfl) (fun _ _ _ h => h) (Or.inl ⟨by rfl, ?_⟩) ?_ ?_
              rotate_left
              · intro w'
                go_simp
                with_reducible rfl
              rotate_left
              · simp only [Act.put, List.setIfInBounds_toArray, List.set_cons_zero, List.set_cons_succ, i64_w, i32_w]
                rfl
              refine pure_ (i := 14) (N := some 82) (v := ?_) (a' := ?_) #[true, true, true, true, true, true, true, true, true, true, true, true, true, true, true, false, false, false] rfl rfl (by kernel_rfl) (fun _ _ _ h => h) (Or.inl ⟨by rfl, ?_⟩) ?_ ?_
              rotate_left
              · intro w'
                go_simp
                with_reducible rfl
              rotate_left
              · simp only [Act.put, List.setIfInBounds_toArray, List.set_cons_zero, List.set_cons_succ, i64_w, i32_w]
                rfl
              refine pure_ (i := 15) (N := some 83) (v := ?_) (a' := ?_) #[true, true, true, true, true, true, true, true, true, true, true, true, true, true, true, true, false, false] rfl rfl (by kernel_rfl) (fun _ _ _ h => h) (Or.inl ⟨by rfl, ?_⟩) ?_ ?_
              rotate_left
              · intro w'
                go_simp
                with_reducible rfl
              rotate_left
              · simp only [Act.put, List.setIfInBounds_toArray, List.set_cons_zero, List.set_cons_succ, i64_w, i32_w]
                rfl
              refine pure_ (i := 16) (N := some 10) (v := ?_) (a' := ?_) #[true, true, true, true, true, true, true, true, true, true, true, true, true, true, true, true, true, false] rfl rfl (by kernel_rfl) (fun _ _ _ h => h) (Or.inl ⟨by rfl, ?_⟩) ?_ ?_
              rotate_left
              · intro w'
                go_simp
                with_reducible rfl
              rotate_left
              · simp only [Act.put, List.setIfInBounds_toArray, List.set_cons_zero, List.set_cons_succ, i64_w, i32_w]
                rfl
              refine pure_ (i := 17) (N := some 11) (v := ?_) (a' := ?_) #[true, true, true, true, true, true, true, true, true, true, true, true, true, true, true, true, true, true] rfl rfl (by kernel_rfl) (fun _ _ _ h => h) (Or.inl ⟨by rfl, ?_⟩) ?_ ?_
              rotate_left
              · intro w'
                go_simp
                with_reducible rfl
              rotate_left
              · simp only [Act.put, List.setIfInBounds_toArray, List.set_cons_zero, List.set_cons_succ, i64_w, i32_w]
                rfl
              refine done_ (by kernel_rfl) ?_
              clear hHeld
              go_wp2_with (first
          | ((with_reducible refine gate_dst (N := 86) rfl ?_); refine Kd.N_lit rowK _ 23 ?hg (N' := 86) ?hd (xs := [z]) (inner := [.slice Az z.length cz]) (ok := fun k_ => some k_ ≠ u7.ownBlock) (okp := fun k_ => some k_ ≠ u7.ownBlock) ?hr (Reps.one (show Kd.FK rowK _ _ z [.slice Az z.length cz] from Kd.FK_slice_mk Cz.out (Kd.R_F Hz.out)) (Reps.none _ _)) (fun _ h => h) (fun e_ => by have := HLT2.out _ e_.symm; have := H45.out; omega) (Below.refl _ _) (Nat.le_refl _) (by simp) ?_; (case hd => rfl); (case hg => rfl); (case hr => first | (go_simp; done) | (go_simp; rfl)); intro v_ w14 ho_ hb _ _; obtain ⟨At, ct, rfl⟩ := Kd.N_slice ho_; have HTT := Aside0.mk (Kd.N_F ho_); clear ho_; replace HN := Aside0.mk (Kd.N_below HN.out hb); replace HW := Aside0.mk (HW.out.trans (hb.mono HW.out.size)); clear hb)
          | ((with_reducible refine gate_builtin (b := .append) (xs := #[.tmp 84, .tmp 86]) rfl ?_); at_builtin; refine Kd.N_append_rows rowK (w0 := w7) w7.heap.size rfl (.tmp 84) (.tmp 86) 22 23 (.slice none 0 0) 24 rfl Try.underlying22 infoRows rfl (show 0 < 1 by decide) (by decide) u7 (layW M s t (fun x => addS x s (x.getD kk 0)) i) [z] _ _ _ (fun _ => True) (fun k_ => some k_ ≠ u7.ownBlock) rfl rfl HN.out HTT.out (fun k hk => ⟨trivial, hk⟩) (fun _ _ => trivial) HW.out HW.out.size LEN.out ?_; intro v9 w9 hN hb hg_ hat_; have HN9 := Aside0.mk hN; have HW9 := Aside0.mk hb; clear hN hb hg_ hat_))
              go_roundg k2
              case measure => omega
              case rel => exact ⟨i + 1, true, by first | rfl | rw [hnk], rfl, ⟨by rw [decide_eq_true (by have := C.out; omega)]⟩, ⟨by have := HI.out; omega⟩, ⟨by rw [HS.out]; exact HN9.out⟩, HW9⟩
          · have q1 : decide ((i : Int) < (M.length : Int)) = false := decide_eq_false (by omega)
            have q2 : decide (i < M.length) = false := decide_eq_false hi
            have q3 := eq_false hi
            have ei : i = M.length := by have := HI.out; omega
            have hend := layW_end M s t (fun x => addS x s (x.getD kk 0)) HT.out
            rw [← ei] at hend
            by_cases c : t < i
            · obtain rfl : pb = true := by rw [HP.out]; exact decide_eq_true c
              rw [if_pos c] at hend
              have HE := Aside0.mk (hI.out.trans hend)
              have HN' := HN.out
              rw [← HE.out] at HN'
              obtain ⟨Az, cz, rfl⟩ := Kd.N_slice HN'
              have HR := Aside0.mk (Kd.N_reads' HN')
              clear hi HI ei hend c HN'
              go_wp2
              go_ret
              exact ⟨Az, cz, rfl, HR.out.2.1, HR.out.2.2, HW5.out.trans (HW.out.mono HW5.out.size)⟩
            · obtain rfl : pb = false := by rw [HP.out]; exact decide_eq_false c
              rw [if_neg c] at hend
              have HE := Aside0.mk (hI.out.trans hend)
              have LEN2 := Aside0.mk (lenO (o := layW M s t (fun x => addS x s (x.getD kk 0)) i) (m := M.length) s (layW_len _ _ _ _ _) (by have := K6.out; omega))
              clear hi HI ei hend c
              go_wp2_with (first
          | ((with_reducible refine gate_dst (N := 92) rfl ?_); refine Kd.N_lit rowK _ 23 ?hg (N' := 92) ?hd (xs := [s]) (inner := [.slice As s.length cs]) (ok := fun k_ => some k_ ≠ u7.ownBlock) (okp := fun k_ => some k_ ≠ u7.ownBlock) ?hr (Reps.one (show Kd.FK rowK _ _ s [.slice As s.length cs] from Kd.FK_slice_mk Cs.out (Kd.F_mono (Kd.F_step (Kd.C_F (Kd.heap_int _) Hs.out) (fun j_ hj_ _ => HW.out.block j_ hj_)) (fun k_ hk_ e_ => absurd (Kd.N_base HN.out k_ e_.symm) (Nat.not_le.2 hk_)))) (Reps.none _ _)) (fun _ h => h) (fun e_ => absurd (Kd.N_lt HN.out _ e_.symm) (Nat.lt_irrefl _)) (Below.refl _ _) (Nat.le_refl _) (by simp) ?_; (case hd => rfl); (case hg => rfl); (case hr => first | (go_simp; done) | (go_simp; rfl)); intro v_ w10 ho_ hb _ _; obtain ⟨At, ct, rfl⟩ := Kd.N_slice ho_; have HTT := Aside0.mk (Kd.N_F ho_); clear ho_; replace HN := Aside0.mk (Kd.N_below HN.out hb); (try (replace HY := Aside0.mk (Kd.C_below HY.out hb))); (try (replace Hxl := Aside0.mk ((hb.cell (World.block_lt_of_cell? _ _ Hxl.out)).trans Hxl.out))); (try (replace Hx2 := Aside0.mk ((hb.cell (World.block_lt_of_cell? _ _ Hx2.out)).trans Hx2.out))); replace HW := Aside0.mk (HW.out.trans (hb.mono HW.out.size)); clear hb)
          | ((with_reducible refine gate_builtin (b := .append) (xs := #[.tmp 90, .tmp 92]) rfl ?_); at_builtin; refine Kd.N_append_rows rowK (w0 := w7) w7.heap.size rfl (.tmp 90) (.tmp 92) 22 23 (.slice none 0 0) 24 rfl Try.underlying22 infoRows rfl (show 0 < 1 by decide) (by decide) u7 (layW M s t (fun x => addS x s (x.getD kk 0)) i) [s] _ _ _ (fun _ => True) (fun k_ => some k_ ≠ u7.ownBlock) rfl rfl HN.out HTT.out (fun k hk => ⟨trivial, hk⟩) (fun _ _ => trivial) HW.out HW.out.size LEN2.out ?_; intro v9 w9 hN hb hg_ hat_; rw [← HE.out] at hN; obtain ⟨Az, cz, rfl⟩ := Kd.N_slice hN; have HR := Aside0.mk (Kd.N_reads' hN); have HW9 := Aside0.mk hb; clear hN hb hg_ hat_))
              go_ret
              exact ⟨Az, cz, rfl, HR.out.2.1, HR.out.2.2, HW5.out.trans (HW9.out.mono HW5.out.size)⟩
end Go.Proofs.Ythgpmneplpdeiaa.Plain
end
