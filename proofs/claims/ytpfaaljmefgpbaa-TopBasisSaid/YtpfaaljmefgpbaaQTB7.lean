/- QTB, part 7: HVec. -/
import Derived.Test.YtpfaaljmefgpbaaQTB6

section
set_option linter.unusedVariables false
set_option linter.unusedSimpArgs false
namespace Go.Proofs.Ytpfaaljmefgpbaa.Hand
open Go.RowKit Go.Proofs.YtpfaaljmefgpbaaW.PrintWords Go.Proofs.YtpfaaljmefgpbaaW.PrintLast Go.Proofs.YtpfaaljmefgpbaaW.PrintMore
attribute [local go_sem] max2_int min2_int max_two min_two max_three min_three max_four min_four
def vector_each.l0 (ff : Int → Int → Option Int) : Nat → List Int → List Int → List Int → Int → Int → Option (List Int × Int)
  | 0, _, _, _, _, _ => none
  | k + 1, x0, x1, x8, x19, x20 => if x20 < x19 then (if 0 ≤ x20 then (if x20 < (x0.length : Int) then (if x20 < (x1.length : Int) then ((ff (rd x0 x20) (rd x1 x20)).bind fun t106 => (if x20 < (x8.length : Int) then (vector_each.l0 ff k x0 x1 (x8.set (x20 : Int).toNat t106) x19 (wrap64 (x20 + 1))) else (none))) else (none)) else (none)) else (none)) else (some (x8, 0))
def vector_each.f (ff : Int → Int → Option Int) (k : Nat) (l0 : List Int) (l1 : List Int)  : Option (List Int × Int) := if (l0.length : Int) = (l1.length : Int) then (if 0 ≤ (l0.length : Int) then (if ((l0.length : Int) : Int).toNat ≤ 281474976710656 then ((some (List.replicate ((l0.length : Int) : Int).toNat 0 : List Int)).bind fun y101 => (vector_each.l0 ff k l0 l1 y101 (y101.length : Int) 0)) else (none)) else (none)) else (some (([] : List Int), 21))
def vector_each.T7 : Bool × List (List Nat × List Nat) := (true, [([], []), ([], []), ([], []), ([], []), ([], []), ([3, 4], [3, 4]), ([5], [5]), ([], []), ([], []), ([7, 8], [7, 8]), ([9], [9]), ([2, 6, 10], [2, 6, 10]), ([0, 1, 0, 1, 2, 3, 4, 5, 6, 7, 8, 9, 10, 11], [0, 1]), ([12, 11, 11, 0, 1, 2, 3, 4, 5, 6, 7, 8, 9, 10, 11], [11, 12])])
def vector_each.B7 : List Nat := [0, 0, 0, 0, 0, 24, 56, 0, 0, 384, 896, 2044, 4095, 8191]
theorem vector_each.tab7 : rtab .any (opsOf Try.f42 7) = vector_each.T7 := by kernel_rfl
theorem vector_each.bits7 : waitsOk vector_each.T7.2 vector_each.B7 = true := by kernel_rfl
set_option maxHeartbeats 8000000 in
set_option maxRecDepth 100000 in
theorem vector_each.calls (ff : Int → Int → Option Int) (k : Nat) (A0 : Option Addr) (c0 : Nat) (l0 : List Int) (A1 : Option Addr) (c1 : Nat) (l1 : List Int) (g : FuncId) (lb : Array Value) (hg : FnOk Try.prog g) (r1 : List Int) (r2 : Int) (w : World) (hF : ∀ (x y r : Int) (W : World), ff x y = some r → Below w.heap.size w W → Calls Try.prog g (#[.int .u8 x, .int .u8 y] ++ lb) W fun e w2 => e = .returned (.int .u8 r) ∧ Below W.heap.size W w2) (hr0 : Kd.C (Kd.int .u8) w A0 l0.length l0) (hc0 : l0.length ≤ c0) (hr1 : Kd.C (Kd.int .u8) w A1 l1.length l1) (hc1 : l1.length ≤ c1) (h : vector_each.f ff k l0 l1 = some (r1, r2)) :
    Calls Try.prog 42 #[.slice A0 l0.length c0, .slice A1 l1.length c1, .func (.func g) #[] lb] w fun e w' => ∃ v0_ : Value, e = .returned (.tuple #[v0_, .int .i64 r2]) ∧ Kd.R (Kd.int .u8) 5 w' w.heap.size (fun _ => True) v0_ r1 ∧ Below w.heap.size w w' := by
  have HR0 := Aside0.mk hr0
  have HC0 := Aside0.mk hc0
  clear hr0 hc0
  have HR1 := Aside0.mk hr1
  have HC1 := Aside0.mk hc1
  clear hr1 hc1
  have HF := Aside0.mk hF
  clear hF
  have HG := Aside0.mk hg
  clear hg
  have HB := Aside0.mk (Below.refl w.heap.size w)
  have H : (if (l0.length : Int) = (l1.length : Int) then (if 0 ≤ (l0.length : Int) then (if ((l0.length : Int) : Int).toNat ≤ 281474976710656 then ((some (List.replicate ((l0.length : Int) : Int).toNat 0 : List Int)).bind fun y101 => (vector_each.l0 ff k l0 l1 y101 (y101.length : Int) 0)) else (none)) else (none)) else (some (([] : List Int), 21))) = some (r1, r2) := h
  clear h
  by_cases c4 : (l0.length : Int) = (l1.length : Int)
  · rw [if_pos c4] at H
    have c4b0 : ((l0.length : Int) == (l1.length : Int)) = true := beq_iff_eq.mpr c4
    have c4b1 : ((l0.length : Int) != (l1.length : Int)) = false := bne_eq_false_iff_eq.mpr c4
    have c4b2 : (l0.length == l1.length) = true := by first | simpa using c4 | (simp at c4 ⊢; omega)
    clear c4
    by_cases c5 : 0 ≤ (l0.length : Int)
    · rw [if_pos c5] at H
      have c5b0 := eq_true c5
      have c5b1 : decide (0 ≤ (l0.length : Int)) = true := decide_eq_true c5
      clear c5
      by_cases c6 : ((l0.length : Int) : Int).toNat ≤ 281474976710656
      · rw [if_pos c6] at H
        have c6b0 := eq_true c6
        have c6b1 : decide (((l0.length : Int) : Int).toNat ≤ 281474976710656) = true := decide_eq_true c6
        clear c6
        obtain ⟨y101, hy101⟩ : ∃ y_ : List Int, y_ = (List.replicate ((l0.length : Int) : Int).toNat 0) := ⟨_, rfl⟩
        replace H : (vector_each.l0 ff k l0 l1 y101 (y101.length : Int) 0) = some (r1, r2) := by first | (rw [hy101]; with_reducible exact H) | (have H2_ := (Option.bind_some _ _).symm.trans H; rw [hy101]; with_reducible exact H2_) | (have H2_ := (Option.bind_some _ _).symm.trans H; with_reducible exact H2_) | with_reducible exact H | (rw [hy101]; exact H) | exact H
        have Ny101 := Aside0.mk hy101
        clear hy101
        have H' := Aside0.mk H
        clear H
        go_enter Try.func42, Try.ntmps42
        go_wp2_with (first | ((with_reducible refine gate_dst (N := 17) rfl ?_); refine Kd.R_make (Kd.int .u8) _ 5 rfl (N := 17) rfl 22 _ _ rfl (l0.length : Int) rfl rfl Try.underlying22 (.int .u8 0) 1 infoT5 rfl (by decide) (by omega) 0 (ok := fun _ => True) (okp := fun _ => True) rfl (fun _ hk => hk) trivial (of_decide_eq_true (by first | (with_reducible assumption) | assumption)) (Nat.le_trans (Nat.mul_le_mul_right _ (of_decide_eq_true (by first | (with_reducible assumption) | assumption) : (l0.length : Int).toNat ≤ 281474976710656)) (by omega)) (Below.refl _ _) (Nat.le_refl _) ?_; intro v102 w7 ho8 hb hg_ hnew_; clear hg_ hnew_; (first | rw [← Ny101.out] at ho8 | (simp only [Int.reduceToNat] at ho8; rw [← Ny101.out] at ho8)); have n0_ := Aside0.mk (Kd.R_lower ho8 (below_size (by repeat (first | (with_reducible first | exact HB.out | apply below_alloc | apply pw_below_drewN | apply below_drew1) | exact HB.out)))); have n1_ := Aside0.mk (below_step (by repeat (first | (with_reducible first | exact HB.out | apply below_alloc | apply pw_below_drewN | apply below_drew1) | exact HB.out)) hb); clear HB; have HO103 := n0_; have HB := n1_; clear n0_ n1_; clear hb ho8; obtain ⟨Ao9, co9, eo9⟩ := Kd.R_slice HO103.out; subst eo9))
        go_loopg [20] k (fun kq v20 w' => ∃ (x8_1 : List Int) (x20_1 : Int), v20 = .int .i64 x20_1 ∧ Aside0 (vector_each.l0 ff kq l0 l1 x8_1 (y101.length : Int) x20_1 = some (r1, r2)) ∧ Aside0 (kq ≤ k) ∧ Aside0 (Kd.R (Kd.int .u8) 5 w' w.heap.size (fun _ => True) (.slice Ao9 y101.length co9) x8_1) ∧ Aside0 (Below w.heap.size w w'))
        case atStart => exact ⟨(y101), (0), (by first | rfl | (simp; done) | (simp [*]; done)), H', ⟨Nat.le_refl _⟩, ⟨by (with_reducible repeat (first | apply Kd.R_alloc | apply Kd.R_drewN | apply Kd.R_drew)); exact HO103.out⟩, ⟨by repeat (first | (with_reducible first | exact HB.out | apply below_alloc | apply pw_below_drewN | apply below_drew1) | exact HB.out)⟩⟩
        case round =>
          clear H'
          try clear c1
          try clear c2
          try clear p2
          try clear c4
          try clear c4b0
          try clear c4b1
          try clear c4b2
          try clear c5
          try clear c5b0
          try clear c5b1
          try clear c6
          try clear c6b0
          try clear c6b1
          obtain ⟨x8_1, x20_1, rfl, HA, HK1, HO_8, HB⟩ := hrel
          have hl8_1 := (Kd.R_reads' HO_8.out).1
          rw [hl8_1] at HO_8
          (try simp only [hl8_1])
          cases gk with
          | zero => exact absurd HA.out (by simp [vector_each.l0])
          | succ k1 =>
            have H := HA.out
            clear HA
            simp only [vector_each.l0] at H
            by_cases c10 : x20_1 < (y101.length : Int)
            · rw [if_pos c10] at H
              have c10b0 : decide (x20_1 < (y101.length : Int)) = true := decide_eq_true c10
              clear c10
              by_cases c11 : 0 ≤ x20_1
              · rw [if_pos c11] at H
                have c11b0 : decide (0 ≤ x20_1) = true := decide_eq_true c11
                clear c11
                by_cases c12 : x20_1 < (l0.length : Int)
                · rw [if_pos c12] at H
                  have c12b0 : decide (x20_1 < (l0.length : Int)) = true := decide_eq_true c12
                  clear c12
                  by_cases c13 : x20_1 < (l1.length : Int)
                  · rw [if_pos c13] at H
                    have c13b0 : decide (x20_1 < (l1.length : Int)) = true := decide_eq_true c13
                    clear c13
                    replace H := Option.bind_eq_some_iff.mp H
                    obtain ⟨t106, A140, H⟩ := H
                    replace H : (if x20_1 < (x8_1.length : Int) then (vector_each.l0 ff k1 l0 l1 (x8_1.set (x20_1 : Int).toNat t106) (y101.length : Int) (wrap64 (x20_1 + 1))) else (none)) = some (r1, r2) := H
                    have A14 := Aside0.mk A140
                    clear A140
                    by_cases c15 : x20_1 < (x8_1.length : Int)
                    · rw [if_pos c15] at H
                      have c15b0 : decide (x20_1 < (x8_1.length : Int)) = true := decide_eq_true c15
                      clear c15
                      obtain ⟨y107, hy107⟩ : ∃ y_ : List Int, y_ = (x8_1.set (x20_1 : Int).toNat t106) := ⟨_, rfl⟩
                      replace H : (vector_each.l0 ff k1 l0 l1 y107 (y101.length : Int) (wrap64 (x20_1 + 1))) = some (r1, r2) := by first | (rw [hy107]; with_reducible exact H) | (have H2_ := (Option.bind_some _ _).symm.trans H; rw [hy107]; with_reducible exact H2_) | (have H2_ := (Option.bind_some _ _).symm.trans H; with_reducible exact H2_) | with_reducible exact H | (rw [hy107]; exact H) | exact H
                      have Ny107 := Aside0.mk hy107
                      clear hy107
                      have H' := Aside0.mk H
                      clear H
                      try go_wp2
                      have n0_ := Aside0.mk (Kd.R_drew HO_8.out)
                      have n1_ := Aside0.mk (below_drew1 HB.out)
                      clear HO_8
                      clear HB
                      have HO_8 := n0_
                      have HB := n1_
                      clear n0_ n1_
                      have p104 : 0 ≤ (x20_1 : Int) := of_decide_eq_true (by first | (with_reducible assumption) | assumption)
                      have q104 : x20_1 < (l0.length : Int) := of_decide_eq_true (by first | (with_reducible assumption) | assumption)
                      obtain ⟨ad104, e104, hx104_0⟩ := Kd.at_int HR0.out x20_1 p104 q104
                      have hw104_0 := hx104_0
                      cases e104
                      replace hx104_0 := (HB.out.cell (World.block_lt_of_cell? w _ hx104_0)).trans hx104_0
                      replace p104 := eq_true p104
                      replace q104 := eq_true q104
                      have p105 : 0 ≤ (x20_1 : Int) := of_decide_eq_true (by first | (with_reducible assumption) | assumption)
                      have q105 : x20_1 < (l1.length : Int) := of_decide_eq_true (by first | (with_reducible assumption) | assumption)
                      obtain ⟨ad105, e105, hx105_0⟩ := Kd.at_int HR1.out x20_1 p105 q105
                      have hw105_0 := hx105_0
                      cases e105
                      replace hx105_0 := (HB.out.cell (World.block_lt_of_cell? w _ hx105_0)).trans hx105_0
                      replace p105 := eq_true p105
                      replace q105 := eq_true q105
                      refine start_ (n := 14) (S := fun w' => w'.cell? (ad104.add (x20_1).toNat) = some (.int .u8 (rd l0 x20_1)) ∧ w'.cell? (ad105.add (x20_1).toNat) = some (.int .u8 (rd l1 x20_1))) (ds := [13]) #[false, false, false, false, false, false, false, false, false, false, false, false, false, false] (by kernel_rfl) rfl rfl ⟨((HB.out.cell (World.block_lt_of_cell? w _ hw104_0)).trans hw104_0), ((HB.out.cell (World.block_lt_of_cell? w _ hw105_0)).trans hw105_0)⟩ (fun hHeld => ?_); refine with_tabW vector_each.tab7 vector_each.bits7 (fun HT_ HW_ => ?_)
                      generalize wr.drew = w17 at HO_8 HB hx104_0 hx105_0 hHeld ⊢
                      refine pure_ (i := 0) (N := some 23) (v := ?_) (a' := ?_) #[true, false, false, false, false, false, false, false, false, false, false, false, false, false] rfl rfl (any_of HT_.out (by kernel_rfl)) (fun _ _ _ h => h) (Or.inl ⟨by rfl, ?_⟩) ?_ ?_
                      rotate_left
                      · intro w'
                        go_simp
                        with_reducible rfl
                      rotate_left
                      · simp only [Act.put, List.setIfInBounds_toArray, List.set_cons_zero, List.set_cons_succ, i64_w, i32_w]
                        rfl
                      refine pure_ (i := 1) (N := some 24) (v := ?_) (a' := ?_) #[true, true, false, false, false, false, false, false, false, false, false, false, false, false] rfl rfl (any_of HT_.out (by kernel_rfl)) (fun _ _ _ h => h) (Or.inl ⟨by rfl, ?_⟩) ?_ ?_
                      rotate_left
                      · intro w'
                        go_simp
                        with_reducible rfl
                      rotate_left
                      · simp only [Act.put, List.setIfInBounds_toArray, List.set_cons_zero, List.set_cons_succ, i64_w, i32_w]
                        rfl
                      refine pure_ (i := 2) (N := some 25) (v := ?_) (a' := ?_) #[true, true, true, false, false, false, false, false, false, false, false, false, false, false] rfl rfl (any_of HT_.out (by kernel_rfl)) (fun _ _ _ h => h) (Or.inl ⟨by rfl, ?_⟩) ?_ ?_
                      rotate_left
                      · intro w'
                        go_simp
                        with_reducible rfl
                      rotate_left
                      · simp only [Act.put, List.setIfInBounds_toArray, List.set_cons_zero, List.set_cons_succ, i64_w, i32_w]
                        rfl
                      refine pure_ (i := 3) (N := some 26) (v := ?_) (a' := ?_) #[true, true, true, true, false, false, false, false, false, false, false, false, false, false] rfl rfl (any_of HT_.out (by kernel_rfl)) (fun _ _ _ h => h) (Or.inl ⟨by rfl, ?_⟩) ?_ ?_
                      rotate_left
                      · intro w'
                        go_simp
                        with_reducible rfl
                      rotate_left
                      · simp only [Act.put, List.setIfInBounds_toArray, List.set_cons_zero, List.set_cons_succ, i64_w, i32_w]
                        rfl
                      refine pure_ (i := 4) (N := some 27) (v := ?_) (a' := ?_) #[true, true, true, true, true, false, false, false, false, false, false, false, false, false] rfl rfl (any_of HT_.out (by kernel_rfl)) (fun _ _ _ h => h) (Or.inl ⟨by rfl, ?_⟩) ?_ ?_
                      rotate_left
                      · intro w'
                        go_simp
                        with_reducible rfl
                      rotate_left
                      · simp only [Act.put, List.setIfInBounds_toArray, List.set_cons_zero, List.set_cons_succ, i64_w, i32_w]
                        rfl
                      refine pure_ (i := 5) (N := some 28) (v := ?_) (a' := ?_) #[true, true, true, true, true, true, false, false, false, false, false, false, false, false] rfl rfl (any_of HT_.out (by kernel_rfl)) (fun _ _ _ h => h) (Or.inl ⟨by rfl, ?_⟩) ?_ ?_
                      rotate_left
                      · intro w'
                        go_simp
                        with_reducible rfl
                      rotate_left
                      · simp only [Act.put, List.setIfInBounds_toArray, List.set_cons_zero, List.set_cons_succ, i64_w, i32_w]
                        rfl
                      refine pure_ (i := 7) (N := some 30) (v := ?_) (a' := ?_) #[true, true, true, true, true, true, false, true, false, false, false, false, false, false] rfl rfl (any_of HT_.out (by kernel_rfl)) (fun _ _ _ h => h) (Or.inl ⟨by rfl, ?_⟩) ?_ ?_
                      rotate_left
                      · intro w'
                        go_simp
                        with_reducible rfl
                      rotate_left
                      · simp only [Act.put, List.setIfInBounds_toArray, List.set_cons_zero, List.set_cons_succ, i64_w, i32_w]
                        rfl
                      refine pure_ (i := 8) (N := some 31) (v := ?_) (a' := ?_) #[true, true, true, true, true, true, false, true, true, false, false, false, false, false] rfl rfl (any_of HT_.out (by kernel_rfl)) (fun _ _ _ h => h) (Or.inl ⟨by rfl, ?_⟩) ?_ ?_
                      rotate_left
                      · intro w'
                        go_simp
                        with_reducible rfl
                      rotate_left
                      · simp only [Act.put, List.setIfInBounds_toArray, List.set_cons_zero, List.set_cons_succ, i64_w, i32_w]
                        rfl
                      refine pure_ (i := 9) (N := some 32) (v := ?_) (a' := ?_) #[true, true, true, true, true, true, false, true, true, true, false, false, false, false] rfl rfl (any_of HT_.out (by kernel_rfl)) (fun _ _ _ h => h) (Or.inl ⟨by rfl, ?_⟩) ?_ ?_
                      rotate_left
                      · intro w'
                        go_simp
                        with_reducible rfl
                      rotate_left
                      · simp only [Act.put, List.setIfInBounds_toArray, List.set_cons_zero, List.set_cons_succ, i64_w, i32_w]
                        rfl
                      refine take_ (i := 6) (N := some 29) (v := ?_) (a' := ?_) #[true, true, true, true, true, true, true, true, true, true, false, false, false, false] rfl rfl (take_ofW HT_.out HW_.out (by kernel_rfl)) (fun _ _ _ h => h) (Or.inl ⟨by rfl, ?_⟩) hHeld ?_ ?_
                      rotate_left
                      · rintro w' ⟨s0, s1⟩
                        go_simp
                        with_reducible rfl
                      rotate_left
                      · simp only [Act.put, List.setIfInBounds_toArray, List.set_cons_zero, List.set_cons_succ, i64_w, i32_w]
                        rfl
                      refine take_ (i := 10) (N := some 33) (v := ?_) (a' := ?_) #[true, true, true, true, true, true, true, true, true, true, true, false, false, false] rfl rfl (take_ofW HT_.out HW_.out (by kernel_rfl)) (fun _ _ _ h => h) (Or.inl ⟨by rfl, ?_⟩) hHeld ?_ ?_
                      rotate_left
                      · rintro w' ⟨s0, s1⟩
                        go_simp
                        with_reducible rfl
                      rotate_left
                      · simp only [Act.put, List.setIfInBounds_toArray, List.set_cons_zero, List.set_cons_succ, i64_w, i32_w]
                        rfl
                      refine one_ (i := 11) (N := some 34) #[true, true, true, true, true, true, true, true, true, true, true, true, false, false] rfl rfl (one_of HT_.out (by kernel_rfl)) (by decide) (fun K hK => ?_)
                      refine goesV_ HG.out (.tmp 25) lb (by rfl) #[.int .u8 (rd l0 x20_1), .int .u8 (rd l1 x20_1)] (by rfl) rfl rfl (by (try simp only [List.map_toArray, List.map_cons, List.map_nil]); first | done | rfl | (simp only [List.length_drop, List.length_take]; rfl)) ?_
                      with_reducible refine (HF.out (rd l0 x20_1) (rd l1 x20_1) t106 _ A14.out (by repeat (first | (with_reducible first | exact HB.out | apply below_alloc | apply pw_below_drewN | apply below_drew1) | exact HB.out))).mono ?_
                      rintro e w18 ⟨rfl, hb⟩
                      refine ⟨_, rfl, ?_⟩
                      have n0_ := Aside0.mk (Kd.R_below (by (with_reducible repeat (first | apply Kd.R_alloc | apply Kd.R_drewN | apply Kd.R_drew)); exact HO_8.out) hb)
                      have n1_ := Aside0.mk (below_step (by repeat (first | (with_reducible first | exact HB.out | apply below_alloc | apply pw_below_drewN | apply below_drew1) | exact HB.out)) hb)
                      clear HO_8
                      clear HB
                      have HO_8 := n0_
                      have HB := n1_
                      clear n0_ n1_
                      (try clear hb)
                      (try clear hb2)
                      (try clear hk)
                      (try clear hi)
                      have p16 : 0 ≤ (x20_1 : Int) := of_decide_eq_true (by first | (with_reducible assumption) | assumption)
                      have q16 : (x20_1 : Int) < ((x8_1.length : Int) : Int) := of_decide_eq_true (by first | (with_reducible assumption) | assumption)
                      obtain ⟨go16, co16, eo16, gb16, gl16, cl16, HG16⟩ := Kd.R_form HO_8.out (by omega)
                      (first | cases eo16 | (injection eo16 with ea_ en_ ec_; (first | subst ea_ | (injection ea_ with ea_; subst ea_)); subst ec_; clear en_))
                      have GB16 := Aside0.mk gb16
                      have GG16 := Aside0.mk HG16
                      clear gb16 gl16 HG16
                      obtain ⟨hx16_0, hf16_0⟩ := Kd.R_celln 0 HO_8.out (x20_1 : Int) p16 q16
                      replace p16 := eq_true p16
                      replace q16 := eq_true q16
                      have HP19 := Kd.R_putn HO_8.out (x20_1 : Int) t106
                      rw [← Ny107.out] at HP19
                      have HQ19 := Aside0.mk HP19
                      clear HP19
                      refine hK.out _ _ ⟨((HB.out.cell (World.block_lt_of_cell? w _ hw104_0)).trans hw104_0), ((HB.out.cell (World.block_lt_of_cell? w _ hw105_0)).trans hw105_0)⟩ (fun hHeld => ?_)
                      clear hK K
                      refine norm_ (a' := ?_) ?_ ?_
                      rotate_left
                      · show Act.put _ (some 34) _ = _
                        simp only [Act.put, List.setIfInBounds_toArray, List.set_cons_zero, List.set_cons_succ, i64_w, i32_w]
                        rfl
                      refine pure_ (i := 12) (N := some 35) (v := ?_) (a' := ?_) #[true, true, true, true, true, true, true, true, true, true, true, true, true, false] rfl rfl (any_of HT_.out (by kernel_rfl)) (fun _ _ _ h => h) (Or.inl ⟨by rfl, ?_⟩) ?_ ?_
                      rotate_left
                      · intro w'
                        go_simp
                        with_reducible rfl
                      rotate_left
                      · simp only [Act.put, List.setIfInBounds_toArray, List.set_cons_zero, List.set_cons_succ, i64_w, i32_w]
                        rfl
                      refine last_ (i := 13) (N := none) #[true, true, true, true, true, true, true, true, true, true, true, true, true, true] rfl rfl (one_of HT_.out (by kernel_rfl)) (by decide) (fun K hK => ?_)
                      refine skip_ (w1 := ?_) (by rfl) rfl ?_ ?_
                      rotate_left
                      · go_simp
                        rfl
                      refine hK.out _ _ ?_
                      clear hK K
                      refine done_ (done_of HT_.out (by kernel_rfl)) ?_
                      try go_wp2
                      (try simp only [← hl8_1])
                      go_roundg k1
                      case measure => have := HK1.out; omega
                      case rel => exact ⟨(y107), (wrap64 (x20_1 + 1)), (by first | rfl | (simp; done) | (simp [*]; done)), H', ⟨by have := HK1.out; omega⟩, ⟨by (try simp only [hl8_1]); (with_reducible repeat (first | apply Kd.R_alloc | apply Kd.R_drewN | apply Kd.R_drew)); exact HQ19.out⟩, ⟨by repeat (first | (with_reducible first | exact HB.out | apply below_alloc | apply pw_below_drewN | apply below_drew1 | refine below_set ?_ GB16.out) | exact HB.out)⟩⟩
                    · rw [if_neg c15] at H
                      exact absurd H (by simp)
                  · rw [if_neg c13] at H
                    exact absurd H (by simp)
                · rw [if_neg c12] at H
                  exact absurd H (by simp)
              · rw [if_neg c11] at H
                exact absurd H (by simp)
            · rw [if_neg c10] at H
              have c10b0 : decide (x20_1 < (y101.length : Int)) = false := decide_eq_false c10
              have c10b1 : decide (x20_1 < (x8_1.length : Int)) = false := by first | (rw [← hl8_1]; exact c10b0) | (rw [hl8_1]; exact c10b0)
              clear c10
              simp only [Option.some.injEq, Prod.mk.injEq] at H
              obtain ⟨rfl, rfl⟩ := H
              go_wp2
              go_ret2
              exact ⟨_, by first | rfl | (simp [errW_none, errW_some] <;> rfl) | (simp [*, errW_none, errW_some] <;> rfl), by (with_reducible repeat (first | apply Kd.R_alloc | apply Kd.R_drewN | apply Kd.R_drew)); exact HO_8.out, by repeat (first | (with_reducible first | exact HB.out | apply below_alloc | apply pw_below_drewN | apply below_drew1) | exact HB.out)⟩
      · rw [if_neg c6] at H
        exact absurd H (by simp)
    · rw [if_neg c5] at H
      exact absurd H (by simp)
  · rw [if_neg c4] at H
    have c4b0 : ((l0.length : Int) == (l1.length : Int)) = false := beq_eq_false_iff_ne.mpr c4
    have c4b1 : ((l0.length : Int) != (l1.length : Int)) = true := bne_iff_ne.mpr c4
    have c4b2 : (l0.length == l1.length) = false := by first | simpa using c4 | (simp at c4 ⊢; omega)
    simp only [Option.some.injEq, Prod.mk.injEq] at H
    obtain ⟨rfl, rfl⟩ := H
    go_enter Try.func42, Try.ntmps42
    go_wp2
    go_ret2
    exact ⟨_, by first | rfl | (simp [errW_none, errW_some] <;> rfl) | (simp [*, errW_none, errW_some] <;> rfl), by first | exact Kd.R_nil _ _ _ _ _ | exact Kd.N_nil _ _ _ _ _ | exact Kd.V_nil _ _ _ _ _ | exact Kd.Q_nil _ _ _ _ _ | exact Kd.S_nil _ _ _ _ _, by repeat (first | (with_reducible first | exact HB.out | apply below_alloc | apply pw_below_drewN | apply below_drew1) | exact HB.out)⟩
end Go.Proofs.Ytpfaaljmefgpbaa.Hand
set_option linter.unusedVariables false
set_option linter.unusedSimpArgs false
namespace Go.Proofs.Ytpfaaljmefgpbaa.Hand
open Go.RowKit Go.Proofs.YtpfaaljmefgpbaaW.PrintWords Go.Proofs.YtpfaaljmefgpbaaW.PrintLast Go.Proofs.YtpfaaljmefgpbaaW.PrintMore
def xr (a b : Int) : Int := Go.bits .xor .u8 a b
def vN : Nat := 281474976710656
def areB (l : List Int) : Prop := ∀ x ∈ l, isB x
instance (l : List Int) : Decidable (areB l) := inferInstanceAs (Decidable (∀ x ∈ l, isB x))
theorem rd_mem {l : List Int} {i : Int} (h0 : 0 ≤ i) (h1 : i < (l.length : Int)) : rd l i ∈ l := by
  unfold rd
  rw [List.getD_eq_getElem?_getD, List.getElem?_eq_getElem (show i.toNat < l.length by omega)]
  exact List.getElem_mem _
theorem rd_nat (l : List Int) (i : Nat) : rd l (i : Int) = l.getD i 0 := by unfold rd; rw [Int.toNat_natCast]
def filled (F : Int → Int → Int) (l0 l1 x : List Int) (i : Nat) : List Int := (List.range x.length).map fun j => if j < i then x.getD j 0 else F (l0.getD j 0) (l1.getD j 0)
theorem filled_end (F : Int → Int → Int) (l0 l1 x : List Int) : filled F l0 l1 x x.length = x := by
  refine List.ext_getElem (by simp [filled]) fun j h1 h2 => ?_
  simp [filled, h2]
theorem filled_next (F : Int → Int → Int) (l0 l1 x : List Int) (i : Nat) (h : i < x.length) (v : Int) (hv : F (l0.getD i 0) (l1.getD i 0) = v) : filled F l0 l1 (x.set i v) (i + 1) = filled F l0 l1 x i := by
  unfold filled
  rw [List.length_set]
  refine List.map_congr_left fun j hj => ?_
  have hj := List.mem_range.1 hj
  by_cases e : j = i
  · subst e
    rw [if_pos (by omega), if_neg (by omega), hv, List.getD_eq_getElem?_getD, List.getElem?_set_self h]; rfl
  · rw [List.getD_eq_getElem?_getD, List.getElem?_set_ne (fun h => e h.symm), ← List.getD_eq_getElem?_getD]
    by_cases l : j < i
    · rw [if_pos (by omega), if_pos l]
    · rw [if_neg (by omega), if_neg l]
theorem filled_start (F : Int → Int → Int) (l0 l1 x : List Int) (h0 : x.length = l0.length) (h1 : l0.length = l1.length) : filled F l0 l1 x 0 = List.zipWith F l0 l1 := by
  refine List.ext_getElem (by simp [filled]; omega) fun j a b => ?_
  simp only [filled, List.length_map, List.length_range] at a
  have hj0 : j < l0.length := by omega
  have hj1 : j < l1.length := by omega
  simp [filled, hj0, hj1]
theorem each_loop (ff : Int → Int → Option Int) (F : Int → Int → Int) (l0 l1 : List Int) (hl : l0.length = l1.length) (hm : l0.length ≤ 9223372036854775807) (hf : ∀ i : Nat, i < l0.length → ff (rd l0 i) (rd l1 i) = some (F (rd l0 i) (rd l1 i))) (d : Nat) :
    ∀ (i k : Nat) (x : List Int), x.length = l0.length → i + d = l0.length → d < k → vector_each.l0 ff k l0 l1 x (l0.length : Int) i = some (filled F l0 l1 x i, 0) := by
  induction d with
  | zero =>
    intro i k x hx hi hk
    obtain ⟨k, rfl⟩ : ∃ m, k = m + 1 := ⟨k - 1, by omega⟩
    simp only [vector_each.l0]
    rw [if_neg (by omega)]
    have : i = x.length := by omega
    rw [this, filled_end]
  | succ d ih =>
    intro i k x hx hi hk
    obtain ⟨k, rfl⟩ : ∃ m, k = m + 1 := ⟨k - 1, by omega⟩
    simp only [vector_each.l0]
    rw [if_pos (by omega), if_pos (by omega), if_pos (by omega), if_pos (by omega), hf i (by omega), Option.bind_some, if_pos (by omega), show wrap64 ((i : Int) + 1) = ((i + 1 : Nat) : Int) from by unfold wrap64; omega, Int.toNat_natCast,
      ih (i + 1) k _ (by rw [List.length_set]; exact hx) (by omega) (by omega), filled_next F l0 l1 x i (by omega) _ (by rw [rd_nat, rd_nat])]
theorem each_f (ff : Int → Int → Option Int) (F : Int → Int → Int) (l0 l1 : List Int) (hl : l0.length = l1.length) (hm : l0.length ≤ vN) (hf : ∀ i : Nat, i < l0.length → ff (rd l0 i) (rd l1 i) = some (F (rd l0 i) (rd l1 i))) :
    vector_each.f ff (l0.length + 1) l0 l1 = some (List.zipWith F l0 l1, 0) := by
  unfold vN at hm
  unfold vector_each.f
  rw [if_pos (by omega), if_pos (by omega), if_pos (by omega), Option.bind_some, List.length_replicate]
  have h := each_loop ff F l0 l1 hl (by omega) hf l0.length 0 (l0.length + 1) (List.replicate l0.length 0) (by simp) (by omega) (by omega)
  rw [filled_start F l0 l1 _ (by simp) hl] at h
  simpa using h
theorem each_dim (ff : Int → Int → Option Int) (l0 l1 : List Int) (hl : l0.length ≠ l1.length) : vector_each.f ff 1 l0 l1 = some ([], 21) := by
  unfold vector_each.f
  rw [if_neg (by omega)]
-- the functions that it is handed
theorem ok_scaled : FnOk Try.prog 43 := ⟨⟨_, Try.func43, by rfl, rfl⟩⟩
theorem ok_scale : FnOk Try.prog 50 := ⟨⟨_, Try.func50, by rfl, rfl⟩⟩
set_option maxRecDepth 100000 in
theorem add_fn (a b : Int) (w : World) : Calls Try.prog 44 #[.int .u8 a, .int .u8 b] w fun e w' => e = .returned (.int .u8 (xr a b)) ∧ Below w.heap.size w w' := by
  go_enter Try.func44, Try.ntmps44
  go_wp2
  go_ret
  exact ⟨rfl, Below.refl _ _⟩
set_option maxRecDepth 100000 in
theorem scaled_fn (a b c r : Int) (B : Nat) (w : World) (hc : w.cell? ⟨B, 0, none⟩ = some (.int .u8 c)) (hr : field_Mul.f b c = some r) :
    Calls Try.prog 43 #[.int .u8 a, .int .u8 b, .pointer (some ⟨B, 0, none⟩)] w fun e w' => e = .returned (.int .u8 (xr a r)) ∧ Below w.heap.size w w' := by
  have HR := Aside0.mk hr
  clear hr
  go_enter Try.func43, Try.ntmps43
  go_wp2_with (first
    | (go_at_call 45; refine (field_Mul.calls b c r _ HR.out).mono ?_; rintro e w1 ⟨rfl, hb1⟩)
    | (go_at_call 44; refine (add_fn _ _ _).mono ?_; rintro e w2 ⟨rfl, hb2⟩))
  go_ret
  exact ⟨rfl, below_next hb1 hb2⟩
set_option maxRecDepth 100000 in
theorem scale_fn (a b c r : Int) (B : Nat) (w : World) (hc : w.cell? ⟨B, 0, none⟩ = some (.int .u8 c)) (hr : field_Mul.f a c = some r) :
    Calls Try.prog 50 #[.int .u8 a, .int .u8 b, .pointer (some ⟨B, 0, none⟩)] w fun e w' => e = .returned (.int .u8 r) ∧ Below w.heap.size w w' := by
  have HR := Aside0.mk hr
  clear hr
  go_enter Try.func50, Try.ntmps50
  go_wp2_with (first
    | (go_at_call 45; refine (field_Mul.calls a c r _ HR.out).mono ?_; rintro e w1 ⟨rfl, hb1⟩))
  go_ret
  exact ⟨rfl, hb1⟩
-- the calls
def vector_AddScaled.f (l0 l1 : List Int) (a2 : Int) : Option (List Int × Int) := if l0.length = l1.length then (if l0.length ≤ vN ∧ areB l1 ∧ isB a2 then some (List.zipWith (fun x y => xr x (gm y a2)) l0 l1, 0) else none) else some ([], 21)
set_option maxRecDepth 100000 in
theorem vector_AddScaled.calls (A0 : Option Addr) (c0 : Nat) (l0 : List Int) (A1 : Option Addr) (c1 : Nat) (l1 : List Int) (a2 : Int) (r1 : List Int) (r2 : Int) (w : World) (hr0 : Kd.C (Kd.int .u8) w A0 l0.length l0) (hc0 : l0.length ≤ c0) (hr1 : Kd.C (Kd.int .u8) w A1 l1.length l1) (hc1 : l1.length ≤ c1) (h : vector_AddScaled.f l0 l1 a2 = some (r1, r2)) :
    Calls Try.prog 20 #[.slice A0 l0.length c0, .slice A1 l1.length c1, .int .u8 a2] w fun e w' => ∃ v0_ : Value, e = .returned (.tuple #[v0_, .int .i64 r2]) ∧ Kd.R (Kd.int .u8) 5 w' w.heap.size (fun _ => True) v0_ r1 ∧ Below w.heap.size w w' := by
  have hf : ∃ k, vector_each.f (fun x y => (field_Mul.f y a2).map (xr x)) k l0 l1 = some (r1, r2) := by
    unfold vector_AddScaled.f at h
    by_cases e : l0.length = l1.length
    · rw [if_pos e] at h
      by_cases n : l0.length ≤ vN ∧ areB l1 ∧ isB a2
      · rw [if_pos n] at h
        rw [← h]
        exact ⟨_, each_f _ (fun x y => xr x (gm y a2)) l0 l1 e n.1 fun i hi => by
          show (field_Mul.f _ a2).map _ = _
          rw [show field_Mul.f (rd l1 i) a2 = some (gm (rd l1 i) a2) from if_pos ⟨n.2.1 _ (rd_mem (by omega) (by omega)), n.2.2⟩]; rfl⟩
      · rw [if_neg n] at h; cases h
    · rw [if_neg e] at h; rw [← h]; exact ⟨_, each_dim _ l0 l1 e⟩
  obtain ⟨k, hk⟩ := hf
  have HE := Aside0.mk (fun (w1 : World) (B : Nat) (hB : B < w1.heap.size) (hcell : w1.cell? ⟨B, 0, none⟩ = some (.int .u8 a2)) (a : Kd.C (Kd.int .u8) w1 A0 l0.length l0) (b : Kd.C (Kd.int .u8) w1 A1 l1.length l1) => vector_each.calls (fun x y => (field_Mul.f y a2).map (xr x)) k A0 c0 l0 A1 c1 l1 43 #[.pointer (some ⟨B, 0, none⟩)] ok_scaled r1 r2 w1 (fun x y r W hr hbW => by
    obtain ⟨q, hq, rfl⟩ := Option.map_eq_some_iff.1 hr
    have := scaled_fn x y a2 q B W ((hbW.cell (p := ⟨B, 0, none⟩) hB).trans hcell) hq
    simpa using this) a hc0 b hc1 hk)
  have HR0 := Aside0.mk (Kd.C_alloc hr0 (.cells #[.int .u8 a2] 5))
  have HR1 := Aside0.mk (Kd.C_alloc hr1 (.cells #[.int .u8 a2] 5))
  clear hk h hr0 hr1
  go_enter Try.func20, Try.ntmps20
  go_wp2_with (go_at_call 42; refine (HE.out _ w.heap.size (by simp) (by simp) HR0.out HR1.out).mono ?_; rintro e w1 ⟨v0, rfl, hR, hb1⟩)
  go_ret2
  exact ⟨_, rfl, Kd.R_lower hR (by simp), box_lower rfl hb1⟩
def vector_Scale.f (l0 : List Int) (a1 : Int) : Option (List Int) := if l0.length ≤ vN ∧ areB l0 ∧ isB a1 then some (l0.map fun x => gm x a1) else none
theorem zip_self (F : Int → Int) : ∀ l : List Int, List.zipWith (fun x _ => F x) l l = l.map F
  | [] => rfl
  | a :: l => by simp [zip_self F l]
set_option maxRecDepth 100000 in
theorem vector_Scale.calls (A0 : Option Addr) (c0 : Nat) (l0 : List Int) (a1 : Int) (r : List Int) (w : World) (hr0 : Kd.C (Kd.int .u8) w A0 l0.length l0) (hc0 : l0.length ≤ c0) (h : vector_Scale.f l0 a1 = some r) :
    Calls Try.prog 27 #[.slice A0 l0.length c0, .int .u8 a1] w fun e w' => ∃ v0_ : Value, e = .returned (v0_) ∧ Kd.R (Kd.int .u8) 5 w' w.heap.size (fun _ => True) v0_ r ∧ Below w.heap.size w w' := by
  have hf : ∃ k, vector_each.f (fun x y => field_Mul.f x a1) k l0 l0 = some (r, 0) := by
    unfold vector_Scale.f at h
    by_cases n : l0.length ≤ vN ∧ areB l0 ∧ isB a1
    · rw [if_pos n] at h
      obtain rfl := Option.some.inj h
      rw [← zip_self]
      exact ⟨_, each_f _ (fun x _ => gm x a1) l0 l0 rfl n.1 fun i hi => if_pos ⟨n.2.1 _ (rd_mem (by omega) (by omega)), n.2.2⟩⟩
    · rw [if_neg n] at h; cases h
  obtain ⟨k, hk⟩ := hf
  have HE := Aside0.mk (fun (w1 : World) (B : Nat) (hB : B < w1.heap.size) (hcell : w1.cell? ⟨B, 0, none⟩ = some (.int .u8 a1)) (a : Kd.C (Kd.int .u8) w1 A0 l0.length l0) => vector_each.calls (fun x y => field_Mul.f x a1) k A0 c0 l0 A0 c0 l0 50 #[.pointer (some ⟨B, 0, none⟩)] ok_scale r 0 w1 (fun x y q W hq hbW => by
    have := scale_fn x y a1 q B W ((hbW.cell (p := ⟨B, 0, none⟩) hB).trans hcell) hq
    simpa using this) a hc0 a hc0 hk)
  have HR0 := Aside0.mk (Kd.C_alloc hr0 (.cells #[.int .u8 a1] 5))
  clear hk h hr0
  go_enter Try.func27, Try.ntmps27
  go_wp2_with (go_at_call 42; refine (HE.out _ w.heap.size (by simp) (by simp) HR0.out).mono ?_; rintro e w1 ⟨v0, rfl, hR, hb1⟩)
  go_ret
  exact ⟨_, rfl, Kd.R_lower hR (by simp), box_lower rfl hb1⟩
end Go.Proofs.Ytpfaaljmefgpbaa.Hand
end
