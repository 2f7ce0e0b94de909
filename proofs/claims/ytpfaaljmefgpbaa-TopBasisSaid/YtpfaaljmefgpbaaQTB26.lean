/- QTB, part 26: PL1 PL PlTop. -/
import Derived.Test.YtpfaaljmefgpbaaQTB25

section
namespace Go.Proofs.Ytpfaaljmefgpbaa.PL
open Go.Proofs.Ytpfaaljmefgpbaa.Hand Go.RowKit Go.Proofs.YtpfaaljmefgpbaaW.PrintWords Go.Proofs.YtpfaaljmefgpbaaW.PrintLast Go.Proofs.YtpfaaljmefgpbaaW.PrintMore
attribute [local go_sem] max2_int min2_int max_two min_two max_three min_three max_four min_four   -- for this text's walks alone
set_option linter.unusedVariables false
set_option linter.unusedSimpArgs false
mutual
def braidworktop_laySymbols.l0 : Nat → List Int → Int → Int → List (List Int) → Int → Option ((List (List Int)))
  | 0, _, _, _, _, _ => none
  | k + 1, x0, x1, x2, x7, x8 => if x8 < x1 then (if 0 ≤ x2 then (if (x2 : Int).toNat ≤ 281474976710656 then (braidworktop_laySymbols.l1 k x0 x1 x2 x7 x8 (List.replicate (x2 : Int).toNat 0) 0) else (none)) else (none)) else (some x7)
def braidworktop_laySymbols.l1 : Nat → List Int → Int → Int → List (List Int) → Int → List Int → Int → Option ((List (List Int)))
  | 0, _, _, _, _, _, _, _ => none
  | k + 1, x0, x1, x2, x7, x8, x9, x10 => if x10 < x2 then (if (wrap64 ((wrap64 (x8 * x2)) + x10)) < (x0.length : Int) then (if 0 ≤ (wrap64 ((wrap64 (x8 * x2)) + x10)) then (if 0 ≤ x10 then (if x10 < (x9.length : Int) then (braidworktop_laySymbols.l1 k x0 x1 x2 x7 x8 (x9.set (x10 : Int).toNat (rd x0 (wrap64 ((wrap64 (x8 * x2)) + x10)))) (wrap64 (x10 + 1))) else (none)) else (none)) else (none)) else (if x7.length < 5864062014805 then (braidworktop_laySymbols.l0 k x0 x1 x2 (x7 ++ [x9]) (wrap64 (x8 + 1))) else (none))) else (if x7.length < 5864062014805 then (braidworktop_laySymbols.l0 k x0 x1 x2 (x7 ++ [x9]) (wrap64 (x8 + 1))) else (none))
end
def braidworktop_laySymbols.f (k : Nat) (l0 : List Int) (a1 : Int) (a2 : Int) : Option ((List (List Int))) := braidworktop_laySymbols.l0 k l0 a1 a2 ([] : List (List Int)) 0
set_option maxHeartbeats 8000000 in
set_option maxRecDepth 100000 in
theorem braidworktop_laySymbols.calls (k : Nat) (A0 : Option Addr) (c0 : Nat) (l0 : List Int) (a1 : Int) (a2 : Int) (r : List (List Int)) (w : World) (hr0 : Kd.C (Kd.int .u8) w A0 l0.length l0) (hc0 : l0.length ≤ c0) (h : braidworktop_laySymbols.f k l0 a1 a2 = some r) :
    Calls Try.prog 4 #[.slice A0 l0.length c0, .int .i64 a1, .int .i64 a2] w fun e w' => ∃ v0_ : Value, e = .returned (v0_) ∧ Kd.S (Kd.slice 5 (Kd.int .u8)) 22 w' w.heap.size (fun _ => True) v0_ r ∧ Below w.heap.size w w' := by
  have HR0 := Aside0.mk hr0
  have HC0 := Aside0.mk hc0
  clear hr0 hc0
  have HB := Aside0.mk (Below.refl w.heap.size w)
  have H : (braidworktop_laySymbols.l0 k l0 a1 a2 ([] : List (List Int)) 0) = some r := h
  clear h
  have H' := Aside0.mk H
  clear H
  go_enter Try.func4, Try.ntmps4
  go_wp2
  go_loopg [7, 8] k (fun kq v7 v8 w' => ∃ (x7_1 : List (List Int)) (x8_1 : Int), v8 = .int .i64 x8_1 ∧ Aside0 (braidworktop_laySymbols.l0 kq l0 a1 a2 x7_1 x8_1 = some r) ∧ Aside0 (kq ≤ k) ∧ Aside0 (Kd.S (Kd.slice 5 (Kd.int .u8)) 22 w' w.heap.size (fun _ => True) v7 x7_1) ∧ Aside0 (Below w.heap.size w w'))
  case atStart => exact ⟨(([] : List (List Int))), (0), (by first | rfl | (simp; done) | (simp [*]; done)), H', ⟨Nat.le_refl _⟩, ⟨by first | exact Kd.S_nil _ _ _ _ _ | exact Kd.N_nil _ _ _ _ _ | exact Kd.V_nil _ _ _ _ _ | exact Kd.Q_nil _ _ _ _ _ | exact Kd.R_nil _ _ _ _ _⟩, ⟨by repeat (first | (with_reducible first | exact HB.out | apply below_alloc | apply pw_below_drewN | apply below_drew1) | exact HB.out)⟩⟩
  case round =>
    clear H'
    try clear p2
    obtain ⟨x7_1, x8_1, rfl, HA, HK1, HO_7, HB⟩ := hrel
    cases gk with
    | zero => exact absurd HA.out (by simp [braidworktop_laySymbols.l0])
    | succ k1 =>
      have H := HA.out
      clear HA
      simp only [braidworktop_laySymbols.l0] at H
      by_cases c4 : x8_1 < a1
      · rw [if_pos c4] at H
        have c4b0 : decide (x8_1 < a1) = true := decide_eq_true c4
        clear c4
        by_cases c5 : 0 ≤ a2
        · rw [if_pos c5] at H
          have c5b0 := eq_true c5
          have c5b1 : decide (0 ≤ a2) = true := decide_eq_true c5
          clear c5
          by_cases c6 : (a2 : Int).toNat ≤ 281474976710656
          · rw [if_pos c6] at H
            have c6b0 := eq_true c6
            have c6b1 : decide ((a2 : Int).toNat ≤ 281474976710656) = true := decide_eq_true c6
            clear c6
            obtain ⟨y101, hy101⟩ : ∃ y_ : List Int, y_ = (List.replicate (a2 : Int).toNat 0) := ⟨_, rfl⟩
            replace H : (braidworktop_laySymbols.l1 k1 l0 a1 a2 x7_1 x8_1 y101 0) = some r := by first | (rw [hy101]; with_reducible exact H) | (have H2_ := (Option.bind_some _ _).symm.trans H; rw [hy101]; with_reducible exact H2_) | (have H2_ := (Option.bind_some _ _).symm.trans H; with_reducible exact H2_) | with_reducible exact H | (rw [hy101]; exact H) | exact H
            have Ny101 := Aside0.mk hy101
            clear hy101
            have H' := Aside0.mk H
            clear H
            go_wp2_with (first | ((with_reducible refine gate_dst (N := 17) rfl ?_); (try (refine gate_guard (by rfl) ?_; dsimp only)); refine Kd.R_make (Kd.int .u8) _ 5 rfl (N := 17) rfl 22 _ _ rfl a2 rfl rfl Try.underlying22 (.int .u8 0) 1 info5 rfl (by decide) (by omega) 0 (ok := fun _ => True) (okp := fun _ => True) rfl (fun _ hk => hk) trivial (of_decide_eq_true (by first | (with_reducible assumption) | assumption)) (Nat.le_trans (Nat.mul_le_mul_right _ (of_decide_eq_true (by first | (with_reducible assumption) | assumption) : a2.toNat ≤ 281474976710656)) (by omega)) (Below.refl _ _) (Nat.le_refl _) ?_; intro v102 w7 ho8 hb hg_ hnew_; clear hg_ hnew_; (first | rw [← Ny101.out] at ho8 | (simp only [Int.reduceToNat] at ho8; rw [← Ny101.out] at ho8)); have n0_ := Aside0.mk (Kd.S_elder' (by (with_reducible repeat (first | apply Kd.S_alloc | apply Kd.S_drewN | apply Kd.S_drew)); exact HO_7.out) (Kd.R_base ho8) hb); have n1_ := Aside0.mk (Kd.R_lower ho8 (below_size (by repeat (first | (with_reducible first | exact HB.out | apply below_alloc | apply pw_below_drewN | apply below_drew1) | exact HB.out)))); have n2_ := Aside0.mk (below_step (by repeat (first | (with_reducible first | exact HB.out | apply below_alloc | apply pw_below_drewN | apply below_drew1) | exact HB.out)) hb); clear HO_7; clear HB; have HO_7 := n0_; have HO103 := n1_; have HB := n2_; clear n0_ n1_ n2_; clear hb ho8))
            go_loopg [10] k1 (fun kq v10 w' => ∃ (x9_2 : List Int) (x10_2 : Int), v10 = .int .i64 x10_2 ∧ Aside0 (braidworktop_laySymbols.l1 kq l0 a1 a2 x7_1 x8_1 x9_2 x10_2 = some r) ∧ Aside0 (kq ≤ k1) ∧ Aside0 (Kd.S (Kd.slice 5 (Kd.int .u8)) 22 w' w.heap.size (fun k_ => some k_ ≠ (v102 : Value).ownBlock) u7 x7_1) ∧ Aside0 (Kd.R (Kd.int .u8) 5 w' w.heap.size (fun _ => True) v102 x9_2) ∧ Aside0 (Below w.heap.size w w'))
            case atStart => exact ⟨(y101), (0), (by first | rfl | (simp; done) | (simp [*]; done)), H', ⟨Nat.le_refl _⟩, ⟨by (with_reducible repeat (first | apply Kd.S_alloc | apply Kd.S_drewN | apply Kd.S_drew)); exact Kd.S_mono HO_7.out (fun _ hk => hk.2)⟩, ⟨by (with_reducible repeat (first | apply Kd.R_alloc | apply Kd.R_drewN | apply Kd.R_drew)); exact HO103.out⟩, ⟨by repeat (first | (with_reducible first | exact HB.out | apply below_alloc | apply pw_below_drewN | apply below_drew1) | exact HB.out)⟩⟩
            case round =>
              clear H'
              try clear p2
              try clear c4
              try clear c4b0
              try clear c5
              try clear c5b0
              try clear c5b1
              try clear c6
              try clear c6b0
              try clear c6b1
              try clear p2
              obtain ⟨x9_2, x10_2, rfl, HA, HK2, HO_7, HO_9, HB⟩ := hrel
              cases gk with
              | zero => exact absurd HA.out (by simp [braidworktop_laySymbols.l1])
              | succ k2 =>
                have H := HA.out
                clear HA
                simp only [braidworktop_laySymbols.l1] at H
                by_cases c9 : x10_2 < a2
                · rw [if_pos c9] at H
                  have c9b0 : decide (x10_2 < a2) = true := decide_eq_true c9
                  clear c9
                  by_cases c10 : (wrap64 ((wrap64 (x8_1 * a2)) + x10_2)) < (l0.length : Int)
                  · rw [if_pos c10] at H
                    have c10b0 : decide ((wrap64 ((wrap64 (x8_1 * a2)) + x10_2)) < (l0.length : Int)) = true := decide_eq_true c10
                    clear c10
                    obtain ⟨ji11, hji11⟩ : ∃ j_ : Int, (wrap64 ((wrap64 (x8_1 * a2)) + x10_2)) = j_ := ⟨_, rfl⟩
                    replace H : (if 0 ≤ (ji11) then (if 0 ≤ x10_2 then (if x10_2 < (x9_2.length : Int) then (braidworktop_laySymbols.l1 k2 l0 a1 a2 x7_1 x8_1 (x9_2.set (x10_2 : Int).toNat (rd l0 (ji11))) (wrap64 (x10_2 + 1))) else (none)) else (none)) else (none)) = some r := by first | (rw [hji11] at H; exact H) | (simp only [hji11] at H ⊢; exact H)
                    (try rw [hji11] at c10b0)
                    have hji11w : (IntKind.i64.wrap ((wrap64 (x8_1 * a2)) + x10_2)) = ji11 := (i64_w _).trans hji11
                    by_cases c12 : 0 ≤ (ji11)
                    · rw [if_pos c12] at H
                      have c12b0 : decide (0 ≤ (ji11)) = true := decide_eq_true c12
                      clear c12
                      by_cases c13 : 0 ≤ x10_2
                      · rw [if_pos c13] at H
                        have c13b0 : decide (0 ≤ x10_2) = true := decide_eq_true c13
                        clear c13
                        by_cases c14 : x10_2 < (x9_2.length : Int)
                        · rw [if_pos c14] at H
                          have c14b0 : decide (x10_2 < (x9_2.length : Int)) = true := decide_eq_true c14
                          clear c14
                          obtain ⟨y105, hy105⟩ : ∃ y_ : List Int, y_ = (x9_2.set (x10_2 : Int).toNat (rd l0 (ji11))) := ⟨_, rfl⟩
                          replace H : (braidworktop_laySymbols.l1 k2 l0 a1 a2 x7_1 x8_1 y105 (wrap64 (x10_2 + 1))) = some r := by first | (rw [hy105]; with_reducible exact H) | (have H2_ := (Option.bind_some _ _).symm.trans H; rw [hy105]; with_reducible exact H2_) | (have H2_ := (Option.bind_some _ _).symm.trans H; with_reducible exact H2_) | with_reducible exact H | (rw [hy105]; exact H) | exact H
                          have Ny105 := Aside0.mk hy105
                          clear hy105
                          have H' := Aside0.mk H
                          clear H
                          have p104 : 0 ≤ ((ji11) : Int) := of_decide_eq_true (by first | (with_reducible assumption) | assumption)
                          have q104 : (ji11) < (l0.length : Int) := of_decide_eq_true (by first | (with_reducible assumption) | assumption)
                          obtain ⟨ad104, e104, hx104_0⟩ := Kd.at_int HR0.out (ji11) p104 q104
                          cases e104
                          replace hx104_0 := (HB.out.cell (World.block_lt_of_cell? w _ hx104_0)).trans hx104_0
                          replace p104 := eq_true p104
                          replace q104 := eq_true q104
                          have p15 : 0 ≤ (x10_2 : Int) := of_decide_eq_true (by first | (with_reducible assumption) | assumption)
                          have q15 : (x10_2 : Int) < ((x9_2.length : Int) : Int) := of_decide_eq_true (by first | (with_reducible assumption) | assumption)
                          obtain ⟨go15, co15, eo15, gb15, gl15, cl15, HG15⟩ := Kd.R_form HO_9.out (by omega)
                          (first | cases eo15 | (injection eo15 with ea_ en_ ec_; (first | subst ea_ | (injection ea_ with ea_; subst ea_)); subst ec_; clear en_))
                          have GB15 := Aside0.mk gb15
                          have GG15 := Aside0.mk HG15
                          clear gb15 gl15 HG15
                          obtain ⟨hx15_0, hf15_0⟩ := Kd.R_celln 0 HO_9.out (x10_2 : Int) p15 q15
                          replace p15 := eq_true p15
                          replace q15 := eq_true q15
                          have HP16 := Kd.R_putg HO_9.out (x10_2 : Int) (rd l0 (ji11))
                          go_wp2_with (first | ((with_reducible refine gate_store (t := 5) (p := 43) rfl ?_); refine store_event (t := 5) (p := 43) (v := ?vo_w17) (w1 := (wr.setCell ⟨go15, (x10_2 : Int).toNat, none⟩ (.int .u8 (rd l0 (ji11))))) ?hg ?ho ?hn ?hr ?_; (case ho => rfl); (case hg => rfl); (case hn => rfl); (case hr => first | (go_simp; done) | (go_simp; rfl)); intro w17 hw; have hg : wr.grownBy w17 (some go15) := (by rw [hw]; exact HP16.2); have hp_ : Kd.R (Kd.int .u8) 5 w17 w.heap.size (fun _ => True) (.slice (some ⟨go15, 0, none⟩) x9_2.length co15) y105 := (by rw [hw, Ny105.out]; exact HP16.1); clear HP16; have n0_ := Aside0.mk (Kd.S_after (v := (.slice (some ⟨go15, 0, none⟩) x9_2.length co15)) (v1 := (.slice (some ⟨go15, 0, none⟩) x9_2.length co15)) (ok := (fun _ => True)) (by (with_reducible repeat (first | apply Kd.S_alloc | apply Kd.S_drewN | apply Kd.S_drew)); exact Kd.S_mono HO_7.out (fun _ hk => ⟨trivial, hk⟩)) hg (.inl rfl)); have n1_ := Aside0.mk (hp_); have n2_ := Aside0.mk ((by rw [hw]; exact below_set (HB.out) GB15.out : Below w.heap.size w w17)); clear HO_7; clear HO_9; clear HB; have HO_7 := n0_; have HO_9 := n1_; have HB := n2_; clear n0_ n1_ n2_; clear hg hw hp_))
                          go_roundg k2
                          case measure => have := HK1.out; have := HK2.out; omega
                          case rel => exact ⟨(y105), (wrap64 (x10_2 + 1)), (by first | rfl | (simp; done) | (simp [*]; done)), H', ⟨by have := HK1.out; have := HK2.out; omega⟩, ⟨by (with_reducible repeat (first | apply Kd.S_alloc | apply Kd.S_drewN | apply Kd.S_drew)); exact Kd.S_mono HO_7.out (fun _ hk => hk.2)⟩, ⟨by (with_reducible repeat (first | apply Kd.R_alloc | apply Kd.R_drewN | apply Kd.R_drew)); exact HO_9.out⟩, ⟨by repeat (first | (with_reducible first | exact HB.out | apply below_alloc | apply pw_below_drewN | apply below_drew1) | exact HB.out)⟩⟩
                        · rw [if_neg c14] at H
                          exact absurd H (by simp)
                      · rw [if_neg c13] at H
                        exact absurd H (by simp)
                    · rw [if_neg c12] at H
                      exact absurd H (by simp)
                  · rw [if_neg c10] at H
                    have c10b0 : decide ((wrap64 ((wrap64 (x8_1 * a2)) + x10_2)) < (l0.length : Int)) = false := decide_eq_false c10
                    clear c10
                    by_cases c18 : x7_1.length < 5864062014805
                    · rw [if_pos c18] at H
                      have LMc18 := Aside0.mk c18
                      clear c18
                      obtain ⟨y106, hy106⟩ : ∃ y_ : List (List Int), y_ = (x7_1 ++ [x9_2]) := ⟨_, rfl⟩
                      replace H : (braidworktop_laySymbols.l0 k2 l0 a1 a2 y106 (wrap64 (x8_1 + 1))) = some r := by first | (rw [hy106]; with_reducible exact H) | (have H2_ := (Option.bind_some _ _).symm.trans H; rw [hy106]; with_reducible exact H2_) | (have H2_ := (Option.bind_some _ _).symm.trans H; with_reducible exact H2_) | with_reducible exact H | (rw [hy106]; exact H) | exact H
                      have Ny106 := Aside0.mk hy106
                      clear hy106
                      have H' := Aside0.mk H
                      clear H
                      obtain ⟨Ao20, co20, eo20⟩ := Kd.R_slice HO_9.out
                      subst eo20
                      go_wp2_with (first | ((with_reducible refine gate_builtin (b := .append) (xs := #[.tmp 44, .tmp 46]) rfl ?_); (try (refine gate_guard (by rfl) ?_; dsimp only)); at_builtin; refine Kd.S_append (Kd.slice 5 (Kd.int .u8)) (w0 := w) w.heap.size rfl (.tmp 44) (.tmp 46) 24 22 (.slice none 0 0) 24 rfl Try.underlying24 info22 rfl (by decide) (by omega) u7 x7_1 x9_2 [.slice Ao20 x9_2.length co20] (fun _ => True) (fun k_ => some k_ = (.slice Ao20 x9_2.length co20 : Value).ownBlock) rfl rfl ?aP (fun k_ hk_ => ((Kd.R_mono (ok' := fun k_ => ((fun _ => True)) k_ ∧ some k_ ≠ (u7 : Value).ownBlock) (Kd.R_apart' (HO_9.out) (Kd.S_typed HO_7.out) (by decide)) (fun k_ hk => ⟨trivial, hk.2⟩))).1 k_ hk_.symm) ?aF ?aO ?aB ?aS ?aL ?_; (case aP => exact Kd.M_row (Kd.R_mono (Kd.R_tight rfl (Kd.R_mono (ok' := fun k_ => ((fun _ => True)) k_ ∧ some k_ ≠ (u7 : Value).ownBlock) (Kd.R_apart' (HO_9.out) (Kd.S_typed HO_7.out) (by decide)) (fun k_ hk => ⟨trivial, hk.2⟩))) (fun _ h_ => h_))); (case aB => exact (by repeat (first | (with_reducible first | exact HB.out | apply below_alloc | apply pw_below_drewN | apply below_drew1) | exact HB.out))); (case aF => exact (fun _ _ => trivial)); (case aO => exact (by (with_reducible repeat (first | apply Kd.S_alloc | apply Kd.S_drewN | apply Kd.S_drew)); exact Kd.S_mono HO_7.out (fun k_ hk => ⟨trivial, fun e_ => hk e_⟩))); (case aS => exact (below_size (by repeat (first | (with_reducible first | exact HB.out | apply below_alloc | apply pw_below_drewN | apply below_drew1) | exact HB.out)))); (case aL => have := LMc18.out; omega); intro v107 w19 ho hb hg hat; rw [← Ny106.out] at ho; have n0_ := Aside0.mk (hb); have n1_ := Aside0.mk (ho); clear HB; clear HO_7; clear HO_9; have HB := n0_; have HO108 := n1_; clear n0_ n1_; clear ho hb hg hat))
                      go_roundg k2
                      case measure => have := HK1.out; have := HK2.out; omega
                      case rel => exact ⟨(y106), (wrap64 (x8_1 + 1)), (by first | rfl | (simp; done) | (simp [*]; done)), H', ⟨by have := HK1.out; have := HK2.out; omega⟩, ⟨by (with_reducible repeat (first | apply Kd.S_alloc | apply Kd.S_drewN | apply Kd.S_drew)); exact HO108.out⟩, ⟨by repeat (first | (with_reducible first | exact HB.out | apply below_alloc | apply pw_below_drewN | apply below_drew1) | exact HB.out)⟩⟩
                    · rw [if_neg c18] at H
                      exact absurd H (by simp)
                · rw [if_neg c9] at H
                  have c9b0 : decide (x10_2 < a2) = false := decide_eq_false c9
                  clear c9
                  by_cases c21 : x7_1.length < 5864062014805
                  · rw [if_pos c21] at H
                    have LMc21 := Aside0.mk c21
                    clear c21
                    obtain ⟨y109, hy109⟩ : ∃ y_ : List (List Int), y_ = (x7_1 ++ [x9_2]) := ⟨_, rfl⟩
                    replace H : (braidworktop_laySymbols.l0 k2 l0 a1 a2 y109 (wrap64 (x8_1 + 1))) = some r := by first | (rw [hy109]; with_reducible exact H) | (have H2_ := (Option.bind_some _ _).symm.trans H; rw [hy109]; with_reducible exact H2_) | (have H2_ := (Option.bind_some _ _).symm.trans H; with_reducible exact H2_) | with_reducible exact H | (rw [hy109]; exact H) | exact H
                    have Ny109 := Aside0.mk hy109
                    clear hy109
                    have H' := Aside0.mk H
                    clear H
                    obtain ⟨Ao23, co23, eo23⟩ := Kd.R_slice HO_9.out
                    subst eo23
                    go_wp2_with (first | ((with_reducible refine gate_builtin (b := .append) (xs := #[.tmp 44, .tmp 46]) rfl ?_); (try (refine gate_guard (by rfl) ?_; dsimp only)); at_builtin; refine Kd.S_append (Kd.slice 5 (Kd.int .u8)) (w0 := w) w.heap.size rfl (.tmp 44) (.tmp 46) 24 22 (.slice none 0 0) 24 rfl Try.underlying24 info22 rfl (by decide) (by omega) u7 x7_1 x9_2 [.slice Ao23 x9_2.length co23] (fun _ => True) (fun k_ => some k_ = (.slice Ao23 x9_2.length co23 : Value).ownBlock) rfl rfl ?aP (fun k_ hk_ => ((Kd.R_mono (ok' := fun k_ => ((fun _ => True)) k_ ∧ some k_ ≠ (u7 : Value).ownBlock) (Kd.R_apart' (HO_9.out) (Kd.S_typed HO_7.out) (by decide)) (fun k_ hk => ⟨trivial, hk.2⟩))).1 k_ hk_.symm) ?aF ?aO ?aB ?aS ?aL ?_; (case aP => exact Kd.M_row (Kd.R_mono (Kd.R_tight rfl (Kd.R_mono (ok' := fun k_ => ((fun _ => True)) k_ ∧ some k_ ≠ (u7 : Value).ownBlock) (Kd.R_apart' (HO_9.out) (Kd.S_typed HO_7.out) (by decide)) (fun k_ hk => ⟨trivial, hk.2⟩))) (fun _ h_ => h_))); (case aB => exact (by repeat (first | (with_reducible first | exact HB.out | apply below_alloc | apply pw_below_drewN | apply below_drew1) | exact HB.out))); (case aF => exact (fun _ _ => trivial)); (case aO => exact (by (with_reducible repeat (first | apply Kd.S_alloc | apply Kd.S_drewN | apply Kd.S_drew)); exact Kd.S_mono HO_7.out (fun k_ hk => ⟨trivial, fun e_ => hk e_⟩))); (case aS => exact (below_size (by repeat (first | (with_reducible first | exact HB.out | apply below_alloc | apply pw_below_drewN | apply below_drew1) | exact HB.out)))); (case aL => have := LMc21.out; omega); intro v110 w22 ho hb hg hat; rw [← Ny109.out] at ho; have n0_ := Aside0.mk (hb); have n1_ := Aside0.mk (ho); clear HB; clear HO_7; clear HO_9; have HB := n0_; have HO111 := n1_; clear n0_ n1_; clear ho hb hg hat))
                    go_roundg k2
                    case measure => have := HK1.out; have := HK2.out; omega
                    case rel => exact ⟨(y109), (wrap64 (x8_1 + 1)), (by first | rfl | (simp; done) | (simp [*]; done)), H', ⟨by have := HK1.out; have := HK2.out; omega⟩, ⟨by (with_reducible repeat (first | apply Kd.S_alloc | apply Kd.S_drewN | apply Kd.S_drew)); exact HO111.out⟩, ⟨by repeat (first | (with_reducible first | exact HB.out | apply below_alloc | apply pw_below_drewN | apply below_drew1) | exact HB.out)⟩⟩
                  · rw [if_neg c21] at H
                    exact absurd H (by simp)
          · rw [if_neg c6] at H
            exact absurd H (by simp)
        · rw [if_neg c5] at H
          exact absurd H (by simp)
      · rw [if_neg c4] at H
        have c4b0 : decide (x8_1 < a1) = false := decide_eq_false c4
        clear c4
        obtain rfl := Option.some.inj H
        go_wp2
        go_ret
        exact ⟨_, by first | rfl | (simp [errW_none, errW_some] <;> rfl) | (simp [*, errW_none, errW_some] <;> rfl), by (with_reducible repeat (first | apply Kd.S_alloc | apply Kd.S_drewN | apply Kd.S_drew)); exact HO_7.out, by repeat (first | (with_reducible first | exact HB.out | apply below_alloc | apply pw_below_drewN | apply below_drew1) | exact HB.out)⟩
end Go.Proofs.Ytpfaaljmefgpbaa.PL
end

section
namespace Go.Proofs.Ytpfaaljmefgpbaa.PL
open Go.Proofs.Ytpfaaljmefgpbaa.Hand Go.RowKit Go.Proofs.YtpfaaljmefgpbaaW.PrintWords Go.Proofs.YtpfaaljmefgpbaaW.PrintLast Go.Proofs.YtpfaaljmefgpbaaW.PrintMore
attribute [local go_sem] max2_int min2_int max_two min_two max_three min_three max_four min_four   -- for this text's walks alone
set_option linter.unusedVariables false
set_option linter.unusedSimpArgs false
end Go.Proofs.Ytpfaaljmefgpbaa.PL
end

section
namespace Go.Proofs.Ytpfaaljmefgpbaa.Plain
open Go.Proofs.Ytpfaaljmefgpbaa.Hand Go.Proofs.Ytpfaaljmefgpbaa.GF Go.Proofs.Ytpfaaljmefgpbaa.LA Go.RowKit Go.Proofs.Ytpfaaljmefgpbaa.P Go.Proofs.YtpfaaljmefgpbaaW.PrintWords Go.Proofs.YtpfaaljmefgpbaaW.PrintLast
def pairs (s : Nat) (sy R : List (List Int)) : List (List Int × List Int) := R.map fun r => (r, payL s sy r)
section
variable {g s : Nat} {sy : List (List Int)}
theorem pairs_length (R : List (List Int)) : (pairs s sy R).length = R.length := by simp [pairs]
theorem pairs_getD (R : List (List Int)) {k : Nat} (h : k < R.length) : (pairs s sy R).getD k ([], []) = (R.getD k [], payL s sy (R.getD k [])) := by
  unfold pairs
  rw [List.getD_eq_getElem?_getD, List.getElem?_map, List.getD_eq_getElem?_getD, List.getElem?_eq_getElem h]
  rfl
theorem pairs_ok (hsy : Fits s sy) {L : List (List Int)} (hL : Fits g L) : RowsOk g s (pairs s sy (redRows L g)) := fun x hx => by
  obtain ⟨r, hr, rfl⟩ := List.mem_map.1 hx
  obtain ⟨p, h1, h2, h3, -⟩ := redRows_spec hL
  obtain ⟨k1, k2, -⟩ := payL_spec hsy r
  obtain ⟨i, hi, rfl⟩ := List.getElem_of_mem hr
  obtain ⟨a1, a2, -⟩ := red_lead h3 h1 hi
  have e : (redRows L g).getD i [] = (redRows L g)[i] := by rw [List.getD_eq_getElem?_getD, List.getElem?_eq_getElem hi]; rfl
  rw [e] at a2
  exact ⟨h3 _ (List.getElem_mem hi), ⟨k1, k2⟩, _, a1, a2⟩
theorem redP_fst {R : List (List Int)} (c p : List Int) : ∀ k, k ≤ R.length → (redP (pairs s sy R) (c, p) k).1 = leftL R c k
  | 0, _ => rfl
  | k + 1, h => by
    have ih := redP_fst (R := R) c p k (by omega)
    show addS _ _ _ = addS _ _ _
    rw [pairs_getD R (show k < R.length by omega), ih]
theorem redP_pairs (hsy : Fits s sy) {R : List (List Int)} (hR : Fits g R) {c : List Int} (hc : c.length = g ∧ areB c) : ∀ k, k ≤ R.length → redP (pairs s sy R) (c, payL s sy c) k = (leftL R c k, payL s sy (leftL R c k))
  | 0, _ => rfl
  | k + 1, h => by
    have ih := redP_pairs hsy hR hc k (by omega)
    show (addS _ _ _, addS _ _ _) = _
    rw [pairs_getD R (show k < R.length by omega), ih]
    have h1 := (leftL_fits hR hc k (by omega)).1
    have h2 := (getD_fits hR (show k < R.length by omega)).1
    show (addS (leftL R c k) (R.getD k []) _, addS (payL s sy (leftL R c k)) (payL s sy (R.getD k [])) _) = _
    rw [pay_add hsy (by rw [h1, h2])]
    rfl
theorem ins_pairs (hsy : Fits s sy) {R : List (List Int)} (hR : Fits g R) {c : List Int} (hc : c.length = g ∧ areB c) {q1 s1 s2 : List Int} {k : Nat} {z : Int} (hq : q1 = leftL R c R.length) (hk : leadN q1 = (k : Int)) (hz : q1.getD k 0 = z) (h1 : s1 = q1.map fun x => gm x (gi z)) (h2 : s2 = (payL s sy q1).map fun x => gm x (gi z)) :
    ((pairs s sy R).map (cl2 s1 s2 k)).take ((pairs s sy R).findIdx (fun x => decide (leadN x.1 > (k : Int)))) ++ [(s1, s2)] ++ ((pairs s sy R).map (cl2 s1 s2 k)).drop ((pairs s sy R).findIdx (fun x => decide (leadN x.1 > (k : Int)))) = pairs s sy (insL R c) := by
  have hs2 : s2 = payL s sy s1 := by rw [h2, h1, pay_scale hsy]
  have hs1 : s1.length = g := by rw [h1, List.length_map, hq]; exact (leftL_fits hR hc R.length (Nat.le_refl _)).1
  have ho : one1 q1 = s1 := by unfold one1; rw [hk, Int.toNat_natCast, hz, h1]
  have hcl : (pairs s sy R).map (cl2 s1 s2 k) = pairs s sy (R.map fun x => addS x s1 (x.getD k 0)) := by
    unfold pairs
    rw [List.map_map, List.map_map]
    refine List.map_congr_left fun r hr => ?_
    show (addS r s1 (r.getD k 0), addS (payL s sy r) s2 (r.getD k 0)) = (addS r s1 (r.getD k 0), payL s sy (addS r s1 (r.getD k 0)))
    rw [hs2, pay_add hsy (by rw [(hR r hr).1, hs1])]
  have hidx : (pairs s sy R).findIdx (fun x => decide (leadN x.1 > (k : Int))) = R.findIdx (fun x => decide (leadN x > (k : Int))) := by
    unfold pairs
    rw [List.findIdx_map]
    rfl
  rw [hcl, hidx]
  unfold insL insW
  rw [← hq, hk, if_neg (by omega), ho]
  unfold pairs
  rw [← List.map_take, ← List.map_drop, ← List.map_take, ← List.map_drop, List.map_append, List.map_append, List.map_singleton, hs2, Int.toNat_natCast]
end
theorem lay_idx (i cols c : Nat) (hi : i ≤ 6) (hk : cols ≤ 6) (hc : c ≤ 6) : wrap64 (wrap64 ((i : Int) * (cols : Int)) + (c : Int)) = ((i * cols + c : Nat) : Int) := by
  have h1 : i * cols ≤ 36 := Nat.mul_le_mul hi hk
  have h2 : (i : Int) * (cols : Int) = ((i * cols : Nat) : Int) := by rw [Int.natCast_mul]
  rw [h2]
  generalize i * cols = z at h1
  unfold wrap64; omega
theorem lay_loop (b : List Int) (hb : areB b) (g s : Nat) (hg : g ≤ 6) (hs : s ≤ 6) (d : Nat) : ∀ (i k : Nat) (l : List (List Int)), i + d = g → d * 8 < k → l.length = i → Fits s l → ∃ S, PL.braidworktop_laySymbols.l0 k b (g : Int) (s : Int) l (i : Int) = some S ∧ S.length = g ∧ Fits s S := by
  induction d with
  | zero =>
    intro i k l hi hk hl hf
    cases k with
    | zero => omega
    | succ k =>
      unfold PL.braidworktop_laySymbols.l0
      rw [if_neg (by omega)]
      exact ⟨l, rfl, by omega, hf⟩
  | succ d ih =>
    intro i k l hi hk hl hf
    cases k with
    | zero => omega
    | succ k =>
      have hnext : wrap64 ((i : Int) + 1) = ((i + 1 : Nat) : Int) := by unfold wrap64; omega
      have inner : ∀ (e x k : Nat) (one : List Int), x + e = s → d * 8 + e + 1 < k → one.length = s → areB one → ∃ S, PL.braidworktop_laySymbols.l1 k b (g : Int) (s : Int) l (i : Int) one (x : Int) = some S ∧ S.length = g ∧ Fits s S := by
        intro e
        induction e with
        | zero =>
          intro x k one hx hk h1 h2
          cases k with
          | zero => omega
          | succ k =>
            unfold PL.braidworktop_laySymbols.l1
            rw [if_neg (by omega), if_pos (by omega), hnext]
            exact ih (i + 1) k (l ++ [one]) (by omega) (by omega) (by rw [List.length_append, hl]; rfl) (fun r hr => (List.mem_append.1 hr).elim (hf r) (fun q => by rw [List.mem_singleton.1 q]; exact ⟨h1, h2⟩))
        | succ e ihe =>
          intro x k one hx hk h1 h2
          cases k with
          | zero => omega
          | succ k =>
            unfold PL.braidworktop_laySymbols.l1
            rw [if_pos (by omega), lay_idx i s x (by omega) hs (by omega)]
            by_cases q : ((i * s + x : Nat) : Int) < (b.length : Int)
            · rw [if_pos q, if_pos (by omega), if_pos (by omega), if_pos (by omega), show wrap64 ((x : Int) + 1) = ((x + 1 : Nat) : Int) from by unfold wrap64; omega]
              exact ihe (x + 1) k _ (by omega) (by omega) (by rw [List.length_set]; exact h1) (areB_set h2 _ (rd_B hb _))
            · rw [if_neg q, if_pos (by omega), hnext]
              exact ih (i + 1) k (l ++ [one]) (by omega) (by omega) (by rw [List.length_append, hl]; rfl) (fun r hr => (List.mem_append.1 hr).elim (hf r) (fun q => by rw [List.mem_singleton.1 q]; exact ⟨h1, h2⟩))
      unfold PL.braidworktop_laySymbols.l0
      rw [if_pos (by omega), if_pos (by omega), if_pos (by rw [Int.toNat_natCast]; omega), Int.toNat_natCast]
      exact inner s 0 k _ (by omega) (by omega) List.length_replicate (areB_zeros s)
theorem lay_f (b : List Int) (hb : areB b) (g s : Nat) (hg : g ≤ 6) (hs : s ≤ 6) : ∃ S, PL.braidworktop_laySymbols.f 2000 b (g : Int) (s : Int) = some S ∧ S.length = g ∧ Fits s S := by
  unfold PL.braidworktop_laySymbols.f
  exact lay_loop b hb g s hg hs g 0 2000 [] (by omega) (by omega) rfl (fun r hr => by cases hr)
end Go.Proofs.Ytpfaaljmefgpbaa.Plain
end
