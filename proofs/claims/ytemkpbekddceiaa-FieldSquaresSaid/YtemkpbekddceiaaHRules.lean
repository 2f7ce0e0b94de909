/- The walks of FieldRules and FieldSquares: with the field's laws, each call comes back with true. -/
import Derived.Test.YtemkpbekddceiaaHFieldRef
set_option linter.unusedVariables false
set_option linter.unusedSimpArgs false
namespace Go.Proofs.Ytemkpbekddceiaa.Hand
open Go.RowKit Go.Proofs.Ytemkpbekddceiaa.P Go.Proofs.Ytemkpbekddceiaa.GF Go.Proofs.YtemkpbekddceiaaW.PrintWords Go.Proofs.YtemkpbekddceiaaW.PrintLast Go.Proofs.YtemkpbekddceiaaW.PrintMore

@[irreducible] def ad (a b : Int) : Int := Go.bits .xor .u8 a b
theorem ad_eq (a b : Int) : ad a b = ofG (toG a ^^^ toG b) := by unfold ad; exact bits_xor a b
theorem isB_ad (a b : Int) : isB (ad a b) := by rw [ad_eq]; exact ofG_range _
@[irreducible] def ml (a b : Int) : Int := gm a b
theorem ml_eq (a b : Int) : ml a b = ofG (mul (toG a) (toG b)) := by unfold ml; rfl
theorem isB_ml (a b : Int) : isB (ml a b) := by rw [ml_eq]; exact ofG_range _
theorem add_c (a b : Int) (w : World) : Calls Try.prog 10 #[.int .u8 a, .int .u8 b] w fun e w' => e = .returned (.int .u8 (ad a b)) ∧ Drawn0 w w' := by
  unfold ad; exact field_Add.calls a b _ w rfl
theorem mul_c (a b : Int) (ha : isB a) (hb : isB b) (w : World) : Calls Try.prog 11 #[.int .u8 a, .int .u8 b] w fun e w' => e = .returned (.int .u8 (ml a b)) ∧ Below w.heap.size w w' := by
  unfold ml; exact field_Mul.calls a b _ w (mul_f ha hb)
theorem awake_c (w : World) : Calls Try.prog 12 #[] w fun e w' => e = .returned (.bool true) ∧ Below w.heap.size w w' := braidworklaw01_awake.calls true w awake_f
theorem isB_num {n : Int} (h0 : 0 ≤ n) (h1 : n < 256) : isB n := ⟨h0, h1⟩
-- the field's laws, over numbers
theorem n_eq {x y : Int} (h : x = y) : (x != y) = false := by simp [h]
theorem n_eq' {x y : Int} (h : x = y) : (x == y) = true := by simp [h]
theorem r_add_comm (a b : Int) : ad a b = ad b a := by rw [ad_eq, ad_eq, BitVec.xor_comm]
theorem r_add_assoc (a b c : Int) : ad (ad a b) c = ad a (ad b c) := by rw [ad_eq (ad a b), ad_eq a b, ad_eq a, ad_eq b c, toG_ofG, toG_ofG, BitVec.xor_assoc]
theorem r_add_zero {a : Int} (h : isB a) : ad a 0 = a := by rw [ad_eq, toG_zero, BitVec.xor_zero, ofG_toG h.1 h.2]
theorem r_add_self (a : Int) : ad a a = 0 := by rw [ad_eq, BitVec.xor_self]; rfl
theorem r_mul_comm (a b : Int) : ml a b = ml b a := by rw [ml_eq, ml_eq, mul_comm]
theorem r_mul_assoc (a b c : Int) : ml (ml a b) c = ml a (ml b c) := by rw [ml_eq (ml a b), ml_eq a b, ml_eq a, ml_eq b c, toG_ofG, toG_ofG, mul_assoc]
theorem r_mul_one {a : Int} (h : isB a) : ml a 1 = a := by rw [ml_eq]; show ofG (mul (toG a) 1#8) = a; rw [mul_one, ofG_toG h.1 h.2]
theorem r_mul_zero (a : Int) : ml a 0 = 0 := by rw [ml_eq, toG_zero, mul_zero]; rfl
theorem r_mul_add (a b c : Int) : ml a (ad b c) = ad (ml a b) (ml a c) := by rw [ml_eq, ad_eq b c, ad_eq, ml_eq, ml_eq, toG_ofG, toG_ofG, toG_ofG, mul_add]
theorem r_mul_none {a b : Int} (ha : isB a) (hb : isB b) : ml a b = 0 ↔ a = 0 ∨ b = 0 := by
  constructor
  · intro h
    rw [ml_eq] at h
    have h0 : mul (toG a) (toG b) = 0#8 := ofG_inj h
    by_cases ha0 : toG a = 0#8
    · exact .inl ((toG_eq_zero ha.1 ha.2).1 ha0)
    · right
      have := congrArg (mul (inv (toG a))) h0
      rw [← mul_assoc, mul_comm (inv (toG a)), mul_inv _ ha0, one_mul, mul_zero] at this
      exact (toG_eq_zero hb.1 hb.2).1 this
  · rintro (rfl | rfl)
    · rw [ml_eq, toG_zero, zero_mul]; rfl
    · exact r_mul_zero a
theorem r_inv {a : Int} (ha : isB a) (h : a ≠ 0) : ml a (gi a) = 1 := by unfold ml; exact gm_gi ha h
theorem r_div {a b : Int} (ha : isB a) (hb : isB b) (h : a ≠ 0) : ml (ml b (gi a)) a = b := by
  rw [r_mul_assoc, r_mul_comm (gi a) a, r_inv ha h, r_mul_one hb]

theorem div_ml (a b : Int) : gm b (gi a) = ml b (gi a) := by unfold ml; rfl
set_option maxHeartbeats 4000000 in
set_option maxRecDepth 100000 in
theorem rules_calls (a b c : Int) (ha : isB a) (hb : isB b) (hc : isB c) (w : World) : Calls Try.prog 5 #[.int .u8 a, .int .u8 b, .int .u8 c] w fun e w' => e = .returned (.bool true) ∧ Below w.heap.size w w' := by
  have HA := Aside0.mk ha
  have HBb := Aside0.mk hb
  have HC := Aside0.mk hc
  have g1 := n_eq (r_add_comm a b)
  have g2 := n_eq (r_add_assoc a b c)
  have g3 := n_eq (r_add_zero ha)
  have g4 := n_eq (r_add_self a)
  have g5 := n_eq (r_mul_comm a b)
  have g6 := n_eq (r_mul_assoc a b c)
  have g7 := n_eq (r_mul_one ha)
  have g8 := n_eq (r_mul_zero a)
  have g9 := n_eq (r_mul_add a b c)
  have g10 : (ml a b == 0) = ((a == 0) || (b == 0)) := by
    rw [Bool.eq_iff_iff]; simp [r_mul_none ha hb]
  clear ha hb hc
  have HB := Aside0.mk (Below.refl w.heap.size w)
  by_cases z : a = 0
  · have Z := Aside0.mk z
    have z1 : (a == 0) = true := beq_iff_eq.2 z
    rw [z1, Bool.true_or] at g10
    have hi := fun (w : World) => field_Inv.calls a 0 1 w (by unfold field_Inv.f; rw [if_pos HA.out, if_pos Z.out])
    have hd := fun (w : World) => field_Div.calls b a 0 1 w (by rw [div_f HBb.out HA.out]; unfold gd; rw [if_pos Z.out])
    have HI := Aside0.mk hi
    have HD := Aside0.mk hd
    clear z hi hd
    go_enter Try.func5, Try.ntmps5
    go_wp2_with (first
      | (go_at_call 10; refine (add_c _ _ _).mono ?_; rintro e w' ⟨rfl, ⟨nd, rfl⟩⟩)
      | (go_at_call 11; refine (mul_c _ _ (by first | exact HA.out | exact HBb.out | exact HC.out | exact isB_ml _ _ | exact isB_ad _ _ | exact isB_num (by omega) (by omega)) (by first | exact HA.out | exact HBb.out | exact HC.out | exact isB_ml _ _ | exact isB_ad _ _ | exact isB_num (by omega) (by omega)) _).mono ?_; rintro e w1 ⟨rfl, hb1⟩; have n0_ := Aside0.mk (below_next (by repeat (first | exact HB.out | apply pw_below_drewN | apply below_drew1)) hb1); clear HB hb1; have HB := n0_; clear n0_)
      | (go_at_call 15; refine (HI.out _).mono ?_; rintro e w1 ⟨rfl, hb1⟩; have n0_ := Aside0.mk (below_next (by repeat (first | exact HB.out | apply pw_below_drewN | apply below_drew1)) hb1); clear HB hb1; have HB := n0_; clear n0_)
      | (go_at_call 13; refine (HD.out _).mono ?_; rintro e w1 ⟨rfl, hb1⟩; have n0_ := Aside0.mk (below_next (by repeat (first | exact HB.out | apply pw_below_drewN | apply below_drew1)) hb1); clear HB hb1; have HB := n0_; clear n0_)
      | (go_at_call 12; refine (awake_c _).mono ?_; rintro e w1 ⟨rfl, hb1⟩; have n0_ := Aside0.mk (below_next (by repeat (first | exact HB.out | apply pw_below_drewN | apply below_drew1)) hb1); clear HB hb1; have HB := n0_; clear n0_))
    go_ret
    exact ⟨rfl, HB.out⟩
  · have Z := Aside0.mk z
    have z1 : (a == 0) = false := beq_eq_false_iff_ne.2 z
    rw [z1, Bool.false_or] at g10
    have g11 := n_eq' (r_inv HA.out z)
    have g12 := n_eq' (r_div HA.out HBb.out z)
    have hi := fun (w : World) => field_Inv.calls a (gi a) 0 w (by unfold field_Inv.f; rw [if_pos HA.out, if_neg Z.out])
    have hd := fun (w : World) => field_Div.calls b a (ml b (gi a)) 0 w (by rw [div_f HBb.out HA.out]; unfold gd; rw [if_neg Z.out, div_ml])
    have HI := Aside0.mk hi
    have HD := Aside0.mk hd
    clear z hi hd
    go_enter Try.func5, Try.ntmps5
    go_wp2_with (first
      | (go_at_call 10; refine (add_c _ _ _).mono ?_; rintro e w' ⟨rfl, ⟨nd, rfl⟩⟩)
      | (go_at_call 11; refine (mul_c _ _ (by first | exact HA.out | exact HBb.out | exact HC.out | exact isB_ml _ _ | exact isB_ad _ _ | exact isB_gi _ | exact isB_num (by omega) (by omega)) (by first | exact HA.out | exact HBb.out | exact HC.out | exact isB_ml _ _ | exact isB_ad _ _ | exact isB_gi _ | exact isB_num (by omega) (by omega)) _).mono ?_; rintro e w1 ⟨rfl, hb1⟩; have n0_ := Aside0.mk (below_next (by repeat (first | exact HB.out | apply pw_below_drewN | apply below_drew1)) hb1); clear HB hb1; have HB := n0_; clear n0_)
      | (go_at_call 15; refine (HI.out _).mono ?_; rintro e w1 ⟨rfl, hb1⟩; have n0_ := Aside0.mk (below_next (by repeat (first | exact HB.out | apply pw_below_drewN | apply below_drew1)) hb1); clear HB hb1; have HB := n0_; clear n0_)
      | (go_at_call 13; refine (HD.out _).mono ?_; rintro e w1 ⟨rfl, hb1⟩; have n0_ := Aside0.mk (below_next (by repeat (first | exact HB.out | apply pw_below_drewN | apply below_drew1)) hb1); clear HB hb1; have HB := n0_; clear n0_)
      | (go_at_call 12; refine (awake_c _).mono ?_; rintro e w1 ⟨rfl, hb1⟩; have n0_ := Aside0.mk (below_next (by repeat (first | exact HB.out | apply pw_below_drewN | apply below_drew1)) hb1); clear HB hb1; have HB := n0_; clear n0_))
    go_ret
    exact ⟨rfl, HB.out⟩
end Go.Proofs.Ytemkpbekddceiaa.Hand
