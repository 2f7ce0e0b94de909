/- The walk of FieldSquares: squaring goes through sums, and each element is one square. -/
import Derived.Test.YtemkpbekddceiaaHRules
import Derived.Test.YtemkpbekddceiaaP1
set_option linter.unusedVariables false
set_option linter.unusedSimpArgs false
namespace Go.Proofs.Ytemkpbekddceiaa.Hand
open Go.RowKit Go.Proofs.Ytemkpbekddceiaa.P Go.Proofs.Ytemkpbekddceiaa.GF Go.Proofs.YtemkpbekddceiaaW.PrintWords Go.Proofs.YtemkpbekddceiaaW.PrintLast Go.Proofs.YtemkpbekddceiaaW.PrintMore

theorem pow_256 (g : G) : pow g 256 = g := by
  by_cases h : g = 0#8
  · rw [h, zero_pow _ (by omega)]
  · obtain ⟨m, hm, rfl⟩ := exists_pow h
    rw [← pow_mul, Nat.mul_comm, show 256 * m = 255 * m + m from by omega, pow_add, pow_mul, three_255, one_pow, one_mul]
theorem sq_pow (g : G) : mul (pow g 128) (pow g 128) = g := by rw [← pow_add]; exact pow_256 g
theorem sq_inj {x y : G} (h : mul x x = mul y y) : x = y := by
  have e : ∀ z : G, pow (mul z z) 128 = z := fun z => by rw [pow_sq]; exact pow_256 z
  rw [← e x, ← e y, h]
theorem r_sq_add (a b : Int) : ml (ad a b) (ad a b) = ad (ml a a) (ml b b) := by
  rw [ml_eq, ad_eq a b, toG_ofG, ad_eq, ml_eq, ml_eq, toG_ofG, toG_ofG, add_mul, mul_add, mul_add, mul_comm (toG b) (toG a)]
  congr 1
  rw [BitVec.xor_assoc, xor_cancel]
theorem r_sq_pow {a : Int} (h : isB a) : ml (gp a 128) (gp a 128) = a := by
  rw [ml_eq]; unfold gp; rw [toG_ofG, sq_pow, ofG_toG h.1 h.2]
theorem r_sq_eq {a b : Int} (ha : isB a) (hb : isB b) : (ml a a == ml b b) = (a == b) := by
  rw [Bool.eq_iff_iff]
  simp only [beq_iff_eq]
  constructor
  · intro h
    rw [ml_eq, ml_eq] at h
    exact toG_inj ha.1 ha.2 hb.1 hb.2 (sq_inj (ofG_inj h))
  · rintro rfl; rfl
theorem r_256 {a : Int} (h : isB a) : gp a 256 = a := by unfold gp; rw [pow_256, ofG_toG h.1 h.2]
set_option maxRecDepth 100000 in
theorem sq_c (a : Int) (ha : isB a) (w : World) : Calls Try.prog 18 #[.int .u8 a] w fun e w' => e = .returned (.int .u8 (ml a a)) ∧ Below w.heap.size w w' := by
  have HA := Aside0.mk ha
  clear ha
  go_enter Try.func18, Try.ntmps18
  go_wp2_with (go_at_call 11; refine (mul_c _ _ HA.out HA.out _).mono ?_; rintro e w1 ⟨rfl, hb1⟩)
  go_ret
  exact ⟨rfl, by assumption⟩
set_option maxHeartbeats 4000000 in
set_option maxRecDepth 100000 in
theorem squares_calls (a b : Int) (ha : isB a) (hb : isB b) (w : World) : Calls Try.prog 6 #[.int .u8 a, .int .u8 b] w fun e w' => e = .returned (.bool true) ∧ Below w.heap.size w w' := by
  have HA := Aside0.mk ha
  have HBb := Aside0.mk hb
  have g1 := n_eq' (r_sq_add a b)
  have g3 := r_sq_eq ha hb
  have hp1 := fun (w : World) => field_Pow.calls a 128 (gp a 128) 0 w (by rw [pow_f ha]; rfl)
  have hp2 := fun (w : World) => field_Pow.calls a 256 a 0 w (by rw [pow_f ha]; unfold gpw; rw [if_neg (by omega)]; show some (gp a 256, (0 : Int)) = _; rw [r_256 ha])
  have H1 := Aside0.mk hp1
  have H2 := Aside0.mk hp2
  have HR := Aside0.mk (isB_gp a 128)
  have hsq := n_eq' (r_sq_pow ha)
  obtain ⟨r, hr⟩ : ∃ r, r = gp a 128 := ⟨_, rfl⟩
  rw [← hr] at hsq H1 HR
  clear hr ha hb hp1 hp2
  have HB := Aside0.mk (Below.refl w.heap.size w)
  go_enter Try.func6, Try.ntmps6
  go_wp2_with (first
    | (go_at_call 10; refine (add_c _ _ _).mono ?_; rintro e w' ⟨rfl, ⟨nd, rfl⟩⟩)
    | (go_at_call 18; refine (sq_c _ (by first | exact HA.out | exact HBb.out | exact HR.out | exact isB_ad _ _) _).mono ?_; rintro e w1 ⟨rfl, hb1⟩; have n0_ := Aside0.mk (below_next (by repeat (first | exact HB.out | apply pw_below_drewN | apply below_drew1)) hb1); clear HB hb1; have HB := n0_; clear n0_)
    | (go_at_call 19; (with_reducible refine (H1.out _).mono ?_); rintro e w1 ⟨rfl, hb1⟩; have n0_ := Aside0.mk (below_next (by repeat (first | exact HB.out | apply pw_below_drewN | apply below_drew1)) hb1); clear HB hb1; have HB := n0_; clear n0_)
    | (go_at_call 19; (with_reducible refine (H2.out _).mono ?_); rintro e w1 ⟨rfl, hb1⟩; have n0_ := Aside0.mk (below_next (by repeat (first | exact HB.out | apply pw_below_drewN | apply below_drew1)) hb1); clear HB hb1; have HB := n0_; clear n0_)
    | (go_at_call 12; refine (awake_c _).mono ?_; rintro e w1 ⟨rfl, hb1⟩; have n0_ := Aside0.mk (below_next (by repeat (first | exact HB.out | apply pw_below_drewN | apply below_drew1)) hb1); clear HB hb1; have HB := n0_; clear n0_))
  go_ret
  refine ⟨?_, HB.out⟩
  simp [g3]
end Go.Proofs.Ytemkpbekddceiaa.Hand
