/- The contracts of field.Mul, Inv, Pow, Exp, Log: what each call answers, in the field of 256 elements. -/
import Derived.Test.YtemkpbekddceiaaHMath
set_option linter.unusedVariables false
set_option linter.unusedSimpArgs false
namespace Go.Proofs.Ytemkpbekddceiaa.Hand
open Go.RowKit Go.Proofs.YtemkpbekddceiaaW.PrintWords Go.Proofs.YtemkpbekddceiaaW.PrintLast Go.Proofs.YtemkpbekddceiaaW.PrintMore
theorem below_next {w w1 w2 : World} (h : Below w.heap.size w w1) (k : Below w1.heap.size w1 w2) : Below w.heap.size w w2 := below_then h h.size k
def field_Mul.f (a0 a1 : Int) : Option Int := if isB a0 ∧ isB a1 then some (gm a0 a1) else none
set_option maxRecDepth 100000 in
theorem mul_zero_calls (a b : Int) (h : a = 0 ∨ b = 0) (w : World) : Calls Try.prog 11 #[.int .u8 a, .int .u8 b] w fun e w' => e = .returned (.int .u8 0) ∧ Below w.heap.size w w' := by
  by_cases h1 : (a == 0) = true
  · go_enter Try.func11, Try.ntmps11
    go_wp2
    go_ret
    exact ⟨rfl, Below.refl _ _⟩
  · have h1 : (a == 0) = false := by simpa using h1
    have h2 : (b == 0) = true := by
      rcases h with h | h
      · subst h; simp at h1
      · subst h; rfl
    clear h
    go_enter Try.func11, Try.ntmps11
    go_wp2
    go_ret
    exact ⟨rfl, Below.refl _ _⟩
set_option maxRecDepth 100000 in
set_option maxHeartbeats 1000000 in
theorem mul_calls (a b : Int) (ha : (a == 0) = false) (hb : (b == 0) = false) (a0 : 0 ≤ a) (a1 : a < 256) (b0 : 0 ≤ b) (b1 : b < 256) (r : Int) (hr : Aside0 (pw ((lg 255 a + lg 255 b).toNat % 255) = r)) (w : World) : Calls Try.prog 11 #[.int .u8 a, .int .u8 b] w fun e w' => e = .returned (.int .u8 r) ∧ Below w.heap.size w w' := by
  have l1 := lg_lt a
  have l2 := lg_lt b
  have e1 := run_exp
  have e2 := run_log
  have e3 := run_at_log a a0 a1
  have e4 := run_at_log b b0 b1
  have e5 := run_at_exp (lg 255 a + lg 255 b) (by omega) (by omega)
  have e6 : IntKind.i64.wrap (lg 255 a + lg 255 b) = lg 255 a + lg 255 b := IntWalk.i64_in _ (by omega)
  go_enter Try.func11, Try.ntmps11
  go_wp2
  refine start_ (n := 13) (S := fun _ => True) (ds := []) #[false, false, false, false, false, false, false, false, false, false, false, false, false] (by kernel_rfl) rfl rfl trivial (fun _ => ?_)
  refine pure_ (i := 4) (N := some 15) (v := ?_) (a' := ?_) #[false, false, false, false, true, false, false, false, false, false, false, false, false] rfl rfl (by kernel_rfl) (fun _ _ _ h => h) (Or.inl ⟨by rfl, ?_⟩) ?_ ?_
  rotate_left
  · intro w'
    go_simp
    with_reducible rfl
  rotate_left
  · simp only [Act.put, List.setIfInBounds_toArray, List.set_cons_zero, List.set_cons_succ]
    rfl
  refine pure_ (i := 8) (N := some 19) (v := ?_) (a' := ?_) #[false, false, false, false, true, false, false, false, true, false, false, false, false] rfl rfl (by kernel_rfl) (fun _ _ _ h => h) (Or.inl ⟨by rfl, ?_⟩) ?_ ?_
  rotate_left
  · intro w'
    go_simp
    with_reducible rfl
  rotate_left
  · simp only [Act.put, List.setIfInBounds_toArray, List.set_cons_zero, List.set_cons_succ]
    rfl
  refine one_ (i := 0) (N := some 11) #[true, false, false, false, true, false, false, false, true, false, false, false, false] rfl rfl (by kernel_rfl) (by decide) (fun K hK => ?_)
  refine goes_ Try.func25 (by kernel_rfl) rfl #[] (by rfl) rfl rfl (by (try simp only [List.map_toArray, List.map_cons, List.map_nil]); first | done | rfl) ?_
  refine (known_calls _).mono ?_
  rintro e w1 ⟨rfl, hb1⟩
  refine ⟨_, rfl, ?_⟩
  refine hK.out _ _ trivial (fun _ => ?_)
  clear hK K
  refine norm_ (a' := ?_) ?_ ?_
  rotate_left
  · show Act.put _ (some 11) _ = _
    simp only [Act.put, List.setIfInBounds_toArray, List.set_cons_zero, List.set_cons_succ]
    rfl
  refine pure_ (i := 1) (N := some 12) (v := ?_) (a' := ?_) #[true, true, false, false, true, false, false, false, true, false, false, false, false] rfl rfl (by kernel_rfl) (fun _ _ _ h => h) (Or.inl ⟨by rfl, ?_⟩) ?_ ?_
  rotate_left
  · intro w'
    go_simp
    with_reducible rfl
  rotate_left
  · simp only [Act.put, List.setIfInBounds_toArray, List.set_cons_zero, List.set_cons_succ]
    rfl
  refine one_ (i := 2) (N := some 13) #[true, true, true, false, true, false, false, false, true, false, false, false, false] rfl rfl (by kernel_rfl) (by decide) (fun K hK => ?_)
  refine goes_ Try.func25 (by kernel_rfl) rfl #[] (by rfl) rfl rfl (by (try simp only [List.map_toArray, List.map_cons, List.map_nil]); first | done | rfl) ?_
  refine (known_calls _).mono ?_
  rintro e w2 ⟨rfl, hb2⟩
  refine ⟨_, rfl, ?_⟩
  refine hK.out _ _ trivial (fun _ => ?_)
  clear hK K
  refine norm_ (a' := ?_) ?_ ?_
  rotate_left
  · show Act.put _ (some 13) _ = _
    simp only [Act.put, List.setIfInBounds_toArray, List.set_cons_zero, List.set_cons_succ]
    rfl
  refine pure_ (i := 3) (N := some 14) (v := ?_) (a' := ?_) #[true, true, true, true, true, false, false, false, true, false, false, false, false] rfl rfl (by kernel_rfl) (fun _ _ _ h => h) (Or.inl ⟨by rfl, ?_⟩) ?_ ?_
  rotate_left
  · intro w'
    go_simp
    with_reducible rfl
  rotate_left
  · simp only [Act.put, List.setIfInBounds_toArray, List.set_cons_zero, List.set_cons_succ]
    rfl
  refine pure_ (i := 5) (N := some 16) (v := ?_) (a' := ?_) #[true, true, true, true, true, true, false, false, true, false, false, false, false] rfl rfl (by kernel_rfl) (fun _ _ _ h => h) (Or.inl ⟨by rfl, ?_⟩) ?_ ?_
  rotate_left
  · intro w'
    go_simp
    with_reducible rfl
  rotate_left
  · simp only [Act.put, List.setIfInBounds_toArray, List.set_cons_zero, List.set_cons_succ]
    rfl
  refine one_ (i := 6) (N := some 17) #[true, true, true, true, true, true, true, false, true, false, false, false, false] rfl rfl (by kernel_rfl) (by decide) (fun K hK => ?_)
  refine goes_ Try.func25 (by kernel_rfl) rfl #[] (by rfl) rfl rfl (by (try simp only [List.map_toArray, List.map_cons, List.map_nil]); first | done | rfl) ?_
  refine (known_calls _).mono ?_
  rintro e w3 ⟨rfl, hb3⟩
  refine ⟨_, rfl, ?_⟩
  refine hK.out _ _ trivial (fun _ => ?_)
  clear hK K
  refine norm_ (a' := ?_) ?_ ?_
  rotate_left
  · show Act.put _ (some 17) _ = _
    simp only [Act.put, List.setIfInBounds_toArray, List.set_cons_zero, List.set_cons_succ]
    rfl
  refine pure_ (i := 7) (N := some 18) (v := ?_) (a' := ?_) #[true, true, true, true, true, true, true, true, true, false, false, false, false] rfl rfl (by kernel_rfl) (fun _ _ _ h => h) (Or.inl ⟨by rfl, ?_⟩) ?_ ?_
  rotate_left
  · intro w'
    go_simp
    with_reducible rfl
  rotate_left
  · simp only [Act.put, List.setIfInBounds_toArray, List.set_cons_zero, List.set_cons_succ]
    rfl
  refine pure_ (i := 9) (N := some 20) (v := ?_) (a' := ?_) #[true, true, true, true, true, true, true, true, true, true, false, false, false] rfl rfl (by kernel_rfl) (fun _ _ _ h => h) (Or.inl ⟨by rfl, ?_⟩) ?_ ?_
  rotate_left
  · intro w'
    go_simp
    with_reducible rfl
  rotate_left
  · simp only [Act.put, List.setIfInBounds_toArray, List.set_cons_zero, List.set_cons_succ]
    rfl
  refine pure_ (i := 10) (N := some 21) (v := ?_) (a' := ?_) #[true, true, true, true, true, true, true, true, true, true, true, false, false] rfl rfl (by kernel_rfl) (fun _ _ _ h => h) (Or.inl ⟨by rfl, ?_⟩) ?_ ?_
  rotate_left
  · intro w'
    go_simp
    with_reducible rfl
  rotate_left
  · simp only [Act.put, List.setIfInBounds_toArray, List.set_cons_zero, List.set_cons_succ]
    rfl
  refine pure_ (i := 11) (N := some 22) (v := ?_) (a' := ?_) #[true, true, true, true, true, true, true, true, true, true, true, true, false] rfl rfl (by kernel_rfl) (fun _ _ _ h => h) (Or.inl ⟨by rfl, ?_⟩) ?_ ?_
  rotate_left
  · intro w'
    go_simp
    with_reducible rfl
  rotate_left
  · simp only [Act.put, List.setIfInBounds_toArray, List.set_cons_zero, List.set_cons_succ]
    rfl
  refine pure_ (i := 12) (N := some 4) (v := ?_) (a' := ?_) #[true, true, true, true, true, true, true, true, true, true, true, true, true] rfl rfl (by kernel_rfl) (fun _ _ _ h => h) (Or.inl ⟨by rfl, ?_⟩) ?_ ?_
  rotate_left
  · intro w'
    go_simp
    with_reducible rfl
  rotate_left
  · simp only [Act.put, List.setIfInBounds_toArray, List.set_cons_zero, List.set_cons_succ]
    rfl
  refine done_ (by kernel_rfl) ?_
  clear e1 e2 e3 e4 e5 e6
  go_wp2
  go_ret
  exact ⟨by rw [← hr.out]; rfl, below_next (below_next (below_next (below_drew1 (Below.refl _ _)) hb1) hb2) hb3⟩
theorem field_Mul.calls (a0 a1 r : Int) (w : World) (h : field_Mul.f a0 a1 = some r) :
    Calls Try.prog 11 #[.int .u8 a0, .int .u8 a1] w fun e w' => e = .returned (.int .u8 r) ∧ Below w.heap.size w w' := by
  unfold field_Mul.f at h
  by_cases c : isB a0 ∧ isB a1
  · rw [if_pos c] at h
    obtain rfl := Option.some.inj h
    by_cases h1 : a0 = 0 ∨ a1 = 0
    · rw [gm_zero h1]; exact mul_zero_calls a0 a1 h1 w
    · have h2 : a0 ≠ 0 := fun e => h1 (.inl e)
      have h3 : a1 ≠ 0 := fun e => h1 (.inr e)
      exact mul_calls a0 a1 (beq_eq_false_iff_ne.2 h2) (beq_eq_false_iff_ne.2 h3) c.1.1 c.1.2 c.2.1 c.2.2 _ ⟨mul_of_table c.1 c.2 h2 h3⟩ w
  · rw [if_neg c] at h; cases h
def field_Inv.f (a0 : Int) : Option (Int × Int) := if isB a0 then (if a0 = 0 then some (0, 1) else some (gi a0, 0)) else none
set_option maxRecDepth 100000 in
set_option maxHeartbeats 1000000 in
theorem inv_calls (a : Int) (ha : (a == 0) = false) (a0 : 0 ≤ a) (a1 : a < 256) (r : Int) (hr : Aside0 (pw ((255 - lg 255 a).toNat % 255) = r)) (w : World) : Calls Try.prog 15 #[.int .u8 a] w fun e w' => e = .returned (.tuple #[.int .u8 r, .int .i64 0]) ∧ Below w.heap.size w w' := by
  have l1 := lg_lt a
  have e1 := run_exp
  have e2 := run_log
  have e3 := run_at_log a a0 a1
  have e5 := run_at_exp (255 - lg 255 a) (by omega) (by omega)
  go_enter Try.func15, Try.ntmps15
  go_wp2_with (go_at_call 25; refine (known_calls _).mono ?_; rintro e w1 ⟨rfl, hb1⟩)
  go_ret2
  exact ⟨by rw [← hr.out]; rfl, below_next (by assumption) (by assumption)⟩
set_option maxRecDepth 100000 in
theorem inv_zero_calls (w : World) : Calls Try.prog 15 #[.int .u8 0] w fun e w' => e = .returned (.tuple #[.int .u8 0, .int .i64 1]) ∧ Below w.heap.size w w' := by
  go_enter Try.func15, Try.ntmps15
  go_wp2
  go_ret2
  exact ⟨rfl, Below.refl _ _⟩
theorem field_Inv.calls (a0 r1 r2 : Int) (w : World) (h : field_Inv.f a0 = some (r1, r2)) :
    Calls Try.prog 15 #[.int .u8 a0] w fun e w' => e = .returned (.tuple #[.int .u8 r1, .int .i64 r2]) ∧ Below w.heap.size w w' := by
  unfold field_Inv.f at h
  by_cases c : isB a0
  · rw [if_pos c] at h
    by_cases h1 : a0 = 0
    · rw [if_pos h1] at h
      simp only [Option.some.injEq, Prod.mk.injEq] at h
      obtain ⟨rfl, rfl⟩ := h
      subst h1; exact inv_zero_calls w
    · rw [if_neg h1] at h
      simp only [Option.some.injEq, Prod.mk.injEq] at h
      obtain ⟨rfl, rfl⟩ := h
      exact inv_calls a0 (beq_eq_false_iff_ne.2 h1) c.1 c.2 _ ⟨inv_of_table c h1⟩ w
  · rw [if_neg c] at h; cases h
def field_Pow.f (a0 a1 : Int) : Option (Int × Int) := if isB a0 then (if a1 < 0 then some (0, 1) else some (gp a0 a1.toNat, 0)) else none
set_option maxRecDepth 100000 in
set_option maxHeartbeats 1000000 in
theorem pow_calls (a n : Int) (hn : decide (n < 0) = false) (hn0 : (n == 0) = false) (ha : (a == 0) = false) (a0 : 0 ≤ a) (a1 : a < 256) (n0 : 0 < n) (r : Int) (hr : Aside0 (pw ((lg 255 a * (n % 255) % 255).toNat % 255) = r)) (w : World) : Calls Try.prog 19 #[.int .u8 a, .int .i64 n] w fun e w' => e = .returned (.tuple #[.int .u8 r, .int .i64 0]) ∧ Below w.heap.size w w' := by
  have l1 := lg_lt a
  have hm0 : 0 ≤ n % 255 := by omega
  have hm1 : n % 255 < 255 := by omega
  have hp0 : 0 ≤ lg 255 a * (n % 255) := Int.mul_nonneg l1.1 hm0
  have hp1 : lg 255 a * (n % 255) ≤ 64516 := by
    have := Int.mul_le_mul (a := lg 255 a) (b := n % 255) (c := 254) (d := 254) (by omega) (by omega) hm0 (by omega)
    simpa using this
  have e1 := run_exp
  have e2 := run_log
  have e3 := run_at_log a a0 a1
  have e5 := run_at_exp (lg 255 a * (n % 255) % 255) (by omega) (by omega)
  have t1 : n.tmod 255 = n % 255 := Int.tmod_eq_emod_of_nonneg (by omega)
  have t2 : (lg 255 a * (n % 255)).tmod 255 = lg 255 a * (n % 255) % 255 := Int.tmod_eq_emod_of_nonneg hp0
  have t3 : IntKind.i64.wrap (lg 255 a * (n % 255)) = lg 255 a * (n % 255) := IntWalk.i64_in _ (by omega)
  have t4 : wrap64 (lg 255 a * (n % 255)) = lg 255 a * (n % 255) := by unfold wrap64; omega
  go_enter Try.func19, Try.ntmps19
  go_wp2_with (go_at_call 25; refine (known_calls _).mono ?_; rintro e w1 ⟨rfl, hb1⟩)
  go_ret2
  exact ⟨by rw [← hr.out]; rfl, below_next (by assumption) (by assumption)⟩
set_option maxRecDepth 100000 in
theorem pow_neg_calls (a n : Int) (hn : decide (n < 0) = true) (w : World) : Calls Try.prog 19 #[.int .u8 a, .int .i64 n] w fun e w' => e = .returned (.tuple #[.int .u8 0, .int .i64 1]) ∧ Below w.heap.size w w' := by
  go_enter Try.func19, Try.ntmps19
  go_wp2
  go_ret2
  exact ⟨rfl, Below.refl _ _⟩
set_option maxRecDepth 100000 in
theorem pow_none_calls (a : Int) (w : World) : Calls Try.prog 19 #[.int .u8 a, .int .i64 0] w fun e w' => e = .returned (.tuple #[.int .u8 1, .int .i64 0]) ∧ Below w.heap.size w w' := by
  go_enter Try.func19, Try.ntmps19
  go_wp2
  go_ret2
  exact ⟨rfl, Below.refl _ _⟩
set_option maxRecDepth 100000 in
theorem pow_zero_calls (n : Int) (hn : decide (n < 0) = false) (hn0 : (n == 0) = false) (w : World) : Calls Try.prog 19 #[.int .u8 0, .int .i64 n] w fun e w' => e = .returned (.tuple #[.int .u8 0, .int .i64 0]) ∧ Below w.heap.size w w' := by
  go_enter Try.func19, Try.ntmps19
  go_wp2
  go_ret2
  exact ⟨rfl, Below.refl _ _⟩
theorem field_Pow.calls (a0 a1 r1 r2 : Int) (w : World) (h : field_Pow.f a0 a1 = some (r1, r2)) :
    Calls Try.prog 19 #[.int .u8 a0, .int .i64 a1] w fun e w' => e = .returned (.tuple #[.int .u8 r1, .int .i64 r2]) ∧ Below w.heap.size w w' := by
  unfold field_Pow.f at h
  by_cases c : isB a0
  · rw [if_pos c] at h
    by_cases h1 : a1 < 0
    · rw [if_pos h1] at h
      simp only [Option.some.injEq, Prod.mk.injEq] at h
      obtain ⟨rfl, rfl⟩ := h
      exact pow_neg_calls a0 a1 (decide_eq_true h1) w
    · rw [if_neg h1] at h
      simp only [Option.some.injEq, Prod.mk.injEq] at h
      obtain ⟨rfl, rfl⟩ := h
      by_cases h2 : a1 = 0
      · subst h2; exact pow_none_calls a0 w
      · by_cases h3 : a0 = 0
        · subst h3
          have e : gp 0 a1.toNat = 0 := by unfold gp; rw [toG_zero, zero_pow _ (by omega)]; rfl
          rw [e]; exact pow_zero_calls a1 (decide_eq_false h1) (beq_eq_false_iff_ne.2 h2) w
        · exact pow_calls a0 a1 (decide_eq_false h1) (beq_eq_false_iff_ne.2 h2) (beq_eq_false_iff_ne.2 h3) c.1 c.2 (by omega) _ ⟨pow_of_table c h3 a1 (by omega)⟩ w
  · rw [if_neg c] at h; cases h
def field_Exp.f (a0 : Int) : Option (Int × Int) := if a0 < 0 then some (0, 1) else if a0 ≥ 255 then some (0, 1) else some (ofG (GF.pow three a0.toNat), 0)
set_option maxRecDepth 100000 in
theorem exp_low_calls (n : Int) (hn : decide (n < 0) = true) (w : World) : Calls Try.prog 21 #[.int .i64 n] w fun e w' => e = .returned (.tuple #[.int .u8 0, .int .i64 1]) ∧ Below w.heap.size w w' := by
  go_enter Try.func21, Try.ntmps21
  go_wp2
  go_ret2
  exact ⟨rfl, Below.refl _ _⟩
set_option maxRecDepth 100000 in
theorem exp_high_calls (n : Int) (hn : decide (n < 0) = false) (hh : decide (255 ≤ n) = true) (w : World) : Calls Try.prog 21 #[.int .i64 n] w fun e w' => e = .returned (.tuple #[.int .u8 0, .int .i64 1]) ∧ Below w.heap.size w w' := by
  go_enter Try.func21, Try.ntmps21
  go_wp2
  go_ret2
  exact ⟨rfl, Below.refl _ _⟩
set_option maxRecDepth 100000 in
set_option maxHeartbeats 1000000 in
theorem exp_calls (n : Int) (hn : decide (n < 0) = false) (hh : decide (255 ≤ n) = false) (n0 : 0 ≤ n) (n1 : n < 255) (r : Int) (hr : Aside0 (pw (n.toNat % 255) = r)) (w : World) : Calls Try.prog 21 #[.int .i64 n] w fun e w' => e = .returned (.tuple #[.int .u8 r, .int .i64 0]) ∧ Below w.heap.size w w' := by
  have e1 := run_exp
  have e5 := run_at_exp n (by omega) (by omega)
  go_enter Try.func21, Try.ntmps21
  go_wp2_with (go_at_call 25; refine (known_calls _).mono ?_; rintro e w1 ⟨rfl, hb1⟩)
  go_ret2
  exact ⟨by rw [← hr.out]; rfl, by assumption⟩
theorem field_Exp.calls (a0 r1 r2 : Int) (w : World) (h : field_Exp.f a0 = some (r1, r2)) :
    Calls Try.prog 21 #[.int .i64 a0] w fun e w' => e = .returned (.tuple #[.int .u8 r1, .int .i64 r2]) ∧ Below w.heap.size w w' := by
  unfold field_Exp.f at h
  by_cases h1 : a0 < 0
  · rw [if_pos h1] at h
    simp only [Option.some.injEq, Prod.mk.injEq] at h
    obtain ⟨rfl, rfl⟩ := h
    exact exp_low_calls a0 (decide_eq_true h1) w
  · rw [if_neg h1] at h
    by_cases h2 : a0 ≥ 255
    · rw [if_pos h2] at h
      simp only [Option.some.injEq, Prod.mk.injEq] at h
      obtain ⟨rfl, rfl⟩ := h
      exact exp_high_calls a0 (decide_eq_false h1) (decide_eq_true h2) w
    · rw [if_neg h2] at h
      simp only [Option.some.injEq, Prod.mk.injEq] at h
      obtain ⟨rfl, rfl⟩ := h
      exact exp_calls a0 (decide_eq_false h1) (decide_eq_false h2) (by omega) (by omega) _ ⟨exp_of_table a0 (by omega) (by omega)⟩ w
def field_Log.f (a0 : Int) : Option (Int × Int) := if isB a0 then (if a0 = 0 then some (0, 1) else some (gl a0, 0)) else none
set_option maxRecDepth 100000 in
set_option maxHeartbeats 1000000 in
theorem log_calls (a : Int) (ha : (a == 0) = false) (a0 : 0 ≤ a) (a1 : a < 256) (w : World) : Calls Try.prog 23 #[.int .u8 a] w fun e w' => e = .returned (.tuple #[.int .i64 (gl a), .int .i64 0]) ∧ Below w.heap.size w w' := by
  have e2 := run_log
  have e3 := run_at_log a a0 a1
  go_enter Try.func23, Try.ntmps23
  go_wp2_with (go_at_call 25; refine (known_calls _).mono ?_; rintro e w1 ⟨rfl, hb1⟩)
  go_ret2
  exact ⟨rfl, by assumption⟩
set_option maxRecDepth 100000 in
theorem log_zero_calls (w : World) : Calls Try.prog 23 #[.int .u8 0] w fun e w' => e = .returned (.tuple #[.int .i64 0, .int .i64 1]) ∧ Below w.heap.size w w' := by
  go_enter Try.func23, Try.ntmps23
  go_wp2
  go_ret2
  exact ⟨rfl, Below.refl _ _⟩
theorem field_Log.calls (a0 r1 r2 : Int) (w : World) (h : field_Log.f a0 = some (r1, r2)) :
    Calls Try.prog 23 #[.int .u8 a0] w fun e w' => e = .returned (.tuple #[.int .i64 r1, .int .i64 r2]) ∧ Below w.heap.size w w' := by
  unfold field_Log.f at h
  by_cases c : isB a0
  · rw [if_pos c] at h
    by_cases h1 : a0 = 0
    · rw [if_pos h1] at h
      simp only [Option.some.injEq, Prod.mk.injEq] at h
      obtain ⟨rfl, rfl⟩ := h
      subst h1; exact log_zero_calls w
    · rw [if_neg h1] at h
      simp only [Option.some.injEq, Prod.mk.injEq] at h
      obtain ⟨rfl, rfl⟩ := h
      exact log_calls a0 (beq_eq_false_iff_ne.2 h1) c.1 c.2 w
  · rw [if_neg c] at h; cases h
end Go.Proofs.Ytemkpbekddceiaa.Hand
