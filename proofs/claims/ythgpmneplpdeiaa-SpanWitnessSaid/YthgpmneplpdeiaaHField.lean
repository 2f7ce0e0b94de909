/- The contracts of field.Mul, Inv, Pow, Exp, Log: what each call answers, in the field of 256 elements. -/
import Derived.Test.YthgpmneplpdeiaaHMath
set_option linter.unusedVariables false
set_option linter.unusedSimpArgs false
namespace Go.Proofs.Ythgpmneplpdeiaa.Hand
open Go.RowKit Go.Proofs.YthgpmneplpdeiaaW.PrintWords Go.Proofs.YthgpmneplpdeiaaW.PrintLast Go.Proofs.YthgpmneplpdeiaaW.PrintMore
theorem below_next {w w1 w2 : World} (h : Below w.heap.size w w1) (k : Below w1.heap.size w1 w2) : Below w.heap.size w w2 := below_then h h.size k
def field_Mul.f (a0 a1 : Int) : Option Int := if isB a0 ∧ isB a1 then some (gm a0 a1) else none
set_option maxRecDepth 100000 in
theorem mul_zero_calls (a b : Int) (h : a = 0 ∨ b = 0) (w : World) : Calls Try.prog 54 #[.int .u8 a, .int .u8 b] w fun e w' => e = .returned (.int .u8 0) ∧ Below w.heap.size w w' := by
  by_cases h1 : (a == 0) = true
  · go_enter Try.func54, Try.ntmps54
    go_wp2
    go_ret
    exact ⟨rfl, Below.refl _ _⟩
  · have h1 : (a == 0) = false := by simpa using h1
    have h2 : (b == 0) = true := by
      rcases h with h | h
      · subst h; simp at h1
      · subst h; rfl
    clear h
    go_enter Try.func54, Try.ntmps54
    go_wp2
    go_ret
    exact ⟨rfl, Below.refl _ _⟩
set_option maxRecDepth 100000 in
set_option maxHeartbeats 1000000 in
theorem mul_calls (a b : Int) (ha : (a == 0) = false) (hb : (b == 0) = false) (a0 : 0 ≤ a) (a1 : a < 256) (b0 : 0 ≤ b) (b1 : b < 256) (r : Int) (hr : Aside0 (pw ((lg 255 a + lg 255 b).toNat % 255) = r)) (w : World) : Calls Try.prog 54 #[.int .u8 a, .int .u8 b] w fun e w' => e = .returned (.int .u8 r) ∧ Below w.heap.size w w' := by
  have l1 := lg_lt a
  have l2 := lg_lt b
  have e1 := run_exp
  have e2 := run_log
  have e3 := run_at_log a a0 a1
  have e4 := run_at_log b b0 b1
  have e5 := run_at_exp (lg 255 a + lg 255 b) (by omega) (by omega)
  have e6 : IntKind.i64.wrap (lg 255 a + lg 255 b) = lg 255 a + lg 255 b := IntWalk.i64_in _ (by omega)
  go_enter Try.func54, Try.ntmps54
  go_wp2
  refine start_ (n := 13) (S := fun _ => True) (ds := []) #[false, false, false, false, false, false, false, false, false, false, false, false, false] (by kernel_rfl) rfl rfl trivial (fun _ => ?_)
  refine pure_ (i := 4) (N := some 15) (v := ?_) (a' := ?_) #[false, false, false, false, true, false, false, false, false, false, false, false, false] rfl rfl (by kernel_rfl) (fun _ _ _ h => h) (Or.inl ⟨by rfl, ?_⟩) ?_ ?_
  rotate_left
  · intro w'
    go_simp
    with_reducible rfl
  rotate_left
  · simp only [Act.put, List.setIfInBounds_toArray, List.set_cons_zero, List.set_cons_succ]
    rfl
  refine pure_ (i := 8) (N := some 19) (v := ?_) (a' := ?_) #[false, false, false, false, true, false, false, false, true, false, false, false, false] rfl rfl (by kernel_rfl) (fun _ _ _ h => h) (Or.inl ⟨by rfl, ?_⟩) ?_ ?_
  rotate_left
  · intro w'
    go_simp
    with_reducible rfl
  rotate_left
  · simp only [Act.put, List.setIfInBounds_toArray, List.set_cons_zero, List.set_cons_succ]
    rfl
  refine one_ (i := 0) (N := some 11) #[true, false, false, false, true, false, false, false, true, false, false, false, false] rfl rfl (by kernel_rfl) (by decide) (fun K hK => ?_)
  refine goes_ Try.func68 (by kernel_rfl) rfl #[] (by rfl) rfl rfl (by (try simp only [List.map_toArray, List.map_cons, List.map_nil]); first | done | rfl) ?_
  refine (known_calls _).mono ?_
  rintro e w1 ⟨rfl, hb1⟩
  refine ⟨_, rfl, ?_⟩
  refine hK.out _ _ trivial (fun _ => ?_)
  clear hK K
  refine norm_ (a' := ?_) ?_ ?_
  rotate_left
  · show Act.put _ (some 11) _ = _
    simp only [Act.put, List.setIfInBounds_toArray, List.set_cons_zero, List.set_cons_succ]
    rfl
  refine pure_ (i := 1) (N := some 12) (v := ?_) (a' := ?_) #[true, true, false, false, true, false, false, false, true, false, false, false, false] rfl rfl (by kernel_rfl) (fun _ _ _ h => h) (Or.inl ⟨by rfl, ?_⟩) ?_ ?_
  rotate_left
  · intro w'
    go_simp
    with_reducible rfl
  rotate_left
  · simp only [Act.put, List.setIfInBounds_toArray, List.set_cons_zero, List.set_cons_succ]
    rfl
  refine one_ (i := 2) (N := some 13) #[true, true, true, false, true, false, false, false, true, false, false, false, false] rfl rfl (by kernel_rfl) (by decide) (fun K hK => ?_)
  refine goes_ Try.func68 (by kernel_rfl) rfl #[] (by rfl) rfl rfl (by (try simp only [List.map_toArray, List.map_cons, List.map_nil]); first | done | rfl) ?_
  refine (known_calls _).mono ?_
  rintro e w2 ⟨rfl, hb2⟩
  refine ⟨_, rfl, ?_⟩
  refine hK.out _ _ trivial (fun _ => ?_)
  clear hK K
  refine norm_ (a' := ?_) ?_ ?_
  rotate_left
  · show Act.put _ (some 13) _ = _
    simp only [Act.put, List.setIfInBounds_toArray, List.set_cons_zero, List.set_cons_succ]
    rfl
  refine pure_ (i := 3) (N := some 14) (v := ?_) (a' := ?_) #[true, true, true, true, true, false, false, false, true, false, false, false, false] rfl rfl (by kernel_rfl) (fun _ _ _ h => h) (Or.inl ⟨by rfl, ?_⟩) ?_ ?_
  rotate_left
  · intro w'
    go_simp
    with_reducible rfl
  rotate_left
  · simp only [Act.put, List.setIfInBounds_toArray, List.set_cons_zero, List.set_cons_succ]
    rfl
  refine pure_ (i := 5) (N := some 16) (v := ?_) (a' := ?_) #[true, true, true, true, true, true, false, false, true, false, false, false, false] rfl rfl (by kernel_rfl) (fun _ _ _ h => h) (Or.inl ⟨by rfl, ?_⟩) ?_ ?_
  rotate_left
  · intro w'
    go_simp
    with_reducible rfl
  rotate_left
  · simp only [Act.put, List.setIfInBounds_toArray, List.set_cons_zero, List.set_cons_succ]
    rfl
  refine one_ (i := 6) (N := some 17) #[true, true, true, true, true, true, true, false, true, false, false, false, false] rfl rfl (by kernel_rfl) (by decide) (fun K hK => ?_)
  refine goes_ Try.func68 (by kernel_rfl) rfl #[] (by rfl) rfl rfl (by (try simp only [List.map_toArray, List.map_cons, List.map_nil]); first | done | rfl) ?_
  refine (known_calls _).mono ?_
  rintro e w3 ⟨rfl, hb3⟩
  refine ⟨_, rfl, ?_⟩
  refine hK.out _ _ trivial (fun _ => ?_)
  clear hK K
  refine norm_ (a' := ?_) ?_ ?_
  rotate_left
  · show Act.put _ (some 17) _ = _
    simp only [Act.put, List.setIfInBounds_toArray, List.set_cons_zero, List.set_cons_succ]
    rfl
  refine pure_ (i := 7) (N := some 18) (v := ?_) (a' := ?_) #[true, true, true, true, true, true, true, true, true, false, false, false, false] rfl rfl (by kernel_rfl) (fun _ _ _ h => h) (Or.inl ⟨by rfl, ?_⟩) ?_ ?_
  rotate_left
  · intro w'
    go_simp
    with_reducible rfl
  rotate_left
  · simp only [Act.put, List.setIfInBounds_toArray, List.set_cons_zero, List.set_cons_succ]
    rfl
  refine pure_ (i := 9) (N := some 20) (v := ?_) (a' := ?_) #[true, true, true, true, true, true, true, true, true, true, false, false, false] rfl rfl (by kernel_rfl) (fun _ _ _ h => h) (Or.inl ⟨by rfl, ?_⟩) ?_ ?_
  rotate_left
  · intro w'
    go_simp
    with_reducible rfl
  rotate_left
  · simp only [Act.put, List.setIfInBounds_toArray, List.set_cons_zero, List.set_cons_succ]
    rfl
  refine pure_ (i := 10) (N := some 21) (v := ?_) (a' := ?_) #[true, true, true, true, true, true, true, true, true, true, true, false, false] rfl rfl (by kernel_rfl) (fun _ _ _ h => h) (Or.inl ⟨by rfl, ?_⟩) ?_ ?_
  rotate_left
  · intro w'
    go_simp
    with_reducible rfl
  rotate_left
  · simp only [Act.put, List.setIfInBounds_toArray, List.set_cons_zero, List.set_cons_succ]
    rfl
  refine pure_ (i := 11) (N := some 22) (v := ?_) (a' := ?_) #[true, true, true, true, true, true, true, true, true, true, true, true, false] rfl rfl (by kernel_rfl) (fun _ _ _ h => h) (Or.inl ⟨by rfl, ?_⟩) ?_ ?_
  rotate_left
  · intro w'
    go_simp
    with_reducible rfl
  rotate_left
  · simp only [Act.put, List.setIfInBounds_toArray, List.set_cons_zero, List.set_cons_succ]
    rfl
  refine pure_ (i := 12) (N := some 4) (v := ?_) (a' := ?_) #[true, true, true, true, true, true, true, true, true, true, true, true, true] rfl rfl (by kernel_rfl) (fun _ _ _ h => h) (Or.inl ⟨by rfl, ?_⟩) ?_ ?_
  rotate_left
  · intro w'
    go_simp
    with_reducible rfl
  rotate_left
  · simp only [Act.put, List.setIfInBounds_toArray, List.set_cons_zero, List.set_cons_succ]
    rfl
  refine done_ (by kernel_rfl) ?_
  clear e1 e2 e3 e4 e5 e6
  go_wp2
  go_ret
  exact ⟨by rw [← hr.out]; rfl, below_next (below_next (below_next (below_drew1 (Below.refl _ _)) hb1) hb2) hb3⟩
theorem field_Mul.calls (a0 a1 r : Int) (w : World) (h : field_Mul.f a0 a1 = some r) :
    Calls Try.prog 54 #[.int .u8 a0, .int .u8 a1] w fun e w' => e = .returned (.int .u8 r) ∧ Below w.heap.size w w' := by
  unfold field_Mul.f at h
  by_cases c : isB a0 ∧ isB a1
  · rw [if_pos c] at h
    obtain rfl := Option.some.inj h
    by_cases h1 : a0 = 0 ∨ a1 = 0
    · rw [gm_zero h1]; exact mul_zero_calls a0 a1 h1 w
    · have h2 : a0 ≠ 0 := fun e => h1 (.inl e)
      have h3 : a1 ≠ 0 := fun e => h1 (.inr e)
      exact mul_calls a0 a1 (beq_eq_false_iff_ne.2 h2) (beq_eq_false_iff_ne.2 h3) c.1.1 c.1.2 c.2.1 c.2.2 _ ⟨mul_of_table c.1 c.2 h2 h3⟩ w
  · rw [if_neg c] at h; cases h
def field_Inv.f (a0 : Int) : Option (Int × Int) := if isB a0 then (if a0 = 0 then some (0, 1) else some (gi a0, 0)) else none
set_option maxRecDepth 100000 in
set_option maxHeartbeats 1000000 in
theorem inv_calls (a : Int) (ha : (a == 0) = false) (a0 : 0 ≤ a) (a1 : a < 256) (r : Int) (hr : Aside0 (pw ((255 - lg 255 a).toNat % 255) = r)) (w : World) : Calls Try.prog 65 #[.int .u8 a] w fun e w' => e = .returned (.tuple #[.int .u8 r, .int .i64 0]) ∧ Below w.heap.size w w' := by
  have l1 := lg_lt a
  have e1 := run_exp
  have e2 := run_log
  have e3 := run_at_log a a0 a1
  have e5 := run_at_exp (255 - lg 255 a) (by omega) (by omega)
  go_enter Try.func65, Try.ntmps65
  go_wp2_with (go_at_call 68; refine (known_calls _).mono ?_; rintro e w1 ⟨rfl, hb1⟩)
  go_ret2
  exact ⟨by rw [← hr.out]; rfl, below_next (by assumption) (by assumption)⟩
set_option maxRecDepth 100000 in
theorem inv_zero_calls (w : World) : Calls Try.prog 65 #[.int .u8 0] w fun e w' => e = .returned (.tuple #[.int .u8 0, .int .i64 1]) ∧ Below w.heap.size w w' := by
  go_enter Try.func65, Try.ntmps65
  go_wp2
  go_ret2
  exact ⟨rfl, Below.refl _ _⟩
theorem field_Inv.calls (a0 r1 r2 : Int) (w : World) (h : field_Inv.f a0 = some (r1, r2)) :
    Calls Try.prog 65 #[.int .u8 a0] w fun e w' => e = .returned (.tuple #[.int .u8 r1, .int .i64 r2]) ∧ Below w.heap.size w w' := by
  unfold field_Inv.f at h
  by_cases c : isB a0
  · rw [if_pos c] at h
    by_cases h1 : a0 = 0
    · rw [if_pos h1] at h
      simp only [Option.some.injEq, Prod.mk.injEq] at h
      obtain ⟨rfl, rfl⟩ := h
      subst h1; exact inv_zero_calls w
    · rw [if_neg h1] at h
      simp only [Option.some.injEq, Prod.mk.injEq] at h
      obtain ⟨rfl, rfl⟩ := h
      exact inv_calls a0 (beq_eq_false_iff_ne.2 h1) c.1 c.2 _ ⟨inv_of_table c h1⟩ w
  · rw [if_neg c] at h; cases h
end Go.Proofs.Ythgpmneplpdeiaa.Hand
