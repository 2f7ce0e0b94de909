/- FieldLogs, over numbers alone: exponents of products are sums, powers add up. -/
import Derived.Test.YtemkpbekddceiaaHFieldRef
import Derived.Test.YtemkpbekddceiaaP2
import Derived.Test.YtemkpbekddceiaaHSquares
set_option linter.unusedVariables false
set_option linter.unusedSimpArgs false
namespace Go.Proofs.Ytemkpbekddceiaa.Hand
open Go.RowKit Go.Proofs.Ytemkpbekddceiaa.P Go.Proofs.Ytemkpbekddceiaa.GF

theorem gm_gp (a : Int) (m n : Nat) : gm (gp a m) (gp a n) = gp a (m + n) := by
  unfold gm gp; rw [toG_ofG, toG_ofG, pow_add]
theorem gp_255 {a : Int} (ha : isB a) (h : a ≠ 0) : gp a 255 = 1 := by
  obtain ⟨k, _, _, hp⟩ := gl_spec ha.1 ha.2 h
  unfold gp; rw [← hp, ← pow_mul, Nat.mul_comm, pow_mul, three_255, one_pow]; rfl
theorem gl_range {a : Int} (ha : isB a) (h : a ≠ 0) : 0 ≤ gl a ∧ gl a < 255 := by
  obtain ⟨k, e, hk, _⟩ := gl_spec ha.1 ha.2 h
  omega
theorem gm_ne {a b : Int} (ha : isB a) (hb : isB b) (h1 : a ≠ 0) (h2 : b ≠ 0) : gm a b ≠ 0 := fun e => by
  have := (r_mul_none ha hb).1 (by unfold ml; exact e)
  exact this.elim h1 h2
theorem gl_gm {a b : Int} (ha : isB a) (hb : isB b) (h1 : a ≠ 0) (h2 : b ≠ 0) : gl (gm a b) = Int.tmod (wrap64 (gl a + gl b)) 255 := by
  obtain ⟨k, e1, k1, p1⟩ := gl_spec ha.1 ha.2 h1
  obtain ⟨l, e2, l1, p2⟩ := gl_spec hb.1 hb.2 h2
  obtain ⟨m, e3, m1, p3⟩ := gl_spec (isB_gm a b).1 (isB_gm a b).2 (gm_ne ha hb h1 h2)
  have : m = (k + l) % 255 := pow_inj m1 (Nat.mod_lt _ (by omega)) (by rw [p3, toG_gm, ← p1, ← p2, ← pow_add, pow_mod])
  have hw : wrap64 ((k : Int) + l) = ((k + l : Nat) : Int) := by unfold wrap64; omega
  rw [e1, e2, e3, hw, Int.tmod_eq_emod_of_nonneg (Int.natCast_nonneg _), this]; rfl
theorem exp_gl {a : Int} (ha : isB a) (h : a ≠ 0) : gex (gl a) = (a, 0) := by
  obtain ⟨k, e1, k1, p1⟩ := gl_spec ha.1 ha.2 h
  unfold gex
  rw [e1, if_neg (by omega), if_neg (by omega), Int.toNat_natCast, p1, ofG_toG ha.1 ha.2]
theorem mod20 {n : Int} (h0 : 0 ≤ n) : ∃ x : Nat, wrap64 (Int.tmod n 1048576) = (x : Int) ∧ x < 1048576 := by
  rw [Int.tmod_eq_emod_of_nonneg h0]
  exact ⟨(n % 1048576).toNat, by unfold wrap64; omega, by omega⟩
set_option maxRecDepth 100000 in
theorem logs_j1 {a b : Int} (ha : isB a) (hb : isB b) (k : Nat) (t : Bool) (ht : t = true ∨ (a ≠ 0 ∧ b ≠ 0)) : braidworklaw01_FieldLogs.j1 (k + 1) a b t = some true := by
  simp only [braidworklaw01_FieldLogs.j1]
  by_cases h : t = true
  · rw [if_pos h, log_f (a := 0) ⟨by omega, by omega⟩, awake_f]; rfl
  · rw [if_neg h]
    have h2 := ht.resolve_left h
    rw [log_f ha, log_f hb, mul_f ha hb]
    simp only [Option.bind_some]
    rw [log_f (isB_gm a b)]
    simp only [Option.bind_some]
    unfold glo
    rw [if_neg h2.1, if_neg h2.2, if_neg (gm_ne ha hb h2.1 h2.2)]
    simp only [Option.bind_some]
    have hg : gpw a 255 = (1, 0) := by
      unfold gpw
      rw [if_neg (by decide)]
      show (gp a 255, (0 : Int)) = _
      rw [gp_255 ha h2.1]
    rw [exp_f, exp_gl ha h2.1, pow_f ha, awake_f, hg]
    simp only [Option.bind_some]
    simp only [if_true]
    rw [if_pos (gl_gm ha hb h2.1 h2.2)]
    rfl
set_option maxRecDepth 100000 in
theorem logs_f {a b n m : Int} (ha : isB a) (hb : isB b) (hn : 0 ≤ n) (hm : 0 ≤ m) : braidworklaw01_FieldLogs.f 2 a b n m = some true := by
  unfold braidworklaw01_FieldLogs.f
  obtain ⟨x, e1, l1⟩ := mod20 hn
  obtain ⟨y, e2, l2⟩ := mod20 hm
  rw [e1, e2]
  have e3 : wrap64 ((x : Int) + (y : Int)) = ((x + y : Nat) : Int) := by unfold wrap64; omega
  rw [e3, pow_f ha, pow_f ha, pow_f ha]
  simp only [Option.bind_some]
  have g : ∀ x : Nat, gpw a (x : Int) = (gp a x, 0) := fun x => by unfold gpw; rw [if_neg (by omega), Int.toNat_natCast]
  rw [g, g, g]
  simp only [if_true]
  rw [mul_f (isB_gp _ _) (isB_gp _ _)]
  simp only [Option.bind_some]
  rw [gm_gp]
  have hne : (gp a (x + y) != gp a (x + y)) = false := by simp
  rw [hne]
  simp only [braidworklaw01_FieldLogs.j0]
  rw [if_neg (by decide)]
  by_cases h : a = 0
  · rw [if_pos h]; exact logs_j1 ha hb 0 true (.inl rfl)
  · rw [if_neg h]
    refine logs_j1 ha hb 0 _ ?_
    by_cases h2 : b = 0
    · left; simp [h2]
    · right; exact ⟨h, h2⟩
theorem wf_u32 {a : Int} (h : (Lit.int .u32 a).wf = true) : 0 ≤ a := by
  simp [Lit.wf, IntKind.min, IntKind.max, IntKind.bits, IntKind.signed] at h
  omega
theorem logs_calls (a b n m : Int) (ha : isB a) (hb : isB b) (hn : 0 ≤ n) (hm : 0 ≤ m) (w : World) : Calls Try.prog 8 #[.agg #[.int .u8 a, .int .u8 b, .int .u32 n, .int .u32 m]] w fun e w' => e = .returned (.bool true) ∧ Below w.heap.size w w' :=
  braidworklaw01_FieldLogs.calls 2 a b n m true w (logs_f ha hb hn hm)
end Go.Proofs.Ytemkpbekddceiaa.Hand
