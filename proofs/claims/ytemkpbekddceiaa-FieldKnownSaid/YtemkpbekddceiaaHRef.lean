/- The reference's product of two elements, worked out bit by bit, is the field's. -/
import Derived.Test.YtemkpbekddceiaaP1
set_option linter.unusedVariables false
set_option linter.unusedSimpArgs false
namespace Go.Proofs.Ytemkpbekddceiaa.Hand
open Go.RowKit Go.Proofs.Ytemkpbekddceiaa.P Go.Proofs.Ytemkpbekddceiaa.GF

theorem isB_ofG (g : G) : isB (ofG g) := ofG_range g
theorem isB_gm (a b : Int) : isB (gm a b) := ofG_range _
theorem isB_xor (a b : Int) : isB (Go.bits .xor .u8 a b) := by rw [bits_xor]; exact ofG_range _
theorem isB_of_wf {a : Int} (h : (Lit.int .u8 a).wf = true) : isB a := by
  simp [Lit.wf, IntKind.min, IntKind.max, IntKind.bits, IntKind.signed] at h
  exact ⟨h.1, by omega⟩
theorem toG_gm (a b : Int) : toG (gm a b) = mul (toG a) (toG b) := toG_ofG _
theorem toG_xor (a b : Int) : toG (Go.bits .xor .u8 a b) = toG a ^^^ toG b := by rw [bits_xor, toG_ofG]
theorem of_isB {a : Int} (h : isB a) : ∃ g : G, a = ofG g := ⟨toG a, (ofG_toG h.1 h.2).symm⟩
theorem mul_f {a b : Int} (ha : isB a) (hb : isB b) : field_Mul.f a b = some (gm a b) := if_pos ⟨ha, hb⟩
theorem wrap_small {i : Int} (h0 : 0 ≤ i) (h1 : i ≤ 9223372036854775807) : wrap64 i = i := by unfold wrap64; omega

theorem tx_succ (a : G) : ∀ i, tx a (i + 1) = xt (tx a i) := by
  intro i
  induction i generalizing a with
  | zero => rfl
  | succ n ih => exact ih (xt a)
theorem xt_high : ∀ g : G, (ofG g ≥ 128) → Go.bits .xor .u8 ((ofG g * 2) % 256) 27 = ofG (xt g) := by decide +kernel
theorem xt_low : ∀ g : G, ¬ (ofG g ≥ 128) → (ofG g * 2) % 256 = ofG (xt g) := by decide +kernel
/-- what the bits from i on select -/
def tail_ (a b : G) : Nat → Nat → G | _, 0 => 0#8 | i, d + 1 => sel (b.getLsbD i) (tx a i) ^^^ tail_ a b (i + 1) d
theorem tail_mul (a b : G) : tail_ a b 0 8 = mul a b := by
  simp only [tail_, BitVec.xor_zero]; rfl
theorem bit_test (b : G) (i : Nat) : ((Int.tmod ((b.toNat / 2 ^ i : Nat) : Int) 2) = 1) ↔ b.getLsbD i = true := by
  rw [Int.tmod_eq_emod_of_nonneg (Int.natCast_nonneg _), BitVec.getLsbD, Nat.testBit_eq_decide_div_mod_eq]
  simp only [decide_eq_true_eq]
  omega
theorem bit_next (b : G) (i : Nat) : (Int.tdiv ((b.toNat / 2 ^ i : Nat) : Int) 2) % 256 = ((b.toNat / 2 ^ (i + 1) : Nat) : Int) := by
  rw [Int.tdiv_eq_ediv_of_nonneg (Int.natCast_nonneg _), Nat.pow_succ, ← Nat.div_div_eq_div_mul]
  have := b.isLt
  have : b.toNat / 2 ^ i ≤ b.toNat := Nat.div_le_self _ _
  generalize b.toNat / 2 ^ i = q at *
  omega
theorem refmul_loop (a b : G) (d : Nat) : ∀ (i k : Nat) (s : G), i + d = 8 → d < k →
    braidworkref01_Mul.l0 k (ofG (tx a i)) ((b.toNat / 2 ^ i : Nat) : Int) (ofG s) i = some (ofG (s ^^^ tail_ a b i d)) := by
  induction d with
  | zero =>
    intro i k s hi hk
    obtain ⟨k, rfl⟩ : ∃ m, k = m + 1 := ⟨k - 1, by omega⟩
    simp only [braidworkref01_Mul.l0]
    rw [if_neg (by omega)]
    simp [tail_]
  | succ d ih =>
    intro i k s hi hk
    obtain ⟨k, rfl⟩ : ∃ m, k = m + 1 := ⟨k - 1, by omega⟩
    simp only [braidworkref01_Mul.l0]
    have hw : wrap64 ((i : Int) + 1) = ((i + 1 : Nat) : Int) := by unfold wrap64; omega
    rw [if_pos (by omega), hw, bit_next]
    have e : (tail_ a b i (d + 1)) = sel (b.getLsbD i) (tx a i) ^^^ tail_ a b (i + 1) d := rfl
    rw [e]
    by_cases hb : b.getLsbD i = true
    · rw [if_pos ((bit_test b i).2 hb), bits_xor (ofG s), toG_ofG, toG_ofG, hb]
      have hs : sel true (tx a i) = tx a i := rfl
      rw [hs, ← BitVec.xor_assoc]
      by_cases hh : ofG (tx a i) ≥ 128
      · rw [if_pos hh, xt_high _ hh, ← tx_succ]; exact ih (i + 1) k _ (by omega) (by omega)
      · rw [if_neg hh, xt_low _ hh, ← tx_succ]; exact ih (i + 1) k _ (by omega) (by omega)
    · rw [if_neg (fun h => hb ((bit_test b i).1 h))]
      have hs : sel (b.getLsbD i) (tx a i) = 0#8 := by simp [sel, hb]
      rw [hs, BitVec.zero_xor]
      by_cases hh : ofG (tx a i) ≥ 128
      · rw [if_pos hh, xt_high _ hh, ← tx_succ]; exact ih (i + 1) k _ (by omega) (by omega)
      · rw [if_neg hh, xt_low _ hh, ← tx_succ]; exact ih (i + 1) k _ (by omega) (by omega)
theorem ref_mul {a b : Int} (ha : isB a) (hb : isB b) {k : Nat} (hk : 8 < k) : braidworkref01_Mul.f k a b = some (gm a b) := by
  obtain ⟨x, rfl⟩ := of_isB ha
  obtain ⟨y, rfl⟩ := of_isB hb
  have h := refmul_loop x y 8 0 k 0#8 rfl hk
  unfold braidworkref01_Mul.f
  have e : ((y.toNat / 2 ^ 0 : Nat) : Int) = ofG y := by simp [ofG]
  rw [e, tail_mul, BitVec.zero_xor] at h
  have e2 : gm (ofG x) (ofG y) = ofG (mul x y) := by unfold gm; rw [toG_ofG, toG_ofG]
  rw [e2]; exact h
end Go.Proofs.Ytemkpbekddceiaa.Hand
