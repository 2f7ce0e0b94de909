/- FieldBits, as a statement over numbers alone: a product with 2 is a shift, and a product is told by the bits of one of both. -/
import Derived.Test.YtemkpbekddceiaaHFieldRef
import Derived.Test.YtemkpbekddceiaaP1
namespace Go.Proofs.Ytemkpbekddceiaa.Pure
open Go.Proofs.Ytemkpbekddceiaa.Hand Go.RowKit Go.Proofs.Ytemkpbekddceiaa.P Go.Proofs.Ytemkpbekddceiaa.GF Go.Proofs.YtemkpbekddceiaaW.PrintWords Go.Proofs.YtemkpbekddceiaaW.PrintLast Go.Proofs.YtemkpbekddceiaaW.PrintMore

theorem dbl_high : ∀ g : G, wrap64 (wrap64 (ofG g) * 2) > 255 → (Go.bits .xor .i64 (wrap64 (wrap64 (ofG g) * 2)) 283) % 256 = ofG (xt g) := by decide +kernel
theorem dbl_low : ∀ g : G, ¬ (wrap64 (wrap64 (ofG g) * 2) > 255) → (wrap64 (wrap64 (ofG g) * 2)) % 256 = ofG (xt g) := by decide +kernel
theorem mul_two : ∀ g : G, gm (ofG g) 2 = ofG (xt g) := by decide +kernel
theorem bit_and (g : G) (i : Nat) (hi : i < 8) : (Go.bits .and .u8 (shr .u8 (ofG g) i) 1 = 1) ↔ g.getLsbD i = true := by
  have hs : shr .u8 (ofG g) i = ((g.toNat / 2 ^ i : Nat) : Int) := by
    unfold shr ofG
    rw [Int.toNat_natCast, Nat.min_eq_left (show i ≤ IntKind.u8.bits from by simp [IntKind.bits]; omega), Int.natCast_ediv]
    rfl
  have hlt : g.toNat / 2 ^ i < 256 := Nat.lt_of_le_of_lt (Nat.div_le_self _ _) g.isLt
  have hm := bits_mask .u8 8 (by decide) wraps_u8 1 (by decide) ((g.toNat / 2 ^ i : Nat) : Int) (Int.natCast_nonneg _) (by generalize g.toNat / 2 ^ i = q at *; omega)
  rw [hs]
  have h1 : (2 ^ 1 - 1 : Int) = 1 := by decide
  rw [h1] at hm
  rw [hm, BitVec.getLsbD, Nat.testBit_eq_decide_div_mod_eq]
  simp only [decide_eq_true_eq]
  generalize g.toNat / 2 ^ i = q at *
  omega
theorem bits_loop (a b : G) (d : Nat) : ∀ (i k : Nat) (s : G), i + d = 8 → 2 * d < k → s ^^^ tail_ a b i d = mul a b →
    braidworklaw01_FieldBits.l0 k (ofG a) (ofG b) (ofG s) (ofG (tx a i)) i = some true := by
  induction d with
  | zero =>
    intro i k s hi hk h
    obtain ⟨k, rfl⟩ : ∃ m, k = m + 1 := ⟨k - 1, by omega⟩
    simp only [braidworklaw01_FieldBits.l0]
    rw [if_neg (by omega), awake_f, mul_f (isB_ofG a) (isB_ofG b)]
    simp only [Option.bind_some, if_true]
    have e : s = mul a b := by rw [← h]; simp [tail_]
    have e2 : gm (ofG a) (ofG b) = ofG (mul a b) := by unfold gm; rw [toG_ofG, toG_ofG]
    rw [e2, e]; simp
  | succ d ih =>
    intro i k s hi hk h
    obtain ⟨k, rfl⟩ : ∃ m, k = m + 2 := ⟨k - 2, by omega⟩
    have hw : wrap64 ((i : Int) + 1) = ((i + 1 : Nat) : Int) := by unfold wrap64; omega
    have round : ∀ s' : G, s' ^^^ tail_ a b (i + 1) d = mul a b → braidworklaw01_FieldBits.j1 (k + 1) (ofG a) (ofG b) (ofG s') (ofG (tx a i)) i = some true := fun s' hs' => by
      simp only [braidworklaw01_FieldBits.j1]
      rw [mul_f (isB_ofG _) (b := 2) ⟨by omega, by omega⟩, mul_two, hw]
      by_cases hh : wrap64 (wrap64 (ofG (tx a i)) * 2) > 255
      · rw [if_pos hh, dbl_high _ hh]
        simp only [Option.bind_some, if_true]
        rw [← tx_succ]; exact ih (i + 1) k s' (by omega) (by omega) hs'
      · rw [if_neg hh, dbl_low _ hh]
        simp only [Option.bind_some, if_true]
        rw [← tx_succ]; exact ih (i + 1) k s' (by omega) (by omega) hs'
    simp only [braidworklaw01_FieldBits.l0]
    rw [if_pos (by omega), if_pos (by omega)]
    have e : tail_ a b i (d + 1) = sel (b.getLsbD i) (tx a i) ^^^ tail_ a b (i + 1) d := rfl
    rw [e] at h
    by_cases hb : b.getLsbD i = true
    · rw [if_pos ((bit_and b i (by omega)).2 hb)]
      have hs : sel (b.getLsbD i) (tx a i) = tx a i := by rw [hb]; rfl
      rw [hs, ← BitVec.xor_assoc] at h
      have ea : field_Add.f (ofG s) (ofG (tx a i)) = some (ofG (s ^^^ tx a i)) := by unfold field_Add.f; rw [bits_xor, toG_ofG, toG_ofG]
      rw [ea, Option.bind_some]
      have h9 := round _ h
      exact h9
    · rw [if_neg (fun hh => hb ((bit_and b i (by omega)).1 hh))]
      have hs : sel (b.getLsbD i) (tx a i) = 0#8 := by simp [sel, hb]
      rw [hs, BitVec.zero_xor] at h
      exact round _ h

theorem FieldBits : braidworklaw01_FieldBits.Pure := by
  intro a b wa wb
  obtain ⟨x, rfl⟩ := of_isB (isB_of_wf wa)
  obtain ⟨y, rfl⟩ := of_isB (isB_of_wf wb)
  refine ⟨400, ?_⟩
  exact bits_loop x y 8 0 400 0#8 rfl (by omega) (by rw [tail_mul, BitVec.zero_xor])

end Go.Proofs.Ytemkpbekddceiaa.Pure
