/- The table's numbers are the field's: the powers of 3, their exponents, products, inverses, powers. -/
import Derived.Test.YtemkpbekddceiaaHTable
import Derived.Test.YtemkpbekddceiaaGF
set_option linter.unusedVariables false
set_option linter.unusedSimpArgs false
namespace Go.Proofs.Ytemkpbekddceiaa.Hand
open Go.Proofs.Ytemkpbekddceiaa.GF

def toG (z : Int) : G := BitVec.ofInt 8 z
def ofG (g : G) : Int := (g.toNat : Int)
theorem ofG_range (g : G) : 0 ≤ ofG g ∧ ofG g < 256 := by
  have := g.isLt
  unfold ofG; omega
theorem toG_ofG (g : G) : toG (ofG g) = g := by
  unfold toG ofG
  rw [BitVec.ofInt_natCast, BitVec.ofNat_toNat]; simp
theorem ofG_toG {z : Int} (h0 : 0 ≤ z) (h1 : z < 256) : ofG (toG z) = z := by
  obtain ⟨n, rfl⟩ := Int.eq_ofNat_of_zero_le h0
  unfold toG ofG
  rw [BitVec.ofInt_natCast, BitVec.toNat_ofNat]
  omega
theorem ofG_inj {a b : G} (h : ofG a = ofG b) : a = b := by
  have := congrArg toG h
  rwa [toG_ofG, toG_ofG] at this
theorem toG_inj {a b : Int} (a0 : 0 ≤ a) (a1 : a < 256) (b0 : 0 ≤ b) (b1 : b < 256) (h : toG a = toG b) : a = b := by
  rw [← ofG_toG a0 a1, ← ofG_toG b0 b1, h]
theorem toG_zero : toG 0 = 0#8 := rfl
theorem ofG_zero : ofG 0#8 = 0 := rfl
theorem ofG_one : ofG 1#8 = 1 := rfl
theorem toG_eq_zero {a : Int} (a0 : 0 ≤ a) (a1 : a < 256) : toG a = 0#8 ↔ a = 0 :=
  ⟨fun h => toG_inj a0 a1 (by omega) (by omega) h, fun h => by rw [h]; rfl⟩
/-- exclusive or is the sum -/
theorem bits_xor (a b : Int) : Go.bits .xor .u8 a b = ofG (toG a ^^^ toG b) := by
  have h := (BitVec.ofInt 8 a ^^^ BitVec.ofInt 8 b).isLt
  unfold Go.bits ofG toG
  rw [IntKind.wrap_u8]
  show (((BitVec.ofInt 8 a ^^^ BitVec.ofInt 8 b).toNat : Nat) : Int) % 256 = _
  omega

theorem t3_all : ∀ g : G, t3 (ofG g) = ofG (mul g 3#8) := by decide +kernel
def three : G := 3#8
/-- the powers of 3 -/
theorem pw_pow (n : Nat) : pw n = ofG (pow three n) := by
  induction n with
  | zero => rfl
  | succ n ih => show t3 (pw n) = _; rw [ih, t3_all]; rfl
theorem pow_add (a : G) (m n : Nat) : pow a (m + n) = mul (pow a m) (pow a n) := by
  induction n with
  | zero => rw [Nat.add_zero]; show _ = mul _ 1#8; rw [mul_one]
  | succ n ih => rw [← Nat.add_assoc]; show mul (pow a (m + n)) a = mul _ (mul _ _); rw [ih, mul_assoc]
theorem pow_mul (a : G) (m n : Nat) : pow a (m * n) = pow (pow a m) n := by
  induction n with
  | zero => rfl
  | succ n ih => rw [Nat.mul_succ, pow_add, ih]; rfl
theorem pow_one (a : G) : pow a 1 = a := one_mul a
theorem one_pow (n : Nat) : pow 1#8 n = 1#8 := by
  induction n with
  | zero => rfl
  | succ n ih => show mul (pow 1#8 n) 1#8 = _; rw [ih]; rfl
theorem zero_pow (n : Nat) (h : 0 < n) : pow 0#8 n = 0#8 := by
  obtain ⟨m, rfl⟩ : ∃ m, n = m + 1 := ⟨n - 1, by omega⟩
  exact mul_zero _
theorem three_255 : pow three 255 = 1#8 := by decide +kernel
theorem pow_mod (n : Nat) : pow three (n % 255) = pow three n := by
  have h : n = 255 * (n / 255) + n % 255 := (Nat.div_add_mod n 255).symm
  conv => rhs; rw [h]
  rw [pow_add, pow_mul, three_255, one_pow, one_mul]
/-- the first powers -/
def pws : Nat → G → List G | 0, _ => [] | n + 1, a => a :: pws n (mul a three)
theorem pws_mem {a : G} : ∀ {n : Nat} {x : G}, x ∈ pws n a → ∃ m, m < n ∧ x = mul a (pow three m)
  | 0, x, h => by cases h
  | n + 1, x, h => by
    rcases List.mem_cons.1 h with rfl | h
    · exact ⟨0, by omega, (mul_one _).symm⟩
    · obtain ⟨m, hm, rfl⟩ := pws_mem h
      exact ⟨m + 1, by omega, by show mul (mul a three) _ = mul a (mul _ _); rw [mul_assoc, mul_comm three]⟩
theorem all_pws : ∀ g : G, g ≠ 0#8 → g ∈ pws 255 1#8 := by decide +kernel
theorem exists_pow {g : G} (h : g ≠ 0#8) : ∃ m, m < 255 ∧ pow three m = g := by
  obtain ⟨m, hm, e⟩ := pws_mem (all_pws g h)
  exact ⟨m, hm, by rw [e, one_mul]⟩
theorem lg_spec {n : Nat} {a : Int} (h : ∃ m, m < n ∧ pw m = a) : ∃ k : Nat, lg n a = k ∧ k < n ∧ pw k = a := by
  induction n with
  | zero => obtain ⟨m, hm, _⟩ := h; omega
  | succ n ih =>
    simp only [lg]
    by_cases e : pw n = a
    · exact ⟨n, by rw [if_pos e], by omega, e⟩
    · rw [if_neg e]
      obtain ⟨m, hm, hp⟩ := h
      have : m ≠ n := fun h => e (by rw [← h]; exact hp)
      obtain ⟨k, h1, h2, h3⟩ := ih ⟨m, by omega, hp⟩
      exact ⟨k, h1, by omega, h3⟩
/-- the exponent of an element -/
def gl (a : Int) : Int := lg 255 a
theorem gl_spec {a : Int} (a0 : 0 ≤ a) (a1 : a < 256) (hne : a ≠ 0) : ∃ k : Nat, gl a = k ∧ k < 255 ∧ pow three k = toG a := by
  obtain ⟨m, hm, hp⟩ := exists_pow (g := toG a) (fun h => hne ((toG_eq_zero a0 a1).1 h))
  obtain ⟨k, h1, h2, h3⟩ := lg_spec (n := 255) (a := a) ⟨m, hm, by rw [pw_pow, hp, ofG_toG a0 a1]⟩
  exact ⟨k, h1, h2, by rw [pw_pow] at h3; rw [← h3, toG_ofG]⟩
def isB (a : Int) : Prop := 0 ≤ a ∧ a < 256
instance (a : Int) : Decidable (isB a) := inferInstanceAs (Decidable (_ ∧ _))
/-- product, inverse, power -/
def gm (a b : Int) : Int := ofG (mul (toG a) (toG b))
def gi (a : Int) : Int := ofG (inv (toG a))
def gp (a : Int) (n : Nat) : Int := ofG (pow (toG a) n)
theorem gm_zero {a b : Int} (h : a = 0 ∨ b = 0) : gm a b = 0 := by
  unfold gm
  rcases h with rfl | rfl
  · rw [toG_zero, zero_mul]; rfl
  · rw [toG_zero, mul_zero]; rfl
theorem mul_of_table {a b : Int} (ha : isB a) (hb : isB b) (h1 : a ≠ 0) (h2 : b ≠ 0) : pw ((lg 255 a + lg 255 b).toNat % 255) = gm a b := by
  obtain ⟨k, e1, k1, p1⟩ := gl_spec ha.1 ha.2 h1
  obtain ⟨l, e2, l1, p2⟩ := gl_spec hb.1 hb.2 h2
  unfold gl at e1 e2
  rw [e1, e2, pw_pow, pow_mod, show ((k : Int) + l).toNat = k + l from by omega, pow_add, p1, p2]; rfl
theorem inv_of_table {a : Int} (ha : isB a) (h1 : a ≠ 0) : pw ((255 - lg 255 a).toNat % 255) = gi a := by
  obtain ⟨k, e1, k1, p1⟩ := gl_spec ha.1 ha.2 h1
  unfold gl at e1
  rw [e1, pw_pow, pow_mod, show ((255 : Int) - k).toNat = 255 - k from by omega]
  have hne : toG a ≠ 0#8 := fun h => h1 ((toG_eq_zero ha.1 ha.2).1 h)
  have e : mul (toG a) (pow three (255 - k)) = 1#8 := by rw [← p1, ← pow_add, show k + (255 - k) = 255 from by omega, three_255]
  have : pow three (255 - k) = inv (toG a) := by
    have h2 := congrArg (mul (inv (toG a))) e
    rwa [← mul_assoc, mul_comm (inv (toG a)), mul_inv _ hne, one_mul, mul_one] at h2
  rw [this]; rfl
theorem pow_of_table {a : Int} (ha : isB a) (h1 : a ≠ 0) (n : Int) (hn : 0 ≤ n) : pw ((lg 255 a * (n % 255) % 255).toNat % 255) = gp a n.toNat := by
  obtain ⟨k, e1, k1, p1⟩ := gl_spec ha.1 ha.2 h1
  obtain ⟨m, rfl⟩ := Int.eq_ofNat_of_zero_le hn
  unfold gl at e1
  rw [e1]
  have e : ((k : Int) * ((m : Int) % 255) % 255).toNat = k * (m % 255) % 255 := by
    have : (k : Int) * ((m : Int) % 255) % 255 = ((k * (m % 255) % 255 : Nat) : Int) := by
      rw [Int.natCast_emod, Int.natCast_mul, Int.natCast_emod]; rfl
    rw [this, Int.toNat_natCast]
  rw [e, pw_pow, pow_mod, pow_mod]
  have e2 : pow three (k * (m % 255)) = pow three (k * m) := by
    rw [← pow_mod, ← pow_mod (k * m), Nat.mul_mod_mod]
  rw [e2, pow_mul, p1]; simp [gp]
theorem exp_of_table (n : Int) (h0 : 0 ≤ n) (h1 : n < 255) : pw (n.toNat % 255) = ofG (pow three n.toNat) := by rw [pw_pow, pow_mod]
end Go.Proofs.Ytemkpbekddceiaa.Hand
