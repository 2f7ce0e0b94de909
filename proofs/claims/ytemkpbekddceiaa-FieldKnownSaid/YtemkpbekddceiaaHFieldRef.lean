/- The reference's inverse, quotient, powers and exponents are the field's; the examples hold. -/
import Derived.Test.YtemkpbekddceiaaHRef
import Derived.Test.YtemkpbekddceiaaP2
import Derived.Test.YtemkpbekddceiaaP1
import Derived.Test.YtemkpbekddceiaaP1
set_option linter.unusedVariables false
set_option linter.unusedSimpArgs false
namespace Go.Proofs.Ytemkpbekddceiaa.Hand
open Go.RowKit Go.Proofs.Ytemkpbekddceiaa.P Go.Proofs.Ytemkpbekddceiaa.GF

theorem awake_f : braidworklaw01_awake.f = some true := by decide +kernel
theorem inv_f {a : Int} (ha : isB a) : field_Inv.f a = some (if a = 0 then (0, 1) else (gi a, 0)) := by
  unfold field_Inv.f; rw [if_pos ha]; split <;> rfl
theorem isB_gi (a : Int) : isB (gi a) := ofG_range _
theorem gm_gi {a : Int} (ha : isB a) (h : a ≠ 0) : gm a (gi a) = 1 := by
  unfold gm gi
  rw [toG_ofG, mul_inv _ (fun e => h ((toG_eq_zero ha.1 ha.2).1 e))]; rfl
theorem gm_eq_one {a b : Int} (ha : isB a) (hb : isB b) (h : gm a b = 1) : b = gi a := by
  have e : mul (toG a) (toG b) = 1#8 := by rw [← toG_gm, h]; rfl
  have hne : toG a ≠ 0#8 := fun h0 => by rw [h0, zero_mul] at e; exact absurd e (by decide)
  have h2 := congrArg (mul (inv (toG a))) e
  rw [← mul_assoc, mul_comm (inv (toG a)), mul_inv _ hne, one_mul, mul_one] at h2
  unfold gi
  rw [← h2, ofG_toG hb.1 hb.2]
theorem refinv_loop {a : Int} (ha : isB a) (d : Nat) : ∀ (i k : Nat), 1 ≤ i → i + d = 256 → d + 10 < k → (∀ j : Nat, 1 ≤ j → j < i → gm a j ≠ 1) →
    braidworkref01_Inv.l0 k a i = some (if a = 0 then (0, 1) else (gi a, 0)) := by
  induction d with
  | zero =>
    intro i k h1 hi hk hno
    obtain ⟨k, rfl⟩ : ∃ m, k = m + 1 := ⟨k - 1, by omega⟩
    simp only [braidworkref01_Inv.l0]
    rw [if_neg (by omega)]
    by_cases h0 : a = 0
    · rw [if_pos h0]
    · exfalso
      have hg := isB_gi a
      have hgne : gi a ≠ 0 := fun e => by
        have := gm_gi ha h0
        rw [e, gm_zero (.inr rfl)] at this; exact absurd this (by decide)
      obtain ⟨n, hn⟩ := Int.eq_ofNat_of_zero_le hg.1
      refine hno n ?_ ?_ (by rw [← hn]; exact gm_gi ha h0)
      · have := hg.1; omega
      · have := hg.2; omega
  | succ d ih =>
    intro i k h1 hi hk hno
    obtain ⟨k, rfl⟩ : ∃ m, k = m + 1 := ⟨k - 1, by omega⟩
    simp only [braidworkref01_Inv.l0]
    have hm : ((i : Int)) % 256 = i := by omega
    have hb : isB (i : Int) := ⟨by omega, by omega⟩
    rw [if_pos (by omega), hm, ref_mul ha hb (by omega)]
    simp only [Option.bind_some]
    by_cases h : gm a i = 1
    · rw [if_pos h]
      have h0 : a ≠ 0 := fun e => by rw [gm_zero (.inl e)] at h; exact absurd h (by decide)
      rw [if_neg h0, gm_eq_one ha hb h]
    · rw [if_neg h, show wrap64 ((i : Int) + 1) = ((i + 1 : Nat) : Int) from by unfold wrap64; omega]
      refine ih (i + 1) k (by omega) (by omega) (by omega) fun j hj1 hj2 => ?_
      by_cases e : j = i
      · rw [e]; exact h
      · exact hno j hj1 (by omega)
theorem ref_inv {a : Int} (ha : isB a) {k : Nat} (hk : 300 < k) : braidworkref01_Inv.f k a = some (if a = 0 then (0, 1) else (gi a, 0)) :=
  refinv_loop ha 255 1 k (by omega) rfl (by omega) (fun j h1 h2 => by omega)
def gd (a b : Int) : Int × Int := if b = 0 then (0, 1) else (gm a (gi b), 0)
theorem div_f {a b : Int} (ha : isB a) (hb : isB b) : field_Div.f a b = some (gd a b) := by
  unfold field_Div.f gd
  rw [inv_f hb]
  simp only [Option.bind_some]
  by_cases h : b = 0
  · rw [if_pos h, if_pos h]; rfl
  · rw [if_neg h, if_neg h]
    simp only [if_true]
    rw [mul_f ha (isB_gi b)]; rfl
theorem ref_div {a b : Int} (ha : isB a) (hb : isB b) {k : Nat} (hk : 300 < k) : braidworkref01_Div.f k a b = some (gd a b) := by
  unfold braidworkref01_Div.f gd
  rw [ref_inv hb hk]
  simp only [Option.bind_some]
  by_cases h : b = 0
  · rw [if_pos h, if_pos h]; rfl
  · rw [if_neg h, if_neg h]
    simp only [if_true]
    rw [ref_mul ha (isB_gi b) (by omega)]; rfl
def gpw (a n : Int) : Int × Int := if n < 0 then (0, 1) else (gp a n.toNat, 0)
theorem pow_f {a : Int} (ha : isB a) (n : Int) : field_Pow.f a n = some (gpw a n) := by
  unfold field_Pow.f gpw; rw [if_pos ha]; split <;> rfl
theorem isB_gp (a : Int) (n : Nat) : isB (gp a n) := ofG_range _
theorem pow_sq (a : G) (n : Nat) : pow (mul a a) n = pow a (2 * n) := by
  rw [pow_mul]; congr 1; show mul a a = mul (mul 1#8 a) a; rw [one_mul]
theorem refpow_loop (d : Nat) : ∀ (n k : Nat) (x p : G), n < 2 ^ d → n ≤ 9223372036854775807 → d + 10 < k →
    braidworkref01_Pow.l0 k (ofG x) n (ofG p) = some (ofG (mul p (pow x n)), 0) := by
  induction d with
  | zero =>
    intro n k x p hn _ hk
    obtain ⟨k, rfl⟩ : ∃ m, k = m + 1 := ⟨k - 1, by omega⟩
    obtain rfl : n = 0 := by simpa using hn
    simp only [braidworkref01_Pow.l0]
    rw [if_neg (by omega)]
    show _ = some (ofG (mul p 1#8), 0)
    rw [mul_one]
  | succ d ih =>
    intro n k x p hn hm hk
    obtain ⟨k, rfl⟩ : ∃ m, k = m + 1 := ⟨k - 1, by omega⟩
    simp only [braidworkref01_Pow.l0]
    by_cases h0 : n = 0
    · subst h0
      rw [if_neg (by omega)]
      show _ = some (ofG (mul p 1#8), 0)
      rw [mul_one]
    · have hd : wrap64 (Int.tdiv (n : Int) 2) = ((n / 2 : Nat) : Int) := by
        rw [Int.tdiv_eq_ediv_of_nonneg (Int.natCast_nonneg _)]; unfold wrap64; omega
      have h2 : n / 2 < 2 ^ d := by rw [Nat.pow_succ] at hn; omega
      rw [if_pos (by omega), hd, ref_mul (isB_ofG x) (isB_ofG x) (by omega), ref_mul (isB_ofG p) (isB_ofG x) (by omega)]
      simp only [Option.bind_some]
      have e1 : gm (ofG x) (ofG x) = ofG (mul x x) := by unfold gm; rw [toG_ofG]
      have e2 : gm (ofG p) (ofG x) = ofG (mul p x) := by unfold gm; rw [toG_ofG, toG_ofG]
      rw [e1, e2]
      have hmod : Int.tmod (n : Int) 2 = ((n % 2 : Nat) : Int) := by rw [Int.tmod_eq_emod_of_nonneg (Int.natCast_nonneg _)]; omega
      rw [hmod]
      by_cases h : n % 2 = 1
      · rw [if_pos (by omega), ih (n / 2) k _ _ h2 (by omega) (by omega), pow_sq]
        have : pow x n = mul x (pow x (2 * (n / 2))) := by
          have e : n = 2 * (n / 2) + 1 := by omega
          conv => lhs; rw [e]
          show mul (pow x _) x = _; rw [mul_comm]
        rw [this, mul_assoc]
      · rw [if_neg (by omega), ih (n / 2) k _ _ h2 (by omega) (by omega), pow_sq]
        have : 2 * (n / 2) = n := by omega
        rw [this]
theorem ref_pow {a : Int} (ha : isB a) {n : Int} (hn : n ≤ 9223372036854775807) {k : Nat} (hk : 300 < k) : braidworkref01_Pow.f k a n = some (gpw a n) := by
  unfold braidworkref01_Pow.f gpw
  by_cases h : n < 0
  · rw [if_pos h, if_pos h]
  · rw [if_neg h, if_neg h]
    obtain ⟨m, rfl⟩ := Int.eq_ofNat_of_zero_le (Int.not_lt.1 h)
    obtain ⟨x, rfl⟩ := of_isB ha
    have := refpow_loop 63 m k x 1#8 (by omega) (by omega) (by omega)
    rw [one_mul] at this
    rw [show (1 : Int) = ofG 1#8 from rfl, this]
    unfold gp; rw [toG_ofG, Int.toNat_natCast]
def gex (n : Int) : Int × Int := if n < 0 then (0, 1) else if n ≥ 255 then (0, 1) else (ofG (pow three n.toNat), 0)
theorem exp_f (n : Int) : field_Exp.f n = some (gex n) := by
  unfold field_Exp.f gex; split
  · rfl
  · split <;> rfl
theorem ref_exp {n : Int} (hn : n ≤ 9223372036854775807) {k : Nat} (hk : 300 < k) : braidworkref01_Exp.f k n = some (gex n) := by
  unfold braidworkref01_Exp.f gex
  by_cases h : n < 0
  · rw [if_pos h, if_pos h]
  · rw [if_neg h, if_neg h]
    by_cases h2 : n > 254
    · rw [if_pos h2, if_pos (by omega)]
    · rw [if_neg h2, if_neg (by omega), ref_pow (a := 3) ⟨by omega, by omega⟩ hn hk]
      simp only [Option.bind_some]
      unfold gpw
      rw [if_neg h]; rfl
def glo (a : Int) : Int × Int := if a = 0 then (0, 1) else (gl a, 0)
theorem log_f {a : Int} (ha : isB a) : field_Log.f a = some (glo a) := by
  unfold field_Log.f glo; rw [if_pos ha]; split <;> rfl
theorem pow_inj {m n : Nat} (hm : m < 255) (hn : n < 255) (h : pow three m = pow three n) : m = n := by
  have key : ∀ i : Fin 255, ∀ j : Fin 255, (pws 255 1#8)[i.val]? = (pws 255 1#8)[j.val]? → i = j := by
    have hnd : (pws 255 1#8).Nodup := by decide +kernel
    have hl : (pws 255 1#8).length = 255 := by decide +kernel
    intro i j hij
    have hi : i.val < (pws 255 1#8).length := by rw [hl]; exact i.isLt
    have hj : j.val < (pws 255 1#8).length := by rw [hl]; exact j.isLt
    rw [List.getElem?_eq_getElem hi, List.getElem?_eq_getElem hj] at hij
    exact Fin.ext ((List.getElem_inj hnd).1 (Option.some.inj hij))
  have get : ∀ (n : Nat) (i : Nat) (a : G), i < n → (pws n a)[i]? = some (mul a (pow three i)) := by
    intro n
    induction n with
    | zero => intro i a h; omega
    | succ n ih =>
      intro i a h
      cases i with
      | zero => show some a = some (mul a 1#8); rw [mul_one]
      | succ i =>
        show (pws n (mul a three))[i]? = _
        rw [ih i _ (by omega)]
        show some (mul (mul a three) _) = some (mul a (mul _ _))
        rw [mul_assoc, mul_comm three]
  have := key ⟨m, hm⟩ ⟨n, hn⟩ (by
    show (pws 255 1#8)[m]? = (pws 255 1#8)[n]?
    rw [get 255 m _ hm, get 255 n _ hn, h])
  exact congrArg Fin.val this
theorem reflog_loop {a : Int} (ha : isB a) (d : Nat) : ∀ (i k : Nat), i + d = 255 → d + 10 < k → (∀ j : Nat, j < i → ofG (pow three j) ≠ a) →
    braidworkref01_Log.l0 k a (ofG (pow three i)) i = some (glo a) := by
  induction d with
  | zero =>
    intro i k hi hk hno
    obtain ⟨k, rfl⟩ : ∃ m, k = m + 1 := ⟨k - 1, by omega⟩
    simp only [braidworkref01_Log.l0]
    rw [if_neg (by omega)]
    by_cases h0 : a = 0
    · unfold glo; rw [if_pos h0]
    · exfalso
      obtain ⟨n, _, hn, hp⟩ := gl_spec ha.1 ha.2 h0
      exact hno n (by omega) (by rw [hp, ofG_toG ha.1 ha.2])
  | succ d ih =>
    intro i k hi hk hno
    obtain ⟨k, rfl⟩ : ∃ m, k = m + 1 := ⟨k - 1, by omega⟩
    simp only [braidworkref01_Log.l0]
    rw [if_pos (by omega)]
    by_cases h : ofG (pow three i) = a
    · rw [if_pos h]
      have h0 : a ≠ 0 := fun e => by
        have hz : pow three i = 0#8 := by rw [← toG_ofG (pow three i), h, e]; rfl
        have h1 : mul (pow three i) (pow three (255 - i)) = 1#8 := by rw [← pow_add, show i + (255 - i) = 255 from by omega, three_255]
        rw [hz, zero_mul] at h1; exact absurd h1 (by decide)
      obtain ⟨n, hn0, hn, hp⟩ := gl_spec ha.1 ha.2 h0
      have : i = n := pow_inj (by omega) hn (by rw [hp, ← h, toG_ofG])
      unfold glo
      rw [if_neg h0, hn0, this]
    · rw [if_neg h, ref_mul (isB_ofG _) (b := 3) ⟨by omega, by omega⟩ (by omega)]
      simp only [Option.bind_some]
      have e : gm (ofG (pow three i)) 3 = ofG (pow three (i + 1)) := by unfold gm; rw [toG_ofG]; rfl
      rw [e, show wrap64 ((i : Int) + 1) = ((i + 1 : Nat) : Int) from by unfold wrap64; omega]
      refine ih (i + 1) k (by omega) (by omega) fun j hj => ?_
      by_cases e : j = i
      · rw [e]; exact h
      · exact hno j (by omega)
theorem ref_log {a : Int} (ha : isB a) {k : Nat} (hk : 300 < k) : braidworkref01_Log.f k a = some (glo a) :=
  reflog_loop ha 255 0 k rfl (by omega) (fun j h => by omega)
end Go.Proofs.Ytemkpbekddceiaa.Hand
