/- The field of 256 elements, over eight bits: its sums, products, inverses and powers, and that they are those of a field. -/
namespace Go.Proofs.Ytemkpbekddceiaa.GF
abbrev G := BitVec 8

/-- twice an element -/
def xt (a : G) : G := if a.msb then (a <<< 1) ^^^ 0x1b#8 else a <<< 1

def tx (a : G) (i : Nat) : G := match i with | 0 => a | n + 1 => tx (xt a) n

def sel (c : Bool) (a : G) : G := if c then a else 0#8

/-- product: bits of b select the doublings of a -/
def mul (a b : G) : G :=
  sel (b.getLsbD 0) a ^^^ (sel (b.getLsbD 1) (tx a 1) ^^^ (sel (b.getLsbD 2) (tx a 2) ^^^ (sel (b.getLsbD 3) (tx a 3) ^^^
   (sel (b.getLsbD 4) (tx a 4) ^^^ (sel (b.getLsbD 5) (tx a 5) ^^^ (sel (b.getLsbD 6) (tx a 6) ^^^ sel (b.getLsbD 7) (tx a 7)))))))

theorem xor_left_comm (a b c : G) : a ^^^ (b ^^^ c) = b ^^^ (a ^^^ c) := by
  rw [← BitVec.xor_assoc, BitVec.xor_comm a b, BitVec.xor_assoc]

theorem xor_cancel (a b : G) : a ^^^ (a ^^^ b) = b := by
  rw [← BitVec.xor_assoc, BitVec.xor_self, BitVec.zero_xor]

theorem xt_xor (a b : G) : xt (a ^^^ b) = xt a ^^^ xt b := by
  unfold xt
  rw [BitVec.msb_xor]
  cases a.msb <;> cases b.msb <;> simp [BitVec.shiftLeft_xor_distrib, xor_left_comm, BitVec.xor_comm, BitVec.xor_assoc]

theorem xt_zero : xt 0#8 = 0#8 := by decide

theorem tx_xor (i : Nat) : ∀ a b : G, tx (a ^^^ b) i = tx a i ^^^ tx b i := by
  induction i with
  | zero => intro a b; rfl
  | succ n ih => intro a b; simp only [tx]; rw [xt_xor, ih]

theorem tx_zero (i : Nat) : tx 0#8 i = 0#8 := by
  induction i with
  | zero => rfl
  | succ n ih => simp only [tx]; rw [xt_zero, ih]

theorem sel_xor (c : Bool) (a b : G) : sel c (a ^^^ b) = sel c a ^^^ sel c b := by cases c <;> simp [sel]
theorem sel_bxor (c d : Bool) (a : G) : sel (c ^^ d) a = sel c a ^^^ sel d a := by cases c <;> cases d <;> simp [sel]

theorem add_mul (a b c : G) : mul (a ^^^ b) c = mul a c ^^^ mul b c := by
  unfold mul
  simp only [tx_xor, sel_xor]
  ac_rfl

theorem mul_add (a b c : G) : mul a (b ^^^ c) = mul a b ^^^ mul a c := by
  unfold mul
  simp only [BitVec.getLsbD_xor, sel_bxor]
  ac_rfl

theorem mul_zero (a : G) : mul a 0#8 = 0#8 := by simp [mul, sel]
theorem zero_mul (a : G) : mul 0#8 a = 0#8 := by simp [mul, sel, tx_zero]

/-- an element is its bits -/
theorem bits (a : G) : a = sel (a.getLsbD 0) 1#8 ^^^ (sel (a.getLsbD 1) 2#8 ^^^ (sel (a.getLsbD 2) 4#8 ^^^ (sel (a.getLsbD 3) 8#8 ^^^
   (sel (a.getLsbD 4) 16#8 ^^^ (sel (a.getLsbD 5) 32#8 ^^^ (sel (a.getLsbD 6) 64#8 ^^^ sel (a.getLsbD 7) 128#8)))))) := by
  revert a; decide +kernel

/-- an additive property holds if it holds of the units -/
theorem induct (p : G → Prop) (h0 : p 0#8) (hadd : ∀ a b, p a → p b → p (a ^^^ b))
    (hu : ∀ i : Fin 8, p (1#8 <<< i.val)) (a : G) : p a := by
  have hs : ∀ (c : Bool) (x : G), p x → p (sel c x) := by intro c x hx; cases c <;> simp [sel, h0, hx]
  rw [bits a]
  have h := fun i => hu i
  exact hadd _ _ (hs _ _ (h 0)) (hadd _ _ (hs _ _ (h 1)) (hadd _ _ (hs _ _ (h 2)) (hadd _ _ (hs _ _ (h 3)) (hadd _ _ (hs _ _ (h 4)) (hadd _ _ (hs _ _ (h 5)) (hadd _ _ (hs _ _ (h 6)) (hs _ _ (h 7))))))))

theorem mul_comm (a b : G) : mul a b = mul b a := by
  refine induct (fun a => mul a b = mul b a) ?_ ?_ ?_ a
  · rw [mul_zero, zero_mul]
  · intro x y hx hy; rw [add_mul, mul_add, hx, hy]
  · intro i
    refine induct (fun b => mul (1#8 <<< i.val) b = mul b (1#8 <<< i.val)) ?_ ?_ ?_ b
    · rw [mul_zero, zero_mul]
    · intro x y hx hy; rw [add_mul, mul_add, hx, hy]
    · intro j; revert i j; decide +kernel

theorem mul_assoc (a b c : G) : mul (mul a b) c = mul a (mul b c) := by
  refine induct (fun a => mul (mul a b) c = mul a (mul b c)) ?_ ?_ ?_ a
  · simp only [zero_mul]
  · intro x y hx hy; simp only [add_mul, hx, hy]
  · intro i
    refine induct (fun b => mul (mul (1#8 <<< i.val) b) c = mul (1#8 <<< i.val) (mul b c)) ?_ ?_ ?_ b
    · simp only [zero_mul, mul_zero]
    · intro x y hx hy; simp only [add_mul, mul_add, hx, hy]
    · intro j
      refine induct (fun c => mul (mul (1#8 <<< i.val) (1#8 <<< j.val)) c = mul (1#8 <<< i.val) (mul (1#8 <<< j.val) c)) ?_ ?_ ?_ c
      · simp only [mul_zero]
      · intro x y hx hy; simp only [mul_add, hx, hy]
      · intro k; revert i j k; decide +kernel

theorem mul_one (a : G) : mul a 1#8 = a := by revert a; decide +kernel
theorem one_mul (a : G) : mul 1#8 a = a := by rw [mul_comm, mul_one]

/-- powers -/
def pow (a : G) : Nat → G | 0 => 1#8 | n + 1 => mul (pow a n) a

/-- the inverse: the 254th power -/
def sq (a : G) : G := mul a a
def inv (a : G) : G :=
  let a2 := sq a; let a4 := sq a2; let a8 := sq a4; let a16 := sq a8; let a32 := sq a16; let a64 := sq a32; let a128 := sq a64
  mul a2 (mul a4 (mul a8 (mul a16 (mul a32 (mul a64 a128)))))

theorem mul_inv (a : G) (h : a ≠ 0#8) : mul a (inv a) = 1#8 := by
  revert a; decide +kernel
end Go.Proofs.Ytemkpbekddceiaa.GF
