/- Products of matrices, transposes, inverses, and what is square to some rows. -/
import Derived.Test.YtpipmhofekfkgaaLC
namespace Go.Proofs.Ytpipmhofekfkgaa.LA
open Go.Proofs.Ytpipmhofekfkgaa.GF

theorem comb_va (B : List V) (a b : Nat → G) : comb B (va a b) = va (comb B a) (comb B b) := funext fun k => by
  show S _ _ = S _ _ ^^^ S _ _
  rw [← S_add]; exact S_congr fun j _ => add_mul _ _ _
theorem comb_vs (B : List V) (c : G) (a : Nat → G) : comb B (vs c a) = vs c (comb B a) := funext fun k => by
  show S _ _ = mul c (S _ _)
  rw [S_mul]; exact S_congr fun j _ => mul_assoc _ _ _
theorem comb_vz (B : List V) : comb B vz = vz := funext fun _ => S_zero fun _ _ => zero_mul _
theorem lin_comb (B : List V) : Lin (comb B) := ⟨comb_vz B, comb_va B, comb_vs B⟩
theorem comb_congr {B : List V} {a b : Nat → G} (h : ∀ i, i < B.length → a i = b i) : comb B a = comb B b :=
  funext fun _ => S_congr fun i hi => by rw [h i hi]
theorem comb_supp {n : Nat} {B : List V} (h : AllSupp n B) (a : Nat → G) : Supp n (comb B a) := Sp.supp h (comb_sp B a)

/-- the product of two matrices: each row of the one by the other's rows -/
def prod (A B : List V) : List V := A.map (comb B)
theorem prod_length (A B : List V) : (prod A B).length = A.length := by simp [prod]
theorem prod_row {A B : List V} {i : Nat} (h : i < A.length) : row (prod A B) i = comb B (row A i) := row_mapf h
theorem comb_comb (B C : List V) (a : Nat → G) : comb C (comb B a) = comb (prod B C) a := funext fun k => by
  show S C.length (fun j => mul (S B.length fun i => mul (a i) (row B i j)) (row C j k)) = S (prod B C).length fun i => mul (a i) (row (prod B C) i k)
  rw [prod_length]
  have h1 : ∀ j, j < C.length → mul (S B.length fun i => mul (a i) (row B i j)) (row C j k) = S B.length fun i => mul (a i) (mul (row B i j) (row C j k)) := fun j _ => by
    rw [mul_comm, S_mul]; exact S_congr fun i _ => by rw [mul_comm, mul_assoc]
  rw [S_congr h1, S_comm]
  refine S_congr fun i hi => ?_
  rw [← S_mul, prod_row hi]; rfl
theorem prod_assoc (A B C : List V) : prod (prod A B) C = prod A (prod B C) := by
  simp only [prod, List.map_map]
  exact List.map_congr_left fun a _ => comb_comb B C a

/-- units -/
def unit (i : Nat) : V := fun k => if k = i then 1#8 else 0#8
def ident (n : Nat) : List V := (List.range n).map unit
theorem ident_length (n : Nat) : (ident n).length = n := by simp [ident]
theorem ident_row {n i : Nat} (h : i < n) : row (ident n) i = unit i := row_map h
theorem unit_supp {n i : Nat} (h : i < n) : Supp n (unit i) := fun k hk => by simp only [unit]; rw [if_neg (by omega)]
theorem ident_supp (n : Nat) : AllSupp n (ident n) := fun v hv => by
  obtain ⟨i, hi, rfl⟩ := List.mem_map.1 hv; exact unit_supp (List.mem_range.1 hi)
theorem comb_ident {n : Nat} {a : V} (h : Supp n a) : comb (ident n) a = a := funext fun k => by
  show S (ident n).length _ = _
  rw [ident_length]
  by_cases hk : k < n
  · rw [S_one hk (fun j hj hjk => by rw [ident_row hj]; simp only [unit]; rw [if_neg (fun e => hjk e.symm), mul_zero]), ident_row hk]
    simp [unit, mul_one]
  · rw [S_zero (fun j hj => by rw [ident_row hj]; simp only [unit]; rw [if_neg (by omega), mul_zero]), h k (by omega)]
theorem comb_unit {B : List V} {i : Nat} (h : i < B.length) : comb B (unit i) = row B i := funext fun k => S_delta h (fun j => row B j k)
theorem prod_ident {n : Nat} {A : List V} (h : AllSupp n A) : prod A (ident n) = A := by
  have : A.map (comb (ident n)) = A.map id := List.map_congr_left fun a ha => comb_ident (h a ha)
  unfold prod
  rw [this, List.map_id]
theorem ident_prod (B : List V) : prod (ident B.length) B = B := by
  refine List.ext_getElem (by rw [prod_length, ident_length]) fun i h1 h2 => ?_
  have h3 : i < (ident B.length).length := by rw [ident_length]; exact h2
  have := prod_row (A := ident B.length) (B := B) h3
  rw [ident_row h2, comb_unit h2] at this
  unfold row at this
  rwa [List.getD_eq_getElem?_getD, List.getD_eq_getElem?_getD, List.getElem?_eq_getElem h1, List.getElem?_eq_getElem h2] at this

/-- the ranks of a product -/
theorem rk_prod_right {n : Nat} {A B : List V} (hB : AllSupp n B) : rk n (prod A B) ≤ rk n B :=
  rk_mono hB (SpLe.of_mem fun v hv => by obtain ⟨a, _, rfl⟩ := List.mem_map.1 hv; exact comb_sp B a)
theorem rk_map {n m : Nat} {A : List V} (hA : AllSupp n A) {f : V → V} (hf : Lin f) (hs : ∀ v, Supp n v → Supp m (f v)) : rk m (A.map f) ≤ rk n A := by
  obtain ⟨r, p, hr, e, _⟩ := exists_red n A hA
  have hr2 := hA.of_le e.ge
  have h1 : AllSupp m (A.map f) := fun v hv => by obtain ⟨u, hu, rfl⟩ := List.mem_map.1 hv; exact hs _ (hA u hu)
  have h2 : AllSupp m (r.map f) := fun v hv => by obtain ⟨u, hu, rfl⟩ := List.mem_map.1 hv; exact hs _ (hr2 u hu)
  rw [rk_eq hA hr e]
  refine Nat.le_trans (rk_mono h2 (SpLe.of_mem fun v hv => ?_)) (Nat.le_trans (rk_le_length h2) (by simp))
  obtain ⟨u, hu, rfl⟩ := List.mem_map.1 hv
  exact hf.map ((e u).1 (.mem hu))
theorem rk_prod_left {n m : Nat} {A B : List V} (hA : AllSupp n A) (hB : AllSupp m B) : rk m (prod A B) ≤ rk n A :=
  rk_map hA (lin_comb B) fun _ _ => comb_supp hB _

/-- the transpose -/
def tr (n : Nat) (M : List V) : List V := (List.range n).map fun k => fun i => if i < M.length then row M i k else 0#8
theorem tr_length (n : Nat) (M : List V) : (tr n M).length = n := by simp [tr]
theorem tr_row {n k : Nat} {M : List V} (h : k < n) : row (tr n M) k = fun i => if i < M.length then row M i k else 0#8 := row_map h
theorem tr_supp (n : Nat) (M : List V) : AllSupp M.length (tr n M) := fun v hv => by
  obtain ⟨k, _, rfl⟩ := List.mem_map.1 hv
  exact fun i hi => by show (if i < M.length then _ else _) = _; rw [if_neg (by omega)]
theorem rk_tr_le {n : Nat} {M : List V} (hM : AllSupp n M) : rk M.length (tr n M) ≤ rk n M := by
  obtain ⟨r, p, hr, e, _⟩ := exists_red n M hM
  rw [rk_eq hM hr e]
  -- each row is a combination of the reduced ones; so is each column of the columns of numbers
  let c : Nat → Nat → G := fun i j => row M i (p.getD j 0)
  let C : List V := (List.range r.length).map fun j => fun i => if i < M.length then c i j else 0#8
  have hC : AllSupp M.length C := fun v hv => by
    obtain ⟨j, _, rfl⟩ := List.mem_map.1 hv
    exact fun i hi => by show (if i < M.length then _ else _) = _; rw [if_neg (by omega)]
  have hCl : C.length = r.length := by simp [C]
  refine Nat.le_trans (rk_mono hC (SpLe.of_mem fun v hv => ?_)) (Nat.le_trans (rk_le_length hC) (by rw [hCl]; exact Nat.le_refl _))
  obtain ⟨k, _, rfl⟩ := List.mem_map.1 hv
  have : (fun i => if i < M.length then row M i k else 0#8) = comb C (fun j => row r j k) := funext fun i => by
    show _ = S C.length _
    rw [hCl]
    by_cases hi : i < M.length
    · rw [if_pos hi]
      have := congrFun (hr.coord ((e _).1 (.mem (row_mem hi)))) k
      rw [this]
      refine S_congr fun j hj => ?_
      have : row C j = fun i => if i < M.length then c i j else 0#8 := row_map hj
      rw [this]
      show mul (row M i (p.getD j 0)) (row r j k) = mul (row r j k) (if i < M.length then c i j else 0#8)
      rw [if_pos hi, mul_comm]
    · rw [if_neg hi]
      refine (S_zero fun j hj => ?_).symm
      have : row C j = fun i => if i < M.length then c i j else 0#8 := row_map hj
      rw [this]
      show mul (row r j k) (if i < M.length then c i j else 0#8) = _
      rw [if_neg hi, mul_zero]
  rw [this]; exact comb_sp _ _
theorem row_ge {l : List V} {i : Nat} (h : l.length ≤ i) : row l i = vz := by
  unfold row; rw [List.getD_eq_getElem?_getD, List.getElem?_eq_none h]; rfl
theorem ext_rows {l m : List V} (hl : l.length = m.length) (h : ∀ i, i < l.length → row l i = row m i) : l = m := by
  refine List.ext_getElem hl fun i h1 h2 => ?_
  have := h i h1
  unfold row at this
  rwa [List.getD_eq_getElem?_getD, List.getD_eq_getElem?_getD, List.getElem?_eq_getElem h1, List.getElem?_eq_getElem h2] at this
theorem tr_tr {n : Nat} {M : List V} (hM : AllSupp n M) : tr M.length (tr n M) = M := by
  refine ext_rows (by rw [tr_length]) fun i hi => ?_
  rw [tr_length] at hi
  rw [tr_row hi]
  refine funext fun k => ?_
  rw [tr_length]
  by_cases hk : k < n
  · rw [if_pos hk, tr_row hk]; show (if i < M.length then row M i k else 0#8) = _; rw [if_pos hi]
  · rw [if_neg hk]; exact (hM _ (row_mem hi) k (by omega)).symm
/-- a matrix and its transpose have one rank -/
theorem rk_tr {n : Nat} {M : List V} (hM : AllSupp n M) : rk M.length (tr n M) = rk n M := by
  refine Nat.le_antisymm (rk_tr_le hM) ?_
  have := rk_tr_le (tr_supp n M)
  rwa [tr_length, tr_tr hM] at this
/-- the transpose of a product -/
theorem tr_prod {m : Nat} {A B : List V} (_hA : AllSupp B.length A) : prod (tr m B) (tr B.length A) = tr m (prod A B) := by
  refine ext_rows (by rw [prod_length, tr_length, tr_length]) fun k hk => ?_
  rw [prod_length, tr_length] at hk
  rw [prod_row (by rw [tr_length]; exact hk), tr_row hk, tr_row hk, prod_length]
  refine funext fun i => ?_
  show S (tr B.length A).length _ = _
  rw [tr_length]
  by_cases hi : i < A.length
  · rw [if_pos hi, prod_row hi]
    show _ = S B.length _
    refine S_congr fun j hj => ?_
    rw [tr_row hj]
    show mul (if j < B.length then row B j k else 0#8) (if i < A.length then row A i j else 0#8) = _
    rw [if_pos hj, if_pos hi, mul_comm]
  · rw [if_neg hi]
    refine S_zero fun j hj => ?_
    rw [tr_row hj]
    show mul _ (if i < A.length then row A i j else 0#8) = _
    rw [if_neg hi, mul_zero]

/-- n rows that span all n columns: no combination of them but the plain one is nought -/
theorem free_of_full {n : Nat} {M : List V} (hM : AllSupp n M) (hl : M.length ≤ n) (hr : rk n M = n) {c : Nat → G} (hc : comb M c = vz) : ∀ i, i < M.length → c i = 0#8 := by
  intro i hi
  refine Classical.byContradiction fun hne => ?_
  -- the i-th row is a combination of the others: they span all
  let M' := M.take i ++ M.drop (i + 1)
  have hM' : AllSupp n M' := fun v hv => hM v ((List.mem_append.1 hv).elim List.mem_of_mem_take List.mem_of_mem_drop)
  have hothers : ∀ j, j < M.length → j ≠ i → Sp M' (row M j) := fun j hj hji => by
    refine .mem ?_
    by_cases h : j < i
    · exact List.mem_append_left _ (by rw [← row_take h]; exact row_mem (by rw [List.length_take]; omega))
    · exact List.mem_append_right _ (by
        have e : row M j = row (M.drop (i + 1)) (j - (i + 1)) := by rw [row_drop]; congr 1; omega
        rw [e]; exact row_mem (by rw [List.length_drop]; omega))
  have hrow : Sp M' (row M i) := by
    have hs : Sp M' (fun k => S M.length fun j => (if j = i then vz else vs (c j) (row M j)) k) := sp_sum M.length (fun j => if j = i then vz else vs (c j) (row M j)) fun j hj => by
      by_cases h : j = i
      · rw [if_pos h]; exact .zero
      · rw [if_neg h]; exact .smul _ (hothers j hj h)
    have e : vs (c i) (row M i) = (fun k => S M.length fun j => (if j = i then vz else vs (c j) (row M j)) k) := funext fun k => by
      have h0 := congrFun hc k
      have h1 : comb M c k = S M.length (fun j => (if j = i then vs (c i) (row M i) k else 0#8) ^^^ (if j = i then vz else vs (c j) (row M j)) k) := S_congr fun j hj => by
        by_cases h : j = i
        · rw [if_pos h, if_pos h, h]; show _ = _ ^^^ 0#8; rw [BitVec.xor_zero]; rfl
        · rw [if_neg h, if_neg h]; show _ = 0#8 ^^^ _; rw [BitVec.zero_xor]; rfl
      rw [h1, S_add, S_one hi (fun j _ hj => if_neg hj), if_pos rfl] at h0
      have h2 := congrArg (vs (c i) (row M i) k ^^^ ·) h0
      simp only [xor_cancel] at h2
      rw [h2]; show _ = _ ^^^ 0#8; rw [BitVec.xor_zero]
    have h3 : row M i = vs (inv (c i)) (vs (c i) (row M i)) := by rw [vs_vs, inv_mul _ hne, vs_one]
    rw [h3, e]; exact .smul _ hs
  have hle : SpLe M M' := SpLe.of_mem fun v hv => by
    obtain ⟨j, hj, rfl⟩ := mem_row hv
    by_cases h : j = i
    · rw [h]; exact hrow
    · exact hothers j hj h
  have := rk_mono hM' hle
  have := rk_le_length hM'
  have : M'.length = M.length - 1 := by simp only [M', List.length_append, List.length_take, List.length_drop]; omega
  omega

/-- all vectors below n have rank n -/
theorem rk_all {n : Nat} {M : List V} (hM : AllSupp n M) (h : ∀ i, i < n → Sp M (unit i)) : rk n M = n := by
  have hr : Red (ident n) (List.range n) := by
    refine ⟨by simp [ident], List.pairwise_lt_range, fun i j hi hj => ?_, fun i hi k hk => ?_⟩
    · rw [ident_length] at hi hj
      rw [ident_row hi, List.getD_eq_getElem?_getD, List.getElem?_range hj]
      simp only [unit, Option.getD_some]
      by_cases e : i = j
      · rw [if_pos e.symm, if_pos e]
      · rw [if_neg (fun h => e h.symm), if_neg e]
    · rw [ident_length] at hi
      rw [List.getD_eq_getElem?_getD, List.getElem?_range hi] at hk
      simp only [Option.getD_some] at hk
      rw [ident_row hi]; simp only [unit]; rw [if_neg (by omega)]
  refine Nat.le_antisymm (rk_le_cols hM) ?_
  have h2 := rk_mono hM (l := ident n) (SpLe.of_mem fun v hv => by
    obtain ⟨i, hi, rfl⟩ := List.mem_map.1 hv; exact h i (List.mem_range.1 hi))
  rwa [rk_eq (ident_supp n) hr (SpEq.refl _), ident_length] at h2

/-- rank n: all vectors below n are spanned -/
theorem sp_of_full {n : Nat} {M : List V} (hM : AllSupp n M) (hr : rk n M = n) {v : V} (hv : Supp n v) : Sp M v := by
  have hid : rk n (ident n) = n := rk_all (ident_supp n) fun i hi => by rw [← ident_row hi]; exact .mem (row_mem (by rw [ident_length]; exact hi))
  have hle : SpLe M (ident n) := SpLe.of_mem fun u hu => by rw [← comb_ident (hM u hu)]; exact comb_sp _ _
  have := eq_of_rk (ident_supp n) hle (by rw [hr, hid]; exact Nat.le_refl _)
  exact (this v).2 (by rw [← comb_ident hv]; exact comb_sp _ _)

/-- an inverse on the left is one on the right -/
theorem inverse_right {n : Nat} {M B : List V} (hM : AllSupp n M) (hl : M.length = n) (hBl : B.length = n) (_hB : AllSupp n B) (h : prod B M = ident n) : prod M B = ident n := by
  have hfull : rk n M = n := rk_all hM fun i hi => by
    have := prod_row (A := B) (B := M) (i := i) (by omega)
    rw [h, ident_row hi] at this
    rw [this]; exact comb_sp _ _
  refine ext_rows (by rw [prod_length, ident_length, hl]) fun i hi => ?_
  rw [prod_length] at hi
  have hBs : Supp n (row (prod M B) i) := by rw [prod_row hi]; exact comb_supp _hB _
  -- the row and the unit make the same of M
  have e1 : comb M (row (prod M B) i) = row M i := by
    have : row (prod (prod M B) M) i = comb M (row (prod M B) i) := prod_row (by rw [prod_length]; exact hi)
    rw [← this, prod_assoc, h, prod_ident hM]
  have e2 : comb M (unit i) = row M i := comb_unit hi
  have hz : comb M (va (row (prod M B) i) (unit i)) = vz := by rw [comb_va, e1, e2, va_self]
  have hfree := free_of_full hM (by omega) hfull hz
  rw [ident_row (by omega)]
  refine funext fun k => ?_
  by_cases hk : k < n
  · have := hfree k (by omega)
    simp only [va] at this
    have h2 := congrArg (row (prod M B) i k ^^^ ·) this
    simp only [xor_cancel, BitVec.xor_zero] at h2
    exact h2.symm
  · rw [hBs k (by omega), unit_supp (show i < n by omega) k (by omega)]
/-- there is one inverse -/
theorem inverse_unique {n : Nat} {M B C : List V} (hM : AllSupp n M) (hl : M.length = n) (_hBl : B.length = n) (hB : AllSupp n B) (hCl : C.length = n) (hC : AllSupp n C) (h : prod B M = ident n) (k : prod C M = ident n) : B = C := by
  have h1 := inverse_right hM hl hCl hC k
  have : prod (prod B M) C = prod B (prod M C) := prod_assoc B M C
  rw [h, h1, prod_ident hB] at this
  rw [← this, ← hCl, ident_prod]

/-- products of vectors, n places -/
def dot (n : Nat) (u v : V) : G := S n fun k => mul (u k) (v k)
theorem dot_add (n : Nat) (u v w : V) : dot n (va u v) w = dot n u w ^^^ dot n v w := by
  unfold dot; rw [← S_add]; exact S_congr fun _ _ => add_mul _ _ _
theorem dot_smul (n : Nat) (c : G) (v w : V) : dot n (vs c v) w = mul c (dot n v w) := by
  unfold dot; rw [S_mul]; exact S_congr fun _ _ => mul_assoc _ _ _
theorem dot_comm (n : Nat) (u v : V) : dot n u v = dot n v u := S_congr fun _ _ => mul_comm _ _
theorem dot_vz (n : Nat) (w : V) : dot n vz w = 0#8 := S_zero fun _ _ => zero_mul _
theorem dot_sp {n : Nat} {l : List V} {w : V} (h : ∀ v, v ∈ l → dot n v w = 0#8) {v : V} (hv : Sp l v) : dot n v w = 0#8 := by
  induction hv with
  | zero => exact dot_vz n w
  | mem hv => exact h _ hv
  | add _ _ h1 h2 => rw [dot_add, h1, h2, BitVec.xor_zero]
  | smul c _ h1 => rw [dot_smul, h1, mul_zero]
theorem dot_comb (n : Nat) (l : List V) (c : Nat → G) (w : V) : dot n (comb l c) w = S l.length fun j => mul (c j) (dot n (row l j) w) := by
  show S n (fun k => mul (S l.length fun j => mul (c j) (row l j k)) (w k)) = _
  rw [S_congr (fun k (_ : k < n) => show mul (S l.length fun j => mul (c j) (row l j k)) (w k) = S l.length fun j => mul (c j) (mul (row l j k) (w k)) from by
    rw [mul_comm, S_mul]; exact S_congr fun j _ => by rw [mul_comm, mul_assoc]), S_comm]
  exact S_congr fun j _ => (S_mul _ _ _).symm

/-- all that is square to some rows -/
def Perp (n : Nat) (l : List V) (w : V) : Prop := Supp n w ∧ ∀ v, v ∈ l → dot n v w = 0#8
/-- rows that span what is square: of each place without a lead the unit, with the numbers there at the leads' places -/
structure IsSquare (n : Nat) (r : List V) (p : List Nat) (q : List V) : Prop where
  mem : ∀ w, w ∈ q → ∃ k, k < n ∧ k ∉ p ∧ w = fun x => if x = k then 1#8 else S r.length fun j => if x = p.getD j 0 then row r j k else 0#8
  all : ∀ k, k < n → k ∉ p → (fun x => if x = k then 1#8 else S r.length fun j => if x = p.getD j 0 then row r j k else 0#8) ∈ q
theorem pget_inj {p : List Nat} (h : p.Pairwise (· < ·)) {i j : Nat} (hi : i < p.length) (hj : j < p.length) (e : p.getD i 0 = p.getD j 0) : i = j := by
  rcases Nat.lt_trichotomy i j with l | l | l
  · have := pget h l hj; omega
  · exact l
  · have := pget h l hi; omega
/-- the value of such a row at a lead's place, elsewhere -/
theorem square_at {r : List V} {p : List Nat} (h : Red r p) {k j : Nat} (hk : k ∉ p) (hj : j < r.length) : (if p.getD j 0 = k then 1#8 else S r.length fun i => if p.getD j 0 = p.getD i 0 then row r i k else 0#8) = row r j k := by
  have : p.getD j 0 ≠ k := fun e => hk (by rw [← e]; exact pget_mem (by rw [← h.len]; exact hj))
  rw [if_neg this, S_one hj (fun i hi hij => if_neg fun e => hij (pget_inj h.inc (by rw [← h.len]; exact hj) (by rw [← h.len]; exact hi) e).symm), if_pos rfl]
theorem square_off {r : List V} {p : List Nat} (h : Red r p) {k x : Nat} (hx : x ∉ p) (hxk : x ≠ k) : (if x = k then 1#8 else S r.length fun i => if x = p.getD i 0 then row r i k else 0#8) = 0#8 := by
  rw [if_neg hxk]
  exact S_zero fun i hi => if_neg fun e => hx (by rw [e]; exact pget_mem (by rw [← h.len]; exact hi))
/-- a sum over all places, of what is nought but at the leads' places and at one other -/
theorem S_places {n : Nat} {p : List Nat} (hp : p.Pairwise (· < ·)) (hlt : ∀ x, x ∈ p → x < n) (f : Nat → G) (hf : ∀ x, x < n → x ∉ p → f x = 0#8) : S n f = S p.length fun j => f (p.getD j 0) := by
  obtain ⟨m, hm⟩ : ∃ m, p.length = m := ⟨_, rfl⟩
  induction m generalizing p f with
  | zero => obtain rfl := List.length_eq_zero_iff.1 hm; simp only [List.length_nil, S]; exact S_zero fun i hi => hf i hi (by simp)
  | succ m ih =>
    rcases List.eq_nil_or_concat p with rfl | ⟨p, a, rfl⟩
    · simp at hm
    simp only [List.concat_eq_append] at *
    rw [List.pairwise_append] at hp
    have ha : a < n := hlt a (by simp)
    have hna : a ∉ p := fun h => by have := hp.2.2 a h a (by simp); omega
    -- take the last one out
    have e : S n f = S n (fun x => if x = a then 0#8 else f x) ^^^ f a := by
      have h1 : S n f = S n (fun x => (if x = a then 0#8 else f x) ^^^ (if x = a then f x else 0#8)) := S_congr fun x _ => by by_cases h : x = a <;> simp [h]
      rw [h1, S_add, S_one (f := fun x => if x = a then f x else 0#8) ha (fun j _ hj => if_neg hj), if_pos rfl]
    rw [e, ih hp.1 (fun x hx => hlt x (List.mem_append_left _ hx)) _ (fun x hx hxp => by
      by_cases h : x = a
      · rw [if_pos h]
      · rw [if_neg h]; exact hf x hx (by simp [hxp, h])) (by simpa using hm)]
    rw [List.length_append, List.length_singleton]
    show _ = S p.length _ ^^^ _
    congr 1
    · refine S_congr fun j hj => ?_
      have hm := pget_mem hj
      rw [if_neg (fun e => hna (by rw [← e]; exact hm))]
      congr 1
      rw [List.getD_eq_getElem?_getD, List.getD_eq_getElem?_getD, List.getElem?_append_left hj]
    · show f a = f ((p ++ [a]).getD p.length 0)
      rw [List.getD_eq_getElem?_getD, List.getElem?_append_right (Nat.le_refl _)]; simp

theorem IsSquare.perp {n : Nat} {r q : List V} {p : List Nat} (h : Red r p) (hr : AllSupp n r) (k : IsSquare n r p q) (w : V) : Sp q w ↔ Perp n r w := by
  have hlt := h.lt hr
  constructor
  · intro hw
    refine ⟨?_, fun v hv => ?_⟩
    · refine Sp.supp (fun u hu => ?_) hw
      obtain ⟨x, hx, hxp, rfl⟩ := k.mem u hu
      intro y hy
      exact square_off h (fun hyp => by have := hlt y hyp; omega) (by omega)
    · obtain ⟨j, hj, rfl⟩ := mem_row hv
      rw [dot_comm]
      refine dot_sp (fun u hu => ?_) hw
      obtain ⟨x, hx, hxp, rfl⟩ := k.mem u hu
      -- its product with row j: row j at x, and row j at its own lead times that
      unfold dot
      have hsplit : S n (fun y => mul (if y = x then 1#8 else S r.length fun i => if y = p.getD i 0 then row r i x else 0#8) (row r j y))
          = S n (fun y => if y = x then row r j y else 0#8) ^^^ S n (fun y => if y = x then 0#8 else mul (S r.length fun i => if y = p.getD i 0 then row r i x else 0#8) (row r j y)) := by
        rw [← S_add]; exact S_congr fun y _ => by by_cases e : y = x <;> simp [e, one_mul]
      rw [hsplit, S_one (f := fun y => if y = x then row r j y else 0#8) hx (fun y _ hy => if_neg hy), if_pos rfl]
      rw [S_places h.inc hlt _ (fun y hy hyp => by
        by_cases e : y = x
        · rw [if_pos e]
        · have := square_off h (k := x) hyp e
          rw [if_neg e] at this
          rw [if_neg e, this, zero_mul])]
      rw [← h.len, S_one hj (fun i hi hij => by
        have hne : p.getD i 0 ≠ x := fun e => hxp (by rw [← e]; exact pget_mem (by rw [← h.len]; exact hi))
        rw [if_neg hne, h.one j i hj hi, if_neg (fun e => hij e.symm), mul_zero])]
      have hne : p.getD j 0 ≠ x := fun e => hxp (by rw [← e]; exact pget_mem (by rw [← h.len]; exact hj))
      have := square_at h hxp hj
      rw [if_neg hne] at this
      rw [if_neg hne, h.one j j hj hj, if_pos rfl, mul_one, this, BitVec.xor_self]
  · rintro ⟨hs, hd⟩
    -- w is the sum, over the places without a lead, of its value there times that row
    have hrep : w = fun x => S n fun y => (if y ∈ p then vz else vs (w y) (fun z => if z = y then 1#8 else S r.length fun i => if z = p.getD i 0 then row r i y else 0#8)) x := funext fun x => by
      by_cases hx : x ∈ p
      · obtain ⟨j, hj, rfl⟩ := mem_pget hx
        have hj' : j < r.length := by rw [h.len]; exact hj
        have h0 := hd _ (row_mem hj')
        -- the product with row j is nought: w there is the sum of the others
        have hx' : p.getD j 0 < n := hlt _ hx
        have e1 : dot n (row r j) w = w (p.getD j 0) ^^^ S n (fun y => if y ∈ p then 0#8 else mul (w y) (row r j y)) := by
          unfold dot
          have : S n (fun y => mul (row r j y) (w y)) = S n (fun y => (if y = p.getD j 0 then w y else 0#8) ^^^ (if y ∈ p then 0#8 else mul (w y) (row r j y))) := S_congr fun y _ => by
            by_cases e : y = p.getD j 0
            · subst e; rw [if_pos rfl, if_pos hx, h.one j j hj' hj', if_pos rfl, one_mul, BitVec.xor_zero]
            · rw [if_neg e]
              by_cases hy : y ∈ p
              · obtain ⟨i, hi, rfl⟩ := mem_pget hy
                rw [if_pos hy, h.one j i hj' (by rw [h.len]; exact hi), if_neg (fun e2 => e (by rw [e2])), zero_mul, BitVec.xor_zero]
              · rw [if_neg hy, BitVec.zero_xor, mul_comm]
          rw [this, S_add, S_one (f := fun y => if y = p.getD j 0 then w y else 0#8) hx' (fun y _ hy => if_neg hy), if_pos rfl]
        rw [e1] at h0
        have h2 := congrArg (w (p.getD j 0) ^^^ ·) h0
        simp only [xor_cancel, BitVec.xor_zero] at h2
        rw [← h2]
        refine S_congr fun y hy => ?_
        by_cases hyp : y ∈ p
        · rw [if_pos hyp, if_pos hyp]; rfl
        · rw [if_neg hyp, if_neg hyp]
          show _ = mul (w y) (if p.getD j 0 = y then 1#8 else S r.length fun i => if p.getD j 0 = p.getD i 0 then row r i y else 0#8)
          rw [square_at h hyp hj']
      · by_cases hxn : x < n
        · rw [S_one hxn (fun y hy hyx => by
            by_cases hyp : y ∈ p
            · rw [if_pos hyp]; rfl
            · rw [if_neg hyp]
              show mul (w y) (if x = y then 1#8 else S r.length fun i => if x = p.getD i 0 then row r i y else 0#8) = _
              rw [square_off h hx (fun e => hyx e.symm), mul_zero]), if_neg hx]
          show _ = mul (w x) (if x = x then 1#8 else _)
          rw [if_pos rfl, mul_one]
        · rw [hs x (by omega)]
          refine (S_zero fun y hy => ?_).symm
          by_cases hyp : y ∈ p
          · rw [if_pos hyp]; rfl
          · rw [if_neg hyp]
            show mul (w y) (if x = y then 1#8 else S r.length fun i => if x = p.getD i 0 then row r i y else 0#8) = _
            rw [square_off h hx (by omega), mul_zero]
    rw [hrep]
    refine sp_sum n (fun y => if y ∈ p then vz else vs (w y) (fun z => if z = y then 1#8 else S r.length fun i => if z = p.getD i 0 then row r i y else 0#8)) fun y hy => ?_
    by_cases hyp : y ∈ p
    · rw [if_pos hyp]; exact .zero
    · rw [if_neg hyp]; exact .smul _ (.mem (k.all y hy hyp))
/-- what is square to all that is square to rows is their span -/
theorem perp_perp {n : Nat} {r : List V} {p : List Nat} (h : Red r p) (hr : AllSupp n r) {q : List V} (k : IsSquare n r p q) (w : V) : (Supp n w ∧ ∀ v, v ∈ q → dot n v w = 0#8) ↔ Sp r w := by
  constructor
  · rintro ⟨hs, hd⟩
    have : w = comb r (fun j => w (p.getD j 0)) := funext fun x => by
      by_cases hx : x ∈ p
      · obtain ⟨j, hj, rfl⟩ := mem_pget hx
        have hj' : j < r.length := by rw [h.len]; exact hj
        show _ = S r.length _
        rw [S_one hj' (fun i hi hij => by rw [h.one i j hi hj', if_neg hij, mul_zero]), h.one j j hj' hj', if_pos rfl, mul_one]
      · by_cases hxn : x < n
        · have h0 := hd _ (k.all x hxn hx)
          unfold dot at h0
          have hsplit : S n (fun y => mul (if y = x then 1#8 else S r.length fun i => if y = p.getD i 0 then row r i x else 0#8) (w y))
              = S n (fun y => if y = x then w y else 0#8) ^^^ S n (fun y => if y = x then 0#8 else mul (S r.length fun i => if y = p.getD i 0 then row r i x else 0#8) (w y)) := by
            rw [← S_add]; exact S_congr fun y _ => by by_cases e : y = x <;> simp [e, one_mul]
          rw [hsplit, S_one (f := fun y => if y = x then w y else 0#8) hxn (fun y _ hy => if_neg hy), if_pos rfl] at h0
          rw [S_places h.inc (h.lt hr) _ (fun y hy hyp => by
            by_cases e : y = x
            · rw [if_pos e]
            · have := square_off h (k := x) hyp e
              rw [if_neg e] at this
              rw [if_neg e, this, zero_mul])] at h0
          have h2 := congrArg (w x ^^^ ·) h0
          simp only [xor_cancel, BitVec.xor_zero] at h2
          rw [← h2, ← h.len]
          refine S_congr fun j hj => ?_
          have hne : p.getD j 0 ≠ x := fun e => hx (by rw [← e]; exact pget_mem (by rw [← h.len]; exact hj))
          have := square_at h hx hj
          rw [if_neg hne] at this
          rw [if_neg hne, this, mul_comm]
        · rw [hs x (by omega)]
          exact (S_zero fun j hj => by rw [hr _ (row_mem hj) x (by omega), mul_zero]).symm
    rw [this]; exact comb_sp _ _
  · intro hw
    refine ⟨Sp.supp hr hw, fun v hv => ?_⟩
    have := ((k.perp h hr v).1 (.mem hv)).2
    rw [dot_comm]
    exact dot_sp this hw
end Go.Proofs.Ytpipmhofekfkgaa.LA
