/- Elimination keeps spans and leaves reduced rows; the rank of some rows. -/
import Derived.Test.YtpipmhofekfkgaaLA
namespace Go.Proofs.Ytpipmhofekfkgaa.LA
open Go.Proofs.Ytpipmhofekfkgaa.GF

def Supp (n : Nat) (v : V) : Prop := ∀ k, n ≤ k → v k = 0#8
def AllSupp (n : Nat) (l : List V) : Prop := ∀ v, v ∈ l → Supp n v
theorem Supp.zero (n : Nat) : Supp n vz := fun _ _ => rfl
theorem Supp.add {n : Nat} {u v : V} (h : Supp n u) (k : Supp n v) : Supp n (va u v) := fun i hi => by simp only [va]; rw [h i hi, k i hi]; simp
theorem Supp.smul {n : Nat} {v : V} (c : G) (h : Supp n v) : Supp n (vs c v) := fun i hi => by simp only [vs]; rw [h i hi, mul_zero]
theorem Sp.supp {n : Nat} {l : List V} (h : AllSupp n l) {v : V} (hv : Sp l v) : Supp n v := by
  induction hv with
  | zero => exact .zero n
  | mem hv => exact h _ hv
  | add _ _ h1 h2 => exact h1.add h2
  | smul c _ h1 => exact h1.smul c
theorem AllSupp.append {n : Nat} {l m : List V} (h : AllSupp n l) (k : AllSupp n m) : AllSupp n (l ++ m) :=
  fun v hv => (List.mem_append.1 hv).elim (h v) (k v)
theorem AllSupp.of_le {n : Nat} {l m : List V} (h : AllSupp n l) (k : SpLe m l) : AllSupp n m := fun _ hv => Sp.supp h (k _ (.mem hv))

theorem row_map {f : Nat → V} {n i : Nat} (h : i < n) : row ((List.range n).map f) i = f i := by
  unfold row
  rw [List.getD_eq_getElem?_getD, List.getElem?_map, List.getElem?_range h]; rfl

/-- what elimination has done: the first d rows are reduced in the columns below k, the others are nought there -/
structure Inv (rows : List V) (d k : Nat) (p : List Nat) : Prop where
  len : d = p.length
  dle : d ≤ rows.length
  inc : p.Pairwise (· < ·)
  lt : ∀ x, x ∈ p → x < k
  one : ∀ i j, i < rows.length → j < d → row rows i (p.getD j 0) = if i = j then 1#8 else 0#8
  low : ∀ i, i < d → ∀ x, x < p.getD i 0 → row rows i x = 0#8
  rest : ∀ i, d ≤ i → i < rows.length → ∀ x, x < k → row rows i x = 0#8

theorem Inv.start (rows : List V) : Inv rows 0 0 [] :=
  ⟨rfl, Nat.zero_le _, List.Pairwise.nil, fun _ h => by simp at h, fun _ _ _ h => by omega, fun _ h => by omega, fun _ _ _ x hx => by omega⟩

theorem Inv.pass {rows : List V} {d k : Nat} {p : List Nat} (h : Inv rows d k p) (hn : ∀ i, d ≤ i → i < rows.length → row rows i k = 0#8) : Inv rows d (k + 1) p :=
  ⟨h.len, h.dle, h.inc, fun x hx => Nat.lt_succ_of_lt (h.lt x hx), h.one, h.low, fun i h1 h2 x hx => by
    rcases Nat.lt_succ_iff_lt_or_eq.1 hx with q | q
    · exact h.rest i h1 h2 x q
    · rw [q]; exact hn i h1 h2⟩

/-- the row that is scaled; a row behind the exchange; the step -/
def pivot (rows : List V) (i k : Nat) : V := vs (inv (row rows i k)) (row rows i)
def swapped (rows : List V) (d i j : Nat) : V := if j = i then row rows d else row rows j
def step (rows : List V) (d i k : Nat) : List V :=
  (List.range rows.length).map fun j => if j = d then pivot rows i k else va (swapped rows d i j) (vs (swapped rows d i j k) (pivot rows i k))

theorem step_length (rows : List V) (d i k : Nat) : (step rows d i k).length = rows.length := by simp [step]
theorem step_row {rows : List V} {d i k j : Nat} (h : j < rows.length) : row (step rows d i k) j = if j = d then pivot rows i k else va (swapped rows d i j) (vs (swapped rows d i j k) (pivot rows i k)) := by
  unfold step; rw [row_map h]

theorem inv_mul (a : G) (h : a ≠ 0#8) : mul (inv a) a = 1#8 := by rw [mul_comm]; exact mul_inv a h

theorem step_span {rows : List V} {d i k : Nat} (hd : d < rows.length) (hi : i < rows.length) (hne : row rows i k ≠ 0#8) : SpEq rows (step rows d i k) := by
  have hp : Sp rows (pivot rows i k) := .smul _ (.mem (row_mem hi))
  have hsw : ∀ j, j < rows.length → Sp rows (swapped rows d i j) := fun j hj => by
    unfold swapped; split
    · exact .mem (row_mem hd)
    · exact .mem (row_mem hj)
  refine .of_mem (fun v hv => ?_) (fun v hv => ?_)
  · obtain ⟨j, hj, rfl⟩ := mem_row hv
    have hpn : Sp (step rows d i k) (pivot rows i k) := by
      have : row (step rows d i k) d = pivot rows i k := by rw [step_row hd, if_pos rfl]
      rw [← this]; exact .mem (row_mem (by rw [step_length]; exact hd))
    have back : ∀ j, j < rows.length → j ≠ d → Sp (step rows d i k) (swapped rows d i j) := by
      intro j hj hjd
      have e : swapped rows d i j = va (row (step rows d i k) j) (vs (swapped rows d i j k) (pivot rows i k)) := by
        rw [step_row hj, if_neg hjd, va_assoc, va_self, va_zero]
      rw [e]; exact .add (.mem (row_mem (by rw [step_length]; exact hj))) (.smul _ hpn)
    by_cases e : j = i
    · subst e
      have : row rows j = vs (row rows j k) (pivot rows j k) := by
        unfold pivot; rw [vs_vs, mul_inv _ hne, vs_one]
      rw [this]; exact .smul _ hpn
    · by_cases e2 : j = d
      · subst e2
        have := back i hi (fun h => e h.symm)
        unfold swapped at this; rwa [if_pos rfl] at this
      · have := back j hj e2
        unfold swapped at this; rwa [if_neg e] at this
  · obtain ⟨j, hj, rfl⟩ := mem_row hv
    rw [step_length] at hj
    rw [step_row hj]
    split
    · exact hp
    · exact .add (hsw j hj) (.smul _ hp)

theorem Inv.step {rows : List V} {d k i : Nat} {p : List Nat} (h : Inv rows d k p) (hdi : d ≤ i) (hi : i < rows.length) (hne : row rows i k ≠ 0#8) : Inv (LA.step rows d i k) (d + 1) (k + 1) (p ++ [k]) := by
  have hd : d < rows.length := by omega
  -- rows at or behind d, exchanged or not
  have hsw : ∀ j, d ≤ j → j < rows.length → ∃ j', d ≤ j' ∧ j' < rows.length ∧ swapped rows d i j = row rows j' := fun j h1 h2 => by
    unfold swapped; split
    · exact ⟨d, Nat.le_refl _, hd, rfl⟩
    · exact ⟨j, h1, h2, rfl⟩
  have hlow : ∀ x, x < k → pivot rows i k x = 0#8 := fun x hx => by
    show mul _ (row rows i x) = _; rw [h.rest i hdi hi x hx, mul_zero]
  have hk : pivot rows i k k = 1#8 := by show mul _ (row rows i k) = _; exact inv_mul _ hne
  have hpiv : ∀ j, j < d → pivot rows i k (p.getD j 0) = 0#8 := fun j hj => hlow _ (h.lt _ (pget_mem (by rw [← h.len]; exact hj)))
  have hpl : ∀ j, j < d → (p ++ [k]).getD j 0 = p.getD j 0 := fun j hj => by
    rw [List.getD_eq_getElem?_getD, List.getD_eq_getElem?_getD, List.getElem?_append_left (by rw [← h.len]; exact hj)]
  have hpk : (p ++ [k]).getD d 0 = k := by
    rw [List.getD_eq_getElem?_getD, h.len, List.getElem?_append_right (Nat.le_refl _)]; simp
  refine ⟨by simp [h.len], by rw [step_length]; omega, ?_, ?_, ?_, ?_, ?_⟩
  · rw [List.pairwise_append]
    refine ⟨h.inc, List.pairwise_singleton _ _, fun a ha b hb => ?_⟩
    simp only [List.mem_singleton] at hb; subst hb; exact h.lt a ha
  · intro x hx
    rcases List.mem_append.1 hx with q | q
    · have := h.lt x q; omega
    · simp only [List.mem_singleton] at q; omega
  · intro a j ha hj
    rw [step_length] at ha
    rw [step_row ha]
    rcases Nat.lt_succ_iff_lt_or_eq.1 hj with q | q
    · rw [hpl j q]
      by_cases e : a = d
      · rw [if_pos e, hpiv j q, if_neg (by omega)]
      · rw [if_neg e]
        show _ ^^^ mul _ (pivot rows i k _) = _
        rw [hpiv j q, mul_zero, BitVec.xor_zero]
        unfold swapped
        by_cases e2 : a = i
        · rw [if_pos e2, h.one d j hd q, if_neg (by omega), if_neg (by omega)]
        · rw [if_neg e2, h.one a j ha q]
    · subst q
      rw [hpk]
      by_cases e : a = j
      · rw [if_pos e, if_pos e, hk]
      · rw [if_neg e, if_neg e]
        show _ ^^^ mul _ (pivot rows i k k) = _
        rw [hk, mul_one, BitVec.xor_self]
  · intro a ha x hx
    rw [step_row (by omega)]
    rcases Nat.lt_succ_iff_lt_or_eq.1 ha with q | q
    · rw [hpl a q] at hx
      have hxk : x < k := Nat.lt_trans hx (h.lt _ (pget_mem (by rw [← h.len]; exact q)))
      rw [if_neg (by omega)]
      show _ ^^^ mul _ (pivot rows i k x) = _
      rw [hlow x hxk, mul_zero, BitVec.xor_zero]
      unfold swapped; rw [if_neg (by omega)]; exact h.low a q x hx
    · subst q; rw [hpk] at hx; rw [if_pos rfl]; exact hlow x hx
  · intro a h1 h2 x hx
    rw [step_length] at h2
    rw [step_row h2, if_neg (by omega)]
    obtain ⟨j', hj1, hj2, e⟩ := hsw a (by omega) h2
    show _ ^^^ mul (swapped rows d i a k) (pivot rows i k x) = _
    rcases Nat.lt_succ_iff_lt_or_eq.1 hx with q | q
    · rw [hlow x q, mul_zero, e, h.rest j' hj1 hj2 x q, BitVec.xor_zero]
    · subst q; rw [hk, mul_one, BitVec.xor_self]

/-- where all rows lie below k, the first d rows are the reduced rows of all -/
theorem row_take {l : List V} {d i : Nat} (h : i < d) : row (l.take d) i = row l i := by
  unfold row; rw [List.getD_eq_getElem?_getD, List.getD_eq_getElem?_getD, List.getElem?_take_of_lt h]

theorem Inv.red {rows : List V} {d k : Nat} {p : List Nat} (h : Inv rows d k p) : Red (rows.take d) p := by
  have hl : (rows.take d).length = d := by rw [List.length_take]; have := h.dle; omega
  exact ⟨by rw [hl, h.len], h.inc, fun i j hi hj => by rw [hl] at hi hj; rw [row_take hi]; exact h.one i j (by have := h.dle; omega) hj,
    fun i hi x hx => by rw [hl] at hi; rw [row_take hi]; exact h.low i hi x hx⟩

theorem Inv.span {rows : List V} {d k : Nat} {p : List Nat} (h : Inv rows d k p) (hs : AllSupp k rows) : SpEq rows (rows.take d) := by
  refine .of_mem (fun v hv => ?_) (fun v hv => .mem (List.mem_of_mem_take hv))
  obtain ⟨j, hj, rfl⟩ := mem_row hv
  by_cases e : j < d
  · rw [← row_take e]; exact .mem (row_mem (by rw [List.length_take]; omega))
  · have : row rows j = vz := funext fun x => by
      by_cases q : x < k
      · exact h.rest j (by omega) hj x q
      · exact hs _ hv x (by omega)
    rw [this]; exact .zero

theorem exists_inv (rows : List V) (k : Nat) : ∃ rows' d p, Inv rows' d k p ∧ SpEq rows rows' ∧ rows'.length = rows.length := by
  induction k with
  | zero => exact ⟨rows, 0, [], .start rows, .refl _, rfl⟩
  | succ k ih =>
    obtain ⟨r, d, p, h, hs, hl⟩ := ih
    by_cases e : ∃ i, d ≤ i ∧ i < r.length ∧ row r i k ≠ 0#8
    · obtain ⟨i, h1, h2, h3⟩ := e
      exact ⟨step r d i k, d + 1, p ++ [k], h.step h1 h2 h3, hs.trans (step_span (by omega) h2 h3), by rw [step_length, hl]⟩
    · refine ⟨r, d, p, h.pass fun i h1 h2 => Classical.byContradiction fun h3 => e ⟨i, h1, h2, h3⟩, hs, hl⟩

/-- each list of rows has a reduced form, with no more rows -/
theorem exists_red (n : Nat) (l : List V) (h : AllSupp n l) : ∃ r p, Red r p ∧ SpEq l r ∧ r.length ≤ l.length := by
  obtain ⟨rows, d, p, hi, hs, hl⟩ := exists_inv l n
  exact ⟨rows.take d, p, hi.red, hs.trans (hi.span (h.of_le hs.ge)), by rw [List.length_take]; omega⟩

/-- rows that are spanned by others are no more than these -/
theorem Red.le_length {n : Nat} {r l : List V} {p : List Nat} (h : Red r p) (hs : AllSupp n l) (hl : SpLe r l) : r.length ≤ l.length := by
  obtain ⟨s, q, k, he, hle⟩ := exists_red n l hs
  exact Nat.le_trans (h.le k (hl.trans he.le)) hle

theorem Red.lt {n : Nat} {r : List V} {p : List Nat} (h : Red r p) (hs : AllSupp n r) : ∀ x, x ∈ p → x < n := by
  intro x hx
  obtain ⟨i, hi, rfl⟩ := mem_pget hx
  have hi' : i < r.length := by rw [h.len]; exact hi
  refine Nat.lt_of_not_le fun hle => ?_
  have := hs _ (row_mem hi') _ hle
  rw [h.one i i hi' hi', if_pos rfl] at this
  exact absurd this (by decide)

theorem sorted_bound : ∀ {p : List Nat} {n : Nat}, p.Pairwise (· < ·) → (∀ x, x ∈ p → x < n) → p.length ≤ n := by
  intro p n hp h
  have := sorted_le hp (List.pairwise_lt_range (n := n)) fun x hx => List.mem_range.2 (h x hx)
  simpa using this

theorem Red.le_cols {n : Nat} {r : List V} {p : List Nat} (h : Red r p) (hs : AllSupp n r) : r.length ≤ n := by
  rw [h.len]; exact sorted_bound h.inc (h.lt hs)

/-- the rank of some rows below n -/
noncomputable def rk (n : Nat) (l : List V) : Nat := open Classical in if h : AllSupp n l then (exists_red n l h).choose.length else 0
theorem rk_eq {n : Nat} {l r : List V} {p : List Nat} (hs : AllSupp n l) (h : Red r p) (he : SpEq l r) : rk n l = r.length := by
  unfold rk; rw [dif_pos hs]
  obtain ⟨q, h2, he2, _⟩ := (exists_red n l hs).choose_spec
  exact Nat.le_antisymm (h2.le h (he2.symm.trans he).le) (h.le h2 (he.symm.trans he2).le)
theorem rk_mono {n : Nat} {l m : List V} (hm : AllSupp n m) (h : SpLe l m) : rk n l ≤ rk n m := by
  obtain ⟨r, p, hr, e, _⟩ := exists_red n m hm
  have hl := hm.of_le h
  obtain ⟨s, q, hs, e2, _⟩ := exists_red n l hl
  rw [rk_eq hm hr e, rk_eq hl hs e2]
  exact hs.le hr ((e2.ge.trans h).trans e.le)
theorem rk_congr {n : Nat} {l m : List V} (hm : AllSupp n m) (h : SpEq l m) : rk n l = rk n m :=
  Nat.le_antisymm (rk_mono hm h.le) (rk_mono (hm.of_le h.le) h.ge)
theorem rk_le_length {n : Nat} {l : List V} (hs : AllSupp n l) : rk n l ≤ l.length := by
  obtain ⟨r, p, hr, e, hl⟩ := exists_red n l hs
  rw [rk_eq hs hr e]; exact hl
theorem rk_le_cols {n : Nat} {l : List V} (hs : AllSupp n l) : rk n l ≤ n := by
  obtain ⟨r, p, hr, e, _⟩ := exists_red n l hs
  rw [rk_eq hs hr e]; exact hr.le_cols (hs.of_le e.ge)
/-- the same rank and a span within: the same span -/
theorem eq_of_rk {n : Nat} {l m : List V} (hm : AllSupp n m) (h : SpLe l m) (hr : rk n m ≤ rk n l) : SpEq l m := by
  obtain ⟨r, p, hr', e, _⟩ := exists_red n m hm
  have hl := hm.of_le h
  obtain ⟨s, q, hs, e2, _⟩ := exists_red n l hl
  rw [rk_eq hm hr' e, rk_eq hl hs e2] at hr
  exact (e2.trans (hs.eq_of_le hr' ((e2.ge.trans h).trans e.le) hr)).trans e.symm
end Go.Proofs.Ytpipmhofekfkgaa.LA
