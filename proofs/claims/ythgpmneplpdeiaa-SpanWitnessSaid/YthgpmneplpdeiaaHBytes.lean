/- Rows of bytes as vectors over the field: sums, multiples, inner products, leads. -/
import Derived.Test.YthgpmneplpdeiaaHDot
import Derived.Test.YthgpmneplpdeiaaLD
set_option linter.unusedVariables false
set_option linter.unusedSimpArgs false
namespace Go.Proofs.Ythgpmneplpdeiaa.Hand
open Go.RowKit Go.Proofs.Ythgpmneplpdeiaa.GF Go.Proofs.Ythgpmneplpdeiaa.LA

/-- a row of bytes as a vector -/
def vec (l : List Int) : V := fun j => toG (l.getD j 0)
theorem xr_ofG (a b : Int) : xr a b = ofG (toG a ^^^ toG b) := bits_xor a b
theorem xr_B (a b : Int) : isB (xr a b) := by rw [xr_ofG]; exact ofG_range _
theorem gm_B (a b : Int) : isB (gm a b) := ofG_range _
theorem toG_xr (a b : Int) : toG (xr a b) = toG a ^^^ toG b := by rw [xr_ofG, toG_ofG]
theorem toGgm (a b : Int) : toG (gm a b) = mul (toG a) (toG b) := by unfold gm; rw [toG_ofG]
theorem vec_lt {l : List Int} {j : Nat} (h : j < l.length) : vec l j = toG l[j] := by
  unfold vec; rw [List.getD_eq_getElem?_getD, List.getElem?_eq_getElem h, Option.getD_some]
theorem vec_ge {l : List Int} {j : Nat} (h : l.length ≤ j) : vec l j = 0#8 := by
  unfold vec; rw [List.getD_eq_getElem?_getD, List.getElem?_eq_none h]; rfl
theorem vec_supp (l : List Int) : Supp l.length (vec l) := fun j hj => vec_ge hj
theorem vec_ext {a b : List Int} (hl : a.length = b.length) (ha : areB a) (hb : areB b) (h : ∀ j, j < a.length → vec a j = vec b j) : a = b := by
  refine List.ext_getElem hl fun j h1 h2 => ?_
  have := h j h1
  rw [vec_lt h1, vec_lt h2] at this
  have pa := ha _ (List.getElem_mem h1)
  have pb := hb _ (List.getElem_mem h2)
  exact toG_inj pa.1 pa.2 pb.1 pb.2 this
theorem areB_nil : areB [] := fun x h => by cases h
theorem areB_cons {a : Int} {l : List Int} : areB (a :: l) ↔ isB a ∧ areB l := by simp [areB]
theorem areB_append {a b : List Int} (ha : areB a) (hb : areB b) : areB (a ++ b) := fun x h => (List.mem_append.1 h).elim (ha x) (hb x)
theorem areB_take {a : List Int} (ha : areB a) (n : Nat) : areB (a.take n) := fun x h => ha x (List.mem_of_mem_take h)
theorem areB_zeros (n : Nat) : areB (List.replicate n 0) := fun x h => by rw [List.eq_of_mem_replicate h]; exact ⟨by decide, by decide⟩
theorem areB_zip (F : Int → Int → Int) (hF : ∀ x y, isB (F x y)) (a b : List Int) : areB (List.zipWith F a b) := fun x h => by
  obtain ⟨i, hi, rfl⟩ := List.mem_iff_getElem.1 h
  rw [List.getElem_zipWith]; exact hF _ _
theorem areB_map (F : Int → Int) (hF : ∀ x, isB (F x)) (a : List Int) : areB (a.map F) := fun x h => by
  obtain ⟨y, _, rfl⟩ := List.mem_map.1 h; exact hF y
theorem areB_set {a : List Int} (ha : areB a) (i : Nat) {v : Int} (hv : isB v) : areB (a.set i v) := fun x h => (List.mem_or_eq_of_mem_set h).elim (ha x) (fun e => e ▸ hv)
theorem areB_of_wf {l : List Int} (h : ∀ x ∈ l, (Lit.int .u8 x).wf = true) : areB l := fun x hx => by
  have q := h x hx
  simp [Lit.wf, IntKind.min, IntKind.max, IntKind.bits, IntKind.signed] at q
  exact ⟨q.1, by omega⟩
theorem vec_zip (F : Int → Int → Int) (F' : G → G → G) (hF : ∀ x y, toG (F x y) = F' (toG x) (toG y)) {a b : List Int} (hl : a.length = b.length) (h0 : F' 0#8 0#8 = 0#8) : vec (List.zipWith F a b) = fun j => F' (vec a j) (vec b j) := funext fun j => by
  by_cases h : j < a.length
  · rw [vec_lt (by rw [List.length_zipWith]; omega), vec_lt h, vec_lt (by omega), List.getElem_zipWith, hF]
  · rw [vec_ge (by rw [List.length_zipWith]; omega), vec_ge (by omega), vec_ge (by omega), h0]
theorem vec_add {a b : List Int} (hl : a.length = b.length) : vec (List.zipWith xr a b) = va (vec a) (vec b) := vec_zip xr (fun x y => x ^^^ y) toG_xr hl (by decide)
theorem vec_addScaled {a b : List Int} (hl : a.length = b.length) (c : Int) : vec (List.zipWith (fun x y => xr x (gm y c)) a b) = va (vec a) (vs (toG c) (vec b)) :=
  vec_zip _ (fun x y => x ^^^ mul (toG c) y) (fun x y => by rw [toG_xr, toGgm, mul_comm]) hl (by rw [GF.mul_zero]; decide)
theorem vec_scale (a : List Int) (c : Int) : vec (a.map fun x => gm x c) = vs (toG c) (vec a) := funext fun j => by
  unfold vs
  by_cases h : j < a.length
  · rw [vec_lt (by simpa using h), vec_lt h, List.getElem_map, toGgm, mul_comm]
  · rw [vec_ge (by simpa using h), vec_ge (by omega), GF.mul_zero]
theorem vec_zeros (n : Nat) : vec (List.replicate n 0) = vz := funext fun j => by
  by_cases h : j < n
  · rw [vec_lt (by simpa using h), List.getElem_replicate]; rfl
  · rw [vec_ge (by simpa using h)]; rfl
theorem vec_unit {n i : Nat} (h : i < n) : vec ((List.replicate n 0).set i 1) = unit i := funext fun j => by
  unfold unit
  by_cases e : j = i
  · subst e; rw [if_pos rfl, vec_lt (by simpa using h), List.getElem_set_self]; rfl
  · rw [if_neg e]
    by_cases hj : j < n
    · rw [vec_lt (by simpa using hj), List.getElem_set_ne (fun q => e q.symm), List.getElem_replicate]; rfl
    · rw [vec_ge (by simpa using hj)]
theorem vec_take (a : List Int) (n : Nat) {j : Nat} (h : j < n) : vec (a.take n) j = vec a j := by
  unfold vec
  rw [List.getD_eq_getElem?_getD, List.getElem?_take_of_lt h, ← List.getD_eq_getElem?_getD]
theorem foldl_xr (l : List Int) (s : Int) : toG (l.foldl xr s) = toG s ^^^ S l.length (vec l) := by
  induction l generalizing s with
  | nil => show toG s = _ ^^^ 0#8; rw [BitVec.xor_zero]
  | cons a l ih =>
    rw [List.foldl_cons, ih, toG_xr, List.length_cons, Nat.add_comm, S_append, BitVec.xor_assoc]
    congr 2
    · show _ = 0#8 ^^^ _
      rw [BitVec.zero_xor]; rfl
    · exact S_congr fun i _ => by unfold vec; rw [Nat.add_comm, List.getD_cons_succ]
theorem foldl_B (l : List Int) (s : Int) (hs : isB s) : isB (l.foldl xr s) := by
  induction l generalizing s with
  | nil => exact hs
  | cons a l ih => exact ih _ (xr_B _ _)
theorem dot_B (a b : List Int) : isB (dotI a b) := foldl_B _ _ ⟨by decide, by decide⟩
theorem toG_dot {a b : List Int} (hl : a.length = b.length) : toG (dotI a b) = S a.length (fun j => mul (vec a j) (vec b j)) := by
  unfold dotI
  rw [foldl_xr, vec_zip gm mul toGgm hl (by decide), List.length_zipWith, ← hl, Nat.min_self]
  show 0#8 ^^^ _ = _
  rw [BitVec.zero_xor]
theorem byte_eq {a b : Int} (ha : isB a) (hb : isB b) (h : toG a = toG b) : a = b := toG_inj ha.1 ha.2 hb.1 hb.2 h
/-- the first place that is not 0 -/
theorem leadN_neg {l : List Int} (h : ∀ x ∈ l, x = 0) : leadN l = -1 := by
  unfold leadN
  rw [if_neg]
  intro q
  have h2 := List.findIdx_getElem (w := q)
  rw [h _ (List.getElem_mem q)] at h2
  cases h2
theorem leadN_pos {l : List Int} {i : Nat} (hi : i < l.length) (h1 : l[i] ≠ 0) (h2 : ∀ j (h : j < i), l[j] = 0) : leadN l = i := by
  have e : l.findIdx (fun x => x != 0) = i := (List.findIdx_eq hi).2 ⟨by simpa using h1, fun j hj => by simpa using h2 j hj⟩
  unfold leadN
  rw [e, if_pos hi]
theorem leadN_cases (l : List Int) : (leadN l = -1 ∧ ∀ x ∈ l, x = 0) ∨ ∃ i, ∃ (h : i < l.length), leadN l = (i : Int) ∧ l[i] ≠ 0 ∧ ∀ j (q : j < i), l[j] = 0 := by
  by_cases h : l.findIdx (fun x => x != 0) < l.length
  · right
    refine ⟨_, h, ?_, ?_, fun j q => ?_⟩
    · unfold leadN; rw [if_pos h]
    · simpa using List.findIdx_getElem (w := h)
    · simpa using List.not_of_lt_findIdx q
  · left
    refine ⟨by unfold leadN; rw [if_neg h], fun x hx => ?_⟩
    have := List.findIdx_eq_length.1 (Nat.le_antisymm List.findIdx_le_length (Nat.le_of_not_lt h)) x hx
    simpa using this
end Go.Proofs.Ythgpmneplpdeiaa.Hand
