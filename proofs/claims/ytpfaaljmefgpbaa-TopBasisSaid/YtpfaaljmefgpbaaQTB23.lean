/- QTB, part 23: InvRest P0. -/
import Derived.Test.YtpfaaljmefgpbaaQTB1
import Derived.Test.YtpfaaljmefgpbaaQTB2
import Derived.Test.YtpfaaljmefgpbaaQTB3
import Derived.Test.YtpfaaljmefgpbaaQTB4
import Derived.Test.YtpfaaljmefgpbaaQTB5
import Derived.Test.YtpfaaljmefgpbaaQTB8
import Derived.Test.YtpfaaljmefgpbaaQTB15
import Derived.Test.YtpfaaljmefgpbaaQTB16
import Derived.Test.YtpfaaljmefgpbaaQTB22
import Derived.Test.YtpfaaljmefgpbaaProg
import Derived.Below
import Derived.Deep.Draws
import Derived.Deep.AppendLies
import Derived.Maps.AppendAt
import Derived.OwnWalk
import Derived.Laws.BytesArg
import Derived.Laws.MakeOwn
import Derived.Laws.OwnMore
import Derived.Deep.OwnRows
import Derived.Tactics
import Derived.Lib.ConvBytes
import Derived.Laws.Slices
import Derived.WalkKit
import Derived.KernelRfl
import Derived.RowKit3
import Derived.Deep.LoopGhost
import Derived.Deep.QuietTactic
import Derived.BigQuiet
import Derived.WideLaws
import Derived.Deep.DeepCutAuto
import Derived.Deep.CutBlock
import Derived.Deep.RegionHeld3
import Derived.Laws.Rows
import Derived.Lib.AppendStr
import Derived.ArgAppend
import Derived.Laws.IdiomCopy
import Derived.OrdersHeld
import Derived.Laws.BitsLemmas
import Derived.RowKit

section
namespace Go.Proofs.Ytpfaaljmefgpbaa.Plain
open Go.Proofs.Ytpfaaljmefgpbaa.Hand Go.Proofs.Ytpfaaljmefgpbaa.GF Go.Proofs.Ytpfaaljmefgpbaa.LA Go.RowKit Go.Proofs.YtpfaaljmefgpbaaW.PrintWords Go.Proofs.YtpfaaljmefgpbaaW.PrintLast
theorem vec_append (a b : List Int) : vec (a ++ b) = cat a.length (vec a) (vec b) := funext fun k => by
  show toG ((a ++ b).getD k 0) = if k < a.length then toG (a.getD k 0) else toG (b.getD (k - a.length) 0)
  by_cases h : k < a.length
  · rw [if_pos h, List.getD_eq_getElem?_getD, List.getElem?_append_left h, List.getD_eq_getElem?_getD]
  · rw [if_neg h, List.getD_eq_getElem?_getD, List.getElem?_append_right (by omega), List.getD_eq_getElem?_getD]
theorem vec_drop (t : List Int) (n : Nat) : vec (t.drop n) = hi n (vec t) := funext fun k => by
  show toG ((t.drop n).getD k 0) = toG (t.getD (n + k) 0)
  rw [List.getD_eq_getElem?_getD, List.getElem?_drop, List.getD_eq_getElem?_getD]
theorem areB_drop {a : List Int} (ha : areB a) (n : Nat) : areB (a.drop n) := fun x h => ha x (List.mem_of_mem_drop h)
theorem wide_at (M : List (List Int)) (i : Nat) (hi : i < M.length) : (wideOf M).getD i [] = M.getD i [] ++ unitRow M.length i := by
  unfold wideOf
  rw [List.getD_eq_getElem?_getD, List.getElem?_map, List.getElem?_range hi]
  rfl
theorem wide_vec {M : List (List Int)} (hM : Fits M.length M) {i : Nat} (hi : i < M.length) : vec ((wideOf M).getD i []) = cat M.length (row (vecs M) i) (unit i) := by
  rw [wide_at M i hi, vec_append, (getD_fits hM hi).1, vecs_row]
  unfold unitRow
  rw [vec_unit hi]
theorem sorted_full {n : Nat} {p : List Nat} (h : p.Pairwise (· < ·)) (hlt : ∀ x, x ∈ p → x < n) (hl : p.length = n) {j : Nat} (hj : j < n) : p.getD j 0 = j := by
  have lower : ∀ j, j < n → j ≤ p.getD j 0 := by
    intro j
    induction j with
    | zero => intro _; exact Nat.zero_le _
    | succ j ih =>
      intro hj
      have h1 := ih (by omega)
      have h2 := pget h (show j < j + 1 by omega) (by rw [hl]; exact hj)
      omega
  have upper : ∀ m j, j + m < n → p.getD j 0 + m ≤ p.getD (j + m) 0 := by
    intro m
    induction m with
    | zero => intro j _; exact Nat.le_refl _
    | succ m ih =>
      intro j hj
      have h1 := ih j (by omega)
      have h2 := pget h (show j + m < j + (m + 1) by omega) (by rw [hl]; exact hj)
      omega
  have h1 := lower j hj
  have h2 := upper (n - 1 - j) j (by omega)
  have h3 := hlt _ (pget_mem (p := p) (i := j + (n - 1 - j)) (by omega))
  omega
theorem rk_ident (n : Nat) : rk n (ident n) = n := rk_all (ident_supp n) fun i hi => by rw [← ident_row hi]; exact .mem (row_mem (by rw [ident_length]; exact hi))
theorem hi_vz (n : Nat) : hi n vz = vz := rfl
theorem lo_vz (n : Nat) : lo n vz = vz := funext fun k => by simp [lo, vz]
theorem wide_law {M : List (List Int)} (hM : Fits M.length M) {v : V} (hv : Sp (vecs (wideOf M)) v) : lo M.length v = comb (vecs M) (hi M.length v) := by
  induction hv with
  | zero => rw [lo_vz, hi_vz, comb_vz]
  | mem h =>
    obtain ⟨i, hi, rfl⟩ := mem_row h
    rw [vecs_length, wideOf_length] at hi
    have hs : Supp M.length (row (vecs M) i) := vecs_supp hM _ (row_mem (by rw [vecs_length]; exact hi))
    rw [vecs_row, wide_vec hM hi, lo_cat hs, hi_cat, comb_unit (by rw [vecs_length]; exact hi)]
  | add _ _ iha ihb => rw [lo_va, hi_va, comb_va, iha, ihb]
  | smul c _ ih => rw [lo_vs, hi_vs, comb_vs, ih]
theorem wide_full {M : List (List Int)} (hM : Fits M.length M) : M.length ≤ rk (M.length + M.length) (vecs (wideOf M)) := by
  have h := rk_map (vecs_supp (wideOf_fits hM)) (lin_hi M.length) (m := M.length) (fun v hv => Supp.hi hv)
  have e : (vecs (wideOf M)).map (hi M.length) = ident M.length := by
    refine ext_rows (by rw [List.length_map, vecs_length, wideOf_length, ident_length]) fun i hi => ?_
    rw [List.length_map, vecs_length, wideOf_length] at hi
    rw [row_mapf (by rw [vecs_length, wideOf_length]; exact hi), ident_row hi, vecs_row, wide_vec hM hi, hi_cat]
  rw [e, rk_ident] at h
  exact h
theorem inv_spec {n : Nat} {M : List (List Int)} (hM : Fits n M) (hl : M.length = n) (hn : n ≤ 70000) :
    (rk n (vecs M) = n ∧ ∃ B, matrix_Inverse.f M = some (B, 0) ∧ B.length = n ∧ Fits n B ∧ prod (vecs B) (vecs M) = ident n) ∨ (rk n (vecs M) < n ∧ matrix_Inverse.f M = some ([], 24)) := by
  subst hl
  have hMs := vecs_supp hM
  have hW := wideOf_fits hM
  have e0 : matrix_Inverse.f M = if (redTo (wideOf M) M.length).2 < M.length then some ([], 24) else some ((redTo (wideOf M) M.length).1.map (·.drop M.length), 0) := by
    unfold matrix_Inverse.f
    have hw : M.length = (rdR M 0).length := by
      by_cases hp : 0 < M.length
      · exact (width hM hp).symm
      · have e := List.length_eq_zero_iff.1 (show M.length = 0 by omega)
        subst e; rfl
    rw [if_pos (by omega), if_neg (by rw [any_len hM]; decide), if_pos hw, if_pos ⟨hn, fun x hx => (hM x hx).2⟩]
  obtain ⟨p, hI, hS⟩ := redTo_inv hW M.length
  have hF := redTo_fits hW M.length
  rw [e0]
  generalize redTo (wideOf M) M.length = S at *
  obtain ⟨T, d⟩ := S
  dsimp only at *
  rw [wideOf_length] at hF
  have hTl : (vecs T).length = M.length := by rw [vecs_length, hF.2]
  have law : ∀ i, i < M.length → lo M.length (row (vecs T) i) = comb (vecs M) (hi M.length (row (vecs T) i)) := fun i hi => wide_law hM (hS.ge _ (.mem (row_mem (by rw [hTl]; exact hi))))
  by_cases hd : d < M.length
  · right
    rw [if_pos hd]
    refine ⟨?_, rfl⟩
    refine Nat.lt_of_le_of_ne (rk_le_cols hMs) fun hr => ?_
    have h0 : lo M.length (row (vecs T) d) = vz := funext fun k => by
      simp only [lo]
      by_cases hk : k < M.length
      · rw [if_pos hk]; exact hI.rest d (Nat.le_refl _) (by rw [hTl]; exact hd) k hk
      · rw [if_neg hk]; rfl
    have hz := free_of_full hMs (by rw [vecs_length]; exact Nat.le_refl _) hr ((law d hd).symm.trans h0)
    have hrow : row (vecs T) d = vz := funext fun k => by
      by_cases hk : k < M.length
      · exact hI.rest d (Nat.le_refl _) (by rw [hTl]; exact hd) k hk
      · by_cases hk2 : k < M.length + M.length
        · have := hz (k - M.length) (by rw [vecs_length]; omega)
          simp only [LA.hi] at this
          rw [show M.length + (k - M.length) = k by omega] at this
          exact this
        · exact vecs_supp hF.1 _ (row_mem (by rw [hTl]; exact hd)) k (by omega)
    have hT' : AllSupp (M.length + M.length) ((vecs T).eraseIdx d) := fun v hv => vecs_supp hF.1 v (List.mem_of_mem_eraseIdx hv)
    have hle : SpLe (vecs T) ((vecs T).eraseIdx d) := SpLe.of_mem fun v hv => by
      obtain ⟨i, hi, rfl⟩ := mem_row hv
      by_cases e : i = d
      · rw [e, hrow]; exact .zero
      · refine .mem (List.mem_eraseIdx_iff_getElem?.2 ⟨i, e, ?_⟩)
        unfold row
        rw [List.getD_eq_getElem?_getD, List.getElem?_eq_getElem hi]; rfl
    have h1 := wide_full hM
    have h2 := rk_congr (vecs_supp hF.1) hS
    have h3 := rk_mono hT' hle
    have h4 := rk_le_length hT'
    rw [List.length_eraseIdx, if_pos (by rw [hTl]; exact hd), hTl] at h4
    omega
  · left
    rw [if_neg hd]
    have hdn : d = M.length := by have := hI.dle; rw [hTl] at this; omega
    have hp : ∀ j, j < M.length → p.getD j 0 = j := fun j hj => sorted_full hI.inc hI.lt (by rw [← hI.len, hdn]) hj
    have hone : ∀ i, i < M.length → lo M.length (row (vecs T) i) = unit i := fun i hi => funext fun k => by
      simp only [lo, unit]
      by_cases hk : k < M.length
      · have := hI.one i k (by rw [hTl]; exact hi) (by omega)
        rw [hp k hk] at this
        rw [if_pos hk, this]
        by_cases e : i = k
        · rw [if_pos e, if_pos e.symm]
        · rw [if_neg e, if_neg (fun q => e q.symm)]
      · rw [if_neg hk, if_neg (by omega)]
    have hBl : (T.map (·.drop M.length)).length = M.length := by rw [List.length_map, hF.2]
    have hrowB : ∀ i, i < M.length → row (vecs (T.map (·.drop M.length))) i = hi M.length (row (vecs T) i) := fun i hi => by
      rw [vecs_row, vecs_row, ← vec_drop]
      congr 1
      rw [List.getD_eq_getElem?_getD, List.getElem?_map, List.getD_eq_getElem?_getD, List.getElem?_eq_getElem (by rw [hF.2]; exact hi)]
      rfl
    have hB : prod (vecs (T.map (·.drop M.length))) (vecs M) = ident M.length := by
      refine ext_rows (by rw [prod_length, vecs_length, hBl, ident_length]) fun i hi => ?_
      rw [prod_length, vecs_length, hBl] at hi
      rw [prod_row (by rw [vecs_length, hBl]; exact hi), ident_row hi, hrowB i hi, ← law i hi, hone i hi]
    refine ⟨?_, _, rfl, hBl, fun r hr => ?_, hB⟩
    · refine rk_all hMs fun i hi => ?_
      rw [← hone i hi, law i hi]
      exact comb_sp _ _
    · obtain ⟨t, ht, rfl⟩ := List.mem_map.1 hr
      have := hF.1 t ht
      exact ⟨by rw [List.length_drop, this.1]; omega, areB_drop this.2 _⟩
end Go.Proofs.Ytpfaaljmefgpbaa.Plain
end

section
namespace Go.Proofs.Ytpfaaljmefgpbaa.P
open Go.Proofs.Ytpfaaljmefgpbaa.Hand Go.RowKit Go.Proofs.YtpfaaljmefgpbaaW.PrintWords Go.Proofs.YtpfaaljmefgpbaaW.PrintLast Go.Proofs.YtpfaaljmefgpbaaW.PrintMore
attribute [local go_sem] max2_int min2_int max_two min_two max_three min_three max_four min_four   -- for this text's walks alone
set_option linter.unusedVariables false
set_option linter.unusedSimpArgs false
def errW : Option Int → Value
  | none => .nilIface
  | some c => .iface 0 (.int .i64 c)
theorem errW_none : errW none = .nilIface := rfl
theorem errW_some (c : Int) : errW (some c) = .iface 0 (.int .i64 c) := rfl
theorem info5 : (Try.prog.info? 5).map (fun i => (i.zero, i.size, i.bytes)) = some (some (.int .u8 0), 1, 1) := by kernel_rfl
theorem info22 : (Try.prog.info? 22).map (fun i => (i.zero, i.size, i.bytes)) = some (some (.slice none 0 0), 1, 24) := by kernel_rfl
-- the values' own types
def rd_L1 (xs : List (List Int)) (i : Int) : (List Int) := xs.getD i.toNat ([] : List Int)
theorem at_L1 {w : World} {A : Option Addr} {n : Nat} {xs : List (List Int)} (h : Kd.C (Kd.slice 5 (Kd.int .u8)) w A n xs) (i : Int) (h0 : 0 ≤ i) (h1 : i < n) : ∃ ad A0 c0, A = some ad ∧ w.cell? (ad.add i.toNat) = some (.slice A0 (rd_L1 xs i).length c0) ∧ (rd_L1 xs i).length ≤ c0 ∧ (Kd.int .u8).C w A0 (rd_L1 xs i).length (rd_L1 xs i) := by
  obtain ⟨ad, c, e, _, hK, hc0⟩ := Kd.C_get h ([] : List Int) i h0 h1
  have hc : ∀ j u, c[j]? = some u → w.cell? (ad.add (i.toNat * 1 + j)) = some u := hc0
  obtain ⟨A0, c0, rfl, l0, g0⟩ := hK
  exact ⟨ad, A0, c0, e, by have hq := hc 0 _ rfl; rwa [Nat.mul_one, Nat.add_zero] at hq, l0, g0⟩
end Go.Proofs.Ytpfaaljmefgpbaa.P
end
