/- QTB, part 25: MatPl PlBasisB HLay PL0. -/
import Derived.Test.YtpfaaljmefgpbaaQTB1
import Derived.Test.YtpfaaljmefgpbaaQTB2
import Derived.Test.YtpfaaljmefgpbaaQTB3
import Derived.Test.YtpfaaljmefgpbaaQTB4
import Derived.Test.YtpfaaljmefgpbaaQTB5
import Derived.Test.YtpfaaljmefgpbaaQTB8
import Derived.Test.YtpfaaljmefgpbaaQTB20
import Derived.Test.YtpfaaljmefgpbaaQTB21
import Derived.Test.YtpfaaljmefgpbaaQTB23
import Derived.Test.YtpfaaljmefgpbaaQTB24
import Derived.Test.YtpfaaljmefgpbaaProg
import Derived.Below
import Derived.Deep.Draws
import Derived.Deep.AppendLies
import Derived.Maps.AppendAt
import Derived.OwnWalk
import Derived.Laws.BytesArg
import Derived.Laws.MakeOwn
import Derived.Laws.OwnMore
import Derived.Deep.OwnRows
import Derived.Tactics
import Derived.Lib.ConvBytes
import Derived.Laws.Slices
import Derived.WalkKit
import Derived.KernelRfl
import Derived.RowKit3
import Derived.Deep.LoopGhost
import Derived.Deep.QuietTactic
import Derived.BigQuiet
import Derived.WideLaws
import Derived.Deep.DeepCutAuto
import Derived.Deep.CutBlock
import Derived.Deep.RegionHeld3
import Derived.Laws.Rows
import Derived.Lib.AppendStr
import Derived.ArgAppend
import Derived.Laws.IdiomCopy
import Derived.OrdersHeld
import Derived.Laws.BitsLemmas
import Derived.RowKit

section
namespace Go.Proofs.Ytpfaaljmefgpbaa.Plain
open Go.Proofs.Ytpfaaljmefgpbaa.Hand Go.Proofs.Ytpfaaljmefgpbaa.GF Go.Proofs.Ytpfaaljmefgpbaa.LA Go.RowKit Go.Proofs.Ytpfaaljmefgpbaa.P Go.Proofs.YtpfaaljmefgpbaaW.PrintWords Go.Proofs.YtpfaaljmefgpbaaW.PrintLast
theorem comb_cons (v : V) (l : List V) (c : Nat → G) : comb (v :: l) c = va (vs (c 0) v) (comb l fun j => c (j + 1)) := funext fun k => by
  unfold comb va vs
  rw [List.length_cons, Nat.add_comm, S_append]
  congr 1
  · show 0#8 ^^^ _ = _
    rw [BitVec.zero_xor]; rfl
  · exact S_congr fun i _ => by rw [Nat.add_comm]; rfl
theorem rd_L1_nat (l : List (List Int)) (i : Nat) (h : i < l.length) : rd_L1 l (i : Int) = l[i] := by
  unfold rd_L1; rw [Int.toNat_natCast, List.getD_eq_getElem?_getD, List.getElem?_eq_getElem h, Option.getD_some]
theorem rd_L1_getD (l : List (List Int)) (i : Nat) : rd_L1 l (i : Int) = l.getD i [] := by
  unfold rd_L1; rw [Int.toNat_natCast]
theorem rd_at (l : List Int) (i : Nat) (h : i < l.length) : rd l (i : Int) = l[i] := by
  rw [rd_nat, List.getD_eq_getElem?_getD, List.getElem?_eq_getElem h, Option.getD_some]
theorem combine_loop {n : Nat} (l : List (List Int)) (c : List Int) (hr : ∀ r ∈ l, r.length = n ∧ areB r) (hc : c.length = l.length) (hB : areB c) (hn : n ≤ vN) (hl : l.length < 9223372036854775807) (d : Nat) :
    ∀ (i k : Nat) (acc : List Int), acc.length = n → areB acc → i + d = l.length → d < k →
      ∃ out, vector_Combine.l0 k l c acc (l.length : Int) i = some (out, 0) ∧ out.length = n ∧ areB out ∧ vec out = va (vec acc) (comb ((l.drop i).map vec) fun j => vec c (i + j)) := by
  induction d with
  | zero =>
    intro i k acc h1 h2 h3 h4
    obtain ⟨k, rfl⟩ : ∃ m, k = m + 1 := ⟨k - 1, by omega⟩
    refine ⟨acc, ?_, h1, h2, ?_⟩
    · simp only [vector_Combine.l0]
      rw [if_neg (by omega)]
    · rw [List.drop_of_length_le (by omega)]
      exact (va_zero _).symm
  | succ d ih =>
    intro i k acc h1 h2 h3 h4
    obtain ⟨k, rfl⟩ : ∃ m, k = m + 1 := ⟨k - 1, by omega⟩
    have hi : i < l.length := by omega
    have hri := hr _ (List.getElem_mem hi)
    have hci := hB _ (List.getElem_mem (show i < c.length by omega))
    have hz : acc.length = (l[i]).length := by omega
    have ha : vector_AddScaled.f acc l[i] (c[i]'(by omega)) = some (List.zipWith (fun x y => xr x (gm y (c[i]'(by omega)))) acc l[i], 0) := by
      unfold vector_AddScaled.f
      rw [if_pos hz, if_pos ⟨by omega, hri.2, hci⟩]
    obtain ⟨out, g1, g2, g3, g4⟩ := ih (i + 1) k _ (show (List.zipWith (fun x y => xr x (gm y (c[i]'(by omega)))) acc l[i]).length = n by rw [List.length_zipWith]; omega) (areB_zip _ (fun x y => xr_B _ _) _ _) (by omega) (by omega)
    refine ⟨out, ?_, g2, g3, ?_⟩
    · simp only [vector_Combine.l0]
      rw [if_pos (by omega), if_pos (by omega), if_pos (by omega), if_pos (by omega), rd_L1_nat l i hi, rd_at c i (by omega), ha, Option.bind_some, if_pos rfl, show wrap64 ((i : Int) + 1) = ((i + 1 : Nat) : Int) from by unfold wrap64; omega]
      exact g1
    · rw [g4, vec_addScaled hz, List.drop_eq_getElem_cons hi, List.map_cons, comb_cons, va_assoc]
      congr 2
      · rw [Nat.add_zero, vec_lt (by omega)]
      · rw [show (fun j => vec c (i + 1 + j)) = fun j => vec c (i + (j + 1)) from funext fun j => by rw [show i + 1 + j = i + (j + 1) from by omega]]
theorem combine_f {n : Nat} (l : List (List Int)) (c : List Int) (hr : Fits n l) (h0 : 0 < l.length) (hc : c.length = l.length) (hB : areB c) (hn : n ≤ vN) (hl : l.length < 9223372036854775807) (k : Nat) (hk : l.length < k) :
    ∃ out, vector_Combine.f k l c = some (out, 0) ∧ out.length = n ∧ areB out ∧ vec out = comb (vecs l) (vec c) := by
  obtain ⟨out, g1, g2, g3, g4⟩ := combine_loop l c hr hc hB hn hl l.length 0 k (List.replicate n 0) (by simp) (areB_zeros n) (by omega) hk
  refine ⟨out, ?_, g2, g3, ?_⟩
  · have hz : (rd_L1 l 0).length = n := by
      rw [show (0 : Int) = ((0 : Nat) : Int) from rfl, rd_L1_nat l 0 h0]
      exact (hr _ (List.getElem_mem h0)).1
    unfold vector_Combine.f
    unfold vN at hn
    rw [if_neg (by omega), if_pos (by omega), if_pos (by omega), if_pos (by omega), hz, if_pos (by omega), Int.toNat_natCast]
    exact g1
  · rw [g4, List.drop_zero, vec_zeros, va_comm, va_zero]
    congr 1
    funext j
    rw [Nat.zero_add]
def Fit1 (c : Nat) (r : List Int) : Prop := r.length = c ∧ areB r
theorem fits_rows {c : Nat} {L : List (List Int)} (h : ∀ j, j < L.length → Fit1 c (L.getD j [])) : Fits c L := fun r hr => by
  obtain ⟨j, hj, rfl⟩ := List.mem_iff_getElem.1 hr
  have := h j hj
  rw [List.getD_eq_getElem?_getD, List.getElem?_eq_getElem hj] at this
  exact this
theorem mul_loop {m c : Nat} (A B : List (List Int)) (hA : Fits m A) (hB : Fits c B) (hBl : B.length = m) (hm : 0 < m) (hc : c ≤ vN) (hAl : A.length < 1000000000) (hml : m < 1000000000) (d : Nat) :
    ∀ (i k : Nat) (x : List (List Int)), i + d = A.length → d + m + 1 < k → x.length = A.length → (∀ j, j < i → Fit1 c (x.getD j []) ∧ vec (x.getD j []) = comb (vecs B) (vec (A.getD j []))) →
      ∃ C, matrix_Mul.l0 k A B x (A.length : Int) i = some (C, 0) ∧ C.length = A.length ∧ ∀ j, j < A.length → Fit1 c (C.getD j []) ∧ vec (C.getD j []) = comb (vecs B) (vec (A.getD j [])) := by
  induction d with
  | zero =>
    intro i k x h1 h2 h3 h4
    obtain ⟨k, rfl⟩ : ∃ m, k = m + 1 := ⟨k - 1, by omega⟩
    refine ⟨x, ?_, h3, fun j hj => h4 j (by omega)⟩
    simp only [matrix_Mul.l0]
    rw [if_neg (by omega)]
  | succ d ih =>
    intro i k x h1 h2 h3 h4
    obtain ⟨k, rfl⟩ : ∃ m, k = m + 1 := ⟨k - 1, by omega⟩
    have hi : i < A.length := by omega
    have hAi := getD_fits hA hi
    obtain ⟨out, g1, g2, g3, g4⟩ := combine_f B (A.getD i []) hB (by omega) (by rw [hAi.1, hBl]) hAi.2 hc (by omega) k (by omega)
    obtain ⟨C, c1, c2, c3⟩ := ih (i + 1) k (x.set i out) (by omega) (by omega) (by rw [List.length_set]; exact h3) (fun j hj => by
      rw [getD_set _ _ _ _ (by omega)]
      by_cases e : j = i
      · rw [if_pos e, e]; exact ⟨⟨g2, g3⟩, g4⟩
      · rw [if_neg e]; exact h4 j (by omega))
    refine ⟨C, ?_, c2, c3⟩
    simp only [matrix_Mul.l0]
    rw [if_pos (by omega), if_pos (by omega), if_pos (by omega), rd_L1_getD, g1, Option.bind_some, if_pos (by omega), Int.toNat_natCast, show wrap64 ((i : Int) + 1) = ((i + 1 : Nat) : Int) from by unfold wrap64; omega]
    exact c1
theorem size_f {n : Nat} {L : List (List Int)} (hL : Fits n L) (hp : 0 < L.length) (hl : L.length < 1000000000) : matrix_Size.f L = some ((L.length : Int), (n : Int), 0) := by
  rw [size_ok L hl (any_len hL), width hL hp]
theorem mul_f {m c : Nat} (A B : List (List Int)) (hA : Fits m A) (hB : Fits c B) (hBl : B.length = m) (hm : 0 < m) (hc : c ≤ vN) (hAp : 0 < A.length) (hAl : A.length < 1000000000) (hml : m < 1000000000) (k : Nat) (hk : A.length + m + 3 < k) :
    ∃ C, matrix_Mul.f k A B = some (C, 0) ∧ C.length = A.length ∧ Fits c C ∧ vecs C = prod (vecs A) (vecs B) := by
  obtain ⟨k, rfl⟩ : ∃ m, k = m + 1 := ⟨k - 1, by omega⟩
  obtain ⟨C, c1, c2, c3⟩ := mul_loop A B hA hB hBl hm hc hAl hml A.length 0 k (List.replicate A.length []) (by omega) (by omega) (by simp) (fun j hj => absurd hj (by omega))
  refine ⟨C, ?_, c2, fits_rows fun j hj => (c3 j (by omega)).1, ?_⟩
  · unfold matrix_Mul.f
    rw [size_f hA hAp hAl, Option.bind_some, size_f hB (by omega) (by omega), Option.bind_some, if_pos rfl, if_pos rfl, hBl]
    simp only [matrix_Mul.j0]
    rw [if_neg (by simp), if_pos (by omega), if_pos (by omega), Option.bind_some, Int.toNat_natCast, List.length_replicate]
    exact c1
  · refine ext_rows (by rw [prod_length, vecs_length, vecs_length, c2]) fun j hj => ?_
    rw [vecs_length, c2] at hj
    rw [prod_row (by rw [vecs_length]; exact hj), vecs_row, vecs_row]
    exact (c3 j hj).2
end Go.Proofs.Ytpfaaljmefgpbaa.Plain
end

section
namespace Go.Proofs.Ytpfaaljmefgpbaa.Plain
open Go.Proofs.Ytpfaaljmefgpbaa.Hand Go.Proofs.Ytpfaaljmefgpbaa.GF Go.Proofs.Ytpfaaljmefgpbaa.LA Go.RowKit Go.Proofs.Ytpfaaljmefgpbaa.P Go.Proofs.YtpfaaljmefgpbaaW.PrintWords Go.Proofs.YtpfaaljmefgpbaaW.PrintLast
section
variable {g s : Nat} {sy C : List (List Int)}
theorem red_full {R : List (List Int)} {p : List Nat} (hR : Fits g R) (h : Red (vecs R) p) (hl : R.length = g) : vecs R = ident g := by
  have hs := vecs_supp hR
  have hp : p.length = g := by rw [← h.len, vecs_length, hl]
  have hpj : ∀ j, j < g → p.getD j 0 = j := fun j hj => sorted_full h.inc (h.lt hs) hp hj
  refine ext_rows (by rw [vecs_length, ident_length, hl]) fun i hi => ?_
  have hi' : i < g := by rw [vecs_length, hl] at hi; exact hi
  rw [ident_row hi']
  funext k
  by_cases hk : k < g
  · have := h.one i k hi (by rw [vecs_length, hl]; exact hk)
    rw [hpj k hk] at this
    rw [this]
    unfold unit
    by_cases e : i = k
    · rw [if_pos e, if_pos e.symm]
    · rw [if_neg e, if_neg (fun q => e q.symm)]
  · rw [hs _ (row_mem hi) k (by omega), unit_supp hi' k (by omega)]
theorem solved_rows (hsy : Fits s sy) (hg : sy.length = g) (hC : Fits g C) (hr : rk g (vecs C) = g) : (redRows C g).map (payL s sy) = sy := by
  obtain ⟨p, h1, h2, h3, -⟩ := redRows_spec hC
  have hl : (redRows C g).length = g := by rw [redRows_rank hC, hr]
  refine vecs_inj (pays_fits hsy _) hsy ?_
  rw [pays_vecs hsy, red_full h3 h1 hl, ← hg, ← vecs_length sy, ident_prod]
theorem solved_inverse (hsy : Fits s sy) (hg : sy.length = g) (hg0 : 0 < g) (hg6 : g ≤ 6) (hs6 : s ≤ 6) (hC : Fits g C) (hr : rk g (vecs C) = g) :
    ∃ B, matrix_Inverse.f (newTo C C.length) = some (B, 0) ∧ Fits g B ∧ B.length = g ∧ matrix_Mul.f 200 B ((newTo C C.length).map (payL s sy)) = some (sy, 0) := by
  obtain ⟨h1, h2, h3⟩ := newTo_spec hC C.length (Nat.le_refl _)
  rw [List.take_length] at h2 h3
  have hl : (newTo C C.length).length = g := h3.trans hr
  have hrk : rk g (vecs (newTo C C.length)) = g := by rw [rk_congr (vecs_supp hC) h2, hr]
  rcases inv_spec h1 hl (by omega) with ⟨-, B, b1, b2, b3, b4⟩ | ⟨q, -⟩
  · obtain ⟨X, x1, x2, x3, x4⟩ := mul_f B ((newTo C C.length).map (payL s sy)) b3 (pays_fits hsy _) (by rw [List.length_map, hl]) hg0 (by unfold vN; omega) (by omega) (by omega) (by omega) 200 (by omega)
    refine ⟨B, b1, b3, b2, ?_⟩
    rw [x1]
    have : X = sy := vecs_inj x3 hsy (by rw [x4, pays_vecs hsy, ← prod_assoc, b4, ← hg, ← vecs_length sy, ident_prod])
    rw [this]
  · omega
theorem one_by_one (hC : Fits g C) {i : Nat} (h : i < C.length) : insL (redRows (C.take i) g) (C.getD i []) = redRows (C.take (i + 1)) g := by
  rw [take_snoc h]
  exact ins_eq (take_fits hC i) (getD_fits hC h)
end
end Go.Proofs.Ytpfaaljmefgpbaa.Plain
end

section
set_option linter.unusedVariables false
set_option linter.unusedSimpArgs false
namespace Go.Proofs.Ytpfaaljmefgpbaa.Plain
open Go.Proofs.Ytpfaaljmefgpbaa.Hand Go.Proofs.Ytpfaaljmefgpbaa.GF Go.Proofs.Ytpfaaljmefgpbaa.LA Go.RowKit Go.Proofs.Ytpfaaljmefgpbaa.P Go.Proofs.YtpfaaljmefgpbaaW.PrintWords Go.Proofs.YtpfaaljmefgpbaaW.PrintLast Go.Proofs.YtpfaaljmefgpbaaW.PrintMore
def filled (l : List Int) (n : Nat) : List Int := l.take (min l.length n) ++ (List.replicate n (0 : Int)).drop (min l.length n)
theorem filled_length (l : List Int) (n : Nat) : (filled l n).length = n := by simp [filled]; omega
theorem filled_B {l : List Int} (h : areB l) (n : Nat) : areB (filled l n) := fun x hx => by
  rcases List.mem_append.1 hx with q | q
  · exact h x (List.mem_of_mem_take q)
  · exact areB_zeros n x (List.mem_of_mem_drop q)
theorem infoS_ : (Try.prog.info? 5).map (·.size) = some 1 := by kernel_rfl
theorem comb_at (n : Nat) (A0 : Option Addr) (c0 : Nat) (l0 : List (List Int)) (A1 : Option Addr) (c1 : Nat) (l1 : List Int) (r1 : List Int) (w : World) (hn0 : l0.length = n) (hn1 : l1.length = n) (hr0 : Kd.C rowK w A0 l0.length l0) (hc0 : l0.length ≤ c0) (hr1 : Kd.C (Kd.int .u8) w A1 l1.length l1) (hc1 : l1.length ≤ c1) (h : vector_Combine.f 2000 l0 l1 = some (r1, 0)) :
    Calls Try.prog 13 #[.slice A0 n c0, .slice A1 n c1] w fun e w' => ∃ v0_ : Value, e = .returned (.tuple #[v0_, .int .i64 0]) ∧ Kd.R (Kd.int .u8) 5 w' w.heap.size (fun _ => True) v0_ r1 ∧ Below w.heap.size w w' := by
  have := vector_Combine.calls 2000 A0 c0 l0 A1 c1 l1 r1 0 w hr0 hc0 hr1 hc1 h
  rw [hn0, hn1] at this
  exact this
theorem comb_pay {s : Nat} {sy : List (List Int)} (hsy : Fits s sy) (hs : s ≤ 6) (h0 : 0 < sy.length) (h6 : sy.length ≤ 6) {r : List Int} (hr : r.length = sy.length) (hB : areB r) : vector_Combine.f 2000 sy r = some (payL s sy r, 0) := by
  obtain ⟨y, y1, y2, y3, y4⟩ := combine_f sy r hsy h0 hr hB (by unfold vN; omega) (by omega) 2000 (by omega)
  rw [y1, pay_eq hsy y2 y3 y4]
def rowOf (s : Nat) (sy : List (List Int)) (n : Nat) (l : List Int) : List Int × List Int := (filled l n, payL s sy (filled l n))
theorem br_mk_n {W : World} {ok : Nat → Prop} {x : List Int × List Int} {A1 A2 : Option Addr} {c1 c2 n : Nat} (hn : x.1.length = n) (h1 : x.1.length ≤ c1) (f1 : Kd.F (Kd.int .u8) W ok A1 x.1.length x.1) (h2 : x.2.length ≤ c2) (f2 : Kd.F (Kd.int .u8) W ok A2 x.2.length x.2) : Kd.FK brK W ok x [.slice A1 n c1, .slice A2 x.2.length c2] := by
  subst hn
  exact br_mk h1 f1 h2 f2
set_option maxHeartbeats 8000000 in
set_option maxRecDepth 100000 in
theorem layRows_calls (w : World) (A0 : Option Addr) (c0 : Nat) (l0 : List (List Int)) (A1 : Option Addr) (c1 : Nat) (sy : List (List Int)) (n s : Nat) (HT : Aside0 (Kd.C rowK w A0 l0.length l0)) (CT : Aside0 (l0.length ≤ c0)) (HS : Aside0 (Kd.C rowK w A1 sy.length sy)) (CS : Aside0 (sy.length ≤ c1)) (HB : Aside0 (∀ x ∈ l0, areB x)) (hsy : Aside0 (Fits s sy)) (hn : Aside0 (sy.length = n)) (h6 : 0 < n ∧ n ≤ 6 ∧ s ≤ 6) (T : List (List Int × List Int)) (HTT : Aside0 ((l0.take 16).map (rowOf s sy n) = T)) :
    Calls Try.prog 5 #[.slice A0 l0.length c0, .slice A1 n c1] w fun e w' => ∃ v : Value, e = .returned v ∧ Kd.N brK 35 w' w.heap.size (fun j => w.heap.size ≤ j) v T ∧ Below w.heap.size w w' := by
  have infoS := Aside0.mk infoS_
  have H6 := Aside0.mk h6
  clear h6
  go_enter Try.func5, Try.ntmps5
  go_wp2
  go_loopg [6, 5] 16 (fun kq v6 v5 w' => ∃ i : Nat, v6 = .int .i64 (i : Int) ∧ Aside0 (kq + i = 16) ∧ Aside0 (i ≤ l0.length) ∧ Aside0 (Kd.N brK 35 w' w.heap.size (fun j => w.heap.size ≤ j) v5 ((l0.take i).map (rowOf s sy n))) ∧ Aside0 (Below w.heap.size w w'))
  case atStart => exact ⟨0, rfl, ⟨rfl⟩, ⟨Nat.zero_le _⟩, ⟨by rw [List.take_zero]; exact Kd.N_nil _ _ _ _ _⟩, ⟨Below.refl _ _⟩⟩
  case round =>
    obtain ⟨i, rfl, HI, HIL, HN, HW⟩ := hrel
    by_cases hi : i < l0.length
    · have p1 : (i : Int) < (l0.length : Int) := Int.ofNat_lt.2 hi
      have r1 : decide ((i : Int) < (l0.length : Int)) = true := decide_eq_true p1
      have r4 := eq_true (Int.natCast_nonneg i)
      have r5 := eq_true p1
      have r6 := eq_true hi
      by_cases h16 : i < 16
      · have t1 : decide ((i : Int) < 16) = true := decide_eq_true (by omega)
        have t2 : ((i : Int) < 16) = True := eq_true (by omega)
        have t3 := eq_true h16
        obtain ⟨ad, Ai, ci, e1, hx1, hl1, hi1⟩ := at_R HT.out (i : Int) (Int.natCast_nonneg i) p1
        have er : rdR l0 (i : Int) = l0.getD i [] := by unfold rdR; rw [Int.toNat_natCast]
        rw [er] at hx1 hl1 hi1
        rw [Int.toNat_natCast] at hx1
        replace hx1 := (HW.out.cell (World.block_lt_of_cell? _ _ hx1)).trans hx1
        have hsucc : (l0.take i).map (rowOf s sy n) ++ [rowOf s sy n (l0.getD i [])] = (l0.take (i + 1)).map (rowOf s sy n) := by
          rw [List.take_add_one, List.getElem?_eq_getElem hi, Option.toList_some, List.map_append, List.getD_eq_getElem?_getD, List.getElem?_eq_getElem hi]; rfl
        have HX1 := Aside0.mk hx1
        have LB := HB.out (l0.getD i []) (by rw [List.getD_eq_getElem?_getD, List.getElem?_eq_getElem hi]; exact List.getElem_mem hi)
        have Hi := Aside0.mk (And.intro hi h16)
        have hnx := bas_next i (by omega)
        obtain ⟨l, hl⟩ : ∃ l, l = l0.getD i [] := ⟨_, rfl⟩
        rw [← hl] at hx1 HX1 hl1 hi1 hsucc LB
        obtain ⟨row, hrow⟩ : ∃ row, row = filled l n := ⟨_, rfl⟩
        have RL := Aside0.mk (show row.length = n from by rw [hrow]; exact filled_length l n)
        have RB := Aside0.mk (show areB row from by rw [hrow]; exact filled_B LB n)
        have FC := Aside0.mk (show vector_Combine.f 2000 sy row = some (payL s sy row, 0) from comb_pay hsy.out H6.out.2.2 (by have := hn.out; have := H6.out; omega) (by have := hn.out; have := H6.out; omega) (by rw [RL.out, hn.out]) RB.out)
        obtain ⟨py, hpy⟩ : ∃ py, py = payL s sy row := ⟨_, rfl⟩
        rw [← hpy] at FC
        have hro : rowOf s sy n l = (row, py) := by rw [hpy, hrow]; rfl
        rw [hro] at hsucc
        have HSU := Aside0.mk hsucc
        have HROW := Aside0.mk (show l.take (min l.length n) ++ (List.replicate n (0 : Int)).drop (min l.length n) = row from hrow.symm)
        have Hl := Aside0.mk (Kd.C_below hi1 HW.out)
        have LEN := Aside0.mk (show (((l0.take i).map (rowOf s sy n)).length + 1) * 48 ≤ 140737488355328 from by rw [List.length_map, List.length_take]; omega)
        have OWN := Aside0.mk (Kd.N_lt HN.out)
        have HS1 := Aside0.mk (Kd.C_below HS.out HW.out)
        subst e1
        clear p1 hi h16 er hi1 hl hrow hpy hro hsucc LB
        cases gk with
        | zero => exact absurd HI.out (by have := Hi.out; omega)
        | succ kk1 =>
        go_wp2_with (first
          | ((with_reducible refine gate_dst (N := 22) rfl ?_); refine Kd.R_make (Kd.int .u8) (w0 := wr) wr.heap.size 5 rfl (N := 22) rfl 22 _ _ rfl (n : Int) rfl rfl Try.underlying22 (.int .u8 0) 1 infoT5 rfl (by decide) (by decide) 0 (ok := fun _ => True) (okp := fun _ => True) rfl (fun _ h => h) trivial (by omega) (by have := H6.out; rw [Int.toNat_natCast]; omega) (Below.refl _ _) (Nat.le_refl _) ?_; intro v2 w2 hR2 hb2 _ _; rw [Int.toNat_natCast] at hR2; obtain ⟨Ac, cc, hv2⟩ := Kd.R_slice hR2; rw [List.length_replicate] at hv2; subst hv2; have HR2 := Aside0.mk hR2; have HB2 := Aside0.mk hb2; clear hx1; have hx1 := (hb2.cell (World.block_lt_of_cell? _ _ HX1.out)).trans HX1.out; clear hR2 hb2)
          | ((with_reducible refine gate_builtin (b := .copy) (xs := #[.tmp 23, .tmp 27]) rfl ?_); refine Kd.R_copy (enc := Value.int .u8) (0 : Int) (w0 := wr) wr.heap.size rfl (.tmp 23) (.tmp 27) 22 22 5 rfl Try.underlying22 infoS.out (.slice Ac n cc) (List.replicate n (0 : Int)) l Ai l.length ci (fun _ => True) rfl rfl HR2.out (Kd.C_below Hl.out HB2.out) HB2.out HB2.out.size ?_; intro w3 hR3 hb3 _; rw [List.length_replicate, HROW.out] at hR3; have Hrow := Aside0.mk (show Kd.C (Kd.int .u8) w3 Ac row.length row from (Kd.R_reads' hR3).2.2); have Crow := Aside0.mk (Kd.R_reads' hR3).2.1; have FR := Aside0.mk (show Kd.F (Kd.int .u8) w3 (fun j => wr.heap.size ≤ j) Ac row.length row from by have h := Kd.R_F (Kd.R_mono (Kd.R_bound hR3) (ok' := fun j => wr.heap.size ≤ j) fun k hk => hk.2.1); rw [RL.out]; exact h); have HB3 := Aside0.mk hb3; clear hR3 hb3 hx1)
          | (go_at_call 13; with_reducible refine (comb_at n A1 c1 sy Ac cc row py _ hn.out RL.out (Kd.C_below HS1.out HB3.out) CS.out Hrow.out (by rw [RL.out]; exact Crow.out) FC.out).mono ?_; rintro e w4 ⟨v_, rfl, hR_, hb⟩; obtain ⟨Ap, cp, rfl, hlp, hfp⟩ := new_F hR_; have LP := Aside0.mk hlp; have FP := Aside0.mk (Kd.F_mono hfp (ok' := fun j => wr.heap.size ≤ j) (fun j hj => Nat.le_trans HB3.out.size hj)); replace FR := Aside0.mk (Kd.F_below FR.out hb); replace HB3 := Aside0.mk (HB3.out.trans (hb.mono HB3.out.size)); clear hR_ hb hlp hfp)
          | ((with_reducible refine gate_dst (N := 39) rfl ?_); (try (refine gate_guard (by rfl) ?_; dsimp only)); refine Kd.N_lit brK (w0 := w4) w4.heap.size 35 ?hg (N' := 39) ?hd (xs := [(row, py)]) (inner := [.slice Ac n cc, .slice Ap py.length cp]) (ok := fun j => wr.heap.size ≤ j) (okp := fun j => wr.heap.size ≤ j) ?hr (reps_br (show Kd.FK brK _ _ (row, py) [.slice Ac n cc, .slice Ap py.length cp] from br_mk_n (x := (row, py)) RL.out (by rw [RL.out]; exact Crow.out) FR.out LP.out FP.out)) (fun _ h => h) HB3.out.size (Below.refl _ _) (Nat.le_refl _) (by simp) ?_; (case hd => rfl); (case hg => rfl); (case hr => first | (go_simp; done) | (go_simp; rfl)); intro v_ w5 ho_ hb _ _; obtain ⟨AL, cL, rfl⟩ := Kd.N_slice ho_; have HFL := Aside0.mk (Kd.N_F ho_); replace HB3 := Aside0.mk (HB3.out.trans (hb.mono HB3.out.size)); clear ho_ hb)
          | ((with_reducible refine gate_builtin (b := .append) (xs := #[.tmp 35, .tmp 39]) rfl ?_); at_builtin; refine Kd.N_append_rows brK (w0 := w) w.heap.size rfl (.tmp 35) (.tmp 39) 26 35 (.agg #[.slice none 0 0, .slice none 0 0]) 48 rfl Try.underlying26 infoBR rfl (show 0 < 2 by decide) (by decide) u5 ((l0.take i).map (rowOf s sy n)) [(row, py)] AL 1 cL (fun j => w.heap.size ≤ j) (fun j => wr.heap.size ≤ j) rfl rfl (Kd.N_below HN.out HB3.out) HFL.out (fun j hj => ⟨Nat.le_trans HW.out.size hj, fun e => by have := OWN.out j e.symm; omega⟩) (fun j hj => Nat.le_trans (HW.out.trans (HB3.out.mono HW.out.size)).size hj) (HW.out.trans (HB3.out.mono HW.out.size)) (HW.out.trans (HB3.out.mono HW.out.size)).size (by exact LEN.out) ?_; intro v6 w6 hN4 hb4 _ _; rw [HSU.out] at hN4; have HN4 := Aside0.mk hN4; have HW4 := Aside0.mk hb4; clear hN4 hb4))
        go_roundg kk1
        case measure => omega
        case rel => exact ⟨i + 1, by first | rfl | rw [hnx], ⟨by have := HI.out; omega⟩, ⟨by have := Hi.out; omega⟩, HN4, HW4⟩
      · have t1 : decide ((i : Int) < 16) = false := decide_eq_false (by omega)
        have t2 : ((i : Int) < 16) = False := eq_false (by omega)
        have t3 := eq_false h16
        have e : i = 16 := by have := HI.out; omega
        subst e
        rw [HTT.out] at HN
        clear hi h16 p1 r1 r4 r5 r6
        go_wp2
        all_goals (go_ret; exact ⟨_, rfl, HN.out, HW.out⟩)
    · have r1 : decide ((i : Int) < (l0.length : Int)) = false := decide_eq_false (by omega)
      have r2 := eq_false hi
      have e : i = l0.length := by have := HIL.out; omega
      have HE := Aside0.mk (show (l0.take i).map (rowOf s sy n) = T from by rw [← HTT.out, List.take_of_length_le (show l0.length ≤ i by omega), List.take_of_length_le (show l0.length ≤ 16 by have := HI.out; omega)])
      clear hi e
      go_wp2
      go_ret
      exact ⟨_, rfl, by rw [← HE.out]; exact HN.out, HW.out⟩
end Go.Proofs.Ytpfaaljmefgpbaa.Plain
end

section
namespace Go.Proofs.Ytpfaaljmefgpbaa.PL
open Go.Proofs.Ytpfaaljmefgpbaa.Hand Go.RowKit Go.Proofs.YtpfaaljmefgpbaaW.PrintWords Go.Proofs.YtpfaaljmefgpbaaW.PrintLast Go.Proofs.YtpfaaljmefgpbaaW.PrintMore
attribute [local go_sem] max2_int min2_int max_two min_two max_three min_three max_four min_four   -- for this text's walks alone
set_option linter.unusedVariables false
set_option linter.unusedSimpArgs false
def errW : Option Int → Value
  | none => .nilIface
  | some c => .iface 0 (.int .i64 c)
theorem errW_none : errW none = .nilIface := rfl
theorem errW_some (c : Int) : errW (some c) = .iface 0 (.int .i64 c) := rfl
theorem info5 : (Try.prog.info? 5).map (fun i => (i.zero, i.size, i.bytes)) = some (some (.int .u8 0), 1, 1) := by kernel_rfl
theorem info22 : (Try.prog.info? 22).map (fun i => (i.zero, i.size, i.bytes)) = some (some (.slice none 0 0), 1, 24) := by kernel_rfl
-- the values' own types
def rd_L1 (xs : List (List Int)) (i : Int) : (List Int) := xs.getD i.toNat ([] : List Int)
theorem at_L1 {w : World} {A : Option Addr} {n : Nat} {xs : List (List Int)} (h : Kd.C (Kd.slice 5 (Kd.int .u8)) w A n xs) (i : Int) (h0 : 0 ≤ i) (h1 : i < n) : ∃ ad A0 c0, A = some ad ∧ w.cell? (ad.add i.toNat) = some (.slice A0 (rd_L1 xs i).length c0) ∧ (rd_L1 xs i).length ≤ c0 ∧ (Kd.int .u8).C w A0 (rd_L1 xs i).length (rd_L1 xs i) := by
  obtain ⟨ad, c, e, _, hK, hc0⟩ := Kd.C_get h ([] : List Int) i h0 h1
  have hc : ∀ j u, c[j]? = some u → w.cell? (ad.add (i.toNat * 1 + j)) = some u := hc0
  obtain ⟨A0, c0, rfl, l0, g0⟩ := hK
  exact ⟨ad, A0, c0, e, by have hq := hc 0 _ rfl; rwa [Nat.mul_one, Nat.add_zero] at hq, l0, g0⟩
end Go.Proofs.Ytpfaaljmefgpbaa.PL
end
